/- A slice literal of structs: the new block holds the rows' cells, which nobody reckons. -/
import Derived.Test.YtlgcboaojdhneaaK4
import Derived.Great.BuildSlice
namespace Go.Proofs.Ytlgcboaojdhneaa
open Go.RowKit

theorem wpList_build_rows {α : Type} {P : Program} (cells : α → List Value) (m : Nat) (hm : ∀ r, (cells r).length = m) (h0 : 0 < m) (l : List α) {ops : Array Oper} {rest : List Oper} {o : Oper} {a : Act} {w : World} {Q : Exit → Act → World → Prop}
    (hg : o.guard = none) (t e : TypeId) (len : Nat) (parts : Array (Nat × Operand)) (ho : o.op = .buildSlice t len parts) (ie : TypeInfo) (hu : P.underlying t = some (.slice e)) (hie : P.info? e = some ie) (hz : (ie.zero).isSome = true) (hs : ie.size = m)
    (hlen : len = l.length) (hpos : 0 < len) (hsmall : len * m ≤ 2 ^ 24)
    (hp : parts.toList.map (fun x => (x.1, a.eval x.2)) = ((l.map fun r => Value.agg (cells r).toArray).zipIdx 0).map fun x => (x.2, x.1))
    (h : ∀ k, k = w.heap.size → wpList P ops Q rest (a.put o.dst (.slice (some ⟨k, 0, none⟩) len len)) (w.alloc (.cells (l.map cells).flatten.toArray e))) : wpList P ops Q (o :: rest) a w := by
  obtain ⟨z, hzz⟩ := Option.isSome_iff_exists.1 hz
  refine Go.wpList_buildSlice hg t e len parts ho (l.map cells).flatten.toArray ie z hu hie hzz (by rw [hs]; omega) ?_ ?_ (h _ rfl)
  · rw [hs]
    exact Nat.ne_of_gt (Nat.mul_pos hpos h0)
  · rw [Array.toList_map]
    rw [show parts.toList.map (fun x : Nat × Operand => (x.1, a.eval x.2)) = _ from hp, hs]
    have := Great.fill_whole h0 (l.map fun r => Value.agg (cells r).toArray) ((Array.range (len * m)).map (z.cells[· % z.cells.size]!)) (fun v hv => by obtain ⟨r, _, rfl⟩ := List.mem_map.1 hv; simp [Value.cells, hm]) (by simp [hlen])
    rw [this]
    congr 2
    rw [List.flatMap_map, ← List.flatMap_def]
    simp [Value.cells]
/-- The same for values of one cell. -/
theorem wpList_build_vals {P : Program} (vs : List Value) (h1 : ∀ v ∈ vs, v.cells = #[v]) {ops : Array Oper} {rest : List Oper} {o : Oper} {a : Act} {w : World} {Q : Exit → Act → World → Prop}
    (hg : o.guard = none) (t e : TypeId) (len : Nat) (parts : Array (Nat × Operand)) (ho : o.op = .buildSlice t len parts) (ie : TypeInfo) (hu : P.underlying t = some (.slice e)) (hie : P.info? e = some ie) (hz : (ie.zero).isSome = true) (hs : ie.size = 1)
    (hlen : len = vs.length) (hpos : 0 < len) (hsmall : len ≤ 2 ^ 24)
    (hp : parts.toList.map (fun x => (x.1, a.eval x.2)) = (vs.zipIdx 0).map fun x => (x.2, x.1))
    (h : ∀ k, k = w.heap.size → wpList P ops Q rest (a.put o.dst (.slice (some ⟨k, 0, none⟩) len len)) (w.alloc (.cells vs.toArray e))) : wpList P ops Q (o :: rest) a w := by
  obtain ⟨z, hzz⟩ := Option.isSome_iff_exists.1 hz
  refine Go.wpList_buildSlice hg t e len parts ho vs.toArray ie z hu hie hzz (by rw [hs]; omega) (by rw [hs]; omega) ?_ (h _ rfl)
  rw [Array.toList_map]
  rw [show parts.toList.map (fun x : Nat × Operand => (x.1, a.eval x.2)) = _ from hp, hs]
  exact Great.fill_flat vs _ h1 (by simp [hlen])
end Go.Proofs.Ytlgcboaojdhneaa
