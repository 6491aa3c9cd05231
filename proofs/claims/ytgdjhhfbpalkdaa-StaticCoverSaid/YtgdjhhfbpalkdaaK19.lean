/- Expressions in boxes, as rows of nine cells; slice literals of expressions. -/
import Derived.Test.YtgdjhhfbpalkdaaC1
import Derived.Test.YtgdjhhfbpalkdaaK18
namespace Go.Proofs.Ytgdjhhfbpalkdaa
open Go.RowKit
instance (a b c d e f g h i : Value) : CsLen #[a, b, c, d, e, f, g, h, i] 9 := ⟨rfl⟩
theorem Try.infoEx9 : (Try.prog.info? 34).map (·.size) = some 9 := by kernel_rfl
instance (priority := low) (w : World) (B : Nat) (cs : Array Value) [h : BoxIs w B 34 cs] [n : CsLen cs 9] : LoadsAs w 34 ⟨B, 0, none⟩ (.agg cs) := ⟨by
  have := run_loadVar_mid (P := Try.prog) w B 0 34 cs.toList _ (range_is (by simpa using h.has)) Try.underlying34 rfl (by rw [Try.infoEx9]; simp [n.len])
  simpa using this⟩
instance (w : World) (B : Nat) (a0 a1 a2 a3 a4 a5 a6 a7 a8 : Value) [h : BoxIs w B 34 #[a0, a1, a2, a3, a4, a5, a6, a7, a8]] : BoxOf 34 9 w B := ⟨⟨_, h.has, rfl⟩⟩
instance (w : World) (B : Nat) (x : ExV) [h : BoxIs w B 34 x.cells.toArray] : BoxOf 34 9 w B := ⟨⟨_, h.has, rfl⟩⟩
@[go_sem] theorem Try.storeExBox (x : ExV) (w : World) (B : Nat) [h : BoxOf 34 9 w B] : Sem.run Try.prog (storeCells ⟨B, 0, none⟩ x.cells) w = .ok () (w.setRow B x.cells.toArray) := by
  obtain ⟨c, hc, hs⟩ := h.has
  have := run_storeVar_row (P := Try.prog) w B 34 34 c x.cells.toArray hc (by simpa using Try.infoEx x) (by rw [hs]; rfl) x.one
  cases hq : Try.prog.info? 34 with
  | none => have h1 := Try.infoEx x; rw [hq] at h1; cases h1
  | some i =>
    have hsz : x.cells.toArray.size = i.size := by have := Try.infoEx x; simp [hq] at this; simp; omega
    simpa [storeVar, sizeOf, typeInfo, hq, Value.cells, hsz] using this
/-- A new expression. -/
def RetX (X : List Nat) (d : Nat) (p : ExV → Prop) (w : World) (e : Ending) (w' : World) : Prop := ∃ x, e = .returned (.agg x.cells.toArray) ∧ p x ∧ ExK X w' d x ∧ Kept [] w w'
theorem rows_ex {w : World} {B : Nat} {l : List ExV} {ty : TypeId} (h : w.heap[B]? = some (.cells (l.map ExV.cells).flatten.toArray ty (0, 0))) : RowsAt ExV 9 ExV.cells w (some ⟨B, 0, none⟩) l := rows_block h (fun _ => rfl)
def buildE1 (a : Value) : Sem Next := do return .value (← Instr.buildSlice 31 1 #[(0, a)])
@[go_sem ↓] theorem execOp_buildE1 (ρ : Operand → Value) (dst : Option Tmp) (a : Operand) (ty : TypeId) (pos : String) (after : Array Edge) (guard : Option (Nat × Bool)) :
    execOp ρ { dst, op := .buildSlice 31 1 #[(0, a)], type := ty, pos, after, guard } = buildE1 (ρ a) := by simp [execOp, buildE1]
@[go_sem] theorem run_buildE1 (w : World) (x : ExV) : Sem.run Try.prog (buildE1 (.agg x.cells.toArray)) w =
    .ok (.value (.slice (some ⟨w.heap.size, 0, none⟩) 1 1)) (w.alloc (.cells ([x].map ExV.cells).flatten.toArray 34)) := by kernel_rfl
def buildE2 (a b : Value) : Sem Next := do return .value (← Instr.buildSlice 31 2 #[(0, a), (1, b)])
@[go_sem ↓] theorem execOp_buildE2 (ρ : Operand → Value) (dst : Option Tmp) (a b : Operand) (ty : TypeId) (pos : String) (after : Array Edge) (guard : Option (Nat × Bool)) :
    execOp ρ { dst, op := .buildSlice 31 2 #[(0, a), (1, b)], type := ty, pos, after, guard } = buildE2 (ρ a) (ρ b) := by simp [execOp, buildE2]
@[go_sem] theorem run_buildE2 (w : World) (x y : ExV) : Sem.run Try.prog (buildE2 (.agg x.cells.toArray) (.agg y.cells.toArray)) w =
    .ok (.value (.slice (some ⟨w.heap.size, 0, none⟩) 2 2)) (w.alloc (.cells ([x, y].map ExV.cells).flatten.toArray 34)) := by kernel_rfl
def buildE3 (a b c : Value) : Sem Next := do return .value (← Instr.buildSlice 31 3 #[(0, a), (1, b), (2, c)])
@[go_sem ↓] theorem execOp_buildE3 (ρ : Operand → Value) (dst : Option Tmp) (a b c : Operand) (ty : TypeId) (pos : String) (after : Array Edge) (guard : Option (Nat × Bool)) :
    execOp ρ { dst, op := .buildSlice 31 3 #[(0, a), (1, b), (2, c)], type := ty, pos, after, guard } = buildE3 (ρ a) (ρ b) (ρ c) := by simp [execOp, buildE3]
@[go_sem] theorem run_buildE3 (w : World) (x y z : ExV) : Sem.run Try.prog (buildE3 (.agg x.cells.toArray) (.agg y.cells.toArray) (.agg z.cells.toArray)) w =
    .ok (.value (.slice (some ⟨w.heap.size, 0, none⟩) 3 3)) (w.alloc (.cells ([x, y, z].map ExV.cells).flatten.toArray 34)) := by kernel_rfl
def buildAs (a : Value) : Sem Next := do return .value (← Instr.build 60 #[(1, a)])
@[go_sem ↓] theorem execOp_buildAs (ρ : Operand → Value) (dst : Option Tmp) (a : Operand) (ty : TypeId) (pos : String) (after : Array Edge) (guard : Option (Nat × Bool)) :
    execOp ρ { dst, op := .build 60 #[(1, a)], type := ty, pos, after, guard } = buildAs (ρ a) := by simp [execOp, buildAs]
def asX (x : ExV) : AsV := (none, 0, 0, x)
@[go_sem] theorem run_buildAs (w : World) (x : ExV) : Sem.run Try.prog (buildAs (.agg x.cells.toArray)) w = .ok (.value (.agg (AsV.cells (asX x)).toArray)) w := by kernel_rfl
def buildA1 (a : Value) : Sem Next := do return .value (← Instr.buildSlice 32 1 #[(0, a)])
@[go_sem ↓] theorem execOp_buildA1 (ρ : Operand → Value) (dst : Option Tmp) (a : Operand) (ty : TypeId) (pos : String) (after : Array Edge) (guard : Option (Nat × Bool)) :
    execOp ρ { dst, op := .buildSlice 32 1 #[(0, a)], type := ty, pos, after, guard } = buildA1 (ρ a) := by simp [execOp, buildA1]
@[go_sem] theorem run_buildA1 (w : World) (x : ExV) : Sem.run Try.prog (buildA1 (.agg (AsV.cells (asX x)).toArray)) w =
    .ok (.value (.slice (some ⟨w.heap.size, 0, none⟩) 1 1)) (w.alloc (.cells ([asX x].map AsV.cells).flatten.toArray 60)) := by kernel_rfl
end Go.Proofs.Ytgdjhhfbpalkdaa
