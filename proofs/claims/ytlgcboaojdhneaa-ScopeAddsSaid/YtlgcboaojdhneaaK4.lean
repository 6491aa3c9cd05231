/- Long loads as rules of the walk: what lies there is found among the instances. -/
import Derived.Test.YtlgcboaojdhneaaK2
namespace Go.Proofs.Ytlgcboaojdhneaa
open Go.RowKit

section
variable (P : Program) (x : Oper) (xs : List Oper) (a : Act) (w : World) (K : Act → World → Prop) (Q : Exit → Act → World → Prop)
@[go_sem ↓] theorem wp_get0 (h : 0 < (List.toArray (x :: xs)).size) : Oper.wp P ((List.toArray (x :: xs))[0]'h) a w K Q = Oper.wp P x a w K Q := rfl
@[go_sem ↓] theorem wp_getS (n : Nat) (h : n + 1 < (List.toArray (x :: xs)).size) : Oper.wp P ((List.toArray (x :: xs))[n + 1]'h) a w K Q = Oper.wp P ((List.toArray xs)[n]'(by simpa using h)) a w K Q := rfl
end

/-- An entity lies at an address. -/
class EntAt (w : World) (b o : Nat) (x : outParam EntV) : Prop where
  range : w.rangeAt b o x.cells
instance (w : World) (b o : Nat) (x : EntV) (ob : Obj) [h : EntAt w b o x] : EntAt (w.alloc ob) b o x := ⟨World.rangeAt_alloc h.range ob⟩
instance (w : World) (b o : Nat) (x : EntV) [h : EntAt w b o x] : EntAt w.drew b o x := ⟨by simpa using h.range⟩
instance (w : World) (b o : Nat) (x : EntV) (z : After w) [h : EntAt w b o x] : EntAt z.1 b o x := ⟨fun j u hu => z.2.cell (h.range j u hu) (by simp)⟩
theorem EntAt.kept {w w' : World} {b o : Nat} {x : EntV} (h : EntAt w b o x) (hk : Kept [] w w') : EntAt w' b o x := ⟨fun j u hu => hk.cell (h.range j u hu) (by simp)⟩

def load43 (v : Value) : Sem Next := do return .value (← Instr.loadAt 43 v)
@[go_sem ↓] theorem execOp_load43 (ρ : Operand → Value) (dst : Option Tmp) (x : Operand) (ty : TypeId) (pos : String) (after : Array Edge) (guard : Option (Nat × Bool)) :
    execOp ρ { dst, op := .load 43 x, type := ty, pos, after, guard } = load43 (ρ x) := rfl
@[go_sem] theorem run_load43 (w : World) (b o : Nat) (x : EntV) [h : EntAt w b o x] : Sem.run Try.prog (load43 (.pointer (some ⟨b, o, none⟩))) w = .ok (.value (.agg x.cells.toArray)) w := by
  simp only [load43, Instr.loadAt, Instr.sureAddr, Sem.run_bind, Sem.run_pure, Result.andThen_ok, run_loadVar_mid w b o 43 x.cells _ h.range Try.underlying43 rfl (Try.info43 x)]

/-- A parameter lies at an address. -/
class ParAt (w : World) (b o : Nat) (x : outParam ParamV) : Prop where
  range : w.rangeAt b o x.cells
instance (w : World) (b o : Nat) (x : ParamV) (ob : Obj) [h : ParAt w b o x] : ParAt (w.alloc ob) b o x := ⟨World.rangeAt_alloc h.range ob⟩
instance (w : World) (b o : Nat) (x : ParamV) [h : ParAt w b o x] : ParAt w.drew b o x := ⟨by simpa using h.range⟩
instance (w : World) (b o : Nat) (x : ParamV) (z : After w) [h : ParAt w b o x] : ParAt z.1 b o x := ⟨fun j u hu => z.2.cell (h.range j u hu) (by simp)⟩
theorem ParAt.kept {w w' : World} {b o : Nat} {x : ParamV} (h : ParAt w b o x) (hk : Kept [] w w') : ParAt w' b o x := ⟨fun j u hu => hk.cell (h.range j u hu) (by simp)⟩

def load107 (v : Value) : Sem Next := do return .value (← Instr.loadAt 107 v)
@[go_sem ↓] theorem execOp_load107 (ρ : Operand → Value) (dst : Option Tmp) (x : Operand) (ty : TypeId) (pos : String) (after : Array Edge) (guard : Option (Nat × Bool)) :
    execOp ρ { dst, op := .load 107 x, type := ty, pos, after, guard } = load107 (ρ x) := rfl
@[go_sem] theorem run_load107 (w : World) (b o : Nat) (x : ParamV) [h : ParAt w b o x] : Sem.run Try.prog (load107 (.pointer (some ⟨b, o, none⟩))) w = .ok (.value (.agg x.cells.toArray)) w := by
  simp only [load107, Instr.loadAt, Instr.sureAddr, Sem.run_bind, Sem.run_pure, Result.andThen_ok, run_loadVar_mid w b o 107 x.cells _ h.range Try.underlying107 rfl (Try.info107 x)]

theorem Try.info71 (x : TyV) : (Try.prog.info? 71).map (·.size) = some x.cells.length := by
  show _ = some 18
  kernel_rfl
theorem TyV.one (x : TyV) : x.cells.toArray.all (·.oneCell') = true := by simp [TyV.cells, Value.oneCell']

/-- A type lies at an address. -/
class TyAt (w : World) (b o : Nat) (x : outParam TyV) : Prop where
  range : w.rangeAt b o x.cells
instance (w : World) (b o : Nat) (x : TyV) (ob : Obj) [h : TyAt w b o x] : TyAt (w.alloc ob) b o x := ⟨World.rangeAt_alloc h.range ob⟩
instance (w : World) (b o : Nat) (x : TyV) [h : TyAt w b o x] : TyAt w.drew b o x := ⟨by simpa using h.range⟩
instance (w : World) (b o : Nat) (x : TyV) (z : After w) [h : TyAt w b o x] : TyAt z.1 b o x := ⟨fun j u hu => z.2.cell (h.range j u hu) (by simp)⟩
theorem TyAt.kept {w w' : World} {b o : Nat} {x : TyV} (h : TyAt w b o x) (hk : Kept [] w w') : TyAt w' b o x := ⟨fun j u hu => hk.cell (h.range j u hu) (by simp)⟩

def load71 (v : Value) : Sem Next := do return .value (← Instr.loadAt 71 v)
@[go_sem ↓] theorem execOp_load71 (ρ : Operand → Value) (dst : Option Tmp) (x : Operand) (ty : TypeId) (pos : String) (after : Array Edge) (guard : Option (Nat × Bool)) :
    execOp ρ { dst, op := .load 71 x, type := ty, pos, after, guard } = load71 (ρ x) := rfl
@[go_sem] theorem run_load71 (w : World) (b o : Nat) (x : TyV) [h : TyAt w b o x] : Sem.run Try.prog (load71 (.pointer (some ⟨b, o, none⟩))) w = .ok (.value (.agg x.cells.toArray)) w := by
  simp only [load71, Instr.loadAt, Instr.sureAddr, Sem.run_bind, Sem.run_pure, Result.andThen_ok, run_loadVar_mid w b o 71 x.cells _ h.range Try.underlying71 rfl (Try.info71 x)]
@[go_sem] theorem Try.store43d (x : EntV) (w : World) (k : Nat) (hk : k = w.heap.size) : Sem.run Try.prog (storeCells ⟨k, 0, none⟩ x.cells)
    (w.alloc (.cells #[.int .u8 0, .string ⟨#[]⟩, .int .i64 0, .int .u8 0, .int .i64 0, .int .i64 0, .slice none 0 0, .int .i64 0, .bool false, .int .i64 0, .int .i64 0, .bool false, .bool false, .int .u8 0, .int .i64 0, .int .i64 0, .int .i64 0, .bool false, .bool false, .int .i64 0, .int .i64 0, .int .i64 0] 43)).drew = .ok () (w.alloc (.cells x.cells.toArray 43)).drew :=
  Try.store43 x w.drew k (by simpa using hk)
@[go_sem] theorem TyV.len (x : TyV) : x.cells.length = 18 := rfl
@[go_sem] theorem Try.store71 (x : TyV) (w : World) (k : Nat) (hk : k = w.heap.size) : Sem.run Try.prog (storeCells ⟨k, 0, none⟩ x.cells)
    (w.alloc (.cells #[.int .u8 0, .string ⟨#[]⟩, .int .i64 0, .int .i64 0, .slice none 0 0, .int .i64 0, .int .i64 0, .int .i64 0, .string ⟨#[]⟩, .bool false, .int .i64 0, .slice none 0 0, .int .i64 0, .int .u8 0, .bool false, .int .i64 0, .int .i64 0, .int .i64 0] 71)) = .ok () (w.alloc (.cells x.cells.toArray 71)) := by
  subst hk
  exact run_storeCells_new w 71 _ x.cells.toArray (by simpa using Try.info71 x) (by simp [TyV.cells]) x.one
end Go.Proofs.Ytlgcboaojdhneaa
