/- Regions that draw their order and hold calls that make memory: one walk in the order of the text, in every world that keeps what lay. Long loads as rules of the walk: what lies there is found among the instances. Boxes of structs, and what the loads of their fields read. Whole structs in boxes that are written: rows set as a whole, by instances. -/
import Derived.Test.YtgdjhhfbpalkdaaP0
import Derived.BigQuiet
namespace Go.Proofs.Ytgdjhhfbpalkdaa
open Go.RowKit

/-- A world in which all that lay in w lies as it lay. -/
def After (w : World) : Type := { W : World // Kept [] w W }
instance (w : World) : Nonempty (After w) := ⟨⟨w, Kept.refl _ _⟩⟩
theorem After.cell {w : World} {p : Addr} {v : Value} (h : w.cell? p = some v) : ∀ z : After w, z.1.cell? p = some v := fun z => z.2.cell h (by simp)
theorem wp_region_after {P : Program} {id : Nat} {Q : Exit → Act → World → Prop} {a : Act} {w : World} {l : List Oper} (hm : P.follows .mixedOrders = true) (hB : Region.lexB .any l.toArray = true)
    (h : wpQuiet P l.toArray (fun w' => ∃ z : After w, w' = z.1) (fun a' => ∀ w', (∃ z : After w, w' = z.1) → Q .normal a' w') l a) : (Code.region id l.toArray true).wp P Q a w :=
  wp_region_quiet (C := fun w' => ∃ z : After w, w' = z.1) hm hB ⟨⟨_, Kept.drew _ _⟩, rfl⟩ (by simpa using h)
theorem Calls.after_b {P : Program} {f : FuncId} {args : Array Value} {w : World} {z : After w} {b : Bool} (h : Calls P f args z.1 (RetB b z.1)) : Calls P f args z.1 fun e w'' => e = .returned (.bool b) ∧ ∃ z' : After w, w'' = z'.1 :=
  h.mono fun _ w' ⟨he, hk⟩ => ⟨he, ⟨w', z.2.trans hk⟩, rfl⟩
end Go.Proofs.Ytgdjhhfbpalkdaa
namespace Go.Proofs.Ytgdjhhfbpalkdaa
open Go.RowKit

section
variable (P : Program) (x : Oper) (xs : List Oper) (a : Act) (w : World) (K : Act → World → Prop) (Q : Exit → Act → World → Prop)
@[go_sem ↓] theorem wp_get0 (h : 0 < (List.toArray (x :: xs)).size) : Oper.wp P ((List.toArray (x :: xs))[0]'h) a w K Q = Oper.wp P x a w K Q := rfl
@[go_sem ↓] theorem wp_getS (n : Nat) (h : n + 1 < (List.toArray (x :: xs)).size) : Oper.wp P ((List.toArray (x :: xs))[n + 1]'h) a w K Q = Oper.wp P ((List.toArray xs)[n]'(by simpa using h)) a w K Q := rfl
end

/-- An entity lies at an address. -/
class EntAt (w : World) (b o : Nat) (x : outParam EntV) : Prop where
  range : w.rangeAt b o x.cells
instance (w : World) (b o : Nat) (x : EntV) (ob : Obj) [h : EntAt w b o x] : EntAt (w.alloc ob) b o x := ⟨World.rangeAt_alloc h.range ob⟩
instance (w : World) (b o : Nat) (x : EntV) [h : EntAt w b o x] : EntAt w.drew b o x := ⟨by simpa using h.range⟩
instance (w : World) (b o : Nat) (x : EntV) (z : After w) [h : EntAt w b o x] : EntAt z.1 b o x := ⟨fun j u hu => z.2.cell (h.range j u hu) (by simp)⟩
theorem EntAt.kept {w w' : World} {b o : Nat} {x : EntV} (h : EntAt w b o x) (hk : Kept [] w w') : EntAt w' b o x := ⟨fun j u hu => hk.cell (h.range j u hu) (by simp)⟩

def loadEnt (v : Value) : Sem Next := do return .value (← Instr.loadAt 89 v)
@[go_sem ↓] theorem execOp_loadEnt (ρ : Operand → Value) (dst : Option Tmp) (x : Operand) (ty : TypeId) (pos : String) (after : Array Edge) (guard : Option (Nat × Bool)) :
    execOp ρ { dst, op := .load 89 x, type := ty, pos, after, guard } = loadEnt (ρ x) := rfl
@[go_sem] theorem run_loadEnt (w : World) (b o : Nat) (x : EntV) [h : EntAt w b o x] : Sem.run Try.prog (loadEnt (.pointer (some ⟨b, o, none⟩))) w = .ok (.value (.agg x.cells.toArray)) w := by
  simp only [loadEnt, Instr.loadAt, Instr.sureAddr, Sem.run_bind, Sem.run_pure, Result.andThen_ok, run_loadVar_mid w b o 89 x.cells _ h.range Try.underlying89 rfl (Try.infoEnt x)]

theorem Try.infoTy (x : TyV) : (Try.prog.info? 77).map (·.size) = some x.cells.length := by
  show _ = some 18
  kernel_rfl
theorem TyV.one (x : TyV) : x.cells.toArray.all (·.oneCell') = true := by simp [TyV.cells, Value.oneCell']

/-- A type lies at an address. -/
class TyAt (w : World) (b o : Nat) (x : outParam TyV) : Prop where
  range : w.rangeAt b o x.cells
instance (w : World) (b o : Nat) (x : TyV) (ob : Obj) [h : TyAt w b o x] : TyAt (w.alloc ob) b o x := ⟨World.rangeAt_alloc h.range ob⟩
instance (w : World) (b o : Nat) (x : TyV) [h : TyAt w b o x] : TyAt w.drew b o x := ⟨by simpa using h.range⟩
instance (w : World) (b o : Nat) (x : TyV) (z : After w) [h : TyAt w b o x] : TyAt z.1 b o x := ⟨fun j u hu => z.2.cell (h.range j u hu) (by simp)⟩
theorem TyAt.kept {w w' : World} {b o : Nat} {x : TyV} (h : TyAt w b o x) (hk : Kept [] w w') : TyAt w' b o x := ⟨fun j u hu => hk.cell (h.range j u hu) (by simp)⟩

def loadTy (v : Value) : Sem Next := do return .value (← Instr.loadAt 77 v)
@[go_sem ↓] theorem execOp_loadTy (ρ : Operand → Value) (dst : Option Tmp) (x : Operand) (ty : TypeId) (pos : String) (after : Array Edge) (guard : Option (Nat × Bool)) :
    execOp ρ { dst, op := .load 77 x, type := ty, pos, after, guard } = loadTy (ρ x) := rfl
@[go_sem] theorem run_loadTy (w : World) (b o : Nat) (x : TyV) [h : TyAt w b o x] : Sem.run Try.prog (loadTy (.pointer (some ⟨b, o, none⟩))) w = .ok (.value (.agg x.cells.toArray)) w := by
  simp only [loadTy, Instr.loadAt, Instr.sureAddr, Sem.run_bind, Sem.run_pure, Result.andThen_ok, run_loadVar_mid w b o 77 x.cells _ h.range Try.underlying77 rfl (Try.infoTy x)]
@[go_sem high] theorem Try.storeEntd (x : EntV) (w : World) (k : Nat) (hk : k = w.heap.size) : Sem.run Try.prog (storeCells ⟨k, 0, none⟩ x.cells)
    (w.alloc (.cells #[.int .u8 0, .string ⟨#[]⟩, .int .i64 0, .int .u8 0, .int .i64 0, .int .i64 0, .slice none 0 0, .int .i64 0, .bool false, .int .i64 0, .int .i64 0, .bool false, .bool false, .int .u8 0, .int .i64 0, .int .i64 0, .int .i64 0, .bool false, .bool false, .int .i64 0, .int .i64 0, .int .i64 0] 89)).drew = .ok () (w.alloc (.cells x.cells.toArray 89)).drew :=
  Try.storeEnt x w.drew k (by simpa using hk)
@[go_sem] theorem TyV.len (x : TyV) : x.cells.length = 18 := rfl
@[go_sem high] theorem Try.storeTy (x : TyV) (w : World) (k : Nat) (hk : k = w.heap.size) : Sem.run Try.prog (storeCells ⟨k, 0, none⟩ x.cells)
    (w.alloc (.cells #[.int .u8 0, .string ⟨#[]⟩, .int .i64 0, .int .i64 0, .slice none 0 0, .int .i64 0, .int .i64 0, .int .i64 0, .string ⟨#[]⟩, .bool false, .int .i64 0, .slice none 0 0, .int .i64 0, .int .u8 0, .bool false, .int .i64 0, .int .i64 0, .int .i64 0] 77)) = .ok () (w.alloc (.cells x.cells.toArray 77)) := by
  subst hk
  exact run_storeCells_new w 77 _ x.cells.toArray (by simpa using Try.infoTy x) (by simp [TyV.cells]) x.one
end Go.Proofs.Ytgdjhhfbpalkdaa
namespace Go.Proofs.Ytgdjhhfbpalkdaa
open Go.RowKit

@[go_sem] theorem TyV.c0 (y : TyV) (h : 0 < y.cells.length) : y.cells[0]'h = (.int .u8 y.kind) := rfl
@[go_sem] theorem TyV.c4 (y : TyV) (h : 4 < y.cells.length) : y.cells[4]'h = (.slice y.la y.lits.length y.lc) := rfl
@[go_sem] theorem TyV.c5 (y : TyV) (h : 5 < y.cells.length) : y.cells[5]'h = (.int .i64 y.index) := rfl
@[go_sem] theorem TyV.c13 (y : TyV) (h : 13 < y.cells.length) : y.cells[13]'h = (.int .u8 y.formal) := rfl
@[go_sem] theorem EntV.c0 (y : EntV) (h : 0 < y.cells.length) : y.cells[0]'h = (.int .u8 y.kind) := rfl
@[go_sem] theorem EntV.c5 (y : EntV) (h : 5 < y.cells.length) : y.cells[5]'h = (.int .i64 y.sub) := rfl
@[go_sem] theorem EntV.c10 (y : EntV) (h : 10 < y.cells.length) : y.cells[10]'h = (.int .i64 y.value) := rfl
@[go_sem] theorem EntV.c11 (y : EntV) (h : 11 < y.cells.length) : y.cells[11]'h = (.bool y.static) := rfl
@[go_sem] theorem ExV.c0 (y : ExV) (h : 0 < y.cells.length) : y.cells[0]'h = (.int .u8 y.kind) := rfl
@[go_sem] theorem ExV.c1 (y : ExV) (h : 1 < y.cells.length) : y.cells[1]'h = (.int .u8 y.oper) := rfl
@[go_sem] theorem ExV.c2 (y : ExV) (h : 2 < y.cells.length) : y.cells[2]'h = (.int .i64 y.n) := rfl
@[go_sem] theorem ExV.c3 (y : ExV) (h : 3 < y.cells.length) : y.cells[3]'h = (.string y.s) := rfl
@[go_sem] theorem ExV.c4 (y : ExV) (h : 4 < y.cells.length) : y.cells[4]'h = (.slice y.la y.ls.length y.lc) := rfl
@[go_sem] theorem ExV.c5 (y : ExV) (h : 5 < y.cells.length) : y.cells[5]'h = (.slice y.aa y.al.length y.ac) := rfl
@[go_sem] theorem ExV.c7 (y : ExV) (h : 7 < y.cells.length) : y.cells[7]'h = (.int .i64 y.ent) := rfl
@[go_sem] theorem ExV.c8 (y : ExV) (h : 8 < y.cells.length) : y.cells[8]'h = (.int .i64 y.t) := rfl

/-- A value is returned, and all that lay lies as it lay. -/
def RetV (v : Value) (w : World) (e : Ending) (w' : World) : Prop := e = .returned v ∧ Kept [] w w'
theorem bodyPost_v {P : Program} {fn : Func} {v : Value} {a : Act} {w w' : World} (hd : a.defers = []) (hr : (results fn a.tmps).run P w' = .ok v w') (hk : Kept [] w w') : bodyPost P fn (RetV v w) .ret a w' :=
  bodyPost_ret hr hd ⟨rfl, hk⟩
def bdA (b : Bd) : Value := .agg #[.int .i64 b.1, .int .i64 b.2]
def bdV (o : Option Bd) : Value := .tuple #[.agg #[.int .i64 (o.getD (0, 0)).1, .int .i64 (o.getD (0, 0)).2], .bool o.isSome]
def bd2V (o : Option (Bd × Bd)) : Value := .tuple #[.agg #[.int .i64 (o.getD ((0, 0), (0, 0))).1.1, .int .i64 (o.getD ((0, 0), (0, 0))).1.2], .agg #[.int .i64 (o.getD ((0, 0), (0, 0))).2.1, .int .i64 (o.getD ((0, 0), (0, 0))).2.2], .bool o.isSome]
def bd3V (o : Option Bd) : Value := .tuple #[.int .i64 (o.getD (0, 0)).1, .int .i64 (o.getD (0, 0)).2, .bool o.isSome]
theorem Kept.alloc' {X : List Nat} {w w' : World} (h : Kept X w w') (o : Obj) : Kept X w (w'.alloc o) := h.trans (Kept.alloc _ _ _)
theorem Kept.set' {w w' : World} (h : Kept [] w w') (a : Addr) (u : Value) (ha : w.heap.size ≤ a.block) : Kept [] w (w'.setCell a u) :=
  (Kept.trans (h.mono (Y := [a.block]) (by simp)) (Kept.setCell w' a u (by simp))).mono' (fun x hx hl => by simp at hx; omega)
theorem Kept.drew' {X : List Nat} {w w' : World} (h : Kept X w w') : Kept X w w'.drew := h.trans (Kept.drew _ _)
/-- The type with a number. -/
theorem tab_ty {w : World} {v : TabV} {t : Tab} (hT : TabIn w v t) {n : Nat} (h : n < t.types.length) :
    ∃ y b o, t.types[n]? = some y ∧ v.ta = some ⟨b, o, none⟩ ∧ TyAt w b (o + n * 18) y ∧ y.lits.length ≤ 140737488355328 := by
  obtain ⟨y, hy⟩ : ∃ y, t.types[n]? = some y := ⟨_, List.getElem?_eq_getElem h⟩
  obtain ⟨b, o, ha, hr⟩ := hT.ts.some_ hy
  exact ⟨y, b, o, hy, ha, ⟨hr n y hy⟩, hT.ll y (List.mem_of_getElem? hy)⟩
theorem span_at {t : Tab} {n : Nat} {y : TyV} (h : t.types[n]? = some y) : spanP t (n : Int) =
    if y.kind = 1 then some (-4611686018427387904, 4611686018427387904)
    else if y.formal ≠ 0 then none
    else if y.kind = 2 then some (-2147483648, 2147483647)
    else if y.kind = 3 then some (0, (y.lits.length : Int) - 1)
    else none := by
  have hl := (List.getElem?_eq_some_iff.1 h).1
  unfold spanP
  rw [if_neg (by omega)]
  simp [List.getD_eq_getElem?_getD, h]
theorem span_out {t : Tab} {ty : Int} (h : ty < 0 ∨ (t.types.length : Int) ≤ ty) : spanP t ty = none := by
  unfold spanP
  rw [if_pos h]
end Go.Proofs.Ytgdjhhfbpalkdaa
namespace Go.Proofs.Ytgdjhhfbpalkdaa
open Go.RowKit

def zeroT : TyV := ⟨0, ⟨#[]⟩, 0, 0, none, 0, [], 0, 0, 0, ⟨#[]⟩, false, 0, none, 0, [], 0, 0, false, 0, 0, 0⟩
/-- Two blocks that differ. -/
class Apart (a b : Nat) : Prop where
  ne : a ≠ b
/-- A block of one row of a type. -/
class BoxOf (ty : TypeId) (k : Nat) (w : World) (B : Nat) : Prop where
  has : ∃ c, w.heap[B]? = some (.cells c ty (0, 0)) ∧ c.size = k
instance (ty : TypeId) (k : Nat) (w : World) (B : Nat) (ob : Obj) [h : BoxOf ty k w B] : BoxOf ty k (w.alloc ob) B := ⟨by
  obtain ⟨c, hc, hs⟩ := h.has
  exact ⟨c, obj_old hc (Array.getElem?_eq_some_iff.1 hc).1, hs⟩⟩
instance (ty : TypeId) (k : Nat) (w : World) (B : Nat) [h : BoxOf ty k w B] : BoxOf ty k w.drew B := ⟨h.has⟩
instance (ty : TypeId) (k : Nat) (w : World) (B D : Nat) (cs : Array Value) [h : BoxOf ty k w B] [a : Apart D B] : BoxOf ty k (w.setRow D cs) B := ⟨by
  obtain ⟨c, hc, hs⟩ := h.has
  exact ⟨c, by simp [World.setRow, Array.getElem?_modify, a.ne, hc], hs⟩⟩
theorem BoxOf.kept {ty : TypeId} {k : Nat} {w w' : World} {B : Nat} (h : BoxOf ty k w B) (hk : Kept [] w w') : BoxOf ty k w' B := ⟨by
  obtain ⟨c, hc, hs⟩ := h.has
  exact ⟨c, hk.obj hc (by simp), hs⟩⟩
theorem range_setRow {w : World} {b o : Nat} {l : List Value} (h : w.rangeAt b o l) (D : Nat) (cs : Array Value) (hne : D ≠ b) : (w.setRow D cs).rangeAt b o l := fun j u hu => by
  have hb : (w.setRow D cs).heap[b]? = w.heap[b]? := by simp [World.setRow, Array.getElem?_modify, hne]
  exact (World.cell?_of_block (a := ⟨b, o + j, none⟩) hb).trans (h j u hu)
theorem range_box {ty : TypeId} {w : World} {B : Nat} {cs c : Array Value} (h : w.heap[B]? = some (.cells c ty (0, 0))) : (w.setRow B cs).rangeAt B 0 cs.toList := by
  have hb := setRow_heap w B c cs ty (0, 0) h
  intro j u hu
  rw [Nat.zero_add]
  have : (match (w.setRow B cs).heap[B]? with | some (Obj.cells c _ _) => c[j]? | _ => none) = some u := by rw [hb]; simpa using hu
  exact this

instance (w : World) (b o D : Nat) (x : TyV) (cs : Array Value) [h : TyAt w b o x] [a : Apart D b] : TyAt (w.setRow D cs) b o x := ⟨range_setRow h.range D cs a.ne⟩
instance (w : World) (B : Nat) (x : TyV) [h : BoxOf 77 18 w B] : TyAt (w.setRow B x.cells.toArray) B 0 x := ⟨by
  obtain ⟨c, hc, _⟩ := h.has
  simpa using range_box (cs := x.cells.toArray) hc⟩
@[go_sem] theorem Try.storeTyBox (x : TyV) (w : World) (B : Nat) [h : BoxOf 77 18 w B] : Sem.run Try.prog (storeCells ⟨B, 0, none⟩ x.cells) w = .ok () (w.setRow B x.cells.toArray) := by
  obtain ⟨c, hc, hs⟩ := h.has
  have := run_storeVar_row (P := Try.prog) w B 77 77 c x.cells.toArray hc (by simpa using Try.infoTy x) (by simpa [TyV.len] using hs) x.one
  cases hq : Try.prog.info? 77 with
  | none => have h1 := Try.infoTy x; rw [hq] at h1; cases h1
  | some i =>
    have hsz : x.cells.toArray.size = i.size := by have := Try.infoTy x; simp [hq] at this; simp; omega
    simpa [storeVar, sizeOf, typeInfo, hq, Value.cells, hsz] using this
/-- A subtype lies at an address. -/
class SubAt (w : World) (b o : Nat) (x : outParam SubtV) : Prop where
  range : w.rangeAt b o x.cells
instance (w : World) (b o : Nat) (x : SubtV) (ob : Obj) [h : SubAt w b o x] : SubAt (w.alloc ob) b o x := ⟨World.rangeAt_alloc h.range ob⟩
instance (w : World) (b o : Nat) (x : SubtV) [h : SubAt w b o x] : SubAt w.drew b o x := ⟨by simpa using h.range⟩
instance (w : World) (b o : Nat) (x : SubtV) (z : After w) [h : SubAt w b o x] : SubAt z.1 b o x := ⟨fun j u hu => z.2.cell (h.range j u hu) (by simp)⟩
instance (w : World) (b o D : Nat) (x : SubtV) (cs : Array Value) [h : SubAt w b o x] [a : Apart D b] : SubAt (w.setRow D cs) b o x := ⟨range_setRow h.range D cs a.ne⟩
theorem SubAt.kept {w w' : World} {b o : Nat} {x : SubtV} (h : SubAt w b o x) (hk : Kept [] w w') : SubAt w' b o x := ⟨fun j u hu => hk.cell (h.range j u hu) (by simp)⟩
theorem Try.infoSub (x : SubtV) : (Try.prog.info? 82).map (·.size) = some x.cells.length := by
  show _ = some 3
  kernel_rfl
def loadSub (v : Value) : Sem Next := do return .value (← Instr.loadAt 82 v)
@[go_sem ↓] theorem execOp_loadSub (ρ : Operand → Value) (dst : Option Tmp) (x : Operand) (ty : TypeId) (pos : String) (after : Array Edge) (guard : Option (Nat × Bool)) :
    execOp ρ { dst, op := .load 82 x, type := ty, pos, after, guard } = loadSub (ρ x) := rfl
@[go_sem] theorem run_loadSub (w : World) (b o : Nat) (x : SubtV) [h : SubAt w b o x] : Sem.run Try.prog (loadSub (.pointer (some ⟨b, o, none⟩))) w = .ok (.value (.agg #[.int .i64 x.t, .int .i64 x.lo, .int .i64 x.hi])) w := by
  have : Sem.run Try.prog (loadSub (.pointer (some ⟨b, o, none⟩))) w = .ok (.value (.agg x.cells.toArray)) w := by
    simp only [loadSub, Instr.loadAt, Instr.sureAddr, Sem.run_bind, Sem.run_pure, Result.andThen_ok, run_loadVar_mid w b o 82 x.cells _ h.range Try.underlying82 rfl (Try.infoSub x)]
  simpa [SubtV.cells] using this
theorem tab_sub {w : World} {v : TabV} {t : Tab} (hT : TabIn w v t) {n : Nat} (h : n < t.subs.length) :
    ∃ s b o, t.subs[n]? = some s ∧ v.sa = some ⟨b, o, none⟩ ∧ SubAt w b (o + n * 3) s ∧ (-9223372036854775808 ≤ s.lo ∧ s.lo ≤ 9223372036854775807) ∧ (-9223372036854775808 ≤ s.hi ∧ s.hi ≤ 9223372036854775807) := by
  obtain ⟨s, hs⟩ : ∃ s, t.subs[n]? = some s := ⟨_, List.getElem?_eq_getElem h⟩
  obtain ⟨b, o, ha, hr⟩ := hT.ss.some_ hs
  exact ⟨s, b, o, hs, ha, ⟨hr n s hs⟩, hT.sb s (List.mem_of_getElem? hs)⟩

def zeroS : SubtV := ⟨0, 0, 0⟩
def subO (t : Tab) (n : Int) : Option SubtV := if n < 0 ∨ (t.subs.length : Int) ≤ n then none else some (t.subs.getD n.toNat default)
def tyO (t : Tab) (n : Int) : Option TyV := if n < 0 ∨ (t.types.length : Int) ≤ n then none else some (t.types.getD n.toNat default)
def subA (x : SubtV) : Value := .agg #[.int .i64 x.t, .int .i64 x.lo, .int .i64 x.hi]
def subV (o : Option SubtV) : Value := .tuple #[subA (o.getD zeroS), .bool o.isSome]
def tyV (o : Option TyV) : Value := .tuple #[.agg (o.getD zeroT).cells.toArray, .bool o.isSome]
theorem subO_at {t : Tab} {n : Nat} {s : SubtV} (h : t.subs[n]? = some s) : subO t (n : Int) = some s := by
  have hl := (List.getElem?_eq_some_iff.1 h).1
  unfold subO
  rw [if_neg (by omega)]
  simp [List.getD_eq_getElem?_getD, h]
theorem subO_out {t : Tab} {n : Int} (h : n < 0 ∨ (t.subs.length : Int) ≤ n) : subO t n = none := by unfold subO; rw [if_pos h]
theorem tyO_at {t : Tab} {n : Nat} {s : TyV} (h : t.types[n]? = some s) : tyO t (n : Int) = some s := by
  have hl := (List.getElem?_eq_some_iff.1 h).1
  unfold tyO
  rw [if_neg (by omega)]
  simp [List.getD_eq_getElem?_getD, h]
theorem tyO_out {t : Tab} {n : Int} (h : n < 0 ∨ (t.types.length : Int) ≤ n) : tyO t n = none := by unfold tyO; rw [if_pos h]
end Go.Proofs.Ytgdjhhfbpalkdaa
