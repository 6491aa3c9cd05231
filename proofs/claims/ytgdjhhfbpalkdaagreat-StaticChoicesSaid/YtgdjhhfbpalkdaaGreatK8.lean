/- Regions that draw their order and hold calls that make memory: one walk in the order of the text, in every world that keeps what lay. Long loads as rules of the walk: what lies there is found among the instances. Boxes of structs, and what the loads of their fields read. Whole structs in boxes that are written: rows set as a whole, by instances. New boxes as instances: what was laid last, by the number of blocks; expressions in slices and boxes. -/
import Derived.Test.YtgdjhhfbpalkdaaGreatP0
import Derived.BigQuiet
namespace Go.Proofs.YtgdjhhfbpalkdaaGreat
open Go.RowKit

/-- A world in which all that lay in w lies as it lay. -/
def After (w : World) : Type := { W : World // Kept [] w W }
instance (w : World) : Nonempty (After w) := ⟨⟨w, Kept.refl _ _⟩⟩
theorem After.cell {w : World} {p : Addr} {v : Value} (h : w.cell? p = some v) : ∀ z : After w, z.1.cell? p = some v := fun z => z.2.cell h (by simp)
theorem wp_region_after {P : Program} {id : Nat} {Q : Exit → Act → World → Prop} {a : Act} {w : World} {l : List Oper} (hm : P.follows .mixedOrders = true) (hB : Region.lexB .any l.toArray = true)
    (h : wpQuiet P l.toArray (fun w' => ∃ z : After w, w' = z.1) (fun a' => ∀ w', (∃ z : After w, w' = z.1) → Q .normal a' w') l a) : (Code.region id l.toArray true).wp P Q a w :=
  wp_region_quiet (C := fun w' => ∃ z : After w, w' = z.1) hm hB ⟨⟨_, Kept.drew _ _⟩, rfl⟩ (by simpa using h)
theorem Calls.after_b {P : Program} {f : FuncId} {args : Array Value} {w : World} {z : After w} {b : Bool} (h : Calls P f args z.1 (RetB b z.1)) : Calls P f args z.1 fun e w'' => e = .returned (.bool b) ∧ ∃ z' : After w, w'' = z'.1 :=
  h.mono fun _ w' ⟨he, hk⟩ => ⟨he, ⟨w', z.2.trans hk⟩, rfl⟩
end Go.Proofs.YtgdjhhfbpalkdaaGreat
namespace Go.Proofs.YtgdjhhfbpalkdaaGreat
open Go.RowKit

section
variable (P : Program) (x : Oper) (xs : List Oper) (a : Act) (w : World) (K : Act → World → Prop) (Q : Exit → Act → World → Prop)
@[go_sem ↓] theorem wp_get0 (h : 0 < (List.toArray (x :: xs)).size) : Oper.wp P ((List.toArray (x :: xs))[0]'h) a w K Q = Oper.wp P x a w K Q := rfl
@[go_sem ↓] theorem wp_getS (n : Nat) (h : n + 1 < (List.toArray (x :: xs)).size) : Oper.wp P ((List.toArray (x :: xs))[n + 1]'h) a w K Q = Oper.wp P ((List.toArray xs)[n]'(by simpa using h)) a w K Q := rfl
end

/-- An entity lies at an address. -/
class EntAt (w : World) (b o : Nat) (x : outParam EntV) : Prop where
  range : w.rangeAt b o x.cells
instance (w : World) (b o : Nat) (x : EntV) (ob : Obj) [h : EntAt w b o x] : EntAt (w.alloc ob) b o x := ⟨World.rangeAt_alloc h.range ob⟩
instance (w : World) (b o : Nat) (x : EntV) [h : EntAt w b o x] : EntAt w.drew b o x := ⟨by simpa using h.range⟩
instance (w : World) (b o : Nat) (x : EntV) (z : After w) [h : EntAt w b o x] : EntAt z.1 b o x := ⟨fun j u hu => z.2.cell (h.range j u hu) (by simp)⟩
theorem EntAt.kept {w w' : World} {b o : Nat} {x : EntV} (h : EntAt w b o x) (hk : Kept [] w w') : EntAt w' b o x := ⟨fun j u hu => hk.cell (h.range j u hu) (by simp)⟩

def loadEnt (v : Value) : Sem Next := do return .value (← Instr.loadAt 74 v)
@[go_sem ↓] theorem execOp_loadEnt (ρ : Operand → Value) (dst : Option Tmp) (x : Operand) (ty : TypeId) (pos : String) (after : Array Edge) (guard : Option (Nat × Bool)) :
    execOp ρ { dst, op := .load 74 x, type := ty, pos, after, guard } = loadEnt (ρ x) := rfl
@[go_sem] theorem run_loadEnt (w : World) (b o : Nat) (x : EntV) [h : EntAt w b o x] : Sem.run Tryz.prog (loadEnt (.pointer (some ⟨b, o, none⟩))) w = .ok (.value (.agg x.cells.toArray)) w := by
  simp only [loadEnt, Instr.loadAt, Instr.sureAddr, Sem.run_bind, Sem.run_pure, Result.andThen_ok, run_loadVar_mid w b o 74 x.cells _ h.range Tryz.underlying74 rfl (Tryz.infoEnt x)]

theorem Tryz.infoTy (x : TyV) : (Tryz.prog.info? 116).map (·.size) = some x.cells.length := by
  show _ = some 18
  kernel_rfl
theorem TyV.one (x : TyV) : x.cells.toArray.all (·.oneCell') = true := by simp [TyV.cells, Value.oneCell']

/-- A type lies at an address. -/
class TyAt (w : World) (b o : Nat) (x : outParam TyV) : Prop where
  range : w.rangeAt b o x.cells
instance (w : World) (b o : Nat) (x : TyV) (ob : Obj) [h : TyAt w b o x] : TyAt (w.alloc ob) b o x := ⟨World.rangeAt_alloc h.range ob⟩
instance (w : World) (b o : Nat) (x : TyV) [h : TyAt w b o x] : TyAt w.drew b o x := ⟨by simpa using h.range⟩
instance (w : World) (b o : Nat) (x : TyV) (z : After w) [h : TyAt w b o x] : TyAt z.1 b o x := ⟨fun j u hu => z.2.cell (h.range j u hu) (by simp)⟩
theorem TyAt.kept {w w' : World} {b o : Nat} {x : TyV} (h : TyAt w b o x) (hk : Kept [] w w') : TyAt w' b o x := ⟨fun j u hu => hk.cell (h.range j u hu) (by simp)⟩

def loadTy (v : Value) : Sem Next := do return .value (← Instr.loadAt 116 v)
@[go_sem ↓] theorem execOp_loadTy (ρ : Operand → Value) (dst : Option Tmp) (x : Operand) (ty : TypeId) (pos : String) (after : Array Edge) (guard : Option (Nat × Bool)) :
    execOp ρ { dst, op := .load 116 x, type := ty, pos, after, guard } = loadTy (ρ x) := rfl
@[go_sem] theorem run_loadTy (w : World) (b o : Nat) (x : TyV) [h : TyAt w b o x] : Sem.run Tryz.prog (loadTy (.pointer (some ⟨b, o, none⟩))) w = .ok (.value (.agg x.cells.toArray)) w := by
  simp only [loadTy, Instr.loadAt, Instr.sureAddr, Sem.run_bind, Sem.run_pure, Result.andThen_ok, run_loadVar_mid w b o 116 x.cells _ h.range Tryz.underlying116 rfl (Tryz.infoTy x)]
@[go_sem high] theorem Tryz.storeEntd (x : EntV) (w : World) (k : Nat) (hk : k = w.heap.size) : Sem.run Tryz.prog (storeCells ⟨k, 0, none⟩ x.cells)
    (w.alloc (.cells #[.int .u8 0, .string ⟨#[]⟩, .int .i64 0, .int .u8 0, .int .i64 0, .int .i64 0, .slice none 0 0, .int .i64 0, .bool false, .int .i64 0, .int .i64 0, .bool false, .bool false, .int .u8 0, .int .i64 0, .int .i64 0, .int .i64 0, .bool false, .bool false, .int .i64 0, .int .i64 0, .int .i64 0] 74)).drew = .ok () (w.alloc (.cells x.cells.toArray 74)).drew :=
  Tryz.storeEnt x w.drew k (by simpa using hk)
@[go_sem] theorem TyV.len (x : TyV) : x.cells.length = 18 := rfl
@[go_sem high] theorem Tryz.storeTy (x : TyV) (w : World) (k : Nat) (hk : k = w.heap.size) : Sem.run Tryz.prog (storeCells ⟨k, 0, none⟩ x.cells)
    (w.alloc (.cells #[.int .u8 0, .string ⟨#[]⟩, .int .i64 0, .int .i64 0, .slice none 0 0, .int .i64 0, .int .i64 0, .int .i64 0, .string ⟨#[]⟩, .bool false, .int .i64 0, .slice none 0 0, .int .i64 0, .int .u8 0, .bool false, .int .i64 0, .int .i64 0, .int .i64 0] 116)) = .ok () (w.alloc (.cells x.cells.toArray 116)) := by
  subst hk
  exact run_storeCells_new w 116 _ x.cells.toArray (by simpa using Tryz.infoTy x) (by simp [TyV.cells]) x.one
end Go.Proofs.YtgdjhhfbpalkdaaGreat
namespace Go.Proofs.YtgdjhhfbpalkdaaGreat
open Go.RowKit

@[go_sem] theorem TyV.c0 (y : TyV) (h : 0 < y.cells.length) : y.cells[0]'h = (.int .u8 y.kind) := rfl
@[go_sem] theorem TyV.c4 (y : TyV) (h : 4 < y.cells.length) : y.cells[4]'h = (.slice y.la y.lits.length y.lc) := rfl
@[go_sem] theorem TyV.c5 (y : TyV) (h : 5 < y.cells.length) : y.cells[5]'h = (.int .i64 y.index) := rfl
@[go_sem] theorem TyV.c13 (y : TyV) (h : 13 < y.cells.length) : y.cells[13]'h = (.int .u8 y.formal) := rfl
@[go_sem] theorem EntV.c0 (y : EntV) (h : 0 < y.cells.length) : y.cells[0]'h = (.int .u8 y.kind) := rfl
@[go_sem] theorem EntV.c5 (y : EntV) (h : 5 < y.cells.length) : y.cells[5]'h = (.int .i64 y.sub) := rfl
@[go_sem] theorem EntV.c10 (y : EntV) (h : 10 < y.cells.length) : y.cells[10]'h = (.int .i64 y.value) := rfl
@[go_sem] theorem EntV.c11 (y : EntV) (h : 11 < y.cells.length) : y.cells[11]'h = (.bool y.static) := rfl
@[go_sem] theorem ExV.c0 (y : ExV) (h : 0 < y.cells.length) : y.cells[0]'h = (.int .u8 y.kind) := rfl
@[go_sem] theorem ExV.c1 (y : ExV) (h : 1 < y.cells.length) : y.cells[1]'h = (.int .u8 y.oper) := rfl
@[go_sem] theorem ExV.c2 (y : ExV) (h : 2 < y.cells.length) : y.cells[2]'h = (.int .i64 y.n) := rfl
@[go_sem] theorem ExV.c3 (y : ExV) (h : 3 < y.cells.length) : y.cells[3]'h = (.string y.s) := rfl
@[go_sem] theorem ExV.c4 (y : ExV) (h : 4 < y.cells.length) : y.cells[4]'h = (.slice y.la y.ls.length y.lc) := rfl
@[go_sem] theorem ExV.c5 (y : ExV) (h : 5 < y.cells.length) : y.cells[5]'h = (.slice y.aa y.al.length y.ac) := rfl
@[go_sem] theorem ExV.c7 (y : ExV) (h : 7 < y.cells.length) : y.cells[7]'h = (.int .i64 y.ent) := rfl
@[go_sem] theorem ExV.c8 (y : ExV) (h : 8 < y.cells.length) : y.cells[8]'h = (.int .i64 y.t) := rfl

/-- A value is returned, and all that lay lies as it lay. -/
def RetV (v : Value) (w : World) (e : Ending) (w' : World) : Prop := e = .returned v ∧ Kept [] w w'
theorem bodyPost_v {P : Program} {fn : Func} {v : Value} {a : Act} {w w' : World} (hd : a.defers = []) (hr : (results fn a.tmps).run P w' = .ok v w') (hk : Kept [] w w') : bodyPost P fn (RetV v w) .ret a w' :=
  bodyPost_ret hr hd ⟨rfl, hk⟩
def bdA (b : Bd) : Value := .agg #[.int .i64 b.1, .int .i64 b.2]
def bdV (o : Option Bd) : Value := .tuple #[.agg #[.int .i64 (o.getD (0, 0)).1, .int .i64 (o.getD (0, 0)).2], .bool o.isSome]
def bd2V (o : Option (Bd × Bd)) : Value := .tuple #[.agg #[.int .i64 (o.getD ((0, 0), (0, 0))).1.1, .int .i64 (o.getD ((0, 0), (0, 0))).1.2], .agg #[.int .i64 (o.getD ((0, 0), (0, 0))).2.1, .int .i64 (o.getD ((0, 0), (0, 0))).2.2], .bool o.isSome]
def bd3V (o : Option Bd) : Value := .tuple #[.int .i64 (o.getD (0, 0)).1, .int .i64 (o.getD (0, 0)).2, .bool o.isSome]
theorem Kept.alloc' {X : List Nat} {w w' : World} (h : Kept X w w') (o : Obj) : Kept X w (w'.alloc o) := h.trans (Kept.alloc _ _ _)
theorem Kept.set' {w w' : World} (h : Kept [] w w') (a : Addr) (u : Value) (ha : w.heap.size ≤ a.block) : Kept [] w (w'.setCell a u) :=
  (Kept.trans (h.mono (Y := [a.block]) (by simp)) (Kept.setCell w' a u (by simp))).mono' (fun x hx hl => by simp at hx; omega)
theorem Kept.drew' {X : List Nat} {w w' : World} (h : Kept X w w') : Kept X w w'.drew := h.trans (Kept.drew _ _)
/-- The type with a number. -/
theorem tab_ty {w : World} {v : TabV} {t : Tab} (hT : TabIn w v t) {n : Nat} (h : n < t.types.length) :
    ∃ y b o, t.types[n]? = some y ∧ v.ta = some ⟨b, o, none⟩ ∧ TyAt w b (o + n * 18) y ∧ y.lits.length ≤ 140737488355328 := by
  obtain ⟨y, hy⟩ : ∃ y, t.types[n]? = some y := ⟨_, List.getElem?_eq_getElem h⟩
  obtain ⟨b, o, ha, hr⟩ := hT.ts.some_ hy
  exact ⟨y, b, o, hy, ha, ⟨hr n y hy⟩, hT.ll y (List.mem_of_getElem? hy)⟩
theorem span_at {t : Tab} {n : Nat} {y : TyV} (h : t.types[n]? = some y) : spanP t (n : Int) =
    if y.kind = 1 then some (-4611686018427387904, 4611686018427387904)
    else if y.formal ≠ 0 then none
    else if y.kind = 2 then some (-2147483648, 2147483647)
    else if y.kind = 3 then some (0, (y.lits.length : Int) - 1)
    else none := by
  have hl := (List.getElem?_eq_some_iff.1 h).1
  unfold spanP
  rw [if_neg (by omega)]
  simp [List.getD_eq_getElem?_getD, h]
theorem span_out {t : Tab} {ty : Int} (h : ty < 0 ∨ (t.types.length : Int) ≤ ty) : spanP t ty = none := by
  unfold spanP
  rw [if_pos h]
end Go.Proofs.YtgdjhhfbpalkdaaGreat
namespace Go.Proofs.YtgdjhhfbpalkdaaGreat
open Go.RowKit

def zeroT : TyV := ⟨0, ⟨#[]⟩, 0, 0, none, 0, [], 0, 0, 0, ⟨#[]⟩, false, 0, none, 0, [], 0, 0, false, 0, 0, 0⟩
/-- Two blocks that differ. -/
class Apart (a b : Nat) : Prop where
  ne : a ≠ b
/-- A block of one row of a type. -/
class BoxOf (ty : TypeId) (k : Nat) (w : World) (B : Nat) : Prop where
  has : ∃ c, w.heap[B]? = some (.cells c ty (0, 0)) ∧ c.size = k
instance (ty : TypeId) (k : Nat) (w : World) (B : Nat) (ob : Obj) [h : BoxOf ty k w B] : BoxOf ty k (w.alloc ob) B := ⟨by
  obtain ⟨c, hc, hs⟩ := h.has
  exact ⟨c, obj_old hc (Array.getElem?_eq_some_iff.1 hc).1, hs⟩⟩
instance (ty : TypeId) (k : Nat) (w : World) (B : Nat) [h : BoxOf ty k w B] : BoxOf ty k w.drew B := ⟨h.has⟩
instance (ty : TypeId) (k : Nat) (w : World) (B D : Nat) (cs : Array Value) [h : BoxOf ty k w B] [a : Apart D B] : BoxOf ty k (w.setRow D cs) B := ⟨by
  obtain ⟨c, hc, hs⟩ := h.has
  exact ⟨c, by simp [World.setRow, Array.getElem?_modify, a.ne, hc], hs⟩⟩
theorem BoxOf.kept {ty : TypeId} {k : Nat} {w w' : World} {B : Nat} (h : BoxOf ty k w B) (hk : Kept [] w w') : BoxOf ty k w' B := ⟨by
  obtain ⟨c, hc, hs⟩ := h.has
  exact ⟨c, hk.obj hc (by simp), hs⟩⟩
theorem range_setRow {w : World} {b o : Nat} {l : List Value} (h : w.rangeAt b o l) (D : Nat) (cs : Array Value) (hne : D ≠ b) : (w.setRow D cs).rangeAt b o l := fun j u hu => by
  have hb : (w.setRow D cs).heap[b]? = w.heap[b]? := by simp [World.setRow, Array.getElem?_modify, hne]
  exact (World.cell?_of_block (a := ⟨b, o + j, none⟩) hb).trans (h j u hu)
theorem range_box {ty : TypeId} {w : World} {B : Nat} {cs c : Array Value} (h : w.heap[B]? = some (.cells c ty (0, 0))) : (w.setRow B cs).rangeAt B 0 cs.toList := by
  have hb := setRow_heap w B c cs ty (0, 0) h
  intro j u hu
  rw [Nat.zero_add]
  have : (match (w.setRow B cs).heap[B]? with | some (Obj.cells c _ _) => c[j]? | _ => none) = some u := by rw [hb]; simpa using hu
  exact this

instance (w : World) (b o D : Nat) (x : TyV) (cs : Array Value) [h : TyAt w b o x] [a : Apart D b] : TyAt (w.setRow D cs) b o x := ⟨range_setRow h.range D cs a.ne⟩
instance (w : World) (B : Nat) (x : TyV) [h : BoxOf 116 18 w B] : TyAt (w.setRow B x.cells.toArray) B 0 x := ⟨by
  obtain ⟨c, hc, _⟩ := h.has
  simpa using range_box (cs := x.cells.toArray) hc⟩
@[go_sem] theorem Tryz.storeTyBox (x : TyV) (w : World) (B : Nat) [h : BoxOf 116 18 w B] : Sem.run Tryz.prog (storeCells ⟨B, 0, none⟩ x.cells) w = .ok () (w.setRow B x.cells.toArray) := by
  obtain ⟨c, hc, hs⟩ := h.has
  have := run_storeVar_row (P := Tryz.prog) w B 116 116 c x.cells.toArray hc (by simpa using Tryz.infoTy x) (by simpa [TyV.len] using hs) x.one
  cases hq : Tryz.prog.info? 116 with
  | none => have h1 := Tryz.infoTy x; rw [hq] at h1; cases h1
  | some i =>
    have hsz : x.cells.toArray.size = i.size := by have := Tryz.infoTy x; simp [hq] at this; simp; omega
    simpa [storeVar, sizeOf, typeInfo, hq, Value.cells, hsz] using this
/-- A subtype lies at an address. -/
class SubAt (w : World) (b o : Nat) (x : outParam SubtV) : Prop where
  range : w.rangeAt b o x.cells
instance (w : World) (b o : Nat) (x : SubtV) (ob : Obj) [h : SubAt w b o x] : SubAt (w.alloc ob) b o x := ⟨World.rangeAt_alloc h.range ob⟩
instance (w : World) (b o : Nat) (x : SubtV) [h : SubAt w b o x] : SubAt w.drew b o x := ⟨by simpa using h.range⟩
instance (w : World) (b o : Nat) (x : SubtV) (z : After w) [h : SubAt w b o x] : SubAt z.1 b o x := ⟨fun j u hu => z.2.cell (h.range j u hu) (by simp)⟩
instance (w : World) (b o D : Nat) (x : SubtV) (cs : Array Value) [h : SubAt w b o x] [a : Apart D b] : SubAt (w.setRow D cs) b o x := ⟨range_setRow h.range D cs a.ne⟩
theorem SubAt.kept {w w' : World} {b o : Nat} {x : SubtV} (h : SubAt w b o x) (hk : Kept [] w w') : SubAt w' b o x := ⟨fun j u hu => hk.cell (h.range j u hu) (by simp)⟩
theorem Tryz.infoSub (x : SubtV) : (Tryz.prog.info? 121).map (·.size) = some x.cells.length := by
  show _ = some 3
  kernel_rfl
def loadSub (v : Value) : Sem Next := do return .value (← Instr.loadAt 121 v)
@[go_sem ↓] theorem execOp_loadSub (ρ : Operand → Value) (dst : Option Tmp) (x : Operand) (ty : TypeId) (pos : String) (after : Array Edge) (guard : Option (Nat × Bool)) :
    execOp ρ { dst, op := .load 121 x, type := ty, pos, after, guard } = loadSub (ρ x) := rfl
@[go_sem] theorem run_loadSub (w : World) (b o : Nat) (x : SubtV) [h : SubAt w b o x] : Sem.run Tryz.prog (loadSub (.pointer (some ⟨b, o, none⟩))) w = .ok (.value (.agg #[.int .i64 x.t, .int .i64 x.lo, .int .i64 x.hi])) w := by
  have : Sem.run Tryz.prog (loadSub (.pointer (some ⟨b, o, none⟩))) w = .ok (.value (.agg x.cells.toArray)) w := by
    simp only [loadSub, Instr.loadAt, Instr.sureAddr, Sem.run_bind, Sem.run_pure, Result.andThen_ok, run_loadVar_mid w b o 121 x.cells _ h.range Tryz.underlying121 rfl (Tryz.infoSub x)]
  simpa [SubtV.cells] using this
theorem tab_sub {w : World} {v : TabV} {t : Tab} (hT : TabIn w v t) {n : Nat} (h : n < t.subs.length) :
    ∃ s b o, t.subs[n]? = some s ∧ v.sa = some ⟨b, o, none⟩ ∧ SubAt w b (o + n * 3) s ∧ (-9223372036854775808 ≤ s.lo ∧ s.lo ≤ 9223372036854775807) ∧ (-9223372036854775808 ≤ s.hi ∧ s.hi ≤ 9223372036854775807) := by
  obtain ⟨s, hs⟩ : ∃ s, t.subs[n]? = some s := ⟨_, List.getElem?_eq_getElem h⟩
  obtain ⟨b, o, ha, hr⟩ := hT.ss.some_ hs
  exact ⟨s, b, o, hs, ha, ⟨hr n s hs⟩, hT.sb s (List.mem_of_getElem? hs)⟩

def zeroS : SubtV := ⟨0, 0, 0⟩
def subO (t : Tab) (n : Int) : Option SubtV := if n < 0 ∨ (t.subs.length : Int) ≤ n then none else some (t.subs.getD n.toNat default)
def tyO (t : Tab) (n : Int) : Option TyV := if n < 0 ∨ (t.types.length : Int) ≤ n then none else some (t.types.getD n.toNat default)
def subA (x : SubtV) : Value := .agg #[.int .i64 x.t, .int .i64 x.lo, .int .i64 x.hi]
def subV (o : Option SubtV) : Value := .tuple #[subA (o.getD zeroS), .bool o.isSome]
def tyV (o : Option TyV) : Value := .tuple #[.agg (o.getD zeroT).cells.toArray, .bool o.isSome]
theorem subO_at {t : Tab} {n : Nat} {s : SubtV} (h : t.subs[n]? = some s) : subO t (n : Int) = some s := by
  have hl := (List.getElem?_eq_some_iff.1 h).1
  unfold subO
  rw [if_neg (by omega)]
  simp [List.getD_eq_getElem?_getD, h]
theorem subO_out {t : Tab} {n : Int} (h : n < 0 ∨ (t.subs.length : Int) ≤ n) : subO t n = none := by unfold subO; rw [if_pos h]
theorem tyO_at {t : Tab} {n : Nat} {s : TyV} (h : t.types[n]? = some s) : tyO t (n : Int) = some s := by
  have hl := (List.getElem?_eq_some_iff.1 h).1
  unfold tyO
  rw [if_neg (by omega)]
  simp [List.getD_eq_getElem?_getD, h]
theorem tyO_out {t : Tab} {n : Int} (h : n < 0 ∨ (t.types.length : Int) ≤ n) : tyO t n = none := by unfold tyO; rw [if_pos h]
end Go.Proofs.YtgdjhhfbpalkdaaGreat
namespace Go.Proofs.YtgdjhhfbpalkdaaGreat
open Go.RowKit

/-- The number of blocks. -/
class SizeIs (w : World) (k : Nat) : Prop where
  size : w.heap.size = k
instance (w : World) : SizeIs w w.heap.size := ⟨rfl⟩
instance (w : World) (k : Nat) (ob : Obj) [h : SizeIs w k] : SizeIs (w.alloc ob) (k + 1) := ⟨by simp [h.size]⟩
instance (w : World) (k : Nat) [h : SizeIs w k] : SizeIs w.drew k := ⟨h.size⟩
instance (w : World) (k : Nat) (a : Addr) (u : Value) [h : SizeIs w k] : SizeIs (w.setCell a u) k := ⟨by simp [h.size]⟩
instance (w : World) (k D : Nat) (cs : Array Value) [h : SizeIs w k] : SizeIs (w.setRow D cs) k := ⟨by simp [World.setRow, h.size]⟩
theorem range_new {w : World} {k : Nat} {l : List Value} {ty : TypeId} (h : w.heap.size = k) : (w.alloc (.cells l.toArray ty)).rangeAt k 0 l := by
  subst h
  have hb := heap_alloc_new w (.cells l.toArray ty)
  intro j u hu
  rw [Nat.zero_add, cell_of_row _ _ _ _ _ _ hb]
  simpa using hu

/-- An expression lies at an address. -/
class ExAt (w : World) (b o : Nat) (x : outParam ExV) : Prop where
  range : w.rangeAt b o x.cells
instance (w : World) (b o : Nat) (x : ExV) (ob : Obj) [h : ExAt w b o x] : ExAt (w.alloc ob) b o x := ⟨World.rangeAt_alloc h.range ob⟩
instance (w : World) (b o : Nat) (x : ExV) [h : ExAt w b o x] : ExAt w.drew b o x := ⟨by simpa using h.range⟩
instance (w : World) (b o : Nat) (x : ExV) (z : After w) [h : ExAt w b o x] : ExAt z.1 b o x := ⟨fun j u hu => z.2.cell (h.range j u hu) (by simp)⟩
instance (w : World) (b o D : Nat) (x : ExV) (cs : Array Value) [h : ExAt w b o x] [a : Apart D b] : ExAt (w.setRow D cs) b o x := ⟨range_setRow h.range D cs a.ne⟩
theorem ExAt.kept {w w' : World} {b o : Nat} {x : ExV} (h : ExAt w b o x) (hk : Kept [] w w') : ExAt w' b o x := ⟨fun j u hu => hk.cell (h.range j u hu) (by simp)⟩
theorem Tryz.infoEx (x : ExV) : (Tryz.prog.info? 34).map (·.size) = some x.cells.length := by
  show _ = some 9
  kernel_rfl
def loadEx (v : Value) : Sem Next := do return .value (← Instr.loadAt 34 v)
@[go_sem ↓] theorem execOp_loadEx (ρ : Operand → Value) (dst : Option Tmp) (x : Operand) (ty : TypeId) (pos : String) (after : Array Edge) (guard : Option (Nat × Bool)) :
    execOp ρ { dst, op := .load 34 x, type := ty, pos, after, guard } = loadEx (ρ x) := rfl
@[go_sem] theorem run_loadEx (w : World) (b o : Nat) (x : ExV) [h : ExAt w b o x] : Sem.run Tryz.prog (loadEx (.pointer (some ⟨b, o, none⟩))) w = .ok (.value (.agg x.cells.toArray)) w := by
  simp only [loadEx, Instr.loadAt, Instr.sureAddr, Sem.run_bind, Sem.run_pure, Result.andThen_ok, run_loadVar_mid w b o 34 x.cells _ h.range Tryz.underlying34 rfl (Tryz.infoEx x)]

/-- The first expression below another. -/
theorem ex_at {w : World} {n : Nat} {x : ExV} (h : ExIn w (n + 1) x) {j : Nat} (hj : j < x.ls.length) : ∃ b o, x.la = some ⟨b, o, none⟩ ∧ ExAt w b (o + j * 9) (x.ls.getD j default) ∧ ExIn w n (x.ls.getD j default) := by
  obtain ⟨y, hy⟩ : ∃ y, x.ls[j]? = some y := ⟨_, List.getElem?_eq_getElem hj⟩
  obtain ⟨b, o, ha, hr⟩ := h.1.some_ hy
  have e : x.ls.getD j default = y := by simp [List.getD_eq_getElem?_getD, hy]
  rw [e]
  exact ⟨b, o, ha, ⟨hr j y hy⟩, h.2.1 y (List.mem_of_getElem? hy)⟩
theorem as_at {w : World} {n : Nat} {x : ExV} (h : ExIn w (n + 1) x) (hj : 0 < x.al.length) : ∃ b o, x.aa = some ⟨b, o, none⟩ ∧ ExAt w b (o + 1) (a0 x) ∧ ExIn w n (a0 x) := by
  obtain ⟨y, hy⟩ : ∃ y, x.al[0]? = some y := ⟨_, List.getElem?_eq_getElem hj⟩
  obtain ⟨b, o, ha, hr⟩ := h.2.2.1.some_ hy
  have e : a0 x = y.2.2.2 := by simp [a0, List.getD_eq_getElem?_getD, hy]
  rw [e]
  refine ⟨b, o, ha, ⟨fun j u hu => ?_⟩, h.2.2.2.1 y (List.mem_of_getElem? hy)⟩
  have := hr 0 y hy (j + 1) u (by simpa [AsV.cells] using hu)
  simpa [Nat.add_assoc, Nat.add_comm 1 j] using this

/-- Block B is a row of cells. -/
class BoxIs (w : World) (B : Nat) (ty : outParam TypeId) (cs : outParam (Array Value)) : Prop where
  has : w.heap[B]? = some (.cells cs ty (0, 0))
instance (w : World) (k : Nat) (ty : TypeId) (cs : Array Value) [h : SizeIs w k] : BoxIs (w.alloc (.cells cs ty)) k ty cs := ⟨obj_new h.size.symm⟩
instance (w : World) (B : Nat) (ty : TypeId) (cs : Array Value) (ob : Obj) [h : BoxIs w B ty cs] : BoxIs (w.alloc ob) B ty cs := ⟨obj_old h.has (Array.getElem?_eq_some_iff.1 h.has).1⟩
instance (w : World) (B : Nat) (ty : TypeId) (cs : Array Value) [h : BoxIs w B ty cs] : BoxIs w.drew B ty cs := ⟨h.has⟩
instance (w : World) (B : Nat) (ty : TypeId) (cs : Array Value) (z : After w) [h : BoxIs w B ty cs] : BoxIs z.1 B ty cs := ⟨z.2.obj h.has (by simp)⟩
instance (w : World) (B : Nat) (ty : TypeId) (cs cs' : Array Value) [h : BoxIs w B ty cs] : BoxIs (w.setRow B cs') B ty cs' := ⟨setRow_heap _ _ _ _ _ _ h.has⟩
instance (w : World) (B D : Nat) (ty : TypeId) (cs cs' : Array Value) [h : BoxIs w B ty cs] [a : Apart D B] : BoxIs (w.setRow D cs') B ty cs := ⟨by
  have := a.ne
  simp [World.setRow, Array.getElem?_modify, this, h.has]⟩
instance (w : World) (B j : Nat) (ty : TypeId) (cs : Array Value) (u : Value) [h : BoxIs w B ty cs] : BoxIs (w.setCell ⟨B, j, none⟩ u) B ty (cs.setIfInBounds j u) := ⟨heap_setCell_same _ _ _ _ _ _ h.has⟩
instance (w : World) (B D j : Nat) (ty : TypeId) (cs : Array Value) (u : Value) [h : BoxIs w B ty cs] [a : Apart D B] : BoxIs (w.setCell ⟨D, j, none⟩ u) B ty cs := ⟨(heap_setCell_other w _ B u (Ne.symm a.ne)).trans h.has⟩
theorem BoxIs.kept {w w' : World} {B : Nat} {ty : TypeId} {cs : Array Value} (h : BoxIs w B ty cs) (hk : Kept [] w w') : BoxIs w' B ty cs := ⟨hk.obj h.has (by simp)⟩
theorem BoxIs.lt {w : World} {B : Nat} {ty : TypeId} {cs : Array Value} (h : BoxIs w B ty cs) : B < w.heap.size := (Array.getElem?_eq_some_iff.1 h.has).1
@[go_sem] theorem cell_box (w : World) (B j : Nat) (ty : TypeId) (cs : Array Value) [h : BoxIs w B ty cs] : w.cell? ⟨B, j, none⟩ = cs[j]? := cell_of_row _ _ _ _ _ _ h.has
@[go_sem] theorem frozen_box (w : World) (B j : Nat) (ty : TypeId) (cs : Array Value) [h : BoxIs w B ty cs] : w.frozen? ⟨B, j, none⟩ = false := frozen_of_row _ _ _ _ _ h.has
instance (w : World) (B : Nat) (x : TyV) [h : BoxIs w B 116 x.cells.toArray] : BoxOf 116 18 w B := ⟨⟨_, h.has, rfl⟩⟩

instance (w : World) (B : Nat) (a0 a1 a2 a3 a4 a5 a6 a7 a8 a9 a10 a11 a12 a13 a14 a15 a16 a17 : Value) [h : BoxIs w B 116 #[a0, a1, a2, a3, a4, a5, a6, a7, a8, a9, a10, a11, a12, a13, a14, a15, a16, a17]] : BoxOf 116 18 w B := ⟨⟨_, h.has, rfl⟩⟩
instance (w : World) (B : Nat) (a0 a1 a2 a3 a4 a5 a6 a7 a8 a9 a10 a11 a12 a13 a14 a15 a16 a17 a18 a19 a20 a21 : Value) [h : BoxIs w B 74 #[a0, a1, a2, a3, a4, a5, a6, a7, a8, a9, a10, a11, a12, a13, a14, a15, a16, a17, a18, a19, a20, a21]] : BoxOf 74 22 w B := ⟨⟨_, h.has, rfl⟩⟩
instance (w : World) (B : Nat) (x : EntV) [h : BoxIs w B 74 x.cells.toArray] : BoxOf 74 22 w B := ⟨⟨_, h.has, rfl⟩⟩
theorem Tryz.storeEntBox (x : EntV) (w : World) (B : Nat) [h : BoxOf 74 22 w B] : Sem.run Tryz.prog (storeCells ⟨B, 0, none⟩ x.cells) w = .ok () (w.setRow B x.cells.toArray) := by
  obtain ⟨c, hc, hs⟩ := h.has
  have := run_storeVar_row (P := Tryz.prog) w B 74 74 c x.cells.toArray hc (by simpa using Tryz.infoEnt x) (by simpa [EntV.len] using hs) x.one
  cases hq : Tryz.prog.info? 74 with
  | none => have h1 := Tryz.infoEnt x; rw [hq] at h1; cases h1
  | some i =>
    have hsz : x.cells.toArray.size = i.size := by have := Tryz.infoEnt x; simp [hq] at this; simp; omega
    simpa [storeVar, sizeOf, typeInfo, hq, Value.cells, hsz] using this
attribute [go_sem] Tryz.storeEntBox
def buildTy0 : Sem Next := do return .value (← Instr.build 116 #[])
@[go_sem ↓] theorem execOp_buildTy0 (ρ : Operand → Value) (dst : Option Tmp) (ty : TypeId) (pos : String) (after : Array Edge) (guard : Option (Nat × Bool)) :
    execOp ρ { dst, op := .build 116 #[], type := ty, pos, after, guard } = buildTy0 := by simp [execOp, buildTy0]
@[go_sem] theorem run_buildTy0 (w : World) : Sem.run Tryz.prog buildTy0 w = .ok (.value (.agg zeroT.cells.toArray)) w := by kernel_rfl
def buildEnt0 : Sem Next := do return .value (← Instr.build 74 #[])
@[go_sem ↓] theorem execOp_buildEnt0 (ρ : Operand → Value) (dst : Option Tmp) (ty : TypeId) (pos : String) (after : Array Edge) (guard : Option (Nat × Bool)) :
    execOp ρ { dst, op := .build 74 #[], type := ty, pos, after, guard } = buildEnt0 := by simp [execOp, buildEnt0]
@[go_sem] theorem run_buildEnt0 (w : World) : Sem.run Tryz.prog buildEnt0 w = .ok (.value (.agg zeroE.cells.toArray)) w := by kernel_rfl

theorem range_is {w : World} {B : Nat} {ty : TypeId} {l : List Value} (h : w.heap[B]? = some (.cells l.toArray ty (0, 0))) : w.rangeAt B 0 l := by
  intro j u hu
  rw [Nat.zero_add, cell_of_row _ _ _ _ _ _ h]
  simpa using hu
instance (w : World) (B : Nat) (x : TyV) [h : BoxIs w B 116 x.cells.toArray] : TyAt w B 0 x := ⟨range_is h.has⟩
instance (w : World) (B : Nat) [h : BoxIs w B 116 #[.int .u8 0, .string ⟨#[]⟩, .int .i64 0, .int .i64 0, .slice none 0 0, .int .i64 0, .int .i64 0, .int .i64 0, .string ⟨#[]⟩, .bool false, .int .i64 0, .slice none 0 0, .int .i64 0, .int .u8 0, .bool false, .int .i64 0, .int .i64 0, .int .i64 0]] : TyAt w B 0 zeroT := ⟨range_is (l := zeroT.cells) h.has⟩
instance (w : World) (B : Nat) (x : EntV) [h : BoxIs w B 74 x.cells.toArray] : EntAt w B 0 x := ⟨range_is h.has⟩
instance (w : World) (B : Nat) [h : BoxIs w B 74 #[.int .u8 0, .string ⟨#[]⟩, .int .i64 0, .int .u8 0, .int .i64 0, .int .i64 0, .slice none 0 0, .int .i64 0, .bool false, .int .i64 0, .int .i64 0, .bool false, .bool false, .int .u8 0, .int .i64 0, .int .i64 0, .int .i64 0, .bool false, .bool false, .int .i64 0, .int .i64 0, .int .i64 0]] : EntAt w B 0 zeroE := ⟨range_is (l := zeroE.cells) h.has⟩
instance (w : World) (B : Nat) (x : ExV) [h : BoxIs w B 34 x.cells.toArray] : ExAt w B 0 x := ⟨range_is h.has⟩
instance (w : World) (B : Nat) (a b c : Int) [h : BoxIs w B 121 #[.int .i64 a, .int .i64 b, .int .i64 c]] : SubAt w B 0 ⟨a, b, c⟩ := ⟨range_is (l := (SubtV.mk a b c).cells) h.has⟩
/-- What lies at an address reads as a value. -/
class LoadsAs (w : World) (t : TypeId) (ad : Addr) (v : outParam Value) : Prop where
  run : (loadVar t ad).run Tryz.prog w = .ok v w
class CsLen (cs : Array Value) (n : Nat) : Prop where
  len : cs.size = n
instance (a b : Value) : CsLen #[a, b] 2 := ⟨rfl⟩
instance (a b c : Value) : CsLen #[a, b, c] 3 := ⟨rfl⟩
instance (a b c d e : Value) : CsLen #[a, b, c, d, e] 5 := ⟨rfl⟩
instance (cs : Array Value) (n i : Nat) (u : Value) [h : CsLen cs n] : CsLen (cs.setIfInBounds i u) n := ⟨by simp [h.len]⟩
instance (w : World) (B o : Nat) (x : TyV) [h : TyAt w B o x] : LoadsAs w 116 ⟨B, o, none⟩ (.agg x.cells.toArray) := ⟨run_loadVar_mid w B o 116 x.cells _ h.range Tryz.underlying116 rfl (Tryz.infoTy x)⟩
instance (w : World) (B o : Nat) (x : EntV) [h : EntAt w B o x] : LoadsAs w 74 ⟨B, o, none⟩ (.agg x.cells.toArray) := ⟨run_loadVar_mid w B o 74 x.cells _ h.range Tryz.underlying74 rfl (Tryz.infoEnt x)⟩
instance (w : World) (B o : Nat) (x : ExV) [h : ExAt w B o x] : LoadsAs w 34 ⟨B, o, none⟩ (.agg x.cells.toArray) := ⟨run_loadVar_mid w B o 34 x.cells _ h.range Tryz.underlying34 rfl (Tryz.infoEx x)⟩
theorem Tryz.infoSub3 : (Tryz.prog.info? 121).map (·.size) = some 3 := by kernel_rfl
theorem Tryz.infoBd2 : (Tryz.prog.info? 43).map (·.size) = some 2 := by kernel_rfl
instance (w : World) (B : Nat) (cs : Array Value) [h : BoxIs w B 121 cs] [n : CsLen cs 3] : LoadsAs w 121 ⟨B, 0, none⟩ (.agg cs) := ⟨by
  have := run_loadVar_mid (P := Tryz.prog) w B 0 121 cs.toList _ (range_is (by simpa using h.has)) Tryz.underlying121 rfl (by rw [Tryz.infoSub3]; simp [n.len])
  simpa using this⟩
instance (w : World) (B : Nat) (cs : Array Value) [h : BoxIs w B 43 cs] [n : CsLen cs 2] : LoadsAs w 43 ⟨B, 0, none⟩ (.agg cs) := ⟨by
  have := run_loadVar_mid (P := Tryz.prog) w B 0 43 cs.toList _ (range_is (by simpa using h.has)) Tryz.underlying43 rfl (by rw [Tryz.infoBd2]; simp [n.len])
  simpa using this⟩
def ResAt (tmps : Array Value) (w : World) : ResultVar → Value → Prop
  | .tmp t, v => tmps.getD t undef = v
  | .cell a t, v => ∃ ad, tmps.getD a undef = .pointer (some ad) ∧ (loadVar t ad).run Tryz.prog w = .ok v w
def resG (tmps : Array Value) (r : ResultVar) : Sem Value :=
  match r with
  | .tmp t => pure (tmps.getD t undef)
  | .cell a t => do loadVar t (← asAddr (tmps.getD a undef))
theorem resG_run {tmps : Array Value} {w : World} {r : ResultVar} {v : Value} (h : ResAt tmps w r v) : (resG tmps r).run Tryz.prog w = .ok v w := by
  cases r with
  | tmp t => simp only [ResAt] at h; simp [resG, h]
  | cell a t =>
    obtain ⟨ad, h1, h2⟩ := h
    simp only [resG, h1, asAddr, Sem.run_bind, Sem.run_pure, Result.andThen_ok, h2]
theorem results_G (fn : Func) (tmps : Array Value) : results fn tmps = (do let vs ← fn.results.mapM (resG tmps); pure (if h : vs.size = 1 then vs[0] else .tuple vs)) := rfl
theorem res1 {fn : Func} {tmps : Array Value} {w : World} {r1 : ResultVar} {v1 : Value} (hf : fn.results = #[r1]) (h1 : ResAt tmps w r1 v1) : (results fn tmps).run Tryz.prog w = .ok v1 w := by
  have e1 := resG_run h1
  rw [results_G, hf]
  simp [e1]
theorem res2 {fn : Func} {tmps : Array Value} {w : World} {r1 r2 : ResultVar} {v1 v2 : Value} (hf : fn.results = #[r1, r2]) (h1 : ResAt tmps w r1 v1) (h2 : ResAt tmps w r2 v2) : (results fn tmps).run Tryz.prog w = .ok (.tuple #[v1, v2]) w := by
  have e1 := resG_run h1
  have e2 := resG_run h2
  rw [results_G, hf]
  simp [e1, e2]
theorem res3 {fn : Func} {tmps : Array Value} {w : World} {r1 r2 r3 : ResultVar} {v1 v2 v3 : Value} (hf : fn.results = #[r1, r2, r3]) (h1 : ResAt tmps w r1 v1) (h2 : ResAt tmps w r2 v2) (h3 : ResAt tmps w r3 v3) : (results fn tmps).run Tryz.prog w = .ok (.tuple #[v1, v2, v3]) w := by
  have e1 := resG_run h1
  have e2 := resG_run h2
  have e3 := resG_run h3
  rw [results_G, hf]
  simp [e1, e2, e3]
theorem resT {tmps : Array Value} {w : World} {t : Tmp} {v : Value} (h : tmps.getD t undef = v) : ResAt tmps w (.tmp t) v := h
theorem resC {tmps : Array Value} {w : World} {a : Tmp} {t : TypeId} {ad : Addr} {v : Value} (h : tmps.getD a undef = .pointer (some ad)) (hl : LoadsAs w t ad v) : ResAt tmps w (.cell a t) v := ⟨ad, h, hl.run⟩
theorem Kept.row' {w w' : World} (h : Kept [] w w') (B : Nat) (cs : Array Value) (hB : w.heap.size ≤ B) : Kept [] w (w'.setRow B cs) :=
  (Kept.trans (h.mono (Y := [B]) (by simp)) (Kept.setRow w' B cs (by simp))).mono' (fun x hx hl => by simp at hx; omega)
theorem Kept.setB {w w' : World} (h : Kept [] w w') (b j : Nat) (u : Value) (hB : w.heap.size ≤ b) : Kept [] w (w'.setCell ⟨b, j, none⟩ u) := h.set' _ _ hB
/-- A block below another. -/
class LtB (a b : Nat) : Prop where
  lt : a < b
instance (k : Nat) : LtB k (k + 1) := ⟨by omega⟩
instance (a b : Nat) [h : LtB a b] : LtB a (b + 1) := ⟨by have := h.lt; omega⟩
instance (w : World) (B : Nat) (ty : TypeId) (cs : Array Value) [h : BoxIs w B ty cs] : LtB B w.heap.size := ⟨h.lt⟩
instance (a b : Nat) [h : LtB a b] : Apart a b := ⟨by have := h.lt; omega⟩
instance (a b : Nat) [h : LtB b a] : Apart a b := ⟨by have := h.lt; omega⟩
end Go.Proofs.YtgdjhhfbpalkdaaGreat
