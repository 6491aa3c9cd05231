/- Tables and entities as they lie in memory. -/
import Derived.Test.YtgdjhhfbpalkdaaK0
import Derived.Test.YtgdjhhfbpalkdaaProg
import Derived.Deep.WholeRow
namespace Go.Proofs.Ytgdjhhfbpalkdaa
open Go.RowKit

structure ParamV where
  name : ByteArray
  mode : Int
  sub : Int
  dkind : Int
  doper : Int
  dn : Int
  ds : ByteArray
  dla : Option Addr
  dll : Nat
  dlc : Nat
  daa : Option Addr
  dal : Nat
  dac : Nat
  dline : Int
  dent : Int
  dt : Int
  ent : Int
deriving Inhabited
structure EntV where
  kind : Int
  name : ByteArray
  owner : Int
  part : Int
  t : Int
  sub : Int
  pa : Option Addr
  pc : Nat
  params : List ParamV
  of_ : Int
  ren : Bool
  level : Int
  value : Int
  static : Bool
  aliased : Bool
  mode : Int
  a0 : Int
  a1 : Int
  a2 : Int
  generic : Bool
  body : Bool
  final : Int
  unit : Int
  line : Int
deriving Inhabited
structure SubtV where
  t : Int
  lo : Int
  hi : Int
deriving Inhabited
structure CompV where
  name : ByteArray
  sub : Int
  has : Bool
  deflt : Int
  variant : Bool
  wa : Option Addr
  wc : Nat
  whens : List Int
deriving Inhabited
structure TyV where
  kind : Int
  name : ByteArray
  parent : Int
  first : Int
  la : Option Addr
  lc : Nat
  lits : List ByteArray
  index : Int
  elem : Int
  disc : Int
  discName : ByteArray
  has : Bool
  deflt : Int
  ca : Option Addr
  cc : Nat
  comps : List CompV
  target : Int
  formal : Int
  limited : Bool
  priv : Int
  full : Int
  level : Int
deriving Inhabited
structure Tab where
  types : List TyV
  subs : List SubtV
  ents : List EntV

def ParamV.cells (x : ParamV) : List Value := [.string x.name, .int .u8 x.mode, .int .i64 x.sub, .int .u8 x.dkind, .int .u8 x.doper, .int .i64 x.dn, .string x.ds, .slice x.dla x.dll x.dlc, .slice x.daa x.dal x.dac, .int .i64 x.dline, .int .i64 x.dent, .int .i64 x.dt, .int .i64 x.ent]
def EntV.cells (x : EntV) : List Value := [.int .u8 x.kind, .string x.name, .int .i64 x.owner, .int .u8 x.part, .int .i64 x.t, .int .i64 x.sub, .slice x.pa x.params.length x.pc, .int .i64 x.of_, .bool x.ren, .int .i64 x.level, .int .i64 x.value, .bool x.static, .bool x.aliased, .int .u8 x.mode, .int .i64 x.a0, .int .i64 x.a1, .int .i64 x.a2, .bool x.generic, .bool x.body, .int .i64 x.final, .int .i64 x.unit, .int .i64 x.line]
def SubtV.cells (x : SubtV) : List Value := [.int .i64 x.t, .int .i64 x.lo, .int .i64 x.hi]
def CompV.cells (x : CompV) : List Value := [.string x.name, .int .i64 x.sub, .bool x.has, .int .i64 x.deflt, .bool x.variant, .slice x.wa x.whens.length x.wc]
def TyV.cells (x : TyV) : List Value := [.int .u8 x.kind, .string x.name, .int .i64 x.parent, .int .i64 x.first, .slice x.la x.lits.length x.lc, .int .i64 x.index, .int .i64 x.elem, .int .i64 x.disc, .string x.discName, .bool x.has, .int .i64 x.deflt, .slice x.ca x.comps.length x.cc, .int .i64 x.target, .int .u8 x.formal, .bool x.limited, .int .i64 x.priv, .int .i64 x.full, .int .i64 x.level]

/-- The entity of no kind. -/
def zeroE : EntV := ⟨0, ⟨#[]⟩, 0, 0, 0, 0, none, 0, [], 0, false, 0, 0, false, false, 0, 0, 0, 0, false, false, 0, 0, 0⟩

/-- The five slices of a table. -/
structure TabV where
  ta : Option Addr
  tc : Nat
  sa : Option Addr
  sc : Nat
  ea : Option Addr
  ec : Nat
  ga : Option Addr
  gn : Nat
  gc : Nat
  ia : Option Addr
  im : Nat
  ic : Nat
def TabV.cells (v : TabV) (t : Tab) : Array Value := #[.slice v.ta t.types.length v.tc, .slice v.sa t.subs.length v.sc, .slice v.ea t.ents.length v.ec, .slice v.ga v.gn v.gc, .slice v.ia v.im v.ic]

structure EntV.Ok (x : EntV) : Prop where
  p1 : x.params.length ≤ x.pc
  p2 : x.pc ≤ 9223372036854775807
  p3 : x.pa = none → x.pc = 0
  p4 : x.params.length ≤ 140737488355328
  s4 : x.name.size ≤ 140737488355328

/-- Entities, types and subtypes of a table. -/
structure TabIn (w : World) (v : TabV) (t : Tab) : Prop where
  es : RowsAt EntV 22 EntV.cells w v.ea t.ents
  ss : RowsAt SubtV 3 SubtV.cells w v.sa t.subs
  ts : RowsAt TyV 18 TyV.cells w v.ta t.types
  el : t.ents.length ≤ 140737488355328
  sl : t.subs.length ≤ 140737488355328
  tl : t.types.length ≤ 140737488355328
  ll : ∀ y, y ∈ t.types → y.lits.length ≤ 140737488355328
  sb : ∀ s, s ∈ t.subs → (-9223372036854775808 ≤ s.lo ∧ s.lo ≤ 9223372036854775807) ∧ (-9223372036854775808 ≤ s.hi ∧ s.hi ≤ 9223372036854775807)
  eb : ∀ x, x ∈ t.ents → -9223372036854775808 ≤ x.value ∧ x.value ≤ 9223372036854775807
theorem TabIn.kept {w w' : World} {v : TabV} {t : Tab} (h : TabIn w v t) (hk : Kept [] w w') : TabIn w' v t :=
  ⟨h.es.kept hk, h.ss.kept hk, h.ts.kept hk, h.el, h.sl, h.tl, h.ll, h.sb, h.eb⟩

@[go_sem] theorem EntV.len (x : EntV) : x.cells.length = 22 := rfl
@[go_sem] theorem ParamV.len (x : ParamV) : x.cells.length = 13 := rfl
theorem SubtV.len (x : SubtV) : x.cells.length = 3 := rfl
theorem EntV.one (x : EntV) : x.cells.toArray.all (·.oneCell') = true := by simp [EntV.cells, Value.oneCell']
theorem ParamV.one (x : ParamV) : x.cells.toArray.all (·.oneCell') = true := by simp [ParamV.cells, Value.oneCell']
theorem Try.infoEnt (x : EntV) : (Try.prog.info? 89).map (·.size) = some x.cells.length := by
  show _ = some 22
  kernel_rfl
theorem Try.info28 (v : TabV) (t : Tab) : (Try.prog.info? 28).map (·.size) = some (v.cells t).toList.length := by
  show _ = some 5
  kernel_rfl
theorem Try.info70 (v : TabV) (t : Tab) : (Try.prog.info? 70).map (·.size) = some (v.cells t).toList.length := by
  show _ = some 5
  kernel_rfl
theorem Try.info112 (v : TabV) (t : Tab) : (Try.prog.info? 112).map (·.size) = some (v.cells t).toList.length := by
  show _ = some 5
  kernel_rfl
theorem Try.infoPar (x : ParamV) : (Try.prog.info? 193).map (·.size) = some x.cells.length := by
  show _ = some 13
  kernel_rfl
/-- A whole struct into the block that was made last. -/
theorem wpList_store_new {P : Program} {ops : Array Oper} {rest : List Oper} {op : Oper} {a : Act} {w : World} {Q : Exit → Act → World → Prop} (hgd : op.guard = none) (ty : TypeId) (x y : Operand) (ho : op.op = .store ty x y)
    (c c' : Array Value) (k : Nat) (hx : a.eval x = .pointer (some ⟨k, 0, none⟩)) (hk : k = w.heap.size) (hy : a.eval y = .agg c')
    (hi : (P.info? ty).map (·.size) = some c'.size) (hc : c.size = c'.size) (h1 : c'.all (·.oneCell') = true)
    (h : wpList P ops Q rest (a.put op.dst undef) (w.alloc (.cells c' ty))) : wpList P ops Q (op :: rest) a (w.alloc (.cells c ty)) :=
  wpList_plain hgd fun _ hK => by
    subst hk
    unfold Oper.wp execOp
    simp only [ho, hx, hy, Sem.run_bind, run_storeAt_new w ty c c' hi hc h1, Result.andThen_ok, Sem.run_pure]
    exact hK _ _ h

theorem Kept.setRow {X : List Nat} (w : World) (g : Nat) (cs : Array Value) (h : g ∈ X) : Kept X w (w.setRow g cs) :=
  ⟨rfl, rfl, rfl, by simp, fun i hi hx => by
    have : g ≠ i := fun e => hx (e ▸ h)
    simp [World.setRow, Array.getElem?_modify, this]⟩
/-- A whole struct into a block that is there. -/
theorem wpList_store_row {P : Program} {ops : Array Oper} {rest : List Oper} {op : Oper} {a : Act} {w : World} {Q : Exit → Act → World → Prop} (hgd : op.guard = none) (ty : TypeId) (x y : Operand) (ho : op.op = .store ty x y)
    (B : Nat) (c c' : Array Value) (hx : a.eval x = .pointer (some ⟨B, 0, none⟩)) (hb : w.heap[B]? = some (.cells c ty (0, 0))) (hy : a.eval y = .agg c')
    (hi : (P.info? ty).map (·.size) = some c'.size) (hc : c.size = c'.size) (h1 : c'.all (·.oneCell') = true)
    (h : ∀ w', w'.heap[B]? = some (.cells c' ty (0, 0)) → Kept [B] w w' → wpList P ops Q rest (a.put op.dst undef) w') : wpList P ops Q (op :: rest) a w :=
  wpList_plain hgd fun _ hK => by
    unfold Oper.wp execOp
    simp only [ho, hx, hy, Instr.storeAt, Instr.sureAddr, Sem.run_bind, Sem.run_pure, Result.andThen_ok, run_storeVar_row w B ty ty c c' hb hi hc h1]
    exact hK _ _ (h _ (setRow_heap _ _ _ _ _ _ hb) (Kept.setRow _ _ _ (by simp)))

/-- A struct is read, under a guard that lets by. -/
theorem wpList_load_g {P : Program} {ops : Array Oper} {rest : List Oper} {op : Oper} {a : Act} {w : World} {Q : Exit → Act → World → Prop} (ty : TypeId) (x : Operand) (ho : op.op = .load ty x)
    (hw : Region.wanted op (yielded ops a.tmps) = true)
    (b o : Nat) (hx : a.eval x = .pointer (some ⟨b, o, none⟩)) (cs : List Value) (d : TypeDesc) (hc : w.rangeAt b o cs)
    (hu : P.underlying ty = some d) (hd : d.isRow = true) (hi : (P.info? ty).map (·.size) = some cs.length)
    (h : wpList P ops Q rest (a.put op.dst (.agg cs.toArray)) w) : wpList P ops Q (op :: rest) a w :=
  wpList_step fun _ hK => by
    simp only [hw, if_true]
    exact wp_load_mid ty x ho b o hx cs d hc hu hd hi (hK _ _ h)

@[go_sem high] theorem Try.storeEnt (x : EntV) (w : World) (k : Nat) (hk : k = w.heap.size) : Sem.run Try.prog (storeCells ⟨k, 0, none⟩ x.cells)
    (w.alloc (.cells #[.int .u8 0, .string ⟨#[]⟩, .int .i64 0, .int .u8 0, .int .i64 0, .int .i64 0, .slice none 0 0, .int .i64 0, .bool false, .int .i64 0, .int .i64 0, .bool false, .bool false, .int .u8 0, .int .i64 0, .int .i64 0, .int .i64 0, .bool false, .bool false, .int .i64 0, .int .i64 0, .int .i64 0] 89)) = .ok () (w.alloc (.cells x.cells.toArray 89)) := by
  subst hk
  exact run_storeCells_new w 89 _ x.cells.toArray (by simpa using Try.infoEnt x) (by simp [EntV.cells]) x.one
end Go.Proofs.Ytgdjhhfbpalkdaa
