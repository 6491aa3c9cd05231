/- Tables and entities as they lie in memory. Static expressions as plain Lean: the tree of an expression; what is static, and its value. -/
import Derived.Test.YtgdjhhfbpalkdaaGreatK0
import Derived.Test.YtgdjhhfbpalkdaaGreatProg
import Derived.Deep.WholeRow
namespace Go.Proofs.YtgdjhhfbpalkdaaGreat
open Go.RowKit

structure ParamV where
  name : ByteArray
  mode : Int
  sub : Int
  dkind : Int
  doper : Int
  dn : Int
  ds : ByteArray
  dla : Option Addr
  dll : Nat
  dlc : Nat
  daa : Option Addr
  dal : Nat
  dac : Nat
  dline : Int
  dent : Int
  dt : Int
  ent : Int
deriving Inhabited
structure EntV where
  kind : Int
  name : ByteArray
  owner : Int
  part : Int
  t : Int
  sub : Int
  pa : Option Addr
  pc : Nat
  params : List ParamV
  of_ : Int
  ren : Bool
  level : Int
  value : Int
  static : Bool
  aliased : Bool
  mode : Int
  a0 : Int
  a1 : Int
  a2 : Int
  generic : Bool
  body : Bool
  final : Int
  unit : Int
  line : Int
deriving Inhabited
structure SubtV where
  t : Int
  lo : Int
  hi : Int
deriving Inhabited
structure CompV where
  name : ByteArray
  sub : Int
  has : Bool
  deflt : Int
  variant : Bool
  wa : Option Addr
  wc : Nat
  whens : List Int
deriving Inhabited
structure TyV where
  kind : Int
  name : ByteArray
  parent : Int
  first : Int
  la : Option Addr
  lc : Nat
  lits : List ByteArray
  index : Int
  elem : Int
  disc : Int
  discName : ByteArray
  has : Bool
  deflt : Int
  ca : Option Addr
  cc : Nat
  comps : List CompV
  target : Int
  formal : Int
  limited : Bool
  priv : Int
  full : Int
  level : Int
deriving Inhabited
structure Tab where
  types : List TyV
  subs : List SubtV
  ents : List EntV

def ParamV.cells (x : ParamV) : List Value := [.string x.name, .int .u8 x.mode, .int .i64 x.sub, .int .u8 x.dkind, .int .u8 x.doper, .int .i64 x.dn, .string x.ds, .slice x.dla x.dll x.dlc, .slice x.daa x.dal x.dac, .int .i64 x.dline, .int .i64 x.dent, .int .i64 x.dt, .int .i64 x.ent]
def EntV.cells (x : EntV) : List Value := [.int .u8 x.kind, .string x.name, .int .i64 x.owner, .int .u8 x.part, .int .i64 x.t, .int .i64 x.sub, .slice x.pa x.params.length x.pc, .int .i64 x.of_, .bool x.ren, .int .i64 x.level, .int .i64 x.value, .bool x.static, .bool x.aliased, .int .u8 x.mode, .int .i64 x.a0, .int .i64 x.a1, .int .i64 x.a2, .bool x.generic, .bool x.body, .int .i64 x.final, .int .i64 x.unit, .int .i64 x.line]
def SubtV.cells (x : SubtV) : List Value := [.int .i64 x.t, .int .i64 x.lo, .int .i64 x.hi]
def CompV.cells (x : CompV) : List Value := [.string x.name, .int .i64 x.sub, .bool x.has, .int .i64 x.deflt, .bool x.variant, .slice x.wa x.whens.length x.wc]
def TyV.cells (x : TyV) : List Value := [.int .u8 x.kind, .string x.name, .int .i64 x.parent, .int .i64 x.first, .slice x.la x.lits.length x.lc, .int .i64 x.index, .int .i64 x.elem, .int .i64 x.disc, .string x.discName, .bool x.has, .int .i64 x.deflt, .slice x.ca x.comps.length x.cc, .int .i64 x.target, .int .u8 x.formal, .bool x.limited, .int .i64 x.priv, .int .i64 x.full, .int .i64 x.level]

/-- The entity of no kind. -/
def zeroE : EntV := ⟨0, ⟨#[]⟩, 0, 0, 0, 0, none, 0, [], 0, false, 0, 0, false, false, 0, 0, 0, 0, false, false, 0, 0, 0⟩

/-- The five slices of a table. -/
structure TabV where
  ta : Option Addr
  tc : Nat
  sa : Option Addr
  sc : Nat
  ea : Option Addr
  ec : Nat
  ga : Option Addr
  gn : Nat
  gc : Nat
  ia : Option Addr
  im : Nat
  ic : Nat
def TabV.cells (v : TabV) (t : Tab) : Array Value := #[.slice v.ta t.types.length v.tc, .slice v.sa t.subs.length v.sc, .slice v.ea t.ents.length v.ec, .slice v.ga v.gn v.gc, .slice v.ia v.im v.ic]

structure EntV.Ok (x : EntV) : Prop where
  p1 : x.params.length ≤ x.pc
  p2 : x.pc ≤ 9223372036854775807
  p3 : x.pa = none → x.pc = 0
  p4 : x.params.length ≤ 140737488355328
  s4 : x.name.size ≤ 140737488355328

/-- Entities, types and subtypes of a table. -/
structure TabIn (w : World) (v : TabV) (t : Tab) : Prop where
  es : RowsAt EntV 22 EntV.cells w v.ea t.ents
  ss : RowsAt SubtV 3 SubtV.cells w v.sa t.subs
  ts : RowsAt TyV 18 TyV.cells w v.ta t.types
  el : t.ents.length ≤ 140737488355328
  sl : t.subs.length ≤ 140737488355328
  tl : t.types.length ≤ 140737488355328
  ll : ∀ y, y ∈ t.types → y.lits.length ≤ 140737488355328
  sb : ∀ s, s ∈ t.subs → (-9223372036854775808 ≤ s.lo ∧ s.lo ≤ 9223372036854775807) ∧ (-9223372036854775808 ≤ s.hi ∧ s.hi ≤ 9223372036854775807)
  eb : ∀ x, x ∈ t.ents → -9223372036854775808 ≤ x.value ∧ x.value ≤ 9223372036854775807
theorem TabIn.kept {w w' : World} {v : TabV} {t : Tab} (h : TabIn w v t) (hk : Kept [] w w') : TabIn w' v t :=
  ⟨h.es.kept hk, h.ss.kept hk, h.ts.kept hk, h.el, h.sl, h.tl, h.ll, h.sb, h.eb⟩

@[go_sem] theorem EntV.len (x : EntV) : x.cells.length = 22 := rfl
@[go_sem] theorem ParamV.len (x : ParamV) : x.cells.length = 13 := rfl
theorem SubtV.len (x : SubtV) : x.cells.length = 3 := rfl
theorem EntV.one (x : EntV) : x.cells.toArray.all (·.oneCell') = true := by simp [EntV.cells, Value.oneCell']
theorem ParamV.one (x : ParamV) : x.cells.toArray.all (·.oneCell') = true := by simp [ParamV.cells, Value.oneCell']
theorem Tryz.infoEnt (x : EntV) : (Tryz.prog.info? 74).map (·.size) = some x.cells.length := by
  show _ = some 22
  kernel_rfl
theorem Tryz.info28 (v : TabV) (t : Tab) : (Tryz.prog.info? 28).map (·.size) = some (v.cells t).toList.length := by
  show _ = some 5
  kernel_rfl
theorem Tryz.info70 (v : TabV) (t : Tab) : (Tryz.prog.info? 61).map (·.size) = some (v.cells t).toList.length := by
  show _ = some 5
  kernel_rfl
theorem Tryz.info112 (v : TabV) (t : Tab) : (Tryz.prog.info? 133).map (·.size) = some (v.cells t).toList.length := by
  show _ = some 5
  kernel_rfl
theorem Tryz.infoPar (x : ParamV) : (Tryz.prog.info? 211).map (·.size) = some x.cells.length := by
  show _ = some 13
  kernel_rfl
/-- A whole struct into the block that was made last. -/
theorem wpList_store_new {P : Program} {ops : Array Oper} {rest : List Oper} {op : Oper} {a : Act} {w : World} {Q : Exit → Act → World → Prop} (hgd : op.guard = none) (ty : TypeId) (x y : Operand) (ho : op.op = .store ty x y)
    (c c' : Array Value) (k : Nat) (hx : a.eval x = .pointer (some ⟨k, 0, none⟩)) (hk : k = w.heap.size) (hy : a.eval y = .agg c')
    (hi : (P.info? ty).map (·.size) = some c'.size) (hc : c.size = c'.size) (h1 : c'.all (·.oneCell') = true)
    (h : wpList P ops Q rest (a.put op.dst undef) (w.alloc (.cells c' ty))) : wpList P ops Q (op :: rest) a (w.alloc (.cells c ty)) :=
  wpList_plain hgd fun _ hK => by
    subst hk
    unfold Oper.wp execOp
    simp only [ho, hx, hy, Sem.run_bind, run_storeAt_new w ty c c' hi hc h1, Result.andThen_ok, Sem.run_pure]
    exact hK _ _ h

theorem Kept.setRow {X : List Nat} (w : World) (g : Nat) (cs : Array Value) (h : g ∈ X) : Kept X w (w.setRow g cs) :=
  ⟨rfl, rfl, rfl, by simp, fun i hi hx => by
    have : g ≠ i := fun e => hx (e ▸ h)
    simp [World.setRow, Array.getElem?_modify, this]⟩
/-- A whole struct into a block that is there. -/
theorem wpList_store_row {P : Program} {ops : Array Oper} {rest : List Oper} {op : Oper} {a : Act} {w : World} {Q : Exit → Act → World → Prop} (hgd : op.guard = none) (ty : TypeId) (x y : Operand) (ho : op.op = .store ty x y)
    (B : Nat) (c c' : Array Value) (hx : a.eval x = .pointer (some ⟨B, 0, none⟩)) (hb : w.heap[B]? = some (.cells c ty (0, 0))) (hy : a.eval y = .agg c')
    (hi : (P.info? ty).map (·.size) = some c'.size) (hc : c.size = c'.size) (h1 : c'.all (·.oneCell') = true)
    (h : ∀ w', w'.heap[B]? = some (.cells c' ty (0, 0)) → Kept [B] w w' → wpList P ops Q rest (a.put op.dst undef) w') : wpList P ops Q (op :: rest) a w :=
  wpList_plain hgd fun _ hK => by
    unfold Oper.wp execOp
    simp only [ho, hx, hy, Instr.storeAt, Instr.sureAddr, Sem.run_bind, Sem.run_pure, Result.andThen_ok, run_storeVar_row w B ty ty c c' hb hi hc h1]
    exact hK _ _ (h _ (setRow_heap _ _ _ _ _ _ hb) (Kept.setRow _ _ _ (by simp)))

/-- A struct is read, under a guard that lets by. -/
theorem wpList_load_g {P : Program} {ops : Array Oper} {rest : List Oper} {op : Oper} {a : Act} {w : World} {Q : Exit → Act → World → Prop} (ty : TypeId) (x : Operand) (ho : op.op = .load ty x)
    (hw : Region.wanted op (yielded ops a.tmps) = true)
    (b o : Nat) (hx : a.eval x = .pointer (some ⟨b, o, none⟩)) (cs : List Value) (d : TypeDesc) (hc : w.rangeAt b o cs)
    (hu : P.underlying ty = some d) (hd : d.isRow = true) (hi : (P.info? ty).map (·.size) = some cs.length)
    (h : wpList P ops Q rest (a.put op.dst (.agg cs.toArray)) w) : wpList P ops Q (op :: rest) a w :=
  wpList_step fun _ hK => by
    simp only [hw, if_true]
    exact wp_load_mid ty x ho b o hx cs d hc hu hd hi (hK _ _ h)

@[go_sem high] theorem Tryz.storeEnt (x : EntV) (w : World) (k : Nat) (hk : k = w.heap.size) : Sem.run Tryz.prog (storeCells ⟨k, 0, none⟩ x.cells)
    (w.alloc (.cells #[.int .u8 0, .string ⟨#[]⟩, .int .i64 0, .int .u8 0, .int .i64 0, .int .i64 0, .slice none 0 0, .int .i64 0, .bool false, .int .i64 0, .int .i64 0, .bool false, .bool false, .int .u8 0, .int .i64 0, .int .i64 0, .int .i64 0, .bool false, .bool false, .int .i64 0, .int .i64 0, .int .i64 0] 74)) = .ok () (w.alloc (.cells x.cells.toArray 74)) := by
  subst hk
  exact run_storeCells_new w 74 _ x.cells.toArray (by simpa using Tryz.infoEnt x) (by simp [EntV.cells]) x.one
end Go.Proofs.YtgdjhhfbpalkdaaGreat
namespace Go.Proofs.YtgdjhhfbpalkdaaGreat
open Go.RowKit

/-- An expression with what lies below it. -/
inductive ExV where
  | mk (kind oper n : Int) (s : ByteArray) (la : Option Addr) (lc : Nat) (ls : List ExV) (aa : Option Addr) (ac : Nat) (al : List (Option Addr × Nat × Nat × ExV)) (line ent t : Int)
deriving Inhabited
/-- An association: its choices' slice, and its expression. -/
abbrev AsV := Option Addr × Nat × Nat × ExV
namespace ExV
def kind : ExV → Int | .mk k .. => k
def oper : ExV → Int | .mk _ o .. => o
def n : ExV → Int | .mk _ _ n .. => n
def s : ExV → ByteArray | .mk _ _ _ s .. => s
def la : ExV → Option Addr | .mk _ _ _ _ a .. => a
def lc : ExV → Nat | .mk _ _ _ _ _ c .. => c
def ls : ExV → List ExV | .mk _ _ _ _ _ _ l .. => l
def aa : ExV → Option Addr | .mk _ _ _ _ _ _ _ a .. => a
def ac : ExV → Nat | .mk _ _ _ _ _ _ _ _ c .. => c
def al : ExV → List AsV | .mk _ _ _ _ _ _ _ _ _ l .. => l
def line : ExV → Int | .mk _ _ _ _ _ _ _ _ _ _ l .. => l
def ent : ExV → Int | .mk _ _ _ _ _ _ _ _ _ _ _ e _ => e
def t : ExV → Int | .mk _ _ _ _ _ _ _ _ _ _ _ _ t => t
def cells (x : ExV) : List Value := [.int .u8 x.kind, .int .u8 x.oper, .int .i64 x.n, .string x.s, .slice x.la x.ls.length x.lc, .slice x.aa x.al.length x.ac, .int .i64 x.line, .int .i64 x.ent, .int .i64 x.t]
end ExV
def AsV.cells (x : AsV) : List Value := .slice x.1 x.2.1 x.2.2.1 :: x.2.2.2.cells
@[go_sem] theorem ExV.len (x : ExV) : x.cells.length = 9 := rfl
theorem AsV.len (x : AsV) : (AsV.cells x).length = 10 := rfl
theorem ExV.one (x : ExV) : x.cells.toArray.all (·.oneCell') = true := by simp [ExV.cells, Value.oneCell']

/-- An expression that lies in memory with all below it, to a depth. -/
def ExIn (w : World) : Nat → ExV → Prop
  | 0, _ => False
  | n + 1, x => RowsAt ExV 9 ExV.cells w x.la x.ls ∧ (∀ y, y ∈ x.ls → ExIn w n y) ∧ RowsAt AsV 10 AsV.cells w x.aa x.al ∧ (∀ y, y ∈ x.al → ExIn w n y.2.2.2) ∧
      x.ls.length ≤ 140737488355328 ∧ x.al.length ≤ 140737488355328 ∧ -9223372036854775808 ≤ x.n ∧ x.n ≤ 9223372036854775807
theorem ExIn.kept {w w' : World} (hk : Kept [] w w') : ∀ {n : Nat} {x : ExV}, ExIn w n x → ExIn w' n x
  | 0, _, h => h
  | _ + 1, _, ⟨h1, h2, h3, h4, h5⟩ => ⟨h1.kept hk, fun y hy => (h2 y hy).kept hk, h3.kept hk, fun y hy => (h4 y hy).kept hk, h5⟩
theorem ExIn.mono {w : World} : ∀ {n m : Nat} {x : ExV}, n ≤ m → ExIn w n x → ExIn w m x
  | 0, _, _, _, h => h.elim
  | n + 1, 0, _, hle, _ => absurd hle (by omega)
  | n + 1, m + 1, _, hle, ⟨h1, h2, h3, h4, h5⟩ => ⟨h1, fun y hy => (h2 y hy).mono (by omega), h3, fun y hy => (h4 y hy).mono (by omega), h5⟩

/-- A row of a list, by a number of Go's; d: there is none. -/
def atI {α : Type} (l : List α) (i : Int) (d : α) : α := if i < 0 then d else l.getD i.toNat d

abbrev Bd := Int × Int

/-- The range of a type. -/
def spanP (t : Tab) (ty : Int) : Option Bd :=
  if ty < 0 ∨ (t.types.length : Int) ≤ ty then none else
    let y := t.types.getD ty.toNat default
    if y.kind = 1 then some (-4611686018427387904, 4611686018427387904)
    else if y.formal ≠ 0 then none
    else if y.kind = 2 then some (-2147483648, 2147483647)
    else if y.kind = 3 then some (0, (y.lits.length : Int) - 1)
    else none
/-- The type of a subtype; none: there is none. -/
def tyP (t : Tab) (sub : Int) : Option (TyV × SubtV) :=
  if sub < 0 ∨ (t.subs.length : Int) ≤ sub then none else
    let s := t.subs.getD sub.toNat default
    if s.t < 0 ∨ (t.types.length : Int) ≤ s.t then none else some (t.types.getD s.t.toNat default, s)
def kindP (t : Tab) (sub : Int) : Int := match tyP t sub with | some (y, _) => y.kind | none => 0
def subP (t : Tab) (sub : Int) : SubtV := t.subs.getD sub.toNat default
/-- The values of a scalar subtype. -/
def rangeP (t : Tab) (sub : Int) : Option Bd :=
  if kindP t sub = 2 ∨ kindP t sub = 3 then some ((subP t sub).lo, (subP t sub).hi) else none
/-- The values of a plain subtype, and the range of its type. -/
def plainP (t : Tab) (sub : Int) : Option (Bd × Bd) :=
  match rangeP t sub with
  | none => none
  | some b => match spanP t (subP t sub).t with | none => none | some a => some (b, a)
def entP (t : Tab) (e : Int) : EntV := if e < 0 ∨ (t.ents.length : Int) ≤ e then zeroE else t.ents.getD e.toNat default
def namedP (x : ExV) : Bool := x.kind == 3 || x.kind == 4
def typedP (x : EntV) : Bool := x.kind == 5 || x.kind == 6
def objP (x : EntV) : Bool := x.kind == 7 || x.kind == 8 || x.kind == 15
def markP (t : Tab) (x : ExV) : Option (Bd × Bd) := if namedP x && typedP (entP t x.ent) then plainP t (entP t x.ent).sub else none
def indexP (t : Tab) (x : ExV) : Option Bd :=
  let e := entP t x.ent
  if namedP x && (typedP e || objP e) then
    match tyP t e.sub with
    | none => none
    | some (y, _) => if y.kind = 4 then match plainP t y.index with | none => none | some (b, _) => if b.1 ≤ b.2 then some b else none else none
  else none

def sFirst : ByteArray := ⟨#[70, 105, 114, 115, 116]⟩
def sLast : ByteArray := ⟨#[76, 97, 115, 116]⟩
def sLength : ByteArray := ⟨#[76, 101, 110, 103, 116, 104]⟩
def sPos : ByteArray := ⟨#[80, 111, 115]⟩
def sVal : ByteArray := ⟨#[86, 97, 108]⟩
def sSucc : ByteArray := ⟨#[83, 117, 99, 99]⟩
def sPred : ByteArray := ⟨#[80, 114, 101, 100]⟩

/-- The values to which an attribute without an argument refers. -/
def attrP (t : Tab) (x : ExV) : Option Bd :=
  match x.ls with
  | [y] =>
    match indexP t y with
    | some b => if x.s = sFirst ∨ x.s = sLast ∨ x.s = sLength then some b else none
    | none => match markP t y with
      | some (b, _) => if x.s = sFirst ∨ x.s = sLast then some b else none
      | none => none
  | _ => none
/-- What an attribute with an argument adds, whether it is checked. -/
def shiftP (s : ByteArray) : Option (Int × Bool) :=
  if s = sPos then some (0, false) else if s = sVal then some (0, true) else if s = sSucc then some (1, true) else if s = sPred then some (-1, true) else none
def arguedP (t : Tab) (x : ExV) : Option ((Int × Bool) × Bd) :=
  match x.ls with
  | p :: _ => match shiftP p.s with
    | none => none
    | some s => if p.kind = 6 then match p.ls with
        | [q] => match markP t q with | none => none | some (_, a) => some (s, a)
        | _ => none
      else none
  | [] => none
def callF (I : ExV → Bool) (t : Tab) (x : ExV) : Bool :=
  match x.ls, x.al with
  | [_], [a] => I a.2.2.2 && ((arguedP t x).isSome || typedP (entP t x.ent) && (plainP t (entP t x.ent).sub).isSome)
  | _, _ => false
def allF (I : ExV → Bool) (l : List ExV) (n : Nat) : Bool := decide (l.length = n) && l.all I
def inF (I : ExV → Bool) (t : Tab) (x : ExV) : Bool :=
  match x.ls with
  | [y, z] => (markP t z).isSome && I y
  | _ => allF I x.ls 3
def qualF (I : ExV → Bool) (t : Tab) (x : ExV) : Bool :=
  match x.ls with
  | [y, z] => (markP t y).isSome && I z
  | _ => false
/-- Whether an expression is static, if that is known of those below it. -/
def isF (I : ExV → Bool) (t : Tab) (x : ExV) : Bool :=
  (spanP t x.t).isSome &&
    (if x.kind = 1 then true
     else if x.kind = 3 ∨ x.kind = 4 then ((entP t x.ent).kind == 9 || (entP t x.ent).kind == 10 || (entP t x.ent).kind == 8 && (entP t x.ent).static)
     else if x.kind = 6 then (attrP t x).isSome
     else if x.kind = 7 then callF I t x
     else if x.kind = 8 then qualF I t x
     else if x.kind = 10 then allF I x.ls 3
     else if x.kind = 11 then decide (18 ≤ x.oper ∧ x.oper ≤ 21) && allF I x.ls 1
     else if x.kind = 12 then decide (1 ≤ x.oper ∧ x.oper ≤ 17) && allF I x.ls 2
     else if x.kind = 13 ∨ x.kind = 14 then inF I t x
     else false)
def isP (t : Tab) : Nat → ExV → Bool
  | 0, _ => false
  | n + 1, x => isF (isP t n) t x

def truthP (b : Bool) : Int := if b then 1 else 0
def withinP (v : Int) (b : Bd) : Option Int := if v < b.1 ∨ b.2 < v then none else some v
def absP (a : Int) : Int := if a < 0 then -a else a
def modP (a b : Int) : Int := let r := a.tmod b; if r ≠ 0 ∧ decide (r < 0) ≠ decide (b < 0) then r + b else r
/-- The value of an operator of two operands. -/
def opP (o a b : Int) : Option Int :=
  if o = 1 then some (wrap64 (a + b))
  else if o = 2 then some (wrap64 (a - b))
  else if o = 3 then some (if b ≠ 0 ∧ absP a > (4611686018427387904 : Int).tdiv (absP b) then 4611686018427387905 else a * b)
  else if o = 4 then (if b = 0 then none else some (a.tdiv b))
  else if o = 5 then (if b = 0 then none else some (modP a b))
  else if o = 6 then (if b = 0 then none else some (a.tmod b))
  else if o = 7 then some (truthP (a == b))
  else if o = 8 then some (truthP (a != b))
  else if o = 9 then some (truthP (decide (a < b)))
  else if o = 10 then some (truthP (decide (a ≤ b)))
  else if o = 11 then some (truthP (decide (b < a)))
  else if o = 12 then some (truthP (decide (b ≤ a)))
  else if o = 13 then some (truthP (a == 1 && b == 1))
  else if o = 14 then some (truthP (a != 0 || b != 0))
  else some (truthP (a != b))

def l0 (x : ExV) : ExV := x.ls.getD 0 default
def l1 (x : ExV) : ExV := x.ls.getD 1 default
def l2 (x : ExV) : ExV := x.ls.getD 2 default
def a0 (x : ExV) : ExV := (x.al.getD 0 default).2.2.2

def callV (V : ExV → Option Int) (t : Tab) (x : ExV) : Option Int :=
  match V (a0 x) with
  | none => none
  | some v => match arguedP t x with
    | some (s, a) => if s.2 then withinP (v + s.1) a else some v
    | none => match plainP t (entP t x.ent).sub with
      | some (b, _) => withinP v b
      | none => none
def qualV (V : ExV → Option Int) (t : Tab) (x : ExV) : Option Int :=
  match V (l1 x) with
  | none => none
  | some v => match markP t (l0 x) with
    | some (b, _) => withinP v b
    | none => none
/-- Whether a value is in a subtype or range. -/
def memV (V : ExV → Option Int) (t : Tab) (x : ExV) : Option Bool :=
  match V (l0 x) with
  | none => none
  | some v =>
    if x.ls.length = 2 then match markP t (l1 x) with
      | some (b, _) => some (decide (b.1 ≤ v) && decide (v ≤ b.2))
      | none => none
    else match V (l1 x) with
      | none => none
      | some lo => match V (l2 x) with
        | none => none
        | some hi => some (decide (lo ≤ v) && decide (v ≤ hi))
def monV (V : ExV → Option Int) (x : ExV) : Option Int :=
  match V (l0 x) with
  | none => none
  | some a => some (if x.oper = 19 then -a else if x.oper = 20 then absP a else if x.oper = 21 then truthP (a == 0) else a)
def dyV (V : ExV → Option Int) (x : ExV) : Option Int :=
  match V (l0 x) with
  | none => none
  | some a =>
    if x.oper = 16 ∧ a = 0 then some 0
    else if x.oper = 17 ∧ a ≠ 0 then some 1
    else match V (l1 x) with
      | none => none
      | some b => if x.oper = 16 ∨ x.oper = 17 then some b else opP x.oper a b
def ifV (V : ExV → Option Int) (x : ExV) : Option Int :=
  match V (l0 x) with
  | none => none
  | some a => if a = 1 then V (l1 x) else V (l2 x)
def attrV (t : Tab) (x : ExV) : Option Int :=
  match attrP t x with
  | none => none
  | some b => if x.s = sFirst then some b.1 else if x.s = sLast then some b.2 else if 4611686018427387904 ≤ b.2 - b.1 then none else some (b.2 - b.1 + 1)
def rawF (V : ExV → Option Int) (t : Tab) (x : ExV) : Option Int :=
  if x.kind = 1 then some x.n
  else if x.kind = 3 ∨ x.kind = 4 then some (entP t x.ent).value
  else if x.kind = 6 then attrV t x
  else if x.kind = 7 then callV V t x
  else if x.kind = 8 then qualV V t x
  else if x.kind = 10 then ifV V x
  else if x.kind = 13 then (memV V t x).map truthP
  else if x.kind = 14 then (memV V t x).map fun b => truthP (!b)
  else if x.kind = 11 then monV V x
  else dyV V x
def valF (V : ExV → Option Int) (t : Tab) (x : ExV) : Option Int :=
  match rawF V t x with
  | none => none
  | some v => match spanP t x.t with
    | none => none
    | some b => withinP v b
/-- The value of a static expression; none: it has none. -/
def valP (t : Tab) : Nat → ExV → Option Int
  | 0, _ => none
  | n + 1, x => valF (valP t n) t x
/-- Value: the value and the error. -/
def valueP (t : Tab) (n : Nat) (x : ExV) : Int × Int :=
  if isP t n x then match valP t n x with
    | some v => (v, 0)
    | none => (0, 71)
  else (0, 70)
end Go.Proofs.YtgdjhhfbpalkdaaGreat
