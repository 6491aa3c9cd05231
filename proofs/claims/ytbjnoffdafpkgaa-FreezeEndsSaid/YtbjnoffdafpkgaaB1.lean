/- Tables as they lie in memory. -/
import Derived.Test.YtbjnoffdafpkgaaA5
import Derived.Deep.MidRow
import Derived.Deep.WholeRow
namespace Go.Proofs.Ytbjnoffdafpkgaa
open Go.RowKit

structure CRow where
  name : ByteArray
  sub : Int
  has : Bool
  deflt : Int
  variant : Bool
  whenA : Option Addr
  whenN : Nat
  whenC : Nat

structure TyRow where
  kind : Int
  name : ByteArray
  parent : Int
  first : Int
  litsA : Option Addr
  litsN : Nat
  litsC : Nat
  index : Int
  elem : Int
  disc : Int
  discName : ByteArray
  has : Bool
  deflt : Int
  compsA : Option Addr
  compsC : Nat
  comps : List CRow
  target : Int
  formal : Int
  limited : Bool
  priv : Int
  full : Int
  level : Int

structure Tab where
  types : List TyRow
  subs : List Int

/-- The cells of a component. -/
def CRow.cells (x : CRow) : List Value := [.string x.name, .int .i64 x.sub, .bool x.has, .int .i64 x.deflt, .bool x.variant, .slice x.whenA x.whenN x.whenC]

def CompsIn (w : World) (a : Option Addr) (l : List CRow) : Prop :=
  ∀ k x, l[k]? = some x → ∃ b o, a = some ⟨b, o, none⟩ ∧ w.rangeAt b (o + k * 6) x.cells

/-- The cells of a type. -/
def TyRow.cells (x : TyRow) : List Value := [.int .u8 x.kind, .string x.name, .int .i64 x.parent, .int .i64 x.first, .slice x.litsA x.litsN x.litsC, .int .i64 x.index, .int .i64 x.elem, .int .i64 x.disc, .string x.discName, .bool x.has, .int .i64 x.deflt, .slice x.compsA x.comps.length x.compsC, .int .i64 x.target, .int .u8 x.formal, .bool x.limited, .int .i64 x.priv, .int .i64 x.full, .int .i64 x.level]

def TyRowAt (w : World) (b o : Nat) (x : TyRow) : Prop := w.rangeAt b o x.cells ∧ CompsIn w x.compsA x.comps

def TypesIn (w : World) (a : Option Addr) (l : List TyRow) : Prop :=
  ∀ k x, l[k]? = some x → ∃ b o, a = some ⟨b, o, none⟩ ∧ TyRowAt w b (o + k * 18) x

def SubsIn (w : World) (a : Option Addr) (l : List Int) : Prop :=
  ∀ s, s < l.length → ∃ b o, a = some ⟨b, o, none⟩ ∧ w.cell? ⟨b, o + s * 3, none⟩ = some (.int .i64 (l.getD s 0))

/-- The five slices of a table. -/
structure TabV where
  ta : Option Addr
  tc : Nat
  sa : Option Addr
  sc : Nat
  ea : Option Addr
  en : Nat
  ec : Nat
  ga : Option Addr
  gn : Nat
  gc : Nat
  ia : Option Addr
  im : Nat
  ic : Nat

def TabV.cells (v : TabV) (t : Tab) : Array Value := #[.slice v.ta t.types.length v.tc, .slice v.sa t.subs.length v.sc, .slice v.ea v.en v.ec, .slice v.ga v.gn v.gc, .slice v.ia v.im v.ic]

def TabIn (w : World) (v : TabV) (t : Tab) : Prop :=
  TypesIn w v.ta t.types ∧ SubsIn w v.sa t.subs ∧ t.types.length ≤ 9223372036854775807 ∧ t.subs.length ≤ 9223372036854775807

theorem cell_kept {w w' : World} {B : Nat} (hb : Below B w w') {p : Addr} {v : Value} (hp : p.block < B) (h : w.cell? p = some v) : w'.cell? p = some v := (hb.cell hp).trans h
theorem cell_kept' {w w' : World} (hb : Below w.heap.size w w') {p : Addr} {v : Value} (h : w.cell? p = some v) : w'.cell? p = some v := (hb.cell (World.block_lt_of_cell? w p h)).trans h

theorem rangeAt_kept {w w' : World} (hb : Below w.heap.size w w') {b o : Nat} {cs : List Value} (h : w.rangeAt b o cs) : w'.rangeAt b o cs := fun j v hv => cell_kept' hb (h j v hv)
theorem CompsIn.kept {w w' : World} (hb : Below w.heap.size w w') {a : Option Addr} {l : List CRow} (h : CompsIn w a l) : CompsIn w' a l := by
  intro k x hx
  obtain ⟨b, o, ha, hr⟩ := h k x hx
  exact ⟨b, o, ha, rangeAt_kept hb hr⟩
theorem TyRowAt.kept {w w' : World} (hb : Below w.heap.size w w') {b o : Nat} {x : TyRow} (h : TyRowAt w b o x) : TyRowAt w' b o x := ⟨rangeAt_kept hb h.1, h.2.kept hb⟩
theorem TypesIn.kept {w w' : World} (hb : Below w.heap.size w w') {a : Option Addr} {l : List TyRow} (h : TypesIn w a l) : TypesIn w' a l := by
  intro k x hx
  obtain ⟨b, o, ha, hr⟩ := h k x hx
  exact ⟨b, o, ha, hr.kept hb⟩
theorem SubsIn.kept {w w' : World} (hb : Below w.heap.size w w') {a : Option Addr} {l : List Int} (h : SubsIn w a l) : SubsIn w' a l := by
  intro k hx
  obtain ⟨b, o, ha, hr⟩ := h k hx
  exact ⟨b, o, ha, cell_kept' hb hr⟩
theorem TabIn.kept {w w' : World} (hb : Below w.heap.size w w') {v : TabV} {t : Tab} (h : TabIn w v t) : TabIn w' v t := ⟨h.1.kept hb, h.2.1.kept hb, h.2.2⟩

/-- A whole struct into the block that was made last. -/
theorem wpList_store_new {P : Program} {ops : Array Oper} {rest : List Oper} {op : Oper} {a : Act} {w : World} {Q : Exit → Act → World → Prop} (hgd : op.guard = none) (ty : TypeId) (x y : Operand) (ho : op.op = .store ty x y)
    (c c' : Array Value) (hx : a.eval x = .pointer (some ⟨w.heap.size, 0, none⟩)) (hy : a.eval y = .agg c')
    (hi : (P.info? ty).map (·.size) = some c'.size) (hc : c.size = c'.size) (h1 : c'.all (·.oneCell') = true)
    (h : wpList P ops Q rest (a.put op.dst undef) (w.alloc (.cells c' ty))) : wpList P ops Q (op :: rest) a (w.alloc (.cells c ty)) :=
  wpList_plain hgd fun _ hK => by
    unfold Oper.wp execOp
    simp only [ho, hx, hy, Sem.run_bind, run_storeAt_new w ty c c' hi hc h1, Result.andThen_ok, Sem.run_pure]
    exact hK _ _ h

theorem Try.info51 (x : TyRow) : (Try.prog.info? 51).map (·.size) = some x.cells.length := by
  show _ = some 18
  kernel_rfl
theorem Try.info75 (x : CRow) : (Try.prog.info? 75).map (·.size) = some x.cells.length := by
  show _ = some 6
  kernel_rfl
@[go_sem] theorem TyRow.len (x : TyRow) : x.cells.length = 18 := rfl
@[go_sem] theorem CRow.len (x : CRow) : x.cells.length = 6 := rfl
theorem TyRow.one (x : TyRow) : x.cells.toArray.all (·.oneCell') = true := by simp [TyRow.cells, Value.oneCell']
theorem CRow.one (x : CRow) : x.cells.toArray.all (·.oneCell') = true := by simp [CRow.cells, Value.oneCell']

@[go_sem] theorem Try.store51 (x : TyRow) (w : World) : Sem.run Try.prog (storeCells ⟨w.heap.size, 0, none⟩ x.cells)
    (w.alloc (.cells #[.int .u8 0, .string ⟨#[]⟩, .int .i64 0, .int .i64 0, .slice none 0 0, .int .i64 0, .int .i64 0, .int .i64 0, .string ⟨#[]⟩, .bool false, .int .i64 0, .slice none 0 0, .int .i64 0, .int .u8 0, .bool false, .int .i64 0, .int .i64 0, .int .i64 0] 51)) = .ok () (w.alloc (.cells x.cells.toArray 51)) :=
  run_storeCells_new w 51 _ x.cells.toArray (by simpa using Try.info51 x) (by simp [TyRow.cells]) x.one
@[go_sem] theorem Try.store75 (x : CRow) (w : World) : Sem.run Try.prog (storeCells ⟨w.heap.size, 0, none⟩ x.cells)
    (w.alloc (.cells #[.string ⟨#[]⟩, .int .i64 0, .bool false, .int .i64 0, .bool false, .slice none 0 0] 75)) = .ok () (w.alloc (.cells x.cells.toArray 75)) :=
  run_storeCells_new w 75 _ x.cells.toArray (by simpa using Try.info75 x) (by simp [CRow.cells]) x.one
end Go.Proofs.Ytbjnoffdafpkgaa
