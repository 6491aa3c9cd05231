/- What the heads of drawn regions read, as instances; calls there. Maps that the call itself lays out with keys that are known, and one lookup. The map of shifts; expressions stored whole. fail, within, truth. -/
import Derived.Test.YtgdjhhfbpalkdaaGreatK9
namespace Go.Proofs.YtgdjhhfbpalkdaaGreat
open Go.RowKit

section
variable {w : World} {U : World → Prop}
theorem AfterU.prop (z : AfterU w U) : Kept [] w z.1 := z.2.1
instance (b o : Nat) (x : EntV) (z : AfterU w U) [h : EntAt w b o x] : EntAt z.1 b o x := h.kept z.2.1
instance (b o : Nat) (x : TyV) (z : AfterU w U) [h : TyAt w b o x] : TyAt z.1 b o x := h.kept z.2.1
instance (b o : Nat) (x : SubtV) (z : AfterU w U) [h : SubAt w b o x] : SubAt z.1 b o x := h.kept z.2.1
instance (b o : Nat) (x : ExV) (z : AfterU w U) [h : ExAt w b o x] : ExAt z.1 b o x := h.kept z.2.1
instance (B : Nat) (ty : TypeId) (cs : Array Value) (z : AfterU w U) [h : BoxIs w B ty cs] : BoxIs z.1 B ty cs := h.kept z.2.1
theorem AfterU.cell {p : Addr} {v : Value} (h : w.cell? p = some v) : ∀ z : AfterU w U, z.1.cell? p = some v := fun z => z.2.1.cell h (by simp)
theorem AfterU.mk {w' : World} (hU : UpC U) (z : AfterU w U) (h : Kept [] z.1 w') : ∃ z' : AfterU w U, w' = z'.1 := ⟨⟨w', z.2.1.trans h, hU _ _ z.2.2 h⟩, rfl⟩
theorem Calls.headV {P : Program} {f : FuncId} {args : Array Value} {v : Value} (hU : UpC U) {z : AfterU w U} (h : Calls P f args z.1 (RetV v z.1)) : Calls P f args z.1 fun e w'' => e = .returned v ∧ ∃ z' : AfterU w U, w'' = z'.1 :=
  h.mono fun _ _ ⟨he, hk⟩ => ⟨he, AfterU.mk hU z hk⟩
theorem Calls.headB {P : Program} {f : FuncId} {args : Array Value} {b : Bool} (hU : UpC U) {z : AfterU w U} (h : Calls P f args z.1 (RetB b z.1)) : Calls P f args z.1 fun e w'' => e = .returned (.bool b) ∧ ∃ z' : AfterU w U, w'' = z'.1 :=
  h.mono fun _ _ ⟨he, hk⟩ => ⟨he, AfterU.mk hU z hk⟩
end
/-- The world ahead of a call that made memory. -/
class PrevWorld (w' : World) (w : outParam World) : Prop where
  kept : Kept [] w w'
instance (w' w : World) (b o : Nat) (x : EntV) [p : PrevWorld w' w] [h : EntAt w b o x] : EntAt w' b o x := h.kept p.kept
instance (w' w : World) (b o : Nat) (x : TyV) [p : PrevWorld w' w] [h : TyAt w b o x] : TyAt w' b o x := h.kept p.kept
instance (w' w : World) (b o : Nat) (x : SubtV) [p : PrevWorld w' w] [h : SubAt w b o x] : SubAt w' b o x := h.kept p.kept
instance (w' w : World) (b o : Nat) (x : ExV) [p : PrevWorld w' w] [h : ExAt w b o x] : ExAt w' b o x := h.kept p.kept
instance (w' w : World) (B : Nat) (ty : TypeId) (cs : Array Value) [p : PrevWorld w' w] [h : BoxIs w B ty cs] : BoxIs w' B ty cs := h.kept p.kept
/-- A block that was made behind a world. -/
class BornAfter (B : Nat) (W : outParam World) : Prop where
  le : W.heap.size ≤ B
instance (B B' : Nat) (W : World) (ty : TypeId) (cs : Array Value) [h : BornAfter B W] [b : BoxIs W B' ty cs] : LtB B' B := ⟨Nat.lt_of_lt_of_le b.lt h.le⟩
theorem Kept.prev {w w0 w1 : World} [p : PrevWorld w1 w0] (h : Kept [] w w0) : Kept [] w w1 := h.trans p.kept
@[go_sem] theorem sub_c0 (w : World) (b o : Nat) (x : SubtV) [h : SubAt w b o x] : w.cell? ⟨b, o, none⟩ = some (.int .i64 x.t) := by simpa using h.range 0 _ rfl
@[go_sem] theorem sub_c1 (w : World) (b o : Nat) (x : SubtV) [h : SubAt w b o x] : w.cell? ⟨b, o + 1, none⟩ = some (.int .i64 x.lo) := h.range 1 _ rfl
@[go_sem] theorem sub_c2 (w : World) (b o : Nat) (x : SubtV) [h : SubAt w b o x] : w.cell? ⟨b, o + 2, none⟩ = some (.int .i64 x.hi) := h.range 2 _ rfl
@[go_sem] theorem ty_c0 (w : World) (b o : Nat) (x : TyV) [h : TyAt w b o x] : w.cell? ⟨b, o, none⟩ = some (.int .u8 x.kind) := by simpa using h.range 0 _ rfl
@[go_sem] theorem ty_c5 (w : World) (b o : Nat) (x : TyV) [h : TyAt w b o x] : w.cell? ⟨b, o + 5, none⟩ = some (.int .i64 x.index) := h.range 5 _ rfl

/-- A new variable of a type. -/
theorem alc_of {P : Program} {o : Oper} {ty : TypeId} {z : Value} (ho : o.op = .alloc ty) (hg : o.guard = none) (hz : ∀ w, (zeroValue ty).run P w = .ok z w) : Alc P o (.cells z.cells ty) := by
  refine ⟨hg, fun a w => ?_⟩
  simp [execOp, ho, Instr.alloc, hz, newVar, newRow, newObj, Sem.run_bind]
  rfl
theorem Tryz.zeroBd (w : World) : (zeroValue 43).run Tryz.prog w = .ok (.agg #[.int .i64 0, .int .i64 0]) w := by kernel_rfl
theorem Tryz.zeroSub (w : World) : (zeroValue 121).run Tryz.prog w = .ok (.agg #[.int .i64 0, .int .i64 0, .int .i64 0]) w := by kernel_rfl
theorem Tryz.zeroEnt (w : World) : (zeroValue 74).run Tryz.prog w = .ok (.agg zeroE.cells.toArray) w := by kernel_rfl
theorem Tryz.zeroTy (w : World) : (zeroValue 116).run Tryz.prog w = .ok (.agg zeroT.cells.toArray) w := by kernel_rfl
theorem ne_of {B1 B2 : Nat} {ob : Obj} {L : Boxes} (h : ∀ x, x ∈ (B1, ob) :: L → x.1 ≠ B2) : B1 ≠ B2 := h (B1, ob) (by simp)
theorem box_of {w : World} {B : Nat} {ty : TypeId} {cs : Array Value} {L : Boxes} (h : HasB L w) (hm : (B, Obj.cells cs ty) ∈ L) : BoxIs w B ty cs := ⟨h _ hm⟩
end Go.Proofs.YtgdjhhfbpalkdaaGreat
namespace Go.Proofs.YtgdjhhfbpalkdaaGreat
open Go.RowKit

section
variable {P : Program} {T K E : TypeId} {d : TypeDesc}
theorem set_alloc (w : World) (o o' : Obj) : ({ w.alloc o with heap := (w.alloc o).heap.setIfInBounds w.heap.size o' } : World) = w.alloc o' := by
  have : (w.heap.push o).setIfInBounds w.heap.size o' = w.heap.push o' := by
    apply Array.ext
    · simp
    · intro i h1 h2
      rw [Array.getElem_setIfInBounds (by simpa using h1)]
      by_cases e : w.heap.size = i
      · subst e; simp
      · have : i < w.heap.size := by simp at h1; omega
        simp [e, Array.getElem_push, this]
  show ({ w with heap := (w.heap.push o).setIfInBounds w.heap.size o' } : World) = { w with heap := w.heap.push o' }
  rw [this]
def plainKey (d : TypeDesc) (k : Value) : Bool := match d, k with | .string, .string _ => true | .int _, .int _ _ => true | _, _ => false
theorem run_checkKey {e : Bool} {n : Nat} {k : Value} (w : World) (hK : P.underlying K = some d) (hk : plainKey d k = true) : (Instr.checkKey e (n + 1) K k).run P w = .ok () w := by
  unfold Instr.checkKey
  simp only [Sem.run_bind, run_underlying hK, Result.andThen_ok]
  unfold plainKey at hk
  split at hk <;> first | rfl | cases hk
theorem run_insert_new (w : World) (hT : P.underlying T = some (.map K E)) (hK : P.underlying K = some d) (r : Nat) (hr : r = w.heap.size) (es : Array MapEntry) (c : Nat) (key v : Value) (hk : plainKey d key = true) (hf : Instr.findNow d key es.toList 0 = some none) :
    (Instr.mapUpdate T (.map (some r)) key v).run P (w.alloc (.map es c)) = .ok () (w.alloc (.map (es.push { key := key, val := v, born := c }) (c + 1))) := by
  subst hr
  have hb := heap_alloc_new w (.map es c)
  unfold Instr.mapUpdate
  simp only [Sem.run_bind, run_underlying hT, Result.andThen_ok, getObj, Sem.run, hb, run_checkKey _ hK hk, Instr.findKey, run_underlying hK, hf, Sem.run_pure, setObj]
  rw [set_alloc]
theorem run_lookup_ok (w : World) (hT : P.underlying T = some (.map K E)) (hK : P.underlying K = some d) {z : Value} (hz : (zeroValue E).run P w = .ok z w) (r : Nat) (es : Array MapEntry) (c : Nat) (hb : w.heap[r]? = some (.map es c)) (key : Value) (hk : plainKey d key = true) (q : Option (Nat × Value)) (hf : Instr.findNow d key es.toList 0 = some q) :
    (Instr.lookup T (.map (some r)) key true).run P w = .ok (.tuple #[(q.map (·.2)).getD z, .bool q.isSome]) w := by
  unfold Instr.lookup
  simp only [Sem.run_bind, run_underlying hT, Result.andThen_ok, getObj, Sem.run, hb, run_checkKey _ hK hk, Instr.findKey, run_underlying hK, hf, Sem.run_pure]
  cases q with
  | none => simp [hz]
  | some x => simp
end
end Go.Proofs.YtgdjhhfbpalkdaaGreat
namespace Go.Proofs.YtgdjhhfbpalkdaaGreat
open Go.RowKit

@[go_sem] theorem ExV.len' (x : ExV) : x.cells.length = 9 := rfl
@[go_sem high] theorem Tryz.storeEx (x : ExV) (w : World) (k : Nat) (hk : k = w.heap.size) : Sem.run Tryz.prog (storeCells ⟨k, 0, none⟩ x.cells)
    (w.alloc (.cells #[.int .u8 0, .int .u8 0, .int .i64 0, .string ⟨#[]⟩, .slice none 0 0, .slice none 0 0, .int .i64 0, .int .i64 0, .int .i64 0] 34)) = .ok () (w.alloc (.cells x.cells.toArray 34)) := by
  subst hk
  exact run_storeCells_new w 34 _ x.cells.toArray (by simpa using Tryz.infoEx x) (by simp [ExV.cells]) x.one

@[go_sem] theorem Tryz.mkMap (t : TypeId) (w : World) : (Instr.makeMap t none).run Tryz.prog w = .ok (.map (some w.heap.size)) (w.alloc (.map #[] 0)) := rfl
theorem Tryz.infoSh2 : (Tryz.prog.info? 137).map (·.size) = some 2 := by kernel_rfl
instance (w : World) (B : Nat) (cs : Array Value) [h : BoxIs w B 137 cs] [n : CsLen cs 2] : LoadsAs w 137 ⟨B, 0, none⟩ (.agg cs) := ⟨by
  have := run_loadVar_mid (P := Tryz.prog) w B 0 137 cs.toList _ (range_is (by simpa using h.has)) Tryz.underlying137 rfl (by rw [Tryz.infoSh2]; simp [n.len])
  simpa using this⟩
/-- Block r is a map. -/
class MapIs (w : World) (r : Nat) (es : outParam (Array MapEntry)) (c : outParam Nat) : Prop where
  has : w.heap[r]? = some (.map es c)
instance (w : World) (k : Nat) (es : Array MapEntry) (c : Nat) [h : SizeIs w k] : MapIs (w.alloc (.map es c)) k es c := ⟨obj_new h.size.symm⟩
instance (w : World) (r : Nat) (es : Array MapEntry) (c : Nat) (ob : Obj) [h : MapIs w r es c] : MapIs (w.alloc ob) r es c := ⟨obj_old h.has (Array.getElem?_eq_some_iff.1 h.has).1⟩
instance (w : World) (r : Nat) (es : Array MapEntry) (c : Nat) [h : MapIs w r es c] : MapIs w.drew r es c := ⟨h.has⟩
instance (w w' : World) (r : Nat) (es : Array MapEntry) (c : Nat) [p : PrevWorld w' w] [h : MapIs w r es c] : MapIs w' r es c := ⟨p.kept.obj h.has (by simp)⟩
instance (w : World) (U : World → Prop) (r : Nat) (es : Array MapEntry) (c : Nat) (z : AfterU w U) [h : MapIs w r es c] : MapIs z.1 r es c := ⟨z.2.1.obj h.has (by simp)⟩

/-- A map's block is set. -/
def setMap (w : World) (r : Nat) (o : Obj) : World := { w with heap := w.heap.setIfInBounds r o }
theorem setMap_same {w : World} {r : Nat} {o : Obj} (h : r < w.heap.size) : (setMap w r o).heap[r]? = some o := by simp [setMap, h]
theorem setMap_other {w : World} {r k : Nat} {o : Obj} (h : r ≠ k) : (setMap w r o).heap[k]? = w.heap[k]? := by simp [setMap, Array.getElem?_setIfInBounds_ne h]
theorem Kept.map' {w w' : World} (h : Kept [] w w') (r : Nat) (o : Obj) (hr : w.heap.size ≤ r) : Kept [] w (setMap w' r o) :=
  ⟨h.os, h.tape, h.output, by simpa [setMap] using h.size, fun k hk hx => by
    rw [setMap_other (by omega)]
    exact h.block k hk hx⟩
instance (w : World) (k r : Nat) (o : Obj) [h : SizeIs w k] : SizeIs (setMap w r o) k := ⟨by simpa [setMap] using h.size⟩
instance (w : World) (r : Nat) (es es' : Array MapEntry) (c c' : Nat) [h : MapIs w r es c] : MapIs (setMap w r (.map es' c')) r es' c' := ⟨setMap_same (Array.getElem?_eq_some_iff.1 h.has).1⟩
instance (w : World) (r B : Nat) (es : Array MapEntry) (c : Nat) (o : Obj) (ty : TypeId) (cs : Array Value) [h : BoxIs w B ty cs] [m : MapIs w r es c] : BoxIs (setMap w r o) B ty cs := ⟨by
  rw [setMap_other (fun e => by have h1 := h.has; rw [← e, m.has] at h1; cases h1)]
  exact h.has⟩
def insShift (m k x : Value) : Sem Next := do Instr.mapUpdate 167 m k x; pure .skip
@[go_sem ↓] theorem execOp_insShift (ρ : Operand → Value) (dst : Option Tmp) (m k x : Operand) (ty : TypeId) (pos : String) (after : Array Edge) (guard : Option (Nat × Bool)) :
    execOp ρ { dst, op := .insert 167 m k x, type := ty, pos, after, guard } = insShift (ρ m) (ρ k) (ρ x) := rfl
theorem run_insShift {w : World} {r : Nat} {es : Array MapEntry} {c : Nat} {key : ByteArray} {v : Value} (hr : r = w.heap.size) (hf : Instr.findNow .string (.string key) es.toList 0 = some none) :
    Sem.run Tryz.prog (insShift (.map (some r)) (.string key) v) (w.alloc (.map es c)) = .ok .skip (w.alloc (.map (es.push { key := .string key, val := v, born := c }) (c + 1))) := by
  simp only [insShift, Sem.run_bind, run_insert_new w Tryz.underlying167 Tryz.underlying9 r hr es c (.string key) v rfl hf, Result.andThen_ok, Sem.run_pure]
@[go_sem] theorem run_insShift0 (w : World) (r : Nat) (v : Value) (hr : r = w.heap.size) : Sem.run Tryz.prog (insShift (.map (some r)) (.string ⟨#[80, 111, 115]⟩) v) (w.alloc (.map #[] 0)) = .ok .skip (w.alloc (.map #[⟨.string ⟨#[80, 111, 115]⟩, v, 0⟩] 1)) := run_insShift hr rfl
@[go_sem] theorem run_insShift1 (w : World) (r : Nat) (v v0 : Value) (hr : r = w.heap.size) : Sem.run Tryz.prog (insShift (.map (some r)) (.string ⟨#[86, 97, 108]⟩) v) (w.alloc (.map #[⟨.string ⟨#[80, 111, 115]⟩, v0, 0⟩] 1)) = .ok .skip (w.alloc (.map #[⟨.string ⟨#[80, 111, 115]⟩, v0, 0⟩, ⟨.string ⟨#[86, 97, 108]⟩, v, 1⟩] 2)) := run_insShift hr rfl
@[go_sem] theorem run_insShift2 (w : World) (r : Nat) (v v0 v1 : Value) (hr : r = w.heap.size) : Sem.run Tryz.prog (insShift (.map (some r)) (.string ⟨#[83, 117, 99, 99]⟩) v) (w.alloc (.map #[⟨.string ⟨#[80, 111, 115]⟩, v0, 0⟩, ⟨.string ⟨#[86, 97, 108]⟩, v1, 1⟩] 2)) = .ok .skip (w.alloc (.map #[⟨.string ⟨#[80, 111, 115]⟩, v0, 0⟩, ⟨.string ⟨#[86, 97, 108]⟩, v1, 1⟩, ⟨.string ⟨#[83, 117, 99, 99]⟩, v, 2⟩] 3)) := run_insShift hr rfl
@[go_sem] theorem run_insShift3 (w : World) (r : Nat) (v v0 v1 v2 : Value) (hr : r = w.heap.size) : Sem.run Tryz.prog (insShift (.map (some r)) (.string ⟨#[80, 114, 101, 100]⟩) v) (w.alloc (.map #[⟨.string ⟨#[80, 111, 115]⟩, v0, 0⟩, ⟨.string ⟨#[86, 97, 108]⟩, v1, 1⟩, ⟨.string ⟨#[83, 117, 99, 99]⟩, v2, 2⟩] 3)) = .ok .skip (w.alloc (.map #[⟨.string ⟨#[80, 111, 115]⟩, v0, 0⟩, ⟨.string ⟨#[86, 97, 108]⟩, v1, 1⟩, ⟨.string ⟨#[83, 117, 99, 99]⟩, v2, 2⟩, ⟨.string ⟨#[80, 114, 101, 100]⟩, v, 3⟩] 4)) := run_insShift hr rfl

def lookShift (m k : Value) : Sem Next := do return .value (← Instr.lookup 167 m k true)
@[go_sem ↓] theorem execOp_lookShift (ρ : Operand → Value) (dst : Option Tmp) (m k : Operand) (ty : TypeId) (pos : String) (after : Array Edge) (guard : Option (Nat × Bool)) :
    execOp ρ { dst, op := .lookup 167 m k true, type := ty, pos, after, guard } = lookShift (ρ m) (ρ k) := rfl
/-- What the map of shifts holds of a name. -/
def shX (s : ByteArray) : (Int × Bool) × Bool :=
  if s = sPos then ((0, false), true) else if s = sVal then ((0, true), true) else if s = sSucc then ((1, true), true) else if s = sPred then ((-1, true), true) else ((0, false), false)
theorem shX_shift (s : ByteArray) : shiftP s = if (shX s).2 then some (shX s).1 else none := by
  unfold shiftP shX
  split
  · rfl
  split
  · rfl
  split
  · rfl
  split <;> rfl
def shA (x : Int × Bool) : Value := .agg #[.int .i64 x.1, .bool x.2]
theorem beq_ba (a b : ByteArray) : (a == b) = decide (a = b) := by
  rw [Bool.eq_iff_iff, decide_eq_true_eq]
  constructor
  · intro h
    have h : (a.data == b.data) = true := h
    cases a; cases b
    simpa using h
  · rintro rfl
    show (a.data == a.data) = true
    simp
theorem Tryz.zeroShift (w : World) : (zeroValue 137).run Tryz.prog w = .ok (.agg #[.int .i64 0, .bool false]) w := by kernel_rfl
@[go_sem] theorem run_lookShift (w : World) (r : Nat) (s : ByteArray) [h : MapIs w r #[⟨.string ⟨#[80, 111, 115]⟩, .agg #[.int .i64 0, .bool false], 0⟩, ⟨.string ⟨#[86, 97, 108]⟩, .agg #[.int .i64 0, .bool true], 1⟩, ⟨.string ⟨#[83, 117, 99, 99]⟩, .agg #[.int .i64 1, .bool true], 2⟩, ⟨.string ⟨#[80, 114, 101, 100]⟩, .agg #[.int .i64 (-1), .bool true], 3⟩] 4] :
    Sem.run Tryz.prog (lookShift (.map (some r)) (.string s)) w = .ok (.value (.tuple #[.agg #[.int .i64 (shX s).1.1, .bool (shX s).1.2], .bool (shX s).2])) w := by
  have key : ∀ q, Instr.findNow .string (.string s) [⟨.string sPos, .agg #[.int .i64 0, .bool false], 0⟩, ⟨.string sVal, .agg #[.int .i64 0, .bool true], 1⟩, ⟨.string sSucc, .agg #[.int .i64 1, .bool true], 2⟩, ⟨.string sPred, .agg #[.int .i64 (-1), .bool true], 3⟩] 0 = some q →
      Sem.run Tryz.prog (lookShift (.map (some r)) (.string s)) w = .ok (.value (.tuple #[(q.map (·.2)).getD (.agg #[.int .i64 0, .bool false]), .bool q.isSome])) w := fun q hq => by
    simp only [lookShift, Sem.run_bind, run_lookup_ok w Tryz.underlying167 Tryz.underlying9 (Tryz.zeroShift w) r _ 4 h.has (.string s) rfl q hq, Result.andThen_ok, Sem.run_pure]
  by_cases h1 : s = sPos
  · subst h1
    exact key (some (0, .agg #[.int .i64 0, .bool false])) rfl
  by_cases h2 : s = sVal
  · subst h2
    exact key (some (1, .agg #[.int .i64 0, .bool true])) rfl
  by_cases h3 : s = sSucc
  · subst h3
    exact key (some (2, .agg #[.int .i64 1, .bool true])) rfl
  by_cases h4 : s = sPred
  · subst h4
    exact key (some (3, .agg #[.int .i64 (-1), .bool true])) rfl
  rw [key none (by simp [Instr.findNow, Instr.sameNow, beq_ba, h1, h2, h3, h4])]
  simp [shX, h1, h2, h3, h4]
end Go.Proofs.YtgdjhhfbpalkdaaGreat
namespace Go.Proofs.YtgdjhhfbpalkdaaGreat
open Go.RowKit

/-- The panic of an expression without a value. -/
def failC : List PanicEntry := [{ v := .iface 165 (.agg #[]), recovered := false }]
def RetP (w : World) (e : Ending) (w' : World) : Prop := e = .panicked failC ∧ Kept [] w w'
/-- A value, or the panic. -/
def RetO (o : Option Int) (w : World) (e : Ending) (w' : World) : Prop := match o with | some v => RetV (.int .i64 v) w e w' | none => RetP w e w'

theorem bodyPost_p {P : Program} {fn : Func} {a : Act} {w w' : World} (hd : a.defers = []) (hk : Kept [] w w') : bodyPost P fn (RetO none w) (.panic failC) a w' := ⟨hd, rfl, hk⟩
theorem bodyPost_pp {P : Program} {fn : Func} {a : Act} {w w' : World} (hd : a.defers = []) (hk : Kept [] w w') : bodyPost P fn (RetP w) (.panic failC) a w' := ⟨hd, rfl, hk⟩
theorem bodyPost_o {P : Program} {fn : Func} {v : Int} {a : Act} {w w' : World} (hd : a.defers = []) (hr : (results fn a.tmps).run P w' = .ok (.int .i64 v) w') (hk : Kept [] w w') : bodyPost P fn (RetO (some v) w) .ret a w' :=
  bodyPost_ret hr hd ⟨rfl, hk⟩
set_option maxRecDepth 100000 in
set_option maxHeartbeats 1000000 in
theorem fail_any (w : World) : Calls Tryz.prog 69 #[] w (RetP w) := by
  go_enter Tryz.func69, Tryz.ntmps69
  go_wp2_with fail
  exact bodyPost_pp rfl (by repeat (first | with_reducible exact HK.out | with_reducible exact Kept.refl _ _ | with_reducible refine Kept.prev ?_ | with_reducible refine Kept.alloc' ?_ _ | with_reducible refine Kept.drew' ?_ | with_reducible refine Kept.setB ?_ _ _ _ (by omega) | with_reducible refine Kept.row' ?_ _ _ (by omega) | with_reducible refine Kept.map' ?_ _ _ (by omega)))

set_option maxRecDepth 100000 in
set_option maxHeartbeats 1000000 in
theorem within_any (w : World) (x : Int) (b : Bd) : Calls Tryz.prog 47 #[.int .i64 x, .agg #[.int .i64 b.1, .int .i64 b.2]] w (RetO (withinP x b) w) := by
  by_cases h1 : x < b.1
  · have HW : Hid (withinP x b = none) := by rw [Hid, withinP, if_pos (.inl h1)]
    go_enter Tryz.func47, Tryz.ntmps47
    go_wp2_with fail
    refine (fail_any _).mono ?_; rintro e w1 ⟨rfl, hk_w1⟩; haveI p_w1 : PrevWorld w1 _ := ⟨hk_w1⟩; have hz_w1 : w.heap.size ≤ w1.heap.size := Kept.size (by repeat (first | with_reducible exact HK.out | with_reducible exact Kept.refl _ _ | with_reducible refine Kept.prev ?_ | with_reducible refine Kept.alloc' ?_ _ | with_reducible refine Kept.drew' ?_ | with_reducible refine Kept.setB ?_ _ _ _ (by omega) | with_reducible refine Kept.row' ?_ _ _ (by omega) | with_reducible refine Kept.map' ?_ _ _ (by omega))); clear hk_w1
    show bodyPost _ _ (RetO (withinP x b) w) (.panic failC) _ w1
    rw [HW.out]
    exact bodyPost_p rfl (by repeat (first | with_reducible exact HK.out | with_reducible exact Kept.refl _ _ | with_reducible refine Kept.prev ?_ | with_reducible refine Kept.alloc' ?_ _ | with_reducible refine Kept.drew' ?_ | with_reducible refine Kept.setB ?_ _ _ _ (by omega) | with_reducible refine Kept.row' ?_ _ _ (by omega) | with_reducible refine Kept.map' ?_ _ _ (by omega)))
  by_cases h2 : b.2 < x
  · have HW : Hid (withinP x b = none) := by rw [Hid, withinP, if_pos (.inr h2)]
    go_enter Tryz.func47, Tryz.ntmps47
    go_wp2_with fail
    refine (fail_any _).mono ?_; rintro e w1 ⟨rfl, hk_w1⟩; haveI p_w1 : PrevWorld w1 _ := ⟨hk_w1⟩; have hz_w1 : w.heap.size ≤ w1.heap.size := Kept.size (by repeat (first | with_reducible exact HK.out | with_reducible exact Kept.refl _ _ | with_reducible refine Kept.prev ?_ | with_reducible refine Kept.alloc' ?_ _ | with_reducible refine Kept.drew' ?_ | with_reducible refine Kept.setB ?_ _ _ _ (by omega) | with_reducible refine Kept.row' ?_ _ _ (by omega) | with_reducible refine Kept.map' ?_ _ _ (by omega))); clear hk_w1
    show bodyPost _ _ (RetO (withinP x b) w) (.panic failC) _ w1
    rw [HW.out]
    exact bodyPost_p rfl (by repeat (first | with_reducible exact HK.out | with_reducible exact Kept.refl _ _ | with_reducible refine Kept.prev ?_ | with_reducible refine Kept.alloc' ?_ _ | with_reducible refine Kept.drew' ?_ | with_reducible refine Kept.setB ?_ _ _ _ (by omega) | with_reducible refine Kept.row' ?_ _ _ (by omega) | with_reducible refine Kept.map' ?_ _ _ (by omega)))
  have HW : Hid (withinP x b = some x) := by rw [Hid, withinP, if_neg (by omega)]
  have h3 : b.1 ≤ x := by omega
  have h4 : x ≤ b.2 := by omega
  go_enter Tryz.func47, Tryz.ntmps47
  go_wp2_with fail
  rw [HW.out]
  exact bodyPost_o rfl (res1 Tryz.results47 (resT rfl)) (by repeat (first | with_reducible exact HK.out | with_reducible exact Kept.refl _ _ | with_reducible refine Kept.prev ?_ | with_reducible refine Kept.alloc' ?_ _ | with_reducible refine Kept.drew' ?_ | with_reducible refine Kept.setB ?_ _ _ _ (by omega) | with_reducible refine Kept.row' ?_ _ _ (by omega) | with_reducible refine Kept.map' ?_ _ _ (by omega)))

theorem truth_any (w : World) (b : Bool) : Calls Tryz.prog 72 #[.bool b] w (RetV (.int .i64 (truthP b)) w) := by
  cases b
  all_goals
    go_enter Tryz.func72, Tryz.ntmps72
    go_wp2_with fail
    exact bodyPost_v rfl (res1 Tryz.results72 (resT rfl)) (by repeat (first | with_reducible exact HK.out | with_reducible exact Kept.refl _ _ | with_reducible refine Kept.prev ?_ | with_reducible refine Kept.alloc' ?_ _ | with_reducible refine Kept.drew' ?_ | with_reducible refine Kept.setB ?_ _ _ _ (by omega) | with_reducible refine Kept.row' ?_ _ _ (by omega) | with_reducible refine Kept.map' ?_ _ _ (by omega)))

theorem tmod_bd {a b : Int} (ha : -4611686018427387904 ≤ a ∧ a ≤ 4611686018427387904) : -4611686018427387904 ≤ a.tmod b ∧ a.tmod b ≤ 4611686018427387904 := by
  have h := Int.natAbs_tmod a b
  have h2 : a.natAbs % b.natAbs ≤ a.natAbs := Nat.mod_le _ _
  omega
set_option maxRecDepth 100000 in
set_option maxHeartbeats 1000000 in
theorem modulo_any (w : World) (a b : Int) (ha : -4611686018427387904 ≤ a ∧ a ≤ 4611686018427387904) (hb : -4611686018427387904 ≤ b ∧ b ≤ 4611686018427387904) (h0 : b ≠ 0) : Calls Tryz.prog 103 #[.int .i64 a, .int .i64 b] w (RetV (.int .i64 (modP a b)) w) := by
  obtain ⟨r1, r2⟩ := tmod_bd (b := b) ha
  have HV : Hid (modP a b = if a.tmod b ≠ 0 ∧ decide (a.tmod b < 0) ≠ decide (b < 0) then a.tmod b + b else a.tmod b) := rfl
  by_cases h1 : a.tmod b = 0
  · have HW : Hid (modP a b = 0) := by rw [Hid, HV.out, if_neg (by simp [h1]), h1]
    have h2 : (a.tmod b != 0) = false := by simp [h1]
    clear HV
    go_enter Tryz.func103, Tryz.ntmps103
    go_wp2_with fail
    rw [HW.out]
    exact bodyPost_v rfl (res1 Tryz.results103 (resT rfl)) (by repeat (first | with_reducible exact HK.out | with_reducible exact Kept.refl _ _ | with_reducible refine Kept.prev ?_ | with_reducible refine Kept.alloc' ?_ _ | with_reducible refine Kept.drew' ?_ | with_reducible refine Kept.setB ?_ _ _ _ (by omega) | with_reducible refine Kept.row' ?_ _ _ (by omega) | with_reducible refine Kept.map' ?_ _ _ (by omega)))
  have h2 : (a.tmod b != 0) = true := by simp [h1]
  by_cases h3 : a.tmod b < 0
  · by_cases h4 : b < 0
    · have HW : Hid (modP a b = a.tmod b) := by rw [Hid, HV.out, if_neg (by simp [h3, h4])]
      clear HV h1
      go_enter Tryz.func103, Tryz.ntmps103
      go_wp2_with fail
      rw [HW.out]
      exact bodyPost_v rfl (res1 Tryz.results103 (resT rfl)) (by repeat (first | with_reducible exact HK.out | with_reducible exact Kept.refl _ _ | with_reducible refine Kept.prev ?_ | with_reducible refine Kept.alloc' ?_ _ | with_reducible refine Kept.drew' ?_ | with_reducible refine Kept.setB ?_ _ _ _ (by omega) | with_reducible refine Kept.row' ?_ _ _ (by omega) | with_reducible refine Kept.map' ?_ _ _ (by omega)))
    · have HW : Hid (modP a b = a.tmod b + b) := by rw [Hid, HV.out, if_pos (by simp [h1, h3, h4])]
      clear HV h1
      go_enter Tryz.func103, Tryz.ntmps103
      go_wp2_with fail
      rw [HW.out]
      exact bodyPost_v rfl (res1 Tryz.results103 (resT rfl)) (by repeat (first | with_reducible exact HK.out | with_reducible exact Kept.refl _ _ | with_reducible refine Kept.prev ?_ | with_reducible refine Kept.alloc' ?_ _ | with_reducible refine Kept.drew' ?_ | with_reducible refine Kept.setB ?_ _ _ _ (by omega) | with_reducible refine Kept.row' ?_ _ _ (by omega) | with_reducible refine Kept.map' ?_ _ _ (by omega)))
  · by_cases h4 : b < 0
    · have HW : Hid (modP a b = a.tmod b + b) := by rw [Hid, HV.out, if_pos (by simp [h1, h3, h4])]
      clear HV h1
      go_enter Tryz.func103, Tryz.ntmps103
      go_wp2_with fail
      rw [HW.out]
      exact bodyPost_v rfl (res1 Tryz.results103 (resT rfl)) (by repeat (first | with_reducible exact HK.out | with_reducible exact Kept.refl _ _ | with_reducible refine Kept.prev ?_ | with_reducible refine Kept.alloc' ?_ _ | with_reducible refine Kept.drew' ?_ | with_reducible refine Kept.setB ?_ _ _ _ (by omega) | with_reducible refine Kept.row' ?_ _ _ (by omega) | with_reducible refine Kept.map' ?_ _ _ (by omega)))
    · have HW : Hid (modP a b = a.tmod b) := by rw [Hid, HV.out, if_neg (by simp [h3, h4])]
      clear HV h1
      go_enter Tryz.func103, Tryz.ntmps103
      go_wp2_with fail
      rw [HW.out]
      exact bodyPost_v rfl (res1 Tryz.results103 (resT rfl)) (by repeat (first | with_reducible exact HK.out | with_reducible exact Kept.refl _ _ | with_reducible refine Kept.prev ?_ | with_reducible refine Kept.alloc' ?_ _ | with_reducible refine Kept.drew' ?_ | with_reducible refine Kept.setB ?_ _ _ _ (by omega) | with_reducible refine Kept.row' ?_ _ _ (by omega) | with_reducible refine Kept.map' ?_ _ _ (by omega)))

def prodP (a b : Int) : Int := if b ≠ 0 ∧ absP a > (4611686018427387904 : Int).tdiv (absP b) then 4611686018427387905 else a * b
theorem prod_zero (a : Int) : prodP a 0 = 0 := by simp [prodP]
theorem abs_pos {p : Int} (h : 0 ≤ p) : absP p = p := by unfold absP; rw [if_neg (by omega)]
theorem abs_neg {p : Int} (h : 0 ≤ p) : absP (-p) = p := by unfold absP; split <;> omega
theorem prod_is {a b p q : Int} (ha : absP a = p) (hb : absP b = q) (hp : 0 ≤ p) (hq : 0 < q) : (4611686018427387904 / q < p → prodP a b = 4611686018427387905) ∧ (¬ 4611686018427387904 / q < p → prodP a b = a * b ∧ 0 ≤ p * q ∧ p * q ≤ 4611686018427387904) := by
  have hb0 : b ≠ 0 := fun h => by rw [h, abs_pos (Int.le_refl 0)] at hb; omega
  have ht : (4611686018427387904 : Int).tdiv q = 4611686018427387904 / q := Int.tdiv_eq_ediv_of_nonneg (by omega)
  unfold prodP
  rw [ha, hb, ht]
  constructor
  · intro h
    rw [if_pos ⟨hb0, h⟩]
  · intro h
    rw [if_neg (fun x => h x.2)]
    have h1 : p * q ≤ 4611686018427387904 / q * q := Int.mul_le_mul_of_nonneg_right (by omega) (by omega)
    have h2 := Int.ediv_mul_le 4611686018427387904 (b := q) (by omega)
    exact ⟨rfl, Int.mul_nonneg hp (by omega), by omega⟩
set_option maxRecDepth 100000 in
set_option maxHeartbeats 1000000 in
theorem prod_pp (w : World) (p q : Int) (hp : 0 ≤ p) (hp2 : p ≤ 4611686018427387904) (hq : 0 < q) (hq2 : q ≤ 4611686018427387904) : Calls Tryz.prog 100 #[.int .i64 p, .int .i64 q] w (RetV (.int .i64 (prodP p q)) w) := by
  have HP := prod_is (abs_pos hp) (abs_pos (by omega : 0 ≤ q)) hp hq
  have hn : (q != 0) = true := by simp; omega
  have hm : 0 ≤ p * q → p * q ≤ 4611686018427387904 → -4611686018427387904 ≤ p * q ∧ p * q ≤ 4611686018427387904 := fun h h' => by
    have e : p * q = p * q := rfl
    rw [e]
    omega
  by_cases h1 : 4611686018427387904 / q < p
  · have HW := Lib.hid (HP.1 h1)
    clear HP hm
    go_enter Tryz.func100, Tryz.ntmps100
    go_wp2_with fail
    rw [HW.out]
    exact bodyPost_v rfl (res1 Tryz.results100 (resT rfl)) (by repeat (first | with_reducible exact HK.out | with_reducible exact Kept.refl _ _ | with_reducible refine Kept.prev ?_ | with_reducible refine Kept.alloc' ?_ _ | with_reducible refine Kept.drew' ?_ | with_reducible refine Kept.setB ?_ _ _ _ (by omega) | with_reducible refine Kept.row' ?_ _ _ (by omega) | with_reducible refine Kept.map' ?_ _ _ (by omega)))
  · obtain ⟨e, m1, m2⟩ := HP.2 h1
    have HW := Lib.hid e
    obtain ⟨m3, m4⟩ := hm m1 m2
    clear HP e hm
    go_enter Tryz.func100, Tryz.ntmps100
    go_wp2_with fail
    rw [HW.out]
    exact bodyPost_v rfl (res1 Tryz.results100 (resT rfl)) (by repeat (first | with_reducible exact HK.out | with_reducible exact Kept.refl _ _ | with_reducible refine Kept.prev ?_ | with_reducible refine Kept.alloc' ?_ _ | with_reducible refine Kept.drew' ?_ | with_reducible refine Kept.setB ?_ _ _ _ (by omega) | with_reducible refine Kept.row' ?_ _ _ (by omega) | with_reducible refine Kept.map' ?_ _ _ (by omega)))
set_option maxRecDepth 100000 in
set_option maxHeartbeats 1000000 in
theorem prod_np (w : World) (p q : Int) (hp : 0 < p) (hp2 : p ≤ 4611686018427387904) (hq : 0 < q) (hq2 : q ≤ 4611686018427387904) : Calls Tryz.prog 100 #[.int .i64 (-p), .int .i64 q] w (RetV (.int .i64 (prodP (-p) q)) w) := by
  have HP := prod_is (abs_neg (Int.le_of_lt hp)) (abs_pos (by omega : 0 ≤ q)) (Int.le_of_lt hp) hq
  have hn : (q != 0) = true := by simp; omega
  have hm : 0 ≤ p * q → p * q ≤ 4611686018427387904 → -4611686018427387904 ≤ -p * q ∧ -p * q ≤ 4611686018427387904 := fun h h' => by
    have e : -p * q = -(p * q) := Int.neg_mul p q
    rw [e]
    omega
  by_cases h1 : 4611686018427387904 / q < p
  · have HW := Lib.hid (HP.1 h1)
    clear HP hm
    go_enter Tryz.func100, Tryz.ntmps100
    go_wp2_with fail
    rw [HW.out]
    exact bodyPost_v rfl (res1 Tryz.results100 (resT rfl)) (by repeat (first | with_reducible exact HK.out | with_reducible exact Kept.refl _ _ | with_reducible refine Kept.prev ?_ | with_reducible refine Kept.alloc' ?_ _ | with_reducible refine Kept.drew' ?_ | with_reducible refine Kept.setB ?_ _ _ _ (by omega) | with_reducible refine Kept.row' ?_ _ _ (by omega) | with_reducible refine Kept.map' ?_ _ _ (by omega)))
  · obtain ⟨e, m1, m2⟩ := HP.2 h1
    have HW := Lib.hid e
    obtain ⟨m3, m4⟩ := hm m1 m2
    clear HP e hm
    go_enter Tryz.func100, Tryz.ntmps100
    go_wp2_with fail
    rw [HW.out]
    exact bodyPost_v rfl (res1 Tryz.results100 (resT rfl)) (by repeat (first | with_reducible exact HK.out | with_reducible exact Kept.refl _ _ | with_reducible refine Kept.prev ?_ | with_reducible refine Kept.alloc' ?_ _ | with_reducible refine Kept.drew' ?_ | with_reducible refine Kept.setB ?_ _ _ _ (by omega) | with_reducible refine Kept.row' ?_ _ _ (by omega) | with_reducible refine Kept.map' ?_ _ _ (by omega)))
set_option maxRecDepth 100000 in
set_option maxHeartbeats 1000000 in
theorem prod_pn (w : World) (p q : Int) (hp : 0 ≤ p) (hp2 : p ≤ 4611686018427387904) (hq : 0 < q) (hq2 : q ≤ 4611686018427387904) : Calls Tryz.prog 100 #[.int .i64 p, .int .i64 (-q)] w (RetV (.int .i64 (prodP p (-q))) w) := by
  have HP := prod_is (abs_pos hp) (abs_neg (by omega : 0 ≤ q)) hp hq
  have hn : (-q != 0) = true := by simp; omega
  have hm : 0 ≤ p * q → p * q ≤ 4611686018427387904 → -4611686018427387904 ≤ p * -q ∧ p * -q ≤ 4611686018427387904 := fun h h' => by
    have e : p * -q = -(p * q) := Int.mul_neg p q
    rw [e]
    omega
  by_cases h1 : 4611686018427387904 / q < p
  · have HW := Lib.hid (HP.1 h1)
    clear HP hm
    go_enter Tryz.func100, Tryz.ntmps100
    go_wp2_with fail
    rw [HW.out]
    exact bodyPost_v rfl (res1 Tryz.results100 (resT rfl)) (by repeat (first | with_reducible exact HK.out | with_reducible exact Kept.refl _ _ | with_reducible refine Kept.prev ?_ | with_reducible refine Kept.alloc' ?_ _ | with_reducible refine Kept.drew' ?_ | with_reducible refine Kept.setB ?_ _ _ _ (by omega) | with_reducible refine Kept.row' ?_ _ _ (by omega) | with_reducible refine Kept.map' ?_ _ _ (by omega)))
  · obtain ⟨e, m1, m2⟩ := HP.2 h1
    have HW := Lib.hid e
    obtain ⟨m3, m4⟩ := hm m1 m2
    clear HP e hm
    go_enter Tryz.func100, Tryz.ntmps100
    go_wp2_with fail
    rw [HW.out]
    exact bodyPost_v rfl (res1 Tryz.results100 (resT rfl)) (by repeat (first | with_reducible exact HK.out | with_reducible exact Kept.refl _ _ | with_reducible refine Kept.prev ?_ | with_reducible refine Kept.alloc' ?_ _ | with_reducible refine Kept.drew' ?_ | with_reducible refine Kept.setB ?_ _ _ _ (by omega) | with_reducible refine Kept.row' ?_ _ _ (by omega) | with_reducible refine Kept.map' ?_ _ _ (by omega)))
set_option maxRecDepth 100000 in
set_option maxHeartbeats 1000000 in
theorem prod_nn (w : World) (p q : Int) (hp : 0 < p) (hp2 : p ≤ 4611686018427387904) (hq : 0 < q) (hq2 : q ≤ 4611686018427387904) : Calls Tryz.prog 100 #[.int .i64 (-p), .int .i64 (-q)] w (RetV (.int .i64 (prodP (-p) (-q))) w) := by
  have HP := prod_is (abs_neg (Int.le_of_lt hp)) (abs_neg (by omega : 0 ≤ q)) (Int.le_of_lt hp) hq
  have hn : (-q != 0) = true := by simp; omega
  have hm : 0 ≤ p * q → p * q ≤ 4611686018427387904 → -4611686018427387904 ≤ -p * -q ∧ -p * -q ≤ 4611686018427387904 := fun h h' => by
    have e : -p * -q = p * q := Int.neg_mul_neg p q
    rw [e]
    omega
  by_cases h1 : 4611686018427387904 / q < p
  · have HW := Lib.hid (HP.1 h1)
    clear HP hm
    go_enter Tryz.func100, Tryz.ntmps100
    go_wp2_with fail
    rw [HW.out]
    exact bodyPost_v rfl (res1 Tryz.results100 (resT rfl)) (by repeat (first | with_reducible exact HK.out | with_reducible exact Kept.refl _ _ | with_reducible refine Kept.prev ?_ | with_reducible refine Kept.alloc' ?_ _ | with_reducible refine Kept.drew' ?_ | with_reducible refine Kept.setB ?_ _ _ _ (by omega) | with_reducible refine Kept.row' ?_ _ _ (by omega) | with_reducible refine Kept.map' ?_ _ _ (by omega)))
  · obtain ⟨e, m1, m2⟩ := HP.2 h1
    have HW := Lib.hid e
    obtain ⟨m3, m4⟩ := hm m1 m2
    clear HP e hm
    go_enter Tryz.func100, Tryz.ntmps100
    go_wp2_with fail
    rw [HW.out]
    exact bodyPost_v rfl (res1 Tryz.results100 (resT rfl)) (by repeat (first | with_reducible exact HK.out | with_reducible exact Kept.refl _ _ | with_reducible refine Kept.prev ?_ | with_reducible refine Kept.alloc' ?_ _ | with_reducible refine Kept.drew' ?_ | with_reducible refine Kept.setB ?_ _ _ _ (by omega) | with_reducible refine Kept.row' ?_ _ _ (by omega) | with_reducible refine Kept.map' ?_ _ _ (by omega)))
set_option maxRecDepth 100000 in
set_option maxHeartbeats 1000000 in
theorem prod_z (w : World) (p : Int) : Calls Tryz.prog 100 #[.int .i64 p, .int .i64 0] w (RetV (.int .i64 (prodP p 0)) w) := by
  have HW := Lib.hid (prod_zero p)
  go_enter Tryz.func100, Tryz.ntmps100
  go_wp2_with fail
  rw [HW.out]
  exact bodyPost_v rfl (res1 Tryz.results100 (resT (by simp))) (by repeat (first | with_reducible exact HK.out | with_reducible exact Kept.refl _ _ | with_reducible refine Kept.prev ?_ | with_reducible refine Kept.alloc' ?_ _ | with_reducible refine Kept.drew' ?_ | with_reducible refine Kept.setB ?_ _ _ _ (by omega) | with_reducible refine Kept.row' ?_ _ _ (by omega) | with_reducible refine Kept.map' ?_ _ _ (by omega)))
theorem product_any (w : World) (a b : Int) (ha : -4611686018427387904 ≤ a ∧ a ≤ 4611686018427387904) (hb : -4611686018427387904 ≤ b ∧ b ≤ 4611686018427387904) : Calls Tryz.prog 100 #[.int .i64 a, .int .i64 b] w (RetV (.int .i64 (prodP a b)) w) := by
  by_cases h0 : b = 0
  · subst h0; exact prod_z w a
  by_cases h1 : a < 0
  · obtain ⟨p, rfl⟩ : ∃ p, a = -p := ⟨-a, by omega⟩
    by_cases h2 : b < 0
    · obtain ⟨q, rfl⟩ : ∃ q, b = -q := ⟨-b, by omega⟩
      exact prod_nn w p q (by omega) (by omega) (by omega) (by omega)
    · exact prod_np w p b (by omega) (by omega) (by omega) (by omega)
  · by_cases h2 : b < 0
    · obtain ⟨q, rfl⟩ : ∃ q, b = -q := ⟨-b, by omega⟩
      exact prod_pn w a q (by omega) (by omega) (by omega) (by omega)
    · exact prod_pp w a b (by omega) (by omega) (by omega) (by omega)
end Go.Proofs.YtgdjhhfbpalkdaaGreat
