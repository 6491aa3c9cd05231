/- What the heads of drawn regions read, as instances; calls there. Maps that the call itself lays out with keys that are known, and one lookup. The map of shifts; expressions stored whole. -/
import Derived.Test.YtgdjhhfbpalkdaaK9
namespace Go.Proofs.Ytgdjhhfbpalkdaa
open Go.RowKit

section
variable {w : World} {U : World → Prop}
theorem AfterU.prop (z : AfterU w U) : Kept [] w z.1 := z.2.1
instance (b o : Nat) (x : EntV) (z : AfterU w U) [h : EntAt w b o x] : EntAt z.1 b o x := h.kept z.2.1
instance (b o : Nat) (x : TyV) (z : AfterU w U) [h : TyAt w b o x] : TyAt z.1 b o x := h.kept z.2.1
instance (b o : Nat) (x : SubtV) (z : AfterU w U) [h : SubAt w b o x] : SubAt z.1 b o x := h.kept z.2.1
instance (b o : Nat) (x : ExV) (z : AfterU w U) [h : ExAt w b o x] : ExAt z.1 b o x := h.kept z.2.1
instance (B : Nat) (ty : TypeId) (cs : Array Value) (z : AfterU w U) [h : BoxIs w B ty cs] : BoxIs z.1 B ty cs := h.kept z.2.1
theorem AfterU.cell {p : Addr} {v : Value} (h : w.cell? p = some v) : ∀ z : AfterU w U, z.1.cell? p = some v := fun z => z.2.1.cell h (by simp)
theorem AfterU.mk {w' : World} (hU : UpC U) (z : AfterU w U) (h : Kept [] z.1 w') : ∃ z' : AfterU w U, w' = z'.1 := ⟨⟨w', z.2.1.trans h, hU _ _ z.2.2 h⟩, rfl⟩
theorem Calls.headV {P : Program} {f : FuncId} {args : Array Value} {v : Value} (hU : UpC U) {z : AfterU w U} (h : Calls P f args z.1 (RetV v z.1)) : Calls P f args z.1 fun e w'' => e = .returned v ∧ ∃ z' : AfterU w U, w'' = z'.1 :=
  h.mono fun _ _ ⟨he, hk⟩ => ⟨he, AfterU.mk hU z hk⟩
theorem Calls.headB {P : Program} {f : FuncId} {args : Array Value} {b : Bool} (hU : UpC U) {z : AfterU w U} (h : Calls P f args z.1 (RetB b z.1)) : Calls P f args z.1 fun e w'' => e = .returned (.bool b) ∧ ∃ z' : AfterU w U, w'' = z'.1 :=
  h.mono fun _ _ ⟨he, hk⟩ => ⟨he, AfterU.mk hU z hk⟩
end
/-- The world ahead of a call that made memory. -/
class PrevWorld (w' : World) (w : outParam World) : Prop where
  kept : Kept [] w w'
instance (w' w : World) (b o : Nat) (x : EntV) [p : PrevWorld w' w] [h : EntAt w b o x] : EntAt w' b o x := h.kept p.kept
instance (w' w : World) (b o : Nat) (x : TyV) [p : PrevWorld w' w] [h : TyAt w b o x] : TyAt w' b o x := h.kept p.kept
instance (w' w : World) (b o : Nat) (x : SubtV) [p : PrevWorld w' w] [h : SubAt w b o x] : SubAt w' b o x := h.kept p.kept
instance (w' w : World) (b o : Nat) (x : ExV) [p : PrevWorld w' w] [h : ExAt w b o x] : ExAt w' b o x := h.kept p.kept
instance (w' w : World) (B : Nat) (ty : TypeId) (cs : Array Value) [p : PrevWorld w' w] [h : BoxIs w B ty cs] : BoxIs w' B ty cs := h.kept p.kept
/-- A block that was made behind a world. -/
class BornAfter (B : Nat) (W : outParam World) : Prop where
  le : W.heap.size ≤ B
instance (B B' : Nat) (W : World) (ty : TypeId) (cs : Array Value) [h : BornAfter B W] [b : BoxIs W B' ty cs] : LtB B' B := ⟨Nat.lt_of_lt_of_le b.lt h.le⟩
theorem Kept.prev {w w0 w1 : World} [p : PrevWorld w1 w0] (h : Kept [] w w0) : Kept [] w w1 := h.trans p.kept
@[go_sem] theorem sub_c0 (w : World) (b o : Nat) (x : SubtV) [h : SubAt w b o x] : w.cell? ⟨b, o, none⟩ = some (.int .i64 x.t) := by simpa using h.range 0 _ rfl
@[go_sem] theorem sub_c1 (w : World) (b o : Nat) (x : SubtV) [h : SubAt w b o x] : w.cell? ⟨b, o + 1, none⟩ = some (.int .i64 x.lo) := h.range 1 _ rfl
@[go_sem] theorem sub_c2 (w : World) (b o : Nat) (x : SubtV) [h : SubAt w b o x] : w.cell? ⟨b, o + 2, none⟩ = some (.int .i64 x.hi) := h.range 2 _ rfl
@[go_sem] theorem ty_c0 (w : World) (b o : Nat) (x : TyV) [h : TyAt w b o x] : w.cell? ⟨b, o, none⟩ = some (.int .u8 x.kind) := by simpa using h.range 0 _ rfl
@[go_sem] theorem ty_c5 (w : World) (b o : Nat) (x : TyV) [h : TyAt w b o x] : w.cell? ⟨b, o + 5, none⟩ = some (.int .i64 x.index) := h.range 5 _ rfl

/-- A new variable of a type. -/
theorem alc_of {P : Program} {o : Oper} {ty : TypeId} {z : Value} (ho : o.op = .alloc ty) (hg : o.guard = none) (hz : ∀ w, (zeroValue ty).run P w = .ok z w) : Alc P o (.cells z.cells ty) := by
  refine ⟨hg, fun a w => ?_⟩
  simp [execOp, ho, Instr.alloc, hz, newVar, newRow, newObj, Sem.run_bind]
  rfl
theorem Try.zeroBd (w : World) : (zeroValue 55).run Try.prog w = .ok (.agg #[.int .i64 0, .int .i64 0]) w := by kernel_rfl
theorem Try.zeroSub (w : World) : (zeroValue 82).run Try.prog w = .ok (.agg #[.int .i64 0, .int .i64 0, .int .i64 0]) w := by kernel_rfl
theorem Try.zeroEnt (w : World) : (zeroValue 89).run Try.prog w = .ok (.agg zeroE.cells.toArray) w := by kernel_rfl
theorem Try.zeroTy (w : World) : (zeroValue 77).run Try.prog w = .ok (.agg zeroT.cells.toArray) w := by kernel_rfl
theorem ne_of {B1 B2 : Nat} {ob : Obj} {L : Boxes} (h : ∀ x, x ∈ (B1, ob) :: L → x.1 ≠ B2) : B1 ≠ B2 := h (B1, ob) (by simp)
theorem box_of {w : World} {B : Nat} {ty : TypeId} {cs : Array Value} {L : Boxes} (h : HasB L w) (hm : (B, Obj.cells cs ty) ∈ L) : BoxIs w B ty cs := ⟨h _ hm⟩
end Go.Proofs.Ytgdjhhfbpalkdaa
namespace Go.Proofs.Ytgdjhhfbpalkdaa
open Go.RowKit

section
variable {P : Program} {T K E : TypeId} {d : TypeDesc}
theorem set_alloc (w : World) (o o' : Obj) : ({ w.alloc o with heap := (w.alloc o).heap.setIfInBounds w.heap.size o' } : World) = w.alloc o' := by
  have : (w.heap.push o).setIfInBounds w.heap.size o' = w.heap.push o' := by
    apply Array.ext
    · simp
    · intro i h1 h2
      rw [Array.getElem_setIfInBounds (by simpa using h1)]
      by_cases e : w.heap.size = i
      · subst e; simp
      · have : i < w.heap.size := by simp at h1; omega
        simp [e, Array.getElem_push, this]
  show ({ w with heap := (w.heap.push o).setIfInBounds w.heap.size o' } : World) = { w with heap := w.heap.push o' }
  rw [this]
def plainKey (d : TypeDesc) (k : Value) : Bool := match d, k with | .string, .string _ => true | .int _, .int _ _ => true | _, _ => false
theorem run_checkKey {e : Bool} {n : Nat} {k : Value} (w : World) (hK : P.underlying K = some d) (hk : plainKey d k = true) : (Instr.checkKey e (n + 1) K k).run P w = .ok () w := by
  unfold Instr.checkKey
  simp only [Sem.run_bind, run_underlying hK, Result.andThen_ok]
  unfold plainKey at hk
  split at hk <;> first | rfl | cases hk
theorem run_insert_new (w : World) (hT : P.underlying T = some (.map K E)) (hK : P.underlying K = some d) (r : Nat) (hr : r = w.heap.size) (es : Array MapEntry) (c : Nat) (key v : Value) (hk : plainKey d key = true) (hf : Instr.findNow d key es.toList 0 = some none) :
    (Instr.mapUpdate T (.map (some r)) key v).run P (w.alloc (.map es c)) = .ok () (w.alloc (.map (es.push { key := key, val := v, born := c }) (c + 1))) := by
  subst hr
  have hb := heap_alloc_new w (.map es c)
  unfold Instr.mapUpdate
  simp only [Sem.run_bind, run_underlying hT, Result.andThen_ok, getObj, Sem.run, hb, run_checkKey _ hK hk, Instr.findKey, run_underlying hK, hf, Sem.run_pure, setObj]
  rw [set_alloc]
theorem run_lookup_ok (w : World) (hT : P.underlying T = some (.map K E)) (hK : P.underlying K = some d) {z : Value} (hz : (zeroValue E).run P w = .ok z w) (r : Nat) (es : Array MapEntry) (c : Nat) (hb : w.heap[r]? = some (.map es c)) (key : Value) (hk : plainKey d key = true) (q : Option (Nat × Value)) (hf : Instr.findNow d key es.toList 0 = some q) :
    (Instr.lookup T (.map (some r)) key true).run P w = .ok (.tuple #[(q.map (·.2)).getD z, .bool q.isSome]) w := by
  unfold Instr.lookup
  simp only [Sem.run_bind, run_underlying hT, Result.andThen_ok, getObj, Sem.run, hb, run_checkKey _ hK hk, Instr.findKey, run_underlying hK, hf, Sem.run_pure]
  cases q with
  | none => simp [hz]
  | some x => simp
end
end Go.Proofs.Ytgdjhhfbpalkdaa
namespace Go.Proofs.Ytgdjhhfbpalkdaa
open Go.RowKit

@[go_sem] theorem ExV.len' (x : ExV) : x.cells.length = 9 := rfl
@[go_sem high] theorem Try.storeEx (x : ExV) (w : World) (k : Nat) (hk : k = w.heap.size) : Sem.run Try.prog (storeCells ⟨k, 0, none⟩ x.cells)
    (w.alloc (.cells #[.int .u8 0, .int .u8 0, .int .i64 0, .string ⟨#[]⟩, .slice none 0 0, .slice none 0 0, .int .i64 0, .int .i64 0, .int .i64 0] 34)) = .ok () (w.alloc (.cells x.cells.toArray 34)) := by
  subst hk
  exact run_storeCells_new w 34 _ x.cells.toArray (by simpa using Try.infoEx x) (by simp [ExV.cells]) x.one

@[go_sem] theorem Try.mkMap (t : TypeId) (w : World) : (Instr.makeMap t none).run Try.prog w = .ok (.map (some w.heap.size)) (w.alloc (.map #[] 0)) := rfl
theorem Try.infoSh2 : (Try.prog.info? 117).map (·.size) = some 2 := by kernel_rfl
instance (w : World) (B : Nat) (cs : Array Value) [h : BoxIs w B 117 cs] [n : CsLen cs 2] : LoadsAs w 117 ⟨B, 0, none⟩ (.agg cs) := ⟨by
  have := run_loadVar_mid (P := Try.prog) w B 0 117 cs.toList _ (range_is (by simpa using h.has)) Try.underlying117 rfl (by rw [Try.infoSh2]; simp [n.len])
  simpa using this⟩
/-- Block r is a map. -/
class MapIs (w : World) (r : Nat) (es : outParam (Array MapEntry)) (c : outParam Nat) : Prop where
  has : w.heap[r]? = some (.map es c)
instance (w : World) (k : Nat) (es : Array MapEntry) (c : Nat) [h : SizeIs w k] : MapIs (w.alloc (.map es c)) k es c := ⟨obj_new h.size.symm⟩
instance (w : World) (r : Nat) (es : Array MapEntry) (c : Nat) (ob : Obj) [h : MapIs w r es c] : MapIs (w.alloc ob) r es c := ⟨obj_old h.has (Array.getElem?_eq_some_iff.1 h.has).1⟩
instance (w : World) (r : Nat) (es : Array MapEntry) (c : Nat) [h : MapIs w r es c] : MapIs w.drew r es c := ⟨h.has⟩
instance (w w' : World) (r : Nat) (es : Array MapEntry) (c : Nat) [p : PrevWorld w' w] [h : MapIs w r es c] : MapIs w' r es c := ⟨p.kept.obj h.has (by simp)⟩
instance (w : World) (U : World → Prop) (r : Nat) (es : Array MapEntry) (c : Nat) (z : AfterU w U) [h : MapIs w r es c] : MapIs z.1 r es c := ⟨z.2.1.obj h.has (by simp)⟩

/-- A map's block is set. -/
def setMap (w : World) (r : Nat) (o : Obj) : World := { w with heap := w.heap.setIfInBounds r o }
theorem setMap_same {w : World} {r : Nat} {o : Obj} (h : r < w.heap.size) : (setMap w r o).heap[r]? = some o := by simp [setMap, h]
theorem setMap_other {w : World} {r k : Nat} {o : Obj} (h : r ≠ k) : (setMap w r o).heap[k]? = w.heap[k]? := by simp [setMap, Array.getElem?_setIfInBounds_ne h]
theorem Kept.map' {w w' : World} (h : Kept [] w w') (r : Nat) (o : Obj) (hr : w.heap.size ≤ r) : Kept [] w (setMap w' r o) :=
  ⟨h.os, h.tape, h.output, by simpa [setMap] using h.size, fun k hk hx => by
    rw [setMap_other (by omega)]
    exact h.block k hk hx⟩
instance (w : World) (k r : Nat) (o : Obj) [h : SizeIs w k] : SizeIs (setMap w r o) k := ⟨by simpa [setMap] using h.size⟩
instance (w : World) (r : Nat) (es es' : Array MapEntry) (c c' : Nat) [h : MapIs w r es c] : MapIs (setMap w r (.map es' c')) r es' c' := ⟨setMap_same (Array.getElem?_eq_some_iff.1 h.has).1⟩
instance (w : World) (r B : Nat) (es : Array MapEntry) (c : Nat) (o : Obj) (ty : TypeId) (cs : Array Value) [h : BoxIs w B ty cs] [m : MapIs w r es c] : BoxIs (setMap w r o) B ty cs := ⟨by
  rw [setMap_other (fun e => by have h1 := h.has; rw [← e, m.has] at h1; cases h1)]
  exact h.has⟩
def insShift (m k x : Value) : Sem Next := do Instr.mapUpdate 146 m k x; pure .skip
@[go_sem ↓] theorem execOp_insShift (ρ : Operand → Value) (dst : Option Tmp) (m k x : Operand) (ty : TypeId) (pos : String) (after : Array Edge) (guard : Option (Nat × Bool)) :
    execOp ρ { dst, op := .insert 146 m k x, type := ty, pos, after, guard } = insShift (ρ m) (ρ k) (ρ x) := rfl
theorem run_insShift {w : World} {r : Nat} {es : Array MapEntry} {c : Nat} {key : ByteArray} {v : Value} (hr : r = w.heap.size) (hf : Instr.findNow .string (.string key) es.toList 0 = some none) :
    Sem.run Try.prog (insShift (.map (some r)) (.string key) v) (w.alloc (.map es c)) = .ok .skip (w.alloc (.map (es.push { key := .string key, val := v, born := c }) (c + 1))) := by
  simp only [insShift, Sem.run_bind, run_insert_new w Try.underlying146 Try.underlying9 r hr es c (.string key) v rfl hf, Result.andThen_ok, Sem.run_pure]
@[go_sem] theorem run_insShift0 (w : World) (r : Nat) (v : Value) (hr : r = w.heap.size) : Sem.run Try.prog (insShift (.map (some r)) (.string ⟨#[80, 111, 115]⟩) v) (w.alloc (.map #[] 0)) = .ok .skip (w.alloc (.map #[⟨.string ⟨#[80, 111, 115]⟩, v, 0⟩] 1)) := run_insShift hr rfl
@[go_sem] theorem run_insShift1 (w : World) (r : Nat) (v v0 : Value) (hr : r = w.heap.size) : Sem.run Try.prog (insShift (.map (some r)) (.string ⟨#[86, 97, 108]⟩) v) (w.alloc (.map #[⟨.string ⟨#[80, 111, 115]⟩, v0, 0⟩] 1)) = .ok .skip (w.alloc (.map #[⟨.string ⟨#[80, 111, 115]⟩, v0, 0⟩, ⟨.string ⟨#[86, 97, 108]⟩, v, 1⟩] 2)) := run_insShift hr rfl
@[go_sem] theorem run_insShift2 (w : World) (r : Nat) (v v0 v1 : Value) (hr : r = w.heap.size) : Sem.run Try.prog (insShift (.map (some r)) (.string ⟨#[83, 117, 99, 99]⟩) v) (w.alloc (.map #[⟨.string ⟨#[80, 111, 115]⟩, v0, 0⟩, ⟨.string ⟨#[86, 97, 108]⟩, v1, 1⟩] 2)) = .ok .skip (w.alloc (.map #[⟨.string ⟨#[80, 111, 115]⟩, v0, 0⟩, ⟨.string ⟨#[86, 97, 108]⟩, v1, 1⟩, ⟨.string ⟨#[83, 117, 99, 99]⟩, v, 2⟩] 3)) := run_insShift hr rfl
@[go_sem] theorem run_insShift3 (w : World) (r : Nat) (v v0 v1 v2 : Value) (hr : r = w.heap.size) : Sem.run Try.prog (insShift (.map (some r)) (.string ⟨#[80, 114, 101, 100]⟩) v) (w.alloc (.map #[⟨.string ⟨#[80, 111, 115]⟩, v0, 0⟩, ⟨.string ⟨#[86, 97, 108]⟩, v1, 1⟩, ⟨.string ⟨#[83, 117, 99, 99]⟩, v2, 2⟩] 3)) = .ok .skip (w.alloc (.map #[⟨.string ⟨#[80, 111, 115]⟩, v0, 0⟩, ⟨.string ⟨#[86, 97, 108]⟩, v1, 1⟩, ⟨.string ⟨#[83, 117, 99, 99]⟩, v2, 2⟩, ⟨.string ⟨#[80, 114, 101, 100]⟩, v, 3⟩] 4)) := run_insShift hr rfl

def lookShift (m k : Value) : Sem Next := do return .value (← Instr.lookup 146 m k true)
@[go_sem ↓] theorem execOp_lookShift (ρ : Operand → Value) (dst : Option Tmp) (m k : Operand) (ty : TypeId) (pos : String) (after : Array Edge) (guard : Option (Nat × Bool)) :
    execOp ρ { dst, op := .lookup 146 m k true, type := ty, pos, after, guard } = lookShift (ρ m) (ρ k) := rfl
/-- What the map of shifts holds of a name. -/
def shX (s : ByteArray) : (Int × Bool) × Bool :=
  if s = sPos then ((0, false), true) else if s = sVal then ((0, true), true) else if s = sSucc then ((1, true), true) else if s = sPred then ((-1, true), true) else ((0, false), false)
theorem shX_shift (s : ByteArray) : shiftP s = if (shX s).2 then some (shX s).1 else none := by
  unfold shiftP shX
  split
  · rfl
  split
  · rfl
  split
  · rfl
  split <;> rfl
def shA (x : Int × Bool) : Value := .agg #[.int .i64 x.1, .bool x.2]
theorem beq_ba (a b : ByteArray) : (a == b) = decide (a = b) := by
  rw [Bool.eq_iff_iff, decide_eq_true_eq]
  constructor
  · intro h
    have h : (a.data == b.data) = true := h
    cases a; cases b
    simpa using h
  · rintro rfl
    show (a.data == a.data) = true
    simp
theorem Try.zeroShift (w : World) : (zeroValue 117).run Try.prog w = .ok (.agg #[.int .i64 0, .bool false]) w := by kernel_rfl
@[go_sem] theorem run_lookShift (w : World) (r : Nat) (s : ByteArray) [h : MapIs w r #[⟨.string ⟨#[80, 111, 115]⟩, .agg #[.int .i64 0, .bool false], 0⟩, ⟨.string ⟨#[86, 97, 108]⟩, .agg #[.int .i64 0, .bool true], 1⟩, ⟨.string ⟨#[83, 117, 99, 99]⟩, .agg #[.int .i64 1, .bool true], 2⟩, ⟨.string ⟨#[80, 114, 101, 100]⟩, .agg #[.int .i64 (-1), .bool true], 3⟩] 4] :
    Sem.run Try.prog (lookShift (.map (some r)) (.string s)) w = .ok (.value (.tuple #[.agg #[.int .i64 (shX s).1.1, .bool (shX s).1.2], .bool (shX s).2])) w := by
  have key : ∀ q, Instr.findNow .string (.string s) [⟨.string sPos, .agg #[.int .i64 0, .bool false], 0⟩, ⟨.string sVal, .agg #[.int .i64 0, .bool true], 1⟩, ⟨.string sSucc, .agg #[.int .i64 1, .bool true], 2⟩, ⟨.string sPred, .agg #[.int .i64 (-1), .bool true], 3⟩] 0 = some q →
      Sem.run Try.prog (lookShift (.map (some r)) (.string s)) w = .ok (.value (.tuple #[(q.map (·.2)).getD (.agg #[.int .i64 0, .bool false]), .bool q.isSome])) w := fun q hq => by
    simp only [lookShift, Sem.run_bind, run_lookup_ok w Try.underlying146 Try.underlying9 (Try.zeroShift w) r _ 4 h.has (.string s) rfl q hq, Result.andThen_ok, Sem.run_pure]
  by_cases h1 : s = sPos
  · subst h1
    exact key (some (0, .agg #[.int .i64 0, .bool false])) rfl
  by_cases h2 : s = sVal
  · subst h2
    exact key (some (1, .agg #[.int .i64 0, .bool true])) rfl
  by_cases h3 : s = sSucc
  · subst h3
    exact key (some (2, .agg #[.int .i64 1, .bool true])) rfl
  by_cases h4 : s = sPred
  · subst h4
    exact key (some (3, .agg #[.int .i64 (-1), .bool true])) rfl
  rw [key none (by simp [Instr.findNow, Instr.sameNow, beq_ba, h1, h2, h3, h4])]
  simp [shX, h1, h2, h3, h4]
end Go.Proofs.Ytgdjhhfbpalkdaa
