/- New boxes as instances: what was laid last, by the number of blocks; expressions in slices and boxes. -/
import Derived.Test.YtgdjhhfbpalkdaaK7
namespace Go.Proofs.Ytgdjhhfbpalkdaa
open Go.RowKit

/-- The number of blocks. -/
class SizeIs (w : World) (k : Nat) : Prop where
  size : w.heap.size = k
instance (w : World) : SizeIs w w.heap.size := ⟨rfl⟩
instance (w : World) (k : Nat) (ob : Obj) [h : SizeIs w k] : SizeIs (w.alloc ob) (k + 1) := ⟨by simp [h.size]⟩
instance (w : World) (k : Nat) [h : SizeIs w k] : SizeIs w.drew k := ⟨h.size⟩
instance (w : World) (k : Nat) (a : Addr) (u : Value) [h : SizeIs w k] : SizeIs (w.setCell a u) k := ⟨by simp [h.size]⟩
instance (w : World) (k D : Nat) (cs : Array Value) [h : SizeIs w k] : SizeIs (w.setRow D cs) k := ⟨by simp [World.setRow, h.size]⟩
theorem range_new {w : World} {k : Nat} {l : List Value} {ty : TypeId} (h : w.heap.size = k) : (w.alloc (.cells l.toArray ty)).rangeAt k 0 l := by
  subst h
  have hb := heap_alloc_new w (.cells l.toArray ty)
  intro j u hu
  rw [Nat.zero_add, cell_of_row _ _ _ _ _ _ hb]
  simpa using hu

/-- An expression lies at an address. -/
class ExAt (w : World) (b o : Nat) (x : outParam ExV) : Prop where
  range : w.rangeAt b o x.cells
instance (w : World) (b o : Nat) (x : ExV) (ob : Obj) [h : ExAt w b o x] : ExAt (w.alloc ob) b o x := ⟨World.rangeAt_alloc h.range ob⟩
instance (w : World) (b o : Nat) (x : ExV) [h : ExAt w b o x] : ExAt w.drew b o x := ⟨by simpa using h.range⟩
instance (w : World) (b o : Nat) (x : ExV) (z : After w) [h : ExAt w b o x] : ExAt z.1 b o x := ⟨fun j u hu => z.2.cell (h.range j u hu) (by simp)⟩
instance (w : World) (b o D : Nat) (x : ExV) (cs : Array Value) [h : ExAt w b o x] [a : Apart D b] : ExAt (w.setRow D cs) b o x := ⟨range_setRow h.range D cs a.ne⟩
theorem ExAt.kept {w w' : World} {b o : Nat} {x : ExV} (h : ExAt w b o x) (hk : Kept [] w w') : ExAt w' b o x := ⟨fun j u hu => hk.cell (h.range j u hu) (by simp)⟩
theorem Try.infoEx (x : ExV) : (Try.prog.info? 34).map (·.size) = some x.cells.length := by
  show _ = some 9
  kernel_rfl
def loadEx (v : Value) : Sem Next := do return .value (← Instr.loadAt 34 v)
@[go_sem ↓] theorem execOp_loadEx (ρ : Operand → Value) (dst : Option Tmp) (x : Operand) (ty : TypeId) (pos : String) (after : Array Edge) (guard : Option (Nat × Bool)) :
    execOp ρ { dst, op := .load 34 x, type := ty, pos, after, guard } = loadEx (ρ x) := rfl
@[go_sem] theorem run_loadEx (w : World) (b o : Nat) (x : ExV) [h : ExAt w b o x] : Sem.run Try.prog (loadEx (.pointer (some ⟨b, o, none⟩))) w = .ok (.value (.agg x.cells.toArray)) w := by
  simp only [loadEx, Instr.loadAt, Instr.sureAddr, Sem.run_bind, Sem.run_pure, Result.andThen_ok, run_loadVar_mid w b o 34 x.cells _ h.range Try.underlying34 rfl (Try.infoEx x)]

/-- The first expression below another. -/
theorem ex_at {w : World} {n : Nat} {x : ExV} (h : ExIn w (n + 1) x) {j : Nat} (hj : j < x.ls.length) : ∃ b o, x.la = some ⟨b, o, none⟩ ∧ ExAt w b (o + j * 9) (x.ls.getD j default) ∧ ExIn w n (x.ls.getD j default) := by
  obtain ⟨y, hy⟩ : ∃ y, x.ls[j]? = some y := ⟨_, List.getElem?_eq_getElem hj⟩
  obtain ⟨b, o, ha, hr⟩ := h.1.some_ hy
  have e : x.ls.getD j default = y := by simp [List.getD_eq_getElem?_getD, hy]
  rw [e]
  exact ⟨b, o, ha, ⟨hr j y hy⟩, h.2.1 y (List.mem_of_getElem? hy)⟩
theorem as_at {w : World} {n : Nat} {x : ExV} (h : ExIn w (n + 1) x) (hj : 0 < x.al.length) : ∃ b o, x.aa = some ⟨b, o, none⟩ ∧ ExAt w b (o + 1) (a0 x) ∧ ExIn w n (a0 x) := by
  obtain ⟨y, hy⟩ : ∃ y, x.al[0]? = some y := ⟨_, List.getElem?_eq_getElem hj⟩
  obtain ⟨b, o, ha, hr⟩ := h.2.2.1.some_ hy
  have e : a0 x = y.2.2.2 := by simp [a0, List.getD_eq_getElem?_getD, hy]
  rw [e]
  refine ⟨b, o, ha, ⟨fun j u hu => ?_⟩, h.2.2.2.1 y (List.mem_of_getElem? hy)⟩
  have := hr 0 y hy (j + 1) u (by simpa [AsV.cells] using hu)
  simpa [Nat.add_assoc, Nat.add_comm 1 j] using this

/-- Block B is a row of cells. -/
class BoxIs (w : World) (B : Nat) (ty : outParam TypeId) (cs : outParam (Array Value)) : Prop where
  has : w.heap[B]? = some (.cells cs ty (0, 0))
instance (w : World) (k : Nat) (ty : TypeId) (cs : Array Value) [h : SizeIs w k] : BoxIs (w.alloc (.cells cs ty)) k ty cs := ⟨obj_new h.size.symm⟩
instance (w : World) (B : Nat) (ty : TypeId) (cs : Array Value) (ob : Obj) [h : BoxIs w B ty cs] : BoxIs (w.alloc ob) B ty cs := ⟨obj_old h.has (Array.getElem?_eq_some_iff.1 h.has).1⟩
instance (w : World) (B : Nat) (ty : TypeId) (cs : Array Value) [h : BoxIs w B ty cs] : BoxIs w.drew B ty cs := ⟨h.has⟩
instance (w : World) (B : Nat) (ty : TypeId) (cs : Array Value) (z : After w) [h : BoxIs w B ty cs] : BoxIs z.1 B ty cs := ⟨z.2.obj h.has (by simp)⟩
instance (w : World) (B : Nat) (ty : TypeId) (cs cs' : Array Value) [h : BoxIs w B ty cs] : BoxIs (w.setRow B cs') B ty cs' := ⟨setRow_heap _ _ _ _ _ _ h.has⟩
instance (w : World) (B D : Nat) (ty : TypeId) (cs cs' : Array Value) [h : BoxIs w B ty cs] [a : Apart D B] : BoxIs (w.setRow D cs') B ty cs := ⟨by
  have := a.ne
  simp [World.setRow, Array.getElem?_modify, this, h.has]⟩
instance (w : World) (B j : Nat) (ty : TypeId) (cs : Array Value) (u : Value) [h : BoxIs w B ty cs] : BoxIs (w.setCell ⟨B, j, none⟩ u) B ty (cs.setIfInBounds j u) := ⟨heap_setCell_same _ _ _ _ _ _ h.has⟩
instance (w : World) (B D j : Nat) (ty : TypeId) (cs : Array Value) (u : Value) [h : BoxIs w B ty cs] [a : Apart D B] : BoxIs (w.setCell ⟨D, j, none⟩ u) B ty cs := ⟨(heap_setCell_other w _ B u (Ne.symm a.ne)).trans h.has⟩
theorem BoxIs.kept {w w' : World} {B : Nat} {ty : TypeId} {cs : Array Value} (h : BoxIs w B ty cs) (hk : Kept [] w w') : BoxIs w' B ty cs := ⟨hk.obj h.has (by simp)⟩
theorem BoxIs.lt {w : World} {B : Nat} {ty : TypeId} {cs : Array Value} (h : BoxIs w B ty cs) : B < w.heap.size := (Array.getElem?_eq_some_iff.1 h.has).1
@[go_sem] theorem cell_box (w : World) (B j : Nat) (ty : TypeId) (cs : Array Value) [h : BoxIs w B ty cs] : w.cell? ⟨B, j, none⟩ = cs[j]? := cell_of_row _ _ _ _ _ _ h.has
@[go_sem] theorem frozen_box (w : World) (B j : Nat) (ty : TypeId) (cs : Array Value) [h : BoxIs w B ty cs] : w.frozen? ⟨B, j, none⟩ = false := frozen_of_row _ _ _ _ _ h.has
instance (w : World) (B : Nat) (x : TyV) [h : BoxIs w B 77 x.cells.toArray] : BoxOf 77 18 w B := ⟨⟨_, h.has, rfl⟩⟩

instance (w : World) (B : Nat) (a0 a1 a2 a3 a4 a5 a6 a7 a8 a9 a10 a11 a12 a13 a14 a15 a16 a17 : Value) [h : BoxIs w B 77 #[a0, a1, a2, a3, a4, a5, a6, a7, a8, a9, a10, a11, a12, a13, a14, a15, a16, a17]] : BoxOf 77 18 w B := ⟨⟨_, h.has, rfl⟩⟩
instance (w : World) (B : Nat) (a0 a1 a2 a3 a4 a5 a6 a7 a8 a9 a10 a11 a12 a13 a14 a15 a16 a17 a18 a19 a20 a21 : Value) [h : BoxIs w B 89 #[a0, a1, a2, a3, a4, a5, a6, a7, a8, a9, a10, a11, a12, a13, a14, a15, a16, a17, a18, a19, a20, a21]] : BoxOf 89 22 w B := ⟨⟨_, h.has, rfl⟩⟩
instance (w : World) (B : Nat) (x : EntV) [h : BoxIs w B 89 x.cells.toArray] : BoxOf 89 22 w B := ⟨⟨_, h.has, rfl⟩⟩
theorem Try.storeEntBox (x : EntV) (w : World) (B : Nat) [h : BoxOf 89 22 w B] : Sem.run Try.prog (storeCells ⟨B, 0, none⟩ x.cells) w = .ok () (w.setRow B x.cells.toArray) := by
  obtain ⟨c, hc, hs⟩ := h.has
  have := run_storeVar_row (P := Try.prog) w B 89 89 c x.cells.toArray hc (by simpa using Try.infoEnt x) (by simpa [EntV.len] using hs) x.one
  cases hq : Try.prog.info? 89 with
  | none => have h1 := Try.infoEnt x; rw [hq] at h1; cases h1
  | some i =>
    have hsz : x.cells.toArray.size = i.size := by have := Try.infoEnt x; simp [hq] at this; simp; omega
    simpa [storeVar, sizeOf, typeInfo, hq, Value.cells, hsz] using this
attribute [go_sem] Try.storeEntBox
def buildTy0 : Sem Next := do return .value (← Instr.build 77 #[])
@[go_sem ↓] theorem execOp_buildTy0 (ρ : Operand → Value) (dst : Option Tmp) (ty : TypeId) (pos : String) (after : Array Edge) (guard : Option (Nat × Bool)) :
    execOp ρ { dst, op := .build 77 #[], type := ty, pos, after, guard } = buildTy0 := by simp [execOp, buildTy0]
@[go_sem] theorem run_buildTy0 (w : World) : Sem.run Try.prog buildTy0 w = .ok (.value (.agg zeroT.cells.toArray)) w := by kernel_rfl
def buildEnt0 : Sem Next := do return .value (← Instr.build 89 #[])
@[go_sem ↓] theorem execOp_buildEnt0 (ρ : Operand → Value) (dst : Option Tmp) (ty : TypeId) (pos : String) (after : Array Edge) (guard : Option (Nat × Bool)) :
    execOp ρ { dst, op := .build 89 #[], type := ty, pos, after, guard } = buildEnt0 := by simp [execOp, buildEnt0]
@[go_sem] theorem run_buildEnt0 (w : World) : Sem.run Try.prog buildEnt0 w = .ok (.value (.agg zeroE.cells.toArray)) w := by kernel_rfl

theorem range_is {w : World} {B : Nat} {ty : TypeId} {l : List Value} (h : w.heap[B]? = some (.cells l.toArray ty (0, 0))) : w.rangeAt B 0 l := by
  intro j u hu
  rw [Nat.zero_add, cell_of_row _ _ _ _ _ _ h]
  simpa using hu
instance (w : World) (B : Nat) (x : TyV) [h : BoxIs w B 77 x.cells.toArray] : TyAt w B 0 x := ⟨range_is h.has⟩
instance (w : World) (B : Nat) [h : BoxIs w B 77 #[.int .u8 0, .string ⟨#[]⟩, .int .i64 0, .int .i64 0, .slice none 0 0, .int .i64 0, .int .i64 0, .int .i64 0, .string ⟨#[]⟩, .bool false, .int .i64 0, .slice none 0 0, .int .i64 0, .int .u8 0, .bool false, .int .i64 0, .int .i64 0, .int .i64 0]] : TyAt w B 0 zeroT := ⟨range_is (l := zeroT.cells) h.has⟩
instance (w : World) (B : Nat) (x : EntV) [h : BoxIs w B 89 x.cells.toArray] : EntAt w B 0 x := ⟨range_is h.has⟩
instance (w : World) (B : Nat) [h : BoxIs w B 89 #[.int .u8 0, .string ⟨#[]⟩, .int .i64 0, .int .u8 0, .int .i64 0, .int .i64 0, .slice none 0 0, .int .i64 0, .bool false, .int .i64 0, .int .i64 0, .bool false, .bool false, .int .u8 0, .int .i64 0, .int .i64 0, .int .i64 0, .bool false, .bool false, .int .i64 0, .int .i64 0, .int .i64 0]] : EntAt w B 0 zeroE := ⟨range_is (l := zeroE.cells) h.has⟩
instance (w : World) (B : Nat) (x : ExV) [h : BoxIs w B 34 x.cells.toArray] : ExAt w B 0 x := ⟨range_is h.has⟩
instance (w : World) (B : Nat) (a b c : Int) [h : BoxIs w B 82 #[.int .i64 a, .int .i64 b, .int .i64 c]] : SubAt w B 0 ⟨a, b, c⟩ := ⟨range_is (l := (SubtV.mk a b c).cells) h.has⟩
/-- What lies at an address reads as a value. -/
class LoadsAs (w : World) (t : TypeId) (ad : Addr) (v : outParam Value) : Prop where
  run : (loadVar t ad).run Try.prog w = .ok v w
class CsLen (cs : Array Value) (n : Nat) : Prop where
  len : cs.size = n
instance (a b : Value) : CsLen #[a, b] 2 := ⟨rfl⟩
instance (a b c : Value) : CsLen #[a, b, c] 3 := ⟨rfl⟩
instance (a b c d e : Value) : CsLen #[a, b, c, d, e] 5 := ⟨rfl⟩
instance (cs : Array Value) (n i : Nat) (u : Value) [h : CsLen cs n] : CsLen (cs.setIfInBounds i u) n := ⟨by simp [h.len]⟩
instance (w : World) (B o : Nat) (x : TyV) [h : TyAt w B o x] : LoadsAs w 77 ⟨B, o, none⟩ (.agg x.cells.toArray) := ⟨run_loadVar_mid w B o 77 x.cells _ h.range Try.underlying77 rfl (Try.infoTy x)⟩
instance (w : World) (B o : Nat) (x : EntV) [h : EntAt w B o x] : LoadsAs w 89 ⟨B, o, none⟩ (.agg x.cells.toArray) := ⟨run_loadVar_mid w B o 89 x.cells _ h.range Try.underlying89 rfl (Try.infoEnt x)⟩
instance (w : World) (B o : Nat) (x : ExV) [h : ExAt w B o x] : LoadsAs w 34 ⟨B, o, none⟩ (.agg x.cells.toArray) := ⟨run_loadVar_mid w B o 34 x.cells _ h.range Try.underlying34 rfl (Try.infoEx x)⟩
theorem Try.infoSub3 : (Try.prog.info? 82).map (·.size) = some 3 := by kernel_rfl
theorem Try.infoBd2 : (Try.prog.info? 55).map (·.size) = some 2 := by kernel_rfl
instance (w : World) (B : Nat) (cs : Array Value) [h : BoxIs w B 82 cs] [n : CsLen cs 3] : LoadsAs w 82 ⟨B, 0, none⟩ (.agg cs) := ⟨by
  have := run_loadVar_mid (P := Try.prog) w B 0 82 cs.toList _ (range_is (by simpa using h.has)) Try.underlying82 rfl (by rw [Try.infoSub3]; simp [n.len])
  simpa using this⟩
instance (w : World) (B : Nat) (cs : Array Value) [h : BoxIs w B 55 cs] [n : CsLen cs 2] : LoadsAs w 55 ⟨B, 0, none⟩ (.agg cs) := ⟨by
  have := run_loadVar_mid (P := Try.prog) w B 0 55 cs.toList _ (range_is (by simpa using h.has)) Try.underlying55 rfl (by rw [Try.infoBd2]; simp [n.len])
  simpa using this⟩
def ResAt (tmps : Array Value) (w : World) : ResultVar → Value → Prop
  | .tmp t, v => tmps.getD t undef = v
  | .cell a t, v => ∃ ad, tmps.getD a undef = .pointer (some ad) ∧ (loadVar t ad).run Try.prog w = .ok v w
def resG (tmps : Array Value) (r : ResultVar) : Sem Value :=
  match r with
  | .tmp t => pure (tmps.getD t undef)
  | .cell a t => do loadVar t (← asAddr (tmps.getD a undef))
theorem resG_run {tmps : Array Value} {w : World} {r : ResultVar} {v : Value} (h : ResAt tmps w r v) : (resG tmps r).run Try.prog w = .ok v w := by
  cases r with
  | tmp t => simp only [ResAt] at h; simp [resG, h]
  | cell a t =>
    obtain ⟨ad, h1, h2⟩ := h
    simp only [resG, h1, asAddr, Sem.run_bind, Sem.run_pure, Result.andThen_ok, h2]
theorem results_G (fn : Func) (tmps : Array Value) : results fn tmps = (do let vs ← fn.results.mapM (resG tmps); pure (if h : vs.size = 1 then vs[0] else .tuple vs)) := rfl
theorem res1 {fn : Func} {tmps : Array Value} {w : World} {r1 : ResultVar} {v1 : Value} (hf : fn.results = #[r1]) (h1 : ResAt tmps w r1 v1) : (results fn tmps).run Try.prog w = .ok v1 w := by
  have e1 := resG_run h1
  rw [results_G, hf]
  simp [e1]
theorem res2 {fn : Func} {tmps : Array Value} {w : World} {r1 r2 : ResultVar} {v1 v2 : Value} (hf : fn.results = #[r1, r2]) (h1 : ResAt tmps w r1 v1) (h2 : ResAt tmps w r2 v2) : (results fn tmps).run Try.prog w = .ok (.tuple #[v1, v2]) w := by
  have e1 := resG_run h1
  have e2 := resG_run h2
  rw [results_G, hf]
  simp [e1, e2]
theorem res3 {fn : Func} {tmps : Array Value} {w : World} {r1 r2 r3 : ResultVar} {v1 v2 v3 : Value} (hf : fn.results = #[r1, r2, r3]) (h1 : ResAt tmps w r1 v1) (h2 : ResAt tmps w r2 v2) (h3 : ResAt tmps w r3 v3) : (results fn tmps).run Try.prog w = .ok (.tuple #[v1, v2, v3]) w := by
  have e1 := resG_run h1
  have e2 := resG_run h2
  have e3 := resG_run h3
  rw [results_G, hf]
  simp [e1, e2, e3]
theorem resT {tmps : Array Value} {w : World} {t : Tmp} {v : Value} (h : tmps.getD t undef = v) : ResAt tmps w (.tmp t) v := h
theorem resC {tmps : Array Value} {w : World} {a : Tmp} {t : TypeId} {ad : Addr} {v : Value} (h : tmps.getD a undef = .pointer (some ad)) (hl : LoadsAs w t ad v) : ResAt tmps w (.cell a t) v := ⟨ad, h, hl.run⟩
theorem Kept.row' {w w' : World} (h : Kept [] w w') (B : Nat) (cs : Array Value) (hB : w.heap.size ≤ B) : Kept [] w (w'.setRow B cs) :=
  (Kept.trans (h.mono (Y := [B]) (by simp)) (Kept.setRow w' B cs (by simp))).mono' (fun x hx hl => by simp at hx; omega)
theorem Kept.setB {w w' : World} (h : Kept [] w w') (b j : Nat) (u : Value) (hB : w.heap.size ≤ b) : Kept [] w (w'.setCell ⟨b, j, none⟩ u) := h.set' _ _ hB
/-- A block below another. -/
class LtB (a b : Nat) : Prop where
  lt : a < b
instance (k : Nat) : LtB k (k + 1) := ⟨by omega⟩
instance (a b : Nat) [h : LtB a b] : LtB a (b + 1) := ⟨by have := h.lt; omega⟩
instance (w : World) (B : Nat) (ty : TypeId) (cs : Array Value) [h : BoxIs w B ty cs] : LtB B w.heap.size := ⟨h.lt⟩
instance (a b : Nat) [h : LtB a b] : Apart a b := ⟨by have := h.lt; omega⟩
instance (a b : Nat) [h : LtB b a] : Apart a b := ⟨by have := h.lt; omega⟩
end Go.Proofs.Ytgdjhhfbpalkdaa
