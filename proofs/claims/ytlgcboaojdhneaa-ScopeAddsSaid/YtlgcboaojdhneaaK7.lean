/- Entities into the block before the last. A slice literal of one entity as a rule of the walk. Regions that draw their order and end with a store that every other operation is ahead of: what the loads read is asked of every world but the last. -/
import Derived.Test.YtlgcboaojdhneaaK4
import Derived.Test.YtlgcboaojdhneaaE1
import Derived.Deep.RegionLawGrows
import Derived.StillTail
import Derived.Deep.RegionHeld3
namespace Go.Proofs.Ytlgcboaojdhneaa
open Go.RowKit

theorem setRow_alloc_old (w : World) (c c' : Array Value) (t : TypeId) (o : Obj) : ((w.alloc (.cells c t)).alloc o).setRow w.heap.size c' = (w.alloc (.cells c' t)).alloc o := by
  simp only [World.setRow, World.alloc]
  congr 1
  apply Array.ext_getElem?
  intro i
  rw [Array.getElem?_modify]
  by_cases h : w.heap.size = i
  · subst h
    simp [Array.getElem?_push]
  · have h' : ¬ i = w.heap.size := fun e => h e.symm
    simp [h, h', Array.getElem?_push]
@[go_sem] theorem Try.store43o (x : EntV) (w : World) (o : Obj) (k : Nat) (hk : k = w.heap.size) : Sem.run Try.prog (storeCells ⟨k, 0, none⟩ x.cells)
    ((w.alloc (.cells #[.int .u8 0, .string ⟨#[]⟩, .int .i64 0, .int .u8 0, .int .i64 0, .int .i64 0, .slice none 0 0, .int .i64 0, .bool false, .int .i64 0, .int .i64 0, .bool false, .bool false, .int .u8 0, .int .i64 0, .int .i64 0, .int .i64 0, .bool false, .bool false, .int .i64 0, .int .i64 0, .int .i64 0] 43)).alloc o) = .ok () ((w.alloc (.cells x.cells.toArray 43)).alloc o) := by
  subst hk
  have h := run_storeVar_row (P := Try.prog) ((w.alloc (.cells #[.int .u8 0, .string ⟨#[]⟩, .int .i64 0, .int .u8 0, .int .i64 0, .int .i64 0, .slice none 0 0, .int .i64 0, .bool false, .int .i64 0, .int .i64 0, .bool false, .bool false, .int .u8 0, .int .i64 0, .int .i64 0, .int .i64 0, .bool false, .bool false, .int .i64 0, .int .i64 0, .int .i64 0] 43)).alloc o) w.heap.size 43 43 _ x.cells.toArray (obj_old (obj_new rfl) (by simp)) (by simpa using Try.info43 x) (by simp [EntV.cells]) x.one
  rw [setRow_alloc_old] at h
  have hi := Try.info43 x
  cases hq : Try.prog.info? 43 with
  | none => simp [hq] at hi
  | some i =>
    have hs : x.cells.length = i.size := by simp [hq] at hi; omega
    simpa [storeVar, sizeOf, typeInfo, hq, Value.cells, hs] using h
@[go_sem] theorem Try.store43od (x : EntV) (w : World) (o : Obj) (k : Nat) (hk : k = w.heap.size) : Sem.run Try.prog (storeCells ⟨k, 0, none⟩ x.cells)
    ((w.alloc (.cells #[.int .u8 0, .string ⟨#[]⟩, .int .i64 0, .int .u8 0, .int .i64 0, .int .i64 0, .slice none 0 0, .int .i64 0, .bool false, .int .i64 0, .int .i64 0, .bool false, .bool false, .int .u8 0, .int .i64 0, .int .i64 0, .int .i64 0, .bool false, .bool false, .int .i64 0, .int .i64 0, .int .i64 0] 43)).alloc o).drew = .ok () ((w.alloc (.cells x.cells.toArray 43)).alloc o).drew :=
  Try.store43o x w.drew o k (by simpa using hk)
end Go.Proofs.Ytlgcboaojdhneaa
namespace Go.Proofs.Ytlgcboaojdhneaa
open Go.RowKit

def build24 (v : Value) : Sem Next := do return .value (← Instr.buildSlice 24 1 #[(0, v)])
@[go_sem ↓] theorem execOp_build24 (ρ : Operand → Value) (dst : Option Tmp) (x : Operand) (ty : TypeId) (pos : String) (after : Array Edge) (guard : Option (Nat × Bool)) :
    execOp ρ { dst, op := .buildSlice 24 1 #[(0, x)], type := ty, pos, after, guard } = build24 (ρ x) := by simp [execOp, build24]
@[go_sem] theorem run_build24 (w : World) (x : EntV) : Sem.run Try.prog (build24 (.agg x.cells.toArray)) w = .ok (.value (.slice (some ⟨w.heap.size, 0, none⟩) 1 1)) (w.alloc (.cells x.cells.toArray 43)) := by
  obtain ⟨i0, hi, hz0, hz1, hz2⟩ := info_parts ent_info
  have h := run_buildSlice (P := Try.prog) w 24 43 1 #[(0, .agg x.cells.toArray)] x.cells.toArray i0 (.agg zeroE.cells.toArray) Try.underlying24 hi hz0 (by rw [hz1]; decide) (by rw [hz1]; decide) (by
    rw [hz1]
    have := Great.fill_whole (s := 22) (by decide) [Value.agg x.cells.toArray] ((Array.range (1 * 22)).map ((Value.agg zeroE.cells.toArray).cells[· % (Value.agg zeroE.cells.toArray).cells.size]!)) (fun v hv => by simp at hv; subst hv; simpa [Value.cells] using x.len) (by simp)
    have hz : (([Value.agg x.cells.toArray].zipIdx 0).map fun y => (y.2, y.1)) = [((0 : Nat), Value.agg x.cells.toArray)] := rfl
    rw [hz] at this
    show Instr.fill (fun i => some (i * 22, 22)) _ [((0 : Nat), Value.agg x.cells.toArray)] = _
    rw [this]
    simp [Value.cells])
  simp only [build24, Sem.run_bind, h, Result.andThen_ok, Sem.run_pure]
end Go.Proofs.Ytlgcboaojdhneaa
namespace Go.Proofs.Ytlgcboaojdhneaa
open Go.RowKit

section
variable {P : Program} {md : Region.Mode} {ops : Array Oper} {Q : Exit → Act → World → Prop} {S : World → Prop} {N : Nat}

/-- In whatever order; S behind each operation but number N. -/
def AnyBut (P : Program) (md : Region.Mode) (ops : Array Oper) (Q : Exit → Act → World → Prop) (S : World → Prop) (N : Nat) : Nat → Array Bool → Act → World → Prop
  | 0, done, a, w => Region.ready md ops done = [] ∧ Q .normal a w
  | k + 1, done, a, w => (Region.ready md ops done = [] → Q .normal a w) ∧
      ∀ i, i ∈ Region.ready md ops done → wpOp P ops Q i (fun a' w' => (i ≠ N → S w') ∧ AnyBut P md ops Q S N k (done.setIfInBounds i true) a' w') a w

theorem AnyBut.any : ∀ (k : Nat) (done : Array Bool) (a : Act) (w : World), AnyBut P md ops Q S N k done a w → wpAny P md ops Q k done a w
  | 0, _, _, _, h => h
  | k + 1, _, _, _, h => ⟨h.1, fun i hi => wpOp_mono (fun a' w' h' => AnyBut.any k _ a' w' h'.2) (h.2 i hi)⟩

theorem unlisted_of_ready {i j : Nat} {done : Array Bool} (hi : i ∈ Region.ready md ops done) (hj : j ∈ Region.ready md ops done) {o : Oper} (ho : ops[j]? = some o) : ∀ e ∈ o.after, Region.binds md e = true → e.on ≠ i := by
  intro e he hb hei
  obtain ⟨_, o', ho', hall⟩ := mem_ready.1 hj
  rw [ho] at ho'
  cases ho'
  have h1 := hall e he hb
  have h0 := (mem_ready.1 hi).1
  rw [hei] at h1
  by_cases h' : i < done.size
  · simp [h'] at h0 h1
    rw [h0] at h1
    cases h1
  · rw [Array.getD_eq_getD_getElem?, Array.getElem?_eq_none (by omega)] at h1
    cases h1
theorem last_waits {i j : Nat} {done : Array Bool} (hw : Region.waitsFor md ops N i = true) (hi : i ∈ Region.ready md ops done) (hj : j ∈ Region.ready md ops done) : j ≠ N := by
  rintro rfl
  obtain ⟨o, ho, e, he, hb, hei⟩ := Region.waitsFor_spec hw
  exact unlisted_of_ready hi hj ho e he hb hei

theorem AnyBut.first {i : Nat} {oi : Oper} {v : Value} (hi : ops[i]? = some oi) (hsel : ∀ (j : Nat) (o : Oper) cs b, ops[j]? = some o → o.op ≠ .select cs b)
    (hQ : ∀ c a w, Q (.panic c) (a.put oi.dst v) w → Q (.panic c) a w) (hN : Region.waitsFor md ops N i = true) :
    ∀ (k : Nat) (done : Array Bool) (a : Act) (w : World),
      (∀ j oj, ops[j]? = some oj → j ≠ i → done.getD j true = false → (∀ e ∈ oj.after, Region.binds md e = true → e.on ≠ i) → oi.apart ops oj = true) →
      i ∈ Region.ready md ops done → YieldsIf P ops S oi v a → S w →
      AnyBut P md ops Q S N k (done.setIfInBounds i true) (a.put oi.dst v) w → AnyBut P md ops Q S N (k + 1) done a w := by
  intro k
  induction k with
  | zero =>
    intro done a w _ hr hy hS H
    refine ⟨fun h => by simp [h] at hr, fun j hj => ?_⟩
    by_cases e : j = i
    · subst e; exact hy.wpOp hi hS ⟨fun _ => hS, H⟩
    · have := ready_mono hj e
      simp [H.1] at this
  | succ k ih =>
    intro done a w hfree hr hy hS H
    refine ⟨fun h => by simp [h] at hr, fun j hj => ?_⟩
    by_cases e : j = i
    · subst e; exact hy.wpOp hi hS ⟨fun _ => hS, H⟩
    · have hl := last_waits hN hr hj
      obtain ⟨hun, oj, hoj, _⟩ := mem_ready.1 hj
      have hap := hfree j oj hoj e hun (unlisted_of_ready hr hj hoj)
      refine wpOp_mono (fun a' w' h3 => ?_) (wpOp_putIf hoj hap (fun cs b => hsel i oi cs b hi) (fun cs b => hsel j oj cs b hoj) hQ hy (H.2 j (ready_mono hj e)))
      obtain ⟨hy', hS', H'⟩ := h3
      refine ⟨hS', ih _ a' w' (fun m om hm hmi hmu hno => ?_) (ready_mono hr (fun x => e x.symm)) hy' (hS' hl) (by rw [Array.setIfInBounds_comm _ _ e]; exact H')⟩
      refine hfree m om hm hmi ?_ hno
      by_cases hjm : j = m
      · subst hjm; exact hun
      · rwa [getD_set_ne true hjm] at hmu

/-- Number i first. -/
theorem AnyBut.take {i : Nat} {oi : Oper} {v : Value} {k : Nat} {done : Array Bool} {a : Act} {w : World} (hi : ops[i]? = some oi)
    (hs : Region.noSelect ops = true) (hf : Region.free md ops done i = true) (hr : (Region.ready md ops done).contains i = true) (hN : Region.waitsFor md ops N i = true)
    (hQ : ∀ c a w, Q (.panic c) (a.put oi.dst v) w → Q (.panic c) a w) (hy : YieldsIf P ops S oi v a) (hS : S w)
    (h : AnyBut P md ops Q S N k (done.setIfInBounds i true) (a.put oi.dst v) w) : AnyBut P md ops Q S N (k + 1) done a w :=
  AnyBut.first hi (Region.noSelect_spec hs) hQ hN k done a w (Region.free_spec hi hf) (by simpa using hr) hy hS h
/-- One alone may come up. -/
theorem AnyBut.one {i : Nat} {o : Oper} {k : Nat} {done : Array Bool} {a : Act} {w : World} (hi : ops[i]? = some o) (hr : Region.ready md ops done = [i])
    (h : ∀ K' : Act → World → Prop, Shut (∀ a w, (i ≠ N → S w) → ((i ≠ N → S w) → AnyBut P md ops Q S N k (done.setIfInBounds i true) a w) → K' a w) → if Region.wanted o (yielded ops a.tmps) = true then Oper.wp P o a w K' Q else K' (a.put o.dst undef) w) :
    AnyBut P md ops Q S N (k + 1) done a w :=
  ⟨fun h0 => (by rw [hr] at h0; cases h0), fun j hj => by
    rw [hr] at hj
    simp at hj
    subst hj
    exact wpOp_step hi (fun K' hK => h K' (fun a w hS hW => hK a w ⟨hS, hW hS⟩))⟩
theorem AnyBut.done {done : Array Bool} {a : Act} {w : World} (hr : Region.ready md ops done = []) (h : Q .normal a w) : ∀ k, AnyBut P md ops Q S N k done a w
  | 0 => ⟨hr, h⟩
  | _ + 1 => ⟨fun _ => h, by rw [hr]; simp⟩
/-- The beginning. -/
theorem wp_region_but {id : Nat} {a : Act} {w : World} (S : World → Prop) (N : Nat) (hm : P.follows .mixedOrders = true) (hS : S w.drew)
    (h : S w.drew → AnyBut P .any ops Q S N ops.size (Array.replicate ops.size false) a w.drew) : (Code.region id ops true).wp P Q a w :=
  wp_region_any hm (AnyBut.any _ _ _ _ (h hS))
end
end Go.Proofs.Ytlgcboaojdhneaa
