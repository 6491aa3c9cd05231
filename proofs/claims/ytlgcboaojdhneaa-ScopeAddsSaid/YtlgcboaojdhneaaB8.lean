/- used$2$1. -/
import Derived.Test.YtlgcboaojdhneaaB7
namespace Go.Proofs.Ytlgcboaojdhneaa
open Go.RowKit Go.Shelf

/-- A long load in a class of worlds. -/
theorem wpQuiet_load_mid {P : Program} {ops : Array Oper} {C : World → Prop} {Q : Act → Prop} {rest : List Oper} {op : Oper} {a : Act} (ty : TypeId) (x : Operand) (ho : op.op = .load ty x)
    (hw : Region.wanted op (yielded ops a.tmps) = true) (b o : Nat) (hx : a.eval x = .pointer (some ⟨b, o, none⟩)) (cs : List Value) (d : TypeDesc) (hc : ∀ w, C w → w.rangeAt b o cs)
    (hu : P.underlying ty = some d) (hd : d.isRow = true) (hi : (P.info? ty).map (·.size) = some cs.length)
    (h : wpQuiet P ops C Q rest (a.put op.dst (.agg cs.toArray))) : wpQuiet P ops C Q (op :: rest) a :=
  BigFrame.wpQuiet_want hw fun K hK => ⟨.agg cs.toArray, fun w hw => by
    unfold Oper.quietAt execOp
    simp only [ho, hx, Instr.loadAt, Instr.sureAddr, Sem.run_bind, Sem.run_pure, Result.andThen_ok, run_loadVar_mid w b o ty cs d (hc w hw) hu hd hi, Oper.quietUpon]
    exact ⟨trivial, trivial⟩, hK _ h⟩

/-- Of an entity y of another owner: does it hide x? -/
def overB (t : Tab) (x y : EntV) : Bool := ((y.owner != x.owner) && homR t x y) && !(ovl x && ovl y)

set_option maxRecDepth 100000 in
set_option maxHeartbeats 4000000 in
theorem used21_any (w : World) (F Bf Bx : Nat) (v : TabV) (t : Tab) (h : WhV) (name : ByteArray) (all : List Int) (k : Nat) (x y : EntV) (hy : t.ents[k]? = some y) (hF : FinderIn w F v t h name all) (hEX : EntIn w x)
    (hBf : w.cell? ⟨Bf, 0, none⟩ = some (.pointer (some ⟨F, 0, none⟩))) (hBx : w.heap[Bx]? = some (.cells x.cells.toArray 43 (0, 0))) :
    Calls Try.prog 75 #[.int .i64 k, .pointer (some ⟨Bf, 0, none⟩), .pointer (some ⟨Bx, 0, none⟩)] w (RetB (overB t x y) w) := by
  have HF := Lib.hid hF
  have HEX := Lib.hid hEX
  have HEY := Lib.hid (hF.tab.ent (List.mem_of_getElem? hy))
  have q1 := hF.tab.el
  have q2 := hF.tab.em
  have hyl := (List.getElem?_eq_some_iff.1 hy).1
  obtain ⟨b, o, hea, hr⟩ := hF.tab.es.some_ hy
  have HRY := Lib.hid (hr k y hy)
  obtain ⟨a', c', _, _, _, f0, f1, f2, f3, f4, _⟩ := hF.cells
  have f2' := f2
  rw [hea] at f2'
  have j3 : (0 : Int) ≤ (k : Int) := by omega
  have j4 : (k : Int) < (t.ents.length : Int) := by omega
  have HBX := Lib.hid hBx
  have HR : Hid (overB t x y = (((y.owner != x.owner) && homR t x y) && !(ovl x && ovl y))) := rfl
  have HVT : Hid (v.cells t = #[.slice v.ta t.types.length v.tc, .slice v.sa t.subs.length v.sc, .slice (some ⟨b, o, none⟩) t.ents.length v.ec, .slice v.ga v.gn v.gc, .slice v.ia v.im v.ic]) := by rw [Hid, ← hea]; rfl
  have HF2 := Lib.hid f2'
  have hlx := (Array.getElem?_eq_some_iff.1 hBx).1
  clear hy hF hr hea f2 hEX hBx
  replace f2 := f2'
  clear f2'
  go_enter Try.func75, Try.ntmps75
  go_upto_region 2 with (refine wpList_load_mid rfl 43 (.tmp 13) rfl b (o + k * 22) rfl y.cells _ HRY.out Try.underlying43 rfl (Try.info43 y) ?_; simp only [Act.put, List.setIfInBounds_toArray, List.set_cons_zero, List.set_cons_succ])
  refine wp_gen' ?_
  intro w0 hw0
  have hk0 : Kept [] w w0 := by rw [hw0]; exact Kept.alloc _ _ _
  have by0 : w0.heap[w.heap.size]? = some (.cells y.cells.toArray 43 (0, 0)) := by rw [hw0]; exact heap_alloc_new _ _
  have bx0 := hk0.obj HBX.out (by simp)
  have HK0 := Lib.hid hk0
  have g0 := After.cell (hk0.cell hBf (by simp))
  have e0 := After.cell (hk0.cell f0 (by simp))
  have e1 := After.cell (hk0.cell f1 (by simp))
  have e2 := After.cell (hk0.cell HF2.out (by simp))
  have e3 := After.cell (hk0.cell f3 (by simp))
  have e4 := After.cell (hk0.cell f4 (by simp))
  have ex := After.cell (ent_cell (x := x) bx0 2 rfl)
  have ey := After.cell (ent_cell (x := y) by0 2 rfl)
  have HRX : Hid (∀ W, (∃ z : After w0, W = z.1) → W.rangeAt Bx 0 x.cells) := fun W ⟨z, e⟩ => by subst e; exact EntV.range (z.2.obj bx0 (by simp))
  have HRYY : Hid (∀ W, (∃ z : After w0, W = z.1) → W.rangeAt w.heap.size 0 y.cells) := fun W ⟨z, e⟩ => by subst e; exact EntV.range (z.2.obj by0 (by simp))
  have HCH : Hid (∀ z : After w0, Calls Try.prog 48 #[.agg #[.slice v.ta t.types.length v.tc, .slice v.sa t.subs.length v.sc, .slice (some ⟨b, o, none⟩) t.ents.length v.ec, .slice v.ga v.gn v.gc, .slice v.ia v.im v.ic], .agg x.cells.toArray, .agg y.cells.toArray] z.1 (RetB (homR t x y) z.1)) := fun z => by
    rw [← HVT.out]
    exact homographs_any z.1 v t x y (HF.out.tab.kept (HK0.out.trans z.2)) (HEX.out.kept (HK0.out.trans z.2)) (HEY.out.kept (HK0.out.trans z.2))
  have HCX : Hid (∀ z : After w0, Calls Try.prog 76 #[.agg x.cells.toArray] z.1 (RetB (ovl x) z.1)) := fun z => overloadable_any z.1 x
  have HCY : Hid (∀ z : After w0, Calls Try.prog 76 #[.agg y.cells.toArray] z.1 (RetB (ovl y) z.1)) := fun z => overloadable_any z.1 y
  generalize hY : w.heap.size = Y at *
  clear hw0 hk0 by0 bx0 hBf f0 f1 f2 f3 f4 HBX HRY hY
  cases h1 : (y.owner != x.owner)
  · rw [h1] at HR
    refine wp_region_after (by kernel_rfl) (by kernel_rfl) ?_
    repeat (go_big_quiet_step (fail))
    refine wpQuiet_nil ?_
    rintro w' ⟨z, rfl⟩
    obtain ⟨w1, hk1⟩ := z
    go_wp2_with fail
    go_ret
    exact ⟨by rw [HR.out]; rfl, HK0.out.trans hk1⟩
  · rw [h1] at HR
    cases h2 : homR t x y
    · rw [h2] at HR HCH
      clear h2
      refine wp_region_after (by kernel_rfl) (by kernel_rfl) ?_
      iterate 10 (go_big_quiet_step (fail))
      refine wpQuiet_load_mid 43 (.tmp 2) rfl (by kernel_rfl) Bx 0 rfl x.cells _ HRX.out Try.underlying43 rfl (Try.info43 x) ?_
      simp only [Act.put, List.setIfInBounds_toArray, List.set_cons_zero, List.set_cons_succ]
      refine wpQuiet_load_mid 43 (.tmp 5) rfl (by kernel_rfl) Y 0 rfl y.cells _ HRYY.out Try.underlying43 rfl (Try.info43 y) ?_
      simp only [Act.put, List.setIfInBounds_toArray, List.set_cons_zero, List.set_cons_succ]
      go_big_quiet_step (exact Calls.after_b (HCH.out _))
      repeat (go_big_quiet_step (fail))
      refine wpQuiet_nil ?_
      rintro w' ⟨z, rfl⟩
      obtain ⟨w1, hk1⟩ := z
      go_wp2_with fail
      go_ret
      exact ⟨by rw [HR.out]; rfl, HK0.out.trans hk1⟩
    · rw [h2] at HR HCH
      clear h2
      cases h3 : ovl x
      · rw [h3] at HR HCX
        clear h3
        refine wp_region_after (by kernel_rfl) (by kernel_rfl) ?_
        iterate 10 (go_big_quiet_step (fail))
        refine wpQuiet_load_mid 43 (.tmp 2) rfl (by kernel_rfl) Bx 0 rfl x.cells _ HRX.out Try.underlying43 rfl (Try.info43 x) ?_
        simp only [Act.put, List.setIfInBounds_toArray, List.set_cons_zero, List.set_cons_succ]
        refine wpQuiet_load_mid 43 (.tmp 5) rfl (by kernel_rfl) Y 0 rfl y.cells _ HRYY.out Try.underlying43 rfl (Try.info43 y) ?_
        simp only [Act.put, List.setIfInBounds_toArray, List.set_cons_zero, List.set_cons_succ]
        go_big_quiet_step (exact Calls.after_b (HCH.out _))
        iterate 2 (go_big_quiet_step (fail))
        refine wpQuiet_load_mid 43 (.tmp 2) rfl (by kernel_rfl) Bx 0 rfl x.cells _ HRX.out Try.underlying43 rfl (Try.info43 x) ?_
        simp only [Act.put, List.setIfInBounds_toArray, List.set_cons_zero, List.set_cons_succ]
        go_big_quiet_step (exact Calls.after_b (HCX.out _))
        repeat (go_big_quiet_step (fail))
        refine wpQuiet_nil ?_
        rintro w' ⟨z, rfl⟩
        obtain ⟨w1, hk1⟩ := z
        go_wp2_with fail
        go_ret
        exact ⟨by rw [HR.out]; rfl, HK0.out.trans hk1⟩
      · rw [h3] at HR HCX
        clear h3
        refine wp_region_after (by kernel_rfl) (by kernel_rfl) ?_
        iterate 10 (go_big_quiet_step (fail))
        refine wpQuiet_load_mid 43 (.tmp 2) rfl (by kernel_rfl) Bx 0 rfl x.cells _ HRX.out Try.underlying43 rfl (Try.info43 x) ?_
        simp only [Act.put, List.setIfInBounds_toArray, List.set_cons_zero, List.set_cons_succ]
        refine wpQuiet_load_mid 43 (.tmp 5) rfl (by kernel_rfl) Y 0 rfl y.cells _ HRYY.out Try.underlying43 rfl (Try.info43 y) ?_
        simp only [Act.put, List.setIfInBounds_toArray, List.set_cons_zero, List.set_cons_succ]
        go_big_quiet_step (exact Calls.after_b (HCH.out _))
        iterate 2 (go_big_quiet_step (fail))
        refine wpQuiet_load_mid 43 (.tmp 2) rfl (by kernel_rfl) Bx 0 rfl x.cells _ HRX.out Try.underlying43 rfl (Try.info43 x) ?_
        simp only [Act.put, List.setIfInBounds_toArray, List.set_cons_zero, List.set_cons_succ]
        go_big_quiet_step (exact Calls.after_b (HCX.out _))
        go_big_quiet_step (fail)
        refine wpQuiet_load_mid 43 (.tmp 5) rfl (by kernel_rfl) Y 0 rfl y.cells _ HRYY.out Try.underlying43 rfl (Try.info43 y) ?_
        simp only [Act.put, List.setIfInBounds_toArray, List.set_cons_zero, List.set_cons_succ]
        go_big_quiet_step (exact Calls.after_b (HCY.out _))
        repeat (go_big_quiet_step (fail))
        refine wpQuiet_nil ?_
        rintro w' ⟨z, rfl⟩
        obtain ⟨w1, hk1⟩ := z
        go_wp2_with fail
        go_ret
        exact ⟨by rw [HR.out]; rfl, HK0.out.trans hk1⟩
end Go.Proofs.Ytlgcboaojdhneaa
