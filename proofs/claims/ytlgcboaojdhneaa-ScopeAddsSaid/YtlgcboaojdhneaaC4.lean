/- The reference's Profile, Homographs. -/
import Derived.Test.YtlgcboaojdhneaaC3
import Derived.Test.YtlgcboaojdhneaaB8
namespace Go.Proofs.Ytlgcboaojdhneaa
open Go.RowKit

set_option maxRecDepth 100000 in
set_option maxHeartbeats 4000000 in
theorem profileRef_any (w : World) (v : TabV) (t : Tab) (a b : Int) (hT : TabIn w v t) :
    Calls Try.prog 34 #[.agg (v.cells t), .int .i64 a, .int .i64 b] w (RetB (profI t a b) w) := by
  have HT := Lib.hid hT
  have HR : Hid (profI t a b = ((rowR t a).isSome && (rowR t b).isSome && profR t (rowE t a) (rowE t b))) := rfl
  have HQ1 : Hid (t.ents.length ≤ v.ec ∧ v.ec ≤ 9223372036854775807) := ⟨hT.el, hT.em⟩
  clear hT
  have HBX : Hid ((w.alloc (.cells (v.cells t) 28)).heap[w.heap.size]? = some (.cells (v.cells t) 28 (0, 0))) := obj_new rfl
  have HK0 : Hid (Kept [] w (w.alloc (.cells (v.cells t) 28))) := Kept.alloc _ _ _
  go_enter Try.func34, Try.ntmps34
  go_upto_region 1 with (fail)
  refine wp_gen' ?_
  intro w0 hw0
  rw [← hw0] at HBX HK0
  clear hw0
  have c0 : ∀ j, w0.cell? ⟨w.heap.size, j, none⟩ = (v.cells t)[j]? := fun j => cell_of_row _ _ _ _ _ _ HBX.out
  have v0 : ∀ z : After w0, z.1.cell? ⟨w.heap.size, 0, none⟩ = some (.slice v.ta t.types.length v.tc) := After.cell (c0 0)
  have v1 : ∀ z : After w0, z.1.cell? ⟨w.heap.size, 1, none⟩ = some (.slice v.sa t.subs.length v.sc) := After.cell (c0 1)
  have v2 : ∀ z : After w0, z.1.cell? ⟨w.heap.size, 2, none⟩ = some (.slice v.ea t.ents.length v.ec) := After.cell (c0 2)
  have v3 : ∀ z : After w0, z.1.cell? ⟨w.heap.size, 3, none⟩ = some (.slice v.ga v.gn v.gc) := After.cell (c0 3)
  have v4 : ∀ z : After w0, z.1.cell? ⟨w.heap.size, 4, none⟩ = some (.slice v.ia v.im v.ic) := After.cell (c0 4)
  have HCA : Hid (∀ (z : After w0), Calls Try.prog 66 #[.agg #[.slice v.ta t.types.length v.tc, .slice v.sa t.subs.length v.sc, .slice v.ea t.ents.length v.ec, .slice v.ga v.gn v.gc, .slice v.ia v.im v.ic], .int .i64 a] z.1 (RetB (rowR t a).isSome z.1)) := fun z => is_any z.1 v t a
  have HCB : Hid (∀ (z : After w0), Calls Try.prog 66 #[.agg #[.slice v.ta t.types.length v.tc, .slice v.sa t.subs.length v.sc, .slice v.ea t.ents.length v.ec, .slice v.ga v.gn v.gc, .slice v.ia v.im v.ic], .int .i64 b] z.1 (RetB (rowR t b).isSome z.1)) := fun z => is_any z.1 v t b
  clear c0
  cases ha : (rowR t a).isSome
  · rw [ha] at HR HCA
    refine wp_region_after (by kernel_rfl) (by kernel_rfl) ?_
    iterate 2 (go_big_quiet_step (fail))
    go_big_quiet_step (exact Calls.after_b (HCA.out _))
    repeat (go_big_quiet_step (fail))
    refine wpQuiet_nil ?_
    rintro w' ⟨z, rfl⟩
    obtain ⟨w1, hk1⟩ := z
    go_wp2_with fail
    go_ret
    exact ⟨by rw [HR.out]; rfl, HK0.out.trans hk1⟩
  · rw [ha] at HR HCA
    cases hb : (rowR t b).isSome
    · rw [hb] at HR HCB
      refine wp_region_after (by kernel_rfl) (by kernel_rfl) ?_
      iterate 2 (go_big_quiet_step (fail))
      go_big_quiet_step (exact Calls.after_b (HCA.out _))
      iterate 3 (go_big_quiet_step (fail))
      go_big_quiet_step (exact Calls.after_b (HCB.out _))
      repeat (go_big_quiet_step (fail))
      refine wpQuiet_nil ?_
      rintro w' ⟨z, rfl⟩
      obtain ⟨w1, hk1⟩ := z
      go_wp2_with fail
      go_ret
      exact ⟨by rw [HR.out]; rfl, HK0.out.trans hk1⟩
    · rw [hb] at HR HCB
      obtain ⟨i, x, rfl, hx, hxe⟩ := row_at ha
      obtain ⟨j, y, rfl, hy, hye⟩ := row_at hb
      rw [hxe, hye] at HR
      have hxl := (List.getElem?_eq_some_iff.1 hx).1
      have hyl := (List.getElem?_eq_some_iff.1 hy).1
      have q1 := HQ1.out.1
      have q2 := HQ1.out.2
      have j1 : (0 : Int) ≤ (i : Int) := by omega
      have j2 : (i : Int) < (t.ents.length : Int) := by omega
      have j3 : (0 : Int) ≤ (j : Int) := by omega
      have j4 : (j : Int) < (t.ents.length : Int) := by omega
      have HEX := Lib.hid (HT.out.ent (List.mem_of_getElem? hx))
      have HEY := Lib.hid (HT.out.ent (List.mem_of_getElem? hy))
      obtain ⟨b, o, hea, hr⟩ := (HT.out.kept HK0.out).es.some_ hx
      have HVT : Hid (v.cells t = #[.slice v.ta t.types.length v.tc, .slice v.sa t.subs.length v.sc, .slice (some ⟨b, o, none⟩) t.ents.length v.ec, .slice v.ga v.gn v.gc, .slice v.ia v.im v.ic]) := by rw [Hid, ← hea]; rfl
      rw [hea] at v2
      rw [hea] at HCA HCB
      have HRX : Hid (∀ W, (∃ z : After w0, W = z.1) → W.rangeAt b (o + i * 22) x.cells) := fun W ⟨z, e⟩ => by subst e; exact fun q u hu => z.2.cell (hr i x hx q u hu) (by simp)
      have HRY : Hid (∀ W, (∃ z : After w0, W = z.1) → W.rangeAt b (o + j * 22) y.cells) := fun W ⟨z, e⟩ => by subst e; exact fun q u hu => z.2.cell (hr j y hy q u hu) (by simp)
      have HC : Hid (∀ z : After w0, Calls Try.prog 67 #[.agg #[.slice v.ta t.types.length v.tc, .slice v.sa t.subs.length v.sc, .slice (some ⟨b, o, none⟩) t.ents.length v.ec, .slice v.ga v.gn v.gc, .slice v.ia v.im v.ic], .agg x.cells.toArray, .agg y.cells.toArray] z.1 (RetB (profR t x y) z.1)) := fun z => by
        rw [← HVT.out]
        exact profiles_any z.1 v t x y (HT.out.kept (HK0.out.trans z.2)) (HEX.out.kept (HK0.out.trans z.2)) (HEY.out.kept (HK0.out.trans z.2))
      clear hx hy hxe hye hr hea
      refine wp_region_after (by kernel_rfl) (by kernel_rfl) ?_
      iterate 2 (go_big_quiet_step (fail))
      go_big_quiet_step (exact Calls.after_b (HCA.out _))
      iterate 3 (go_big_quiet_step (fail))
      go_big_quiet_step (exact Calls.after_b (HCB.out _))
      iterate 7 (go_big_quiet_step (fail))
      refine wpQuiet_load_mid 43 (.tmp 20) rfl (by kernel_rfl) b (o + i * 22) rfl x.cells _ HRX.out Try.underlying43 rfl (Try.info43 x) ?_
      simp only [Act.put, List.setIfInBounds_toArray, List.set_cons_zero, List.set_cons_succ]
      iterate 4 (go_big_quiet_step (fail))
      refine wpQuiet_load_mid 43 (.tmp 25) rfl (by kernel_rfl) b (o + j * 22) rfl y.cells _ HRY.out Try.underlying43 rfl (Try.info43 y) ?_
      simp only [Act.put, List.setIfInBounds_toArray, List.set_cons_zero, List.set_cons_succ]
      go_big_quiet_step (exact Calls.after_b (HC.out _))
      repeat (go_big_quiet_step (fail))
      refine wpQuiet_nil ?_
      rintro w' ⟨z, rfl⟩
      obtain ⟨w1, hk1⟩ := z
      go_wp2_with fail
      go_ret
      exact ⟨by rw [HR.out]; rfl, HK0.out.trans hk1⟩

set_option maxRecDepth 100000 in
set_option maxHeartbeats 4000000 in
theorem homographsIRef_any (w : World) (v : TabV) (t : Tab) (a b : Int) (hT : TabIn w v t) :
    Calls Try.prog 35 #[.agg (v.cells t), .int .i64 a, .int .i64 b] w (RetB (homI t a b) w) := by
  have HT := Lib.hid hT
  have HR : Hid (homI t a b = ((rowR t a).isSome && (rowR t b).isSome && homR t (rowE t a) (rowE t b))) := rfl
  have HQ1 : Hid (t.ents.length ≤ v.ec ∧ v.ec ≤ 9223372036854775807) := ⟨hT.el, hT.em⟩
  clear hT
  have HBX : Hid ((w.alloc (.cells (v.cells t) 28)).heap[w.heap.size]? = some (.cells (v.cells t) 28 (0, 0))) := obj_new rfl
  have HK0 : Hid (Kept [] w (w.alloc (.cells (v.cells t) 28))) := Kept.alloc _ _ _
  go_enter Try.func35, Try.ntmps35
  go_upto_region 1 with (fail)
  refine wp_gen' ?_
  intro w0 hw0
  rw [← hw0] at HBX HK0
  clear hw0
  have c0 : ∀ j, w0.cell? ⟨w.heap.size, j, none⟩ = (v.cells t)[j]? := fun j => cell_of_row _ _ _ _ _ _ HBX.out
  have v0 : ∀ z : After w0, z.1.cell? ⟨w.heap.size, 0, none⟩ = some (.slice v.ta t.types.length v.tc) := After.cell (c0 0)
  have v1 : ∀ z : After w0, z.1.cell? ⟨w.heap.size, 1, none⟩ = some (.slice v.sa t.subs.length v.sc) := After.cell (c0 1)
  have v2 : ∀ z : After w0, z.1.cell? ⟨w.heap.size, 2, none⟩ = some (.slice v.ea t.ents.length v.ec) := After.cell (c0 2)
  have v3 : ∀ z : After w0, z.1.cell? ⟨w.heap.size, 3, none⟩ = some (.slice v.ga v.gn v.gc) := After.cell (c0 3)
  have v4 : ∀ z : After w0, z.1.cell? ⟨w.heap.size, 4, none⟩ = some (.slice v.ia v.im v.ic) := After.cell (c0 4)
  have HCA : Hid (∀ (z : After w0), Calls Try.prog 66 #[.agg #[.slice v.ta t.types.length v.tc, .slice v.sa t.subs.length v.sc, .slice v.ea t.ents.length v.ec, .slice v.ga v.gn v.gc, .slice v.ia v.im v.ic], .int .i64 a] z.1 (RetB (rowR t a).isSome z.1)) := fun z => is_any z.1 v t a
  have HCB : Hid (∀ (z : After w0), Calls Try.prog 66 #[.agg #[.slice v.ta t.types.length v.tc, .slice v.sa t.subs.length v.sc, .slice v.ea t.ents.length v.ec, .slice v.ga v.gn v.gc, .slice v.ia v.im v.ic], .int .i64 b] z.1 (RetB (rowR t b).isSome z.1)) := fun z => is_any z.1 v t b
  clear c0
  cases ha : (rowR t a).isSome
  · rw [ha] at HR HCA
    refine wp_region_after (by kernel_rfl) (by kernel_rfl) ?_
    iterate 2 (go_big_quiet_step (fail))
    go_big_quiet_step (exact Calls.after_b (HCA.out _))
    repeat (go_big_quiet_step (fail))
    refine wpQuiet_nil ?_
    rintro w' ⟨z, rfl⟩
    obtain ⟨w1, hk1⟩ := z
    go_wp2_with fail
    go_ret
    exact ⟨by rw [HR.out]; rfl, HK0.out.trans hk1⟩
  · rw [ha] at HR HCA
    cases hb : (rowR t b).isSome
    · rw [hb] at HR HCB
      refine wp_region_after (by kernel_rfl) (by kernel_rfl) ?_
      iterate 2 (go_big_quiet_step (fail))
      go_big_quiet_step (exact Calls.after_b (HCA.out _))
      iterate 3 (go_big_quiet_step (fail))
      go_big_quiet_step (exact Calls.after_b (HCB.out _))
      repeat (go_big_quiet_step (fail))
      refine wpQuiet_nil ?_
      rintro w' ⟨z, rfl⟩
      obtain ⟨w1, hk1⟩ := z
      go_wp2_with fail
      go_ret
      exact ⟨by rw [HR.out]; rfl, HK0.out.trans hk1⟩
    · rw [hb] at HR HCB
      obtain ⟨i, x, rfl, hx, hxe⟩ := row_at ha
      obtain ⟨j, y, rfl, hy, hye⟩ := row_at hb
      rw [hxe, hye] at HR
      have hxl := (List.getElem?_eq_some_iff.1 hx).1
      have hyl := (List.getElem?_eq_some_iff.1 hy).1
      have q1 := HQ1.out.1
      have q2 := HQ1.out.2
      have j1 : (0 : Int) ≤ (i : Int) := by omega
      have j2 : (i : Int) < (t.ents.length : Int) := by omega
      have j3 : (0 : Int) ≤ (j : Int) := by omega
      have j4 : (j : Int) < (t.ents.length : Int) := by omega
      have HEX := Lib.hid (HT.out.ent (List.mem_of_getElem? hx))
      have HEY := Lib.hid (HT.out.ent (List.mem_of_getElem? hy))
      obtain ⟨b, o, hea, hr⟩ := (HT.out.kept HK0.out).es.some_ hx
      have HVT : Hid (v.cells t = #[.slice v.ta t.types.length v.tc, .slice v.sa t.subs.length v.sc, .slice (some ⟨b, o, none⟩) t.ents.length v.ec, .slice v.ga v.gn v.gc, .slice v.ia v.im v.ic]) := by rw [Hid, ← hea]; rfl
      rw [hea] at v2
      rw [hea] at HCA HCB
      have HRX : Hid (∀ W, (∃ z : After w0, W = z.1) → W.rangeAt b (o + i * 22) x.cells) := fun W ⟨z, e⟩ => by subst e; exact fun q u hu => z.2.cell (hr i x hx q u hu) (by simp)
      have HRY : Hid (∀ W, (∃ z : After w0, W = z.1) → W.rangeAt b (o + j * 22) y.cells) := fun W ⟨z, e⟩ => by subst e; exact fun q u hu => z.2.cell (hr j y hy q u hu) (by simp)
      have HC : Hid (∀ z : After w0, Calls Try.prog 57 #[.agg #[.slice v.ta t.types.length v.tc, .slice v.sa t.subs.length v.sc, .slice (some ⟨b, o, none⟩) t.ents.length v.ec, .slice v.ga v.gn v.gc, .slice v.ia v.im v.ic], .agg x.cells.toArray, .agg y.cells.toArray] z.1 (RetB (homR t x y) z.1)) := fun z => by
        rw [← HVT.out]
        exact homographsRef_any z.1 v t x y (HT.out.kept (HK0.out.trans z.2)) (HEX.out.kept (HK0.out.trans z.2)) (HEY.out.kept (HK0.out.trans z.2))
      clear hx hy hxe hye hr hea
      refine wp_region_after (by kernel_rfl) (by kernel_rfl) ?_
      iterate 2 (go_big_quiet_step (fail))
      go_big_quiet_step (exact Calls.after_b (HCA.out _))
      iterate 3 (go_big_quiet_step (fail))
      go_big_quiet_step (exact Calls.after_b (HCB.out _))
      iterate 7 (go_big_quiet_step (fail))
      refine wpQuiet_load_mid 43 (.tmp 20) rfl (by kernel_rfl) b (o + i * 22) rfl x.cells _ HRX.out Try.underlying43 rfl (Try.info43 x) ?_
      simp only [Act.put, List.setIfInBounds_toArray, List.set_cons_zero, List.set_cons_succ]
      iterate 4 (go_big_quiet_step (fail))
      refine wpQuiet_load_mid 43 (.tmp 25) rfl (by kernel_rfl) b (o + j * 22) rfl y.cells _ HRY.out Try.underlying43 rfl (Try.info43 y) ?_
      simp only [Act.put, List.setIfInBounds_toArray, List.set_cons_zero, List.set_cons_succ]
      go_big_quiet_step (exact Calls.after_b (HC.out _))
      repeat (go_big_quiet_step (fail))
      refine wpQuiet_nil ?_
      rintro w' ⟨z, rfl⟩
      obtain ⟨w1, hk1⟩ := z
      go_wp2_with fail
      go_ret
      exact ⟨by rw [HR.out]; rfl, HK0.out.trans hk1⟩
end Go.Proofs.Ytlgcboaojdhneaa
