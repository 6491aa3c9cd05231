/- Profile, Homographs, Base. -/
import Derived.Test.YtlgcboaojdhneaaA3
namespace Go.Proofs.Ytlgcboaojdhneaa
open Go.RowKit

def profI (t : Tab) (a b : Int) : Bool := (rowR t a).isSome && (rowR t b).isSome && profR t (rowE t a) (rowE t b)
def homI (t : Tab) (a b : Int) : Bool := (rowR t a).isSome && (rowR t b).isSome && homR t (rowE t a) (rowE t b)

theorem tab_range {w : World} {B : Nat} {ty : TypeId} {v : TabV} {t : Tab} (h : w.heap[B]? = some (.cells (v.cells t) ty (0, 0))) : w.rangeAt B 0 (v.cells t).toList := fun j u hu => by
  rw [Nat.zero_add, cell_of_row _ _ _ _ _ _ h]
  simpa using hu

set_option maxRecDepth 100000 in
set_option maxHeartbeats 2000000 in
theorem homographsI_any (w : World) (v : TabV) (t : Tab) (a b : Int) (hT : TabIn w v t) :
    Calls Try.prog 19 #[.agg (v.cells t), .int .i64 a, .int .i64 b] w (RetB (homI t a b) w) := by
  have HT := Lib.hid hT
  have HR : Hid (homI t a b = ((rowR t a).isSome && (rowR t b).isSome && homR t (rowE t a) (rowE t b))) := rfl
  have HEA : Hid (EntIn w (rowE t a)) := hT.row a
  have HEB : Hid (EntIn w (rowE t b)) := hT.row b
  clear hT
  have HRV : Hid (∀ W, Kept [] (w.alloc (.cells (v.cells t) 28)) W → W.rangeAt w.heap.size 0 (v.cells t).toList) := fun W hk => tab_range (hk.obj (obj_new (o := .cells (v.cells t) 28) rfl) (by simp))
  have HK0 : Hid (Kept [] w (w.alloc (.cells (v.cells t) 28))) := Kept.alloc _ _ _
  unfold TabV.cells at *
  go_enter Try.func19, Try.ntmps19
  go_upto_region 1 with (fail)
  refine wp_gen' ?_
  intro w0 hw0
  rw [← hw0] at HRV HK0
  have hkc : Kept [] w0 w0 := Kept.refl _ _
  clear hw0
  go_upto_region 2 with (first
    | (refine wpList_load_mid rfl 28 (.tmp 3) rfl w.heap.size 0 rfl _ _ (HRV.out _ hkc) Try.underlying28 rfl Try.size28 ?_)
    | (go_at_call 39; refine (row_any _ v t a (HT.out.kept (HK0.out.trans hkc))).mono ?_; rintro e w1 ⟨rfl, hk1⟩; replace hkc := hkc.trans hk1; clear hk1))
  refine wp_gen' ?_
  intro w2 hw2
  have hba : w2.heap[w1.heap.size]? = some (.cells (rowE t a).cells.toArray 43 (0, 0)) := by rw [hw2]; exact heap_alloc_new _ _
  have HBA : Hid (∀ W, Kept [] w2 W → W.rangeAt w1.heap.size 0 (rowE t a).cells) := fun W hk => EntV.range (hk.obj hba (by simp))
  have hk2 : Kept [] w1 w2 := by rw [hw2]; exact Kept.alloc _ _ _
  have HK2 := Lib.hid (hkc.trans hk2)
  replace hkc : Kept [] w2 w2 := Kept.refl _ _
  clear hw2 hba hk2
  generalize hA : rowE t a = x at *
  generalize hB1 : w1.heap.size = B1 at *
  clear hB1
  go_upto_region 3 with (first
    | (refine wpList_load_mid rfl 28 (.tmp 3) rfl w.heap.size 0 rfl _ _ (HRV.out _ (HK2.out.trans hkc)) Try.underlying28 rfl Try.size28 ?_)
    | (go_at_call 39; refine (row_any _ v t b (HT.out.kept (HK0.out.trans (HK2.out.trans hkc)))).mono ?_; rintro e w3 ⟨rfl, hk1⟩; replace hkc := hkc.trans hk1; clear hk1))
  refine wp_gen' ?_
  intro w4 hw4
  have hbb : w4.heap[w3.heap.size]? = some (.cells (rowE t b).cells.toArray 43 (0, 0)) := by rw [hw4]; exact heap_alloc_new _ _
  have HBB : Hid (∀ W, Kept [] w4 W → W.rangeAt w3.heap.size 0 (rowE t b).cells) := fun W hk => EntV.range (hk.obj hbb (by simp))
  have hk4 : Kept [] w3 w4 := by rw [hw4]; exact Kept.alloc _ _ _
  have HK24 := Lib.hid (hkc.trans hk4)
  replace hkc : Kept [] w4 w4 := Kept.refl _ _
  clear hw4 hbb hk4
  generalize hB : rowE t b = y at *
  generalize hB2 : w3.heap.size = B2 at *
  clear hB2 hA hB
  have HK4 : Hid (Kept [] w w4) := HK0.out.trans (HK2.out.trans HK24.out)
  cases ha : (rowR t a).isSome
  · rw [ha] at HR
    go_wp2_with fail
    go_ret
    exact ⟨by rw [HR.out]; rfl, HK4.out⟩
  · rw [ha] at HR
    cases hb : (rowR t b).isSome
    · rw [hb] at HR
      go_wp2_with fail
      go_ret
      exact ⟨by rw [HR.out]; rfl, HK4.out⟩
    · rw [hb] at HR
      clear ha hb
      go_wp2_with (first
        | (refine wpList_load_g 28 (.tmp 3) rfl rfl w.heap.size 0 rfl _ _ (HRV.out _ (HK2.out.trans (HK24.out.trans hkc))) Try.underlying28 rfl Try.size28 ?_)
        | (refine wpList_load_g 43 (.tmp 7) rfl rfl B1 0 rfl x.cells _ (HBA.out _ (HK24.out.trans hkc)) Try.underlying43 rfl (Try.info43 x) ?_)
        | (refine wpList_load_g 43 (.tmp 9) rfl rfl B2 0 rfl y.cells _ (HBB.out _ hkc) Try.underlying43 rfl (Try.info43 y) ?_)
        | (go_at_call 48; refine (homographs_any _ v t x y (HT.out.kept (HK4.out.trans hkc)) (HEA.out.kept (HK4.out.trans hkc)) (HEB.out.kept (HK4.out.trans hkc))).mono ?_; rintro e w5 ⟨rfl, hk5⟩; replace hkc := hkc.trans hk5; clear hk5))
      go_ret
      exact ⟨by rw [HR.out]; rfl, HK4.out.trans hkc⟩

set_option maxRecDepth 100000 in
set_option maxHeartbeats 2000000 in
theorem profileI_any (w : World) (v : TabV) (t : Tab) (a b : Int) (hT : TabIn w v t) :
    Calls Try.prog 33 #[.agg (v.cells t), .int .i64 a, .int .i64 b] w (RetB (profI t a b) w) := by
  have HT := Lib.hid hT
  have HR : Hid (profI t a b = ((rowR t a).isSome && (rowR t b).isSome && profR t (rowE t a) (rowE t b))) := rfl
  have HEA : Hid (EntIn w (rowE t a)) := hT.row a
  have HEB : Hid (EntIn w (rowE t b)) := hT.row b
  clear hT
  have HRV : Hid (∀ W, Kept [] (w.alloc (.cells (v.cells t) 28)) W → W.rangeAt w.heap.size 0 (v.cells t).toList) := fun W hk => tab_range (hk.obj (obj_new (o := .cells (v.cells t) 28) rfl) (by simp))
  have HK0 : Hid (Kept [] w (w.alloc (.cells (v.cells t) 28))) := Kept.alloc _ _ _
  unfold TabV.cells at *
  go_enter Try.func33, Try.ntmps33
  go_upto_region 1 with (fail)
  refine wp_gen' ?_
  intro w0 hw0
  rw [← hw0] at HRV HK0
  have hkc : Kept [] w0 w0 := Kept.refl _ _
  clear hw0
  go_upto_region 2 with (first
    | (refine wpList_load_mid rfl 28 (.tmp 3) rfl w.heap.size 0 rfl _ _ (HRV.out _ hkc) Try.underlying28 rfl Try.size28 ?_)
    | (go_at_call 39; refine (row_any _ v t a (HT.out.kept (HK0.out.trans hkc))).mono ?_; rintro e w1 ⟨rfl, hk1⟩; replace hkc := hkc.trans hk1; clear hk1))
  refine wp_gen' ?_
  intro w2 hw2
  have hba : w2.heap[w1.heap.size]? = some (.cells (rowE t a).cells.toArray 43 (0, 0)) := by rw [hw2]; exact heap_alloc_new _ _
  have HBA : Hid (∀ W, Kept [] w2 W → W.rangeAt w1.heap.size 0 (rowE t a).cells) := fun W hk => EntV.range (hk.obj hba (by simp))
  have hk2 : Kept [] w1 w2 := by rw [hw2]; exact Kept.alloc _ _ _
  have HK2 := Lib.hid (hkc.trans hk2)
  replace hkc : Kept [] w2 w2 := Kept.refl _ _
  clear hw2 hba hk2
  generalize hA : rowE t a = x at *
  generalize hB1 : w1.heap.size = B1 at *
  clear hB1
  go_upto_region 3 with (first
    | (refine wpList_load_mid rfl 28 (.tmp 3) rfl w.heap.size 0 rfl _ _ (HRV.out _ (HK2.out.trans hkc)) Try.underlying28 rfl Try.size28 ?_)
    | (go_at_call 39; refine (row_any _ v t b (HT.out.kept (HK0.out.trans (HK2.out.trans hkc)))).mono ?_; rintro e w3 ⟨rfl, hk1⟩; replace hkc := hkc.trans hk1; clear hk1))
  refine wp_gen' ?_
  intro w4 hw4
  have hbb : w4.heap[w3.heap.size]? = some (.cells (rowE t b).cells.toArray 43 (0, 0)) := by rw [hw4]; exact heap_alloc_new _ _
  have HBB : Hid (∀ W, Kept [] w4 W → W.rangeAt w3.heap.size 0 (rowE t b).cells) := fun W hk => EntV.range (hk.obj hbb (by simp))
  have hk4 : Kept [] w3 w4 := by rw [hw4]; exact Kept.alloc _ _ _
  have HK24 := Lib.hid (hkc.trans hk4)
  replace hkc : Kept [] w4 w4 := Kept.refl _ _
  clear hw4 hbb hk4
  generalize hB : rowE t b = y at *
  generalize hB2 : w3.heap.size = B2 at *
  clear hB2 hA hB
  have HK4 : Hid (Kept [] w w4) := HK0.out.trans (HK2.out.trans HK24.out)
  cases ha : (rowR t a).isSome
  · rw [ha] at HR
    go_wp2_with fail
    go_ret
    exact ⟨by rw [HR.out]; rfl, HK4.out⟩
  · rw [ha] at HR
    cases hb : (rowR t b).isSome
    · rw [hb] at HR
      go_wp2_with fail
      go_ret
      exact ⟨by rw [HR.out]; rfl, HK4.out⟩
    · rw [hb] at HR
      clear ha hb
      go_wp2_with (first
        | (refine wpList_load_g 28 (.tmp 3) rfl rfl w.heap.size 0 rfl _ _ (HRV.out _ (HK2.out.trans (HK24.out.trans hkc))) Try.underlying28 rfl Try.size28 ?_)
        | (refine wpList_load_g 43 (.tmp 7) rfl rfl B1 0 rfl x.cells _ (HBA.out _ (HK24.out.trans hkc)) Try.underlying43 rfl (Try.info43 x) ?_)
        | (refine wpList_load_g 43 (.tmp 9) rfl rfl B2 0 rfl y.cells _ (HBB.out _ hkc) Try.underlying43 rfl (Try.info43 y) ?_)
        | (go_at_call 65; refine (profile_any _ v t x y (HT.out.kept (HK4.out.trans hkc)) (HEA.out.kept (HK4.out.trans hkc)) (HEB.out.kept (HK4.out.trans hkc))).mono ?_; rintro e w5 ⟨rfl, hk5⟩; replace hkc := hkc.trans hk5; clear hk5))
      go_ret
      exact ⟨by rw [HR.out]; rfl, HK4.out.trans hkc⟩
end Go.Proofs.Ytlgcboaojdhneaa
