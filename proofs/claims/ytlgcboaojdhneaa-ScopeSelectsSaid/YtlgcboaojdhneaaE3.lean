/- The examples' adding closure. -/
import Derived.Test.YtlgcboaojdhneaaE1
namespace Go.Proofs.Ytlgcboaojdhneaa
open Go.RowKit

/-- An entity of the examples. -/
def someE (k : Int) (n : ByteArray) (o ty part u : Int) : EntV := { nothingE k n with owner := o, t := ty, part := part, unit := u }
def unitI (t : Tab) (o : Int) : Int := if o = 0 then (t.ents.length : Int) - 15 else 0

set_option maxRecDepth 100000 in
set_option maxHeartbeats 4000000 in
theorem addS_any (w : World) (n B : Nat) (v : TabV) (t : Tab) (hB : BoxT w n B v t) (hs : t.ents.length ≤ 5000) (k : Int) (name : ByteArray) (o ty part : Int) :
    Calls Try.prog 68 #[.int .u8 k, .string name, .int .i64 o, .int .i64 ty, .int .u8 part, .pointer (some ⟨B, 0, none⟩)] w (RetA n B v t (someE k name o ty part (unitI t o)) w) := by
  have HB := Lib.hid hB
  have HSZ := Lib.hid hs
  obtain ⟨i0, hi, hz0, hz1, hz2⟩ := info_parts ent_info
  have hBlt : B < w.heap.size := (Array.getElem?_eq_some_iff.1 hB.box).1
  have hnB := hB.hn
  clear hB
  go_enter Try.func68, Try.ntmps68
  have HC := Lib.hid (nothing_any w k name)
  go_upto_region 1 with (first | (go_at_call 37; refine HC.out.mono ?_; rintro e w1 ⟨rfl, hk1⟩; have HK1 := Lib.hid hk1; clear hk1) | (refine wpList_store_new rfl 43 (.tmp 11) (.tmp 14) rfl _ (nothingE k name).cells.toArray w1.heap.size rfl rfl rfl (Try.info43 _) rfl (EntV.one _) ?_))
  refine wp_gen' ?_
  intro w2 hw2
  have hk2 : Kept [] w1 w2 := by rw [hw2]; exact Kept.alloc _ _ _
  have hx2 : w2.heap[w1.heap.size]? = some (.cells (nothingE k name).cells.toArray 43 (0, 0)) := by rw [hw2]; exact heap_alloc_new _ _
  have hK2 := HK1.out.trans hk2
  have hX : w.heap.size ≤ w1.heap.size := HK1.out.size
  have hlt2 : w1.heap.size < w2.heap.size := (Array.getElem?_eq_some_iff.1 hx2).1
  have HB2 : Hid (w2.heap[B]? = some (.cells (v.cells t) 28 (0, 0))) := hK2.obj HB.out.box (by simp)
  have HO2 : Hid (w2.ownsRow n 43 22 (.slice v.ea t.ents.length v.ec) t.ents.length (t.ents.map EntV.cells).flatten) := own_keep HB.out.own hK2 (by simp)
  have HX2 := Lib.hid hx2
  have HK2 := Lib.hid hK2
  generalize w1.heap.size = X at *
  clear hw2 hk2 hx2 hK2 HC
  have c2 := ent_cell (x := nothingE k name) HX2.out 2 rfl
  have c4 := ent_cell (x := nothingE k name) HX2.out 4 rfl
  have c3 := ent_cell (x := nothingE k name) HX2.out 3 rfl
  have c20 := ent_cell (x := nothingE k name) HX2.out 20 rfl
  have f2 := frozen_of_row _ _ 2 _ _ HX2.out
  have f4 := frozen_of_row _ _ 4 _ _ HX2.out
  have f3 := frozen_of_row _ _ 3 _ _ HX2.out
  have f20 := frozen_of_row _ _ 20 _ _ HX2.out
  have cB2 : w2.cell? ⟨B, 2, none⟩ = some (.slice v.ea t.ents.length v.ec) := (cell_of_row _ _ _ _ _ _ HB2.out).trans rfl
  have hBX : B ≠ X := by omega
  have hXB : X ≠ B := by omega
  by_cases ho : o = 0
  · subst ho
    have HU : Hid (unitI t 0 = (t.ents.length : Int) - 15) := rfl
    go_upto_region 4 with (fail)
    refine wp_gen' ?_
    intro w3 hw3
    clear cB2 hs hBX hXB
    have hx3 : VRow w3 X 43 (someE k name 0 ty part (unitI t 0)).cells := by
      rw [hw3, HU.out]
      have h0 : VRow w2 X 43 (nothingE k name).cells := HX2.out
      exact ((((h0.set 2 (.int .i64 0)).set 4 (.int .i64 ty)).set 3 (.int .u8 part)).set 20 (.int .i64 0)).set 20 (.int .i64 ((t.ents.length : Int) - 15))
    have hk3 : Kept [X] w2 w3 := by
      rw [hw3]
      exact ((((Kept.setCell _ _ _ (by simp)).trans (Kept.setCell _ _ _ (by simp))).trans (Kept.setCell _ _ _ (by simp))).trans (Kept.setCell _ _ _ (by simp))).trans (Kept.setCell _ _ _ (by simp))
    have hg : ∀ g, (Value.slice v.ea t.ents.length v.ec).ownBlock = some g → n ≤ g ∧ g < w.heap.size ∧ g ≠ B ∧ ∃ c, w.heap[g]? = some (.cells c 43 (0, 0)) := fun g hg => by
      have h1 := HB.out.own.lt g hg
      obtain ⟨c, hc⟩ := own_row_at' HB.out.own hg
      refine ⟨h1.1, h1.2, ?_, c, hc⟩
      rintro rfl
      have h2 := HB.out.box
      rw [hc] at h2
      simp at h2
    have HG := Lib.hid hg
    have HB3 : Hid (w3.heap[B]? = some (.cells (v.cells t) 28 (0, 0))) := hk3.obj HB2.out (by simp; omega)
    have HO3 : Hid (w3.ownsRow n 43 22 (.slice v.ea t.ents.length v.ec) t.ents.length (t.ents.map EntV.cells).flatten) := own_keep HO2.out hk3 (fun g hgq => by have := (HG.out g hgq).2.1; simp; omega)
    have HK3 : Hid (Kept [] w w3) := HK2.out.above hk3 (by simp; omega)
    have HX3 := Lib.hid hx3
    have hlt3 : X < w3.heap.size := hx3.lt
    generalize someE k name 0 ty part (unitI t 0) = x at *
    clear hw3 hx3 hk3 hg c2 c3 c4 c20 f2 f3 f4 f20 hlt2 HB2 HO2 HX2
    haveI : EntAt w3 X 0 x := ⟨EntV.range HX3.out⟩
    have cB : w3.cell? ⟨B, 2, none⟩ = some (.slice v.ea t.ents.length v.ec) := (cell_of_row _ _ _ _ _ _ HB3.out).trans rfl
    have hsrc : ∀ kb, kb = w3.heap.size → SrcAt (w3.alloc (.cells ([x].map EntV.cells).flatten.toArray 43)) 22 (some ⟨kb, 0, none⟩) 1 x.cells := by
      rintro kb rfl
      refine ⟨rfl, fun _ => ⟨_, rfl, fun j u hu => ?_⟩⟩
      rw [Addr.add_mid, Nat.zero_add, cell_of_row _ _ _ _ _ _ (heap_alloc_new _ _)]
      simpa using hu
    have hA : t.ents.length + 1 ≤ maxLen := by have := HSZ.out; unfold maxLen; omega
    have hBy : (t.ents.length + 1) * 176 ≤ 140737488355328 := by have := HSZ.out; omega
    have hC : Hid (n ≤ (w3.alloc (.cells ([x].map EntV.cells).flatten.toArray 43)).heap.size) := by simp [Hid]; omega
    have h1c : ∀ u ∈ x.cells, u.oneCell' = true := by have := EntV.one x; simpa using this
    have H1C := Lib.hid h1c
    have HSRC := Lib.hid hsrc
    clear h1c hsrc
    go_wp2_with (first
      | (refine wpList_build_rows EntV.cells 22 EntV.len (by decide) [x] rfl 24 43 1 #[(0, .tmp 31)] rfl i0 Try.underlying24 hi (by rw [hz0]; rfl) hz1 rfl (by decide) (by decide) rfl ?_
         intro kb hkb)
      | (at_builtin
         refine wpList_append_src _ rfl (.tmp 30) (.tmp 32) 24 rfl n 43 i0 (.agg zeroE.cells.toArray) 22 176 Try.underlying24 hi hz0 hz1 hz2 rfl (by decide) (.slice v.ea t.ents.length v.ec) t.ents.length (t.ents.map EntV.cells).flatten rfl (HO3.out.alloc _) (some ⟨kb, 0, none⟩) 1 1 x.cells rfl (HSRC.out kb hkb) H1C.out hA hBy hC.out ?_
         intro vb wb hob hgb hbb
         obtain ⟨Ab, cb, rfl⟩ := own_shape hob
         have HOB := Lib.hid hob
         have HGB := Lib.hid hgb
         have hBb : wb.heap[B]? = some (.cells (v.cells t) 28 (0, 0)) := (hgb.block B (by simp; omega) (fun e => by have := (HG.out B e.symm).2.2.1; omega)).trans (obj_old HB3.out (by omega))
         have HBB := Lib.hid hBb
         have cBb : wb.cell? ⟨B, 2, none⟩ = some (.slice v.ea t.ents.length v.ec) := (cell_of_row _ _ _ _ _ _ hBb).trans rfl
         have fBb := frozen_of_row _ _ 2 _ _ hBb
         clear hob hgb hbb hBb))
    have HL : Hid ((addE t x).ents.length = t.ents.length + 1) := by simp [Hid, addE]
    have HV : Hid (({ v with ea := Ab, ec := cb } : TabV).cells (addE t x) = #[.slice v.ta t.types.length v.tc, .slice v.sa t.subs.length v.sc, .slice Ab (t.ents.length + 1) cb, .slice v.ga v.gn v.gc, .slice v.ia v.im v.ic]) := by
      rw [Hid, TabV.cells, HL.out]
      rfl
    refine bodyPost_ret (results_none rfl _ _ _) rfl ?_
    refine ⟨rfl, Ab, cb, ⟨?_, ?_, hnB⟩, ?_⟩
    · rw [HV.out]
      have h0 : VRow wb B 28 (v.cells t).toList := HBB.out
      exact h0.set 2 (.slice Ab (t.ents.length + 1) cb)
    · have hkb' : Kept [B] wb (wb.setCell ⟨B, 2, none⟩ (.slice Ab (t.ents.length + 1) cb)) := Kept.setCell _ _ _ (by simp)
      have h := own_keep HOB.out hkb' (fun g hg => by
        obtain ⟨c, hc⟩ := own_row_at' HOB.out hg
        simp
        rintro rfl
        have h2 := HBB.out
        rw [hc] at h2
        simp at h2)
      rw [HL.out]
      simpa [addE] using h
    · refine ((KpS.of_kept HK3.out).trans ((KpS.of_kept (Kept.alloc _ _ _)).trans (KpS.of_grown HGB.out ?_))).trans (KpS.setCell _ _ _ HBB.out hnB (.inr rfl))
      intro g hg _
      obtain ⟨h1, h2, _, c, hc⟩ := HG.out g hg
      exact ⟨h1, c, (0, 0), obj_old (HK3.out.obj hc (by simp)) (by have := HK3.out.size; omega)⟩
  · have HU : Hid (unitI t o = 0) := by rw [Hid, unitI, if_neg ho]
    have ho' : (o == 0) = false := by simpa using ho
    clear ho
    go_upto_region 4 with (fail)
    refine wp_gen' ?_
    intro w3 hw3
    clear cB2 hs hBX hXB
    have hx3 : VRow w3 X 43 (someE k name o ty part (unitI t o)).cells := by
      rw [hw3, HU.out]
      have h0 : VRow w2 X 43 (nothingE k name).cells := HX2.out
      exact (((h0.set 2 (.int .i64 o)).set 4 (.int .i64 ty)).set 3 (.int .u8 part)).set 20 (.int .i64 0)
    have hk3 : Kept [X] w2 w3 := by
      rw [hw3]
      exact (((Kept.setCell _ _ _ (by simp)).trans (Kept.setCell _ _ _ (by simp))).trans (Kept.setCell _ _ _ (by simp))).trans (Kept.setCell _ _ _ (by simp))
    have hg : ∀ g, (Value.slice v.ea t.ents.length v.ec).ownBlock = some g → n ≤ g ∧ g < w.heap.size ∧ g ≠ B ∧ ∃ c, w.heap[g]? = some (.cells c 43 (0, 0)) := fun g hg => by
      have h1 := HB.out.own.lt g hg
      obtain ⟨c, hc⟩ := own_row_at' HB.out.own hg
      refine ⟨h1.1, h1.2, ?_, c, hc⟩
      rintro rfl
      have h2 := HB.out.box
      rw [hc] at h2
      simp at h2
    have HG := Lib.hid hg
    have HB3 : Hid (w3.heap[B]? = some (.cells (v.cells t) 28 (0, 0))) := hk3.obj HB2.out (by simp; omega)
    have HO3 : Hid (w3.ownsRow n 43 22 (.slice v.ea t.ents.length v.ec) t.ents.length (t.ents.map EntV.cells).flatten) := own_keep HO2.out hk3 (fun g hgq => by have := (HG.out g hgq).2.1; simp; omega)
    have HK3 : Hid (Kept [] w w3) := HK2.out.above hk3 (by simp; omega)
    have HX3 := Lib.hid hx3
    have hlt3 : X < w3.heap.size := hx3.lt
    generalize someE k name o ty part (unitI t o) = x at *
    clear hw3 hx3 hk3 hg c2 c3 c4 c20 f2 f3 f4 f20 hlt2 HB2 HO2 HX2
    haveI : EntAt w3 X 0 x := ⟨EntV.range HX3.out⟩
    have cB : w3.cell? ⟨B, 2, none⟩ = some (.slice v.ea t.ents.length v.ec) := (cell_of_row _ _ _ _ _ _ HB3.out).trans rfl
    have hsrc : ∀ kb, kb = w3.heap.size → SrcAt (w3.alloc (.cells ([x].map EntV.cells).flatten.toArray 43)) 22 (some ⟨kb, 0, none⟩) 1 x.cells := by
      rintro kb rfl
      refine ⟨rfl, fun _ => ⟨_, rfl, fun j u hu => ?_⟩⟩
      rw [Addr.add_mid, Nat.zero_add, cell_of_row _ _ _ _ _ _ (heap_alloc_new _ _)]
      simpa using hu
    have hA : t.ents.length + 1 ≤ maxLen := by have := HSZ.out; unfold maxLen; omega
    have hBy : (t.ents.length + 1) * 176 ≤ 140737488355328 := by have := HSZ.out; omega
    have hC : Hid (n ≤ (w3.alloc (.cells ([x].map EntV.cells).flatten.toArray 43)).heap.size) := by simp [Hid]; omega
    have h1c : ∀ u ∈ x.cells, u.oneCell' = true := by have := EntV.one x; simpa using this
    have H1C := Lib.hid h1c
    have HSRC := Lib.hid hsrc
    clear h1c hsrc
    go_wp2_with (first
      | (refine wpList_build_rows EntV.cells 22 EntV.len (by decide) [x] rfl 24 43 1 #[(0, .tmp 31)] rfl i0 Try.underlying24 hi (by rw [hz0]; rfl) hz1 rfl (by decide) (by decide) rfl ?_
         intro kb hkb)
      | (at_builtin
         refine wpList_append_src _ rfl (.tmp 30) (.tmp 32) 24 rfl n 43 i0 (.agg zeroE.cells.toArray) 22 176 Try.underlying24 hi hz0 hz1 hz2 rfl (by decide) (.slice v.ea t.ents.length v.ec) t.ents.length (t.ents.map EntV.cells).flatten rfl (HO3.out.alloc _) (some ⟨kb, 0, none⟩) 1 1 x.cells rfl (HSRC.out kb hkb) H1C.out hA hBy hC.out ?_
         intro vb wb hob hgb hbb
         obtain ⟨Ab, cb, rfl⟩ := own_shape hob
         have HOB := Lib.hid hob
         have HGB := Lib.hid hgb
         have hBb : wb.heap[B]? = some (.cells (v.cells t) 28 (0, 0)) := (hgb.block B (by simp; omega) (fun e => by have := (HG.out B e.symm).2.2.1; omega)).trans (obj_old HB3.out (by omega))
         have HBB := Lib.hid hBb
         have cBb : wb.cell? ⟨B, 2, none⟩ = some (.slice v.ea t.ents.length v.ec) := (cell_of_row _ _ _ _ _ _ hBb).trans rfl
         have fBb := frozen_of_row _ _ 2 _ _ hBb
         clear hob hgb hbb hBb))
    have HL : Hid ((addE t x).ents.length = t.ents.length + 1) := by simp [Hid, addE]
    have HV : Hid (({ v with ea := Ab, ec := cb } : TabV).cells (addE t x) = #[.slice v.ta t.types.length v.tc, .slice v.sa t.subs.length v.sc, .slice Ab (t.ents.length + 1) cb, .slice v.ga v.gn v.gc, .slice v.ia v.im v.ic]) := by
      rw [Hid, TabV.cells, HL.out]
      rfl
    refine bodyPost_ret (results_none rfl _ _ _) rfl ?_
    refine ⟨rfl, Ab, cb, ⟨?_, ?_, hnB⟩, ?_⟩
    · rw [HV.out]
      have h0 : VRow wb B 28 (v.cells t).toList := HBB.out
      exact h0.set 2 (.slice Ab (t.ents.length + 1) cb)
    · have hkb' : Kept [B] wb (wb.setCell ⟨B, 2, none⟩ (.slice Ab (t.ents.length + 1) cb)) := Kept.setCell _ _ _ (by simp)
      have h := own_keep HOB.out hkb' (fun g hg => by
        obtain ⟨c, hc⟩ := own_row_at' HOB.out hg
        simp
        rintro rfl
        have h2 := HBB.out
        rw [hc] at h2
        simp at h2)
      rw [HL.out]
      simpa [addE] using h
    · refine ((KpS.of_kept HK3.out).trans ((KpS.of_kept (Kept.alloc _ _ _)).trans (KpS.of_grown HGB.out ?_))).trans (KpS.setCell _ _ _ HBB.out hnB (.inr rfl))
      intro g hg _
      obtain ⟨h1, h2, _, c, hc⟩ := HG.out g hg
      exact ⟨h1, c, (0, 0), obj_old (HK3.out.obj hc (by simp)) (by have := HK3.out.size; omega)⟩
end Go.Proofs.Ytlgcboaojdhneaa
