/- The examples' adding closure. The table of the examples. -/
import Derived.Test.YtlgcboaojdhneaaE1
import Derived.Test.YtlgcboaojdhneaaE2
namespace Go.Proofs.Ytlgcboaojdhneaa
open Go.RowKit

/-- An entity of the examples. -/
def someE (k : Int) (n : ByteArray) (o ty part u : Int) : EntV := { nothingE k n with owner := o, t := ty, part := part, unit := u }
def unitI (t : Tab) (o : Int) : Int := if o = 0 then (t.ents.length : Int) - 15 else 0

set_option maxRecDepth 100000 in
set_option maxHeartbeats 4000000 in
theorem addS_any (w : World) (n B : Nat) (v : TabV) (t : Tab) (hB : BoxT w n B v t) (hs : t.ents.length ≤ 5000) (k : Int) (name : ByteArray) (o ty part : Int) :
    Calls Try.prog 68 #[.int .u8 k, .string name, .int .i64 o, .int .i64 ty, .int .u8 part, .pointer (some ⟨B, 0, none⟩)] w (RetA n B v t (someE k name o ty part (unitI t o)) w) := by
  have HB := Lib.hid hB
  have HSZ := Lib.hid hs
  obtain ⟨i0, hi, hz0, hz1, hz2⟩ := info_parts ent_info
  have hBlt : B < w.heap.size := (Array.getElem?_eq_some_iff.1 hB.box).1
  have hnB := hB.hn
  clear hB
  go_enter Try.func68, Try.ntmps68
  have HC := Lib.hid (nothing_any w k name)
  go_upto_region 1 with (first | (go_at_call 37; refine HC.out.mono ?_; rintro e w1 ⟨rfl, hk1⟩; have HK1 := Lib.hid hk1; clear hk1) | (refine wpList_store_new rfl 43 (.tmp 11) (.tmp 14) rfl _ (nothingE k name).cells.toArray w1.heap.size rfl rfl rfl (Try.info43 _) rfl (EntV.one _) ?_))
  refine wp_gen' ?_
  intro w2 hw2
  have hk2 : Kept [] w1 w2 := by rw [hw2]; exact Kept.alloc _ _ _
  have hx2 : w2.heap[w1.heap.size]? = some (.cells (nothingE k name).cells.toArray 43 (0, 0)) := by rw [hw2]; exact heap_alloc_new _ _
  have hK2 := HK1.out.trans hk2
  have hX : w.heap.size ≤ w1.heap.size := HK1.out.size
  have hlt2 : w1.heap.size < w2.heap.size := (Array.getElem?_eq_some_iff.1 hx2).1
  have HB2 : Hid (w2.heap[B]? = some (.cells (v.cells t) 28 (0, 0))) := hK2.obj HB.out.box (by simp)
  have HO2 : Hid (w2.ownsRow n 43 22 (.slice v.ea t.ents.length v.ec) t.ents.length (t.ents.map EntV.cells).flatten) := own_keep HB.out.own hK2 (by simp)
  have HX2 := Lib.hid hx2
  have HK2 := Lib.hid hK2
  generalize w1.heap.size = X at *
  clear hw2 hk2 hx2 hK2 HC
  have c2 := ent_cell (x := nothingE k name) HX2.out 2 rfl
  have c4 := ent_cell (x := nothingE k name) HX2.out 4 rfl
  have c3 := ent_cell (x := nothingE k name) HX2.out 3 rfl
  have c20 := ent_cell (x := nothingE k name) HX2.out 20 rfl
  have f2 := frozen_of_row _ _ 2 _ _ HX2.out
  have f4 := frozen_of_row _ _ 4 _ _ HX2.out
  have f3 := frozen_of_row _ _ 3 _ _ HX2.out
  have f20 := frozen_of_row _ _ 20 _ _ HX2.out
  have cB2 : w2.cell? ⟨B, 2, none⟩ = some (.slice v.ea t.ents.length v.ec) := (cell_of_row _ _ _ _ _ _ HB2.out).trans rfl
  have hBX : B ≠ X := by omega
  have hXB : X ≠ B := by omega
  by_cases ho : o = 0
  · subst ho
    have HU : Hid (unitI t 0 = (t.ents.length : Int) - 15) := rfl
    go_upto_region 4 with (fail)
    refine wp_gen' ?_
    intro w3 hw3
    clear cB2 hs hBX hXB
    have hx3 : VRow w3 X 43 (someE k name 0 ty part (unitI t 0)).cells := by
      rw [hw3, HU.out]
      have h0 : VRow w2 X 43 (nothingE k name).cells := HX2.out
      exact ((((h0.set 2 (.int .i64 0)).set 4 (.int .i64 ty)).set 3 (.int .u8 part)).set 20 (.int .i64 0)).set 20 (.int .i64 ((t.ents.length : Int) - 15))
    have hk3 : Kept [X] w2 w3 := by
      rw [hw3]
      exact ((((Kept.setCell _ _ _ (by simp)).trans (Kept.setCell _ _ _ (by simp))).trans (Kept.setCell _ _ _ (by simp))).trans (Kept.setCell _ _ _ (by simp))).trans (Kept.setCell _ _ _ (by simp))
    have hg : ∀ g, (Value.slice v.ea t.ents.length v.ec).ownBlock = some g → n ≤ g ∧ g < w.heap.size ∧ g ≠ B ∧ ∃ c, w.heap[g]? = some (.cells c 43 (0, 0)) := fun g hg => by
      have h1 := HB.out.own.lt g hg
      obtain ⟨c, hc⟩ := own_row_at' HB.out.own hg
      refine ⟨h1.1, h1.2, ?_, c, hc⟩
      rintro rfl
      have h2 := HB.out.box
      rw [hc] at h2
      simp at h2
    have HG := Lib.hid hg
    have HB3 : Hid (w3.heap[B]? = some (.cells (v.cells t) 28 (0, 0))) := hk3.obj HB2.out (by simp; omega)
    have HO3 : Hid (w3.ownsRow n 43 22 (.slice v.ea t.ents.length v.ec) t.ents.length (t.ents.map EntV.cells).flatten) := own_keep HO2.out hk3 (fun g hgq => by have := (HG.out g hgq).2.1; simp; omega)
    have HK3 : Hid (Kept [] w w3) := HK2.out.above hk3 (by simp; omega)
    have HX3 := Lib.hid hx3
    have hlt3 : X < w3.heap.size := hx3.lt
    generalize someE k name 0 ty part (unitI t 0) = x at *
    clear hw3 hx3 hk3 hg c2 c3 c4 c20 f2 f3 f4 f20 hlt2 HB2 HO2 HX2
    haveI : EntAt w3 X 0 x := ⟨EntV.range HX3.out⟩
    have cB : w3.cell? ⟨B, 2, none⟩ = some (.slice v.ea t.ents.length v.ec) := (cell_of_row _ _ _ _ _ _ HB3.out).trans rfl
    have hsrc : ∀ kb, kb = w3.heap.size → SrcAt (w3.alloc (.cells ([x].map EntV.cells).flatten.toArray 43)) 22 (some ⟨kb, 0, none⟩) 1 x.cells := by
      rintro kb rfl
      refine ⟨rfl, fun _ => ⟨_, rfl, fun j u hu => ?_⟩⟩
      rw [Addr.add_mid, Nat.zero_add, cell_of_row _ _ _ _ _ _ (heap_alloc_new _ _)]
      simpa using hu
    have hA : t.ents.length + 1 ≤ maxLen := by have := HSZ.out; unfold maxLen; omega
    have hBy : (t.ents.length + 1) * 176 ≤ 140737488355328 := by have := HSZ.out; omega
    have hC : Hid (n ≤ (w3.alloc (.cells ([x].map EntV.cells).flatten.toArray 43)).heap.size) := by simp [Hid]; omega
    have h1c : ∀ u ∈ x.cells, u.oneCell' = true := by have := EntV.one x; simpa using this
    have H1C := Lib.hid h1c
    have HSRC := Lib.hid hsrc
    clear h1c hsrc
    go_wp2_with (first
      | (refine wpList_build_rows EntV.cells 22 EntV.len (by decide) [x] rfl 24 43 1 #[(0, .tmp 31)] rfl i0 Try.underlying24 hi (by rw [hz0]; rfl) hz1 rfl (by decide) (by decide) rfl ?_
         intro kb hkb)
      | (at_builtin
         refine wpList_append_src _ rfl (.tmp 30) (.tmp 32) 24 rfl n 43 i0 (.agg zeroE.cells.toArray) 22 176 Try.underlying24 hi hz0 hz1 hz2 rfl (by decide) (.slice v.ea t.ents.length v.ec) t.ents.length (t.ents.map EntV.cells).flatten rfl (HO3.out.alloc _) (some ⟨kb, 0, none⟩) 1 1 x.cells rfl (HSRC.out kb hkb) H1C.out hA hBy hC.out ?_
         intro vb wb hob hgb hbb
         obtain ⟨Ab, cb, rfl⟩ := own_shape hob
         have HOB := Lib.hid hob
         have HGB := Lib.hid hgb
         have hBb : wb.heap[B]? = some (.cells (v.cells t) 28 (0, 0)) := (hgb.block B (by simp; omega) (fun e => by have := (HG.out B e.symm).2.2.1; omega)).trans (obj_old HB3.out (by omega))
         have HBB := Lib.hid hBb
         have cBb : wb.cell? ⟨B, 2, none⟩ = some (.slice v.ea t.ents.length v.ec) := (cell_of_row _ _ _ _ _ _ hBb).trans rfl
         have fBb := frozen_of_row _ _ 2 _ _ hBb
         clear hob hgb hbb hBb))
    have HL : Hid ((addE t x).ents.length = t.ents.length + 1) := by simp [Hid, addE]
    have HV : Hid (({ v with ea := Ab, ec := cb } : TabV).cells (addE t x) = #[.slice v.ta t.types.length v.tc, .slice v.sa t.subs.length v.sc, .slice Ab (t.ents.length + 1) cb, .slice v.ga v.gn v.gc, .slice v.ia v.im v.ic]) := by
      rw [Hid, TabV.cells, HL.out]
      rfl
    refine bodyPost_ret (results_none rfl _ _ _) rfl ?_
    refine ⟨rfl, Ab, cb, ⟨?_, ?_, hnB⟩, ?_⟩
    · rw [HV.out]
      have h0 : VRow wb B 28 (v.cells t).toList := HBB.out
      exact h0.set 2 (.slice Ab (t.ents.length + 1) cb)
    · have hkb' : Kept [B] wb (wb.setCell ⟨B, 2, none⟩ (.slice Ab (t.ents.length + 1) cb)) := Kept.setCell _ _ _ (by simp)
      have h := own_keep HOB.out hkb' (fun g hg => by
        obtain ⟨c, hc⟩ := own_row_at' HOB.out hg
        simp
        rintro rfl
        have h2 := HBB.out
        rw [hc] at h2
        simp at h2)
      rw [HL.out]
      simpa [addE] using h
    · refine ((KpS.of_kept HK3.out).trans ((KpS.of_kept (Kept.alloc _ _ _)).trans (KpS.of_grown HGB.out ?_))).trans (KpS.setCell _ _ _ HBB.out hnB (.inr rfl))
      intro g hg _
      obtain ⟨h1, h2, _, c, hc⟩ := HG.out g hg
      exact ⟨h1, c, (0, 0), obj_old (HK3.out.obj hc (by simp)) (by have := HK3.out.size; omega)⟩
  · have HU : Hid (unitI t o = 0) := by rw [Hid, unitI, if_neg ho]
    have ho' : (o == 0) = false := by simpa using ho
    clear ho
    go_upto_region 4 with (fail)
    refine wp_gen' ?_
    intro w3 hw3
    clear cB2 hs hBX hXB
    have hx3 : VRow w3 X 43 (someE k name o ty part (unitI t o)).cells := by
      rw [hw3, HU.out]
      have h0 : VRow w2 X 43 (nothingE k name).cells := HX2.out
      exact (((h0.set 2 (.int .i64 o)).set 4 (.int .i64 ty)).set 3 (.int .u8 part)).set 20 (.int .i64 0)
    have hk3 : Kept [X] w2 w3 := by
      rw [hw3]
      exact (((Kept.setCell _ _ _ (by simp)).trans (Kept.setCell _ _ _ (by simp))).trans (Kept.setCell _ _ _ (by simp))).trans (Kept.setCell _ _ _ (by simp))
    have hg : ∀ g, (Value.slice v.ea t.ents.length v.ec).ownBlock = some g → n ≤ g ∧ g < w.heap.size ∧ g ≠ B ∧ ∃ c, w.heap[g]? = some (.cells c 43 (0, 0)) := fun g hg => by
      have h1 := HB.out.own.lt g hg
      obtain ⟨c, hc⟩ := own_row_at' HB.out.own hg
      refine ⟨h1.1, h1.2, ?_, c, hc⟩
      rintro rfl
      have h2 := HB.out.box
      rw [hc] at h2
      simp at h2
    have HG := Lib.hid hg
    have HB3 : Hid (w3.heap[B]? = some (.cells (v.cells t) 28 (0, 0))) := hk3.obj HB2.out (by simp; omega)
    have HO3 : Hid (w3.ownsRow n 43 22 (.slice v.ea t.ents.length v.ec) t.ents.length (t.ents.map EntV.cells).flatten) := own_keep HO2.out hk3 (fun g hgq => by have := (HG.out g hgq).2.1; simp; omega)
    have HK3 : Hid (Kept [] w w3) := HK2.out.above hk3 (by simp; omega)
    have HX3 := Lib.hid hx3
    have hlt3 : X < w3.heap.size := hx3.lt
    generalize someE k name o ty part (unitI t o) = x at *
    clear hw3 hx3 hk3 hg c2 c3 c4 c20 f2 f3 f4 f20 hlt2 HB2 HO2 HX2
    haveI : EntAt w3 X 0 x := ⟨EntV.range HX3.out⟩
    have cB : w3.cell? ⟨B, 2, none⟩ = some (.slice v.ea t.ents.length v.ec) := (cell_of_row _ _ _ _ _ _ HB3.out).trans rfl
    have hsrc : ∀ kb, kb = w3.heap.size → SrcAt (w3.alloc (.cells ([x].map EntV.cells).flatten.toArray 43)) 22 (some ⟨kb, 0, none⟩) 1 x.cells := by
      rintro kb rfl
      refine ⟨rfl, fun _ => ⟨_, rfl, fun j u hu => ?_⟩⟩
      rw [Addr.add_mid, Nat.zero_add, cell_of_row _ _ _ _ _ _ (heap_alloc_new _ _)]
      simpa using hu
    have hA : t.ents.length + 1 ≤ maxLen := by have := HSZ.out; unfold maxLen; omega
    have hBy : (t.ents.length + 1) * 176 ≤ 140737488355328 := by have := HSZ.out; omega
    have hC : Hid (n ≤ (w3.alloc (.cells ([x].map EntV.cells).flatten.toArray 43)).heap.size) := by simp [Hid]; omega
    have h1c : ∀ u ∈ x.cells, u.oneCell' = true := by have := EntV.one x; simpa using this
    have H1C := Lib.hid h1c
    have HSRC := Lib.hid hsrc
    clear h1c hsrc
    go_wp2_with (first
      | (refine wpList_build_rows EntV.cells 22 EntV.len (by decide) [x] rfl 24 43 1 #[(0, .tmp 31)] rfl i0 Try.underlying24 hi (by rw [hz0]; rfl) hz1 rfl (by decide) (by decide) rfl ?_
         intro kb hkb)
      | (at_builtin
         refine wpList_append_src _ rfl (.tmp 30) (.tmp 32) 24 rfl n 43 i0 (.agg zeroE.cells.toArray) 22 176 Try.underlying24 hi hz0 hz1 hz2 rfl (by decide) (.slice v.ea t.ents.length v.ec) t.ents.length (t.ents.map EntV.cells).flatten rfl (HO3.out.alloc _) (some ⟨kb, 0, none⟩) 1 1 x.cells rfl (HSRC.out kb hkb) H1C.out hA hBy hC.out ?_
         intro vb wb hob hgb hbb
         obtain ⟨Ab, cb, rfl⟩ := own_shape hob
         have HOB := Lib.hid hob
         have HGB := Lib.hid hgb
         have hBb : wb.heap[B]? = some (.cells (v.cells t) 28 (0, 0)) := (hgb.block B (by simp; omega) (fun e => by have := (HG.out B e.symm).2.2.1; omega)).trans (obj_old HB3.out (by omega))
         have HBB := Lib.hid hBb
         have cBb : wb.cell? ⟨B, 2, none⟩ = some (.slice v.ea t.ents.length v.ec) := (cell_of_row _ _ _ _ _ _ hBb).trans rfl
         have fBb := frozen_of_row _ _ 2 _ _ hBb
         clear hob hgb hbb hBb))
    have HL : Hid ((addE t x).ents.length = t.ents.length + 1) := by simp [Hid, addE]
    have HV : Hid (({ v with ea := Ab, ec := cb } : TabV).cells (addE t x) = #[.slice v.ta t.types.length v.tc, .slice v.sa t.subs.length v.sc, .slice Ab (t.ents.length + 1) cb, .slice v.ga v.gn v.gc, .slice v.ia v.im v.ic]) := by
      rw [Hid, TabV.cells, HL.out]
      rfl
    refine bodyPost_ret (results_none rfl _ _ _) rfl ?_
    refine ⟨rfl, Ab, cb, ⟨?_, ?_, hnB⟩, ?_⟩
    · rw [HV.out]
      have h0 : VRow wb B 28 (v.cells t).toList := HBB.out
      exact h0.set 2 (.slice Ab (t.ents.length + 1) cb)
    · have hkb' : Kept [B] wb (wb.setCell ⟨B, 2, none⟩ (.slice Ab (t.ents.length + 1) cb)) := Kept.setCell _ _ _ (by simp)
      have h := own_keep HOB.out hkb' (fun g hg => by
        obtain ⟨c, hc⟩ := own_row_at' HOB.out hg
        simp
        rintro rfl
        have h2 := HBB.out
        rw [hc] at h2
        simp at h2)
      rw [HL.out]
      simpa [addE] using h
    · refine ((KpS.of_kept HK3.out).trans ((KpS.of_kept (Kept.alloc _ _ _)).trans (KpS.of_grown HGB.out ?_))).trans (KpS.setCell _ _ _ HBB.out hnB (.inr rfl))
      intro g hg _
      obtain ⟨h1, h2, _, c, hc⟩ := HG.out g hg
      exact ⟨h1, c, (0, 0), obj_old (HK3.out.obj hc (by simp)) (by have := HK3.out.size; omega)⟩
end Go.Proofs.Ytlgcboaojdhneaa
namespace Go.Proofs.Ytlgcboaojdhneaa
open Go.RowKit

def some7 : List EntV := [someE 2 ⟨#[80]⟩ 0 (-1) 0 0, someE 7 ⟨#[120]⟩ 15 1 0 0, someE 4 ⟨#[102]⟩ 15 1 0 0, someE 7 ⟨#[121]⟩ 15 1 1 0, someE 3 ⟨#[81]⟩ 0 (-1) 0 4, someE 4 ⟨#[102]⟩ 19 2 2 0, someE 8 ⟨#[120]⟩ 19 1 2 0]
def someEnts (k1 k2 : Nat) : List EntV := stdEnts k1 k2 ++ some7
def someT (kl k1 k2 : Nat) : Tab := ⟨stdTys kl, stdSubs, someEnts k1 k2⟩
def RetSome (w : World) (e : Ending) (w' : World) : Prop := ∃ v kl k1 k2, e = .returned (.agg (v.cells (someT kl k1 k2))) ∧ w'.ownsRow w.heap.size 43 22 (.slice v.ea 22 v.ec) 22 ((someEnts k1 k2).map EntV.cells).flatten ∧ StdMem w' v kl k1 k2 ∧ Kept [] w w'
/-- The same; the types lie in a new block. -/
def RetSomeN (w : World) (e : Ending) (w' : World) : Prop := ∃ v kl k1 k2, e = .returned (.agg (v.cells (someT kl k1 k2))) ∧ w'.ownsRow w.heap.size 43 22 (.slice v.ea 22 v.ec) 22 ((someEnts k1 k2).map EntV.cells).flatten ∧ StdMem w' v kl k1 k2 ∧ Kept [] w w' ∧ ∀ a, v.ta = some a → w.heap.size ≤ a.block
theorem results38_of {w : World} {B : Nat} {c : Array Value} {tmps : Array Value} (h4 : tmps.getD 0 undef = .pointer (some ⟨B, 0, none⟩)) (hc : c.size = 5) (hr : w.rangeAt B 0 c.toList) :
    (results Try.f38 tmps).run Try.prog w = .ok (.agg c) w := by
  simp only [Array.getD_eq_getD_getElem?] at h4
  have hi : (Try.prog.info? 28).map (·.size) = some c.toList.length := by
    rw [Array.length_toList, hc]
    exact Try.size28
  simp [results, Try.results38, h4, asAddr, Sem.run_bind, run_loadVar_mid w B 0 28 c.toList _ hr Try.underlying28 rfl hi]
theorem tab_one (v : TabV) (t : Tab) : (v.cells t).all (·.oneCell') = true := by simp [TabV.cells, Value.oneCell']
set_option maxRecDepth 100000 in
set_option maxHeartbeats 4000000 in
theorem some_new (w : World) : Calls Try.prog 38 #[] w (RetSomeN w) := by
  go_enter Try.func38, Try.ntmps38
  go_upto_region 1 with (fail)
  refine wp_gen' ?_
  intro w0 hw0
  have HK0 : Hid (Kept [] w w0) := by rw [Hid, hw0]; exact Kept.alloc _ _ _
  have HB0 : Hid (w0.heap[w.heap.size]? = some (.cells #[.slice none 0 0, .slice none 0 0, .slice none 0 0, .slice none 0 0, .slice none 0 0] 28 (0, 0))) := by rw [Hid, hw0]; exact heap_alloc_new _ _
  have HSZ0 : Hid (w0.heap.size = w.heap.size + 1) := by rw [Hid, hw0]; simp
  clear hw0
  go_upto_region 2 with (first
    | (go_at_call 30
       refine (std_new w0).mono ?_
       rintro e w1 ⟨v0, kl, k1, k2, rfl, ho1, hm1, hk1, hf1⟩
       have HF1 := Lib.hid hf1
       have HO1 := Lib.hid ho1
       have HM1 := Lib.hid hm1
       have HK1 := Lib.hid hk1
       clear ho1 hm1 hk1 hf1)
    | (guard_hyp HK1
       refine wpList_store_new rfl 28 (.tmp 1) (.tmp 3) rfl _ (v0.cells (stdT kl k1 k2)) w1.heap.size rfl rfl rfl (Try.info28 v0 _) rfl (tab_one _ _) ?_))
  refine wp_gen' ?_
  intro w5 hw5
  have hk5 : Kept [] w1 w5 := by rw [hw5]; exact Kept.alloc _ _ _
  have hB5 : w5.heap[w1.heap.size]? = some (.cells (v0.cells (stdT kl k1 k2)) 28 (0, 0)) := by rw [hw5]; exact heap_alloc_new _ _
  have HK5 : Hid (Kept [] w0 w5) := HK1.out.trans hk5
  have hBn : w.heap.size + 1 ≤ w1.heap.size := by have := HSZ0.out; have := HK1.out.size; omega
  have HO5 : Hid (w5.ownsRow (w.heap.size + 1) 43 22 (.slice v0.ea 15 v0.ec) 15 ((stdEnts k1 k2).map EntV.cells).flatten) := by
    rw [Hid, ← HSZ0.out]
    exact own_keep HO1.out hk5 (by simp)
  have HM5 : Hid (StdMem w5 v0 kl k1 k2) := HM1.out.kps (n := 0) (KpS.of_kept hk5)
  obtain ⟨n, hn⟩ : ∃ n, n = w.heap.size + 1 := ⟨_, rfl⟩
  have HN := Lib.hid hn
  rw [← hn] at hBn HO5
  generalize w1.heap.size = B at *
  have HA0 : Hid (BoxT w5 n B (atE v0 v0.ea v0.ec) (tabE kl (stdEnts k1 k2))) := ⟨hB5, HO5.out, hBn⟩
  have HKA0 : Hid (KpS n w5 w5) := KpS.refl _ _
  have hea : ∃ a c, v0.ea = a ∧ v0.ec = c := ⟨_, _, rfl, rfl⟩
  obtain ⟨ea0, ec0, he1, he2⟩ := hea
  rw [he1, he2] at HA0
  clear hw5 hk5 hB5 hn HO5 HO1 HM1 HK1 he1 he2
  go_upto_region 10 with (first
    | (guard_hyp HA0
       fail_if_success guard_hyp HA1
       go_at_call 68
       refine (addS_any _ n B (atE v0 ea0 ec0) (tabE kl (stdEnts k1 k2)) HA0.out (Nat.le_of_ble_eq_true rfl) 2 ⟨#[80]⟩ 0 (-1) 0).mono ?_
       rintro e a1 ⟨rfl, ea1, ec1, hb1, hk1⟩
       have HA1 : Hid (BoxT a1 n B (atE v0 ea1 ec1) (tabE kl (stdEnts k1 k2 ++ some7.take 1))) := by
         have hu : unitI (tabE kl (stdEnts k1 k2)) 0 = 0 := by kernel_rfl
         rw [hu] at hb1
         exact hb1
       have HKA1 : Hid (KpS n w5 a1) := HKA0.out.trans hk1
       clear hb1 hk1)
    | (guard_hyp HA1
       fail_if_success guard_hyp HA2
       go_at_call 68
       refine (addS_any _ n B (atE v0 ea1 ec1) (tabE kl (stdEnts k1 k2 ++ some7.take 1)) HA1.out (Nat.le_of_ble_eq_true rfl) 7 ⟨#[120]⟩ 15 1 0).mono ?_
       rintro e a2 ⟨rfl, ea2, ec2, hb2, hk2⟩
       have HA2 : Hid (BoxT a2 n B (atE v0 ea2 ec2) (tabE kl (stdEnts k1 k2 ++ some7.take 2))) := by
         have hu : unitI (tabE kl (stdEnts k1 k2 ++ some7.take 1)) 15 = 0 := by kernel_rfl
         rw [hu] at hb2
         exact hb2
       have HKA2 : Hid (KpS n w5 a2) := HKA1.out.trans hk2
       clear hb2 hk2)
    | (guard_hyp HA2
       fail_if_success guard_hyp HA3
       go_at_call 68
       refine (addS_any _ n B (atE v0 ea2 ec2) (tabE kl (stdEnts k1 k2 ++ some7.take 2)) HA2.out (Nat.le_of_ble_eq_true rfl) 4 ⟨#[102]⟩ 15 1 0).mono ?_
       rintro e a3 ⟨rfl, ea3, ec3, hb3, hk3⟩
       have HA3 : Hid (BoxT a3 n B (atE v0 ea3 ec3) (tabE kl (stdEnts k1 k2 ++ some7.take 3))) := by
         have hu : unitI (tabE kl (stdEnts k1 k2 ++ some7.take 2)) 15 = 0 := by kernel_rfl
         rw [hu] at hb3
         exact hb3
       have HKA3 : Hid (KpS n w5 a3) := HKA2.out.trans hk3
       clear hb3 hk3)
    | (guard_hyp HA3
       fail_if_success guard_hyp HA4
       go_at_call 68
       refine (addS_any _ n B (atE v0 ea3 ec3) (tabE kl (stdEnts k1 k2 ++ some7.take 3)) HA3.out (Nat.le_of_ble_eq_true rfl) 7 ⟨#[121]⟩ 15 1 1).mono ?_
       rintro e a4 ⟨rfl, ea4, ec4, hb4, hk4⟩
       have HA4 : Hid (BoxT a4 n B (atE v0 ea4 ec4) (tabE kl (stdEnts k1 k2 ++ some7.take 4))) := by
         have hu : unitI (tabE kl (stdEnts k1 k2 ++ some7.take 3)) 15 = 0 := by kernel_rfl
         rw [hu] at hb4
         exact hb4
       have HKA4 : Hid (KpS n w5 a4) := HKA3.out.trans hk4
       clear hb4 hk4)
    | (guard_hyp HA4
       fail_if_success guard_hyp HA5
       go_at_call 68
       refine (addS_any _ n B (atE v0 ea4 ec4) (tabE kl (stdEnts k1 k2 ++ some7.take 4)) HA4.out (Nat.le_of_ble_eq_true rfl) 3 ⟨#[81]⟩ 0 (-1) 0).mono ?_
       rintro e a5 ⟨rfl, ea5, ec5, hb5, hk5⟩
       have HA5 : Hid (BoxT a5 n B (atE v0 ea5 ec5) (tabE kl (stdEnts k1 k2 ++ some7.take 5))) := by
         have hu : unitI (tabE kl (stdEnts k1 k2 ++ some7.take 4)) 0 = 4 := by kernel_rfl
         rw [hu] at hb5
         exact hb5
       have HKA5 : Hid (KpS n w5 a5) := HKA4.out.trans hk5
       clear hb5 hk5)
    | (guard_hyp HA5
       fail_if_success guard_hyp HA6
       go_at_call 68
       refine (addS_any _ n B (atE v0 ea5 ec5) (tabE kl (stdEnts k1 k2 ++ some7.take 5)) HA5.out (Nat.le_of_ble_eq_true rfl) 4 ⟨#[102]⟩ 19 2 2).mono ?_
       rintro e a6 ⟨rfl, ea6, ec6, hb6, hk6⟩
       have HA6 : Hid (BoxT a6 n B (atE v0 ea6 ec6) (tabE kl (stdEnts k1 k2 ++ some7.take 6))) := by
         have hu : unitI (tabE kl (stdEnts k1 k2 ++ some7.take 5)) 19 = 0 := by kernel_rfl
         rw [hu] at hb6
         exact hb6
       have HKA6 : Hid (KpS n w5 a6) := HKA5.out.trans hk6
       clear hb6 hk6)
    | (guard_hyp HA6
       fail_if_success guard_hyp HA7
       go_at_call 68
       refine (addS_any _ n B (atE v0 ea6 ec6) (tabE kl (stdEnts k1 k2 ++ some7.take 6)) HA6.out (Nat.le_of_ble_eq_true rfl) 8 ⟨#[120]⟩ 19 1 2).mono ?_
       rintro e a7 ⟨rfl, ea7, ec7, hb7, hk7⟩
       have HA7 : Hid (BoxT a7 n B (atE v0 ea7 ec7) (tabE kl (stdEnts k1 k2 ++ some7.take 7))) := by
         have hu : unitI (tabE kl (stdEnts k1 k2 ++ some7.take 6)) 19 = 0 := by kernel_rfl
         rw [hu] at hb7
         exact hb7
       have HKA7 : Hid (KpS n w5 a7) := HKA6.out.trans hk7
       clear hb7 hk7))
  have HT0 : Hid (a7.heap[w.heap.size]? = some (.cells #[.slice none 0 0, .slice none 0 0, .slice none 0 0, .slice none 0 0, .slice none 0 0] 28 (0, 0))) := HKA7.out.block _ _ (HK5.out.obj HB0.out (by simp)) (.inl (by rw [HN.out]; omega))
  have HVC : Hid ((atE v0 ea7 ec7).cells (tabE kl (stdEnts k1 k2 ++ some7.take 7)) = #[.slice v0.ta 4 v0.tc, .slice v0.sa 5 v0.sc, .slice ea7 22 ec7, .slice v0.ga v0.gn v0.gc, .slice v0.ia v0.im v0.ic]) := rfl
  have HBF : Hid (a7.heap[B]? = some (.cells #[.slice v0.ta 4 v0.tc, .slice v0.sa 5 v0.sc, .slice ea7 22 ec7, .slice v0.ga v0.gn v0.gc, .slice v0.ia v0.im v0.ic] 28 (0, 0))) := by rw [Hid, ← HVC.out]; exact HA7.out.box
  have c0 : ∀ j, a7.cell? ⟨B, j, none⟩ = _ := fun j => cell_of_row _ _ j _ _ _ HBF.out
  have d0 : a7.cell? ⟨B, 0, none⟩ = some (.slice v0.ta 4 v0.tc) := c0 0
  have d1 : a7.cell? ⟨B, 1, none⟩ = some (.slice v0.sa 5 v0.sc) := c0 1
  have d2 : a7.cell? ⟨B, 2, none⟩ = some (.slice ea7 22 ec7) := c0 2
  have d3 : a7.cell? ⟨B, 3, none⟩ = some (.slice v0.ga v0.gn v0.gc) := c0 3
  have d4 : a7.cell? ⟨B, 4, none⟩ = some (.slice v0.ia v0.im v0.ic) := c0 4
  clear c0
  go_wp2_with (first
    | (fail_if_success guard_hyp HWF
       refine wpList_store_row rfl 28 (.tmp 0) (.tmp 19) rfl w.heap.size _ #[.slice v0.ta 4 v0.tc, .slice v0.sa 5 v0.sc, .slice ea7 22 ec7, .slice v0.ga v0.gn v0.gc, .slice v0.ia v0.im v0.ic] rfl HT0.out rfl Try.size28 rfl (by simp [Value.oneCell']) ?_
       intro wf hwf hkf
       have HWF := Lib.hid hwf
       have HKWF := Lib.hid hkf
       clear hwf hkf))
  have HKZ : Hid (Kept [] w wf) := (KpS.kept (HK0.out.trans HK5.out) HKA7.out (by rw [HN.out]; omega)).above HKWF.out (by simp)
  have hne : ∀ (k : Nat) (c : Array Value) (ty : TypeId), a7.heap[k]? = some (Obj.cells c ty (0, 0)) → ty ≠ 28 → wf.heap[k]? = some (Obj.cells c ty (0, 0)) := fun k c ty hk hty => HKWF.out.obj hk (by
    simp
    rintro rfl
    rw [HT0.out] at hk
    simp only [Option.some.injEq, Obj.cells.injEq] at hk
    exact hty hk.2.1.symm)
  have HM7 : Hid (StdMem a7 v0 kl k1 k2) := HM5.out.kps HKA7.out
  obtain ⟨⟨kt, h1, h2, h3⟩, ⟨ks, h4, h5, h6⟩, h7, h8, h9⟩ := HM7.out
  refine bodyPost_ret (results38_of (c := #[.slice v0.ta 4 v0.tc, .slice v0.sa 5 v0.sc, .slice ea7 22 ec7, .slice v0.ga v0.gn v0.gc, .slice v0.ia v0.im v0.ic]) rfl rfl ?_) rfl ⟨atE v0 ea7 ec7, kl, k1, k2, rfl, ?_, ⟨⟨kt, h1, h2, hne _ _ _ h3 (by decide)⟩, ⟨ks, h4, h5, hne _ _ _ h6 (by decide)⟩, hne _ _ _ h7 (by decide), hne _ _ _ h8 (by decide), hne _ _ _ h9 (by decide)⟩, HKZ.out, fun a ha => Nat.le_trans (by have := HSZ0.out; omega) (HF1.out a ha)⟩
  · intro j u hu
    rw [Nat.zero_add, cell_of_row _ _ _ _ _ _ HWF.out]
    simpa using hu
  · refine ownsRow_base (base := n) ?_ (by rw [HN.out]; omega)
    exact own_keep HA7.out.own HKWF.out (fun q hq => by have := HA7.out.own.lt q hq; have := HN.out; simp; omega)
theorem some_any (w : World) : Calls Try.prog 38 #[] w (RetSome w) := (some_new w).mono fun _ _ ⟨v, kl, k1, k2, h1, h2, h3, h4, _⟩ => ⟨v, kl, k1, k2, h1, h2, h3, h4⟩
end Go.Proofs.Ytlgcboaojdhneaa
