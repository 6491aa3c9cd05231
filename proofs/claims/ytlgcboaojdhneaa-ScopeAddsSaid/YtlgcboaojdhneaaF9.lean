/- The reference's Add (27): the walk. -/
import Derived.Test.YtlgcboaojdhneaaF6
namespace Go.Proofs.Ytlgcboaojdhneaa
open Go.RowKit
theorem results27_of {w : World} {B : Nat} {c : Array Value} {n : Int} {tmps : Array Value} (h4 : tmps.getD 4 undef = .pointer (some ⟨B, 0, none⟩)) (h5 : tmps.getD 5 undef = .int .i64 n) (hc : c.size = 5) (hr : w.rangeAt B 0 c.toList) :
    (results Try.f27 tmps).run Try.prog w = .ok (.tuple #[.agg c, .int .i64 n]) w := by
  simp only [Array.getD_eq_getD_getElem?] at h4 h5
  have hi : (Try.prog.info? 28).map (·.size) = some c.toList.length := by
    rw [Array.length_toList, hc]
    exact Try.size28
  simp [results, Try.results27, h4, h5, asAddr, Sem.run_bind, run_loadVar_mid w B 0 28 c.toList _ hr Try.underlying28 rfl hi]
set_option maxRecDepth 100000 in
set_option maxHeartbeats 4000000 in
theorem addRef_any (w : World) (v : TabV) (t : Tab) (x : EntV) (hT : TabIn w v t) (hx : EntIn w x) (hs : t.ents.length ≤ 5000) :
    Calls Try.prog 27 #[.agg (v.cells t), .agg x.cells.toArray] w (RetAdd v t x w) := by
  have HT := Lib.hid hT
  have HX := Lib.hid hx
  have HSZ := Lib.hid hs
  have q1 := hT.el
  have q2 := hT.em
  have Q0 := Lib.hid hT.e0
  clear hT hx hs
  unfold TabV.cells
  go_enter Try.func27, Try.ntmps27
  go_upto_region 1 with (fail)
  refine wp_gen' ?_
  intro w0 hw0
  have HK0 : Hid (Kept [] w w0) := by rw [Hid, hw0]; exact ((Kept.alloc _ _ _).trans (Kept.alloc _ _ _)).trans (Kept.alloc _ _ _)
  have HTB : Hid (TabBox w0 w.heap.size v t) := ⟨by rw [hw0]; exact obj_old (obj_old (obj_new rfl) (by simp)) (by simp; omega), HT.out.kept HK0.out⟩
  have HXB : Hid (w0.heap[w.heap.size + 1]? = some (.cells x.cells.toArray 43 (0, 0))) := by rw [Hid, hw0]; exact obj_old (obj_new (by simp)) (by simp)
  have HRB : Hid (w0.heap[w.heap.size + 1 + 1]? = some (.cells nilT 28 (0, 0))) := by rw [Hid, hw0]; exact obj_new (by simp)
  have hbx : w.heap.size < w.heap.size + 1 ∧ w.heap.size + 1 < w.heap.size + 1 + 1 ∧ w.heap.size ≤ w.heap.size := by omega
  have HBX := Lib.hid hbx
  clear hw0 hbx
  generalize hRR : w.heap.size + 1 + 1 = R at *
  generalize hXX : w.heap.size + 1 = X at *
  generalize hBB : w.heap.size = B at *
  have HBB := Lib.hid hBB
  clear hRR hXX hBB
  obtain ⟨d0, d1, d2, d3, d4⟩ := HTB.out.cells
  have r0 : w0.cell? ⟨R, 0, none⟩ = some (.slice none 0 0) := (cell_of_row _ _ _ _ _ _ HRB.out).trans rfl
  have r1 : w0.cell? ⟨R, 1, none⟩ = some (.slice none 0 0) := (cell_of_row _ _ _ _ _ _ HRB.out).trans rfl
  have r2 : w0.cell? ⟨R, 2, none⟩ = some (.slice none 0 0) := (cell_of_row _ _ _ _ _ _ HRB.out).trans rfl
  have r3 : w0.cell? ⟨R, 3, none⟩ = some (.slice none 0 0) := (cell_of_row _ _ _ _ _ _ HRB.out).trans rfl
  have r4 : w0.cell? ⟨R, 4, none⟩ = some (.slice none 0 0) := (cell_of_row _ _ _ _ _ _ HRB.out).trans rfl
  have fr : ∀ W : World, W.heap[R]? = some (.cells nilT 28 (0, 0)) → ∀ j, W.frozen? ⟨R, j, none⟩ = false := fun W h j => frozen_of_row _ _ j _ _ h
  have FR := Lib.hid fr
  have hNIL : ∀ W : World, W.heap[R]? = some (.cells nilT 28 (0, 0)) → Kept [] w W → ∀ W', W' = ((((W.setCell ⟨R, 0, none⟩ (.slice none 0 0)).setCell ⟨R, 1, none⟩ (.slice none 0 0)).setCell ⟨R, 2, none⟩ (.slice none 0 0)).setCell ⟨R, 3, none⟩ (.slice none 0 0)).setCell ⟨R, 4, none⟩ (.slice none 0 0) → W'.rangeAt R 0 nilT.toList ∧ Kept [] w W' := fun W h hk W' e => by
    subst e
    have h0 : VRow W R 28 nilT.toList := h
    have h5 := ((((h0.set 0 (.slice none 0 0)).set 1 (.slice none 0 0)).set 2 (.slice none 0 0)).set 3 (.slice none 0 0)).set 4 (.slice none 0 0)
    exact ⟨row_range h5, hk.above (X := [R]) (((((Kept.setCell _ _ _ (by simp)).trans (Kept.setCell _ _ _ (by simp))).trans (Kept.setCell _ _ _ (by simp))).trans (Kept.setCell _ _ _ (by simp))).trans (Kept.setCell _ _ _ (by simp))) (by have := HBX.out; have := HBB.out; simp; omega)⟩
  have HNIL := Lib.hid hNIL
  clear hNIL fr
  by_cases hlong : 4096 ≤ t.ents.length
  · have HE : Hid (addErr t x = 3) := by rw [Hid, addErr, if_pos hlong]
    have fR := FR.out w0 HRB.out
    go_wp2_with fail
    obtain ⟨p1, p2⟩ := HNIL.out w0 HRB.out HK0.out _ rfl
    exact bodyPost_ret (results27_of (c := nilT) rfl rfl rfl p1) rfl (.inr ⟨by rw [HE.out]; decide, by rw [HE.out], p2⟩)
  · have HE : Hid (addErr t x = if twiceB t x then 81 else 0) := by rw [Hid, addErr, if_neg hlong]
    have hm : t.ents.length ≤ 9223372036854775807 := Nat.le_trans q1 q2
    clear r0 r1 r2 r3 r4
    go_wp2_with fail
    clear d0 d1 d2 d3 d4
    go_loopw [6] (fun i wr => ∃ k : Nat, k ≤ t.ents.length ∧ i = .int .i64 k ∧ (∀ (j : Nat) (y : EntV), j < k → t.ents[j]? = some y → hitB t x y = false) ∧ Kept [] w0 wr) (fun i _ => t.ents.length - (intOf i).toNat)
    case atStart => exact ⟨0, Nat.zero_le _, rfl, fun j y hj => by omega, Kept.refl _ _⟩
    case round =>
      obtain ⟨k, hk, rfl, hno, hkr⟩ := hrel
      have HKR := Lib.hid hkr
      have HNO := Lib.hid hno
      clear hkr hno
      obtain ⟨wo, rfl⟩ : ∃ wo : World, wo = wr := ⟨_, rfl⟩
      have HKW := Lib.hid (HK0.out.trans HKR.out)
      have HTW := Lib.hid (HTB.out.kept HKR.out)
      have HXW := Lib.hid (HKR.out.obj HXB.out (by simp))
      obtain ⟨d0, d1, d2, d3, d4⟩ := HTW.out.cells
      by_cases hlt : k < t.ents.length
      · obtain ⟨y, hy⟩ : ∃ y, t.ents[k]? = some y := ⟨_, List.getElem?_eq_getElem hlt⟩
        have HYK := Lib.hid hy
        have HEY := Lib.hid (HTW.out.tab.ent (List.mem_of_getElem? hy))
        have HEX := Lib.hid (HX.out.kept HKW.out)
        obtain ⟨b, o, hea, hr⟩ := HTW.out.tab.es.some_ hy
        have hr1 := hr k y hy
        have HVT : Hid (v.cells t = #[.slice v.ta t.types.length v.tc, .slice v.sa t.subs.length v.sc, .slice (some ⟨b, o, none⟩) t.ents.length v.ec, .slice v.ga v.gn v.gc, .slice v.ia v.im v.ic]) := by rw [Hid, ← hea]; rfl
        rw [hea] at d2
        have HRY : Hid (∀ W, (∃ z : After wo, W = z.1) → W.rangeAt b (o + k * 22) y.cells) := fun W ⟨z, e⟩ => by subst e; exact fun q u hu => z.2.cell (hr1 q u hu) (by simp)
        have HRX : Hid (∀ W, (∃ z : After wo, W = z.1) → W.rangeAt X 0 x.cells) := fun W ⟨z, e⟩ => by subst e; exact fun q u hu => z.2.cell (EntV.range HXW.out q u hu) (by simp)
        have HC : Hid (∀ z : After wo, Calls Try.prog 57 #[.agg #[.slice v.ta t.types.length v.tc, .slice v.sa t.subs.length v.sc, .slice (some ⟨b, o, none⟩) t.ents.length v.ec, .slice v.ga v.gn v.gc, .slice v.ia v.im v.ic], .agg y.cells.toArray, .agg x.cells.toArray] z.1 (RetB (homR t y x) z.1)) := fun z => by
          rw [← HVT.out]
          exact homographsRef_any z.1 v t y x (HTW.out.tab.kept z.2) (HEY.out.kept z.2) (HEX.out.kept z.2)
        have x1 : wo.cell? ⟨X, 1, none⟩ = some (.string x.name) := ent_cell (x := x) HXW.out 1 rfl
        have x2 : wo.cell? ⟨X, 2, none⟩ = some (.int .i64 x.owner) := ent_cell (x := x) HXW.out 2 rfl
        have y2 : wo.cell? ⟨b, o + k * 22 + 2, none⟩ = some (.int .i64 y.owner) := hr1 2 _ rfl
        have HH : Hid (hitB t x y = (!x.name.toList.isEmpty && ((y.owner == x.owner) && homR t y x))) := rfl
        clear hy hr hr1 hea
        go_upto_region 6 with (fail)
        go_cut [43] (fun c wc => c = .bool (hitB t x y) ∧ Kept [] wo wc)
        case first =>
          have e0 : ∀ z : After wo, z.1.cell? ⟨B, 0, none⟩ = some (.slice v.ta t.types.length v.tc) := After.cell d0
          have e1 : ∀ z : After wo, z.1.cell? ⟨B, 1, none⟩ = some (.slice v.sa t.subs.length v.sc) := After.cell d1
          have e2 : ∀ z : After wo, z.1.cell? ⟨B, 2, none⟩ = some (.slice (some ⟨b, o, none⟩) t.ents.length v.ec) := After.cell d2
          have e3 : ∀ z : After wo, z.1.cell? ⟨B, 3, none⟩ = some (.slice v.ga v.gn v.gc) := After.cell d3
          have e4 : ∀ z : After wo, z.1.cell? ⟨B, 4, none⟩ = some (.slice v.ia v.im v.ic) := After.cell d4
          have f1 : ∀ z : After wo, z.1.cell? ⟨X, 1, none⟩ = some (.string x.name) := After.cell x1
          have f2 : ∀ z : After wo, z.1.cell? ⟨X, 2, none⟩ = some (.int .i64 x.owner) := After.cell x2
          have g2 : ∀ z : After wo, z.1.cell? ⟨b, o + k * 22 + 2, none⟩ = some (.int .i64 y.owner) := After.cell y2
          clear d0 d1 d2 d3 d4 x1 x2 y2
          cases h1 : x.name.toList.isEmpty
          · rw [h1] at HH
            cases h2 : (y.owner == x.owner)
            · rw [h2] at HH
              refine wp_region_after (by kernel_rfl) (by kernel_rfl) ?_
              repeat (go_big_quiet_step (fail))
              refine wpQuiet_nil ?_
              rintro w' ⟨z, rfl⟩
              obtain ⟨w1, hk1⟩ := z
              go_wp2_with fail
              go_meet
              exact ⟨by rw [HH.out]; rfl, hk1⟩
            · rw [h2] at HH
              refine wp_region_after (by kernel_rfl) (by kernel_rfl) ?_
              iterate 20 (go_big_quiet_step (fail))
              refine wpQuiet_load_mid 43 (.tmp 39) rfl (by kernel_rfl) b (o + k * 22) rfl y.cells _ HRY.out Try.underlying43 rfl (Try.info43 y) ?_
              simp only [Act.put, List.setIfInBounds_toArray, List.set_cons_zero, List.set_cons_succ]
              refine wpQuiet_load_mid 43 (.tmp 3) rfl (by kernel_rfl) X 0 rfl x.cells _ HRX.out Try.underlying43 rfl (Try.info43 x) ?_
              simp only [Act.put, List.setIfInBounds_toArray, List.set_cons_zero, List.set_cons_succ]
              go_big_quiet_step (exact Calls.after_b (HC.out _))
              repeat (go_big_quiet_step (fail))
              refine wpQuiet_nil ?_
              rintro w' ⟨z, rfl⟩
              obtain ⟨w1, hk1⟩ := z
              go_wp2_with fail
              go_meet
              exact ⟨by rw [HH.out]; rfl, hk1⟩
          · rw [h1] at HH
            refine wp_region_after (by kernel_rfl) (by kernel_rfl) ?_
            repeat (go_big_quiet_step (fail))
            refine wpQuiet_nil ?_
            rintro w' ⟨z, rfl⟩
            obtain ⟨w1, hk1⟩ := z
            go_wp2_with fail
            go_meet
            exact ⟨by rw [HH.out]; rfl, hk1⟩
        case rest =>
          obtain ⟨rfl, hkc⟩ := hcut
          have HKC := Lib.hid (HKR.out.trans hkc)
          clear hkc d0 d1 d2 d3 d4 x1 x2 y2
          cases hh : hitB t x y
          · go_wp2_with fail
            go_roundw
            case rel => exact ⟨k + 1, by omega, by go_num, fun j z hj hz => by
              by_cases hjk : j = k
              · subst hjk; rw [HYK.out] at hz; cases hz; exact hh
              · exact HNO.out j z (by omega) hz, HKC.out⟩
            case measure => simp [intOf]; omega
          · have HE2 : Hid (addErr t x = 81) := by rw [HE.out, twice_of HYK.out hh]; rfl
            have HRC := Lib.hid (HKC.out.obj HRB.out (by simp))
            have r0 : wc.cell? ⟨R, 0, none⟩ = some (.slice none 0 0) := (cell_of_row _ _ _ _ _ _ HRC.out).trans rfl
            have r1 : wc.cell? ⟨R, 1, none⟩ = some (.slice none 0 0) := (cell_of_row _ _ _ _ _ _ HRC.out).trans rfl
            have r2 : wc.cell? ⟨R, 2, none⟩ = some (.slice none 0 0) := (cell_of_row _ _ _ _ _ _ HRC.out).trans rfl
            have r3 : wc.cell? ⟨R, 3, none⟩ = some (.slice none 0 0) := (cell_of_row _ _ _ _ _ _ HRC.out).trans rfl
            have r4 : wc.cell? ⟨R, 4, none⟩ = some (.slice none 0 0) := (cell_of_row _ _ _ _ _ _ HRC.out).trans rfl
            have fR := FR.out _ HRC.out
            go_wp2_with fail
            obtain ⟨p1, p2⟩ := HNIL.out _ HRC.out (HK0.out.trans HKC.out) _ rfl
            exact bodyPost_ret (results27_of (c := nilT) rfl rfl rfl p1) rfl (.inr ⟨by rw [HE2.out]; decide, by rw [HE2.out], p2⟩)
      · have HTW2 : Hid (twiceB t x = false) := twice_no (fun j y hj hy => HNO.out j y (by omega) hy)
        have HE2 : Hid (addErr t x = 0) := by rw [HE.out, HTW2.out]; rfl
        have h1c : ∀ u ∈ x.cells, u.oneCell' = true := by have := EntV.one x; simpa using this
        have H1C := Lib.hid h1c
        have HRW := Lib.hid (HKR.out.obj HRB.out (by simp))
        have HALL : Hid (∀ u ∈ (t.ents.map EntV.cells).flatten, u.oneCell' = true) := by
          intro u hu
          obtain ⟨l, hl, hu⟩ := List.mem_flatten.1 hu
          obtain ⟨y, _, rfl⟩ := List.mem_map.1 hl
          have := EntV.one y
          simp only [Array.all_eq_true_iff_forall_mem, List.mem_toArray] at this
          exact this u hu
        have hA0 : 0 + t.ents.length ≤ maxLen := by have := HSZ.out; unfold maxLen; omega
        have hB0 : (0 + t.ents.length) * 176 ≤ 140737488355328 := by have := HSZ.out; omega
        have hA : Hid (t.ents.length + 1 ≤ maxLen) := by have := HSZ.out; unfold maxLen; rw [Hid]; omega
        have hBy : Hid ((t.ents.length + 1) * 176 ≤ 140737488355328) := by have := HSZ.out; rw [Hid]; omega
        obtain ⟨i0, hi, hz0, hz1, hz2⟩ := info_parts ent_info
        have HL : Hid ((addE t x).ents.length = t.ents.length + 1) := by simp [Hid, addE]
        clear h1c
        go_upto_region 10 with (at_builtin; refine wpList_append_src _ rfl _ _ 24 rfl wo.heap.size 43 i0 (.agg zeroE.cells.toArray) 22 176 Try.underlying24 hi hz0 hz1 hz2 rfl (by decide) (.slice none 0 0) 0 [] rfl (World.ownsRow_nil _ _ _ _) v.ea t.ents.length v.ec (t.ents.map EntV.cells).flatten rfl (HTW.out.tab.es.src EntV.len (by decide)) HALL.out hA0 hB0 (Nat.le_refl _) ?_; intro v1 w1 ho1 hg1 _; have HO1 : Hid (w1.ownsRow wo.heap.size 43 22 v1 t.ents.length (t.ents.map EntV.cells).flatten) := (by simpa [Hid] using ho1); have HK1 := Lib.hid ((Kept.refl [] _).grown hg1 (fun q hq => by cases hq)); clear ho1 hg1)
        obtain ⟨A1, c1, rfl⟩ := own_shape HO1.out
        have HXB1 := Lib.hid (HK1.out.obj HXW.out (by simp))
        haveI ix : EntAt w1 X 0 x := ⟨EntV.range HXB1.out⟩
        clear d0 d1 d2 d3 d4
        obtain ⟨d0, d1, d2, d3, d4⟩ := (HTW.out.kept HK1.out).cells
        have fB : w1.frozen? ⟨B, 2, none⟩ = false := frozen_of_row _ _ 2 _ _ (HTW.out.kept HK1.out).box
        have HSRC : Hid (SrcAt (w1.alloc (.cells x.cells.toArray 43)) 22 (some ⟨w1.heap.size, 0, none⟩) 1 x.cells) := ⟨by simp [EntV.len], fun _ => ⟨_, rfl, fun j u hu => by
          rw [Addr.add_mid, Nat.zero_add, cell_of_row _ _ _ _ _ _ (heap_alloc_new _ _)]
          simpa using hu⟩⟩
        have HS1 : Hid (wo.heap.size ≤ (w1.alloc (.cells x.cells.toArray 43)).heap.size) := (HK1.out.trans (Kept.alloc _ _ _)).size
        go_upto_region 11 with (at_builtin; refine wpList_append_src _ rfl _ _ 24 rfl wo.heap.size 43 i0 (.agg zeroE.cells.toArray) 22 176 Try.underlying24 hi hz0 hz1 hz2 rfl (by decide) (.slice A1 t.ents.length c1) t.ents.length (t.ents.map EntV.cells).flatten rfl (HO1.out.alloc _) (some ⟨w1.heap.size, 0, none⟩) 1 1 x.cells rfl HSRC.out H1C.out hA.out hBy.out HS1.out ?_; intro vb wb hob hgb _; obtain ⟨Ab, cb, rfl⟩ := own_shape hob; have HOB : Hid (wb.ownsRow w.heap.size 43 22 (.slice Ab (t.ents.length + 1) cb) (t.ents.length + 1) ((t.ents.map EntV.cells).flatten ++ x.cells)) := own_base hob HKW.out.size; have HKB := Lib.hid ((HK1.out.trans (Kept.alloc _ _ _)).grown hgb (fun q hq => own_at HO1.out q hq)); clear hob hgb d0 d1 d2 d3 d4 fB; obtain ⟨d0, d1, d2, d3, d4⟩ := (HTW.out.kept HKB.out).cells; have fB : wb.frozen? ⟨B, 2, none⟩ = false := frozen_of_row _ _ 2 _ _ (HTW.out.kept HKB.out).box)
        clear d0 d1 d2 d3 d4 fB
        have HFIN := Lib.hid (add_stored (t := t) (x := x) HTW.out.box HXW.out HRW.out HKB.out rfl HOB.out HKW.out (by have h := HBX.out; have := HBB.out; omega) (by have h := HBX.out; omega))
        generalize wb.setCell ⟨B, 2, none⟩ (.slice Ab (t.ents.length + 1) cb) = wz at *
        obtain ⟨hbz, hrz, hoz, hkz⟩ := HFIN.out
        have HRZ := Lib.hid hrz
        have HOZ := Lib.hid hoz
        have HKZ := Lib.hid hkz
        have b0 : wz.cell? ⟨B, 0, none⟩ = some (.slice v.ta t.types.length v.tc) := (cell_of_row _ _ _ _ _ _ hbz).trans rfl
        have b1 : wz.cell? ⟨B, 1, none⟩ = some (.slice v.sa t.subs.length v.sc) := (cell_of_row _ _ _ _ _ _ hbz).trans rfl
        have b2 : wz.cell? ⟨B, 2, none⟩ = some (.slice Ab (addE t x).ents.length cb) := (cell_of_row _ _ _ _ _ _ hbz).trans rfl
        have b3 : wz.cell? ⟨B, 3, none⟩ = some (.slice v.ga v.gn v.gc) := (cell_of_row _ _ _ _ _ _ hbz).trans rfl
        have b4 : wz.cell? ⟨B, 4, none⟩ = some (.slice v.ia v.im v.ic) := (cell_of_row _ _ _ _ _ _ hbz).trans rfl
        have r0 : wz.cell? ⟨R, 0, none⟩ = some (.slice none 0 0) := (cell_of_row _ _ _ _ _ _ hrz).trans rfl
        have r1 : wz.cell? ⟨R, 1, none⟩ = some (.slice none 0 0) := (cell_of_row _ _ _ _ _ _ hrz).trans rfl
        have r2 : wz.cell? ⟨R, 2, none⟩ = some (.slice none 0 0) := (cell_of_row _ _ _ _ _ _ hrz).trans rfl
        have r3 : wz.cell? ⟨R, 3, none⟩ = some (.slice none 0 0) := (cell_of_row _ _ _ _ _ _ hrz).trans rfl
        have r4 : wz.cell? ⟨R, 4, none⟩ = some (.slice none 0 0) := (cell_of_row _ _ _ _ _ _ hrz).trans rfl
        have fR := FR.out wz hrz
        have HVV : Hid (({ v with ea := Ab, ec := cb } : TabV).cells (addE t x) = #[.slice v.ta t.types.length v.tc, .slice v.sa t.subs.length v.sc, .slice Ab (addE t x).ents.length cb, .slice v.ga v.gn v.gc, .slice v.ia v.im v.ic]) := rfl
        generalize hq : (addE t x).ents.length = q at *
        have HQ := Lib.hid hq
        clear hq HL hbz hrz hoz hkz HFIN
        go_wp2_with fail
        obtain ⟨p1, p2⟩ := tab_stored HRZ.out HVV.out _ rfl
        obtain rfl := HQ.out
        exact bodyPost_ret (results27_of (c := ({ v with ea := Ab, ec := cb } : TabV).cells (addE t x)) rfl rfl rfl p1) rfl (.inl ⟨by rw [HE2.out], Ab, cb, rfl, own_keep HOZ.out p2 (own_not HOZ.out HRZ.out), HKZ.out.above p2 (by have h := HBX.out; have := HBB.out; simp; omega)⟩)
end Go.Proofs.Ytlgcboaojdhneaa
