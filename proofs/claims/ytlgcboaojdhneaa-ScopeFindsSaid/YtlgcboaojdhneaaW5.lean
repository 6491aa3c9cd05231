/- ScopeFinds' walk. -/
import Derived.Test.YtlgcboaojdhneaaK6
namespace Go.Proofs.Ytlgcboaojdhneaa
open Go.RowKit

set_option maxRecDepth 100000 in
set_option maxHeartbeats 4000000 in
theorem finds_any (w : World) (v : TabV) (t0 : Tab) (h0 : WhV) (name : ByteArray) (ow ty : Int) (hT : TabIn w v t0) (hY : TypIn w v t0) (hwf : ∀ x, x ∈ t0.ents → (Lit.int .i64 x.owner).wf = true) (hH : WhIn w h0) (hu : h0.ua = none → h0.uc = 0) (hsa : h0.sa = none → h0.sc = 0) (_ : name.size ≤ 140737488355328) :
    Calls Try.prog 5 #[.agg (v.cells t0), .agg h0.cells.toArray, .string name, .int .i64 ow, .int .i64 ty] w (RetB true w) := by
  have HT := Lib.hid hT
  have HY := Lib.hid hY
  have HWF := Lib.hid hwf
  have HH := Lib.hid hH
  have HU := Lib.hid hu
  have HS := Lib.hid hsa
  have HV0 : Hid (v.cells t0 = #[.slice v.ta t0.types.length v.tc, .slice v.sa t0.subs.length v.sc, .slice v.ea t0.ents.length v.ec, .slice v.ga v.gn v.gc, .slice v.ia v.im v.ic]) := rfl
  clear hT hY hwf hH hu hsa
  rw [HV0.out]
  unfold WhV.cells
  go_enter Try.func5, Try.ntmps5
  go_upto_region 1 with (fail)
  refine wp_gen' ?_
  intro w0 hw0
  have HK0 : Hid (Kept [] w w0) := by rw [Hid, hw0]; exact (Kept.alloc _ _ _).trans (Kept.alloc _ _ _)
  have HB0 : Hid (w0.heap[w.heap.size]? = some (.cells (v.cells t0) 28 (0, 0))) := by rw [Hid, hw0]; exact obj_old (obj_new rfl) (by simp)
  have HB1 : Hid (w0.heap[w.heap.size + 1]? = some (.cells h0.cells.toArray 31 (0, 0))) := by rw [Hid, hw0]; exact obj_new (by simp)
  clear hw0
  have HD : Hid (∀ W, Kept [] w0 W → (W.cell? ⟨w.heap.size, 0, none⟩ = some (.slice v.ta t0.types.length v.tc) ∧ W.cell? ⟨w.heap.size, 1, none⟩ = some (.slice v.sa t0.subs.length v.sc) ∧ W.cell? ⟨w.heap.size, 2, none⟩ = some (.slice v.ea t0.ents.length v.ec) ∧ W.cell? ⟨w.heap.size, 3, none⟩ = some (.slice v.ga v.gn v.gc) ∧ W.cell? ⟨w.heap.size, 4, none⟩ = some (.slice v.ia v.im v.ic) ∧ W.cell? ⟨w.heap.size + 1, 0, none⟩ = some (.int .i64 h0.region) ∧ W.cell? ⟨w.heap.size + 1, 1, none⟩ = some (.int .i64 h0.after) ∧ W.cell? ⟨w.heap.size + 1, 2, none⟩ = some (.slice h0.ua h0.units.length h0.uc) ∧ W.cell? ⟨w.heap.size + 1, 3, none⟩ = some (.slice h0.sa h0.uses.length h0.sc) ∧ (∀ j, W.frozen? ⟨w.heap.size, j, none⟩ = false) ∧ (∀ j, W.frozen? ⟨w.heap.size + 1, j, none⟩ = false))) := fun W hk => by
    have hb0 := hk.obj HB0.out (by simp)
    have hb1 := hk.obj HB1.out (by simp)
    have c0 : ∀ j, W.cell? ⟨w.heap.size, j, none⟩ = (v.cells t0)[j]? := fun j => cell_of_row _ _ _ _ _ _ hb0
    have c1 : ∀ j, W.cell? ⟨w.heap.size + 1, j, none⟩ = h0.cells.toArray[j]? := fun j => cell_of_row _ _ _ _ _ _ hb1
    exact ⟨c0 0, c0 1, c0 2, c0 3, c0 4, c1 0, c1 1, c1 2, c1 3, row_frozen hb0, row_frozen hb1⟩
  have HC10 : Hid (∀ W, Kept [] w0 W → Calls Try.prog 10 #[.agg #[.slice v.ta t0.types.length v.tc, .slice v.sa t0.subs.length v.sc, .slice v.ea t0.ents.length v.ec, .slice v.ga v.gn v.gc, .slice v.ia v.im v.ic]] W (RetT v (cutT t0) W)) := fun W hk => by
    have := cut_any W v t0 (HT.out.kept (HK0.out.trans hk))
    rw [HV0.out] at this
    exact this
  have HC11 : Hid (∀ W, Kept [] w0 W → Calls Try.prog 11 #[.agg #[.int .i64 h0.region, .int .i64 h0.after, .slice h0.ua h0.units.length h0.uc, .slice h0.sa h0.uses.length h0.sc]] W (RetH (cutH h0) W)) := fun W hk => cutWhere_any W h0 (HH.out.kept (HK0.out.trans hk)) HU.out HS.out
  have HVC : Hid (v.cells (cutT t0) = #[.slice v.ta t0.types.length v.tc, .slice v.sa t0.subs.length v.sc, .slice v.ea (cutT t0).ents.length v.ec, .slice v.ga v.gn v.gc, .slice v.ia v.im v.ic]) := rfl
  have HHC : Hid ((cutH h0).cells.toArray = #[.int .i64 h0.region, .int .i64 h0.after, .slice h0.ua (cutH h0).units.length h0.uc, .slice h0.sa (cutH h0).uses.length h0.sc]) := rfl
  obtain ⟨d0, d1, d2, d3, d4, u0, u1, u2, u3, f0, f1⟩ := HD.out w0 (Kept.refl _ _)
  have HPOST : Hid ( ∀ W W' : World, Kept [] w0 W → W' = (((((((((W.setCell ⟨w.heap.size, 0, none⟩ (.slice v.ta t0.types.length v.tc)).setCell ⟨w.heap.size, 1, none⟩ (.slice v.sa t0.subs.length v.sc)).setCell ⟨w.heap.size, 2, none⟩ (.slice v.ea (cutT t0).ents.length v.ec)).setCell ⟨w.heap.size, 3, none⟩ (.slice v.ga v.gn v.gc)).setCell ⟨w.heap.size, 4, none⟩ (.slice v.ia v.im v.ic)).setCell ⟨w.heap.size + 1, 0, none⟩ (.int .i64 h0.region)).setCell ⟨w.heap.size + 1, 1, none⟩ (.int .i64 h0.after)).setCell ⟨w.heap.size + 1, 2, none⟩ (.slice h0.ua (cutH h0).units.length h0.uc)).setCell ⟨w.heap.size + 1, 3, none⟩ (.slice h0.sa (cutH h0).uses.length h0.sc)) → (W'.heap[w.heap.size]? = some (.cells (v.cells (cutT t0)) 28 (0, 0)) ∧ W'.heap[w.heap.size + 1]? = some (.cells (cutH h0).cells.toArray 31 (0, 0)) ∧ Kept [] w W')) := fun W W' hk hW => by
      obtain ⟨p1, p2, p3⟩ := cut_stored (t := t0) (h := h0) (by omega) (hk.obj HB0.out (by simp)) (hk.obj HB1.out (by simp)) _ _ _ _ _ _ _ _ _ HVC.out HHC.out hW
      exact ⟨p1, p2, (HK0.out.trans hk).above p3 (by simp)⟩
  go_cut [] (fun wc => wc.heap[w.heap.size]? = some (.cells (v.cells (cutT t0)) 28 (0, 0)) ∧ wc.heap[w.heap.size + 1]? = some (.cells (cutH h0).cells.toArray 31 (0, 0)) ∧ Kept [] w wc)
  case first =>
    go_region_with (first
      | (go_at_call 10
         refine (HC10.out _ ?_).mono ?_
         · first
             | exact HKB.out
             | exact Kept.drew _ _
             | exact Kept.refl _ _
         rintro e wa ⟨rfl, hka⟩
         rw [HVC.out]
         have HKA : Hid (Kept [] w0 wa) := by first | exact HKB.out.trans hka | exact (Kept.drew _ _).trans hka | exact hka
         clear hka d0 d1 d2 d3 d4 u0 u1 u2 u3 f0 f1
         obtain ⟨d0, d1, d2, d3, d4, u0, u1, u2, u3, f0, f1⟩ := HD.out _ HKA.out)
      | (go_at_call 11
         refine (HC11.out _ ?_).mono ?_
         · first
             | exact HKA.out
             | exact Kept.drew _ _
             | exact Kept.refl _ _
         rintro e wb ⟨rfl, hkb⟩
         rw [HHC.out]
         have HKB : Hid (Kept [] w0 wb) := by first | exact HKA.out.trans hkb | exact (Kept.drew _ _).trans hkb | exact hkb
         clear hkb d0 d1 d2 d3 d4 u0 u1 u2 u3 f0 f1
         obtain ⟨d0, d1, d2, d3, d4, u0, u1, u2, u3, f0, f1⟩ := HD.out _ HKB.out))
    all_goals
      go_wp2_with fail
      go_meet
      exact HPOST.out _ _ HKB.out rfl
  case rest =>
    obtain ⟨hb, hb1, hkc⟩ := hcut
    have HKC := Lib.hid hkc
    have HTB : Hid (TabBox wc w.heap.size v (cutT t0)) := ⟨hb, HT.out.cut.kept hkc⟩
    have HHB : Hid (WhBox wc (w.heap.size + 1) (cutH h0)) := ⟨hb1, HH.out.cut.kept hkc⟩
    have HTY : Hid (TypIn wc v (cutT t0)) := ⟨HY.out.ts.kept hkc, HY.out.tl, HY.out.tm⟩
    have HLE := Lib.hid (cutT_ents t0)
    have HLU := Lib.hid (cutH_uses h0)
    have HW2 : Hid (∀ x, x ∈ (cutT t0).ents → (Lit.int .i64 x.owner).wf = true) := fun x hx => HWF.out x (List.mem_of_mem_take hx)
    have hle := cutT_ents t0
    generalize cutT t0 = t at *
    generalize cutH h0 = h at *
    clear hb hb1 hkc d0 d1 d2 d3 d4 u0 u1 u2 u3 f0 f1 HD HC10 HC11 HVC HHC HB0 HB1 HT HY HWF HH HU HS HK0
    have HD2 : Hid (∀ wx, Kept [] wc wx → (wx.cell? ⟨w.heap.size, 0, none⟩ = some (.slice v.ta t.types.length v.tc) ∧ wx.cell? ⟨w.heap.size, 1, none⟩ = some (.slice v.sa t.subs.length v.sc) ∧ wx.cell? ⟨w.heap.size, 2, none⟩ = some (.slice v.ea t.ents.length v.ec) ∧ wx.cell? ⟨w.heap.size, 3, none⟩ = some (.slice v.ga v.gn v.gc) ∧ wx.cell? ⟨w.heap.size, 4, none⟩ = some (.slice v.ia v.im v.ic) ∧ wx.cell? ⟨w.heap.size + 1, 0, none⟩ = some (.int .i64 h.region) ∧ wx.cell? ⟨w.heap.size + 1, 1, none⟩ = some (.int .i64 h.after) ∧ wx.cell? ⟨w.heap.size + 1, 2, none⟩ = some (.slice h.ua h.units.length h.uc) ∧ wx.cell? ⟨w.heap.size + 1, 3, none⟩ = some (.slice h.sa h.uses.length h.sc) ∧ Kept [] wc wx)) := fun W hk => by
      obtain ⟨d0, d1, d2, d3, d4⟩ := (HTB.out.kept hk).cells
      obtain ⟨u0, u1, u2, u3⟩ := (HHB.out.kept hk).cells
      exact ⟨d0, d1, d2, d3, d4, u0, u1, u2, u3, hk⟩
    have HF16 : Hid (∀ W, Kept [] wc W → Calls Try.prog 16 #[.agg #[.slice v.ta t.types.length v.tc, .slice v.sa t.subs.length v.sc, .slice v.ea t.ents.length v.ec, .slice v.ga v.gn v.gc, .slice v.ia v.im v.ic], .agg #[.int .i64 h.region, .int .i64 h.after, .slice h.ua h.units.length h.uc, .slice h.sa h.uses.length h.sc], .string name] W (RetO (findR t h name) W)) := fun W hk => find_at W v t h name (HTB.out.kept hk).tab (HHB.out.kept hk).wh (by have := HLE.out; omega) (by have := HLU.out; omega) HW2.out
    have HF22 : Hid (∀ W, Kept [] wc W → Calls Try.prog 22 #[.agg #[.slice v.ta t.types.length v.tc, .slice v.sa t.subs.length v.sc, .slice v.ea t.ents.length v.ec, .slice v.ga v.gn v.gc, .slice v.ia v.im v.ic], .agg #[.int .i64 h.region, .int .i64 h.after, .slice h.ua h.units.length h.uc, .slice h.sa h.uses.length h.sc], .string name] W (RetO (findR t h name) W)) := fun W hk => by
      have := findRef_any W v t h name (HTB.out.kept hk).tab (HHB.out.kept hk).wh (by have := HLE.out; omega) (by have := HLU.out; omega)
      rw [find_ref] at this
      exact this
    have HF13 : Hid (∀ W (p : Int), Kept [] wc W → Calls Try.prog 13 #[.agg #[.slice v.ta t.types.length v.tc, .slice v.sa t.subs.length v.sc, .slice v.ea t.ents.length v.ec, .slice v.ga v.gn v.gc, .slice v.ia v.im v.ic], .agg #[.int .i64 h.region, .int .i64 h.after, .slice h.ua h.units.length h.uc, .slice h.sa h.uses.length h.sc], .int .i64 p, .string name] W (RetC (selR t h p name) W)) := fun W p hk => select_any W v t h p name (HTB.out.kept hk).tab (HHB.out.kept hk).wh (by have := HLE.out; omega)
    have HF23 : Hid (∀ W (p : Int), Kept [] wc W → Calls Try.prog 23 #[.agg #[.slice v.ta t.types.length v.tc, .slice v.sa t.subs.length v.sc, .slice v.ea t.ents.length v.ec, .slice v.ga v.gn v.gc, .slice v.ia v.im v.ic], .agg #[.int .i64 h.region, .int .i64 h.after, .slice h.ua h.units.length h.uc, .slice h.sa h.uses.length h.sc], .int .i64 p, .string name] W (RetC (selR t h p name) W)) := fun W p hk => selectRef_any W v t h p name (HTB.out.kept hk).tab (HHB.out.kept hk).wh (by have := HLE.out; omega)
    have HF24 : Hid (∀ W (p : Int), Kept [] wc W → Calls Try.prog 24 #[.agg #[.slice v.ta t.types.length v.tc, .slice v.sa t.subs.length v.sc, .slice v.ea t.ents.length v.ec, .slice v.ga v.gn v.gc, .slice v.ia v.im v.ic], .agg #[.int .i64 h.region, .int .i64 h.after, .slice h.ua h.units.length h.uc, .slice h.sa h.uses.length h.sc], .int .i64 p] W (RetB (fullR t h p) W) ∧ Calls Try.prog 25 #[.agg #[.slice v.ta t.types.length v.tc, .slice v.sa t.subs.length v.sc, .slice v.ea t.ents.length v.ec, .slice v.ga v.gn v.gc, .slice v.ia v.im v.ic], .agg #[.int .i64 h.region, .int .i64 h.after, .slice h.ua h.units.length h.uc, .slice h.sa h.uses.length h.sc], .int .i64 p] W (RetB (fullR t h p) W)) := fun W p hk => ⟨full_any W v t h p (HTB.out.kept hk).tab (HTY.out.kept hk) (by have := HLE.out; omega), fullRef_any W v t h p (HTB.out.kept hk).tab (HTY.out.kept hk) (by have := HLE.out; omega)⟩
    have HKP : Hid (Kept [] wc wc) := Kept.refl _ _
    go_upto_region 2 with (fail)
    go_region_held3 (fun wx => wx.cell? ⟨w.heap.size, 0, none⟩ = some (.slice v.ta t.types.length v.tc) ∧ wx.cell? ⟨w.heap.size, 1, none⟩ = some (.slice v.sa t.subs.length v.sc) ∧ wx.cell? ⟨w.heap.size, 2, none⟩ = some (.slice v.ea t.ents.length v.ec) ∧ wx.cell? ⟨w.heap.size, 3, none⟩ = some (.slice v.ga v.gn v.gc) ∧ wx.cell? ⟨w.heap.size, 4, none⟩ = some (.slice v.ia v.im v.ic) ∧ wx.cell? ⟨w.heap.size + 1, 0, none⟩ = some (.int .i64 h.region) ∧ wx.cell? ⟨w.heap.size + 1, 1, none⟩ = some (.int .i64 h.after) ∧ wx.cell? ⟨w.heap.size + 1, 2, none⟩ = some (.slice h.ua h.units.length h.uc) ∧ wx.cell? ⟨w.heap.size + 1, 3, none⟩ = some (.slice h.sa h.uses.length h.sc) ∧ Kept [] wc wx)
      (first | exact HD2.out _ HKa3.out | exact HD2.out _ HKa2.out | exact HD2.out _ HKa1.out | exact HD2.out _ (HKP.out.trans (Kept.drew _ _)) | exact HD2.out _ HKP.out | exact HD2.out _ (Kept.drew _ _) | exact HD2.out _ (Kept.refl _ _))
      (first
        | (go_at_call 16
           have hkx := (‹_ ∧ _ ∧ _ ∧ _ ∧ _ ∧ _ ∧ _ ∧ _ ∧ _ ∧ Kept [] wc _›).2.2.2.2.2.2.2.2.2
           refine (HF16.out _ hkx).mono ?_
           rintro e xa1 ⟨va1, rfl, ho1, hk1⟩
           obtain ⟨Aa1, ca1, rfl⟩ := own_shape ho1
           have HIa1 := Lib.hid ((IntsC.of_owns ho1).at_)
           have HKa1 := Lib.hid (hkx.trans hk1)
           clear hkx ho1 hk1)
        | (go_at_call 22
           have hkx := (‹_ ∧ _ ∧ _ ∧ _ ∧ _ ∧ _ ∧ _ ∧ _ ∧ _ ∧ Kept [] wc _›).2.2.2.2.2.2.2.2.2
           refine (HF22.out _ hkx).mono ?_
           rintro e xa2 ⟨va2, rfl, ho1, hk1⟩
           obtain ⟨Aa2, ca2, rfl⟩ := own_shape ho1
           have HIa2 := Lib.hid ((IntsC.of_owns ho1).at_)
           have HJa1 := Lib.hid (HIa1.out.2.1.kept hk1)
           have HKa2 := Lib.hid (hkx.trans hk1)
           clear hkx ho1 hk1)
        | (go_at_call 21
           have hkx := (‹_ ∧ _ ∧ _ ∧ _ ∧ _ ∧ _ ∧ _ ∧ _ ∧ _ ∧ Kept [] wc _›).2.2.2.2.2.2.2.2.2
           refine (same_any _ Aa1 Aa2 ca1 ca2 (findR t h name) (findR t h name) HIa1.out.2.2.1 HIa1.out.2.2.2.1 HJa1.out HIa2.out.2.2.1 HIa2.out.2.2.2.1 HIa2.out.2.1).mono ?_
           rintro e xa3 ⟨rfl, hk1⟩
           rw [sameI_self]
           have HKa3 := Lib.hid (hkx.trans hk1)
           clear hkx hk1))
    clear HKP HIa1 HIa2 HJa1 HKa1 HKa2
    obtain ⟨d0, d1, d2, d3, d4, u0, u1, u2, u3, _⟩ := HD2.out _ HKa3.out
    go_wp2_with fail
    go_loopw [11] (fun i wr => ∃ k : Int, -1 ≤ k ∧ k ≤ t.ents.length + 1 ∧ i = .int .i64 k ∧ Kept [] wc wr) (fun i _ => ((t.ents.length : Int) + 1 - intOf i).toNat)
    case atStart => exact ⟨-1, by omega, by omega, rfl, HKa3.out⟩
    case round =>
      obtain ⟨k, hk0, hk1, rfl, hkr⟩ := hrel
      have HKP := Lib.hid hkr
      clear hkr d0 d1 d2 d3 d4 u0 u1 u2 u3
      obtain ⟨wo, rfl⟩ : ∃ wo : World, wo = wr := ⟨_, rfl⟩
      obtain ⟨d0, d1, d2, d3, d4, u0, u1, u2, u3, _⟩ := HD2.out _ HKP.out
      by_cases hlt : k ≤ (t.ents.length : Int)
      · by_cases hneg : k < 0
        · go_upto_region 10 with (fail)
          go_region_held3 (fun wx => wx.cell? ⟨w.heap.size, 0, none⟩ = some (.slice v.ta t.types.length v.tc) ∧ wx.cell? ⟨w.heap.size, 1, none⟩ = some (.slice v.sa t.subs.length v.sc) ∧ wx.cell? ⟨w.heap.size, 2, none⟩ = some (.slice v.ea t.ents.length v.ec) ∧ wx.cell? ⟨w.heap.size, 3, none⟩ = some (.slice v.ga v.gn v.gc) ∧ wx.cell? ⟨w.heap.size, 4, none⟩ = some (.slice v.ia v.im v.ic) ∧ wx.cell? ⟨w.heap.size + 1, 0, none⟩ = some (.int .i64 h.region) ∧ wx.cell? ⟨w.heap.size + 1, 1, none⟩ = some (.int .i64 h.after) ∧ wx.cell? ⟨w.heap.size + 1, 2, none⟩ = some (.slice h.ua h.units.length h.uc) ∧ wx.cell? ⟨w.heap.size + 1, 3, none⟩ = some (.slice h.sa h.uses.length h.sc) ∧ Kept [] wc wx)
            (first | exact HD2.out _ HKb3.out | exact HD2.out _ HKb2.out | exact HD2.out _ HKb1.out | exact HD2.out _ (HKP.out.trans (Kept.drew _ _)) | exact HD2.out _ HKP.out | exact HD2.out _ (Kept.drew _ _) | exact HD2.out _ (Kept.refl _ _))
            (first
              | (go_at_call 13
                 have hkx := (‹_ ∧ _ ∧ _ ∧ _ ∧ _ ∧ _ ∧ _ ∧ _ ∧ _ ∧ Kept [] wc _›).2.2.2.2.2.2.2.2.2
                 refine (HF13.out _ ow hkx).mono ?_
                 rintro e xb1 ⟨vb1, rfl, ho1, hk1⟩
                 obtain ⟨Ab1, cb1, rfl⟩ := intsC_shape ho1
                 have HIb1 := Lib.hid (ho1.at_)
                 have HKb1 := Lib.hid (hkx.trans hk1)
                 clear hkx ho1 hk1)
              | (go_at_call 23
                 have hkx := (‹_ ∧ _ ∧ _ ∧ _ ∧ _ ∧ _ ∧ _ ∧ _ ∧ _ ∧ Kept [] wc _›).2.2.2.2.2.2.2.2.2
                 refine (HF23.out _ ow hkx).mono ?_
                 rintro e xb2 ⟨vb2, rfl, ho1, hk1⟩
                 obtain ⟨Ab2, cb2, rfl⟩ := intsC_shape ho1
                 have HIb2 := Lib.hid (ho1.at_)
                 have HJb1 := Lib.hid (HIb1.out.2.1.kept hk1)
                 have HKb2 := Lib.hid (hkx.trans hk1)
                 clear hkx ho1 hk1)
              | (go_at_call 21
                 have hkx := (‹_ ∧ _ ∧ _ ∧ _ ∧ _ ∧ _ ∧ _ ∧ _ ∧ _ ∧ Kept [] wc _›).2.2.2.2.2.2.2.2.2
                 refine (same_any _ Ab1 Ab2 cb1 cb2 (selR t h ow name) (selR t h ow name) HIb1.out.2.2.1 HIb1.out.2.2.2.1 HJb1.out HIb2.out.2.2.1 HIb2.out.2.2.2.1 HIb2.out.2.1).mono ?_
                 rintro e xb3 ⟨rfl, hk1⟩
                 rw [sameI_self]
                 have HKb3 := Lib.hid (hkx.trans hk1)
                 clear hkx hk1))
          go_wp2_with fail
          go_roundw
          case rel => exact ⟨k + 1, by omega, by omega, by go_num, HKb3.out⟩
          case measure => simp [intOf]; omega
        · go_upto_region 10 with (fail)
          go_region_held3 (fun wx => wx.cell? ⟨w.heap.size, 0, none⟩ = some (.slice v.ta t.types.length v.tc) ∧ wx.cell? ⟨w.heap.size, 1, none⟩ = some (.slice v.sa t.subs.length v.sc) ∧ wx.cell? ⟨w.heap.size, 2, none⟩ = some (.slice v.ea t.ents.length v.ec) ∧ wx.cell? ⟨w.heap.size, 3, none⟩ = some (.slice v.ga v.gn v.gc) ∧ wx.cell? ⟨w.heap.size, 4, none⟩ = some (.slice v.ia v.im v.ic) ∧ wx.cell? ⟨w.heap.size + 1, 0, none⟩ = some (.int .i64 h.region) ∧ wx.cell? ⟨w.heap.size + 1, 1, none⟩ = some (.int .i64 h.after) ∧ wx.cell? ⟨w.heap.size + 1, 2, none⟩ = some (.slice h.ua h.units.length h.uc) ∧ wx.cell? ⟨w.heap.size + 1, 3, none⟩ = some (.slice h.sa h.uses.length h.sc) ∧ Kept [] wc wx)
            (first | exact HD2.out _ HKb3.out | exact HD2.out _ HKb2.out | exact HD2.out _ HKb1.out | exact HD2.out _ (HKP.out.trans (Kept.drew _ _)) | exact HD2.out _ HKP.out | exact HD2.out _ (Kept.drew _ _) | exact HD2.out _ (Kept.refl _ _))
            (first
              | (go_at_call 13
                 have hkx := (‹_ ∧ _ ∧ _ ∧ _ ∧ _ ∧ _ ∧ _ ∧ _ ∧ _ ∧ Kept [] wc _›).2.2.2.2.2.2.2.2.2
                 refine (HF13.out _ k hkx).mono ?_
                 rintro e xb1 ⟨vb1, rfl, ho1, hk1⟩
                 obtain ⟨Ab1, cb1, rfl⟩ := intsC_shape ho1
                 have HIb1 := Lib.hid (ho1.at_)
                 have HKb1 := Lib.hid (hkx.trans hk1)
                 clear hkx ho1 hk1)
              | (go_at_call 23
                 have hkx := (‹_ ∧ _ ∧ _ ∧ _ ∧ _ ∧ _ ∧ _ ∧ _ ∧ _ ∧ Kept [] wc _›).2.2.2.2.2.2.2.2.2
                 refine (HF23.out _ k hkx).mono ?_
                 rintro e xb2 ⟨vb2, rfl, ho1, hk1⟩
                 obtain ⟨Ab2, cb2, rfl⟩ := intsC_shape ho1
                 have HIb2 := Lib.hid (ho1.at_)
                 have HJb1 := Lib.hid (HIb1.out.2.1.kept hk1)
                 have HKb2 := Lib.hid (hkx.trans hk1)
                 clear hkx ho1 hk1)
              | (go_at_call 21
                 have hkx := (‹_ ∧ _ ∧ _ ∧ _ ∧ _ ∧ _ ∧ _ ∧ _ ∧ _ ∧ Kept [] wc _›).2.2.2.2.2.2.2.2.2
                 refine (same_any _ Ab1 Ab2 cb1 cb2 (selR t h k name) (selR t h k name) HIb1.out.2.2.1 HIb1.out.2.2.2.1 HJb1.out HIb2.out.2.2.1 HIb2.out.2.2.2.1 HIb2.out.2.1).mono ?_
                 rintro e xb3 ⟨rfl, hk1⟩
                 rw [sameI_self]
                 have HKb3 := Lib.hid (hkx.trans hk1)
                 clear hkx hk1))
          go_wp2_with fail
          go_roundw
          case rel => exact ⟨k + 1, by omega, by omega, by go_num, HKb3.out⟩
          case measure => simp [intOf]; omega
      · go_wp2_with fail
        clear hlt hk0 hk1
        go_loopw [13] (fun i wr => ∃ k : Int, -1 ≤ k ∧ k ≤ min (t.types.length : Int) 50 + 1 ∧ i = .int .i64 k ∧ Kept [] wc wr) (fun i _ => (min (t.types.length : Int) 50 + 1 - intOf i).toNat)
        case atStart => exact ⟨-1, by omega, by omega, rfl, HKP.out⟩
        case round =>
          obtain ⟨k, hk0, hk1, rfl, hkr⟩ := hrel
          clear HKP
          have HKP := Lib.hid hkr
          clear hkr d0 d1 d2 d3 d4 u0 u1 u2 u3
          obtain ⟨wo, rfl⟩ : ∃ wo : World, wo = wr := ⟨_, rfl⟩
          obtain ⟨d0, d1, d2, d3, d4, u0, u1, u2, u3, _⟩ := HD2.out _ HKP.out
          by_cases hlt : k ≤ min (t.types.length : Int) 50
          · by_cases hneg : k < 0
            · skip
              go_upto_region 18 with (fail)
              have AB : Hid (∀ z : After wo, Calls Try.prog 24 #[.agg #[.slice v.ta t.types.length v.tc, .slice v.sa t.subs.length v.sc, .slice v.ea t.ents.length v.ec, .slice v.ga v.gn v.gc, .slice v.ia v.im v.ic], .agg #[.int .i64 h.region, .int .i64 h.after, .slice h.ua h.units.length h.uc, .slice h.sa h.uses.length h.sc], .int .i64 ty] z.1 (RetB (fullR t h ty) z.1) ∧ Calls Try.prog 25 #[.agg #[.slice v.ta t.types.length v.tc, .slice v.sa t.subs.length v.sc, .slice v.ea t.ents.length v.ec, .slice v.ga v.gn v.gc, .slice v.ia v.im v.ic], .agg #[.int .i64 h.region, .int .i64 h.after, .slice h.ua h.units.length h.uc, .slice h.sa h.uses.length h.sc], .int .i64 ty] z.1 (RetB (fullR t h ty) z.1)) := fun z => HF24.out _ ty (HKP.out.trans z.2)
              replace d0 := After.cell d0
              replace d1 := After.cell d1
              replace d2 := After.cell d2
              replace d3 := After.cell d3
              replace d4 := After.cell d4
              replace u0 := After.cell u0
              replace u1 := After.cell u1
              replace u2 := After.cell u2
              replace u3 := After.cell u3
              refine wp_region_after (by kernel_rfl) (by kernel_rfl) ?_
              iterate 3 (go_big_quiet_step (fail))
              go_big_quiet_step (exact Calls.after_b (AB.out _).1)
              iterate 3 (go_big_quiet_step (fail))
              go_big_quiet_step (exact Calls.after_b (AB.out _).2)
              iterate 1 (go_big_quiet_step (fail))
              refine wpQuiet_nil ?_
              rintro w6 ⟨z6, rfl⟩
              obtain ⟨w6, hk6⟩ := z6
              dsimp only
              have HK6 := Lib.hid hk6
              clear hk6 d0 d1 d2 d3 d4 u0 u1 u2 u3
              go_wp2_with fail
              go_roundw
              case rel => exact ⟨k + 1, by omega, by omega, by go_num, HKP.out.trans HK6.out⟩
              case measure => simp [intOf]; omega
            · skip
              go_upto_region 18 with (fail)
              have AB : Hid (∀ z : After wo, Calls Try.prog 24 #[.agg #[.slice v.ta t.types.length v.tc, .slice v.sa t.subs.length v.sc, .slice v.ea t.ents.length v.ec, .slice v.ga v.gn v.gc, .slice v.ia v.im v.ic], .agg #[.int .i64 h.region, .int .i64 h.after, .slice h.ua h.units.length h.uc, .slice h.sa h.uses.length h.sc], .int .i64 k] z.1 (RetB (fullR t h k) z.1) ∧ Calls Try.prog 25 #[.agg #[.slice v.ta t.types.length v.tc, .slice v.sa t.subs.length v.sc, .slice v.ea t.ents.length v.ec, .slice v.ga v.gn v.gc, .slice v.ia v.im v.ic], .agg #[.int .i64 h.region, .int .i64 h.after, .slice h.ua h.units.length h.uc, .slice h.sa h.uses.length h.sc], .int .i64 k] z.1 (RetB (fullR t h k) z.1)) := fun z => HF24.out _ k (HKP.out.trans z.2)
              replace d0 := After.cell d0
              replace d1 := After.cell d1
              replace d2 := After.cell d2
              replace d3 := After.cell d3
              replace d4 := After.cell d4
              replace u0 := After.cell u0
              replace u1 := After.cell u1
              replace u2 := After.cell u2
              replace u3 := After.cell u3
              refine wp_region_after (by kernel_rfl) (by kernel_rfl) ?_
              iterate 3 (go_big_quiet_step (fail))
              go_big_quiet_step (exact Calls.after_b (AB.out _).1)
              iterate 3 (go_big_quiet_step (fail))
              go_big_quiet_step (exact Calls.after_b (AB.out _).2)
              iterate 1 (go_big_quiet_step (fail))
              refine wpQuiet_nil ?_
              rintro w6 ⟨z6, rfl⟩
              obtain ⟨w6, hk6⟩ := z6
              dsimp only
              have HK6 := Lib.hid hk6
              clear hk6 d0 d1 d2 d3 d4 u0 u1 u2 u3
              go_wp2_with fail
              go_roundw
              case rel => exact ⟨k + 1, by omega, by omega, by go_num, HKP.out.trans HK6.out⟩
              case measure => simp [intOf]; omega
          · go_wp2_with (go_at_call 14; refine (works_any _).mono ?_; rintro e w7 ⟨rfl, hk7⟩; have HK7 := Lib.hid hk7; clear hk7)
            go_ret
            exact ⟨rfl, HKC.out.trans (HKP.out.trans HK7.out)⟩
end Go.Proofs.Ytlgcboaojdhneaa