/- ScopeSelects' walk. -/
import Derived.Test.YtlgcboaojdhneaaK6
import Derived.Test.YtlgcboaojdhneaaP2
namespace Go.Proofs.Ytlgcboaojdhneaa
open Go.RowKit

set_option maxRecDepth 100000 in
set_option maxHeartbeats 4000000 in
theorem selects_any (w : World) (v : TabV) (t0 : Tab) (h0 : WhV) (ow : Int) (hT : TabIn w v t0) (hY : TypIn w v t0) (hwf : ∀ x, x ∈ t0.ents → (Lit.int .i64 x.owner).wf = true) (hH : WhIn w h0) (hu : h0.ua = none → h0.uc = 0) (hsa : h0.sa = none → h0.sc = 0) :
    Calls Try.prog 3 #[.agg (v.cells t0), .agg h0.cells.toArray, .int .i64 ow] w (RetB true w) := by

  have HT := Lib.hid hT
  have HY := Lib.hid hY
  have HWF := Lib.hid hwf
  have HH := Lib.hid hH
  have HU := Lib.hid hu
  have HS := Lib.hid hsa
  have HV0 : Hid (v.cells t0 = #[.slice v.ta t0.types.length v.tc, .slice v.sa t0.subs.length v.sc, .slice v.ea t0.ents.length v.ec, .slice v.ga v.gn v.gc, .slice v.ia v.im v.ic]) := rfl
  clear hT hY hwf hH hu hsa
  rw [HV0.out]
  unfold WhV.cells
  go_enter Try.func3, Try.ntmps3
  go_upto_region 1 with (fail)
  refine wp_gen' ?_
  intro w0 hw0
  have HK0 : Hid (Kept [] w w0) := by rw [Hid, hw0]; exact (Kept.alloc _ _ _).trans (Kept.alloc _ _ _)
  have HB0 : Hid (w0.heap[w.heap.size]? = some (.cells (v.cells t0) 28 (0, 0))) := by rw [Hid, hw0]; exact obj_old (obj_new rfl) (by simp)
  have HB1 : Hid (w0.heap[w.heap.size + 1]? = some (.cells h0.cells.toArray 31 (0, 0))) := by rw [Hid, hw0]; exact obj_new (by simp)
  clear hw0
  have HD : Hid (∀ W, Kept [] w0 W → (W.cell? ⟨w.heap.size, 0, none⟩ = some (.slice v.ta t0.types.length v.tc) ∧ W.cell? ⟨w.heap.size, 1, none⟩ = some (.slice v.sa t0.subs.length v.sc) ∧ W.cell? ⟨w.heap.size, 2, none⟩ = some (.slice v.ea t0.ents.length v.ec) ∧ W.cell? ⟨w.heap.size, 3, none⟩ = some (.slice v.ga v.gn v.gc) ∧ W.cell? ⟨w.heap.size, 4, none⟩ = some (.slice v.ia v.im v.ic) ∧ W.cell? ⟨w.heap.size + 1, 0, none⟩ = some (.int .i64 h0.region) ∧ W.cell? ⟨w.heap.size + 1, 1, none⟩ = some (.int .i64 h0.after) ∧ W.cell? ⟨w.heap.size + 1, 2, none⟩ = some (.slice h0.ua h0.units.length h0.uc) ∧ W.cell? ⟨w.heap.size + 1, 3, none⟩ = some (.slice h0.sa h0.uses.length h0.sc) ∧ (∀ j, W.frozen? ⟨w.heap.size, j, none⟩ = false) ∧ (∀ j, W.frozen? ⟨w.heap.size + 1, j, none⟩ = false))) := fun W hk => by
    have hb0 := hk.obj HB0.out (by simp)
    have hb1 := hk.obj HB1.out (by simp)
    have c0 : ∀ j, W.cell? ⟨w.heap.size, j, none⟩ = (v.cells t0)[j]? := fun j => cell_of_row _ _ _ _ _ _ hb0
    have c1 : ∀ j, W.cell? ⟨w.heap.size + 1, j, none⟩ = h0.cells.toArray[j]? := fun j => cell_of_row _ _ _ _ _ _ hb1
    exact ⟨c0 0, c0 1, c0 2, c0 3, c0 4, c1 0, c1 1, c1 2, c1 3, row_frozen hb0, row_frozen hb1⟩
  have HC10 : Hid (∀ W, Kept [] w0 W → Calls Try.prog 10 #[.agg #[.slice v.ta t0.types.length v.tc, .slice v.sa t0.subs.length v.sc, .slice v.ea t0.ents.length v.ec, .slice v.ga v.gn v.gc, .slice v.ia v.im v.ic]] W (RetT v (cutT t0) W)) := fun W hk => by
    have := cut_any W v t0 (HT.out.kept (HK0.out.trans hk))
    rw [HV0.out] at this
    exact this
  have HC11 : Hid (∀ W, Kept [] w0 W → Calls Try.prog 11 #[.agg #[.int .i64 h0.region, .int .i64 h0.after, .slice h0.ua h0.units.length h0.uc, .slice h0.sa h0.uses.length h0.sc]] W (RetH (cutH h0) W)) := fun W hk => cutWhere_any W h0 (HH.out.kept (HK0.out.trans hk)) HU.out HS.out
  have HVC : Hid (v.cells (cutT t0) = #[.slice v.ta t0.types.length v.tc, .slice v.sa t0.subs.length v.sc, .slice v.ea (cutT t0).ents.length v.ec, .slice v.ga v.gn v.gc, .slice v.ia v.im v.ic]) := rfl
  have HHC : Hid ((cutH h0).cells.toArray = #[.int .i64 h0.region, .int .i64 h0.after, .slice h0.ua (cutH h0).units.length h0.uc, .slice h0.sa (cutH h0).uses.length h0.sc]) := rfl
  obtain ⟨d0, d1, d2, d3, d4, u0, u1, u2, u3, f0, f1⟩ := HD.out w0 (Kept.refl _ _)
  have HPOST : Hid ( ∀ W W' : World, Kept [] w0 W → W' = (((((((((W.setCell ⟨w.heap.size, 0, none⟩ (.slice v.ta t0.types.length v.tc)).setCell ⟨w.heap.size, 1, none⟩ (.slice v.sa t0.subs.length v.sc)).setCell ⟨w.heap.size, 2, none⟩ (.slice v.ea (cutT t0).ents.length v.ec)).setCell ⟨w.heap.size, 3, none⟩ (.slice v.ga v.gn v.gc)).setCell ⟨w.heap.size, 4, none⟩ (.slice v.ia v.im v.ic)).setCell ⟨w.heap.size + 1, 0, none⟩ (.int .i64 h0.region)).setCell ⟨w.heap.size + 1, 1, none⟩ (.int .i64 h0.after)).setCell ⟨w.heap.size + 1, 2, none⟩ (.slice h0.ua (cutH h0).units.length h0.uc)).setCell ⟨w.heap.size + 1, 3, none⟩ (.slice h0.sa (cutH h0).uses.length h0.sc)) → (W'.heap[w.heap.size]? = some (.cells (v.cells (cutT t0)) 28 (0, 0)) ∧ W'.heap[w.heap.size + 1]? = some (.cells (cutH h0).cells.toArray 31 (0, 0)) ∧ Kept [] w W')) := fun W W' hk hW => by
      obtain ⟨p1, p2, p3⟩ := cut_stored (t := t0) (h := h0) (by omega) (hk.obj HB0.out (by simp)) (hk.obj HB1.out (by simp)) _ _ _ _ _ _ _ _ _ HVC.out HHC.out hW
      exact ⟨p1, p2, (HK0.out.trans hk).above p3 (by simp)⟩
  go_cut [] (fun wc => wc.heap[w.heap.size]? = some (.cells (v.cells (cutT t0)) 28 (0, 0)) ∧ wc.heap[w.heap.size + 1]? = some (.cells (cutH h0).cells.toArray 31 (0, 0)) ∧ Kept [] w wc)
  case first =>
    go_region_with (first
      | (go_at_call 10
         refine (HC10.out _ ?_).mono ?_
         · first
             | exact HKB.out
             | exact Kept.drew _ _
             | exact Kept.refl _ _
         rintro e wa ⟨rfl, hka⟩
         rw [HVC.out]
         have HKA : Hid (Kept [] w0 wa) := by first | exact HKB.out.trans hka | exact (Kept.drew _ _).trans hka | exact hka
         clear hka d0 d1 d2 d3 d4 u0 u1 u2 u3 f0 f1
         obtain ⟨d0, d1, d2, d3, d4, u0, u1, u2, u3, f0, f1⟩ := HD.out _ HKA.out)
      | (go_at_call 11
         refine (HC11.out _ ?_).mono ?_
         · first
             | exact HKA.out
             | exact Kept.drew _ _
             | exact Kept.refl _ _
         rintro e wb ⟨rfl, hkb⟩
         rw [HHC.out]
         have HKB : Hid (Kept [] w0 wb) := by first | exact HKA.out.trans hkb | exact (Kept.drew _ _).trans hkb | exact hkb
         clear hkb d0 d1 d2 d3 d4 u0 u1 u2 u3 f0 f1
         obtain ⟨d0, d1, d2, d3, d4, u0, u1, u2, u3, f0, f1⟩ := HD.out _ HKB.out))
    all_goals
      go_wp2_with fail
      go_meet
      exact HPOST.out _ _ HKB.out rfl

  case rest =>
    obtain ⟨hb, hb1, hkc⟩ := hcut
    have HKC := Lib.hid hkc
    have HTB : Hid (TabBox wc w.heap.size v (cutT t0)) := ⟨hb, HT.out.cut.kept hkc⟩
    have HHB : Hid (WhBox wc (w.heap.size + 1) (cutH h0)) := ⟨hb1, HH.out.cut.kept hkc⟩
    have hle := cutT_ents t0
    generalize cutT t0 = t at *
    generalize cutH h0 = h at *
    have HLE := Lib.hid hle
    clear hb hb1 hkc d0 d1 d2 d3 d4 u0 u1 u2 u3 f0 f1 HD HC10 HC11 HVC HHC HB0 HB1 HT HY HWF HH HU HS HK0
    have HD2 : Hid (∀ wx, Kept [] wc wx → (wx.cell? ⟨w.heap.size, 0, none⟩ = some (.slice v.ta t.types.length v.tc) ∧ wx.cell? ⟨w.heap.size, 1, none⟩ = some (.slice v.sa t.subs.length v.sc) ∧ wx.cell? ⟨w.heap.size, 2, none⟩ = some (.slice v.ea t.ents.length v.ec) ∧ wx.cell? ⟨w.heap.size, 3, none⟩ = some (.slice v.ga v.gn v.gc) ∧ wx.cell? ⟨w.heap.size, 4, none⟩ = some (.slice v.ia v.im v.ic) ∧ wx.cell? ⟨w.heap.size + 1, 0, none⟩ = some (.int .i64 h.region) ∧ wx.cell? ⟨w.heap.size + 1, 1, none⟩ = some (.int .i64 h.after) ∧ wx.cell? ⟨w.heap.size + 1, 2, none⟩ = some (.slice h.ua h.units.length h.uc) ∧ wx.cell? ⟨w.heap.size + 1, 3, none⟩ = some (.slice h.sa h.uses.length h.sc))) := fun W hk => by
      obtain ⟨d0, d1, d2, d3, d4⟩ := (HTB.out.kept hk).cells
      obtain ⟨u0, u1, u2, u3⟩ := (HHB.out.kept hk).cells
      exact ⟨d0, d1, d2, d3, d4, u0, u1, u2, u3⟩
    have HF12 : Hid (∀ W, Kept [] wc W → Calls Try.prog 12 #[.agg #[.slice v.ta t.types.length v.tc, .slice v.sa t.subs.length v.sc, .slice v.ea t.ents.length v.ec, .slice v.ga v.gn v.gc, .slice v.ia v.im v.ic], .int .i64 ow] W (RetI (baseR t ow) W)) := fun W hk => base_any W v t ow (HTB.out.kept hk).tab
    have HF13 : Hid (∀ W (name : ByteArray), Kept [] wc W → Calls Try.prog 13 #[.agg #[.slice v.ta t.types.length v.tc, .slice v.sa t.subs.length v.sc, .slice v.ea t.ents.length v.ec, .slice v.ga v.gn v.gc, .slice v.ia v.im v.ic], .agg #[.int .i64 h.region, .int .i64 h.after, .slice h.ua h.units.length h.uc, .slice h.sa h.uses.length h.sc], .int .i64 ow, .string name] W (RetC (selR t h ow name) W)) := fun W name hk => select_any W v t h ow name (HTB.out.kept hk).tab (HHB.out.kept hk).wh (by have := HLE.out; omega)
    obtain ⟨d0, d1, d2, d3, d4, u0, u1, u2, u3⟩ := HD2.out _ (Kept.refl _ _)
    go_upto_region 3 with (go_at_call 12; refine (HF12.out _ (Kept.refl _ _)).mono ?_; rintro e w1 ⟨rfl, hk1⟩; have HK1 := Lib.hid hk1; clear hk1)
    clear d0 d1 d2 d3 d4 u0 u1 u2 u3 HF12
    obtain ⟨p, hp⟩ : ∃ p, p = baseR t ow := ⟨_, rfl⟩
    have HP := Lib.hid hp
    rw [← hp]
    clear hp
    by_cases hneg : p < 0
    · have HNIL : Hid (selR t h ow ⟨#[97]⟩ = []) := by
        have h1 : baseR t ow = -1 := by
          refine Decidable.byContradiction fun hne => ?_
          obtain ⟨n, x, e, _⟩ := row_at (base_row hne)
          rw [← HP.out] at e
          omega
        rw [Hid, selR, if_pos h1]
      obtain ⟨d0, d1, d2, d3, d4, u0, u1, u2, u3⟩ := HD2.out _ HK1.out
      go_wp2_with (first
        | (go_at_call 13
           refine (HF13.out _ _ HK1.out).mono ?_
           rintro e w2 ⟨v2, rfl, ho, hk2⟩
           rw [HNIL.out] at ho
           obtain ⟨A2, c2, rfl⟩ : ∃ A c, v2 = .slice A 0 c := intsC_shape ho
           have HK2 := Lib.hid (HK1.out.trans hk2)
           clear ho hk2)
        | (go_at_call 14
           refine (works_any _).mono ?_
           rintro e w7 ⟨rfl, hk7⟩
           have HK7 := Lib.hid hk7
           clear hk7))
      go_ret
      exact ⟨rfl, HKC.out.trans (HK2.out.trans HK7.out)⟩
    · obtain ⟨d0, d1, d2, d3, d4, u0, u1, u2, u3⟩ := HD2.out _ HK1.out
      go_upto_region 7 with (fail)
      refine wp_gen' ?_
      intro w2 hw2
      have HK2 : Hid (Kept [] wc w2) := by rw [Hid, hw2]; exact HK1.out.trans (Kept.alloc _ _ _)
      have HIB : Hid (WhBox w2 w1.heap.size (atR h p)) := by
        have hw := (HHB.out.kept HK2.out).wh
        exact ⟨by rw [hw2]; exact obj_new rfl, hw.u, hw.u1, hw.u2, hw.s, hw.s1, hw.s2⟩
      generalize w1.heap.size = IB at *
      clear hw2 d0 d1 d2 d3 d4 u0 u1 u2 u3 HK1
      have HF13i : Hid (∀ W (name : ByteArray), Kept [] w2 W → Calls Try.prog 13 #[.agg #[.slice v.ta t.types.length v.tc, .slice v.sa t.subs.length v.sc, .slice v.ea t.ents.length v.ec, .slice v.ga v.gn v.gc, .slice v.ia v.im v.ic], .agg #[.int .i64 p, .int .i64 h.after, .slice h.ua h.units.length h.uc, .slice h.sa h.uses.length h.sc], .int .i64 ow, .string name] W (RetC (selR t (atR h p) ow name) W)) := fun W name hk => select_any W v t (atR h p) ow name (HTB.out.kept (HK2.out.trans hk)).tab (HIB.out.kept hk).wh (by have := HLE.out; omega)
      have HF13h : Hid (∀ W (name : ByteArray), Kept [] w2 W → Calls Try.prog 13 #[.agg #[.slice v.ta t.types.length v.tc, .slice v.sa t.subs.length v.sc, .slice v.ea t.ents.length v.ec, .slice v.ga v.gn v.gc, .slice v.ia v.im v.ic], .agg #[.int .i64 h.region, .int .i64 h.after, .slice h.ua h.units.length h.uc, .slice h.sa h.uses.length h.sc], .int .i64 ow, .string name] W (RetC (selR t h ow name) W)) := fun W name hk => HF13.out W name (HK2.out.trans hk)
      have HD3 : Hid (∀ wx, Kept [] w2 wx → (wx.cell? ⟨w.heap.size, 0, none⟩ = some (.slice v.ta t.types.length v.tc) ∧ wx.cell? ⟨w.heap.size, 1, none⟩ = some (.slice v.sa t.subs.length v.sc) ∧ wx.cell? ⟨w.heap.size, 2, none⟩ = some (.slice v.ea t.ents.length v.ec) ∧ wx.cell? ⟨w.heap.size, 3, none⟩ = some (.slice v.ga v.gn v.gc) ∧ wx.cell? ⟨w.heap.size, 4, none⟩ = some (.slice v.ia v.im v.ic) ∧ wx.cell? ⟨w.heap.size + 1, 0, none⟩ = some (.int .i64 h.region) ∧ wx.cell? ⟨w.heap.size + 1, 1, none⟩ = some (.int .i64 h.after) ∧ wx.cell? ⟨w.heap.size + 1, 2, none⟩ = some (.slice h.ua h.units.length h.uc) ∧ wx.cell? ⟨w.heap.size + 1, 3, none⟩ = some (.slice h.sa h.uses.length h.sc) ∧ wx.cell? ⟨IB, 0, none⟩ = some (.int .i64 p) ∧ wx.cell? ⟨IB, 1, none⟩ = some (.int .i64 h.after) ∧ wx.cell? ⟨IB, 2, none⟩ = some (.slice h.ua h.units.length h.uc) ∧ wx.cell? ⟨IB, 3, none⟩ = some (.slice h.sa h.uses.length h.sc))) := fun W hk => by
        obtain ⟨d0, d1, d2, d3, d4, u0, u1, u2, u3⟩ := HD2.out W (HK2.out.trans hk)
        obtain ⟨i0, i1, i2, i3⟩ := (HIB.out.kept hk).cells
        exact ⟨d0, d1, d2, d3, d4, u0, u1, u2, u3, i0, i1, i2, i3⟩
      have HTB2 : Hid (TabBox w2 w.heap.size v t) := HTB.out.kept HK2.out
      clear HF13 HD2 HTB HHB HPOST
      obtain ⟨d0, d1, d2, d3, d4, u0, u1, u2, u3, i0, i1, i2, i3⟩ := HD3.out _ (Kept.refl _ _)
      go_wp2_with fail
      clear d0 d1 d2 d3 d4 u0 u1 u2 u3 i0 i1 i2 i3
      go_loopw [38] (fun i wr => ∃ k : Nat, k ≤ t.ents.length ∧ i = .int .i64 k ∧ Kept [] w2 wr) (fun i _ => t.ents.length - (intOf i).toNat)
      case atStart => exact ⟨0, Nat.zero_le _, rfl, Kept.refl _ _⟩
      case round =>
        obtain ⟨k, hk, rfl, hkr⟩ := hrel
        have HKR := Lib.hid hkr
        clear hkr
        obtain ⟨wo, rfl⟩ : ∃ wo : World, wo = wr := ⟨_, rfl⟩
        obtain ⟨wz, rfl⟩ : ∃ wz : World, wz = wc := ⟨_, rfl⟩
        obtain ⟨d0, d1, d2, d3, d4, u0, u1, u2, u3, i0, i1, i2, i3⟩ := HD3.out _ HKR.out
        by_cases hlt : k < t.ents.length
        · obtain ⟨x, hx⟩ : ∃ x, t.ents[k]? = some x := ⟨_, List.getElem?_eq_getElem hlt⟩
          obtain ⟨b, o, hea, hr⟩ := (HTB2.out.kept HKR.out).tab.es.some_ hx
          have HX := Lib.hid hx
          have HEA := Lib.hid hea
          haveI : EntAt wo b (o + k * 22) x := ⟨hr k x hx⟩
          rw [hea] at d2
          clear hr hx hea
          go_upto_region 11 with (fail)
          refine wp_gen' ?_
          intro w3 hw3
          have HK3 : Hid (Kept [] w2 w3) := by rw [Hid, hw3]; exact HKR.out.trans (Kept.alloc _ _ _)
          have HXB : Hid (w3.heap[wo.heap.size]? = some (.cells x.cells.toArray 43 (0, 0))) := by rw [Hid, hw3]; exact heap_alloc_new _ _
          generalize wo.heap.size = XB at *
          clear hw3 d0 d1 d2 d3 d4 u0 u1 u2 u3 i0 i1 i2 i3 HKR
          obtain ⟨d0, d1, d2, d3, d4, u0, u1, u2, u3, i0, i1, i2, i3⟩ := HD3.out _ HK3.out
          have x1 := ent_cell (x := x) HXB.out 1 rfl
          go_upto_region 12 with (go_at_call 13; refine (HF13i.out _ _ HK3.out).mono ?_; rintro e w4 ⟨v4, rfl, ho, hk4⟩; obtain ⟨A4, c4, rfl⟩ := intsC_shape ho; have HI4 := Lib.hid ho.at_; have HK4 := Lib.hid (HK3.out.trans hk4); have HXB4 := Lib.hid (hk4.obj HXB.out (by simp)); clear ho hk4)
          clear d0 d1 d2 d3 d4 u0 u1 u2 u3 i0 i1 i2 i3 x1 HK3 HXB
          go_cut [76] (fun v76 wc => v76 = .bool false ∧ Kept [] w4 wc)
          case first =>
            obtain ⟨d0, d1, d2, d3, d4, u0, u1, u2, u3, i0, i1, i2, i3⟩ := HD3.out _ HK4.out
            have x1 := ent_cell (x := x) HXB4.out 1 rfl
            have x2 := ent_cell (x := x) HXB4.out 2 rfl
            cases e1 : (x.owner == p)
            · go_wp2_with fail
              go_meet
              exact ⟨rfl, Kept.refl _ _⟩
            · cases e2 : (p != 0)
              · go_wp2_with fail
                go_meet
                exact ⟨rfl, Kept.refl _ _⟩
              · cases e3 : decide ((k : Int) < h.after)
                · go_wp2_with fail
                  go_meet
                  exact ⟨rfl, Kept.refl _ _⟩
                · cases e4 : x.name.toList.isEmpty
                  · have HIN : Hid (hasI (selR t (atR h p) ow x.name) k = true) := by
                      have hb0 : baseR t ow ≠ -1 := by rw [← HP.out]; omega
                      have h1 := sel_in (h := h) (x := x) (k := k) hb0 (by rw [← HP.out]; simpa using e2) HX.out (by rw [← HP.out]; simpa using e1) (by simpa using e3) e4
                      rw [← HP.out] at h1
                      exact h1
                    have HC15 := Lib.hid (in_any w4 A4 c4 (selR t (atR h p) ow x.name) k HI4.out.2.2.1 HI4.out.2.2.2.1 HI4.out.2.1)
                    rw [HIN.out] at HC15
                    go_wp2_with (go_at_call 15; refine HC15.out.mono ?_; rintro e w5 ⟨rfl, hk5⟩; have HK5 := Lib.hid hk5; clear hk5)
                    go_meet
                    exact ⟨rfl, HK5.out⟩
                  · go_wp2_with fail
                    go_meet
                    exact ⟨rfl, Kept.refl _ _⟩
          case rest =>
            obtain ⟨rfl, hcut⟩ := hcut
            obtain ⟨w5, rfl⟩ : ∃ w5 : World, w5 = wc := ⟨_, rfl⟩
            have HK5 := Lib.hid (HK4.out.trans hcut)
            have HI5 : Hid (IntsIn w5 A4 (selR t (atR h p) ow x.name)) := HI4.out.2.1.kept hcut
            have HC4 : Hid ((selR t (atR h p) ow x.name).length ≤ c4 ∧ c4 ≤ 9223372036854775807) := ⟨HI4.out.2.2.1, HI4.out.2.2.2.1⟩
            have HXB5 := Lib.hid (hcut.obj HXB4.out (by simp))
            clear hcut HXB4 HI4 HK4
            obtain ⟨d0, d1, d2, d3, d4, u0, u1, u2, u3, i0, i1, i2, i3⟩ := HD3.out _ HK5.out
            have x1 := ent_cell (x := x) HXB5.out 1 rfl
            go_wp2_with (go_at_call 13; refine (HF13h.out _ _ HK5.out).mono ?_; rintro e w6 ⟨v6, rfl, ho, hk6⟩; obtain ⟨A6, c6, rfl⟩ := intsC_shape ho; have HI6 := Lib.hid ho.at_; have HK6 := Lib.hid (HK5.out.trans hk6); have HI7 := Lib.hid (HI5.out.kept hk6); clear ho hk6)
            clear d0 d1 d2 d3 d4 u0 u1 u2 u3 i0 i1 i2 i3 x1 HK5 HXB5 HI5
            have HLL : Hid (∀ a, a ∈ selR t h ow x.name → ∃ (q : Nat) (y : EntV), a = (q : Int) ∧ t.ents[q]? = some y ∧ y.owner = p ∧ (p ≠ 0 → hasI (selR t (atR h p) ow x.name) a = true)) := fun a ha => by
              obtain ⟨q, y, e, hy, ho⟩ := sel_own ha
              refine ⟨q, y, e, hy, ho.trans HP.out.symm, fun h0 => ?_⟩
              have := sel_both (t := t) (h := h) (u := ow) (by rw [← HP.out]; omega) (by rw [← HP.out]; exact h0) ha
              rw [← HP.out] at this
              exact this
            generalize selR t h ow x.name = L at *
            generalize selR t (atR h p) ow x.name = L2 at *
            rcases HI6.out.2.1 with h0 | ⟨b6, o6, ha6, hc6⟩
            · have hL : L.length = 0 := by rw [h0]; rfl
              rw [hL]
              clear h0 hL
              go_loopw [84] (fun i wr => i = .int .i64 0 ∧ Kept [] w2 wr) (fun i _ => 0)
              case atStart => exact ⟨rfl, HK6.out⟩
              case round =>
                obtain ⟨rfl, hkr⟩ := hrel
                have HKS := Lib.hid hkr
                clear hkr
                go_wp2_with fail
                go_roundw
                case rel => exact ⟨k + 1, by omega, by go_num, HKS.out⟩
                case measure => simp [intOf]; omega
            · have HC6 := Lib.hid hc6
              have HLN : Hid (L.length ≤ c6 ∧ c6 ≤ 9223372036854775807) := ⟨HI6.out.2.2.1, HI6.out.2.2.2.1⟩
              have hl6 : L.length ≤ c6 := HLN.out.1
              have hm6 : c6 ≤ 9223372036854775807 := HLN.out.2
              rw [ha6]
              clear ha6 hc6
              go_loopw [84] (fun i wr => ∃ j : Nat, j ≤ L.length ∧ i = .int .i64 j ∧ Kept [] w6 wr) (fun i _ => L.length - (intOf i).toNat)
              case atStart => exact ⟨0, Nat.zero_le _, rfl, Kept.refl _ _⟩
              case round =>
                obtain ⟨j, hj, rfl, hkr⟩ := hrel
                have HKS := Lib.hid hkr
                clear hkr
                obtain ⟨wi, rfl⟩ : ∃ wi : World, wi = wr := ⟨_, rfl⟩
                by_cases hjt : j < L.length
                · obtain ⟨a, ha⟩ : ∃ a, L[j]? = some a := ⟨_, List.getElem?_eq_getElem hjt⟩
                  have c6j := HKS.out.cell (HC6.out j a ha) (by simp)
                  obtain ⟨q, y, rfl, hy, hyo, hin⟩ := HLL.out a (List.mem_of_getElem? ha)
                  have HIN := Lib.hid hin
                  clear hin ha
                  obtain ⟨d0, d1, d2, d3, d4, u0, u1, u2, u3, i0, i1, i2, i3⟩ := HD3.out _ (HK6.out.trans HKS.out)
                  obtain ⟨b, o, hea, hr⟩ := (HTB2.out.kept (HK6.out.trans HKS.out)).tab.es.some_ hy
                  have y2 : wi.cell? ⟨b, o + q * 22 + 2, none⟩ = some (.int .i64 p) := by
                    rw [← hyo]
                    exact hr q y hy 2 _ rfl
                  have hq : q < t.ents.length := (List.getElem?_eq_some_iff.1 hy).1
                  rw [hea] at d2
                  have HY2 := Lib.hid y2
                  have HD2 := Lib.hid d2
                  clear hr hy hyo hea
                  cases e5 : (p != 0)
                  · go_wp2_with fail
                    go_roundw
                    case rel => exact ⟨j + 1, by omega, by go_num, HKS.out⟩
                    case measure => simp [intOf]; omega
                  · have HC15 := Lib.hid (in_any wi A4 c4 L2 (q : Int) HC4.out.1 HC4.out.2 (HI7.out.kept HKS.out))
                    rw [HIN.out (by simpa using e5)] at HC15
                    clear y2 d2
                    go_wp2_with (go_at_call 15; refine HC15.out.mono ?_; rintro e w7 ⟨rfl, hk7⟩; have HK7 := Lib.hid (HKS.out.trans hk7); have y2 := hk7.cell HY2.out (by simp); have d2 := hk7.cell HD2.out (by simp); clear hk7)
                    go_roundw
                    case rel => exact ⟨j + 1, by omega, by go_num, HK7.out⟩
                    case measure => simp [intOf]; omega
                · go_wp2_with fail
                  go_roundw
                  case rel => exact ⟨k + 1, by omega, by go_num, HK6.out.trans HKS.out⟩
                  case measure => simp [intOf]; omega
        · clear d0 d1 d2 d3 d4 u0 u1 u2 u3 i0 i1 i2 i3
          go_wp2_with (go_at_call 14; refine (works_any _).mono ?_; rintro e w7 ⟨rfl, hk7⟩; have HK7 := Lib.hid hk7; clear hk7)
          go_ret
          exact ⟨rfl, HKC.out.trans (HK2.out.trans (HKR.out.trans HK7.out))⟩
end Go.Proofs.Ytlgcboaojdhneaa
