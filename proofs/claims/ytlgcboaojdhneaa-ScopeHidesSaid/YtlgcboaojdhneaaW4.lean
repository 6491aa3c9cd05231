/- ScopeHides' walk. -/
import Derived.Test.YtlgcboaojdhneaaW18
import Derived.Test.YtlgcboaojdhneaaK7
namespace Go.Proofs.Ytlgcboaojdhneaa
open Go.RowKit

theorem drew_obj {W : World} {k : Nat} {x : Option Obj} (h : W.heap[k]? = x) : W.drew.heap[k]? = x := h
/-- What is known of one that is found. -/
structure FoundAt (t : Tab) (h : WhV) (name : ByteArray) (a : Int) (q : Nat) (x : EntV) : Prop where
  e : a = (q : Int)
  row : t.ents[q]? = some x
  n1 : name.toList.isEmpty = false
  n2 : (x.name.toList == name.toList) = true
  lt : (q : Int) < h.after
  out : insideR t h.region x.owner = false → x.part = 0 ∧ ∃ (k : Nat) (y : EntV), x.owner = (k : Int) ∧ t.ents[k]? = some y ∧ y.kind = 2
theorem found_at {t : Tab} {h : WhV} {name : ByteArray} {a : Int} (ha : a ∈ findR t h name) : ∃ q x, FoundAt t h name a q x := by
  obtain ⟨q, x, rfl, hx, n1, n2, hl⟩ := all_facts (find_all ha)
  refine ⟨q, x, rfl, hx, n1, n2, hl, fun hi => ?_⟩
  have := find_out ha
  rw [(row_some hx).2] at this
  exact this hi
/-- What the stage's theorem says of two that are found. -/
def Hiding (t : Tab) (h : WhV) (L : List Int) : Prop := ∀ (a b : Int), a ∈ L → b ∈ L → a ≠ b → homI t a b = true → ((rowE t a).owner = 0 ∨ insideR t h.region (rowE t a).owner = false) ∧ ((rowE t b).owner = 0 ∨ insideR t h.region (rowE t b).owner = false) ∧ (rowE t a).owner ≠ (rowE t b).owner ∧ ovl (rowE t a) = true ∧ ovl (rowE t b) = true

set_option maxRecDepth 100000 in
set_option maxHeartbeats 4000000 in
theorem hides_any (w : World) (v : TabV) (t0 : Tab) (h0 : WhV) (name : ByteArray) (hT : TabIn w v t0) (hY : TypIn w v t0) (hwf : ∀ x, x ∈ t0.ents → (Lit.int .i64 x.owner).wf = true) (hH : WhIn w h0) (hu : h0.ua = none → h0.uc = 0) (hsa : h0.sa = none → h0.sc = 0) (_ : name.size ≤ 140737488355328) :
    Calls Try.prog 4 #[.agg (v.cells t0), .agg h0.cells.toArray, .string name] w (RetB true w) := by

  have HT := Lib.hid hT
  have HY := Lib.hid hY
  have HWF := Lib.hid hwf
  have HH := Lib.hid hH
  have HU := Lib.hid hu
  have HS := Lib.hid hsa
  have HV0 : Hid (v.cells t0 = #[.slice v.ta t0.types.length v.tc, .slice v.sa t0.subs.length v.sc, .slice v.ea t0.ents.length v.ec, .slice v.ga v.gn v.gc, .slice v.ia v.im v.ic]) := rfl
  clear hT hY hwf hH hu hsa
  rw [HV0.out]
  unfold WhV.cells
  go_enter Try.func4, Try.ntmps4
  go_upto_region 1 with (fail)
  refine wp_gen' ?_
  intro w0 hw0
  have HK0 : Hid (Kept [] w w0) := by rw [Hid, hw0]; exact (Kept.alloc _ _ _).trans (Kept.alloc _ _ _)
  have HB0 : Hid (w0.heap[w.heap.size]? = some (.cells (v.cells t0) 28 (0, 0))) := by rw [Hid, hw0]; exact obj_old (obj_new rfl) (by simp)
  have HB1 : Hid (w0.heap[w.heap.size + 1]? = some (.cells h0.cells.toArray 31 (0, 0))) := by rw [Hid, hw0]; exact obj_new (by simp)
  clear hw0
  have HD : Hid (∀ W, Kept [] w0 W → (W.cell? ⟨w.heap.size, 0, none⟩ = some (.slice v.ta t0.types.length v.tc) ∧ W.cell? ⟨w.heap.size, 1, none⟩ = some (.slice v.sa t0.subs.length v.sc) ∧ W.cell? ⟨w.heap.size, 2, none⟩ = some (.slice v.ea t0.ents.length v.ec) ∧ W.cell? ⟨w.heap.size, 3, none⟩ = some (.slice v.ga v.gn v.gc) ∧ W.cell? ⟨w.heap.size, 4, none⟩ = some (.slice v.ia v.im v.ic) ∧ W.cell? ⟨w.heap.size + 1, 0, none⟩ = some (.int .i64 h0.region) ∧ W.cell? ⟨w.heap.size + 1, 1, none⟩ = some (.int .i64 h0.after) ∧ W.cell? ⟨w.heap.size + 1, 2, none⟩ = some (.slice h0.ua h0.units.length h0.uc) ∧ W.cell? ⟨w.heap.size + 1, 3, none⟩ = some (.slice h0.sa h0.uses.length h0.sc) ∧ (∀ j, W.frozen? ⟨w.heap.size, j, none⟩ = false) ∧ (∀ j, W.frozen? ⟨w.heap.size + 1, j, none⟩ = false))) := fun W hk => by
    have hb0 := hk.obj HB0.out (by simp)
    have hb1 := hk.obj HB1.out (by simp)
    have c0 : ∀ j, W.cell? ⟨w.heap.size, j, none⟩ = (v.cells t0)[j]? := fun j => cell_of_row _ _ _ _ _ _ hb0
    have c1 : ∀ j, W.cell? ⟨w.heap.size + 1, j, none⟩ = h0.cells.toArray[j]? := fun j => cell_of_row _ _ _ _ _ _ hb1
    exact ⟨c0 0, c0 1, c0 2, c0 3, c0 4, c1 0, c1 1, c1 2, c1 3, row_frozen hb0, row_frozen hb1⟩
  have HC10 : Hid (∀ W, Kept [] w0 W → Calls Try.prog 10 #[.agg #[.slice v.ta t0.types.length v.tc, .slice v.sa t0.subs.length v.sc, .slice v.ea t0.ents.length v.ec, .slice v.ga v.gn v.gc, .slice v.ia v.im v.ic]] W (RetT v (cutT t0) W)) := fun W hk => by
    have := cut_any W v t0 (HT.out.kept (HK0.out.trans hk))
    rw [HV0.out] at this
    exact this
  have HC11 : Hid (∀ W, Kept [] w0 W → Calls Try.prog 11 #[.agg #[.int .i64 h0.region, .int .i64 h0.after, .slice h0.ua h0.units.length h0.uc, .slice h0.sa h0.uses.length h0.sc]] W (RetH (cutH h0) W)) := fun W hk => cutWhere_any W h0 (HH.out.kept (HK0.out.trans hk)) HU.out HS.out
  have HVC : Hid (v.cells (cutT t0) = #[.slice v.ta t0.types.length v.tc, .slice v.sa t0.subs.length v.sc, .slice v.ea (cutT t0).ents.length v.ec, .slice v.ga v.gn v.gc, .slice v.ia v.im v.ic]) := rfl
  have HHC : Hid ((cutH h0).cells.toArray = #[.int .i64 h0.region, .int .i64 h0.after, .slice h0.ua (cutH h0).units.length h0.uc, .slice h0.sa (cutH h0).uses.length h0.sc]) := rfl
  obtain ⟨d0, d1, d2, d3, d4, u0, u1, u2, u3, f0, f1⟩ := HD.out w0 (Kept.refl _ _)
  have HPOST : Hid ( ∀ W W' : World, Kept [] w0 W → W' = (((((((((W.setCell ⟨w.heap.size, 0, none⟩ (.slice v.ta t0.types.length v.tc)).setCell ⟨w.heap.size, 1, none⟩ (.slice v.sa t0.subs.length v.sc)).setCell ⟨w.heap.size, 2, none⟩ (.slice v.ea (cutT t0).ents.length v.ec)).setCell ⟨w.heap.size, 3, none⟩ (.slice v.ga v.gn v.gc)).setCell ⟨w.heap.size, 4, none⟩ (.slice v.ia v.im v.ic)).setCell ⟨w.heap.size + 1, 0, none⟩ (.int .i64 h0.region)).setCell ⟨w.heap.size + 1, 1, none⟩ (.int .i64 h0.after)).setCell ⟨w.heap.size + 1, 2, none⟩ (.slice h0.ua (cutH h0).units.length h0.uc)).setCell ⟨w.heap.size + 1, 3, none⟩ (.slice h0.sa (cutH h0).uses.length h0.sc)) → (W'.heap[w.heap.size]? = some (.cells (v.cells (cutT t0)) 28 (0, 0)) ∧ W'.heap[w.heap.size + 1]? = some (.cells (cutH h0).cells.toArray 31 (0, 0)) ∧ Kept [] w W')) := fun W W' hk hW => by
      obtain ⟨p1, p2, p3⟩ := cut_stored (t := t0) (h := h0) (by omega) (hk.obj HB0.out (by simp)) (hk.obj HB1.out (by simp)) _ _ _ _ _ _ _ _ _ HVC.out HHC.out hW
      exact ⟨p1, p2, (HK0.out.trans hk).above p3 (by simp)⟩
  go_cut [] (fun wc => wc.heap[w.heap.size]? = some (.cells (v.cells (cutT t0)) 28 (0, 0)) ∧ wc.heap[w.heap.size + 1]? = some (.cells (cutH h0).cells.toArray 31 (0, 0)) ∧ Kept [] w wc)
  case first =>
    go_region_with (first
      | (go_at_call 10
         refine (HC10.out _ ?_).mono ?_
         · first
             | exact HKB.out
             | exact Kept.drew _ _
             | exact Kept.refl _ _
         rintro e wa ⟨rfl, hka⟩
         rw [HVC.out]
         have HKA : Hid (Kept [] w0 wa) := by first | exact HKB.out.trans hka | exact (Kept.drew _ _).trans hka | exact hka
         clear hka d0 d1 d2 d3 d4 u0 u1 u2 u3 f0 f1
         obtain ⟨d0, d1, d2, d3, d4, u0, u1, u2, u3, f0, f1⟩ := HD.out _ HKA.out)
      | (go_at_call 11
         refine (HC11.out _ ?_).mono ?_
         · first
             | exact HKA.out
             | exact Kept.drew _ _
             | exact Kept.refl _ _
         rintro e wb ⟨rfl, hkb⟩
         rw [HHC.out]
         have HKB : Hid (Kept [] w0 wb) := by first | exact HKA.out.trans hkb | exact (Kept.drew _ _).trans hkb | exact hkb
         clear hkb d0 d1 d2 d3 d4 u0 u1 u2 u3 f0 f1
         obtain ⟨d0, d1, d2, d3, d4, u0, u1, u2, u3, f0, f1⟩ := HD.out _ HKB.out))
    all_goals
      go_wp2_with fail
      go_meet
      exact HPOST.out _ _ HKB.out rfl

  case rest =>
    obtain ⟨hb, hb1, hkc⟩ := hcut
    have HKC := Lib.hid hkc
    have HTB : Hid (TabBox wc w.heap.size v (cutT t0)) := ⟨hb, HT.out.cut.kept hkc⟩
    have HHB : Hid (WhBox wc (w.heap.size + 1) (cutH h0)) := ⟨hb1, HH.out.cut.kept hkc⟩
    have HLE := Lib.hid (cutT_ents t0)
    have HLU := Lib.hid (cutH_uses h0)
    have HW2 : Hid (∀ x, x ∈ (cutT t0).ents → (Lit.int .i64 x.owner).wf = true) := fun x hx => HWF.out x (List.mem_of_mem_take hx)
    have hle := cutT_ents t0
    generalize cutT t0 = t at *
    generalize cutH h0 = h at *
    clear hb hb1 hkc d0 d1 d2 d3 d4 u0 u1 u2 u3 f0 f1 HD HC10 HC11 HVC HHC HB0 HB1 HT HY HWF HH HU HS HK0 HPOST
    have HD2 : Hid (∀ wx, Kept [] wc wx → (wx.cell? ⟨w.heap.size, 0, none⟩ = some (.slice v.ta t.types.length v.tc) ∧ wx.cell? ⟨w.heap.size, 1, none⟩ = some (.slice v.sa t.subs.length v.sc) ∧ wx.cell? ⟨w.heap.size, 2, none⟩ = some (.slice v.ea t.ents.length v.ec) ∧ wx.cell? ⟨w.heap.size, 3, none⟩ = some (.slice v.ga v.gn v.gc) ∧ wx.cell? ⟨w.heap.size, 4, none⟩ = some (.slice v.ia v.im v.ic) ∧ wx.cell? ⟨w.heap.size + 1, 0, none⟩ = some (.int .i64 h.region) ∧ wx.cell? ⟨w.heap.size + 1, 1, none⟩ = some (.int .i64 h.after) ∧ wx.cell? ⟨w.heap.size + 1, 2, none⟩ = some (.slice h.ua h.units.length h.uc) ∧ wx.cell? ⟨w.heap.size + 1, 3, none⟩ = some (.slice h.sa h.uses.length h.sc))) := fun W hk => by
      obtain ⟨d0, d1, d2, d3, d4⟩ := (HTB.out.kept hk).cells
      obtain ⟨u0, u1, u2, u3⟩ := (HHB.out.kept hk).cells
      exact ⟨d0, d1, d2, d3, d4, u0, u1, u2, u3⟩
    have HF16 : Hid (∀ W, Kept [] wc W → Calls Try.prog 16 #[.agg #[.slice v.ta t.types.length v.tc, .slice v.sa t.subs.length v.sc, .slice v.ea t.ents.length v.ec, .slice v.ga v.gn v.gc, .slice v.ia v.im v.ic], .agg #[.int .i64 h.region, .int .i64 h.after, .slice h.ua h.units.length h.uc, .slice h.sa h.uses.length h.sc], .string name] W (RetO (findR t h name) W)) := fun W hk => find_at W v t h name (HTB.out.kept hk).tab (HHB.out.kept hk).wh (by have := HLE.out; omega) (by have := HLU.out; omega) HW2.out
    have HF17 : Hid (∀ W (o : Int), Kept [] wc W → Calls Try.prog 17 #[.agg #[.slice v.ta t.types.length v.tc, .slice v.sa t.subs.length v.sc, .slice v.ea t.ents.length v.ec, .slice v.ga v.gn v.gc, .slice v.ia v.im v.ic], .int .i64 h.region, .int .i64 o] W (RetB (insideR t h.region o) W)) := fun W o hk => inside_any W v t h.region o (HTB.out.kept hk).tab
    have HF18 : Hid (∀ W, Kept [] wc W → Calls Try.prog 18 #[.agg #[.slice v.ta t.types.length v.tc, .slice v.sa t.subs.length v.sc, .slice v.ea t.ents.length v.ec, .slice v.ga v.gn v.gc, .slice v.ia v.im v.ic]] W (RetTidy t W)) := fun W hk => tidy_any W v t (HTB.out.kept hk).tab (by have := HLE.out; omega)
    have HF19 : Hid (∀ W (a b : Int), Kept [] wc W → Calls Try.prog 19 #[.agg #[.slice v.ta t.types.length v.tc, .slice v.sa t.subs.length v.sc, .slice v.ea t.ents.length v.ec, .slice v.ga v.gn v.gc, .slice v.ia v.im v.ic], .int .i64 a, .int .i64 b] W (RetB (homI t a b) W)) := fun W a b hk => homographsI_any W v t a b (HTB.out.kept hk).tab
    obtain ⟨d0, d1, d2, d3, d4, u0, u1, u2, u3⟩ := HD2.out _ (Kept.refl _ _)
    go_upto_region 3 with (go_at_call 16; refine (HF16.out _ (Kept.refl _ _)).mono ?_; rintro e w1 ⟨v1, rfl, ho1, hk1⟩; obtain ⟨A1, c1, rfl⟩ := own_shape ho1; have HI1 := Lib.hid ((IntsC.of_owns ho1).at_); have HK1 := Lib.hid hk1; clear ho1 hk1)
    clear d0 d1 d2 d3 d4 u0 u1 u2 u3 HF16
    have HFA : Hid (∀ a, a ∈ findR t h name → ∃ q x, FoundAt t h name a q x) := fun a ha => found_at ha
    have HST : Hid (∀ (k : Nat) (a b : Int), (findR t h name)[k]? = some a → (findR t h name)[k + 1]? = some b → a < b) := fun k a b ha hb => find_step ha hb
    have HTH : Hid (Tidy t → Hiding t h (findR t h name)) := fun hT a b ha hb hne hh => find_hides hT ha hb hne hh
    generalize findR t h name = L at *
    have hl1 : L.length ≤ c1 := HI1.out.2.2.1
    have hm1 : c1 ≤ 9223372036854775807 := HI1.out.2.2.2.1
    obtain ⟨wz, rfl⟩ : ∃ wz : World, wz = wc := ⟨_, rfl⟩
    go_wp2_with fail
    go_loopw [29] (fun i wr => ∃ k : Nat, k ≤ L.length ∧ i = .int .i64 k ∧ Kept [] w1 wr) (fun i _ => L.length - (intOf i).toNat)
    case atStart => exact ⟨0, Nat.zero_le _, rfl, Kept.refl _ _⟩
    case round =>
      obtain ⟨j, hj, rfl, hkr⟩ := hrel
      have HKR := Lib.hid hkr
      clear hkr
      obtain ⟨wo, rfl⟩ : ∃ wo : World, wo = wr := ⟨_, rfl⟩
      by_cases hjt : j < L.length
      · obtain ⟨a, ha⟩ : ∃ a, L[j]? = some a := ⟨_, List.getElem?_eq_getElem hjt⟩
        rcases HI1.out.2.1 with e0 | ⟨b1, o1, rfl, hc1⟩
        · rw [e0] at hjt; simp at hjt
        · have cj := HKR.out.cell (hc1 j a ha) (by simp)
          obtain ⟨q, x, hfa⟩ := HFA.out a (List.mem_of_getElem? ha)
          obtain ⟨rfl, hx, n1, n2, hlt, hout⟩ := hfa
          have HX := Lib.hid hx
          have HOUT := Lib.hid hout
          have hq : q < t.ents.length := (List.getElem?_eq_some_iff.1 hx).1
          have HK2 : Hid (Kept [] wz wo) := HK1.out.trans HKR.out
          obtain ⟨d0, d1, d2, d3, d4, u0, u1, u2, u3⟩ := HD2.out _ HK2.out
          obtain ⟨b, o, hea, hr⟩ := (HTB.out.kept HK2.out).tab.es.some_ hx
          have HEA := Lib.hid hea
          have HRZ : Hid (∀ (k : Nat) (r : EntV), t.ents[k]? = some r → wz.rangeAt b (o + k * 22) r.cells) := by
            obtain ⟨b', o', hea', hr'⟩ := HTB.out.tab.es.some_ hx
            rw [hea] at hea'
            cases hea'
            exact hr'
          have x1 : wo.cell? ⟨b, o + q * 22 + 1, none⟩ = some (.string x.name) := hr q x hx 1 _ rfl
          haveI ie : EntAt wo b (o + q * 22) x := ⟨hr q x hx⟩
          have hqq : decide ((q : Int) < 0) = false := by simp
          have hqa : decide (t.ents.length ≤ q) = false := by simp; omega
          have hqb : decide (h.after ≤ (q : Int)) = false := by simp; omega
          rw [hea] at d2
          have HPREV : Hid (∀ m, j = m + 1 → ∃ a0 : Int, wo.cell? ⟨b1, o1 + m, none⟩ = some (.int .i64 a0) ∧ a0 < (q : Int)) := fun m hm => by
            obtain ⟨a0, ha0⟩ : ∃ a0, L[m]? = some a0 := ⟨_, List.getElem?_eq_getElem (by omega)⟩
            refine ⟨a0, HKR.out.cell (hc1 m a0 ha0) (by simp), ?_⟩
            subst hm
            exact HST.out m a0 q ha0 ha
          clear hx hout hea hr hc1 ha
          go_upto_region 6 with (fail)
          clear cj
          go_cut [75] (fun v75 wc => v75 = .bool false ∧ wc = wo)
          case first =>
            rcases j with _ | m
            · go_wp2_with fail
              go_meet
              exact ⟨rfl, rfl⟩
            · obtain ⟨a0, c0, hlt0⟩ := HPREV.out m rfl
              have hqc : decide ((q : Int) ≤ a0) = false := by simp; omega
              go_wp2_with fail
              go_meet
              exact ⟨rfl, rfl⟩
          case rest =>
            obtain ⟨rfl, rfl⟩ := hcut
            clear hqq hqa hqb
            go_upto_region 9 with (fail)
            refine wp_gen' ?_
            intro w3 hw3
            have HK3 : Hid (Kept [] wz w3) := by rw [Hid, hw3]; exact HK2.out.trans (Kept.alloc _ _ _)
            have HK31 : Hid (Kept [] w1 w3) := by rw [Hid, hw3]; exact HKR.out.trans (Kept.alloc _ _ _)
            have HXB : Hid (w3.heap[wc.heap.size]? = some (.cells x.cells.toArray 43 (0, 0))) := by rw [Hid, hw3]; exact heap_alloc_new _ _
            generalize wc.heap.size = XB at *
            clear hw3 d0 d1 d2 d3 d4 u0 u1 u2 u3 x1 ie
            obtain ⟨d0, d1, d2, d3, d4, u0, u1, u2, u3⟩ := HD2.out _ HK3.out
            have x2 := ent_cell (x := x) HXB.out 2 rfl
            go_upto_region 10 with (go_at_call 17; refine (HF17.out _ _ HK3.out).mono ?_; rintro e w4 ⟨rfl, hk4⟩; have HK4 := Lib.hid (HK3.out.trans hk4); have HK41 := Lib.hid (HK31.out.trans hk4); have HXB4 := Lib.hid (hk4.obj HXB.out (by simp)); clear hk4)
            clear d0 d1 d2 d3 d4 u0 u1 u2 u3 x2 HXB
            cases hin : insideR t h.region x.owner
            · obtain ⟨hp, k2, y, ho, hy, hyk⟩ := HOUT.out hin
              obtain ⟨d0, d1, d2, d3, d4, u0, u1, u2, u3⟩ := HD2.out _ HK4.out
              have x2 := ent_cell (x := x) HXB4.out 2 rfl
              have x3 := ent_cell (x := x) HXB4.out 3 rfl
              have y0 : w4.cell? ⟨b, o + k2 * 22, none⟩ = some (.int .u8 y.kind) := HK4.out.cell (HRZ.out k2 y hy 0 _ rfl) (by simp)
              have hk2 : k2 < t.ents.length := (List.getElem?_eq_some_iff.1 hy).1
              rw [ho] at x2
              rw [hp] at x3
              rw [hyk] at y0
              rw [HEA.out] at d2
              clear hy
              go_wp2_with fail
              go_roundw
              case rel => exact ⟨j + 1, by omega, by go_num, HK41.out⟩
              case measure => simp [intOf]; omega
            · go_wp2_with fail
              go_roundw
              case rel => exact ⟨j + 1, by omega, by go_num, HK41.out⟩
              case measure => simp [intOf]; omega
      · have hjl : j = L.length := by omega
        have HKW : Hid (Kept [] wz wo) := HK1.out.trans HKR.out
        obtain ⟨d0, d1, d2, d3, d4, u0, u1, u2, u3⟩ := HD2.out _ HKW.out
        go_upto_region 13 with (fail)
        clear hjt hj hjl
        go_upto_if 107 with (go_at_call 18; refine (HF18.out _ HKW.out).mono ?_; rintro e w2 ⟨bt, rfl, hti, hk2⟩; have HTI := Lib.hid hti; have HK2 := Lib.hid (HKW.out.trans hk2); have HK21 := Lib.hid (HKR.out.trans hk2); clear hti hk2)
        clear d0 d1 d2 d3 d4 u0 u1 u2 u3 HKW HKR
        cases bt
        · clear HTI
          go_wp2_with (go_at_call 14; refine (works_any _).mono ?_; rintro e w7 ⟨rfl, hk7⟩; have HK7 := Lib.hid hk7; clear hk7)
          go_ret
          exact ⟨rfl, HKC.out.trans (HK2.out.trans HK7.out)⟩
        · have HHD : Hid (Hiding t h L) := HTH.out (HTI.out rfl)
          clear HTI HTH HST
          simp only [Bool.not_true]
          go_wp2_with fail
          go_loopw [111] (fun i wr => ∃ k : Nat, k ≤ L.length ∧ i = .int .i64 k ∧ Kept [] w2 wr) (fun i _ => L.length - (intOf i).toNat)
          case atStart => exact ⟨0, Nat.zero_le _, rfl, Kept.refl _ _⟩
          case round =>
            obtain ⟨i, hi, rfl, hkr⟩ := hrel
            have HKR := Lib.hid hkr
            clear hkr
            obtain ⟨wp, rfl⟩ : ∃ wp : World, wp = wr := ⟨_, rfl⟩
            by_cases hit : i < L.length
            · obtain ⟨a, ha⟩ : ∃ a, L[i]? = some a := ⟨_, List.getElem?_eq_getElem hit⟩
              rcases HI1.out.2.1 with e0 | ⟨b1, o1, rfl, hc1⟩
              · rw [e0] at hit; simp at hit
              · have HC1 := Lib.hid hc1
                have cj := (HK21.out.trans HKR.out).cell (hc1 i a ha) (by simp)
                have hma := List.mem_of_getElem? ha
                have HMA := Lib.hid hma
                obtain ⟨q, x, hfa⟩ := HFA.out a hma
                obtain ⟨rfl, hx, _, _, _, _⟩ := hfa
                have HX := Lib.hid hx
                clear hx hma ha hc1
                go_wp2_with fail
                clear cj
                go_loopw [117] (fun i wr => ∃ k : Nat, k ≤ L.length ∧ i = .int .i64 k ∧ Kept [] w2 wr) (fun i _ => L.length - (intOf i).toNat)
                case atStart => exact ⟨0, Nat.zero_le _, rfl, HKR.out⟩
                case round =>
                  obtain ⟨m, hm, rfl, hkr⟩ := hrel
                  have HKM := Lib.hid hkr
                  clear hkr
                  obtain ⟨wi, rfl⟩ : ∃ wi : World, wi = wr := ⟨_, rfl⟩
                  by_cases hmt : m < L.length
                  · obtain ⟨b, hb⟩ : ∃ b, L[m]? = some b := ⟨_, List.getElem?_eq_getElem hmt⟩
                    have cm := (HK21.out.trans HKM.out).cell (HC1.out m b hb) (by simp)
                    have hmb := List.mem_of_getElem? hb
                    have HMB := Lib.hid hmb
                    obtain ⟨r, y, hfb⟩ := HFA.out b hmb
                    obtain ⟨rfl, hy, _, _, _, _⟩ := hfb
                    have HYR := Lib.hid hy
                    have HKV : Hid (Kept [] wz wi) := HK2.out.trans HKM.out
                    clear hmb hb hy
                    go_upto_region 21 with (fail)
                    clear cm
                    have hq : q < t.ents.length := (List.getElem?_eq_some_iff.1 HX.out).1
                    have hr : r < t.ents.length := (List.getElem?_eq_some_iff.1 HYR.out).1
                    obtain ⟨B, O, hea, hrs⟩ := (HTB.out.kept HKV.out).tab.es.some_ HX.out
                    haveI ia : EntAt wi B (O + q * 22) x := ⟨hrs q x HX.out⟩
                    haveI ib : EntAt wi B (O + r * 22) y := ⟨hrs r y HYR.out⟩
                    obtain ⟨d0, d1, d2, d3, d4, u0, u1, u2, u3⟩ := HD2.out _ HKV.out
                    rw [hea] at d2
                    have d2a : ∀ ob, (wi.alloc ob).cell? ⟨w.heap.size, 2, none⟩ = some (.slice (some ⟨B, O, none⟩) t.ents.length v.ec) := fun ob => (Kept.alloc [] wi ob).cell d2 (by simp)
                    have d2b : ∀ ob ob', ((wi.alloc ob).alloc ob').cell? ⟨w.heap.size, 2, none⟩ = some (.slice (some ⟨B, O, none⟩) t.ents.length v.ec) := fun ob ob' => ((Kept.alloc [] wi ob).trans (Kept.alloc [] _ ob')).cell d2 (by simp)
                    clear d0 d1 d3 d4 u0 u1 u2 u3 hea hrs
                    go_cut [16, 17] (fun v16 v17 wc => ∃ X Y : Nat, v16 = .pointer (some ⟨X, 0, none⟩) ∧ v17 = .pointer (some ⟨Y, 0, none⟩) ∧ wc.heap[X]? = some (.cells x.cells.toArray 43 (0, 0)) ∧ wc.heap[Y]? = some (.cells y.cells.toArray 43 (0, 0)) ∧ Kept [] wi wc)
                    case first =>
                      go_region
                      all_goals
                        go_wp2_with fail
                        go_meet
                        first
                          | exact ⟨_, _, rfl, rfl, drew_obj (obj_old (obj_new rfl) (by simp)), drew_obj (obj_new (by simp)), ((Kept.alloc _ _ _).trans (Kept.alloc _ _ _)).trans (Kept.drew _ _)⟩
                          | exact ⟨_, _, rfl, rfl, drew_obj (obj_new (by simp)), drew_obj (obj_old (obj_new rfl) (by simp)), ((Kept.alloc _ _ _).trans (Kept.alloc _ _ _)).trans (Kept.drew _ _)⟩
                    case rest =>
                      obtain ⟨X, Y, rfl, rfl, hX, hY, hkw⟩ := hcut
                      obtain ⟨wj, rfl⟩ : ∃ wj : World, wj = wc := ⟨_, rfl⟩
                      have HKJ : Hid (Kept [] w2 wj) := HKM.out.trans hkw
                      have HXB := Lib.hid hX
                      have HYB := Lib.hid hY
                      have HDX : Hid (∀ wx, Kept [] wj wx → (wx.cell? ⟨w.heap.size, 0, none⟩ = some (.slice v.ta t.types.length v.tc) ∧ wx.cell? ⟨w.heap.size, 1, none⟩ = some (.slice v.sa t.subs.length v.sc) ∧ wx.cell? ⟨w.heap.size, 2, none⟩ = some (.slice v.ea t.ents.length v.ec) ∧ wx.cell? ⟨w.heap.size, 3, none⟩ = some (.slice v.ga v.gn v.gc) ∧ wx.cell? ⟨w.heap.size, 4, none⟩ = some (.slice v.ia v.im v.ic) ∧ wx.cell? ⟨w.heap.size + 1, 0, none⟩ = some (.int .i64 h.region) ∧ wx.cell? ⟨X, 2, none⟩ = some (.int .i64 x.owner) ∧ wx.cell? ⟨Y, 2, none⟩ = some (.int .i64 y.owner) ∧ EntAt wx X 0 x ∧ EntAt wx Y 0 y)) := fun W hk => by
                        obtain ⟨d0, d1, d2, d3, d4, u0, u1, u2, u3⟩ := HD2.out W (HK2.out.trans (HKJ.out.trans hk))
                        have hx := hk.obj HXB.out (by simp)
                        have hy := hk.obj HYB.out (by simp)
                        exact ⟨d0, d1, d2, d3, d4, u0, ent_cell (x := x) hx 2 rfl, ent_cell (x := y) hy 2 rfl, ⟨EntV.range hx⟩, ⟨EntV.range hy⟩⟩
                      clear hX hY hkw d2 d2a d2b ia ib HKM
                      obtain ⟨d0, d1, d2, d3, d4, u0, x2, y2, ix, iy⟩ := HDX.out _ (Kept.refl _ _)
                      cases e1 : ((q : Int) == (r : Int))
                      · have HC19 := Lib.hid (HF19.out wj q r (HK2.out.trans HKJ.out))
                        cases hh : homI t q r
                        · rw [hh] at HC19
                          go_wp2_with (go_at_call 19; refine HC19.out.mono ?_; rintro e wk ⟨rfl, hkk⟩; have HKK := Lib.hid (HKJ.out.trans hkk); clear hkk)
                          go_roundw
                          case rel => exact ⟨m + 1, by omega, by go_num, HKK.out⟩
                          case measure => simp [intOf]; omega
                        · rw [hh] at HC19
                          have hhd := HHD.out q r HMA.out HMB.out (by simpa using e1) hh
                          rw [(row_some HX.out).2, (row_some HYR.out).2] at hhd
                          obtain ⟨ha0, hb0, hne, hoa, hob⟩ := hhd
                          have HA0 := Lib.hid ha0
                          have HB0 := Lib.hid hb0
                          have HOX : Hid (∀ W, Calls Try.prog 20 #[.agg x.cells.toArray] W (RetB true W)) := fun W => by have := ovlRef_any W x; rw [hoa] at this; exact this
                          have HOY : Hid (∀ W, Calls Try.prog 20 #[.agg y.cells.toArray] W (RetB true W)) := fun W => by have := ovlRef_any W y; rw [hob] at this; exact this
                          have HNE : Hid ((x.owner != y.owner) = true) := by rw [Hid]; simpa using hne
                          clear ha0 hb0 hoa hob hne hh
                          go_upto_region 23 with (go_at_call 19; refine HC19.out.mono ?_; rintro e wk ⟨rfl, hkk⟩; have HKK := Lib.hid hkk; clear hkk)
                          clear d0 d1 d2 d3 d4 u0 x2 y2 ix iy HC19 e1
                          go_cut [18] (fun v18 wc => v18 = .bool true ∧ Kept [] wj wc)
                          case first =>
                            obtain ⟨d0, d1, d2, d3, d4, u0, x2, y2, ix, iy⟩ := HDX.out _ HKK.out
                            cases e2 : (x.owner == 0)
                            · have hix : insideR t h.region x.owner = false := HA0.out.resolve_left (by simpa using e2)
                              have HCX := Lib.hid (HF17.out wk x.owner (HK2.out.trans (HKJ.out.trans HKK.out)))
                              rw [hix] at HCX
                              clear hix
                              cases e3 : (y.owner == 0)
                              · have hiy : insideR t h.region y.owner = false := HB0.out.resolve_left (by simpa using e3)
                                have HCY : Hid (∀ W, Kept [] wj W → Calls Try.prog 17 #[.agg #[.slice v.ta t.types.length v.tc, .slice v.sa t.subs.length v.sc, .slice v.ea t.ents.length v.ec, .slice v.ga v.gn v.gc, .slice v.ia v.im v.ic], .int .i64 h.region, .int .i64 y.owner] W (RetB false W)) := fun W hk => by
                                  have := HF17.out W y.owner (HK2.out.trans (HKJ.out.trans hk))
                                  rw [hiy] at this
                                  exact this
                                clear hiy
                                go_wp2_with (first
                                  | (fail_if_success guard_hyp HKL
                                     go_at_call 17
                                     refine HCX.out.mono ?_
                                     rintro e wl ⟨rfl, hkl⟩
                                     have HKL := Lib.hid (HKK.out.trans hkl)
                                     clear hkl d0 d1 d2 d3 d4 u0 x2 y2 ix iy
                                     obtain ⟨d0, d1, d2, d3, d4, u0, x2, y2, ix, iy⟩ := HDX.out _ HKL.out)
                                  | (guard_hyp HKL
                                     go_at_call 17
                                     refine (HCY.out _ HKL.out).mono ?_
                                     rintro e wm ⟨rfl, hkm⟩
                                     have HKM := Lib.hid (HKL.out.trans hkm)
                                     clear hkm d0 d1 d2 d3 d4 u0 x2 y2 ix iy
                                     obtain ⟨d0, d1, d2, d3, d4, u0, x2, y2, ix, iy⟩ := HDX.out _ HKM.out))
                                go_meet
                                exact ⟨by rw [HNE.out], HKM.out⟩
                              · go_wp2_with (go_at_call 17; refine HCX.out.mono ?_; rintro e wl ⟨rfl, hkl⟩; have HKL := Lib.hid (HKK.out.trans hkl); clear hkl d0 d1 d2 d3 d4 u0 x2 y2 ix iy; obtain ⟨d0, d1, d2, d3, d4, u0, x2, y2, ix, iy⟩ := HDX.out _ HKL.out)
                                go_meet
                                exact ⟨by rw [HNE.out], HKL.out⟩
                            · cases e3 : (y.owner == 0)
                              · have hiy : insideR t h.region y.owner = false := HB0.out.resolve_left (by simpa using e3)
                                have HCY := Lib.hid (HF17.out wk y.owner (HK2.out.trans (HKJ.out.trans HKK.out)))
                                rw [hiy] at HCY
                                clear hiy
                                go_wp2_with (go_at_call 17; refine HCY.out.mono ?_; rintro e wl ⟨rfl, hkl⟩; have HKL := Lib.hid (HKK.out.trans hkl); clear hkl d0 d1 d2 d3 d4 u0 x2 y2 ix iy; obtain ⟨d0, d1, d2, d3, d4, u0, x2, y2, ix, iy⟩ := HDX.out _ HKL.out)
                                go_meet
                                exact ⟨by rw [HNE.out], HKL.out⟩
                              · go_wp2_with fail
                                go_meet
                                exact ⟨by rw [HNE.out], HKK.out⟩
                          case rest =>
                            obtain ⟨rfl, hkc⟩ := hcut
                            obtain ⟨wn, rfl⟩ : ∃ wn : World, wn = wc := ⟨_, rfl⟩
                            have HKN := Lib.hid hkc
                            clear hkc HKK
                            obtain ⟨_, _, _, _, _, _, _, _, ix, iy⟩ := HDX.out _ HKN.out
                            go_wp2_with (first
                              | (fail_if_success guard_hyp HKL
                                 go_at_call 20
                                 refine (HOX.out _).mono ?_
                                 rintro e wl ⟨rfl, hkl⟩
                                 have HKL := Lib.hid (HKN.out.trans hkl)
                                 clear hkl ix iy
                                 obtain ⟨_, _, _, _, _, _, _, _, ix, iy⟩ := HDX.out _ HKL.out)
                              | (guard_hyp HKL
                                 go_at_call 20
                                 refine (HOY.out _).mono ?_
                                 rintro e wm ⟨rfl, hkm⟩
                                 have HKM := Lib.hid (HKL.out.trans hkm)
                                 clear hkm))
                            go_roundw
                            case rel => exact ⟨m + 1, by omega, by go_num, HKJ.out.trans HKM.out⟩
                            case measure => simp [intOf]; omega
                      · clear d0 d1 d2 d3 d4 u0 x2 y2 ix iy
                        go_wp2_with fail
                        go_roundw
                        case rel => exact ⟨m + 1, by omega, by go_num, HKJ.out⟩
                        case measure => simp [intOf]; omega
                  · go_wp2_with fail
                    go_roundw
                    case rel => exact ⟨i + 1, by omega, by go_num, HKM.out⟩
                    case measure => simp [intOf]; omega
            · go_wp2_with (go_at_call 14; refine (works_any _).mono ?_; rintro e w7 ⟨rfl, hk7⟩; have HK7 := Lib.hid hk7; clear hk7)
              go_ret
              exact ⟨rfl, HKC.out.trans (HK2.out.trans (HKR.out.trans HK7.out))⟩
end Go.Proofs.Ytlgcboaojdhneaa
