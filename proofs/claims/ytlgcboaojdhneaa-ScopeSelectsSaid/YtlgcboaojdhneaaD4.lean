/- The reference's clash. -/
import Derived.Test.YtlgcboaojdhneaaD1
import Derived.Test.YtlgcboaojdhneaaK4
import Derived.BigRegion
import Derived.Deep.RegionWith
namespace Go.Proofs.Ytlgcboaojdhneaa
open Go.RowKit Go.Shelf

/-- Does y, at a, hide x, at e? -/
def claB (t : Tab) (e a : Int) : Bool := ((a != e && ((rowE t a).owner != (rowE t e).owner)) && homR t (rowE t e) (rowE t a)) && (!ovl (rowE t e) || !ovl (rowE t a))
def claR (t : Tab) (l : List Int) (e : Int) : Bool := l.any (claB t e)

set_option maxRecDepth 100000 in
set_option maxHeartbeats 4000000 in
theorem clash_any (w : World) (v : TabV) (t : Tab) (a : Option Addr) (c : Nat) (xs : List Int) (n : Nat) (x : EntV) (hT : TabIn w v t) (hc : xs.length ≤ c) (hm : c ≤ 9223372036854775807) (hI : IntsIn w a xs) (hx : t.ents[n]? = some x) (hl : ∀ e, e ∈ xs → (rowR t e).isSome = true) :
    Calls Try.prog 51 #[.agg (v.cells t), .slice a xs.length c, .int .i64 n] w (RetB (claR t xs n) w) := by
  have HT := Lib.hid hT
  have HI := Lib.hid hI
  have HL := Lib.hid hl
  have q1 := hT.el
  have q2 := hT.em
  have hnl := (List.getElem?_eq_some_iff.1 hx).1
  have hxe := (row_some hx).2
  have HR : Hid (claR t xs n = xs.any (claB t n)) := rfl
  have HEX := Lib.hid (hT.ent (List.mem_of_getElem? hx))
  obtain ⟨b, o, hea, hr⟩ := hT.es.some_ hx
  have HROW := Lib.hid (hr n x hx)
  have HEA := Lib.hid hea
  have HRS := Lib.hid hr
  have HXE := Lib.hid hxe
  clear hT hI hl hx hr hea hxe
  unfold TabV.cells
  go_enter Try.func51, Try.ntmps51
  go_upto_region 1 with (fail)
  refine wp_gen' ?_
  intro w0 hw0
  have HK0 : Hid (Kept [] w w0) := by rw [Hid, hw0]; exact Kept.alloc _ _ _
  have b0 : w0.heap[w.heap.size]? = some (.cells (v.cells t) 28 (0, 0)) := by rw [hw0]; exact obj_new rfl
  have HB0 := Lib.hid b0
  have e2 : w0.cell? ⟨w.heap.size, 2, none⟩ = some (.slice v.ea t.ents.length v.ec) := (cell_of_row _ _ _ _ _ _ b0).trans rfl
  rw [HEA.out] at e2
  have HROW0 : Hid (w0.rangeAt b (o + n * 22) x.cells) := fun j u hu => HK0.out.cell (HROW.out j u hu) (by simp)
  have j1 : (0 : Int) ≤ (n : Int) := by omega
  have j2 : (n : Int) < (t.ents.length : Int) := by omega
  clear hw0 b0
  go_upto_region 2 with (refine wpList_load_mid rfl 43 (.tmp 13) rfl b (o + n * 22) rfl x.cells _ HROW0.out Try.underlying43 rfl (Try.info43 x) ?_)
  refine wp_gen' ?_
  intro w1 hw1
  have hk1 : Kept [] w0 w1 := by rw [hw1]; exact Kept.alloc _ _ _
  have bx1 : w1.heap[w0.heap.size]? = some (.cells x.cells.toArray 43 (0, 0)) := by rw [hw1]; exact heap_alloc_new _ _
  have HK1 := Lib.hid (HK0.out.trans hk1)
  have HBX := Lib.hid bx1
  have HBV := Lib.hid (hk1.obj HB0.out (by simp))
  generalize w0.heap.size = X at *
  clear hw1 hk1 bx1 e2 j1 j2
  go_wp2_with fail
  go_loopw [8] (fun i wr => ∃ k : Nat, k ≤ xs.length ∧ i = .int .i64 k ∧ (xs.take k).any (claB t n) = false ∧ Kept [] w1 wr) (fun i _ => xs.length - (intOf i).toNat)
  case atStart => exact ⟨0, Nat.zero_le _, rfl, rfl, Kept.refl _ _⟩
  case round =>
    obtain ⟨k, hk, rfl, hn, hkr⟩ := hrel
    have HN := Lib.hid hn
    have HK := Lib.hid hkr
    clear hn hkr
    obtain ⟨wo, rfl⟩ : ∃ wo : World, wo = wr := ⟨_, rfl⟩
    by_cases hlt : k < xs.length
    · obtain ⟨e, he⟩ : ∃ e, xs[k]? = some e := ⟨_, List.getElem?_eq_getElem hlt⟩
      obtain ⟨m, y, rfl, hy, hye⟩ := row_at (HL.out e (List.mem_of_getElem? he))
      have hyl := (List.getElem?_eq_some_iff.1 hy).1
      have HS : Hid ((xs.take (k + 1)).any (claB t n) = claB t n m) := any_take he HN.out
      have HA : Hid (claB t n m = true → xs.any (claB t n) = true) := fun h => List.any_eq_true.2 ⟨_, List.mem_of_getElem? he, h⟩
      have HCB : Hid (claB t n m = ((((m : Int) != (n : Int) && (y.owner != x.owner)) && homR t x y) && (!ovl x || !ovl y))) := by rw [Hid, claB, HXE.out, hye]
      have HEY := Lib.hid (HT.out.ent (List.mem_of_getElem? hy))
      rcases HI.out with h0 | ⟨bi, oi, rfl, hcx⟩
      · rw [h0] at hlt; simp at hlt
      · have qx := (HK1.out.trans HK.out).cell (hcx k _ he) (by simp)
        have HQX := Lib.hid qx
        have HRY : Hid (∀ W, Kept [] wo W → W.rangeAt b (o + m * 22) y.cells) := fun W hk j u hu => (HK1.out.trans (HK.out.trans hk)).cell (HRS.out m y hy j u hu) (by simp)
        have e2 : wo.cell? ⟨w.heap.size, 2, none⟩ = some (.slice v.ea t.ents.length v.ec) := (cell_of_row _ _ _ _ _ _ (HK.out.obj HBV.out (by simp))).trans rfl
        rw [HEA.out] at e2
        have j1 : (0 : Int) ≤ (k : Int) := by omega
        have j2 : (k : Int) < (xs.length : Int) := by omega
        have j3 : (0 : Int) ≤ (m : Int) := by omega
        have j4 : (m : Int) < (t.ents.length : Int) := by omega
        clear he hy hye hcx
        go_upto_region 5 with (fail)
        haveI : EntAt wo b (o + m * 22) y := ⟨HRY.out _ (Kept.refl _ _)⟩
        have qxa : ∀ ob, (wo.alloc ob).cell? ⟨bi, oi + k, none⟩ = some (.int .i64 m) := fun ob => (Kept.alloc [] wo ob).cell qx (by simp)
        have e2a : ∀ ob, (wo.alloc ob).cell? ⟨w.heap.size, 2, none⟩ = some (.slice (some ⟨b, o, none⟩) t.ents.length v.ec) := fun ob => (Kept.alloc [] wo ob).cell e2 (by simp)
        go_region
        go_upto_region 6 with (fail)
        refine wp_gen' ?_
        intro w2 hw2
        have hk2 : Kept [] wo w2 := by rw [hw2]; exact (Kept.alloc _ _ _).trans (Kept.drew _ _)
        have by2 : w2.heap[wo.heap.size]? = some (.cells y.cells.toArray 43 (0, 0)) := by rw [hw2]; exact heap_alloc_new _ _
        have HK2 := Lib.hid (HK.out.trans hk2)
        have qx2 := hk2.cell qx (by simp)
        have y2 := ent_cell (x := y) by2 2 rfl
        have x2 := ent_cell (x := x) (HK2.out.obj HBX.out (by simp)) 2 rfl
        haveI ix : EntAt w2 X 0 x := ⟨EntV.range (HK2.out.obj HBX.out (by simp))⟩
        haveI iy : EntAt w2 wo.heap.size 0 y := ⟨EntV.range by2⟩
        have HIX := Lib.hid ix
        have HIY := Lib.hid iy
        have c0 : ∀ j, w2.cell? ⟨w.heap.size, j, none⟩ = (v.cells t)[j]? := fun j => cell_of_row _ _ _ _ _ _ (HK2.out.obj HBV.out (by simp))
        have v0 : w2.cell? ⟨w.heap.size, 0, none⟩ = some (.slice v.ta t.types.length v.tc) := c0 0
        have v1 : w2.cell? ⟨w.heap.size, 1, none⟩ = some (.slice v.sa t.subs.length v.sc) := c0 1
        have v2 : w2.cell? ⟨w.heap.size, 2, none⟩ = some (.slice v.ea t.ents.length v.ec) := c0 2
        have v3 : w2.cell? ⟨w.heap.size, 3, none⟩ = some (.slice v.ga v.gn v.gc) := c0 3
        have v4 : w2.cell? ⟨w.heap.size, 4, none⟩ = some (.slice v.ia v.im v.ic) := c0 4
        have HT2 := Lib.hid (HT.out.kept (HK1.out.trans HK2.out))
        have HEX2 := Lib.hid (HEX.out.kept (HK1.out.trans HK2.out))
        have HEY2 := Lib.hid (HEY.out.kept (HK1.out.trans HK2.out))
        clear hw2 hk2 by2 qx e2 qxa e2a c0
        generalize wo.heap.size = Y at *
        clear ix iy
        have NOREL : Hid (claB t n m = false → (xs.take (k + 1)).any (claB t n) = false) := fun hf => by rw [HS.out, hf]
        cases h1 : ((m : Int) != (n : Int))
        · rw [h1] at HCB
          have HF := Lib.hid (NOREL.out HCB.out)
          go_wp2_with fail
          go_roundw
          case rel => exact ⟨k + 1, by omega, by go_num, HF.out, HK2.out⟩
          case measure => simp [intOf]; omega
        · rw [h1] at HCB
          cases h2 : (y.owner != x.owner)
          · rw [h2] at HCB
            have HF := Lib.hid (NOREL.out HCB.out)
            go_wp2_with fail
            go_roundw
            case rel => exact ⟨k + 1, by omega, by go_num, HF.out, HK2.out⟩
            case measure => simp [intOf]; omega
          · rw [h2] at HCB
            have HCH : Hid (Calls Try.prog 57 #[.agg #[.slice v.ta t.types.length v.tc, .slice v.sa t.subs.length v.sc, .slice v.ea t.ents.length v.ec, .slice v.ga v.gn v.gc, .slice v.ia v.im v.ic], .agg x.cells.toArray, .agg y.cells.toArray] w2 (RetB (homR t x y) w2)) := homographsRef_any w2 v t x y HT2.out HEX2.out HEY2.out
            cases h3 : homR t x y
            · rw [h3] at HCB HCH
              have HF := Lib.hid (NOREL.out HCB.out)
              haveI := HIX.out
              haveI := HIY.out
              go_wp2_with (first
                | (go_at_call 57; refine HCH.out.mono ?_; rintro e w3 ⟨rfl, hk3⟩; have HK3 := Lib.hid hk3; clear hk3))
              go_roundw
              case rel => exact ⟨k + 1, by omega, by go_num, HF.out, HK2.out.trans HK3.out⟩
              case measure => simp [intOf]; omega
            · rw [h3] at HCB HCH
              cases h4 : ovl x
              · rw [h4] at HCB
                have HA2 := Lib.hid (HA.out (by rw [HCB.out]; rfl))
                haveI := HIX.out
                haveI := HIY.out
                go_wp2_with (first
                  | (go_at_call 57; refine HCH.out.mono ?_; rintro e w3 ⟨rfl, hk3⟩; have HK3 := Lib.hid hk3; haveI := HIX.out.kept hk3; haveI := HIY.out.kept hk3; clear hk3)
                  | (go_at_call 20; refine (ovlRef_any _ x).mono ?_; rw [h4]; rintro e w4 ⟨rfl, hk4⟩; have HK4 := Lib.hid (HK3.out.trans hk4); clear hk4))
                go_ret
                exact ⟨by rw [HR.out, HA2.out]; try rfl, HK1.out.trans (HK2.out.trans HK4.out)⟩
              · rw [h4] at HCB
                cases h5 : ovl y
                · rw [h5] at HCB
                  have HA2 := Lib.hid (HA.out (by rw [HCB.out]; rfl))
                  haveI := HIX.out
                  haveI := HIY.out
                  go_wp2_with (first
                    | (go_at_call 57; refine HCH.out.mono ?_; rintro e w3 ⟨rfl, hk3⟩; have HK3 := Lib.hid hk3; haveI := HIX.out.kept hk3; haveI := HIY.out.kept hk3; clear hk3)
                    | (go_at_call_of 20 x; refine (ovlRef_any _ x).mono ?_; rw [h4]; rintro e w4 ⟨rfl, hk4⟩; have HK4 := Lib.hid (HK3.out.trans hk4); haveI := HIY.out.kept (HK3.out.trans hk4); clear hk4)
                    | (go_at_call_of 20 y; refine (ovlRef_any _ y).mono ?_; rw [h5]; rintro e w5 ⟨rfl, hk5⟩; have HK5 := Lib.hid (HK4.out.trans hk5); clear hk5))
                  go_ret
                  exact ⟨by rw [HR.out, HA2.out]; try rfl, HK1.out.trans (HK2.out.trans HK5.out)⟩
                · rw [h5] at HCB
                  have HF := Lib.hid (NOREL.out HCB.out)
                  haveI := HIX.out
                  haveI := HIY.out
                  go_wp2_with (first
                    | (go_at_call 57; refine HCH.out.mono ?_; rintro e w3 ⟨rfl, hk3⟩; have HK3 := Lib.hid hk3; haveI := HIX.out.kept hk3; haveI := HIY.out.kept hk3; clear hk3)
                    | (go_at_call_of 20 x; refine (ovlRef_any _ x).mono ?_; rw [h4]; rintro e w4 ⟨rfl, hk4⟩; have HK4 := Lib.hid (HK3.out.trans hk4); haveI := HIY.out.kept (HK3.out.trans hk4); clear hk4)
                    | (go_at_call_of 20 y; refine (ovlRef_any _ y).mono ?_; rw [h5]; rintro e w5 ⟨rfl, hk5⟩; have HK5 := Lib.hid (HK4.out.trans hk5); clear hk5))
                  go_roundw
                  case rel => exact ⟨k + 1, by omega, by go_num, HF.out, HK2.out.trans HK5.out⟩
                  case measure => simp [intOf]; omega
    · obtain rfl : k = xs.length := by omega
      have HN2 : Hid (xs.any (claB t n) = false) := (congrArg (fun l : List Int => l.any (claB t n)) (List.take_length (l := xs))).symm.trans HN.out
      clear HN
      go_wp2_with fail
      go_ret
      exact ⟨by rw [HR.out, HN2.out]; try rfl, HK1.out.trans HK.out⟩
end Go.Proofs.Ytlgcboaojdhneaa
