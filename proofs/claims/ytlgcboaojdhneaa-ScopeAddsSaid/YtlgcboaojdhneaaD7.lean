/- Select. -/
import Derived.Test.YtlgcboaojdhneaaB15
import Derived.Test.YtlgcboaojdhneaaK4
import Derived.BigRegion
import Derived.Deep.RegionWith
namespace Go.Proofs.Ytlgcboaojdhneaa
open Go.RowKit

def wholeB (t : Tab) (h : WhV) (p : Int) : Bool := (rowE t p).kind == 1 || insideR t h.region p
def partB (x : EntV) : Bool := ((x.kind == 2 && !x.generic) || x.kind == 12) || x.kind == 13
def selF (t : Tab) (h : WhV) (p : Int) (k : Int) : Bool := pickB t h p (wholeB t h p) (partB (rowE t p)) k (rowE t k)
def selR (t : Tab) (h : WhV) (u : Int) (name : ByteArray) : List Int := if baseR t u = -1 then [] else (allR t name h.after).filter (selF t h (baseR t u))

set_option maxRecDepth 100000 in
set_option maxHeartbeats 4000000 in
theorem select_any (w : World) (v : TabV) (t : Tab) (h : WhV) (u : Int) (name : ByteArray) (hT : TabIn w v t) (hH : WhIn w h) (hs : t.ents.length ≤ 100000) :
    Calls Try.prog 13 #[.agg (v.cells t), .agg h.cells.toArray, .int .i64 u, .string name] w (RetC (selR t h u name) w) := by
  rcases baseR_row t u with hb | ⟨n, x, hb, hx, hxe⟩
  · have HR : Hid (selR t h u name = []) := by rw [Hid, selR, if_pos hb]
    rw [HR.out]
    exact select_neg w v t h u name hT hb
  · have HT := Lib.hid hT
    have HH := Lib.hid hH
    have HSZ := Lib.hid hs
    have q1 := hT.el
    have q2 := hT.em
    have hnl := (List.getElem?_eq_some_iff.1 hx).1
    have HR : Hid (selR t h u name = (allR t name h.after).filter (selF t h n)) := by rw [Hid, selR, if_neg (by omega), hb]
    have HWH : Hid (wholeB t h n = (x.kind == 1 || insideR t h.region n)) := by rw [Hid, wholeB, ← hb, hxe]
    have HSF : Hid (∀ b4 b5, wholeB t h n = b4 → partB x = b5 → ∀ k, selF t h n k = pickB t h n b4 b5 k (rowE t k)) := fun b4 b5 h4 h5 k => by
      rw [← h4, ← h5, selF, ← hb, hxe]
    have HX := Lib.hid hx
    obtain ⟨b, o, hea, hr⟩ := hT.es.some_ hx
    have HROW := Lib.hid (hr n x hx)
    have HEA := Lib.hid hea
    have HB := Lib.hid hb
    clear hT hH hs hx hxe hr hea hb
    unfold TabV.cells WhV.cells
    go_enter Try.func13, Try.ntmps13
    go_upto_region 1 with (fail)
    refine wp_gen' ?_
    intro w0 hw0
    have HK0 : Hid (Kept [] w w0) := by rw [Hid, hw0]; exact (Kept.alloc _ _ _).trans (Kept.alloc _ _ _)
    have b0 : w0.heap[w.heap.size]? = some (.cells (v.cells t) 28 (0, 0)) := by rw [hw0]; exact obj_old (obj_new rfl) (by simp)
    have b1 : w0.heap[w.heap.size + 1]? = some (.cells h.cells.toArray 31 (0, 0)) := by rw [hw0]; exact obj_new (by simp)
    have HB0 := Lib.hid b0
    have HB1 := Lib.hid b1
    clear hw0 b0 b1
    have c0 : ∀ W, Kept [] w0 W → ∀ j, W.cell? ⟨w.heap.size, j, none⟩ = (v.cells t)[j]? := fun W hk j => cell_of_row _ _ _ _ _ _ (hk.obj HB0.out (by simp))
    have c1 : ∀ W, Kept [] w0 W → ∀ j, W.cell? ⟨w.heap.size + 1, j, none⟩ = h.cells.toArray[j]? := fun W hk j => cell_of_row _ _ _ _ _ _ (hk.obj HB1.out (by simp))
    have HC0 := Lib.hid c0
    have HC1 := Lib.hid c1
    clear c0 c1
    have v0 : w0.cell? ⟨w.heap.size, 0, none⟩ = some (.slice v.ta t.types.length v.tc) := HC0.out _ (Kept.refl _ _) 0
    have v1 : w0.cell? ⟨w.heap.size, 1, none⟩ = some (.slice v.sa t.subs.length v.sc) := HC0.out _ (Kept.refl _ _) 1
    have v2 : w0.cell? ⟨w.heap.size, 2, none⟩ = some (.slice v.ea t.ents.length v.ec) := HC0.out _ (Kept.refl _ _) 2
    have v3 : w0.cell? ⟨w.heap.size, 3, none⟩ = some (.slice v.ga v.gn v.gc) := HC0.out _ (Kept.refl _ _) 3
    have v4 : w0.cell? ⟨w.heap.size, 4, none⟩ = some (.slice v.ia v.im v.ic) := HC0.out _ (Kept.refl _ _) 4
    have HCB := Lib.hid (base_any w0 v t u (HT.out.kept HK0.out))
    unfold TabV.cells at HCB
    rw [HB.out] at HCB
    go_upto_region 2 with (go_at_call 12; refine HCB.out.mono ?_; rintro e w1 ⟨rfl, hk1⟩; have HK1 := Lib.hid hk1; clear hk1)
    refine wp_gen' ?_
    intro w2 hw2
    have hk2 : Kept [] w1 w2 := by rw [hw2]; exact Kept.alloc _ _ _
    have b9 : w2.heap[w1.heap.size]? = some (.cells #[.int .i64 n] 3 (0, 0)) := by rw [hw2]; exact heap_alloc_new _ _
    have HK2 := Lib.hid (HK1.out.trans hk2)
    have HB9 := Lib.hid b9
    obtain ⟨c9, _⟩ := cell_one_at b9
    generalize w1.heap.size = P at *
    clear hw2 hk2 b9 v0 v1 v2 v3 v4 HCB
    have v2 : w2.cell? ⟨w.heap.size, 2, none⟩ = some (.slice v.ea t.ents.length v.ec) := HC0.out _ HK2.out 2
    rw [HEA.out] at v2
    have j1 : (0 : Int) ≤ (n : Int) := by omega
    have j2 : (n : Int) < (t.ents.length : Int) := by omega
    have j3 : decide ((n : Int) < 0) = false := by simp
    haveI : EntAt w2 b (o + n * 22) x := ⟨fun j u hu => (HK0.out.trans HK2.out).cell (HROW.out j u hu) (by simp)⟩
    go_upto_region 5 with (fail)
    refine wp_gen' ?_
    intro w4 hw4
    have hk4 : Kept [] w2 w4 := by rw [hw4]; exact Kept.alloc _ _ _
    have bx : w4.heap[w2.heap.size]? = some (.cells x.cells.toArray 43 (0, 0)) := by rw [hw4]; exact heap_alloc_new _ _
    have HK4 := Lib.hid (HK2.out.trans hk4)
    have HB9' := Lib.hid (hk4.obj HB9.out (by simp))
    have HBX := Lib.hid bx
    generalize w2.heap.size = X at *
    clear hw4 hk4 bx v2 c9 HB9 j1 j2 j3
    have x0 := ent_cell (x := x) HBX.out 0 rfl
    go_cut [11] (fun v11 wc => ∃ B, v11 = .pointer (some ⟨B, 0, none⟩) ∧ wc.heap[B]? = some (.cells #[.bool (wholeB t h n)] 4 (0, 0)) ∧ Kept [] w4 wc)
    case first =>
      cases h1 : (x.kind == 1)
      · rw [h1] at HWH
        have HWH2 : Hid (wholeB t h n = insideR t h.region n) := by rw [Hid, HWH.out]; simp
        have v0 : w4.cell? ⟨w.heap.size, 0, none⟩ = some (.slice v.ta t.types.length v.tc) := HC0.out _ HK4.out 0
        have v1 : w4.cell? ⟨w.heap.size, 1, none⟩ = some (.slice v.sa t.subs.length v.sc) := HC0.out _ HK4.out 1
        have v2 : w4.cell? ⟨w.heap.size, 2, none⟩ = some (.slice v.ea t.ents.length v.ec) := HC0.out _ HK4.out 2
        have v3 : w4.cell? ⟨w.heap.size, 3, none⟩ = some (.slice v.ga v.gn v.gc) := HC0.out _ HK4.out 3
        have v4 : w4.cell? ⟨w.heap.size, 4, none⟩ = some (.slice v.ia v.im v.ic) := HC0.out _ HK4.out 4
        have u0 : w4.cell? ⟨w.heap.size + 1, 0, none⟩ = some (.int .i64 h.region) := HC1.out _ HK4.out 0
        obtain ⟨c9, _⟩ := cell_one_at HB9'.out
        have HCI := Lib.hid (inside_any w4 v t h.region n (HT.out.kept (HK0.out.trans HK4.out)))
        unfold TabV.cells at HCI
        go_wp2_with (go_at_call 17; refine HCI.out.mono ?_; rintro e w5 ⟨rfl, hk5⟩; have HK5 := Lib.hid hk5; clear hk5)
        go_meet
        exact ⟨_, rfl, by rw [HWH2.out]; exact obj_new rfl, HK5.out.trans (Kept.alloc _ _ _)⟩
      · rw [h1] at HWH
        have HWH2 : Hid (wholeB t h n = true) := by rw [Hid, HWH.out]; simp
        go_wp2_with fail
        go_meet
        exact ⟨_, rfl, by rw [HWH2.out]; exact obj_new rfl, Kept.alloc _ _ _⟩
    case rest =>
      obtain ⟨B4, rfl, hb4, hk5⟩ := hcut
      obtain ⟨w5, rfl⟩ : ∃ w5 : World, w5 = wc := ⟨_, rfl⟩
      have HB4 := Lib.hid hb4
      have HK5 := Lib.hid (HK4.out.trans hk5)
      have HBX5 := Lib.hid (hk5.obj HBX.out (by simp))
      have HB95 := Lib.hid (hk5.obj HB9'.out (by simp))
      clear hb4 hk5 x0 HBX HB9' HK4 HK2 HK1 HWH
      generalize hw : wholeB t h n = b4 at *
      have HW4 := Lib.hid hw
      clear hw
      have HPB : Hid (partB x = (((x.kind == 2 && !x.generic) || x.kind == 12) || x.kind == 13)) := rfl
      have x0 := ent_cell (x := x) HBX5.out 0 rfl
      have x17 := ent_cell (x := x) HBX5.out 17 rfl
      go_upto_region 6 with (fail)
      go_cut [12] (fun v12 wc => ∃ B, v12 = .pointer (some ⟨B, 0, none⟩) ∧ wc.heap[B]? = some (.cells #[.bool (partB x)] 4 (0, 0)) ∧ Kept [] w5 wc)
      case first =>
        cases h1 : (x.kind == 2)
        · rw [h1] at HPB
          cases h2 : (x.kind == 12)
          · rw [h2] at HPB
            cases h3 : (x.kind == 13)
            · rw [h3] at HPB
              go_wp2_with fail
              go_meet
              exact ⟨_, rfl, by rw [HPB.out]; exact obj_new rfl, Kept.alloc _ _ _⟩
            · rw [h3] at HPB
              go_wp2_with fail
              go_meet
              exact ⟨_, rfl, by rw [HPB.out]; exact obj_new rfl, Kept.alloc _ _ _⟩
          · rw [h2] at HPB
            go_wp2_with fail
            go_meet
            exact ⟨_, rfl, by rw [HPB.out]; exact obj_new rfl, Kept.alloc _ _ _⟩
        · rw [h1] at HPB
          have hk2' : x.kind = 2 := by simpa using h1
          cases h4 : x.generic
          · rw [h4] at HPB x17
            go_wp2_with fail
            go_meet
            exact ⟨_, rfl, by rw [HPB.out]; exact obj_new rfl, Kept.alloc _ _ _⟩
          · rw [h4] at HPB x17
            have HPB2 : Hid (partB x = false) := by rw [Hid, HPB.out, hk2']; rfl
            rw [hk2'] at x0
            clear h1 HPB
            go_wp2_with fail
            go_meet
            exact ⟨_, rfl, by rw [HPB2.out]; exact obj_new rfl, Kept.alloc _ _ _⟩
      case rest =>
        obtain ⟨B5, rfl, hb5, hk6⟩ := hcut
        obtain ⟨w6, rfl⟩ : ∃ w6 : World, w6 = wc := ⟨_, rfl⟩
        have HB5 := Lib.hid hb5
        have HK6 := Lib.hid (HK5.out.trans hk6)
        have HB46 := Lib.hid (hk6.obj HB4.out (by simp))
        have HB96 := Lib.hid (hk6.obj HB95.out (by simp))
        clear hb5 hk6 x0 x17 HBX5 HB95 HB4 HK5 HPB
        generalize hp : partB x = b5 at *
        have HP5 := Lib.hid hp
        clear hp
        have v0 : w6.cell? ⟨w.heap.size, 0, none⟩ = some (.slice v.ta t.types.length v.tc) := HC0.out _ HK6.out 0
        have v1 : w6.cell? ⟨w.heap.size, 1, none⟩ = some (.slice v.sa t.subs.length v.sc) := HC0.out _ HK6.out 1
        have v2 : w6.cell? ⟨w.heap.size, 2, none⟩ = some (.slice v.ea t.ents.length v.ec) := HC0.out _ HK6.out 2
        have v3 : w6.cell? ⟨w.heap.size, 3, none⟩ = some (.slice v.ga v.gn v.gc) := HC0.out _ HK6.out 3
        have v4 : w6.cell? ⟨w.heap.size, 4, none⟩ = some (.slice v.ia v.im v.ic) := HC0.out _ HK6.out 4
        have u0 : w6.cell? ⟨w.heap.size + 1, 0, none⟩ = some (.int .i64 h.region) := HC1.out _ HK6.out 0
        have u1 : w6.cell? ⟨w.heap.size + 1, 1, none⟩ = some (.int .i64 h.after) := HC1.out _ HK6.out 1
        have u2 : w6.cell? ⟨w.heap.size + 1, 2, none⟩ = some (.slice h.ua h.units.length h.uc) := HC1.out _ HK6.out 2
        have u3 : w6.cell? ⟨w.heap.size + 1, 3, none⟩ = some (.slice h.sa h.uses.length h.sc) := HC1.out _ HK6.out 3
        have HCL := Lib.hid (look_any w6 v t h name (HT.out.kept (HK0.out.trans HK6.out)) (HH.out.kept (HK0.out.trans HK6.out)) HSZ.out)
        unfold TabV.cells WhV.cells at HCL
        go_upto_region 8 with (go_at_call 40; refine HCL.out.mono ?_; rintro e w7 ⟨F, rfl, hF, hfi, hk7⟩; have HFI := Lib.hid hfi; have HK7 := Lib.hid (HK6.out.trans hk7); have HB47 := Lib.hid (hk7.obj HB46.out (by simp)); have HB57 := Lib.hid (hk7.obj HB5.out (by simp)); have HB97 := Lib.hid (hk7.obj HB96.out (by simp)); clear hk7 hfi hF)
        clear v0 v1 v2 v3 v4 u0 u1 u2 u3 HCL
        refine wp_gen' ?_
        intro w8 hw8
        have hk8 : Kept [] w7 w8 := by rw [hw8]; exact Kept.alloc _ _ _
        have b13 : w8.heap[w7.heap.size]? = some (.cells #[.pointer (some ⟨F, 0, none⟩)] 76 (0, 0)) := by rw [hw8]; exact heap_alloc_new _ _
        have HB13 := Lib.hid b13
        have HF8 := Lib.hid (HFI.out.kept hk8)
        have HK8 := Lib.hid (HK7.out.trans hk8)
        have HB48 := Lib.hid (hk8.obj HB47.out (by simp))
        have HB58 := Lib.hid (hk8.obj HB57.out (by simp))
        have HB98 := Lib.hid (hk8.obj HB97.out (by simp))
        obtain ⟨A, c, hbF, hin, hl1, hl2⟩ : ∃ a c, w8.heap[F]? = some (.cells (findC v t h name (.slice a (allR t name h.after).length c)) 80 (0, 0)) ∧ IntsIn w8 a (allR t name h.after) ∧ (allR t name h.after).length ≤ c ∧ c ≤ 9223372036854775807 := HF8.out.box
        have hcell : ∀ W, Kept [] w8 W → W.cell? ⟨P, 0, none⟩ = some (.int .i64 n) ∧ W.cell? ⟨w7.heap.size, 0, none⟩ = some (.pointer (some ⟨F, 0, none⟩)) ∧ W.cell? ⟨B4, 0, none⟩ = some (.bool b4) ∧ W.cell? ⟨B5, 0, none⟩ = some (.bool b5) := fun W hk => ⟨(cell_one_at (hk.obj HB98.out (by simp))).1, (cell_one_at (hk.obj HB13.out (by simp))).1, (cell_one_at (hk.obj HB48.out (by simp))).1, (cell_one_at (hk.obj HB58.out (by simp))).1⟩
        have hCK : Hid (Calls Try.prog 41 #[.slice A (allR t name h.after).length c, .func (.func 42) #[] #[.pointer (some ⟨w.heap.size, 0, none⟩), .pointer (some ⟨P, 0, none⟩), .pointer (some ⟨w7.heap.size, 0, none⟩), .pointer (some ⟨B4, 0, none⟩), .pointer (some ⟨B5, 0, none⟩)]] w8 (RetC (selR t h u name) w8)) := by
          have hall : (allR t name h.after).length ≤ 100000 := Nat.le_trans (allN_len _ _ _ _) HSZ.out
          refine (kept_any w8 A c (allR t name h.after) hl1 hl2 hin hall 42 _ (selF t h n) enters42 (fun W e hk he => ?_)).mono ?_
          · obtain ⟨i, y, rfl, hy, hye⟩ := row_at (allR_row he)
            have hcv : W.cell? ⟨w.heap.size, 2, none⟩ = some (.slice v.ea t.ents.length v.ec) := HC0.out W (HK8.out.trans hk) 2
            have h0 := hcell W hk
            have := select1_any W F w.heap.size P w7.heap.size B4 B5 v t h name (allR t name h.after) i y hy (HF8.out.kept hk) n b4 b5 hcv h0.1 h0.2.1 h0.2.2.1 h0.2.2.2
            rw [HSF.out b4 b5 rfl rfl, hye]
            exact this
          · rintro e w' ⟨v', rfl, ho, hk⟩
            rw [HR.out]
            exact ⟨v', rfl, IntsC.of_owns ho, hk⟩
        have cF : w8.cell? ⟨F, 10, none⟩ = some (.slice A (allR t name h.after).length c) := (findC_cell hbF).1
        have c13 := (cell_one_at HB13.out).1
        clear hw8 hk8 b13 hcell hin hbF HB47 HB57 HB97 HFI
        go_wp2_with (go_at_call 41; refine hCK.out.mono ?_; rintro e w9 ⟨v9, rfl, hi9, hk9⟩; have HI9 := Lib.hid hi9; have HK9 := Lib.hid (HK8.out.trans hk9); clear hi9 hk9)
        go_ret
        exact ⟨_, rfl, HI9.out, HK0.out.trans HK9.out⟩
end Go.Proofs.Ytlgcboaojdhneaa
