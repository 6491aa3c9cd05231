/- The reference's Select. -/
import Derived.Test.YtlgcboaojdhneaaD7
import Derived.Test.YtlgcboaojdhneaaD1
namespace Go.Proofs.Ytlgcboaojdhneaa
open Go.RowKit

def selG (t : Tab) (h : WhV) (p : Int) (b4 b5 : Bool) (k : Int) : Bool := (p != 0 || namedR t h k (rowE t k)) && (b4 || (b5 && (rowE t k).part == 0))
theorem selF_decl (t : Tab) (h : WhV) (name : ByteArray) (p : Int) : (declR t name h.after p).filter (selG t h p (wholeB t h p) (partB (rowE t p))) = (allR t name h.after).filter (selF t h p) := by
  unfold declR
  rw [List.filter_filter]
  refine List.filter_congr fun e _ => ?_
  unfold selG selF pickB ownB
  cases ((rowE t e).owner == p) <;> simp

set_option maxRecDepth 100000 in
set_option maxHeartbeats 4000000 in
theorem selectRef_any (w : World) (v : TabV) (t : Tab) (h : WhV) (u : Int) (name : ByteArray) (hT : TabIn w v t) (hH : WhIn w h) (hs : t.ents.length ≤ 5000) :
    Calls Try.prog 23 #[.agg (v.cells t), .agg h.cells.toArray, .int .i64 u, .string name] w (RetC (selR t h u name) w) := by
  have HT := Lib.hid hT
  have HH := Lib.hid hH
  have HSZ := Lib.hid hs
  have q1 := hT.el
  have q2 := hT.em
  obtain ⟨i0, hi, hz0, hz1, hz2⟩ := info_parts int_info
  clear hT hH hs
  unfold TabV.cells WhV.cells
  go_enter Try.func23, Try.ntmps23
  go_upto_region 1 with (fail)
  refine wp_gen' ?_
  intro w0 hw0
  have HK0 : Hid (Kept [] w w0) := by rw [Hid, hw0]; exact (Kept.alloc _ _ _).trans (Kept.alloc _ _ _)
  have b0 : w0.heap[w.heap.size]? = some (.cells (v.cells t) 28 (0, 0)) := by rw [hw0]; exact obj_old (obj_new rfl) (by simp)
  have b1 : w0.heap[w.heap.size + 1]? = some (.cells h.cells.toArray 31 (0, 0)) := by rw [hw0]; exact obj_new (by simp)
  have HB0 := Lib.hid b0
  have HB1 := Lib.hid b1
  clear hw0 b0 b1
  have c0 : ∀ W, Kept [] w0 W → ∀ j, W.cell? ⟨w.heap.size, j, none⟩ = (v.cells t)[j]? := fun W hk j => cell_of_row _ _ _ _ _ _ (hk.obj HB0.out (by simp))
  have c1 : ∀ W, Kept [] w0 W → ∀ j, W.cell? ⟨w.heap.size + 1, j, none⟩ = h.cells.toArray[j]? := fun W hk j => cell_of_row _ _ _ _ _ _ (hk.obj HB1.out (by simp))
  have HC0 := Lib.hid c0
  have HC1 := Lib.hid c1
  clear c0 c1
  have v0 : w0.cell? ⟨w.heap.size, 0, none⟩ = some (.slice v.ta t.types.length v.tc) := HC0.out _ (Kept.refl _ _) 0
  have v1 : w0.cell? ⟨w.heap.size, 1, none⟩ = some (.slice v.sa t.subs.length v.sc) := HC0.out _ (Kept.refl _ _) 1
  have v2 : w0.cell? ⟨w.heap.size, 2, none⟩ = some (.slice v.ea t.ents.length v.ec) := HC0.out _ (Kept.refl _ _) 2
  have v3 : w0.cell? ⟨w.heap.size, 3, none⟩ = some (.slice v.ga v.gn v.gc) := HC0.out _ (Kept.refl _ _) 3
  have v4 : w0.cell? ⟨w.heap.size, 4, none⟩ = some (.slice v.ia v.im v.ic) := HC0.out _ (Kept.refl _ _) 4
  have HCB := Lib.hid (baseRef_any w0 v t u (HT.out.kept HK0.out))
  unfold TabV.cells at HCB
  go_upto_region 2 with (go_at_call 36; refine HCB.out.mono ?_; rintro e w1 ⟨rfl, hk1⟩; have HK1 := Lib.hid hk1; clear hk1)
  clear v0 v1 v2 v3 v4 HCB
  rcases baseR_row t u with hb | ⟨n, x, hb, hx, hxe⟩
  · have HR : Hid (selR t h u name = []) := by rw [Hid, selR, if_pos hb]
    rw [hb]
    go_wp2_with fail
    go_ret
    exact ⟨_, rfl, by rw [HR.out]; exact IntsC.nil _, HK0.out.trans HK1.out⟩
  · have hnl := (List.getElem?_eq_some_iff.1 hx).1
    have HR : Hid (selR t h u name = (allR t name h.after).filter (selF t h n)) := by rw [Hid, selR, if_neg (by omega), hb]
    have HXE : Hid (rowE t (n : Int) = x) := by rw [← hb, hxe, Hid]
    have HWH : Hid (wholeB t h n = (x.kind == 1 || insideR t h.region n)) := by rw [Hid, wholeB, HXE.out]
    obtain ⟨b, o, hea, hr⟩ := HT.out.es.some_ hx
    have HROW := Lib.hid (hr n x hx)
    have HRS := Lib.hid hr
    have HEA := Lib.hid hea
    have v2 : w1.cell? ⟨w.heap.size, 2, none⟩ = some (.slice v.ea t.ents.length v.ec) := HC0.out _ HK1.out 2
    rw [hea] at v2
    rw [hb]
    have j1 : (0 : Int) ≤ (n : Int) := by omega
    have j2 : (n : Int) < (t.ents.length : Int) := by omega
    have j3 : decide ((n : Int) < 0) = false := by simp
    clear hx hxe hr hea hb
    haveI : EntAt w1 b (o + n * 22) x := ⟨fun j u hu => (HK0.out.trans HK1.out).cell (HROW.out j u hu) (by simp)⟩
    go_upto_region 5 with (fail)
    refine wp_gen' ?_
    intro w4 hw4
    have hk4 : Kept [] w1 w4 := by rw [hw4]; exact Kept.alloc _ _ _
    have bx : w4.heap[w1.heap.size]? = some (.cells x.cells.toArray 43 (0, 0)) := by rw [hw4]; exact heap_alloc_new _ _
    have HK4 := Lib.hid (HK1.out.trans hk4)
    have HBX := Lib.hid bx
    generalize w1.heap.size = X at *
    clear hw4 hk4 bx v2 j1 j2 j3
    have x0 := ent_cell (x := x) HBX.out 0 rfl
    have v0 : w4.cell? ⟨w.heap.size, 0, none⟩ = some (.slice v.ta t.types.length v.tc) := HC0.out _ HK4.out 0
    have v1 : w4.cell? ⟨w.heap.size, 1, none⟩ = some (.slice v.sa t.subs.length v.sc) := HC0.out _ HK4.out 1
    have v2 : w4.cell? ⟨w.heap.size, 2, none⟩ = some (.slice v.ea t.ents.length v.ec) := HC0.out _ HK4.out 2
    have v3 : w4.cell? ⟨w.heap.size, 3, none⟩ = some (.slice v.ga v.gn v.gc) := HC0.out _ HK4.out 3
    have v4 : w4.cell? ⟨w.heap.size, 4, none⟩ = some (.slice v.ia v.im v.ic) := HC0.out _ HK4.out 4
    have u0 : w4.cell? ⟨w.heap.size + 1, 0, none⟩ = some (.int .i64 h.region) := HC1.out _ HK4.out 0
    go_cut [11] (fun v11 wc => v11 = .bool (wholeB t h n) ∧ Kept [] w4 wc)
    case first =>
      have HCI := Lib.hid (insideRef_any w4 v t h.region n (HT.out.kept (HK0.out.trans HK4.out)) (by have := HSZ.out; omega))
      unfold TabV.cells at HCI
      cases h1 : insideR t h.region n
      · rw [h1] at HCI HWH
        have HX4 := Lib.hid HBX.out
        clear x0
        go_wp2_with (go_at_call 32; refine HCI.out.mono ?_; rintro e w5 ⟨rfl, hk5⟩; have HK5 := Lib.hid hk5; have x0 := ent_cell (x := x) (hk5.obj HX4.out (by simp)) 0 rfl; clear hk5)
        go_meet
        exact ⟨by rw [HWH.out]; simp, HK5.out⟩
      · rw [h1] at HCI HWH
        have HWH2 : Hid (wholeB t h n = true) := by rw [Hid, HWH.out]; simp
        go_wp2_with (go_at_call 32; refine HCI.out.mono ?_; rintro e w5 ⟨rfl, hk5⟩; have HK5 := Lib.hid hk5; clear hk5)
        go_meet
        exact ⟨by rw [HWH2.out], HK5.out⟩
    case rest =>
      obtain ⟨rfl, hk5⟩ := hcut
      obtain ⟨w5, rfl⟩ : ∃ w5 : World, w5 = wc := ⟨_, rfl⟩
      have HK5 := Lib.hid (HK4.out.trans hk5)
      have HBX5 := Lib.hid (hk5.obj HBX.out (by simp))
      clear hk5 x0 v0 v1 v2 v3 v4 u0 HBX HK4 HK1 HWH
      have HPB : Hid (partB x = (((x.kind == 2 && !x.generic) || x.kind == 12) || x.kind == 13)) := rfl
      have x0 := ent_cell (x := x) HBX5.out 0 rfl
      have x17 := ent_cell (x := x) HBX5.out 17 rfl
      have HSF := Lib.hid (selF_decl t h name n)
      rw [HXE.out] at HSF
      generalize wholeB t h n = b4 at *
      go_upto_region 6 with (fail)
      go_cut [12] (fun v12 wc => v12 = .bool (partB x) ∧ wc = w5)
      case first =>
        cases h1 : (x.kind == 2)
        · rw [h1] at HPB
          cases h2 : (x.kind == 12)
          · rw [h2] at HPB
            cases h3 : (x.kind == 13)
            · rw [h3] at HPB
              go_wp2_with fail
              go_meet
              exact ⟨by rw [HPB.out]; rfl, rfl⟩
            · rw [h3] at HPB
              go_wp2_with fail
              go_meet
              exact ⟨by rw [HPB.out]; rfl, rfl⟩
          · rw [h2] at HPB
            go_wp2_with fail
            go_meet
            exact ⟨by rw [HPB.out]; rfl, rfl⟩
        · rw [h1] at HPB
          have hk2' : x.kind = 2 := by simpa using h1
          cases h4 : x.generic
          · rw [h4] at HPB x17
            go_wp2_with fail
            go_meet
            exact ⟨by rw [HPB.out]; rfl, rfl⟩
          · rw [h4] at HPB x17
            have HPB2 : Hid (partB x = false) := by rw [Hid, HPB.out, hk2']; rfl
            rw [hk2'] at x0
            clear h1 HPB
            go_wp2_with fail
            go_meet
            exact ⟨by rw [HPB2.out], rfl⟩
      case rest =>
        obtain ⟨rfl, rfl⟩ := hcut
        obtain ⟨w6, rfl⟩ : ∃ w6 : World, w6 = wc := ⟨_, rfl⟩
        clear x0 x17 HBX5 HPB
        generalize partB x = b5 at *
        have HRR : Hid (selR t h u name = (declR t name h.after n).filter (selG t h n b4 b5)) := by rw [Hid, HR.out, HSF.out]
        have v0 : w6.cell? ⟨w.heap.size, 0, none⟩ = some (.slice v.ta t.types.length v.tc) := HC0.out _ HK5.out 0
        have v1 : w6.cell? ⟨w.heap.size, 1, none⟩ = some (.slice v.sa t.subs.length v.sc) := HC0.out _ HK5.out 1
        have v2 : w6.cell? ⟨w.heap.size, 2, none⟩ = some (.slice v.ea t.ents.length v.ec) := HC0.out _ HK5.out 2
        have v3 : w6.cell? ⟨w.heap.size, 3, none⟩ = some (.slice v.ga v.gn v.gc) := HC0.out _ HK5.out 3
        have v4 : w6.cell? ⟨w.heap.size, 4, none⟩ = some (.slice v.ia v.im v.ic) := HC0.out _ HK5.out 4
        have u0 : w6.cell? ⟨w.heap.size + 1, 0, none⟩ = some (.int .i64 h.region) := HC1.out _ HK5.out 0
        have u1 : w6.cell? ⟨w.heap.size + 1, 1, none⟩ = some (.int .i64 h.after) := HC1.out _ HK5.out 1
        have u2 : w6.cell? ⟨w.heap.size + 1, 2, none⟩ = some (.slice h.ua h.units.length h.uc) := HC1.out _ HK5.out 2
        have u3 : w6.cell? ⟨w.heap.size + 1, 3, none⟩ = some (.slice h.sa h.uses.length h.sc) := HC1.out _ HK5.out 3
        have HCD := Lib.hid (declared_any w6 v t h n name (HT.out.kept (HK0.out.trans HK5.out)) (by have := HSZ.out; omega))
        unfold TabV.cells WhV.cells at HCD
        have HROWD : Hid (∀ e, e ∈ declR t name h.after n → (rowR t e).isSome = true) := fun e he => declR_row he
        have HDL : Hid ((declR t name h.after n).length ≤ 5000) := Nat.le_trans (declR_len _ _ _ _) HSZ.out
        clear HSF
        generalize declR t name h.after n = d at *
        go_upto_region 9 with (go_at_call 53; refine HCD.out.mono ?_; rintro e wd ⟨vd, rfl, hod, hkd⟩; have HOD := Lib.hid hod; have HKD := Lib.hid (HK5.out.trans hkd); clear hod hkd)
        obtain ⟨A14, c14, rfl⟩ := own_shape HOD.out
        obtain ⟨_, hind, h141, h142, _⟩ := (IntsC.of_owns HOD.out).at_
        have HIND := Lib.hid hind
        clear v0 v1 v2 v3 v4 u0 u1 u2 u3 HCD hind
        go_wp2_with fail
        go_loopw [13, 15] (fun l i wr => ∃ k : Nat, k ≤ d.length ∧ i = .int .i64 k ∧ wr.ownsRow wd.heap.size 3 1 l ((d.take k).filter (selG t h n b4 b5)).length (((d.take k).filter (selG t h n b4 b5)).map (Value.int .i64)) ∧ Kept [] wd wr) (fun _ i _ => d.length - (intOf i).toNat)
        case atStart => exact ⟨0, Nat.zero_le _, rfl, World.ownsRow_nil _ _ _ _, Kept.refl _ _⟩
        case round =>
          obtain ⟨q, hq, rfl, ho, hkr⟩ := hrel
          obtain ⟨A13, c13, rfl⟩ := own_shape ho
          obtain ⟨wi, rfl⟩ : ∃ wi : World, wi = wr := ⟨_, rfl⟩
          have HO := Lib.hid ho
          have HKR := Lib.hid hkr
          clear ho hkr
          by_cases hlq : q < d.length
          · obtain ⟨e, he⟩ : ∃ e, d[q]? = some e := ⟨_, List.getElem?_eq_getElem hlq⟩
            obtain ⟨m, y, rfl, hy, hye⟩ := row_at (HROWD.out e (List.mem_of_getElem? he))
            have hml := (List.getElem?_eq_some_iff.1 hy).1
            have HFT := Lib.hid (filter_take (p := selG t h n b4 b5) he)
            have HSG : Hid (selG t h n b4 b5 (m : Int) = (((n : Int) != 0 || namedR t h m y) && (b4 || (b5 && y.part == 0)))) := by rw [Hid, selG, hye]
            rcases HIND.out with hn | ⟨b14, o14, rfl, hc14⟩
            · rw [hn] at hlq; simp at hlq
            have q14 := HKR.out.cell (hc14 q _ he) (by simp)
            have HQ14 := Lib.hid q14
            have hkk := HKD.out.trans HKR.out
            have HKK := Lib.hid hkk
            have hfl : ((d.take q).filter (selG t h n b4 b5)).length ≤ q := Nat.le_trans (List.length_filter_le _ _) (by simp; omega)
            have j1 : (0 : Int) ≤ (q : Int) := by omega
            have j2 : (q : Int) < (d.length : Int) := by omega
            have j3 : (0 : Int) ≤ (m : Int) := by omega
            have j4 : (m : Int) < (t.ents.length : Int) := by omega
            have v0 : ∀ z : After wi, z.1.cell? ⟨w.heap.size, 0, none⟩ = some (.slice v.ta t.types.length v.tc) := After.cell (HC0.out _ hkk 0)
            have v1 : ∀ z : After wi, z.1.cell? ⟨w.heap.size, 1, none⟩ = some (.slice v.sa t.subs.length v.sc) := After.cell (HC0.out _ hkk 1)
            have v2 : ∀ z : After wi, z.1.cell? ⟨w.heap.size, 2, none⟩ = some (.slice v.ea t.ents.length v.ec) := After.cell (HC0.out _ hkk 2)
            have v3 : ∀ z : After wi, z.1.cell? ⟨w.heap.size, 3, none⟩ = some (.slice v.ga v.gn v.gc) := After.cell (HC0.out _ hkk 3)
            have v4 : ∀ z : After wi, z.1.cell? ⟨w.heap.size, 4, none⟩ = some (.slice v.ia v.im v.ic) := After.cell (HC0.out _ hkk 4)
            have u0 : ∀ z : After wi, z.1.cell? ⟨w.heap.size + 1, 0, none⟩ = some (.int .i64 h.region) := After.cell (HC1.out _ hkk 0)
            have u1 : ∀ z : After wi, z.1.cell? ⟨w.heap.size + 1, 1, none⟩ = some (.int .i64 h.after) := After.cell (HC1.out _ hkk 1)
            have u2 : ∀ z : After wi, z.1.cell? ⟨w.heap.size + 1, 2, none⟩ = some (.slice h.ua h.units.length h.uc) := After.cell (HC1.out _ hkk 2)
            have u3 : ∀ z : After wi, z.1.cell? ⟨w.heap.size + 1, 3, none⟩ = some (.slice h.sa h.uses.length h.sc) := After.cell (HC1.out _ hkk 3)
            have g14 := After.cell q14
            have gy : ∀ z : After wi, z.1.cell? ⟨b, o + m * 22 + 3, none⟩ = some (.int .u8 y.part) := After.cell ((HK0.out.trans hkk).cell (HRS.out m y hy 3 _ rfl) (by simp))
            rw [HEA.out] at v2
            have HVT : Hid (v.cells t = #[.slice v.ta t.types.length v.tc, .slice v.sa t.subs.length v.sc, .slice (some ⟨b, o, none⟩) t.ents.length v.ec, .slice v.ga v.gn v.gc, .slice v.ia v.im v.ic]) := by rw [Hid, ← HEA.out]; rfl
            have HCN : Hid (∀ z : After wi, Calls Try.prog 54 #[.agg #[.slice v.ta t.types.length v.tc, .slice v.sa t.subs.length v.sc, .slice (some ⟨b, o, none⟩) t.ents.length v.ec, .slice v.ga v.gn v.gc, .slice v.ia v.im v.ic], .agg #[.int .i64 h.region, .int .i64 h.after, .slice h.ua h.units.length h.uc, .slice h.sa h.uses.length h.sc], .int .i64 m] z.1 (RetB (namedR t h m y) z.1)) := fun z => by
              rw [← HVT.out]
              exact namedRef_any z.1 v t h m y hy (HT.out.kept (HK0.out.trans (HKK.out.trans z.2))) (HH.out.kept (HK0.out.trans (HKK.out.trans z.2))) (by have := HSZ.out; omega)
            clear hkk q14 he hy hye hc14
            go_upto_region 12 with (fail)
            cases h1 : ((n : Int) != 0)
            · rw [h1] at HSG
              cases h2 : namedR t h m y
              · rw [h2] at HSG HCN
                clear h2
                refine wp_region_after (by kernel_rfl) (by kernel_rfl) ?_
                iterate 9 (go_big_quiet_step (fail))
                go_big_quiet_step (exact Calls.after_b (HCN.out _))
                repeat (go_big_quiet_step (fail))
                refine wpQuiet_nil ?_
                rintro w' ⟨z, rfl⟩
                obtain ⟨w2, hk2⟩ := z
                have HN : Hid ((d.take (q + 1)).filter (selG t h n b4 b5) = (d.take q).filter (selG t h n b4 b5)) := by rw [Hid, HFT.out, HSG.out]; simp
                go_wp2_with fail
                go_roundw
                case rel => exact ⟨q + 1, by omega, by go_num, by rw [HN.out]; exact own_keep HO.out hk2 (by simp), HKR.out.trans hk2⟩
                case measure => simp [intOf]; omega
              · rw [h2] at HSG HCN
                clear h2
                cases b4
                · cases b5
                  · refine wp_region_after (by kernel_rfl) (by kernel_rfl) ?_
                    iterate 9 (go_big_quiet_step (fail))
                    go_big_quiet_step (exact Calls.after_b (HCN.out _))
                    repeat (go_big_quiet_step (fail))
                    refine wpQuiet_nil ?_
                    rintro w' ⟨z, rfl⟩
                    obtain ⟨w2, hk2⟩ := z
                    have HN : Hid ((d.take (q + 1)).filter (selG t h n false false) = (d.take q).filter (selG t h n false false)) := by rw [Hid, HFT.out, HSG.out]; simp
                    go_wp2_with fail
                    go_roundw
                    case rel => exact ⟨q + 1, by omega, by go_num, by rw [HN.out]; exact own_keep HO.out hk2 (by simp), HKR.out.trans hk2⟩
                    case measure => simp [intOf]; omega
                  · cases h3 : (y.part == 0)
                    · rw [h3] at HSG
                      refine wp_region_after (by kernel_rfl) (by kernel_rfl) ?_
                      iterate 9 (go_big_quiet_step (fail))
                      go_big_quiet_step (exact Calls.after_b (HCN.out _))
                      repeat (go_big_quiet_step (fail))
                      refine wpQuiet_nil ?_
                      rintro w' ⟨z, rfl⟩
                      obtain ⟨w2, hk2⟩ := z
                      have HN : Hid ((d.take (q + 1)).filter (selG t h n false true) = (d.take q).filter (selG t h n false true)) := by rw [Hid, HFT.out, HSG.out]; simp
                      go_wp2_with fail
                      go_roundw
                      case rel => exact ⟨q + 1, by omega, by go_num, by rw [HN.out]; exact own_keep HO.out hk2 (by simp), HKR.out.trans hk2⟩
                      case measure => simp [intOf]; omega
                    · rw [h3] at HSG
                      refine wp_region_after (by kernel_rfl) (by kernel_rfl) ?_
                      iterate 9 (go_big_quiet_step (fail))
                      go_big_quiet_step (exact Calls.after_b (HCN.out _))
                      repeat (go_big_quiet_step (fail))
                      refine wpQuiet_nil ?_
                      rintro w' ⟨z, rfl⟩
                      obtain ⟨w2, hk2⟩ := z
                      have HN : Hid ((d.take (q + 1)).filter (selG t h n false true) = (d.take q).filter (selG t h n false true) ++ [(m : Int)]) := by rw [Hid, HFT.out, HSG.out]; simp
                      have HKR3 := Lib.hid (HKR.out.trans hk2)
                      have HO3 := Lib.hid (own_keep HO.out hk2 (by simp))
                      have cq := hk2.cell HQ14.out (by simp)
                      clear v0 v1 v2 v3 v4 u0 u1 u2 u3 g14 gy HCN HFT
                      change Exit.then _ _ _ _ w2
                      generalize (d.take q).filter (selG t h n false true) = zs at *
                      have hA : zs.length + 1 ≤ maxLen := by have := HDL.out; unfold maxLen; omega
                      have hB : (zs.length + 1) * 8 ≤ 140737488355328 := by have := HDL.out; omega
                      have hC : Hid (wd.heap.size ≤ (w2.alloc (.cells #[.int .i64 m] 3)).heap.size) := by have := HKR3.out.size; rw [Hid]; simp; omega
                      go_wp2_with (at_builtin; refine wpList_append_own _ rfl _ _ 29 rfl wd.heap.size 3 i0 (.int .i64 0) 1 8 Try.underlying29 hi hz0 hz1 hz2 rfl (by decide) (.slice A13 zs.length c13) zs.length (zs.map (Value.int .i64)) rfl (HO3.out.alloc _) ⟨w2.heap.size, 0, none⟩ 1 1 [.int .i64 m] rfl rfl (cell_one_new _ _ _) (one_int _ _) hA hB hC.out ?_; intro vb wb hob hgb _; have HOB := Lib.hid hob; have HKB := Lib.hid ((HKR3.out.trans (Kept.alloc _ _ _)).grown hgb (fun q hq => own_at HO3.out q hq)); clear hob hgb)
                      go_roundw
                      case rel => exact ⟨q + 1, by omega, by go_num, by rw [HN.out]; simpa using HOB.out, HKB.out⟩
                      case measure => simp [intOf]; omega
                · refine wp_region_after (by kernel_rfl) (by kernel_rfl) ?_
                  iterate 9 (go_big_quiet_step (fail))
                  go_big_quiet_step (exact Calls.after_b (HCN.out _))
                  repeat (go_big_quiet_step (fail))
                  refine wpQuiet_nil ?_
                  rintro w' ⟨z, rfl⟩
                  obtain ⟨w2, hk2⟩ := z
                  have HN : Hid ((d.take (q + 1)).filter (selG t h n true b5) = (d.take q).filter (selG t h n true b5) ++ [(m : Int)]) := by rw [Hid, HFT.out, HSG.out]; simp
                  have HKR3 := Lib.hid (HKR.out.trans hk2)
                  have HO3 := Lib.hid (own_keep HO.out hk2 (by simp))
                  have cq := hk2.cell HQ14.out (by simp)
                  clear v0 v1 v2 v3 v4 u0 u1 u2 u3 g14 gy HCN HFT
                  change Exit.then _ _ _ _ w2
                  generalize (d.take q).filter (selG t h n true b5) = zs at *
                  have hA : zs.length + 1 ≤ maxLen := by have := HDL.out; unfold maxLen; omega
                  have hB : (zs.length + 1) * 8 ≤ 140737488355328 := by have := HDL.out; omega
                  have hC : Hid (wd.heap.size ≤ (w2.alloc (.cells #[.int .i64 m] 3)).heap.size) := by have := HKR3.out.size; rw [Hid]; simp; omega
                  go_wp2_with (at_builtin; refine wpList_append_own _ rfl _ _ 29 rfl wd.heap.size 3 i0 (.int .i64 0) 1 8 Try.underlying29 hi hz0 hz1 hz2 rfl (by decide) (.slice A13 zs.length c13) zs.length (zs.map (Value.int .i64)) rfl (HO3.out.alloc _) ⟨w2.heap.size, 0, none⟩ 1 1 [.int .i64 m] rfl rfl (cell_one_new _ _ _) (one_int _ _) hA hB hC.out ?_; intro vb wb hob hgb _; have HOB := Lib.hid hob; have HKB := Lib.hid ((HKR3.out.trans (Kept.alloc _ _ _)).grown hgb (fun q hq => own_at HO3.out q hq)); clear hob hgb)
                  go_roundw
                  case rel => exact ⟨q + 1, by omega, by go_num, by rw [HN.out]; simpa using HOB.out, HKB.out⟩
                  case measure => simp [intOf]; omega
            · rw [h1] at HSG
              cases b4
              · cases b5
                · refine wp_region_after (by kernel_rfl) (by kernel_rfl) ?_
                  repeat (go_big_quiet_step (fail))
                  refine wpQuiet_nil ?_
                  rintro w' ⟨z, rfl⟩
                  obtain ⟨w2, hk2⟩ := z
                  have HN : Hid ((d.take (q + 1)).filter (selG t h n false false) = (d.take q).filter (selG t h n false false)) := by rw [Hid, HFT.out, HSG.out]; simp
                  go_wp2_with fail
                  go_roundw
                  case rel => exact ⟨q + 1, by omega, by go_num, by rw [HN.out]; exact own_keep HO.out hk2 (by simp), HKR.out.trans hk2⟩
                  case measure => simp [intOf]; omega
                · cases h3 : (y.part == 0)
                  · rw [h3] at HSG
                    refine wp_region_after (by kernel_rfl) (by kernel_rfl) ?_
                    repeat (go_big_quiet_step (fail))
                    refine wpQuiet_nil ?_
                    rintro w' ⟨z, rfl⟩
                    obtain ⟨w2, hk2⟩ := z
                    have HN : Hid ((d.take (q + 1)).filter (selG t h n false true) = (d.take q).filter (selG t h n false true)) := by rw [Hid, HFT.out, HSG.out]; simp
                    go_wp2_with fail
                    go_roundw
                    case rel => exact ⟨q + 1, by omega, by go_num, by rw [HN.out]; exact own_keep HO.out hk2 (by simp), HKR.out.trans hk2⟩
                    case measure => simp [intOf]; omega
                  · rw [h3] at HSG
                    refine wp_region_after (by kernel_rfl) (by kernel_rfl) ?_
                    repeat (go_big_quiet_step (fail))
                    refine wpQuiet_nil ?_
                    rintro w' ⟨z, rfl⟩
                    obtain ⟨w2, hk2⟩ := z
                    have HN : Hid ((d.take (q + 1)).filter (selG t h n false true) = (d.take q).filter (selG t h n false true) ++ [(m : Int)]) := by rw [Hid, HFT.out, HSG.out]; simp
                    have HKR3 := Lib.hid (HKR.out.trans hk2)
                    have HO3 := Lib.hid (own_keep HO.out hk2 (by simp))
                    have cq := hk2.cell HQ14.out (by simp)
                    clear v0 v1 v2 v3 v4 u0 u1 u2 u3 g14 gy HCN HFT
                    change Exit.then _ _ _ _ w2
                    generalize (d.take q).filter (selG t h n false true) = zs at *
                    have hA : zs.length + 1 ≤ maxLen := by have := HDL.out; unfold maxLen; omega
                    have hB : (zs.length + 1) * 8 ≤ 140737488355328 := by have := HDL.out; omega
                    have hC : Hid (wd.heap.size ≤ (w2.alloc (.cells #[.int .i64 m] 3)).heap.size) := by have := HKR3.out.size; rw [Hid]; simp; omega
                    go_wp2_with (at_builtin; refine wpList_append_own _ rfl _ _ 29 rfl wd.heap.size 3 i0 (.int .i64 0) 1 8 Try.underlying29 hi hz0 hz1 hz2 rfl (by decide) (.slice A13 zs.length c13) zs.length (zs.map (Value.int .i64)) rfl (HO3.out.alloc _) ⟨w2.heap.size, 0, none⟩ 1 1 [.int .i64 m] rfl rfl (cell_one_new _ _ _) (one_int _ _) hA hB hC.out ?_; intro vb wb hob hgb _; have HOB := Lib.hid hob; have HKB := Lib.hid ((HKR3.out.trans (Kept.alloc _ _ _)).grown hgb (fun q hq => own_at HO3.out q hq)); clear hob hgb)
                    go_roundw
                    case rel => exact ⟨q + 1, by omega, by go_num, by rw [HN.out]; simpa using HOB.out, HKB.out⟩
                    case measure => simp [intOf]; omega
              · refine wp_region_after (by kernel_rfl) (by kernel_rfl) ?_
                repeat (go_big_quiet_step (fail))
                refine wpQuiet_nil ?_
                rintro w' ⟨z, rfl⟩
                obtain ⟨w2, hk2⟩ := z
                have HN : Hid ((d.take (q + 1)).filter (selG t h n true b5) = (d.take q).filter (selG t h n true b5) ++ [(m : Int)]) := by rw [Hid, HFT.out, HSG.out]; simp
                have HKR3 := Lib.hid (HKR.out.trans hk2)
                have HO3 := Lib.hid (own_keep HO.out hk2 (by simp))
                have cq := hk2.cell HQ14.out (by simp)
                clear v0 v1 v2 v3 v4 u0 u1 u2 u3 g14 gy HCN HFT
                change Exit.then _ _ _ _ w2
                generalize (d.take q).filter (selG t h n true b5) = zs at *
                have hA : zs.length + 1 ≤ maxLen := by have := HDL.out; unfold maxLen; omega
                have hB : (zs.length + 1) * 8 ≤ 140737488355328 := by have := HDL.out; omega
                have hC : Hid (wd.heap.size ≤ (w2.alloc (.cells #[.int .i64 m] 3)).heap.size) := by have := HKR3.out.size; rw [Hid]; simp; omega
                go_wp2_with (at_builtin; refine wpList_append_own _ rfl _ _ 29 rfl wd.heap.size 3 i0 (.int .i64 0) 1 8 Try.underlying29 hi hz0 hz1 hz2 rfl (by decide) (.slice A13 zs.length c13) zs.length (zs.map (Value.int .i64)) rfl (HO3.out.alloc _) ⟨w2.heap.size, 0, none⟩ 1 1 [.int .i64 m] rfl rfl (cell_one_new _ _ _) (one_int _ _) hA hB hC.out ?_; intro vb wb hob hgb _; have HOB := Lib.hid hob; have HKB := Lib.hid ((HKR3.out.trans (Kept.alloc _ _ _)).grown hgb (fun q hq => own_at HO3.out q hq)); clear hob hgb)
                go_roundw
                case rel => exact ⟨q + 1, by omega, by go_num, by rw [HN.out]; simpa using HOB.out, HKB.out⟩
                case measure => simp [intOf]; omega
          · obtain rfl : q = d.length := by omega
            have HO4 := HO
            rw [List.take_length] at HO4
            rw [List.take_length]
            go_wp2_with fail
            go_ret
            exact ⟨_, rfl, by rw [HRR.out]; exact IntsC.of_owns HO4.out, HK0.out.trans (HKD.out.trans HKR.out)⟩
end Go.Proofs.Ytlgcboaojdhneaa
