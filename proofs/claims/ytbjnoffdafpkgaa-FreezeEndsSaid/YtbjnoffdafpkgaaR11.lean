/- The reference's Check, behind, Frozen. The reference's behind. The reference's Check and Frozen, for all events. -/
import Derived.Test.YtbjnoffdafpkgaaR8
import Derived.Test.YtbjnoffdafpkgaaW1
namespace Go.Proofs.Ytbjnoffdafpkgaa
open Go.RowKit

theorem exists_kind {n : Nat} {x : EvV} (h : existsF n x = true) : x.kind = 1 ∨ x.kind = 2 ∨ x.kind = 3 ∨ x.kind = 4 ∨ x.kind = 5 ∨ x.kind = 6 ∨ x.kind = 7 ∨ x.kind = 8 ∨ x.kind = 9 := by
  unfold existsF at h
  by_cases h1 : (x.kind == 1 || x.kind == 2 || x.kind == 3 || x.kind == 4) = true
  · simp at h1; omega
  · rw [if_neg h1] at h
    by_cases h5 : (x.kind == 5) = true
    · simp at h5; omega
    · rw [if_neg h5] at h
      by_cases h6 : (x.kind == 6 || x.kind == 7) = true
      · simp at h6; omega
      · rw [if_neg h6] at h
        simp at h; omega
theorem next_any (w : World) (s : StV) (r : RS) (v : TabV) (t : Tab) (x : EvV) (hA : NAsk w s r v t) (hx : existsF t.types.length x = true) :
    Calls Try.prog 22 #[.agg (s.cells r), .agg (v.cells t), x.val] w (RetS (nextR t r x) w) := by
  have hk := exists_kind hx
  obtain ⟨kind, ty, num⟩ := x
  dsimp only at hk
  rcases hk with rfl | rfl | rfl | rfl | rfl | rfl | rfl | rfl | rfl
  · exact next1 w s r v t ty num hA hx
  · exact next2 w s r v t ty num hA hx
  · exact next3 w s r v t ty num hA hx
  · exact next4 w s r v t ty num hA hx
  · exact next5 w s r v t ty num hA hx
  · exact next6 w s r v t ty num hA hx
  · exact next7 w s r v t ty num hA hx
  · exact next8 w s r v t ty num hA hx
  · exact next9 w s r v t ty num hA hx

theorem freezeR_com (t : Tab) (r : RS) (x : Int) : (freezeR t r x).1.com = r.com := by unfold freezeR; split <;> rfl
theorem foldF_com (t : Tab) : ∀ (l : List Int) (r : RS), (foldF t l r).com = r.com := by
  intro l
  induction l with
  | nil => intro r; rfl
  | cons x l ih => intro r; exact (ih _).trans (freezeR_com t r x)
theorem foldF_con (t : Tab) : ∀ (l : List Int) (r : RS), (foldF t l r).con = r.con := by
  intro l
  induction l with
  | nil => intro r; rfl
  | cons x l ih => intro r; exact (ih _).trans (freezeR_con t r x)
/-- How much a state has grown. -/
def Le3 (r r' : RS) : Prop := r'.dec.length ≤ r.dec.length + 1 ∧ r'.com.length ≤ r.com.length + 1 ∧ r'.con.length ≤ r.con.length + 1
theorem Le3.refl (r : RS) : Le3 r r := ⟨by omega, by omega, by omega⟩
theorem freezeR_le3 (t : Tab) (r : RS) (x : Int) : Le3 r (freezeR t r x).1 := by
  refine ⟨?_, ?_, ?_⟩
  · rw [freezeR_dec]; omega
  · rw [freezeR_com]; omega
  · rw [freezeR_con]; omega
theorem nextR_le3 (t : Tab) (r : RS) (x : EvV) : Le3 r (nextR t r x).1 := by
  unfold nextR
  split
  · split
    · exact Le3.refl r
    · refine ⟨withR_len _ _, ?_, by dsimp only; omega⟩
      dsimp only
      split
      · exact withR_len _ _
      · omega
  · split
    · split
      · exact Le3.refl r
      · exact ⟨by dsimp only; omega, withR_len _ _, by dsimp only; omega⟩
    · split
      · exact freezeR_le3 t r _
      · split
        · split
          · exact Le3.refl r
          · exact ⟨by dsimp only; omega, by dsimp only; omega, by simp⟩
        · split
          · split
            · exact Le3.refl r
            · split
              · exact Le3.refl r
              · split
                · refine ⟨?_, ?_, ?_⟩
                  · dsimp only; rw [freezeR_dec]; omega
                  · dsimp only; rw [freezeR_com]; omega
                  · dsimp only; rw [doneAt_len]; omega
                · exact Le3.refl r
          · split
            · split
              · exact Le3.refl r
              · exact Le3.refl r
            · unfold endsR
              split
              · exact Le3.refl r
              · split
                · exact Le3.refl r
                · show Le3 r (foldF t r.dec r)
                  refine ⟨?_, ?_, ?_⟩
                  · rw [foldF_dec]; omega
                  · rw [foldF_com]; omega
                  · rw [foldF_con]; omega

theorem badAt_at {n : Nat} {l : List EvV} {j : Nat} {x : EvV} (hx : l[j]? = some x) (he : existsF n x = false) (hall : ∀ y, y ∈ l.take j → existsF n y = true) : badAt n l = some j := by
  obtain ⟨hj, rfl⟩ := List.getElem?_eq_some_iff.1 hx
  unfold badAt
  rw [List.findIdx?_eq_some_iff_getElem]
  refine ⟨hj, by simp [he], fun i hi => ?_⟩
  have := hall l[i] (by
    rw [List.mem_iff_getElem?]
    exact ⟨i, by rw [List.getElem?_take, if_pos hi]; exact List.getElem?_eq_getElem (by omega)⟩)
  simp [this]

theorem mem_take_succ {α : Type} {l : List α} {j : Nat} {x y : α} (hx : l[j]? = some x) (hy : y ∈ l.take (j + 1)) : y ∈ l.take j ∨ y = x := by
  obtain ⟨h1, rfl⟩ := List.getElem?_eq_some_iff.1 hx
  rw [List.take_succ_eq_append_getElem h1, List.mem_append, List.mem_singleton] at hy
  exact hy

/-- The loop over the events: what is left to do. -/
structure GInv (t : Tab) (l : List EvV) (j : Nat) (r : RS) : Prop where
  go : goR t RS.zero l 0 = goR t r (l.drop j) j
  inv : RInv t r
  dl : r.dec.length ≤ j
  ml : r.com.length ≤ j
  kl : r.con.length ≤ j
theorem GInv.start (t : Tab) (l : List EvV) : GInv t l 0 RS.zero := ⟨rfl, RInv.zero t, by simp [RS.zero], by simp [RS.zero], by simp [RS.zero]⟩
theorem GInv.next {t : Tab} {l : List EvV} {j : Nat} {r rn : RS} {x : EvV} (h : GInv t l j r) (hx : l[j]? = some x) (he : existsF t.types.length x = true) (hn : nextR t r x = (rn, true)) : GInv t l (j + 1) rn := by
  have h3 := nextR_le3 t r x
  have hg := (nextR_grows h.inv he).1
  rw [hn] at h3 hg
  obtain ⟨h1, rfl⟩ := List.getElem?_eq_some_iff.1 hx
  refine ⟨?_, hg, Nat.le_trans h3.1 (Nat.succ_le_succ h.dl), Nat.le_trans h3.2.1 (Nat.succ_le_succ h.ml), Nat.le_trans h3.2.2 (Nat.succ_le_succ h.kl)⟩
  rw [h.go, List.drop_eq_getElem_cons h1, goR, hn]
  rfl
theorem GInv.stop {t : Tab} {l : List EvV} {j : Nat} {r rn : RS} {x : EvV} (h : GInv t l j r) (hx : l[j]? = some x) (hn : nextR t r x = (rn, false)) : goR t RS.zero l 0 = (some j, r) := by
  obtain ⟨h1, rfl⟩ := List.getElem?_eq_some_iff.1 hx
  rw [h.go, List.drop_eq_getElem_cons h1, goR, hn]
  rfl
theorem GInv.last {t : Tab} {l : List EvV} {j : Nat} {r : RS} (h : GInv t l j r) (hj : l.length ≤ j) : goR t RS.zero l 0 = (none, r) := by
  rw [h.go, List.drop_eq_nil_of_le hj]; rfl
theorem GInv.ask {t : Tab} {l : List EvV} {j : Nat} {r : RS} {w : World} {s : StV} {v : TabV} (h : GInv t l j r) (hj : j ≤ 1000) (hs : StIn w s r) (hT : TabIn w v t) (hsm : Small t) (hN : t.types.length ≤ 1000) : NAsk w s r v t :=
  ⟨hs, hT, hsm, hN, h.inv, by have := h.dl; omega, by have := h.ml; omega, by have := h.kl; omega⟩

theorem EvsIn.cells {w : World} {b o j : Nat} {x : EvV} (h : w.rangeAt b (o + j * 3) x.cells) : w.cell? ⟨b, o + j * 3, none⟩ = some (.int .u8 x.kind) ∧ w.cell? ⟨b, o + j * 3 + 1, none⟩ = some (.int .i64 x.ty) ∧ w.cell? ⟨b, o + j * 3 + 2, none⟩ = some (.int .i64 x.num) :=
  ⟨h 0 _ rfl, h 1 _ rfl, h 2 _ rfl⟩

set_option maxRecDepth 100000 in
set_option maxHeartbeats 4000000 in
theorem refCheck_none (w : World) (v : TabV) (t : Tab) (a : Option Addr) (c : Nat) : Calls Try.prog 10 #[.agg (v.cells t), .slice a 0 c] w (RetChk (0, 0) w) := by
  unfold TabV.cells
  go_enter Try.func10, Try.ntmps10
  go_wp2_with fail
  go_loop [6] (fun i => i = .int .i64 0) (fun _ => 0)
  case atStart => rfl
  case round =>
    subst hrel
    go_wp2_with fail
    go_loop [8] (fun i => i = .int .i64 0) (fun _ => 0)
    case atStart => rfl
    case round =>
      subst hrel
      go_wp2_with fail
      go_ret2
      exact ⟨rfl, (Kept.alloc _ _ _).trans (Kept.alloc _ _ _)⟩

set_option maxRecDepth 100000 in
set_option maxHeartbeats 4000000 in
theorem refCheck_some (w : World) (v : TabV) (t : Tab) (b o : Nat) (c : Nat) (l : List EvV) (hT : TabIn w v t) (hs : Small t) (hN : t.types.length ≤ 1000) (hl : ∀ j x, l[j]? = some x → w.rangeAt b (o + j * 3) x.cells) (hlen : l.length ≤ 1000) :
    Calls Try.prog 10 #[.agg (v.cells t), .slice (some ⟨b, o, none⟩) l.length c] w (RetChk (checkR t l) w) := by
  have HT := Lib.hid hT
  have HS := Lib.hid hs
  have HL := Lib.hid hl
  have hn := hT.2.2.1
  clear hT hs hl
  unfold TabV.cells
  go_enter Try.func10, Try.ntmps10
  go_upto_region 1 with (fail)
  refine wp_gen ?_
  intro w1 hw1
  have hk1 : Kept [] w w1 := by rw [hw1]; exact Kept.alloc _ _ _
  have HTB : Hid (TBox v t w.heap.size w1) := TBox.of_block (by rw [hw1]; exact heap_alloc_new _ _) (HT.out.kept (hk1.toBelow (Nat.le_refl _) (by simp)))
  have HK1 := Lib.hid hk1
  have HEV : Hid (∀ j x, l[j]? = some x → w1.rangeAt b (o + j * 3) x.cells) := fun j x hx i u hu => hk1.cell (HL.out j x hx i u hu) (by simp)
  clear hk1 hw1 HL
  go_upto_block 0 with (fail)
  go_cut [] (fun wc => (∀ x, x ∈ l → existsF t.types.length x = true) ∧ Kept [] w1 wc)
  case first =>
    go_wp2_with fail
    go_loopw [6] (fun i wr => ∃ j : Nat, j ≤ l.length ∧ i = .int .i64 j ∧ (∀ x, x ∈ l.take j → existsF t.types.length x = true) ∧ Kept [] w1 wr) (fun i _ => l.length - (intOf i).toNat)
    case atStart => exact ⟨0, Nat.zero_le _, rfl, by simp, Kept.refl _ _⟩
    case round =>
      obtain ⟨j, hj, rfl, hall, hkr⟩ := hrel
      have HALL := Lib.hid hall
      have HKR := Lib.hid hkr
      clear hall hkr
      by_cases hlt : j < l.length
      · obtain ⟨x, hx⟩ : ∃ x, l[j]? = some x := ⟨_, List.getElem?_eq_getElem hlt⟩
        have HKD := Lib.hid (HKR.out.trans (Kept.drew [] wr))
        obtain ⟨c0, c1, c2, c3, c4, _⟩ := HTB.out.kept HKD.out
        obtain ⟨x0, x1, x2⟩ := EvsIn.cells (HEV.out j x hx)
        replace x0 := HKD.out.cell x0 (by simp)
        replace x1 := HKD.out.cell x1 (by simp)
        replace x2 := HKD.out.cell x2 (by simp)
        have HX := Lib.hid hx
        clear hx
        go_upto_region 4 with (fail)
        go_still_tail 5, (by kernel_rfl)
        change wpList _ _ _ _ _ wr.drew
        go_wp2_with fail
        refine (refExistsEv_any wr.drew v t x hn).mono ?_
        rintro e w5 ⟨rfl, hk5⟩
        have HK5 := Lib.hid (HKD.out.trans hk5)
        clear hk5 c0 c1 c2 c3 c4 x0 x1 x2 HKD
        cases he : existsF t.types.length x
        · have HRES : Hid (checkR t l = ((j : Int), 2)) := by
            rw [Hid]; unfold checkR; rw [badAt_at HX.out he HALL.out]
          clear he
          go_wp2_with fail
          go_ret2
          rw [HRES.out]
          exact ⟨rfl, HK1.out.trans HK5.out⟩
        · have HAN : Hid (∀ y, y ∈ l.take (j + 1) → existsF t.types.length y = true) := fun y hy => by
            rcases mem_take_succ HX.out hy with h | rfl
            · exact HALL.out y h
            · exact he
          clear he
          go_wp2_with fail
          go_roundw
          case rel => exact ⟨j + 1, by omega, by go_num, HAN.out, HK5.out⟩
          case measure => simp [intOf]; omega
      · obtain rfl : j = l.length := by omega
        have HF : Hid (l.take l.length = l) := List.take_length
        go_wp2_with fail
        go_meet
        rw [HF.out] at HALL
        exact ⟨HALL.out, HKR.out⟩
  case rest =>
    obtain ⟨hall, hkc⟩ := hcut
    have HALL := Lib.hid hall
    have HBAD : Hid (badAt t.types.length l = none) := badAt_none_iff.2 hall
    obtain ⟨w3, rfl⟩ : ∃ w3 : World, w3 = wc := ⟨_, rfl⟩
    have HK3 := Lib.hid (HK1.out.trans hkc)
    have HTB3 := Lib.hid (HTB.out.kept hkc)
    have HEV3 : Hid (∀ j x, l[j]? = some x → w3.rangeAt b (o + j * 3) x.cells) := fun j x hx i u hu => hkc.cell (HEV.out j x hx i u hu) (by simp)
    have hle3 : w.heap.size < w3.heap.size := World.block_lt_of_cell? w3 _ HTB3.out.c0
    clear hall hkc HTB HEV HK1
    go_upto_region 7 with (fail)
    refine wp_gen ?_
    intro w2 hw2
    have hk2 : Kept [] w3 w2 := by rw [hw2]; exact Kept.alloc _ _ _
    have HRS : Hid (SRow w2 w3.heap.size ⟨none, 0, none, 0, none, 0, none, 0⟩ RS.zero) := by rw [Hid, SRow, hw2]; exact heap_alloc_new _ _
    have HTB2 := Lib.hid (HTB3.out.kept hk2)
    have HK2 := Lib.hid (HK3.out.trans hk2)
    have HEV2 : Hid (∀ j x, l[j]? = some x → w2.rangeAt b (o + j * 3) x.cells) := fun j x hx i u hu => hk2.cell (HEV3.out j x hx i u hu) (by simp)
    clear hw2 hk2 HTB3 HEV3 HK3
    generalize hSB : w3.heap.size = SB at *
    clear hSB
    have HNE : Hid (∀ j x, l[j]? = some x → b ∉ [SB]) := fun j x hx hm => by
      have hb : b = SB := by simpa using hm
      obtain ⟨x0, _, _⟩ := EvsIn.cells (HEV2.out j x hx)
      rw [hb] at x0
      obtain ⟨_, _, _, e⟩ := HRS.out.isSlice x0
      cases e
    go_wp2_with fail
    go_loopw [8] (fun i wr => ∃ j : Nat, j ≤ l.length ∧ i = .int .i64 j ∧ ∃ s2 rj, GInv t l j rj ∧ SRow wr SB s2 rj ∧ StIn wr s2 rj ∧ Kept [SB] w2 wr) (fun i _ => l.length - (intOf i).toNat)
    case atStart => exact ⟨0, Nat.zero_le _, rfl, _, _, GInv.start t l, HRS.out, ⟨IntsC.nil _, IntsC.nil _, IntsC.nil _, ⟨Nat.le_refl _, Nat.zero_le _, fun _ => rfl, .inl rfl⟩⟩, Kept.refl _ _⟩
    case round =>
      obtain ⟨j, hj, rfl, s2, rj, hgi, hrow, hst, hkr⟩ := hrel
      have HGI := Lib.hid hgi
      have HROW := Lib.hid hrow
      have HST := Lib.hid hst
      have HKR := Lib.hid hkr
      have HKW : Hid (Kept [] w wr) := HK2.out.trans0 hkr (by omega)
      have HTBr : Hid (TBox v t w.heap.size wr) := ⟨hkr.cell HTB2.out.c0 (by simp; omega), hkr.cell HTB2.out.c1 (by simp; omega), hkr.cell HTB2.out.c2 (by simp; omega), hkr.cell HTB2.out.c3 (by simp; omega), hkr.cell HTB2.out.c4 (by simp; omega), HT.out.kept (HKW.out.toBelow (Nat.le_refl _) (by simp))⟩
      have HEVr : Hid (∀ j x, l[j]? = some x → wr.rangeAt b (o + j * 3) x.cells) := fun j x hx i u hu => HKR.out.cell (HEV2.out j x hx i u hu) (HNE.out j x hx)
      clear hgi hrow hst hkr
      by_cases hlt : j < l.length
      · obtain ⟨x, hx⟩ : ∃ x, l[j]? = some x := ⟨_, List.getElem?_eq_getElem hlt⟩
        have g0 := HROW.out.c0
        have g1 := HROW.out.c1
        have g2 := HROW.out.c2
        have g3 := HROW.out.c3
        obtain ⟨c0, c1, c2, c3, c4, _⟩ := HTBr.out
        have HEX : Hid (existsF t.types.length x = true) := HALL.out x (List.mem_of_getElem? hx)
        obtain ⟨x0, x1, x2⟩ := EvsIn.cells (HEVr.out j x hx)
        have HX := Lib.hid hx
        clear hx
        have KP : Hid (∀ wx, Kept [] wr wx → (fun wx => wx.cell? ⟨SB, 0, none⟩ = some (.slice s2.dA rj.dec.length s2.dC) ∧ wx.cell? ⟨SB, 1, none⟩ = some (.slice s2.mA rj.com.length s2.mC) ∧ wx.cell? ⟨SB, 2, none⟩ = some (.slice s2.fA rj.frz.length s2.fC) ∧ wx.cell? ⟨SB, 3, none⟩ = some (.slice s2.kA rj.con.length s2.kC) ∧ wx.cell? ⟨w.heap.size, 0, none⟩ = some (.slice v.ta t.types.length v.tc) ∧ wx.cell? ⟨w.heap.size, 1, none⟩ = some (.slice v.sa t.subs.length v.sc) ∧ wx.cell? ⟨w.heap.size, 2, none⟩ = some (.slice v.ea v.en v.ec) ∧ wx.cell? ⟨w.heap.size, 3, none⟩ = some (.slice v.ga v.gn v.gc) ∧ wx.cell? ⟨w.heap.size, 4, none⟩ = some (.slice v.ia v.im v.ic) ∧ wx.cell? ⟨b, o + j * 3, none⟩ = some (.int .u8 x.kind) ∧ wx.cell? ⟨b, o + j * 3 + 1, none⟩ = some (.int .i64 x.ty) ∧ wx.cell? ⟨b, o + j * 3 + 2, none⟩ = some (.int .i64 x.num) ∧ Kept [] wr wx) wx) := fun wx h => ⟨h.cell g0 (by simp), h.cell g1 (by simp), h.cell g2 (by simp), h.cell g3 (by simp), h.cell c0 (by simp), h.cell c1 (by simp), h.cell c2 (by simp), h.cell c3 (by simp), h.cell c4 (by simp), h.cell x0 (by simp), h.cell x1 (by simp), h.cell x2 (by simp), h⟩
        generalize hq : nextR t rj x = qn at *
        obtain ⟨rn, okn⟩ := qn
        have HQ := Lib.hid hq
        clear hq
        go_upto_region 10 with (fail)
        go_cut [9, 10] (fun v10 v11 wc => Cut25 wr rn okn v10 v11 wc)
        case first =>
          go_region_held3 (fun wx => wx.cell? ⟨SB, 0, none⟩ = some (.slice s2.dA rj.dec.length s2.dC) ∧ wx.cell? ⟨SB, 1, none⟩ = some (.slice s2.mA rj.com.length s2.mC) ∧ wx.cell? ⟨SB, 2, none⟩ = some (.slice s2.fA rj.frz.length s2.fC) ∧ wx.cell? ⟨SB, 3, none⟩ = some (.slice s2.kA rj.con.length s2.kC) ∧ wx.cell? ⟨w.heap.size, 0, none⟩ = some (.slice v.ta t.types.length v.tc) ∧ wx.cell? ⟨w.heap.size, 1, none⟩ = some (.slice v.sa t.subs.length v.sc) ∧ wx.cell? ⟨w.heap.size, 2, none⟩ = some (.slice v.ea v.en v.ec) ∧ wx.cell? ⟨w.heap.size, 3, none⟩ = some (.slice v.ga v.gn v.gc) ∧ wx.cell? ⟨w.heap.size, 4, none⟩ = some (.slice v.ia v.im v.ic) ∧ wx.cell? ⟨b, o + j * 3, none⟩ = some (.int .u8 x.kind) ∧ wx.cell? ⟨b, o + j * 3 + 1, none⟩ = some (.int .i64 x.ty) ∧ wx.cell? ⟨b, o + j * 3 + 2, none⟩ = some (.int .i64 x.num) ∧ Kept [] wr wx)
            (first | exact KP.out _ HK6.out | exact KP.out _ HK5.out | exact KP.out _ (HK5.out.trans (Kept.alloc _ _ _)) | exact KP.out _ ((Kept.alloc _ _ _).trans (Kept.drew _ _)) | exact KP.out _ (Kept.drew _ _) | exact KP.out _ (Kept.refl _ _))
            (first
              | (go_at_call 22
                 have hkx := (‹_ ∧ _ ∧ _ ∧ _ ∧ _ ∧ _ ∧ _ ∧ _ ∧ _ ∧ _ ∧ _ ∧ _ ∧ Kept [] wr _›).2.2.2.2.2.2.2.2.2.2.2.2
                 refine (next_any (wr.alloc (Obj.cells #[.slice none 0 0, .slice none 0 0, .slice none 0 0, .slice none 0 0] 61)).drew s2 rj v t x (HGI.out.ask (by omega) (HST.out.kept hkx) (HTBr.out.kept hkx).tab HS.out hN) HEX.out).mono ?_
                 rw [HQ.out]
                 rintro e w5 ⟨s5, rfl, hi5, hk5⟩
                 unfold StV.cells
                 have HZ5 : Hid (ZRow w5 wr.heap.size) := ZRow.kept (w := (wr.alloc (Obj.cells #[.slice none 0 0, .slice none 0 0, .slice none 0 0, .slice none 0 0] 61)).drew) (heap_alloc_new wr _) hk5 (by simp)
                 obtain ⟨⟨y0, y1, y2, y3⟩, z0, z1, z2, z3⟩ := HZ5.out.z
                 have HK5 := Lib.hid (hkx.trans hk5)
                 have HK6 : Hid (Kept [] wr (stored4 w5 wr.heap.size s5 rn)) := HK5.out.trans0 (stored4_kept _ _ _ _) (Nat.le_refl _)
                 have HC25 : Hid (Cut25 wr rn okn (.pointer (some ⟨wr.heap.size, 0, none⟩)) (.bool okn) (stored4 w5 wr.heap.size s5 rn)) := ⟨_, s5, rfl, rfl, stored4_row HZ5.out, hi5.far HZ5.out (stored4_kept _ _ _ _), HK6.out, Nat.le_refl _⟩
                 clear hkx hk5 hi5)
              | (go_at_call 22
                 have hkx := (‹_ ∧ _ ∧ _ ∧ _ ∧ _ ∧ _ ∧ _ ∧ _ ∧ _ ∧ _ ∧ _ ∧ _ ∧ Kept [] wr _›).2.2.2.2.2.2.2.2.2.2.2.2
                 refine (next_any wr.drew s2 rj v t x (HGI.out.ask (by omega) (HST.out.kept hkx) (HTBr.out.kept hkx).tab HS.out hN) HEX.out).mono ?_
                 rw [HQ.out]
                 rintro e w5 ⟨s5, rfl, hi5, hk5⟩
                 unfold StV.cells
                 have HK5 := Lib.hid (hkx.trans hk5)
                 have HC25 : Hid (Cut25 wr rn okn (.pointer (some ⟨w5.heap.size, 0, none⟩)) (.bool okn) (w5.alloc (.cells (s5.cells rn) 61))) := ⟨_, s5, rfl, rfl, heap_alloc_new _ _, hi5.kept (Kept.alloc _ _ _), HK5.out.trans (Kept.alloc _ _ _), HK5.out.size⟩
                 clear hkx hk5 hi5))
          all_goals (go_wp2_with fail; go_meet; exact HC25.out)
        case rest =>
          obtain ⟨NB, s5, rfl, rfl, hrow, hst, hkc, hnb⟩ := hcut
          have HROWN := Lib.hid hrow
          have HSTN := Lib.hid hst
          have HKC := Lib.hid hkc
          have HROWC := Lib.hid (HROW.out.kept hkc (by simp))
          have HTBC := Lib.hid (HTBr.out.kept hkc)
          clear hrow hst hkc g0 g1 g2 g3 c0 c1 c2 c3 c4 x0 x1 x2 KP
          cases okn
          · have HSTOP := Lib.hid (HGI.out.stop HX.out HQ.out)
            have HRES : Hid (checkR t l = ((j : Int), 110)) := by
              rw [Hid]; unfold checkR; rw [HBAD.out, HSTOP.out]
            go_wp2_with fail
            go_ret2
            rw [HRES.out]
            exact ⟨rfl, HKW.out.trans HKC.out⟩
          · have HGN := Lib.hid (HGI.out.next HX.out HEX.out HQ.out)
            have n0 := HROWN.out.c0
            have n1 := HROWN.out.c1
            have n2 := HROWN.out.c2
            have n3 := HROWN.out.c3
            have g0 := HROWC.out.c0
            have g1 := HROWC.out.c1
            have g2 := HROWC.out.c2
            have g3 := HROWC.out.c3
            have y0 := HROWC.out.frozen 0
            have y1 := HROWC.out.frozen 1
            have y2 := HROWC.out.frozen 2
            have y3 := HROWC.out.frozen 3
            have hsbn : ¬ SB = NB := by
              have := HROW.out.lt
              omega
            have HEN : Hid (SRow (stored4 wc SB s5 rn) SB s5 rn ∧ StIn (stored4 wc SB s5 rn) s5 rn ∧ Kept [SB] w2 (stored4 wc SB s5 rn)) :=
              ⟨stored4_row HROWC.out, HSTN.out.far HROWC.out (stored4_kept _ _ _ _), HKR.out.trans ((HKC.out.mono (by simp)).trans (stored4_kept _ _ _ _))⟩
            go_wp2_with fail
            go_roundw
            case rel => exact ⟨j + 1, by omega, by go_num, s5, rn, HGN.out, HEN.out.1, HEN.out.2.1, HEN.out.2.2⟩
            case measure => simp [intOf]; omega
      · have HRES : Hid (checkR t l = (0, 0)) := by
          rw [Hid]; unfold checkR; rw [HBAD.out, HGI.out.last (by omega)]
        go_wp2_with fail
        go_ret2
        rw [HRES.out]
        exact ⟨rfl, HKW.out⟩
end Go.Proofs.Ytbjnoffdafpkgaa
namespace Go.Proofs.Ytbjnoffdafpkgaa
open Go.RowKit

/-- A state is returned. -/
def RetSt (r : RS) (w : World) (e : Ending) (w' : World) : Prop := ∃ s : StV, e = .returned (.agg (s.cells r)) ∧ StIn w' s r ∧ Kept [] w w'

set_option maxRecDepth 100000 in
set_option maxHeartbeats 4000000 in
theorem behind_some (w : World) (v : TabV) (t : Tab) (b o : Nat) (c : Nat) (l : List EvV) (hT : TabIn w v t) (hs : Small t) (hN : t.types.length ≤ 1000) (hl : ∀ j x, l[j]? = some x → w.rangeAt b (o + j * 3) x.cells) (hlen : l.length ≤ 1000) (hall : ∀ x, x ∈ l → existsF t.types.length x = true) :
    Calls Try.prog 23 #[.agg (v.cells t), .slice (some ⟨b, o, none⟩) l.length c] w (RetSt (goR t RS.zero l 0).2 w) := by
  have HT := Lib.hid hT
  have HS := Lib.hid hs
  have HL := Lib.hid hl
  have HALL := Lib.hid hall
  have hn := hT.2.2.1
  clear hT hs hl hall
  unfold TabV.cells
  go_enter Try.func23, Try.ntmps23
  go_upto_region 2 with (fail)
  refine wp_gen ?_
  intro w2 hw2
  have hk2 : Kept [] w w2 := by rw [hw2]; exact ((Kept.alloc _ _ _).trans (Kept.alloc _ _ _)).trans (Kept.alloc _ _ _)
  have HTB2 : Hid (TBox v t w.heap.size w2) := TBox.of_block (by rw [hw2]; exact obj_old (obj_old (heap_alloc_new _ _) (by simp <;> omega)) (by simp <;> omega)) (HT.out.kept (hk2.toBelow (Nat.le_refl _) (by simp)))
  have HZ2 : Hid (ZRow w2 (w.heap.size + 1)) := by rw [Hid, ZRow, SRow, hw2]; exact obj_old (obj_new (by simp)) (by simp <;> omega)
  have HRS : Hid (SRow w2 (w.heap.size + 1 + 1) ⟨none, 0, none, 0, none, 0, none, 0⟩ RS.zero) := by rw [Hid, SRow, hw2]; exact obj_new (by simp)
  have HK2 := Lib.hid hk2
  have HEV2 : Hid (∀ j x, l[j]? = some x → w2.rangeAt b (o + j * 3) x.cells) := fun j x hx i u hu => hk2.cell (HL.out j x hx i u hu) (by simp)
  clear hw2 hk2 HL
  generalize hSB : w.heap.size + 1 + 1 = SB at *
  have hle3 : w.heap.size + 1 < SB := by omega
  clear hSB
  have HNE : Hid (∀ j x, l[j]? = some x → b ∉ [SB]) := fun j x hx hm => by
    have hb : b = SB := by simpa using hm
    obtain ⟨x0, _, _⟩ := EvsIn.cells (HEV2.out j x hx)
    rw [hb] at x0
    obtain ⟨_, _, _, e⟩ := HRS.out.isSlice x0
    cases e
  go_wp2_with fail
  go_loopw [6] (fun i wr => ∃ j : Nat, j ≤ l.length ∧ i = .int .i64 j ∧ ∃ s2 rj, GInv t l j rj ∧ SRow wr SB s2 rj ∧ StIn wr s2 rj ∧ Kept [SB] w2 wr) (fun i _ => l.length - (intOf i).toNat)
  case atStart => exact ⟨0, Nat.zero_le _, rfl, _, _, GInv.start t l, HRS.out, ⟨IntsC.nil _, IntsC.nil _, IntsC.nil _, ⟨Nat.le_refl _, Nat.zero_le _, fun _ => rfl, .inl rfl⟩⟩, Kept.refl _ _⟩
  case round =>
    obtain ⟨j, hj, rfl, s2, rj, hgi, hrow, hst, hkr⟩ := hrel
    have HGI := Lib.hid hgi
    have HROW := Lib.hid hrow
    have HST := Lib.hid hst
    have HKR := Lib.hid hkr
    have HKW : Hid (Kept [] w wr) := HK2.out.trans0 hkr (by omega)
    have HTBr : Hid (TBox v t w.heap.size wr) := ⟨hkr.cell HTB2.out.c0 (by simp; omega), hkr.cell HTB2.out.c1 (by simp; omega), hkr.cell HTB2.out.c2 (by simp; omega), hkr.cell HTB2.out.c3 (by simp; omega), hkr.cell HTB2.out.c4 (by simp; omega), HT.out.kept (HKW.out.toBelow (Nat.le_refl _) (by simp))⟩
    have HEVr : Hid (∀ j x, l[j]? = some x → wr.rangeAt b (o + j * 3) x.cells) := fun j x hx i u hu => HKR.out.cell (HEV2.out j x hx i u hu) (HNE.out j x hx)
    have HZr : Hid (ZRow wr (w.heap.size + 1)) := HZ2.out.kept hkr (by simp; omega)
    clear hgi hrow hst hkr
    by_cases hlt : j < l.length
    · obtain ⟨x, hx⟩ : ∃ x, l[j]? = some x := ⟨_, List.getElem?_eq_getElem hlt⟩
      have g0 := HROW.out.c0
      have g1 := HROW.out.c1
      have g2 := HROW.out.c2
      have g3 := HROW.out.c3
      obtain ⟨c0, c1, c2, c3, c4, _⟩ := HTBr.out
      have HEX : Hid (existsF t.types.length x = true) := HALL.out x (List.mem_of_getElem? hx)
      obtain ⟨x0, x1, x2⟩ := EvsIn.cells (HEVr.out j x hx)
      have HX := Lib.hid hx
      clear hx
      have KP : Hid (∀ wx, Kept [] wr wx → (fun wx => wx.cell? ⟨SB, 0, none⟩ = some (.slice s2.dA rj.dec.length s2.dC) ∧ wx.cell? ⟨SB, 1, none⟩ = some (.slice s2.mA rj.com.length s2.mC) ∧ wx.cell? ⟨SB, 2, none⟩ = some (.slice s2.fA rj.frz.length s2.fC) ∧ wx.cell? ⟨SB, 3, none⟩ = some (.slice s2.kA rj.con.length s2.kC) ∧ wx.cell? ⟨w.heap.size, 0, none⟩ = some (.slice v.ta t.types.length v.tc) ∧ wx.cell? ⟨w.heap.size, 1, none⟩ = some (.slice v.sa t.subs.length v.sc) ∧ wx.cell? ⟨w.heap.size, 2, none⟩ = some (.slice v.ea v.en v.ec) ∧ wx.cell? ⟨w.heap.size, 3, none⟩ = some (.slice v.ga v.gn v.gc) ∧ wx.cell? ⟨w.heap.size, 4, none⟩ = some (.slice v.ia v.im v.ic) ∧ wx.cell? ⟨b, o + j * 3, none⟩ = some (.int .u8 x.kind) ∧ wx.cell? ⟨b, o + j * 3 + 1, none⟩ = some (.int .i64 x.ty) ∧ wx.cell? ⟨b, o + j * 3 + 2, none⟩ = some (.int .i64 x.num) ∧ Kept [] wr wx) wx) := fun wx h => ⟨h.cell g0 (by simp), h.cell g1 (by simp), h.cell g2 (by simp), h.cell g3 (by simp), h.cell c0 (by simp), h.cell c1 (by simp), h.cell c2 (by simp), h.cell c3 (by simp), h.cell c4 (by simp), h.cell x0 (by simp), h.cell x1 (by simp), h.cell x2 (by simp), h⟩
      generalize hq : nextR t rj x = qn at *
      obtain ⟨rn, okn⟩ := qn
      have HQ := Lib.hid hq
      clear hq
      go_upto_region 5 with (fail)
      go_cut [7, 8] (fun v10 v11 wc => Cut25 wr rn okn v10 v11 wc)
      case first =>
        go_region_held3 (fun wx => wx.cell? ⟨SB, 0, none⟩ = some (.slice s2.dA rj.dec.length s2.dC) ∧ wx.cell? ⟨SB, 1, none⟩ = some (.slice s2.mA rj.com.length s2.mC) ∧ wx.cell? ⟨SB, 2, none⟩ = some (.slice s2.fA rj.frz.length s2.fC) ∧ wx.cell? ⟨SB, 3, none⟩ = some (.slice s2.kA rj.con.length s2.kC) ∧ wx.cell? ⟨w.heap.size, 0, none⟩ = some (.slice v.ta t.types.length v.tc) ∧ wx.cell? ⟨w.heap.size, 1, none⟩ = some (.slice v.sa t.subs.length v.sc) ∧ wx.cell? ⟨w.heap.size, 2, none⟩ = some (.slice v.ea v.en v.ec) ∧ wx.cell? ⟨w.heap.size, 3, none⟩ = some (.slice v.ga v.gn v.gc) ∧ wx.cell? ⟨w.heap.size, 4, none⟩ = some (.slice v.ia v.im v.ic) ∧ wx.cell? ⟨b, o + j * 3, none⟩ = some (.int .u8 x.kind) ∧ wx.cell? ⟨b, o + j * 3 + 1, none⟩ = some (.int .i64 x.ty) ∧ wx.cell? ⟨b, o + j * 3 + 2, none⟩ = some (.int .i64 x.num) ∧ Kept [] wr wx)
          (first | exact KP.out _ HK6.out | exact KP.out _ HK5.out | exact KP.out _ (HK5.out.trans (Kept.alloc _ _ _)) | exact KP.out _ ((Kept.alloc _ _ _).trans (Kept.drew _ _)) | exact KP.out _ (Kept.drew _ _) | exact KP.out _ (Kept.refl _ _))
          (first
            | (go_at_call 22
               have hkx := (‹_ ∧ _ ∧ _ ∧ _ ∧ _ ∧ _ ∧ _ ∧ _ ∧ _ ∧ _ ∧ _ ∧ _ ∧ Kept [] wr _›).2.2.2.2.2.2.2.2.2.2.2.2
               refine (next_any (wr.alloc (Obj.cells #[.slice none 0 0, .slice none 0 0, .slice none 0 0, .slice none 0 0] 61)).drew s2 rj v t x (HGI.out.ask (by omega) (HST.out.kept hkx) (HTBr.out.kept hkx).tab HS.out hN) HEX.out).mono ?_
               rw [HQ.out]
               rintro e w5 ⟨s5, rfl, hi5, hk5⟩
               unfold StV.cells
               have HZ5 : Hid (ZRow w5 wr.heap.size) := ZRow.kept (w := (wr.alloc (Obj.cells #[.slice none 0 0, .slice none 0 0, .slice none 0 0, .slice none 0 0] 61)).drew) (heap_alloc_new wr _) hk5 (by simp)
               obtain ⟨⟨y0, y1, y2, y3⟩, z0, z1, z2, z3⟩ := HZ5.out.z
               have HK5 := Lib.hid (hkx.trans hk5)
               have HK6 : Hid (Kept [] wr (stored4 w5 wr.heap.size s5 rn)) := HK5.out.trans0 (stored4_kept _ _ _ _) (Nat.le_refl _)
               have HC25 : Hid (Cut25 wr rn okn (.pointer (some ⟨wr.heap.size, 0, none⟩)) (.bool okn) (stored4 w5 wr.heap.size s5 rn)) := ⟨_, s5, rfl, rfl, stored4_row HZ5.out, hi5.far HZ5.out (stored4_kept _ _ _ _), HK6.out, Nat.le_refl _⟩
               clear hkx hk5 hi5)
            | (go_at_call 22
               have hkx := (‹_ ∧ _ ∧ _ ∧ _ ∧ _ ∧ _ ∧ _ ∧ _ ∧ _ ∧ _ ∧ _ ∧ _ ∧ Kept [] wr _›).2.2.2.2.2.2.2.2.2.2.2.2
               refine (next_any wr.drew s2 rj v t x (HGI.out.ask (by omega) (HST.out.kept hkx) (HTBr.out.kept hkx).tab HS.out hN) HEX.out).mono ?_
               rw [HQ.out]
               rintro e w5 ⟨s5, rfl, hi5, hk5⟩
               unfold StV.cells
               have HK5 := Lib.hid (hkx.trans hk5)
               have HC25 : Hid (Cut25 wr rn okn (.pointer (some ⟨w5.heap.size, 0, none⟩)) (.bool okn) (w5.alloc (.cells (s5.cells rn) 61))) := ⟨_, s5, rfl, rfl, heap_alloc_new _ _, hi5.kept (Kept.alloc _ _ _), HK5.out.trans (Kept.alloc _ _ _), HK5.out.size⟩
               clear hkx hk5 hi5))
        all_goals (go_wp2_with fail; go_meet; exact HC25.out)
      case rest =>
        obtain ⟨NB, s5, rfl, rfl, hrow, hst, hkc, hnb⟩ := hcut
        have HROWN := Lib.hid hrow
        have HSTN := Lib.hid hst
        have HKC := Lib.hid hkc
        have HROWC := Lib.hid (HROW.out.kept hkc (by simp))
        have HTBC := Lib.hid (HTBr.out.kept hkc)
        clear hrow hst hkc g0 g1 g2 g3 c0 c1 c2 c3 c4 x0 x1 x2 KP
        cases okn
        · have HSTOP := Lib.hid (HGI.out.stop HX.out HQ.out)
          have hzc := HZr.out.kept HKC.out (by simp)
          have HZC := Lib.hid hzc
          have g0 := HROWC.out.c0
          have g1 := HROWC.out.c1
          have g2 := HROWC.out.c2
          have g3 := HROWC.out.c3
          obtain ⟨⟨e0, e1, e2, e3⟩, z0, z1, z2, z3⟩ := hzc.z
          have HSTC := Lib.hid (HST.out.kept HKC.out)
          clear hzc
          go_wp2_with fail
          refine bodyPost_ret (v := .agg #[.slice s2.dA rj.dec.length s2.dC, .slice s2.mA rj.com.length s2.mC, .slice s2.fA rj.frz.length s2.fC, .slice s2.kA rj.con.length s2.kC]) (by simp [results, Try.results23, go_sem, e0, e1, e2, e3]) rfl ?_
          have hfin := st_end (w := w) HZC.out (by omega) HSTC.out (HKW.out.trans HKC.out) (stored4_kept _ _ s2 rj)
          rw [HSTOP.out]
          exact ⟨s2, rfl, hfin.1, hfin.2⟩
        · have HGN := Lib.hid (HGI.out.next HX.out HEX.out HQ.out)
          have n0 := HROWN.out.c0
          have n1 := HROWN.out.c1
          have n2 := HROWN.out.c2
          have n3 := HROWN.out.c3
          have g0 := HROWC.out.c0
          have g1 := HROWC.out.c1
          have g2 := HROWC.out.c2
          have g3 := HROWC.out.c3
          have y0 := HROWC.out.frozen 0
          have y1 := HROWC.out.frozen 1
          have y2 := HROWC.out.frozen 2
          have y3 := HROWC.out.frozen 3
          have hsbn : ¬ SB = NB := by
            have := HROW.out.lt
            omega
          have HEN : Hid (SRow (stored4 wc SB s5 rn) SB s5 rn ∧ StIn (stored4 wc SB s5 rn) s5 rn ∧ Kept [SB] w2 (stored4 wc SB s5 rn)) :=
            ⟨stored4_row HROWC.out, HSTN.out.far HROWC.out (stored4_kept _ _ _ _), HKR.out.trans ((HKC.out.mono (by simp)).trans (stored4_kept _ _ _ _))⟩
          go_wp2_with fail
          go_roundw
          case rel => exact ⟨j + 1, by omega, by go_num, s5, rn, HGN.out, HEN.out.1, HEN.out.2.1, HEN.out.2.2⟩
          case measure => simp [intOf]; omega
    · have HLAST := Lib.hid (HGI.out.last (by omega))
      have g0 := HROW.out.c0
      have g1 := HROW.out.c1
      have g2 := HROW.out.c2
      have g3 := HROW.out.c3
      obtain ⟨⟨e0, e1, e2, e3⟩, z0, z1, z2, z3⟩ := HZr.out.z
      go_wp2_with fail
      refine bodyPost_ret (v := .agg #[.slice s2.dA rj.dec.length s2.dC, .slice s2.mA rj.com.length s2.mC, .slice s2.fA rj.frz.length s2.fC, .slice s2.kA rj.con.length s2.kC]) (by simp [results, Try.results23, go_sem, e0, e1, e2, e3]) rfl ?_
      have hfin := st_end (w := w) HZr.out (by omega) HST.out HKW.out (stored4_kept _ _ s2 rj)
      rw [HLAST.out]
      exact ⟨s2, rfl, hfin.1, hfin.2⟩
end Go.Proofs.Ytbjnoffdafpkgaa
namespace Go.Proofs.Ytbjnoffdafpkgaa
open Go.RowKit

theorem refCheck_any (w : World) (v : TabV) (t : Tab) (a : Option Addr) (c : Nat) (l : List EvV) (hT : TabIn w v t) (hs : Small t) (hN : t.types.length ≤ 1000) (hl : EvsIn w a l) (hlen : l.length ≤ 1000) :
    Calls Try.prog 10 #[.agg (v.cells t), .slice a l.length c] w (RetChk (checkR t l) w) := by
  rcases hl with rfl | ⟨b, o, rfl, hl⟩
  · exact refCheck_none w v t a c
  · exact refCheck_some w v t b o c l hT hs hN hl hlen

set_option maxRecDepth 100000 in
set_option maxHeartbeats 4000000 in
theorem behind_none (w : World) (v : TabV) (t : Tab) (a : Option Addr) (c : Nat) : Calls Try.prog 23 #[.agg (v.cells t), .slice a 0 c] w (RetSt RS.zero w) := by
  unfold TabV.cells
  go_enter Try.func23, Try.ntmps23
  go_upto_region 2 with (fail)
  refine wp_gen ?_
  intro w2 hw2
  have HK2 : Hid (Kept [] w w2) := by rw [Hid, hw2]; exact ((Kept.alloc _ _ _).trans (Kept.alloc _ _ _)).trans (Kept.alloc _ _ _)
  have HZ2 : Hid (ZRow w2 (w.heap.size + 1)) := by rw [Hid, ZRow, SRow, hw2]; exact obj_old (obj_new (by simp)) (by simp <;> omega)
  have HRS : Hid (ZRow w2 (w.heap.size + 1 + 1)) := by rw [Hid, ZRow, SRow, hw2]; exact obj_new (by simp)
  clear hw2
  obtain ⟨⟨e0, e1, e2, e3⟩, z0, z1, z2, z3⟩ := HZ2.out.z
  obtain ⟨⟨g0, g1, g2, g3⟩, _⟩ := HRS.out.z
  go_wp2_with fail
  go_loop [6] (fun i => i = .int .i64 0) (fun _ => 0)
  case atStart => rfl
  case round =>
    subst hrel
    go_wp2_with fail
    refine bodyPost_ret (v := .agg #[.slice none 0 0, .slice none 0 0, .slice none 0 0, .slice none 0 0]) (by simp [results, Try.results23, go_sem, e0, e1, e2, e3]) rfl ?_
    have hfin := st_end (w := w) HZ2.out (by omega) (s := ⟨none, 0, none, 0, none, 0, none, 0⟩) (r := RS.zero) ⟨IntsC.nil _, IntsC.nil _, IntsC.nil _, ⟨Nat.le_refl _, Nat.zero_le _, fun _ => rfl, .inl rfl⟩⟩ HK2.out (stored4_kept _ _ ⟨none, 0, none, 0, none, 0, none, 0⟩ RS.zero)
    exact ⟨⟨none, 0, none, 0, none, 0, none, 0⟩, rfl, hfin.1, hfin.2⟩

theorem behind_any (w : World) (v : TabV) (t : Tab) (a : Option Addr) (c : Nat) (l : List EvV) (hT : TabIn w v t) (hs : Small t) (hN : t.types.length ≤ 1000) (hl : EvsIn w a l) (hlen : l.length ≤ 1000) (hall : ∀ x, x ∈ l → existsF t.types.length x = true) :
    Calls Try.prog 23 #[.agg (v.cells t), .slice a l.length c] w (RetSt (goR t RS.zero l 0).2 w) := by
  rcases hl with rfl | ⟨b, o, rfl, hl⟩
  · exact behind_none w v t a c
  · exact behind_some w v t b o c l hT hs hN hl hlen hall

theorem field61 (x0 x1 x3 : Value) (A : Option Addr) (n c : Nat) (w : World) : (Instr.field 61 (.agg #[x0, x1, .slice A n c, x3]) 2).run Try.prog w = .ok (.slice A n c) w := by kernel_rfl

set_option maxRecDepth 100000 in
set_option maxHeartbeats 1000000 in
theorem refFrozen_any (w : World) (v : TabV) (t : Tab) (a : Option Addr) (c : Nat) (l : List EvV) (hT : TabIn w v t) (hs : Small t) (hN : t.types.length ≤ 1000) (hl : EvsIn w a l) (hlen : l.length ≤ 1000) :
    Calls Try.prog 13 #[.agg (v.cells t), .slice a l.length c] w (RetC (frozenR t l) w) := by
  have HT := Lib.hid hT
  have HS := Lib.hid hs
  have HL := Lib.hid hl
  clear hT hs hl
  unfold TabV.cells
  go_enter Try.func13, Try.ntmps13
  go_upto_region 1 with (fail)
  refine wp_gen ?_
  intro w1 hw1
  have hk1 : Kept [] w w1 := by rw [hw1]; exact Kept.alloc _ _ _
  have HTB : Hid (TBox v t w.heap.size w1) := TBox.of_block (by rw [hw1]; exact heap_alloc_new _ _) (HT.out.kept (hk1.toBelow (Nat.le_refl _) (by simp)))
  have HK1 := Lib.hid hk1
  have HL1 := Lib.hid (HL.out.kept hk1)
  obtain ⟨c0, c1, c2, c3, c4, _⟩ := HTB.out
  clear hk1 hw1 HL
  go_wp2_with fail
  refine (refCheck_any w1 v t a c l HTB.out.tab HS.out hN HL1.out hlen).mono ?_
  rintro e w2 ⟨rfl, hk2⟩
  have HK2 := Lib.hid (HK1.out.trans hk2)
  have HTB2 := Lib.hid (HTB.out.kept hk2)
  have HL2 := Lib.hid (HL1.out.kept hk2)
  clear hk2 c0 c1 c2 c3 c4
  rcases check_err t l with ⟨kb, hb, hc, _, hf⟩ | ⟨hb, hc⟩
  · have HF := Lib.hid hf
    rw [hc]
    clear hb hc hf
    go_wp2_with fail
    go_ret
    rw [HF.out]
    exact ⟨_, rfl, IntsC.nil _, HK2.out⟩
  · have HALL := Lib.hid (badAt_none_iff.1 hb)
    have HF : Hid (frozenR t l = (goR t RS.zero l 0).2.frz) := by rw [Hid]; unfold frozenR; rw [hb]
    generalize hq : checkR t l = q at *
    obtain ⟨q1, q2⟩ := q
    have hq2 : (q2 == 2) = false := by
      rcases hc with h | h
      · have h' : q2 = 0 := h
        rw [h']; rfl
      · have h' : q2 = 110 := h
        rw [h']; rfl
    clear hb hc hq
    obtain ⟨c0, c1, c2, c3, c4, _⟩ := HTB2.out
    go_wp2_with fail
    refine (behind_any w2 v t a c l HTB2.out.tab HS.out hN HL2.out hlen HALL.out).mono ?_
    rintro e w3 ⟨s3, rfl, hi3, hk3⟩
    unfold StV.cells
    have HI3 := Lib.hid hi3
    have HK3 := Lib.hid (HK2.out.trans hk3)
    clear hi3 hk3 c0 c1 c2 c3 c4
    have hfld := field61
    go_wp2_with fail
    go_ret
    rw [HF.out]
    exact ⟨_, rfl, HI3.out.frz, HK3.out⟩
end Go.Proofs.Ytbjnoffdafpkgaa
