/- The law FreezeEnds, walked. -/
import Derived.Test.YtbjnoffdafpkgaaW3
import Derived.Test.YtbjnoffdafpkgaaQ3
namespace Go.Proofs.Ytbjnoffdafpkgaa
open Go.RowKit

/-- The first k events hold an open one. -/
def openK (l : List EvV) (k : Nat) : Bool := (l.take k).any (fun e => !foundB l e)
def foundK (l : List EvV) (x : EvV) (m : Nat) : Bool := (x.kind != 2 && x.kind != 5) || (l.take m).any (fun f => fullB x f || doneB x f)
theorem openK_zero (l : List EvV) : openK l 0 = false := rfl
theorem openK_all (l : List EvV) : openK l l.length = openB l := by unfold openK openB; rw [List.take_length]
theorem openK_succ {l : List EvV} {k : Nat} {x : EvV} (hx : l[k]? = some x) : openK l (k + 1) = (openK l k || !foundB l x) := by
  obtain ⟨h, rfl⟩ := List.getElem?_eq_some_iff.1 hx
  unfold openK
  rw [List.take_succ_eq_append_getElem h, List.any_append]
  simp
theorem foundK_zero (l : List EvV) (x : EvV) : foundK l x 0 = (x.kind != 2 && x.kind != 5) := by unfold foundK; simp
theorem foundK_all (l : List EvV) (x : EvV) : foundK l x l.length = foundB l x := by unfold foundK foundB; rw [List.take_length]
theorem foundK_succ {l : List EvV} {m : Nat} {x y : EvV} (hy : l[m]? = some y) : foundK l x (m + 1) = (foundK l x m || fullB x y || doneB x y) := by
  obtain ⟨h, rfl⟩ := List.getElem?_eq_some_iff.1 hy
  unfold foundK
  rw [List.take_succ_eq_append_getElem h, List.any_append]
  simp [Bool.or_assoc]

/-- What the loop over all pairs leaves. -/
def OpenCut (l : List EvV) (w0 : World) (v : Value) (w : World) : Prop := v = .bool (openB l) ∧ Kept [] w0 w
def FoundCut (l : List EvV) (x : EvV) (w0 : World) (v : Value) (w : World) : Prop := v = .bool (foundB l x) ∧ Kept [] w0 w
def BoolCut (b : Bool) (w0 : World) (v : Value) (w : World) : Prop := v = .bool b ∧ Kept [] w0 w

set_option maxRecDepth 100000 in
set_option maxHeartbeats 8000000 in
theorem ends_any (v : TabV) (t : Tab) (a : Option Addr) (c : Nat) (l : List EvV) (w : World) (hE : GEnv w v t a c l) :
    Calls Try.prog 5 #[.agg (v.cells t), .slice a l.length c] w (RetB true w) := by
  have HE := Lib.hid hE
  have hlen := hE.len
  have hcap := hE.cap
  clear hE
  cases hg : greatB t l.length
  · obtain ⟨hs, h40, h60⟩ := small_of_great hg
    have HG := Lib.hid hg
    have HS := Lib.hid hs
    clear hg hs
    go_enter Try.func5, Try.ntmps5
    unfold TabV.cells
    go_upto_region 1 with (fail)
    refine wp_gen ?_
    intro w1 hw1
    have hk1 : Kept [] w w1 := by rw [hw1]; exact Kept.alloc _ _ _
    have HTB : Hid (TBox v t w.heap.size w1) := TBox.of_block (by rw [hw1]; exact heap_alloc_new _ _) (HE.out.tab.kept (hk1.toBelow (Nat.le_refl _) (by simp)))
    have HK1 := Lib.hid hk1
    clear hk1 hw1
    obtain ⟨c0, c1, c2, c3, c4, _⟩ := HTB.out
    go_wp2_with fail
    refine (great_any v t a c l.length w1 HTB.out.tab (by omega) HE.out.c47).mono ?_
    rintro e w2 ⟨rfl, hk2⟩
    rw [HG.out]
    have HK2 := Lib.hid (HK1.out.trans hk2)
    have HTB2 := Lib.hid (HTB.out.kept hk2)
    clear hk2 c0 c1 c2 c3 c4 HTB
    obtain ⟨c0, c1, c2, c3, c4, _⟩ := HTB2.out
    go_wp2_with fail
    refine (refCheck_any w2 v t a c l HTB2.out.tab HS.out (by omega) (HE.out.kept HK2.out).evs (by omega)).mono ?_
    rintro e w3 ⟨rfl, hk3⟩
    have HK3 := Lib.hid (HK2.out.trans hk3)
    have HTB3 := Lib.hid (HTB2.out.kept hk3)
    clear hk3 c0 c1 c2 c3 c4 HTB2
    generalize hq : checkR t l = q
    have HQ := Lib.hid hq
    clear hq
    obtain ⟨q1, q2⟩ := q
    dsimp only
    obtain ⟨c0, c1, c2, c3, c4, _⟩ := HTB3.out
    by_cases h0 : q2 = 0
    · subst h0
      have HER := Lib.hid (ends_ref' (t := t) (l := l) (by rw [HQ.out]))
      obtain ⟨i0, hi, hz0, hz1, hz2⟩ := info_parts ev_info
      have hAm : 0 + l.length ≤ maxLen := by unfold maxLen; omega
      have hBm : (0 + l.length) * 24 ≤ 140737488355328 := by omega
      have hA2m : 0 + l.length + 1 ≤ maxLen := by unfold maxLen; omega
      have hB2m : (0 + l.length + 1) * 24 ≤ 140737488355328 := by omega
      have hCm : w3.heap.size ≤ (w3.alloc (.cells #[] 45)).heap.size := by simp
      have HMDm : Hid ((w3.alloc (.cells #[] 45)).ownsRow w3.heap.size 45 3 (.slice (some ⟨w3.heap.size, 0, none⟩) 0 0) 0 []) := World.ownsRow_made w3 #[] 0 (Nat.le_refl _) (Nat.zero_le _) rfl
      go_upto_region 7 with (first
        | (at_builtin; refine wpList_append_src _ rfl (.tmp 31) (.tmp 32) 29 rfl w3.heap.size 45 i0 (.agg #[.int .u8 0, .int .i64 0, .int .i64 0]) 3 24 Try.underlying29 hi hz0 hz1 hz2 rfl (by decide) (.slice (some ⟨w3.heap.size, 0, none⟩) 0 0) 0 [] rfl HMDm.out _ _ _ (evAll l) rfl ((HE.out.kept HK3.out).evs.kept (Kept.alloc [] w3 (Obj.cells #[] 45))).src (evAll_one _) hAm hBm hCm ?_; intro vam wam howna hga hata; have HOAm := Lib.hid howna; have HBAm := Lib.hid (((Below.refl w3.heap.size w3).alloc (Nat.le_refl _) _).grown hga hCm (own_at HMDm.out)); have hCAm : w3.heap.size ≤ (wam.alloc (.cells #[.int .u8 9, .int .i64 0, .int .i64 0] 45)).heap.size := by (have := HBAm.out.size; simp; omega)
           clear howna hga hata)
        | (at_builtin; refine wpList_append_src _ rfl (.tmp 33) (.tmp 35) 29 rfl w3.heap.size 45 i0 (.agg #[.int .u8 0, .int .i64 0, .int .i64 0]) 3 24 Try.underlying29 hi hz0 hz1 hz2 rfl (by decide) _ _ _ rfl (HOAm.out.alloc _) _ 1 _ (EvV.cells ⟨9, 0, 0⟩) rfl (ev_new3 wam ⟨9, 0, 0⟩) (ev_one _) hA2m hB2m hCAm ?_; intro vbm wbm hownb hgb hatb; have HKBm : Hid (Kept [] w3 wbm) := Kept.of_below ((HBAm.out.alloc HBAm.out.size _).grown hgb hCAm (own_at HOAm.out)); have hevb := ev_end hownb; clear hownb hgb hatb))
      obtain ⟨Am, ccm, fm, hfm, rfl, hevm, hlcm, hcmm⟩ := hevb
      have hflm : fm.length = l.length + 1 := by rw [hfm]; simp
      have hflm' : fm.length ≤ 100 := by omega
      have HFLm := Lib.hid hflm
      have HFm := Lib.hid hfm
      clear hfm hflm
      have HKM := Lib.hid (HK3.out.trans HKBm.out)
      have HTBM := Lib.hid (HTB3.out.kept HKBm.out)
      have HEM : Hid (GEnv wbm v t Am ccm fm) := ⟨HTBM.out.tab, hevm, fun x hx => by
        rw [HFm.out] at hx
        rcases List.mem_append.1 hx with hx | hx
        · exact HE.out.wf x hx
        · have e : x = ⟨9, 0, 0⟩ := by simpa using hx
          rw [e]; exact ⟨by rfl, by rfl⟩, HE.out.c47, hlcm, hcmm⟩
      clear hevm c0 c1 c2 c3 c4 hAm hBm hA2m hB2m hCm hCAm HMDm HOAm HBAm
      obtain ⟨c0, c1, c2, c3, c4, _⟩ := HTBM.out
      go_wp2_with fail
      refine (check_ref (v := v) (t := t) (a := Am) (l := fm) HEM.out HS.out h40 (by omega) rfl _).mono ?_
      rintro e w6 ⟨rfl, hk6⟩
      have HK6 := Lib.hid (HKM.out.trans hk6)
      have HTB6 := Lib.hid (HTBM.out.kept hk6)
      have HE6 := Lib.hid (HEM.out.kept hk6)
      clear hk6 c0 c1 c2 c3 c4
      generalize hqm : checkR t fm = qm at *
      have HQM := Lib.hid hqm
      clear hqm
      obtain ⟨qm1, qm2⟩ := qm
      dsimp only
      go_upto_block 0 with (fail)
      go_cut [10] (fun v10 wc => OpenCut l w6 v10 wc)
      case first =>
        rcases (HE.out.kept HK6.out).evs with hnil | ⟨b, o, rfl, hc⟩
        · have hl0 : l.length ≤ 0 := by rw [hnil]; simp
          have HOP : Hid (openB l = false) := by rw [Hid, hnil]; rfl
          clear hnil
          go_wp2_with fail
          go_loopw [10, 11] (fun v10 i wr => v10 = .bool false ∧ i = .int .i64 0 ∧ wr = w6) (fun _ _ _ => 0)
          case atStart => exact ⟨rfl, rfl, rfl⟩
          case round =>
            obtain ⟨rfl, rfl, rfl⟩ := hrel
            go_wp2_with fail
            go_meet
            exact ⟨by rw [HOP.out], Kept.refl _ _⟩
        · have HEV := Lib.hid hc
          clear hc
          go_wp2_with fail
          go_loopw [10, 11] (fun v10 i wr => ∃ k : Nat, k ≤ l.length ∧ i = .int .i64 k ∧ v10 = .bool (openK l k) ∧ Kept [] w6 wr) (fun _ i _ => l.length - (intOf i).toNat)
          case atStart => exact ⟨0, Nat.zero_le _, rfl, by rw [openK_zero], Kept.refl _ _⟩
          case round =>
            obtain ⟨k, hk, rfl, rfl, hkr⟩ := hrel
            obtain ⟨wo, rfl⟩ : ∃ wo : World, wo = wr := ⟨_, rfl⟩
            have HKR := Lib.hid hkr
            clear hkr
            by_cases hlt : k < l.length
            · obtain ⟨x, hx⟩ : ∃ x, l[k]? = some x := ⟨_, List.getElem?_eq_getElem hlt⟩
              have HX := Lib.hid hx
              have HOS := Lib.hid (openK_succ hx)
              clear hx
              generalize openK l k = b0 at *
              obtain ⟨x0, x1, x2⟩ := EvsIn.cells (HEV.out k x HX.out)
              have HFZ := Lib.hid (foundK_zero l x)
              go_upto_region 12 with (fail)
              go_cut [12] (fun v12 wc => v12 = .bool (x.kind != 2 && x.kind != 5) ∧ Kept [] w6 wc)
              case first =>
                replace x0 := HKR.out.cell x0 (by simp)
                clear x1 x2
                cases hA : (x.kind != 2)
                · go_wp2_with fail
                  go_meet
                  exact ⟨by rw [hA]; rfl, HKR.out⟩
                · cases hB : (x.kind != 5)
                  all_goals
                    go_wp2_with fail
                    go_meet
                    exact ⟨by rw [hA, hB]; rfl, HKR.out⟩
              case rest =>
                obtain ⟨rfl, hkc⟩ := hcut
                have HKR := Lib.hid hkc
                clear hkc
                obtain ⟨wp, rfl⟩ : ∃ wp : World, wp = wc := ⟨_, rfl⟩
                have hfz := HFZ.out
                generalize (x.kind != 2 && x.kind != 5) = f0 at *
                obtain rfl : f0 = foundK l x 0 := hfz.symm
                clear hfz HFZ
                go_upto_block 2 with (fail)
                go_cut [12] (fun v12 wc => FoundCut l x w6 v12 wc)
                case first =>
                  by_cases hkd : x.kind = 2
                  · rw [hkd] at x0
                    go_wp2_with fail
                    go_loopw [12, 13] (fun v12 i wr => ∃ m : Nat, m ≤ l.length ∧ i = .int .i64 m ∧ v12 = .bool (foundK l x m) ∧ Kept [] w6 wr) (fun _ i _ => l.length - (intOf i).toNat)
                    case atStart => exact ⟨0, Nat.zero_le _, rfl, rfl, HKR.out⟩
                    case round =>
                      obtain ⟨m, hm, rfl, rfl, hkr⟩ := hrel
                      have HKI := Lib.hid hkr
                      clear hkr
                      by_cases hlm : m < l.length
                      · obtain ⟨y, hy⟩ : ∃ y, l[m]? = some y := ⟨_, List.getElem?_eq_getElem hlm⟩
                        obtain ⟨y0, y1, y2⟩ := EvsIn.cells (HEV.out m y hy)
                        replace x0 := HKI.out.cell x0 (by simp)
                        replace x1 := HKI.out.cell x1 (by simp)
                        replace x2 := HKI.out.cell x2 (by simp)
                        replace y0 := HKI.out.cell y0 (by simp)
                        replace y1 := HKI.out.cell y1 (by simp)
                        replace y2 := HKI.out.cell y2 (by simp)
                        have HFS : Hid (foundK l x (m + 1) = (foundK l x m || fullB x y || doneB x y)) := foundK_succ hy
                        clear hy
                        generalize foundK l x m = f at *
                        have HDB : Hid (doneB x y = false) := by rw [Hid]; unfold doneB; rw [hkd]; rfl
                        cases hk : (y.kind == 3)
                        · have HFB : Hid (fullB x y = false) := by rw [Hid]; unfold fullB; rw [hk]; simp
                          go_upto_region 16 with (fail)
                          go_quiet (fail)
                          go_upto_region 17 with (fail)
                          go_quiet (fail)
                          cases f
                          all_goals
                            go_wp2_with fail
                            go_roundw
                            case rel => exact ⟨m + 1, by omega, by go_num, by rw [HFS.out, HFB.out, HDB.out]; rfl, HKI.out.trans (Kept.drewN _ _ _)⟩
                            case measure => simp [intOf]; omega
                        · cases ht : (y.ty == x.ty)
                          all_goals
                            have HFB : Hid (fullB x y = (y.ty == x.ty)) := by rw [Hid]; unfold fullB; rw [hkd, hk]; rfl
                            rw [ht] at HFB
                            go_upto_region 16 with (fail)
                            go_quiet (fail)
                            go_upto_region 17 with (fail)
                            go_quiet (fail)
                            cases f
                            all_goals
                              go_wp2_with fail
                              go_roundw
                              case rel => exact ⟨m + 1, by omega, by go_num, by rw [HFS.out, HFB.out, HDB.out]; rfl, HKI.out.trans (Kept.drewN _ _ _)⟩
                              case measure => simp [intOf]; omega
                      · obtain rfl : m = l.length := by omega
                        have HFA := Lib.hid (foundK_all l x)
                        generalize foundK l x l.length = f at *
                        go_wp2_with fail
                        go_meet
                        exact ⟨by rw [HFA.out], HKI.out⟩
                  · by_cases hkd' : x.kind = 5
                    · have hkd := hkd'
                      rw [hkd] at x0
                      clear hkd'
                      go_wp2_with fail
                      go_loopw [12, 13] (fun v12 i wr => ∃ m : Nat, m ≤ l.length ∧ i = .int .i64 m ∧ v12 = .bool (foundK l x m) ∧ Kept [] w6 wr) (fun _ i _ => l.length - (intOf i).toNat)
                      case atStart => exact ⟨0, Nat.zero_le _, rfl, rfl, HKR.out⟩
                      case round =>
                        obtain ⟨m, hm, rfl, rfl, hkr⟩ := hrel
                        have HKI := Lib.hid hkr
                        clear hkr
                        by_cases hlm : m < l.length
                        · obtain ⟨y, hy⟩ : ∃ y, l[m]? = some y := ⟨_, List.getElem?_eq_getElem hlm⟩
                          obtain ⟨y0, y1, y2⟩ := EvsIn.cells (HEV.out m y hy)
                          replace x0 := HKI.out.cell x0 (by simp)
                          replace x1 := HKI.out.cell x1 (by simp)
                          replace x2 := HKI.out.cell x2 (by simp)
                          replace y0 := HKI.out.cell y0 (by simp)
                          replace y1 := HKI.out.cell y1 (by simp)
                          replace y2 := HKI.out.cell y2 (by simp)
                          have HFS : Hid (foundK l x (m + 1) = (foundK l x m || fullB x y || doneB x y)) := foundK_succ hy
                          clear hy
                          generalize foundK l x m = f at *
                          have HFB : Hid (fullB x y = false) := by rw [Hid]; unfold fullB; rw [hkd]; rfl
                          cases hk : (y.kind == 6)
                          · have HDB : Hid (doneB x y = false) := by rw [Hid]; unfold doneB; rw [hk]; simp
                            go_upto_region 16 with (fail)
                            go_quiet (fail)
                            go_upto_region 17 with (fail)
                            go_quiet (fail)
                            cases f
                            all_goals
                              go_wp2_with fail
                              go_roundw
                              case rel => exact ⟨m + 1, by omega, by go_num, by rw [HFS.out, HFB.out, HDB.out]; rfl, HKI.out.trans (Kept.drewN _ _ _)⟩
                              case measure => simp [intOf]; omega
                          · cases ht : (y.num == x.num)
                            all_goals
                              have HDB : Hid (doneB x y = (y.num == x.num)) := by rw [Hid]; unfold doneB; rw [hkd, hk]; rfl
                              rw [ht] at HDB
                              go_upto_region 16 with (fail)
                              go_quiet (fail)
                              go_upto_region 17 with (fail)
                              go_quiet (fail)
                              cases f
                              all_goals
                                go_wp2_with fail
                                go_roundw
                                case rel => exact ⟨m + 1, by omega, by go_num, by rw [HFS.out, HFB.out, HDB.out]; rfl, HKI.out.trans (Kept.drewN _ _ _)⟩
                                case measure => simp [intOf]; omega
                        · obtain rfl : m = l.length := by omega
                          have HFA := Lib.hid (foundK_all l x)
                          generalize foundK l x l.length = f at *
                          go_wp2_with fail
                          go_meet
                          exact ⟨by rw [HFA.out], HKI.out⟩
                    · have hA : (x.kind == 2) = false := by simpa using hkd
                      have hC : (x.kind == 5) = false := by simpa using hkd'
                      clear hkd hkd'
                      go_wp2_with fail
                      go_loopw [12, 13] (fun v12 i wr => ∃ m : Nat, m ≤ l.length ∧ i = .int .i64 m ∧ v12 = .bool (foundK l x m) ∧ Kept [] w6 wr) (fun _ i _ => l.length - (intOf i).toNat)
                      case atStart => exact ⟨0, Nat.zero_le _, rfl, rfl, HKR.out⟩
                      case round =>
                        obtain ⟨m, hm, rfl, rfl, hkr⟩ := hrel
                        have HKI := Lib.hid hkr
                        clear hkr
                        by_cases hlm : m < l.length
                        · obtain ⟨y, hy⟩ : ∃ y, l[m]? = some y := ⟨_, List.getElem?_eq_getElem hlm⟩
                          obtain ⟨y0, y1, y2⟩ := EvsIn.cells (HEV.out m y hy)
                          replace x0 := HKI.out.cell x0 (by simp)
                          replace x1 := HKI.out.cell x1 (by simp)
                          replace x2 := HKI.out.cell x2 (by simp)
                          replace y0 := HKI.out.cell y0 (by simp)
                          replace y1 := HKI.out.cell y1 (by simp)
                          replace y2 := HKI.out.cell y2 (by simp)
                          have HFS : Hid (foundK l x (m + 1) = (foundK l x m || fullB x y || doneB x y)) := foundK_succ hy
                          clear hy
                          generalize foundK l x m = f at *
                          have HFB : Hid (fullB x y = false) := by rw [Hid]; unfold fullB; rw [hA]; rfl
                          have HDB : Hid (doneB x y = false) := by rw [Hid]; unfold doneB; rw [hC]; rfl
                          go_upto_region 16 with (fail)
                          go_quiet (fail)
                          go_upto_region 17 with (fail)
                          go_quiet (fail)
                          cases f
                          all_goals
                            go_wp2_with fail
                            go_roundw
                            case rel => exact ⟨m + 1, by omega, by go_num, by rw [HFS.out, HFB.out, HDB.out]; rfl, HKI.out.trans (Kept.drewN _ _ _)⟩
                            case measure => simp [intOf]; omega
                        · obtain rfl : m = l.length := by omega
                          have HFA := Lib.hid (foundK_all l x)
                          generalize foundK l x l.length = f at *
                          go_wp2_with fail
                          go_meet
                          exact ⟨by rw [HFA.out], HKI.out⟩
                case rest =>
                  obtain ⟨rfl, hkc⟩ := hcut
                  have HKR2 := Lib.hid hkc
                  clear hkc x0 x1 x2
                  obtain ⟨wq, rfl⟩ : ∃ wq : World, wq = wc := ⟨_, rfl⟩
                  generalize foundB l x = fb at *
                  cases b0
                  all_goals
                    cases fb
                    all_goals
                      go_wp2_with fail
                      go_roundw
                      case rel => exact ⟨k + 1, by omega, by go_num, by rw [HOS.out]; rfl, HKR2.out⟩
                      case measure => simp [intOf]; omega
            · obtain rfl : k = l.length := by omega
              have HOA := Lib.hid (openK_all l)
              generalize openK l l.length = b0 at *
              go_wp2_with fail
              go_meet
              exact ⟨by rw [HOA.out], HKR.out⟩
      case rest =>
        obtain ⟨rfl, hkc⟩ := hcut
        obtain ⟨w7, rfl⟩ : ∃ w7 : World, w7 = wc := ⟨_, rfl⟩
        have HK7 := Lib.hid (HK6.out.trans hkc)
        have HTB7 := Lib.hid (HTB6.out.kept hkc)
        have HE7 := Lib.hid (HE6.out.kept hkc)
        clear hkc
        cases ho : openB l
        · have h2 := (HER.out.2 ho)
          rw [← HFm.out] at h2
          have HFR := Lib.hid h2.2
          have h3 := h2.1
          rw [HQM.out] at h3
          obtain rfl : qm2 = 0 := h3
          clear h2 ho
          obtain ⟨c0, c1, c2, c3, c4, _⟩ := HTB7.out
          go_wp2_with fail
          refine (frozen_ref (v := v) (t := t) (a := Am) (l := fm) HE7.out HS.out h40 (by omega) rfl _).mono ?_
          rintro e w9 ⟨u16, rfl, hA9, hb9⟩
          have HK9 := Lib.hid (HK7.out.trans (Kept.of_below hb9))
          have HB9 := Lib.hid (IntsAt.of_owns hA9)
          clear hb9 hA9 c0 c1 c2 c3 c4
          rcases (HE.out.kept HK9.out).evs with hnil | ⟨b, o, rfl, hc⟩
          · have hl0 : l.length ≤ 0 := by rw [hnil]; simp
            clear hnil
            go_wp2_with fail
            go_loopw [17] (fun i wr => i = .int .i64 0 ∧ wr = w9) (fun _ _ => 0)
            case atStart => exact ⟨rfl, rfl⟩
            case round =>
              obtain ⟨rfl, rfl⟩ := hrel
              go_wp2_with fail
              refine (head_any _).mono ?_
              rintro e w10 ⟨rfl, hk10⟩
              have HK10 := Lib.hid (HK9.out.trans hk10)
              clear hk10
              go_wp2_with fail
              go_ret
              exact ⟨rfl, HK10.out⟩
          · have HEV := Lib.hid hc
            clear hc
            go_wp2_with fail
            go_loopw [17] (fun i wr => ∃ k : Nat, k ≤ l.length ∧ i = .int .i64 k ∧ wr = w9) (fun i _ => l.length - (intOf i).toNat)
            case atStart => exact ⟨0, Nat.zero_le _, rfl, rfl⟩
            case round =>
              obtain ⟨k, hk, rfl, rfl⟩ := hrel
              obtain ⟨wo, rfl⟩ : ∃ wo : World, wo = wr := ⟨_, rfl⟩
              by_cases hlt : k < l.length
              · obtain ⟨x, hx⟩ : ∃ x, l[k]? = some x := ⟨_, List.getElem?_eq_getElem hlt⟩
                obtain ⟨x0, x1, x2⟩ := EvsIn.cells (HEV.out k x hx)
                have hxm := List.mem_of_getElem? hx
                clear hx
                by_cases h1 : x.kind = 1
                · have HIN : Hid (hasI (frozenR t fm) x.ty = true) := has_iff.2 (HFR.out x hxm (.inl h1))
                  rw [h1] at x0
                  clear h1 hxm
                  go_wp2_with fail
                  refine (in_any _ _ (frozenR t fm) x.ty HB9.out).mono ?_
                  rintro e w8 ⟨rfl, rfl⟩
                  rw [HIN.out]
                  go_wp2_with fail
                  go_roundw
                  case rel => exact ⟨k + 1, by omega, by go_num, trivial⟩
                  case measure => simp [intOf]; omega
                · by_cases h2 : x.kind = 2
                  · have HIN : Hid (hasI (frozenR t fm) x.ty = true) := has_iff.2 (HFR.out x hxm (.inr h2))
                    rw [h2] at x0
                    clear h1 h2 hxm
                    go_wp2_with fail
                    refine (in_any _ _ (frozenR t fm) x.ty HB9.out).mono ?_
                    rintro e w8 ⟨rfl, rfl⟩
                    rw [HIN.out]
                    go_wp2_with fail
                    go_roundw
                    case rel => exact ⟨k + 1, by omega, by go_num, trivial⟩
                    case measure => simp [intOf]; omega
                  · have hA : (x.kind == 1) = false := by simpa using h1
                    have hB : (x.kind == 2) = false := by simpa using h2
                    clear h1 h2 hxm
                    go_wp2_with fail
                    go_roundw
                    case rel => exact ⟨k + 1, by omega, by go_num, trivial⟩
                    case measure => simp [intOf]; omega
              · go_wp2_with fail
                refine (head_any _).mono ?_
                rintro e w10 ⟨rfl, hk10⟩
                have HK10 := Lib.hid (HK9.out.trans hk10)
                clear hk10
                go_wp2_with fail
                go_ret
                exact ⟨rfl, HK10.out⟩
        · have h2 := HER.out.1 ho
          rw [← HFm.out, HQM.out] at h2
          obtain ⟨rfl, rfl⟩ : qm1 = (l.length : Int) ∧ qm2 = 110 := by injection h2 with h3 h4; exact ⟨h3, h4⟩
          clear h2 ho
          go_wp2_with fail
          refine (head_any _).mono ?_
          rintro e w10 ⟨rfl, hk10⟩
          have HK10 := Lib.hid (HK7.out.trans hk10)
          clear hk10
          go_wp2_with fail
          go_ret
          exact ⟨rfl, HK10.out⟩
    · have hq2 : (q2 != 0) = true := by simpa using h0
      clear h0
      go_wp2_with fail
      refine (head_any w3).mono ?_
      rintro e w6 ⟨rfl, hk6⟩
      have HK6 := Lib.hid (HK3.out.trans hk6)
      clear hk6
      go_wp2_with fail
      go_ret
      exact ⟨rfl, HK6.out⟩
  · have HG := Lib.hid hg
    clear hg
    go_enter Try.func5, Try.ntmps5
    unfold TabV.cells
    go_wp2_with fail
    have hk1 : Kept [] w (w.alloc (Obj.cells #[Value.slice v.ta t.types.length v.tc, Value.slice v.sa t.subs.length v.sc, Value.slice v.ea v.en v.ec, Value.slice v.ga v.gn v.gc, Value.slice v.ia v.im v.ic] 28)) := Kept.alloc _ _ _
    refine (great_any v t a c l.length _ (HE.out.kept hk1).tab (by omega) HE.out.c47).mono ?_
    rintro e w1 ⟨rfl, hk2⟩
    have HK := Lib.hid (hk1.trans hk2)
    clear hk1 hk2
    rw [HG.out]
    go_wp2_with fail
    refine (head_any w1).mono ?_
    rintro e w2 ⟨rfl, hk3⟩
    have HK3 := Lib.hid (HK.out.trans hk3)
    clear hk3
    go_wp2_with fail
    go_ret
    exact ⟨rfl, HK3.out⟩
end Go.Proofs.Ytbjnoffdafpkgaa
