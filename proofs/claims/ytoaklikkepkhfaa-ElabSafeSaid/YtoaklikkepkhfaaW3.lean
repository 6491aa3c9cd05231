/- The law ElabSafe, walked. -/
import Derived.Test.YtoaklikkepkhfaaP8
namespace Go.Proofs.Ytoaklikkepkhfaa
open Go.RowKit

def SafeL (l : List UnitV) (subs : List SubV) (w w4 : World) (G : Nat) (i : Value) (wr : World) : Prop :=
  ∃ (k : Nat) (nl : List (List Int)), k ≤ l.length ∧ i = .int .i64 k ∧ nl.length = k ∧ SafeRow l subs G nl wr ∧ Kept [G] w4 wr ∧ Kept [] w wr

def AgainR (U : List Bool) (n H : Nat) (w7 : World) (g : Nat) (v : Value) (wr : World) : Prop :=
  ∃ (t : List Bool) (b : Bool), v = .bool b ∧ BRow wr H (leftB t) ∧ t.length = n ∧ (∀ i : Nat, U[i]? = some false → t[i]? = some false) ∧ Kept [H] w7 wr ∧ countF t + (if b = true then 1 else 0) ≤ g

set_option maxRecDepth 100000 in
set_option maxHeartbeats 20000000 in
theorem elabSafe_any (w : World) (ua : Option Addr) (uc : Nat) (l : List UnitV) (sa : Option Addr) (sc : Nat) (subs : List SubV) (hE : Env w ua uc l sa sc subs) :
    Calls Try.prog 5 #[.slice ua l.length uc, .slice sa subs.length sc] w (RetB true w) := by
  have HE := Lib.hid hE
  have b1 := hE.ul
  have b2 := hE.um
  have b3 := hE.sl
  have b4 := hE.sm
  clear hE
  obtain ⟨i1, hi1, hz10, hz11, hz12⟩ := info_parts bool_info
  obtain ⟨i2, hi2, hz20, hz21, hz22⟩ := info_parts ints_info
  go_enter Try.func5, Try.ntmps5
  go_wp2_with fail
  refine (great_any w ua uc l sa sc subs HE.out).mono ?_
  rintro e w1 ⟨b, rfl, hsm, hk1⟩
  have HSM := Lib.hid hsm
  have HK1 := Lib.hid hk1
  clear hsm hk1
  cases b
  · have HS := Lib.hid (HSM.out rfl)
    clear HSM
    have s40 := HS.out.l40
    have s80 := HS.out.s80
    go_wp2_with fail
    refine (may_any w1 ua uc l sa sc subs (HE.out.kept HK1.out)).mono ?_
    rintro e w2 ⟨rfl, hk2⟩
    have HK2 := Lib.hid (HK1.out.trans hk2)
    clear hk2 HK1
    cases hm : mayR l subs
    · clear hm
      go_wp2_with fail
      refine (head_any _).mono ?_
      rintro e w8 ⟨rfl, hk8⟩
      have HK8 := Lib.hid hk8
      clear hk8
      go_wp2_with fail
      go_ret
      exact ⟨rfl, HK2.out.trans HK8.out⟩
    · have HM := Lib.hid (may_of hm)
      have HMB := Lib.hid hm
      clear hm
      go_wp2_with fail
      refine (order_any w2 ua uc l sa sc subs (HE.out.kept HK2.out) HS.out.room).mono ?_
      rintro e w3 ⟨v5, os, er, rfl, hres, hi5, hk3⟩
      have HRES := Lib.hid hres
      have HI5 := Lib.hid hi5
      have HK3 := Lib.hid (HK2.out.trans hk3)
      have hz := HK3.out.size
      clear hres hi5 hk3 HK2
      have hmb1 : i1.bytes * l.length ≤ 281474976710656 := by rw [hz12]; omega
      have hmb2 : i2.bytes * l.length ≤ 281474976710656 := by rw [hz22]; omega
      go_upto_region 5 with (at_make; refine wpList_make_row _ rfl _ _ 37 rfl 26 i2 (.slice none 0 0) Try.underlying37 hi2 hz20 hz21 rfl .i64 .i64 l.length rfl rfl hmb2 (by omega) ?_)
      refine wp_gen' ?_
      intro w4 hw4
      have hk4 : Kept [] w3 w4 := by rw [hw4]; exact Kept.alloc _ _ _
      have HN4 : Hid (SafeRow l subs w3.heap.size [] w4) := by rw [Hid, hw4]; exact SafeRow.begin (VRow.made _ _ _ _)
      have HK4 := Lib.hid (HK3.out.trans hk4)
      have HI54 := Lib.hid (HI5.out.kept hk4)
      clear hw4 hk4 HI5 HK3
      generalize hGG : w3.heap.size = G at *
      clear hGG
      go_upto_block 0 with (fail)
      go_cut [] (fun wc => SafeL l subs w w4 G (.int .i64 l.length) wc)
      case first =>
        go_wp2_with fail
        go_loopw [8] (fun i wr => SafeL l subs w w4 G i wr) (fun i _ => l.length - (intOf i).toNat)
        case atStart => exact ⟨0, [], Nat.zero_le _, rfl, rfl, HN4.out, Kept.refl _ _, HK4.out⟩
        case round =>
          obtain ⟨k, nl, hk, rfl, hnl, hsr, hkg, hkw⟩ := hrel
          have HSR := Lib.hid hsr
          have HKG := Lib.hid hkg
          have HKW := Lib.hid hkw
          have HNL := Lib.hid hnl
          clear hsr hkg hkw hnl
          by_cases hlt : k < l.length
          · obtain ⟨x, hx⟩ : ∃ x, l[k]? = some x := ⟨_, List.getElem?_eq_getElem hlt⟩
            have HX := Lib.hid hx
            clear hx
            go_wp2_with fail
            refine (needsTop_any wr ua uc l sa sc subs k (HE.out.kept HKW.out) HS.out.room).mono ?_
            rintro e w5 ⟨v9, xs, fr, rfl, hres, hi9, hk5⟩
            obtain ⟨hnd, rfl⟩ := needsRes_ok HM.out hlt hres
            have HND := Lib.hid hnd
            have HI9 := Lib.hid hi9
            have HK5 := Lib.hid hk5
            clear hres hnd hi9 hk5
            go_wp2_with fail
            refine (in_any w5 v9 xs k HI9.out.ints).mono ?_
            rintro e w5' ⟨rfl, rfl⟩
            rw [need_self HND.out]
            obtain ⟨a9, c9, rfl, _⟩ := id HI9.out
            have HSR5 := Lib.hid (HSR.out.kept HK5.out)
            obtain ⟨f7, v7, c7⟩ := HSR5.out.old hlt
            go_upto_region 12 with (fail)
            refine wp_gen' ?_
            intro w6 hw6
            have hz6 : Kept [G] w5 w6 := by rw [hw6]; exact Kept.setCell _ _ _ (by simp)
            have HSR6 : Hid (SafeRow l subs G (nl ++ [xs]) w6) := by
              have hn := HNL.out
              have h := HSR5.out.snoc (x := xs) (by omega) HI9.out (by rw [hn]; exact HND.out)
              rw [hn] at h
              rw [Hid, hw6]; exact h
            have HI96 := Lib.hid (HI9.out.offS HSR5.out hz6)
            have HKG6 := Lib.hid ((HKG.out.trans (HK5.out.mono (by simp))).trans hz6)
            have HKW6 := Lib.hid ((HKW.out.trans HK5.out).above hz6 (fun q hq => by simp at hq; omega))
            clear hw6 hz6 f7 c7 HSR HKG HKW HK5 HI9 HSR5
            go_wp2_with fail
            refine (reaches_any w6 ua uc l sa sc subs k x (HE.out.kept HKW6.out) HX.out HM.out (HS.out.room.c x (List.mem_of_getElem? HX.out))).mono ?_
            rintro e w7 ⟨g, bs, rfl, hbr, hfr, hri, hk7⟩
            have HBR := Lib.hid hbr
            have HRI := Lib.hid hri
            have HI97 := Lib.hid (HI96.out.kept hk7)
            have HSR7 := Lib.hid (HSR6.out.kept hk7)
            have HKG7 := Lib.hid (HKG6.out.trans (hk7.mono (by simp)))
            have HKW7 := Lib.hid (HKW6.out.trans hk7)
            have HE7 := Lib.hid (HE.out.kept HKW7.out)
            clear hbr hfr hri hk7 HI96 HSR6 HKG6 HKW6
            go_upto_block 2 with (fail)
            go_cut [] (fun wc => wc = w7)
            case first =>
              go_wp2_with fail
              go_loopw [12] (fun i wr => ∃ j : Nat, j ≤ subs.length ∧ i = .int .i64 j ∧ wr = w7) (fun i _ => subs.length - (intOf i).toNat)
              case atStart => exact ⟨0, Nat.zero_le _, rfl, rfl⟩
              case round =>
                obtain ⟨j, hj, rfl, rfl⟩ := hrel
                by_cases hjt : j < subs.length
                · obtain ⟨y, hy⟩ : ∃ y, subs[j]? = some y := ⟨_, List.getElem?_eq_getElem hjt⟩
                  obtain ⟨bb, hb⟩ : ∃ b, bs[j]? = some b := ⟨_, List.getElem?_eq_getElem (by rw [HRI.out.len]; exact hjt)⟩
                  obtain ⟨bu, ou, rfl, hr⟩ := HE7.out.ss.some_ hy
                  obtain ⟨y0, _⟩ := sub_cells (hr j y hy)
                  have cb := HBR.out.cell hb
                  have HY := Lib.hid hy
                  have HB := Lib.hid hb
                  clear hy hb hr
                  cases bb
                  · go_wp2_with fail
                    go_roundw
                    case rel => exact ⟨j + 1, by omega, by go_num, trivial⟩
                    case measure => simp [intOf]; omega
                  · by_cases hne : y.unit = (k : Int)
                    · go_wp2_with fail
                      go_roundw
                      case rel => exact ⟨j + 1, by omega, by go_num, trivial⟩
                      case measure => simp [intOf]; omega
                    · go_wp2_with fail
                      refine (in_any _ _ xs y.unit HI97.out.ints).mono ?_
                      rintro e w7' ⟨rfl, rfl⟩
                      rw [need_sub HND.out HX.out HRI.out HY.out HB.out hne]
                      go_wp2_with fail
                      go_roundw
                      case rel => exact ⟨j + 1, by omega, by go_num, trivial⟩
                      case measure => simp [intOf]; omega
                · go_wp2_with fail
                  go_meet
                  exact rfl
            case rest =>
              obtain rfl := hcut
              obtain ⟨bu, ou, rfl, hr⟩ := HE7.out.us.some_ HX.out
              obtain ⟨x0, x1, x2, x3⟩ := unit_cells (hr k x HX.out)
              have hxo := HE7.out.uok x (List.mem_of_getElem? HX.out)
              have o1 := hxo.n1
              have o2 := hxo.n2
              have o4 := hxo.n4
              have HIN := Lib.hid (HE7.out.un x (List.mem_of_getElem? HX.out))
              clear hr x0 x1 x3 hxo
              obtain ⟨w8, rfl⟩ : ∃ w8 : World, w8 = wc := ⟨_, rfl⟩
              go_wp2_with fail
              go_loopw [13] (fun i wr => ∃ j : Nat, j ≤ x.needs.length ∧ i = .int .i64 j ∧ wr = w8) (fun i _ => x.needs.length - (intOf i).toNat)
              case atStart => exact ⟨0, Nat.zero_le _, rfl, rfl⟩
              case round =>
                obtain ⟨j, hj, rfl, rfl⟩ := hrel
                by_cases hjt : j < x.needs.length
                · obtain ⟨n, hn⟩ : ∃ n, x.needs[j]? = some n := ⟨_, List.getElem?_eq_getElem hjt⟩
                  have HN := Lib.hid hn
                  rcases HIN.out with h0 | ⟨bn, on, hna, hcn⟩
                  · rw [h0] at hn; simp at hn
                  · have cn := hcn j n hn
                    rw [hna] at x2
                    clear hcn hn hna
                    by_cases hne : n = (k : Int)
                    · go_wp2_with fail
                      go_roundw
                      case rel => exact ⟨j + 1, by omega, by go_num, trivial⟩
                      case measure => simp [intOf]; omega
                    · go_wp2_with fail
                      refine (in_any _ _ xs n HI97.out.ints).mono ?_
                      rintro e w7' ⟨rfl, rfl⟩
                      rw [need_own HND.out HX.out HN.out hne]
                      go_wp2_with fail
                      go_roundw
                      case rel => exact ⟨j + 1, by omega, by go_num, trivial⟩
                      case measure => simp [intOf]; omega
                · go_wp2_with fail
                  go_roundw
                  case rel => exact ⟨k + 1, nl ++ [xs], by omega, by go_num, by have := HNL.out; simp; omega, HSR7.out, HKG7.out, HKW7.out⟩
                  case measure => simp [intOf]; omega
          · obtain rfl : k = l.length := by omega
            go_wp2_with fail
            go_meet
            exact ⟨l.length, nl, Nat.le_refl _, rfl, HNL.out, HSR.out, HKG.out, HKW.out⟩
      case rest =>
        obtain ⟨k', nl, _, e, hnl, hsr, hkg, hkw⟩ := hcut
        obtain rfl : l.length = k' := by injection e with _ e; omega
        obtain ⟨w5, rfl⟩ : ∃ w5 : World, w5 = wc := ⟨_, rfl⟩
        have HI55 := Lib.hid (HI54.out.offS HN4.out hkg)
        have HSR5 := Lib.hid hsr
        have HNL := Lib.hid hnl
        have HKW5 := Lib.hid hkw
        have HNO := Lib.hid (hsr.needsOk hnl)
        have hz5 := hkw.size
        clear hnl hsr hkg hkw e HI54 HN4 HK4 hz
        go_upto_region 24 with (at_make; refine wpList_make_row _ rfl _ _ 39 rfl 4 i1 (.bool false) Try.underlying39 hi1 hz10 hz11 rfl .i64 .i64 l.length rfl rfl hmb1 (by omega) ?_)
        refine wp_gen' ?_
        intro w6 hw6
        have hk6 : Kept [] w5 w6 := by rw [hw6]; exact Kept.alloc _ _ _
        have HB6 : Hid (BRow w6 w5.heap.size (laidT l.length 0)) := by rw [Hid, laidT_zero, hw6]; exact BRow.made w5 _
        have HI56 := Lib.hid (HI55.out.kept hk6)
        have HSR6 := Lib.hid (HSR5.out.kept hk6)
        have HKW6 := Lib.hid (HKW5.out.trans hk6)
        clear hw6 hk6 HI55 HSR5 HKW5 hmb1 hmb2
        generalize hHH : w5.heap.size = H at *
        clear hHH
        go_upto_block 6 with (fail)
        go_cut [] (fun wc => BRow wc H (laidT l.length l.length) ∧ Kept [H] w6 wc)
        case first =>
          go_wp2_with fail
          go_loopw [15] (fun i wr => ∃ k : Nat, k ≤ l.length ∧ i = .int .i64 k ∧ BRow wr H (laidT l.length k) ∧ Kept [H] w6 wr) (fun i _ => l.length - (intOf i).toNat)
          case atStart => exact ⟨0, Nat.zero_le _, rfl, HB6.out, Kept.refl _ _⟩
          case round =>
            obtain ⟨k, hk, rfl, hb, hkr⟩ := hrel
            have HB := Lib.hid hb
            have HKR := Lib.hid hkr
            clear hb hkr
            by_cases hlt : k < l.length
            · have hf := HB.out.frozen k
              have hc := HB.out.cell (laidT_at hlt)
              go_wp2_with fail
              go_roundw
              case rel => exact ⟨k + 1, by omega, by go_num, by rw [← laidT_set hlt]; exact HB.out.set k true, HKR.out.trans (Kept.setCell _ _ _ (by simp))⟩
              case measure => simp [intOf]; omega
            · obtain rfl : k = l.length := by omega
              go_wp2_with fail
              go_meet
              exact ⟨HB.out, HKR.out⟩
        case rest =>
          obtain ⟨hb7, hk7⟩ := hcut
          obtain ⟨w7, rfl⟩ : ∃ w7 : World, w7 = wc := ⟨_, rfl⟩
          rw [laidT_all] at hb7
          have HB7 := Lib.hid hb7
          have HI57 := Lib.hid (HI56.out.off HB6.out hk7)
          have HSR7 := Lib.hid (HSR6.out.off HB6.out hk7)
          have HKW7 := Lib.hid (HKW6.out.above hk7 (fun q hq => by simp at hq; omega))
          clear hb7 hk7 HI56 HSR6 HKW6 HB6
          have hmr := HMB.out
          have HR : Hid (∃ ns, NamesOk l ns ∧ os = (orderI (orderR ns nl)).1 ∧ er = (orderI (orderR ns nl)).2) := by
            rcases HRES.out with h | ⟨_, ns, nl', h1, h2, h3, h4⟩
            · rw [hmr] at h; cases h.1
            · rw [h2.uniq HNO.out] at h3 h4
              exact ⟨ns, h1, h3, h4⟩
          clear hmr HRES
          obtain ⟨ns, hns, hos, her⟩ := HR.out
          have HNS := Lib.hid hns
          clear HR hns
          cases ho : orderR ns nl
          · rw [ho] at hos her
            obtain rfl : os = [] := hos
            obtain rfl : er = 150 := her
            obtain ⟨U, hU⟩ := orderR_none HNS.out HNL.out ho
            have HU := Lib.hid hU
            clear ho hU
            obtain ⟨a5, c5, rfl, _⟩ := id HI57.out
            go_upto_block 8 with (fail)
            go_cut [] (fun wc => ∃ g v, AgainR U l.length H w7 g v wc)
            case first =>
              go_wp2_with fail
              go_loopg [16] (l.length + 1) (fun g v wr => AgainR U l.length H w7 g v wr)
              case atStart => exact ⟨List.replicate l.length false, true, rfl, HB7.out, by simp, fun i hi => by
                have := (List.getElem?_eq_some_iff.1 hi).1
                rw [HU.out.1] at this
                simp [this], Kept.refl _ _, by rw [countF_rep]; simp⟩
              case round =>
                obtain ⟨t, b, rfl, hbt, htl, hinv, hkr, hms⟩ := hrel
                have HBT := Lib.hid hbt
                have HTL := Lib.hid htl
                have HINV := Lib.hid hinv
                have HKR := Lib.hid hkr
                have HMS := Lib.hid hms
                clear hbt htl hinv hkr hms
                cases b
                · go_wp2_with fail
                  go_meet
                  exact ⟨_, _, t, false, rfl, HBT.out, HTL.out, HINV.out, HKR.out, HMS.out⟩
                · go_wp2_with fail
                  go_loopg [16, 17] l.length (fun g2 v i wr => ∃ k : Nat, k + g2 = l.length ∧ i = .int .i64 k ∧ AgainR U l.length H w7 (countF t) v wr)
                  case atStart => exact ⟨0, by omega, rfl, t, false, rfl, HBT.out, HTL.out, HINV.out, HKR.out, by simp⟩
                  case round =>
                    obtain ⟨k, hkg, rfl, t2, b2, rfl, hbt2, htl2, hinv2, hkr2, hms2⟩ := hrel
                    have HBT2 := Lib.hid hbt2
                    have HTL2 := Lib.hid htl2
                    have HINV2 := Lib.hid hinv2
                    have HKR2 := Lib.hid hkr2
                    have HMS2 := Lib.hid hms2
                    have HSR8 := Lib.hid (HSR7.out.off HB7.out hkr2)
                    clear hbt2 htl2 hinv2 hkr2 hms2
                    obtain ⟨w8, rfl⟩ : ∃ w8 : World, w8 = wr := ⟨_, rfl⟩
                    by_cases hlt : k < l.length
                    · obtain ⟨x, hx⟩ : ∃ x, nl[k]? = some x := ⟨_, List.getElem?_eq_getElem (by have := HNL.out; omega)⟩
                      obtain ⟨tk0, htk⟩ : ∃ tb, t2[k]? = some tb := ⟨_, List.getElem?_eq_getElem (by have := HTL2.out; omega)⟩
                      obtain ⟨a7, c7, q7, q71, q72, q7i⟩ := HSR8.out.at_ hx
                      have q1 := HBT2.out.cell (leftB_at htk)
                      have q2 := HBT2.out.frozen k
                      have HX := Lib.hid hx
                      have HIN := Lib.hid q7i
                      have HXR : Hid (∀ y, y ∈ x → 0 ≤ y ∧ y < (l.length : Int)) := fun y hy => need_at_range HM.out HNO.out hx hy
                      have HF0 : Hid (freeUp t2 x k 0 = !tk0) := by rw [Hid, freeUp_zero, tk, htk]; rfl
                      clear hx htk q7i
                      go_upto_block 12 with (fail)
                      go_cut [18] (fun v18 wc => v18 = .bool (readyB nl t2 k) ∧ wc = w8)
                      case first =>
                        go_wp2_with fail
                        go_loopw [18, 19] (fun v i wz => ∃ q : Nat, q ≤ x.length ∧ i = .int .i64 q ∧ v = .bool (freeUp t2 x k q) ∧ wz = w8) (fun _ i _ => x.length - (intOf i).toNat)
                        case atStart => exact ⟨0, Nat.zero_le _, rfl, by rw [HF0.out], rfl⟩
                        case round =>
                          obtain ⟨q, hq, rfl, rfl, rfl⟩ := hrel
                          by_cases hqt : q < x.length
                          · obtain ⟨y, hy⟩ : ∃ y, x[q]? = some y := ⟨_, List.getElem?_eq_getElem hqt⟩
                            obtain ⟨y0, y1⟩ := HXR.out y (List.mem_of_getElem? hy)
                            obtain ⟨m, rfl⟩ := Int.eq_ofNat_of_zero_le y0
                            obtain ⟨tm, htm⟩ : ∃ tm, t2[m]? = some tm := ⟨_, List.getElem?_eq_getElem (by have := HTL2.out; omega)⟩
                            have HFS : Hid (freeUp t2 x k (q + 1) = (freeUp t2 x k q && tm)) := by rw [Hid, freeUp_succ t2 x k hy]; simp [tk, htm]
                            have qm := HBT2.out.cell (leftB_at htm)
                            rcases HIN.out with h0 | ⟨bn, on, hna, hcn⟩
                            · rw [h0] at hqt; simp at hqt
                            · have qy := hcn q m hy
                              subst hna
                              clear hcn hy htm q1 q2
                              generalize hfq : freeUp t2 x k q = fq at *
                              have HFQ := Lib.hid hfq
                              clear hfq
                              cases fq
                              · go_wp2_with fail
                                go_roundw
                                case rel => exact ⟨q + 1, by omega, by go_num, by rw [HFS.out]; rfl, trivial⟩
                                case measure => simp [intOf]; omega
                              · go_wp2_with fail
                                go_roundw
                                case rel => exact ⟨q + 1, by omega, by go_num, by rw [HFS.out]; simp, trivial⟩
                                case measure => simp [intOf]; omega
                          · obtain rfl : q = x.length := by omega
                            rw [freeUp_all nl t2 k HX.out]
                            generalize hrb : readyB nl t2 k = rb at *
                            go_wp2_with fail
                            go_meet
                            exact ⟨rfl, rfl⟩
                      case rest =>
                        obtain ⟨rfl, hwc⟩ := hcut
                        obtain ⟨w9, rfl⟩ : ∃ w9 : World, w9 = wc := ⟨_, rfl⟩
                        subst hwc
                        cases hrb : readyB nl t2 k
                        · clear hrb
                          go_wp2_with fail
                          go_roundg (gk - 1)
                          case measure => omega
                          case rel => exact ⟨k + 1, by omega, by go_num, t2, b2, rfl, HBT2.out, HTL2.out, HINV2.out, HKR2.out, HMS2.out⟩
                        · have HCF := Lib.hid (countF_set (ready_iff.1 hrb).1)
                          have HST := Lib.hid (stuck_step HU.out HINV2.out hrb)
                          have HM2 : Hid (countF t2 ≤ countF t) := Nat.le_trans (Nat.le_add_right _ _) HMS2.out
                          clear hrb
                          go_wp2_with fail
                          go_roundg (gk - 1)
                          case measure => omega
                          case rel => exact ⟨k + 1, by omega, by go_num, t2.set k true, true, rfl, by rw [← leftB_set]; exact HBT2.out.set k false, by rw [List.length_set]; exact HTL2.out, HST.out, HKR2.out.trans (Kept.setCell _ _ _ (by simp)), by
                            have h1 := HCF.out
                            have h2 := HM2.out
                            show countF (t2.set k true) + 1 ≤ countF t
                            omega⟩
                    · obtain rfl : k = l.length := by omega
                      go_wp2_with fail
                      go_roundg (countF t)
                      case measure => have := HMS.out; simp at this; omega
                      case rel => exact ⟨t2, b2, rfl, HBT2.out, HTL2.out, HINV2.out, HKR2.out, HMS2.out⟩
            case rest =>
              obtain ⟨gf, vf, t, bf, rfl, hbt, htl, hinv, hkr, _⟩ := hcut
              obtain ⟨w8, rfl⟩ : ∃ w8 : World, w8 = wc := ⟨_, rfl⟩
              have HBT := Lib.hid hbt
              have HTL := Lib.hid htl
              have HKW8 := Lib.hid (HKW7.out.above hkr (fun q hq => by simp at hq; omega))
              have HSOME : Hid (someLeft t t.length = true) := by
                obtain ⟨i, hi⟩ := HU.out.2.1
                exact someLeft_all (hinv i hi)
              clear hbt htl hinv hkr
              go_upto_block 14 with (fail)
              go_cut [20] (fun v20 wc => v20 = .bool true ∧ wc = w8)
              case first =>
                go_wp2_with fail
                go_loopw [20, 21] (fun v i wr => ∃ k : Nat, k ≤ l.length ∧ i = .int .i64 k ∧ v = .bool (someLeft t k) ∧ wr = w8) (fun _ i _ => l.length - (intOf i).toNat)
                case atStart => exact ⟨0, Nat.zero_le _, rfl, by simp [someLeft, leftB], rfl⟩
                case round =>
                  obtain ⟨k, hk, rfl, rfl, rfl⟩ := hrel
                  by_cases hlt : k < l.length
                  · obtain ⟨tb, htb⟩ : ∃ tb, t[k]? = some tb := ⟨_, List.getElem?_eq_getElem (by have := HTL.out; omega)⟩
                    have q1 := HBT.out.cell (leftB_at htb)
                    have HSS := Lib.hid (someLeft_succ htb)
                    clear htb
                    generalize hsk : someLeft t k = sk at *
                    have HSK := Lib.hid hsk
                    clear hsk
                    cases sk
                    · go_wp2_with fail
                      go_roundw
                      case rel => exact ⟨k + 1, by omega, by go_num, by rw [HSS.out]; simp, trivial⟩
                      case measure => simp [intOf]; omega
                    · go_wp2_with fail
                      go_roundw
                      case rel => exact ⟨k + 1, by omega, by go_num, by rw [HSS.out]; simp, trivial⟩
                      case measure => simp [intOf]; omega
                  · obtain rfl : k = l.length := by omega
                    have HSA : Hid (someLeft t l.length = true) := by rw [Hid, ← HTL.out]; exact HSOME.out
                    rw [HSA.out]
                    go_wp2_with fail
                    go_meet
                    exact ⟨rfl, rfl⟩
              case rest =>
                obtain ⟨rfl, rfl⟩ := hcut
                go_wp2_with fail
                refine (head_any _).mono ?_
                rintro e wh ⟨rfl, hkh⟩
                have HKH := Lib.hid hkh
                clear hkh
                go_wp2_with fail
                go_ret
                exact ⟨rfl, HKW8.out.trans HKH.out⟩
          · rename_i o
            rw [ho] at hos her
            obtain rfl : os = natsI o := hos
            obtain rfl : er = 0 := her
            obtain ⟨hol, hord⟩ := orderR_some ho
            rw [HNL.out] at hol hord
            have HORD := Lib.hid hord
            have hlen : (natsI o).length = l.length := by simp [natsI, hol]
            obtain ⟨a5, c5, rfl, h51, h52, _⟩ := id HI57.out
            rw [hlen] at h51
            rw [hlen]
            have HOL := Lib.hid hol
            clear ho hol hord hlen
            go_wp2_with fail
            go_loopw [22] (fun i wr => ∃ k : Nat, k ≤ l.length ∧ i = .int .i64 k ∧ BRow wr H (leftB (takenAt (List.replicate l.length false) (o.take k))) ∧ Kept [H] w7 wr) (fun i _ => l.length - (intOf i).toNat)
            case atStart => exact ⟨0, Nat.zero_le _, rfl, by simpa [takenAt] using HB7.out, Kept.refl _ _⟩
            case round =>
              obtain ⟨k, hk, rfl, hbt, hkr⟩ := hrel
              obtain ⟨w8, rfl⟩ : ∃ w8 : World, w8 = wr := ⟨_, rfl⟩
              have HBT := Lib.hid hbt
              have HKR := Lib.hid hkr
              have HSR8 := Lib.hid (HSR7.out.off HB7.out hkr)
              have HI8 := Lib.hid (HI57.out.off HB7.out hkr)
              have HKW8 := Lib.hid (HKW7.out.above hkr (fun q hq => by simp at hq; omega))
              clear hbt hkr
              by_cases hlt : k < l.length
              · obtain ⟨j, hj⟩ : ∃ j, o[k]? = some j := ⟨_, List.getElem?_eq_getElem (by have := HOL.out; omega)⟩
                obtain ⟨htj, hall⟩ := HORD.out k j hj
                have HSN : Hid ((takenAt (List.replicate l.length false) (o.take k)).set j true = takenAt (List.replicate l.length false) (o.take (k + 1))) := by
                  obtain ⟨hk', rfl⟩ := List.getElem?_eq_some_iff.1 hj
                  rw [Hid, List.take_succ_eq_append_getElem hk', takenAt_snoc]
                have htl : (takenAt (List.replicate l.length false) (o.take k)).length = l.length := by rw [takenAt_len]; simp
                generalize takenAt (List.replicate l.length false) (o.take k) = t at *
                have hjl : j < l.length := by have := (List.getElem?_eq_some_iff.1 htj).1; omega
                obtain ⟨x, hx⟩ : ∃ x, nl[j]? = some x := ⟨_, List.getElem?_eq_getElem (by have := HNL.out; omega)⟩
                obtain ⟨a7, c7, q7, q71, q72, q7i⟩ := HSR8.out.at_ hx
                have q1 : w8.cell? ⟨H, j, none⟩ = some (.bool true) := HBT.out.cell (leftB_at htj)
                have q2 := HBT.out.frozen j
                have HIN := Lib.hid q7i
                have HTL := Lib.hid htl
                have HXR : Hid (∀ (q : Nat) y, x[q]? = some y → ∃ m : Nat, y = m ∧ m < l.length ∧ t[m]? = some true) := fun q y hy => by
                  obtain ⟨y0, y1⟩ := need_at_range HM.out HNO.out hx (List.mem_of_getElem? hy)
                  obtain ⟨m, rfl⟩ := Int.eq_ofNat_of_zero_le y0
                  have hm : m < l.length := by omega
                  refine ⟨m, rfl, hm, ?_⟩
                  have hal := hall
                  unfold allTk needAt at hal
                  rw [hx] at hal
                  have h1 := List.all_eq_true.1 hal _ (List.mem_of_getElem? hy)
                  unfold tk at h1
                  rw [List.getElem?_eq_getElem (by omega)] at h1 ⊢
                  simpa using h1
                rcases (HI8.out.at_).2.1 with h0 | ⟨b5, o5, h5, hc5⟩
                · have : (natsI o).length = 0 := by rw [h0]; rfl
                  have h2 := HOL.out
                  simp [natsI] at this
                  subst this
                  simp at h2
                  omega
                · have c5k := hc5 k j (by simp [natsI, hj])
                  subst h5
                  clear hc5 q7i hx hj htj hall htl
                  go_upto_block 18 with (fail)
                  generalize decide ((j : Int) < 0) = d1
                  generalize decide (l.length ≤ j) = d2
                  go_cut [] (fun wc => wc = w8)
                  case first =>
                    go_wp2_with fail
                    go_loopw [23] (fun i wz => ∃ q : Nat, q ≤ x.length ∧ i = .int .i64 q ∧ wz = w8) (fun i _ => x.length - (intOf i).toNat)
                    case atStart => exact ⟨0, Nat.zero_le _, rfl, rfl⟩
                    case round =>
                      obtain ⟨q, hq, rfl, rfl⟩ := hrel
                      by_cases hqt : q < x.length
                      · obtain ⟨y, hy⟩ : ∃ y, x[q]? = some y := ⟨_, List.getElem?_eq_getElem hqt⟩
                        obtain ⟨m, rfl, hml, htm⟩ := HXR.out q y hy
                        have qm := HBT.out.cell (leftB_at htm)
                        rcases HIN.out with h0 | ⟨bn, on, hna, hcn⟩
                        · rw [h0] at hqt; simp at hqt
                        · have qy := hcn q m hy
                          subst hna
                          clear hcn hy htm q1 q2
                          go_wp2_with fail
                          go_roundw
                          case rel => exact ⟨q + 1, by omega, by go_num, trivial⟩
                          case measure => simp [intOf]; omega
                      · go_wp2_with fail
                        go_meet
                        exact rfl
                  case rest =>
                    obtain ⟨w9, rfl⟩ : ∃ w9 : World, w9 = wc := ⟨_, rfl⟩
                    subst hcut
                    go_wp2_with fail
                    go_roundw
                    case rel => exact ⟨k + 1, by omega, by go_num, by rw [← HSN.out, ← leftB_set]; exact HBT.out.set j false, HKR.out.trans (Kept.setCell _ _ _ (by simp))⟩
                    case measure => simp [intOf]; omega
              · go_wp2_with fail
                refine (head_any _).mono ?_
                rintro e wh ⟨rfl, hkh⟩
                have HKH := Lib.hid hkh
                clear hkh
                go_wp2_with fail
                go_ret
                exact ⟨rfl, HKW8.out.trans HKH.out⟩
  · go_wp2_with fail
    refine (head_any w1).mono ?_
    rintro e w8 ⟨rfl, hk8⟩
    have HK8 := Lib.hid hk8
    clear hk8
    go_wp2_with fail
    go_ret
    exact ⟨rfl, HK1.out.trans HK8.out⟩
end Go.Proofs.Ytoaklikkepkhfaa
