/- The law ElabMoved, walked. -/
import Derived.Test.YtoaklikkepkhfaaM1
import Derived.Deep.RegionHeld3
import Derived.Deep.AppendLies
namespace Go.Proofs.Ytoaklikkepkhfaa
open Go.RowKit

def NoTo (l : List UnitV) (k : Nat) : Prop := ∀ i j, j < i → i < k → (nameOf l i == nameOf l j) = false ∨ (bodyOf l i == bodyOf l j) = false
def NoAt (l : List UnitV) (k q : Nat) : Prop := ∀ j, j < q → (nameOf l k == nameOf l j) = false ∨ (bodyOf l k == bodyOf l j) = false
theorem NoTo.zero (l : List UnitV) : NoTo l 0 := fun i j _ h => by omega
theorem NoAt.zero (l : List UnitV) (k : Nat) : NoAt l k 0 := fun j h => by omega
theorem NoTo.succ {l : List UnitV} {k : Nat} (h : NoTo l k) (h' : NoAt l k k) : NoTo l (k + 1) := fun i j hj hi => by
  by_cases e : i = k
  · subst e; exact h' j hj
  · exact h i j hj (by omega)
theorem NoAt.succ {l : List UnitV} {k q : Nat} (h : NoAt l k q) (h' : (nameOf l k == nameOf l q) = false ∨ (bodyOf l k == bodyOf l q) = false) : NoAt l k (q + 1) := fun j hj => by
  by_cases e : j = q
  · subst e; exact h'
  · exact h j (by omega)

set_option maxRecDepth 100000 in
set_option maxHeartbeats 20000000 in
theorem elabMoved_any (w : World) (ua : Option Addr) (uc : Nat) (l : List UnitV) (sa : Option Addr) (sc : Nat) (subs : List SubV) (s : ByteArray) (hs0 : s.size ≤ 9223372036854775807) (hE : Env w ua uc l sa sc subs) :
    Calls Try.prog 6 #[.slice ua l.length uc, .slice sa subs.length sc, .string s] w (RetB true w) := by
  have HE := Lib.hid hE
  have b1 := hE.ul
  have b2 := hE.um
  have b3 := hE.sl
  have b4 := hE.sm
  clear hE
  obtain ⟨i0, hi, hz0, hz1, hz2⟩ := info_parts int_info
  obtain ⟨iu, hu, hu0, hu1, hu2⟩ := info_parts unit_infoM
  obtain ⟨is, hs, hsz0, hsz1, hsz2⟩ := info_parts sub_infoM
  go_enter Try.func6, Try.ntmps6
  go_wp2_with fail
  refine (great_any w ua uc l sa sc subs HE.out).mono ?_
  rintro e w1 ⟨b, rfl, hsm, hk1⟩
  have HSM := Lib.hid hsm
  have HK1 := Lib.hid hk1
  clear hsm hk1
  cases b
  · have HS := Lib.hid (HSM.out rfl)
    clear HSM
    have s40 := HS.out.l40
    have s80 := HS.out.s80
    by_cases h39 : l.length ≤ 39
    · by_cases h100 : s.size ≤ 100
      · go_wp2_with fail
        refine (may_any w1 ua uc l sa sc subs (HE.out.kept HK1.out)).mono ?_
        rintro e w2 ⟨rfl, hk2⟩
        have HK2 := Lib.hid (HK1.out.trans hk2)
        clear hk2 HK1
        cases hm : mayR l subs
        · clear hm
          go_wp2_with fail
          refine (head_any _).mono ?_
          rintro e w8 ⟨rfl, hk8⟩
          have HK8 := Lib.hid hk8
          clear hk8
          go_wp2_with fail
          go_ret
          exact ⟨rfl, HK2.out.trans HK8.out⟩
        · have HM := Lib.hid (may_of hm)
          clear hm
          go_wp2_with fail
          go_loopw [7] (fun i wr => ∃ k : Nat, k ≤ l.length ∧ i = .int .i64 k ∧ NoTo l k ∧ Kept [] w wr) (fun i _ => l.length - (intOf i).toNat)
          case atStart => exact ⟨0, Nat.zero_le _, rfl, NoTo.zero _, HK2.out⟩
          case round =>
            obtain ⟨k, hk, rfl, hno, hkr⟩ := hrel
            have HNO := Lib.hid hno
            have HKR := Lib.hid hkr
            clear hno hkr
            obtain ⟨w3, rfl⟩ : ∃ w3 : World, w3 = wr := ⟨_, rfl⟩
            by_cases hlt : k < l.length
            · go_wp2_with fail
              go_loopw [8] (fun j wr => ∃ q : Nat, q ≤ k ∧ j = .int .i64 q ∧ NoAt l k q ∧ Kept [] w wr) (fun j _ => k - (intOf j).toNat)
              case atStart => exact ⟨0, Nat.zero_le _, rfl, NoAt.zero _ _, HKR.out⟩
              case round =>
                obtain ⟨q, hq, rfl, hna, hkq⟩ := hrel
                have HNA := Lib.hid hna
                have HKQ := Lib.hid hkq
                clear hna hkq
                by_cases hqt : q < k
                · obtain ⟨x, hx⟩ : ∃ x, l[k]? = some x := ⟨_, List.getElem?_eq_getElem hlt⟩
                  obtain ⟨y, hy⟩ : ∃ y, l[q]? = some y := ⟨_, List.getElem?_eq_getElem (by omega)⟩
                  obtain ⟨bu, ou, rfl, hr⟩ := (HE.out.kept HKQ.out).us.some_ hx
                  obtain ⟨x0, x1, _, _⟩ := unit_cells (hr k x hx)
                  obtain ⟨y0, y1, _, _⟩ := unit_cells (hr q y hy)
                  have HB : Hid (((x.name.toList == y.name.toList) = false ∨ (x.body == y.body) = false) → NoAt l k (q + 1)) := fun h => HNA.out.succ (by
                    unfold nameOf bodyOf; rw [hx, hy]; exact h)
                  clear hr hx hy
                  cases hN : (x.name.toList == y.name.toList)
                  · have HB2 := Lib.hid (HB.out (.inl hN))
                    clear HB
                    go_wp2_with fail
                    go_quiet (fail)
                    go_wp2_with fail
                    go_roundw
                    case rel => exact ⟨q + 1, by omega, by go_num, HB2.out, HKQ.out.trans (Kept.drewN _ _ _)⟩
                    case measure => simp [intOf]; omega
                  · cases hBd : (x.body == y.body)
                    · have HB2 := Lib.hid (HB.out (.inr hBd))
                      clear HB
                      go_wp2_with fail
                      go_quiet (fail)
                      go_wp2_with fail
                      go_roundw
                      case rel => exact ⟨q + 1, by omega, by go_num, HB2.out, HKQ.out.trans (Kept.drewN _ _ _)⟩
                      case measure => simp [intOf]; omega
                    · clear HB
                      go_wp2_with fail
                      go_quiet (fail)
                      go_wp2_with fail
                      refine (head_any _).mono ?_
                      rintro e w8 ⟨rfl, hk8⟩
                      have HK8 := Lib.hid hk8
                      clear hk8
                      go_wp2_with fail
                      go_ret
                      exact ⟨rfl, (HKQ.out.trans (Kept.drewN _ _ _)).trans HK8.out⟩
                · obtain rfl : q = k := by omega
                  have HNS := Lib.hid (HNO.out.succ HNA.out)
                  go_wp2_with fail
                  go_roundw
                  case rel => exact ⟨q + 1, by omega, by go_num, HNS.out, HKQ.out⟩
                  case measure => simp [intOf]; omega
            · obtain rfl : k = l.length := by omega
              have HNT : Hid (NoTies l) := HNO.out
              clear HNO
              have hmb : i0.bytes * l.length ≤ 281474976710656 := by rw [hz2]; omega
              have hmbu : iu.bytes * l.length ≤ 281474976710656 := by rw [hu2]; omega
              have hml : l.length ≤ maxLen := by unfold maxLen; omega
              go_upto_region 13 with (at_make; refine wpList_make_row _ rfl _ _ 26 rfl 3 i0 (.int .i64 0) Try.underlying26 hi hz0 hz1 rfl .i64 .i64 l.length rfl rfl hmb (by omega) ?_)
              refine wp_gen' ?_
              intro w4 hw4
              have hk4 : Kept [] w3 w4 := by rw [hw4]; exact Kept.alloc _ _ _
              have HT4 : Hid (VRow w4 w3.heap.size 3 (toV l.length 0)) := by rw [Hid, toV_zero, hw4]; exact VRow.made w3 _ _ _
              have HK4 := Lib.hid (HKR.out.trans hk4)
              have hTle := HKR.out.size
              clear hw4 hk4 HKR
              generalize hTT : w3.heap.size = T at *
              clear hTT hmb
              go_wp2_with fail
              go_loopw [11] (fun i wr => ∃ k : Nat, k ≤ l.length ∧ i = .int .i64 k ∧ VRow wr T 3 (toV l.length k) ∧ Kept [T] w4 wr) (fun i _ => l.length - (intOf i).toNat)
              case atStart => exact ⟨0, Nat.zero_le _, rfl, HT4.out, Kept.refl _ _⟩
              case round =>
                obtain ⟨k, hk, rfl, ht, hkr⟩ := hrel
                have HT := Lib.hid ht
                have HKR := Lib.hid hkr
                clear ht hkr
                obtain ⟨w5, rfl⟩ : ∃ w5 : World, w5 = wr := ⟨_, rfl⟩
                by_cases hlt : k < l.length
                · obtain ⟨v0, hv0⟩ := toV_old hlt
                  have hc := HT.out.cell hv0
                  have hf := HT.out.frozen k
                  clear hv0
                  go_wp2_with fail
                  go_roundw
                  case rel => exact ⟨k + 1, by omega, by go_num, by rw [← toV_set hlt]; exact HT.out.set k _, HKR.out.trans (Kept.setCell _ _ _ (by simp))⟩
                  case measure => simp [intOf]; omega
                · obtain rfl : k = l.length := by omega
                  have HK5 := Lib.hid (HK4.out.above HKR.out (fun q hq => by simp at hq; omega))
                  clear HKR HT4 HK4
                  go_upto_region 18 with (at_make; refine wpList_make_full _ rfl _ _ 22 rfl w5.heap.size 44 iu _ 4 Try.underlying22 hu hu0 hu1 .i64 .i64 _ _ l.length rfl rfl rfl rfl hmbu hml (Nat.le_refl _) ?_; intro w6 hown6 hgr6)
                  have hk6 : Kept [] w5 w6 := Kept.of_grown hgr6 (fun _ h => by cases h)
                  have HU6 := Lib.hid (TurnRow.begin hown6)
                  have HT6 := Lib.hid (HT.out.kept hk6 (by simp))
                  have HK6 := Lib.hid (HK5.out.trans hk6)
                  have hTU := HT.out.lt
                  have hUle := HK5.out.size
                  clear hown6 hgr6 hk6 HT HK5 hmbu hml
                  generalize hUU : w5.heap.size = U at *
                  clear hUU
                  go_wp2_with fail
                  go_loopw [13] (fun i wr => ∃ k : Nat, k ≤ l.length ∧ i = .int .i64 k ∧ TurnRow l U k wr ∧ Kept [U] w6 wr) (fun i _ => l.length - (intOf i).toNat)
                  case atStart => exact ⟨0, Nat.zero_le _, rfl, HU6.out, Kept.refl _ _⟩
                  case round =>
                    obtain ⟨k, hk, rfl, ht, hkr⟩ := hrel
                    have HU := Lib.hid ht
                    have HKR := Lib.hid hkr
                    have HKW := Lib.hid (HK6.out.above hkr (fun q hq => by simp at hq; omega))
                    have HT := Lib.hid (HT6.out.kept hkr (by simp; omega))
                    clear ht hkr
                    obtain ⟨w7, rfl⟩ : ∃ w7 : World, w7 = wr := ⟨_, rfl⟩
                    by_cases hlt : k < l.length
                    · obtain ⟨x, hx⟩ : ∃ x, l[k]? = some x := ⟨_, List.getElem?_eq_getElem hlt⟩
                      obtain ⟨bu, ou, rfl, hr⟩ := HE.out.us.some_ hx
                      obtain ⟨x0, x1, x2, x3⟩ := unit_cells (hr k x hx)
                      have hbu := World.block_lt_of_cell? w _ x0
                      simp only at hbu
                      replace x0 := HKW.out.cell x0 (by simp)
                      replace x1 := HKW.out.cell x1 (by simp)
                      replace x2 := HKW.out.cell x2 (by simp)
                      replace x3 := HKW.out.cell x3 (by simp)
                      have ok := HE.out.uok x (List.mem_of_getElem? hx)
                      have o1 := ok.n1
                      have o2 := ok.n2
                      have ct : w7.cell? ⟨T, k, none⟩ = some (.int .i64 ((opp l.length k : Nat) : Int)) := by rw [← oppI_nat hlt]; exact HT.out.cell (toV_get hlt hlt)
                      have HX := Lib.hid hx
                      have HCALL : Hid (∀ wx, Kept [] w7 wx → Calls Try.prog 17 #[.slice x.na x.needs.length x.nc, .slice (some ⟨T, 0, none⟩) l.length l.length] wx fun e w' => ∃ v, e = .returned v ∧ w'.ownsRow wx.heap.size 3 1 v x.needs.length ((x.needs.map (oppI l.length)).map (Value.int .i64)) ∧ Kept [] wx w') := fun wx hkx =>
                        moved_any wx x.na x.nc x.needs T l.length ((HE.out.un x (List.mem_of_getElem? hx)).kept (HKW.out.trans hkx)) o1 o2 (fun j hj => hkx.cell (HT.out.cell (toV_get hj hj)) (by simp)) (fun n hn => HM.out.needs x (List.mem_of_getElem? hx) n hn) (by have := HS.out.n2 x (List.mem_of_getElem? hx); omega) (by omega)
                      have HO : Hid (opp l.length k < l.length) := opp_lt hlt
                      have i1 : (0 : Int) ≤ (opp l.length k : Nat) := by omega
                      have i2 : ((opp l.length k : Nat) : Int) < (l.length : Int) := by have := HO.out; omega
                      have j1 : (0 : Int) ≤ (k : Int) := by omega
                      have j2 : (k : Int) < (l.length : Int) := by omega
                      clear hr hx ok
                      generalize hoq : opp l.length k = oq at *
                      have HOQ := Lib.hid hoq
                      clear hoq
                      have KP : Hid (∀ wx, Kept [U] w7 wx → (fun wx => wx.cell? ⟨T, k, none⟩ = some (.int .i64 (oq : Int)) ∧ wx.cell? ⟨bu, ou + k * 4, none⟩ = some (.string x.name) ∧ wx.cell? ⟨bu, ou + k * 4 + 1, none⟩ = some (.bool x.body) ∧ wx.cell? ⟨bu, ou + k * 4 + 2, none⟩ = some (.slice x.na x.needs.length x.nc) ∧ wx.cell? ⟨bu, ou + k * 4 + 3, none⟩ = some (.slice x.ca x.calls.length x.cc)) wx) := fun wx h => ⟨h.cell ct (by simp; omega), h.cell x0 (by simp; omega), h.cell x1 (by simp; omega), h.cell x2 (by simp; omega), h.cell x3 (by simp; omega)⟩
                      go_wp2_with fail
                      go_region_held3 (fun wx => wx.cell? ⟨T, k, none⟩ = some (.int .i64 (oq : Int)) ∧ wx.cell? ⟨bu, ou + k * 4, none⟩ = some (.string x.name) ∧ wx.cell? ⟨bu, ou + k * 4 + 1, none⟩ = some (.bool x.body) ∧ wx.cell? ⟨bu, ou + k * 4 + 2, none⟩ = some (.slice x.na x.needs.length x.nc) ∧ wx.cell? ⟨bu, ou + k * 4 + 3, none⟩ = some (.slice x.ca x.calls.length x.cc))
                        (first | exact KP.out _ (kept4 HK8.out _ _ _ _ _) | exact KP.out _ (HK8.out.mono (by simp)) | exact KP.out _ (Kept.drew _ _) | exact KP.out _ (Kept.refl _ _))
                        ((go_at_call 17
                          refine (HCALL.out w7.drew (Kept.drew _ _)).mono ?_
                          rintro e w8 ⟨v8, rfl, ho8, hk8⟩
                          obtain ⟨A8, c8, rfl⟩ := own_shape ho8
                          have HO8 := Lib.hid (IntsC.of_owns (xs := x.needs.map (oppI l.length)) (by rw [List.length_map]; exact ho8))
                          have HK8 := Lib.hid ((Kept.drew [] w7).trans hk8)
                          obtain ⟨⟨f0, f1, f2, f3, d0, d1, d2, d3⟩, z0, z1, z2, z3⟩ := (HU.out.kept HK8.out).olds HO.out
                          have HSN : Hid (TurnRow l U (k + 1) (w8.setCells U (oq * 4) [.string x.name, .bool x.body, .slice A8 x.needs.length c8, .slice x.ca x.calls.length x.cc])) := by
                            obtain ⟨_, h1, h2, h3, h4⟩ := HO8.out.at_
                            have := (HU.out.kept HK8.out).snoc HX.out (y := ⟨x.name, x.body, A8, c8, x.needs.map (oppI l.length), x.ca, x.cc, x.calls⟩) ⟨rfl, rfl, rfl, rfl, rfl, rfl, h1, h2, h3, h4⟩
                            rw [HOQ.out] at this
                            have e : (⟨x.name, x.body, A8, c8, x.needs.map (oppI l.length), x.ca, x.cc, x.calls⟩ : UnitV).cells = [.string x.name, .bool x.body, .slice A8 x.needs.length c8, .slice x.ca x.calls.length x.cc] := by simp [UnitV.cells]
                            rw [e] at this
                            exact this
                          clear hk8 ho8))
                      all_goals
                        go_wp2_with fail
                        go_roundw
                        case rel => exact ⟨k + 1, by omega, by go_num, HSN.out, HKR.out.trans (kept4 HK8.out _ _ _ _ _)⟩
                        case measure => simp [intOf]; omega
                    · obtain rfl : k = l.length := by omega
                      obtain ⟨l', hl', hue, htu⟩ := HU.out.units (HE.out.kept HKW.out) (by omega)
                      have HTU : Hid (Turned l l' subs (subs.map (subT l.length))) := turned_of hl' htu
                      have HUE := Lib.hid hue
                      have HLL := Lib.hid hl'
                      have hWle := HKW.out.size
                      clear hue htu HU HKR HU6 HT6 HK6 hl'
                      go_wp2_with fail
                      go_loopw [14, 15] (fun v i wr => ∃ k : Nat, k ≤ subs.length ∧ i = .int .i64 k ∧ wr.ownsRow w7.heap.size 42 2 v k (((subs.take k).map (subT l.length)).map SubV.cells).flatten ∧ Kept [] w7 wr) (fun _ i _ => subs.length - (intOf i).toNat)
                      case atStart => exact ⟨0, Nat.zero_le _, rfl, World.ownsRow_nil _ _ _ _, Kept.refl _ _⟩
                      case round =>
                        obtain ⟨k, hk, rfl, ho, hkr⟩ := hrel
                        obtain ⟨A5, c5, rfl⟩ := own_shape ho
                        have HO := Lib.hid ho
                        have HKR := Lib.hid hkr
                        have hz := hkr.size
                        clear ho
                        obtain ⟨w8, rfl⟩ : ∃ w8 : World, w8 = wr := ⟨_, rfl⟩
                        by_cases hlt : k < subs.length
                        · clear hkr
                          obtain ⟨y, hy⟩ : ∃ y, subs[k]? = some y := ⟨_, List.getElem?_eq_getElem hlt⟩
                          obtain ⟨u0, u1⟩ := HM.out.unit y (List.mem_of_getElem? hy)
                          obtain ⟨m, hm⟩ := Int.eq_ofNat_of_zero_le u0
                          obtain ⟨bs, os, rfl, hr⟩ := (HE.out.kept HKW.out).ss.some_ hy
                          obtain ⟨y0, y1⟩ := sub_cells (hr k y hy)
                          rw [hm] at y0 u1
                          have hml : m < l.length := by omega
                          have ct : w7.cell? ⟨T, m, none⟩ = some (.int .i64 (oppI l.length (m : Int))) := HT.out.cell (toV_get hml hml)
                          have HSN : Hid ((((subs.take (k + 1)).map (subT l.length)).map SubV.cells).flatten = (((subs.take k).map (subT l.length)).map SubV.cells).flatten ++ [.int .i64 (oppI l.length (m : Int)), .slice y.ca y.calls.length y.cc]) := by
                            obtain ⟨hk', e⟩ := List.getElem?_eq_some_iff.1 hy
                            rw [Hid, List.take_succ_eq_append_getElem hk', e, List.map_append, List.map_append, List.flatten_append]
                            simp [subT, SubV.cells, hm]
                          have m1 : (0 : Int) ≤ (m : Int) := by omega
                          have m2 : (m : Int) < (l.length : Int) := by omega
                          have j1 : (0 : Int) ≤ (k : Int) := by omega
                          have j2 : (k : Int) < (subs.length : Int) := by omega
                          clear hr hy hm u0 u1
                          generalize oppI l.length (m : Int) = z at *
                          generalize (((subs.take k).map (subT l.length)).map SubV.cells).flatten = XS at *
                          have hA : k + 1 ≤ maxLen := by unfold maxLen; omega
                          have hB : (k + 1) * 32 ≤ 140737488355328 := by omega
                          have hC : w7.heap.size ≤ ((w8.alloc (.cells #[.int .i64 z, .slice y.ca y.calls.length y.cc] 42)).drew).heap.size := by simp; omega
                          have KP : Hid (∀ wx, Kept [] w7 wx → (fun wx => wx.cell? ⟨T, m, none⟩ = some (.int .i64 z) ∧ wx.cell? ⟨bs, os + k * 2, none⟩ = some (.int .i64 (m : Int)) ∧ wx.cell? ⟨bs, os + k * 2 + 1, none⟩ = some (.slice y.ca y.calls.length y.cc)) wx) := fun wx h => ⟨h.cell ct (by simp), h.cell y0 (by simp), h.cell y1 (by simp)⟩
                          replace ct := HKR.out.cell ct (by simp)
                          replace y0 := HKR.out.cell y0 (by simp)
                          replace y1 := HKR.out.cell y1 (by simp)
                          go_wp2_with fail
                          go_region_held3 (fun wx => wx.cell? ⟨T, m, none⟩ = some (.int .i64 z) ∧ wx.cell? ⟨bs, os + k * 2, none⟩ = some (.int .i64 (m : Int)) ∧ wx.cell? ⟨bs, os + k * 2 + 1, none⟩ = some (.slice y.ca y.calls.length y.cc))
                            (first | exact KP.out _ HKB.out | exact KP.out _ ((HKR.out.trans (Kept.alloc _ _ _)).trans (Kept.drew _ _)) | exact KP.out _ (HKR.out.trans (Kept.drew _ _)) | exact KP.out _ HKR.out)
                            ((refine step_append_lies _ (by rfl) _ _ _ (by rfl) w7.heap.size 42 is _ 2 32 Try.underlying23 hs hsz0 hsz1 hsz2 rfl (by omega) (.slice A5 k c5) k XS (by rfl) ((HO.out.alloc _).drew) ⟨w8.heap.size, 0, none⟩ 1 1 [.int .i64 z, .slice y.ca y.calls.length y.cc] (by rfl) (by rfl) (World.news_of_block (cs := #[.int .i64 z, .slice y.ca y.calls.length y.cc]) (t := 42) (fr := (0, 0)) (heap_alloc_new w8 _)) (by simp [Value.oneCell']) (by omega) hA hB hC (w8.heap.size + 1) (by simp) ?_; intro gg cap wb hob hgb hat hlt'; have HOB := Lib.hid hob; have HKB : Hid (Kept [] w7 wb) := (((HKR.out.trans (Kept.alloc _ _ _)).trans (Kept.drew _ _)).grown hgb (fun q hq => own_at HO.out q hq)); clear hob hgb hat hlt'))
                          go_wp2_with fail
                          go_roundw
                          case rel => exact ⟨k + 1, by omega, by go_num, by rw [HSN.out]; exact HOB.out, HKB.out⟩
                          case measure => simp [intOf]; omega
                        · obtain rfl : k = subs.length := by omega
                          obtain ⟨A, c, e, hse⟩ := subs_turned (HE.out.kept (HKW.out.trans HKR.out)) HM.out (by omega) (by have := HO.out; rw [List.take_length] at this; exact this) rfl
                          rw [List.length_map] at e
                          injection e with e1 _ e2
                          subst e1 e2
                          have HSE := Lib.hid hse
                          have HK8 := Lib.hid (HKW.out.trans hkr)
                          have HT8 := Lib.hid (HT.out.kept hkr (by simp))
                          have HUE8 := Lib.hid (HUE.out.kept hkr)
                          have HRT := Lib.hid (room_turned HS.out HTU.out)
                          clear hse HT HUE HKW HO HKR hkr hz
                          go_wp2_with fail
                          refine (order_any w8 ua uc l sa sc subs (HE.out.kept HK8.out) HS.out.room).mono ?_
                          rintro e w9 ⟨v16, xs, er, rfl, hres, hi16, hk9⟩
                          have HRA := Lib.hid hres
                          have HIA := Lib.hid hi16
                          have HK9 := Lib.hid (HK8.out.trans hk9)
                          have HT9 := Lib.hid (HT8.out.kept hk9 (by simp))
                          have HCB := Lib.hid (order_any w9 (some ⟨U, 0, none⟩) l'.length l' A5 c5 (subs.map (subT l.length)) ((HUE8.out.kept hk9).env (HSE.out.kept hk9)) HRT.out)
                          rw [HLL.out, List.length_map] at HCB
                          clear hres hi16 hk9 HK8 HT8 HUE8 HSE HRT
                          go_wp2_with fail
                          refine HCB.out.mono ?_
                          rintro e w10 ⟨v18, ys, fr, rfl, hres, hi18, hk10⟩
                          obtain ⟨rfl, rfl, hrg⟩ := moved_turn HTU.out HM.out HNT.out HRA.out hres
                          have HRG := Lib.hid hrg
                          have HIA10 := Lib.hid (HIA.out.kept hk10)
                          have HK10 := Lib.hid (HK9.out.trans hk10)
                          have HT10 := Lib.hid (HT9.out.kept hk10 (by simp))
                          obtain ⟨a16, c16, rfl, h16, h16', _⟩ := id HIA10.out
                          obtain ⟨a18, c18, rfl, h18, h18', _⟩ := id hi18
                          have HIB := Lib.hid hi18
                          rw [List.length_map] at h18
                          rw [List.length_map]
                          clear hrg hres hi18 hk10 HIA HK9 HT9 HCB HTU HLL
                          go_wp2_with fail
                          go_loopw [20] (fun i wr => ∃ k : Nat, k ≤ xs.length ∧ i = .int .i64 k ∧ Kept [] w10 wr) (fun i _ => xs.length - (intOf i).toNat)
                          case atStart => exact ⟨0, Nat.zero_le _, rfl, Kept.refl _ _⟩
                          case round =>
                            obtain ⟨k, hk, rfl, hkr⟩ := hrel
                            have HKR := Lib.hid hkr
                            clear hkr
                            obtain ⟨w11, rfl⟩ : ∃ w11 : World, w11 = wr := ⟨_, rfl⟩
                            by_cases hlt : k < xs.length
                            · obtain ⟨x, hx⟩ : ∃ x, xs[k]? = some x := ⟨_, List.getElem?_eq_getElem hlt⟩
                              obtain ⟨x0, x1⟩ := HRG.out x (List.mem_of_getElem? hx)
                              obtain ⟨m, rfl⟩ := Int.eq_ofNat_of_zero_le x0
                              have hml : m < l.length := by omega
                              have ct := HKR.out.cell (HT10.out.cell (toV_get hml hml)) (by simp)
                              rcases (IntsC.at_ HIA10.out).2.1 with h0 | ⟨ba, oa, rfl, hca⟩
                              · rw [h0] at hlt; simp at hlt
                              rcases (IntsC.at_ HIB.out).2.1 with h0 | ⟨bb, ob, rfl, hcb⟩
                              · have : xs.length = 0 := by have := congrArg List.length h0; simpa using this
                                omega
                              have ca := HKR.out.cell (hca k m hx) (by simp)
                              have cb := HKR.out.cell (hcb k (oppI l.length (m : Int)) (by rw [List.getElem?_map, hx]; rfl)) (by simp)
                              have d1 : decide ((m : Int) < 0) = false := by simp
                              have d2 : decide ((l.length : Int) ≤ (m : Int)) = false := by simp; omega
                              clear hca hcb hx
                              generalize oppI l.length (m : Int) = z at *
                              go_upto_region 34 with (fail)
                              go_quiet (fail)
                              go_wp2_with fail
                              go_roundw
                              case rel => exact ⟨k + 1, by omega, by go_num, HKR.out.trans (Kept.drewN _ _ _)⟩
                              case measure => simp [intOf]; omega
                            · obtain rfl : k = xs.length := by omega
                              have HIA11 := Lib.hid (HIA10.out.kept HKR.out)
                              have HK11 := Lib.hid (HK10.out.trans HKR.out)
                              clear HIA10 HIB HKR HK10 HT10 HRG
                              have HSRC : Hid (SrcAt (w11.alloc (.cells #[] 44)) 4 ua l.length ((l.map UnitV.cells).flatten)) := (HE.out.kept (HK11.out.trans (Kept.alloc _ _ _))).us.src UnitV.cells_len (by decide)
                              have hA : 0 + l.length ≤ maxLen := by unfold maxLen; omega
                              have hB : (0 + l.length) * 72 ≤ 140737488355328 := by omega
                              have hC : w11.heap.size ≤ (w11.alloc (.cells #[] 44)).heap.size := by simp
                              have hA2 : l.length + 1 ≤ maxLen := by unfold maxLen; omega
                              have hB2 : (l.length + 1) * 72 ≤ 140737488355328 := by omega
                              go_upto_region 36 with (fail)
                              go_wp2_with (first
                                | (at_builtin; refine wpList_append_src _ rfl (.tmp 212) (.tmp 213) 22 rfl w11.heap.size 44 iu _ 4 72 Try.underlying22 hu hu0 hu1 hu2 rfl (by decide) (.slice (some ⟨w11.heap.size, 0, none⟩) 0 0) 0 [] rfl (own_empty _) _ l.length _ ((l.map UnitV.cells).flatten) rfl HSRC.out (units_one _) hA hB hC ?_; intro va wa hoa hga _; simp only [Nat.zero_add, List.nil_append] at hoa; have HOA := Lib.hid hoa; have HKA := Lib.hid ((Kept.alloc [] w11 (.cells #[] 44)).grown hga (fun q hq => own_at (own_empty w11) q hq)); have hza := HKA.out.size; clear hoa hga)
                                | (at_builtin; refine wpList_append_own _ rfl _ _ 22 rfl w11.heap.size 44 iu _ 4 72 Try.underlying22 hu hu0 hu1 hu2 rfl (by decide) va l.length ((l.map UnitV.cells).flatten) rfl (HOA.out.alloc _) ⟨wa.heap.size, 0, none⟩ 1 1 [.string s, .bool false, .slice none 0 0, .slice none 0 0] rfl rfl (World.news_of_block (cs := #[.string s, .bool false, .slice none 0 0, .slice none 0 0]) (t := 44) (fr := (0, 0)) (heap_alloc_new wa _)) (by simp [Value.oneCell']) hA2 hB2 (by simp; omega) ?_; intro vb wb hob hgb _; have HOB := Lib.hid hob; have HKB := Lib.hid ((HKA.out.trans (Kept.alloc _ _ _)).grown hgb (fun q hq => own_at HOA.out q hq)); clear hob hgb))
                              have hob2 : wb.ownsRow w11.heap.size 44 4 vb (l.length + 1) ((l ++ [unitN s]).map UnitV.cells).flatten := by
                                have := HOB.out
                                rw [List.map_append, List.flatten_append]
                                exact this
                              have HK12 := Lib.hid (HK11.out.trans HKB.out)
                              have HE12 := Lib.hid (HE.out.kept HK12.out)
                              obtain ⟨A2, c2, rfl, hue⟩ := units_more HE12.out h100 hob2
                              have HCC := Lib.hid (order_any wb A2 c2 (l ++ [unitN s]) sa sc subs (hue.env ⟨HE12.out.ss, HE12.out.sk, HE12.out.sok, b3, b4, HE12.out.s0⟩) (room_more HS.out h39))
                              have HMM : Hid (∀ zs g, OrderRes (l ++ [unitN s]) subs zs g → g = fr ∧ xs = restI l.length zs ∧ (fr = 0 → zs.length = l.length + 1) ∧ zs.length ≤ 256) := fun zs g h => moved_more HM.out (by omega) HRA.out h
                              generalize (l ++ [unitN s]) = LL at *
                              have HIA12 := Lib.hid (HIA11.out.kept HKB.out)
                              clear hob2 hue HIA11 HSRC HOA HOB HKA HKB hA hB hC hA2 hB2 hza HRA HE12
                              go_wp2_with fail
                              refine HCC.out.mono ?_
                              rintro e w12 ⟨v21, zs, g, rfl, hres, hi21, hk12⟩
                              obtain ⟨rfl, hrest, hlen, hlz⟩ := HMM.out zs g hres
                              have HLZ := Lib.hid hlz
                              have HREST := Lib.hid hrest
                              have HLEN := Lib.hid hlen
                              have HIC := Lib.hid hi21
                              have HIA13 := Lib.hid (HIA12.out.kept hk12)
                              have HK13 := Lib.hid (HK12.out.trans hk12)
                              obtain ⟨a21, c21, rfl, h21, h21', _⟩ := id hi21
                              clear hres hrest hlen hlz hi21 hk12 HMM HCC HIA12 HK12
                              go_wp2_with fail
                              go_loopw [23, 24] (fun v i wr => ∃ k : Nat, k ≤ zs.length ∧ i = .int .i64 k ∧ wr.ownsRow w12.heap.size 3 1 v (restI l.length (zs.take k)).length ((restI l.length (zs.take k)).map (Value.int .i64)) ∧ Kept [] w12 wr) (fun _ i _ => zs.length - (intOf i).toNat)
                              case atStart => exact ⟨0, Nat.zero_le _, rfl, World.ownsRow_nil _ _ _ _, Kept.refl _ _⟩
                              case round =>
                                obtain ⟨k, hk, rfl, ho, hkr⟩ := hrel
                                obtain ⟨A23, c23, rfl⟩ := own_shape ho
                                have HO := Lib.hid ho
                                have HKR := Lib.hid hkr
                                have hz := hkr.size
                                clear ho hkr
                                obtain ⟨w14, rfl⟩ : ∃ w14 : World, w14 = wr := ⟨_, rfl⟩
                                by_cases hlt : k < zs.length
                                · obtain ⟨z, hzk⟩ : ∃ z, zs[k]? = some z := ⟨_, List.getElem?_eq_getElem hlt⟩
                                  have HSN := Lib.hid (restI_succ (n := l.length) hzk)
                                  rcases (IntsC.at_ HIC.out).2.1 with h0 | ⟨bc, oc, rfl, hcc⟩
                                  · rw [h0] at hlt; simp at hlt
                                  have cz := HKR.out.cell (hcc k z hzk) (by simp)
                                  have hrl : (restI l.length (zs.take k)).length ≤ 300 := Nat.le_trans (List.length_filter_le _ _) (by have := HLZ.out; simp; omega)
                                  clear hcc hzk
                                  by_cases hzn : z = (l.length : Int)
                                  · have HS2 : Hid (restI l.length (zs.take (k + 1)) = restI l.length (zs.take k)) := by rw [Hid, HSN.out, if_pos hzn, List.append_nil]
                                    clear HSN
                                    go_wp2_with fail
                                    go_roundw
                                    case rel => exact ⟨k + 1, by omega, by go_num, by rw [HS2.out]; exact HO.out, HKR.out⟩
                                    case measure => simp [intOf]; omega
                                  · have HS2 : Hid (restI l.length (zs.take (k + 1)) = restI l.length (zs.take k) ++ [z]) := by rw [Hid, HSN.out, if_neg hzn]
                                    clear HSN
                                    generalize restI l.length (zs.take k) = rs at *
                                    have hA : rs.length + 1 ≤ maxLen := by unfold maxLen; omega
                                    have hB : (rs.length + 1) * 8 ≤ 140737488355328 := by omega
                                    have hC : w12.heap.size ≤ (w14.alloc (.cells #[.int .i64 z] 3)).heap.size := by simp; omega
                                    go_wp2_with (at_builtin; refine wpList_append_own _ rfl _ _ 26 rfl w12.heap.size 3 i0 (.int .i64 0) 1 8 Try.underlying26 hi hz0 hz1 hz2 rfl (by decide) (.slice A23 rs.length c23) rs.length (rs.map (Value.int .i64)) rfl (HO.out.alloc _) ⟨w14.heap.size, 0, none⟩ 1 1 [.int .i64 z] rfl rfl (cell_one_new _ _ _) (one_int _ _) hA hB hC ?_; intro vb wc hob hgb _; have HOB := Lib.hid hob; have HKB := Lib.hid ((HKR.out.trans (Kept.alloc _ _ _)).grown hgb (fun q hq => own_at HO.out q hq)); clear hob hgb)
                                    go_roundw
                                    case rel => exact ⟨k + 1, by omega, by go_num, by rw [HS2.out]; simpa using HOB.out, HKB.out⟩
                                    case measure => simp [intOf]; omega
                                · obtain rfl : k = zs.length := by omega
                                  have HIR : Hid (IntsC w14 (.slice A23 (restI l.length zs).length c23) (restI l.length zs)) := by
                                    have := IntsC.of_owns HO.out
                                    rw [List.take_length] at this
                                    exact this
                                  rw [List.take_length]
                                  rw [← HREST.out] at HIR
                                  rw [← HREST.out]
                                  have HIA14 := Lib.hid (HIA13.out.kept HKR.out)
                                  have HK14 := Lib.hid (HK13.out.trans HKR.out)
                                  have hss : sameI xs xs = true := by simp [sameI]
                                  have HSM := Lib.hid hss
                                  clear hss HO HKR HIC HIA13 HK13
                                  go_wp2_with fail
                                  refine (sameInts_any w14 _ _ xs xs HIA14.out.ints HIR.out.ints).mono ?_
                                  rintro e w15 ⟨rfl, hk15⟩
                                  rw [HSM.out]
                                  have HK15 := Lib.hid (HK14.out.trans hk15)
                                  clear hk15 HK14
                                  by_cases hfr : g = 0
                                  · have hl1 := HLEN.out hfr
                                    go_wp2_with fail
                                    refine (head_any _).mono ?_
                                    rintro e w16 ⟨rfl, hk16⟩
                                    have HK16 := Lib.hid hk16
                                    clear hk16
                                    go_wp2_with fail
                                    go_ret
                                    exact ⟨rfl, HK15.out.trans HK16.out⟩
                                  · go_wp2_with fail
                                    refine (head_any _).mono ?_
                                    rintro e w16 ⟨rfl, hk16⟩
                                    have HK16 := Lib.hid hk16
                                    clear hk16
                                    go_wp2_with fail
                                    go_ret
                                    exact ⟨rfl, HK15.out.trans HK16.out⟩
      · go_wp2_with fail
        refine (head_any _).mono ?_
        rintro e w8 ⟨rfl, hk8⟩
        have HK8 := Lib.hid hk8
        clear hk8
        go_wp2_with fail
        go_ret
        exact ⟨rfl, HK1.out.trans HK8.out⟩
    · go_wp2_with fail
      refine (head_any _).mono ?_
      rintro e w8 ⟨rfl, hk8⟩
      have HK8 := Lib.hid hk8
      clear hk8
      go_wp2_with fail
      go_ret
      exact ⟨rfl, HK1.out.trans HK8.out⟩
  · go_wp2_with fail
    refine (head_any w1).mono ?_
    rintro e w8 ⟨rfl, hk8⟩
    have HK8 := Lib.hid hk8
    clear hk8
    go_wp2_with fail
    go_ret
    exact ⟨rfl, HK1.out.trans HK8.out⟩
end Go.Proofs.Ytoaklikkepkhfaa
