/- needs of the reference. -/
import Derived.Test.YtoaklikkepkhfaaS3
namespace Go.Proofs.Ytoaklikkepkhfaa
open Go.RowKit

def Bits1 (n : Nat) (needs : List Int) (k : Nat) (bs : List Bool) : Prop := bs.length = n ∧ ∀ i : Nat, bs[i]? = some true ↔ (i : Int) ∈ needs.take k
def Bits2 (n : Nat) (subs : List SubV) (sb : List Bool) (needs : List Int) (k : Nat) (bs : List Bool) : Prop := bs.length = n ∧ ∀ i : Nat, bs[i]? = some true ↔ (i : Int) ∈ needs ∨ ∃ s : Nat, s < k ∧ sb[s]? = some true ∧ unitOf subs s = i
theorem Bits1.zero (n : Nat) (needs : List Int) : Bits1 n needs 0 (List.replicate n false) :=
  ⟨by simp, fun i => by rw [List.getElem?_replicate]; split <;> simp⟩
theorem Bits1.succ {n : Nat} {needs : List Int} {k x : Nat} {bs : List Bool} (h : Bits1 n needs k bs) (hx : needs[k]? = some (x : Int)) (hn : x < n) : Bits1 n needs (k + 1) (bs.set x true) := by
  obtain ⟨hk, e⟩ := List.getElem?_eq_some_iff.1 hx
  refine ⟨by rw [List.length_set]; exact h.1, fun i => ?_⟩
  rw [set_true_iff (by rw [h.1]; exact hn), h.2, List.take_succ_eq_append_getElem hk, List.mem_append, List.mem_singleton, e]
  constructor
  · rintro (h | h)
    · right; rw [h]
    · exact .inl h
  · rintro (h | h)
    · exact .inr h
    · left; omega
theorem Bits2.zero {n : Nat} {subs : List SubV} {sb : List Bool} {needs : List Int} {bs : List Bool} (h : Bits1 n needs needs.length bs) : Bits2 n subs sb needs 0 bs :=
  ⟨h.1, fun i => by
    rw [h.2, List.take_length]
    constructor
    · exact .inl
    · rintro (h | ⟨s, hs, _⟩)
      · exact h
      · omega⟩
theorem Bits2.no {n : Nat} {subs : List SubV} {sb : List Bool} {needs : List Int} {k : Nat} {bs : List Bool} (h : Bits2 n subs sb needs k bs) (hk : sb[k]? = some false) : Bits2 n subs sb needs (k + 1) bs :=
  ⟨h.1, fun i => by
    rw [h.2]
    constructor
    · rintro (h | ⟨s, hs, h1, h2⟩)
      · exact .inl h
      · exact .inr ⟨s, by omega, h1, h2⟩
    · rintro (h | ⟨s, hs, h1, h2⟩)
      · exact .inl h
      · by_cases e : s = k
        · subst e; rw [hk] at h1; cases h1
        · exact .inr ⟨s, by omega, h1, h2⟩⟩
theorem Bits2.yes {n : Nat} {subs : List SubV} {sb : List Bool} {needs : List Int} {k x : Nat} {bs : List Bool} (h : Bits2 n subs sb needs k bs) (hk : sb[k]? = some true) (hx : unitOf subs k = (x : Int)) (hn : x < n) : Bits2 n subs sb needs (k + 1) (bs.set x true) :=
  ⟨by rw [List.length_set]; exact h.1, fun i => by
    rw [set_true_iff (by rw [h.1]; exact hn), h.2]
    constructor
    · rintro (rfl | h | ⟨s, hs, h1, h2⟩)
      · exact .inr ⟨k, by omega, hk, hx⟩
      · exact .inl h
      · exact .inr ⟨s, by omega, h1, h2⟩
    · rintro (h | ⟨s, hs, h1, h2⟩)
      · exact .inr (.inl h)
      · by_cases e : s = k
        · subst e; left; rw [hx] at h2; omega
        · exact .inr (.inr ⟨s, by omega, h1, h2⟩)⟩
theorem set_false_iff {bs : List Bool} {u i : Nat} : (bs.set u false)[i]? = some true ↔ i ≠ u ∧ bs[i]? = some true := by
  rw [List.getElem?_set]
  by_cases e : u = i
  · subst e
    rw [if_pos rfl]
    constructor
    · split <;> intro h <;> cases h
    · intro h; exact absurd rfl h.1
  · rw [if_neg e]
    exact ⟨fun h => ⟨fun e' => e e'.symm, h⟩, fun h => h.2⟩
theorem bits_done {l : List UnitV} {subs : List SubV} {u : Nat} {x : UnitV} {sb bs : List Bool} (hm : May l subs) (hx : l[u]? = some x) (hs : RInv subs x.calls sb []) (h : Bits2 l.length subs sb x.needs subs.length bs) : NeedBits l subs u (bs.set u false) := by
  refine ⟨by rw [List.length_set]; exact h.1, fun n => ?_⟩
  rw [set_false_iff, h.2]
  have hr := reach_seen hs (hm.calls x (List.mem_of_getElem? hx)) hm.subc (n : Int)
  unfold NeedP
  constructor
  · rintro ⟨hne, h'⟩
    refine ⟨by omega, x, hx, ?_⟩
    rcases h' with h' | ⟨s, _, h1, h2⟩
    · exact .inl h'
    · exact .inr (hr.1 ⟨s, h1, h2⟩)
  · rintro ⟨hne, y, hy, h'⟩
    rw [hx] at hy
    injection hy with hy
    subst hy
    refine ⟨by omega, ?_⟩
    rcases h' with h' | h'
    · exact .inl h'
    · obtain ⟨s, h1, h2⟩ := hr.2 h'
      exact .inr ⟨s, by have := (List.getElem?_eq_some_iff.1 h1).1; have := hs.len; omega, h1, h2⟩

/-- Bools that say what a unit needs. -/
def RetBits (l : List UnitV) (subs : List SubV) (u : Nat) (w : World) (e : Ending) (w' : World) : Prop :=
  ∃ g bs, e = .returned (.slice (some ⟨g, 0, none⟩) l.length l.length) ∧ BRow w' g bs ∧ w.heap.size ≤ g ∧ NeedBits l subs u bs ∧ Kept [] w w'

/-- Enough room. -/
structure Room (l : List UnitV) (subs : List SubV) : Prop where
  n : ∀ x, x ∈ l → x.needs.length ≤ 100000
  c : ∀ x, x ∈ l → x.calls.length + allCalls subs ≤ 100000
  l300 : l.length ≤ 300

set_option maxRecDepth 100000 in
set_option maxHeartbeats 4000000 in
theorem refNeeds_any (w : World) (ua : Option Addr) (uc : Nat) (l : List UnitV) (sa : Option Addr) (sc : Nat) (subs : List SubV) (u : Nat) (x : UnitV) (hE : Env w ua uc l sa sc subs) (hx : l[u]? = some x) (hm : May l subs) (hb : Room l subs) :
    Calls Try.prog 21 #[.slice ua l.length uc, .slice sa subs.length sc, .int .i64 u] w (RetBits l subs u w) := by
  have HE := Lib.hid hE
  have HM := Lib.hid hm
  have HX := Lib.hid hx
  have b1 := hE.ul
  have b2 := hE.um
  have b3 := hm.s4096
  have b4 := hm.l256
  have b5 := hE.sl
  have b6 := hE.sm
  have hul : u < l.length := (List.getElem?_eq_some_iff.1 hx).1
  have hxm := List.mem_of_getElem? hx
  have hn5 := hb.n x hxm
  have HBD := Lib.hid (hb.c x hxm)
  have ok1 := (hE.uok x hxm).n1
  have ok2 := (hE.uok x hxm).n2
  obtain ⟨bu, ou, rfl, hr⟩ := hE.us.some_ hx
  obtain ⟨_, _, x2, x3⟩ := unit_cells (hr u x hx)
  have X2 := Lib.hid x2
  clear hE hm hx hr x3 hb
  obtain ⟨i0, hi, hz0, hz1, hz2⟩ := info_parts bool_info
  go_enter Try.func21, Try.ntmps21
  have hmb : i0.bytes * l.length ≤ 281474976710656 := by rw [hz2]; omega
  go_upto_region 2 with (at_make; refine wpList_make_row _ rfl _ _ 39 rfl 4 i0 (.bool false) Try.underlying39 hi hz0 hz1 rfl .i64 .i64 l.length rfl rfl hmb (by omega) ?_)
  refine wp_gen ?_
  intro w1 hw1
  have hk1 : Kept [] w w1 := by rw [hw1]; exact Kept.alloc _ _ _
  have HB1 : Hid (BRow w1 w.heap.size (List.replicate l.length false)) := by rw [hw1]; exact BRow.made w _
  have HK1 := Lib.hid hk1
  have hG : w.heap.size < w1.heap.size := HB1.out.lt
  have hbuG : bu ≠ w.heap.size := by
    have := World.block_lt_of_cell? w _ x2
    have : bu < w.heap.size := this
    omega
  clear hk1 hw1 x2
  generalize hGG : w.heap.size = G at *
  go_upto_block 0 with (fail)
  go_cut [] (fun wc => ∃ bs, BRow wc G bs ∧ Bits1 l.length x.needs x.needs.length bs ∧ Kept [G] w1 wc)
  case first =>
    rcases HE.out.un x hxm with h0 | ⟨bt, ot, hna, hct⟩
    · have h0' : x.needs.length ≤ 0 := by rw [h0]; exact Nat.le_refl _
      have HZ : Hid (Bits1 l.length x.needs x.needs.length (List.replicate l.length false)) := by
        have := Bits1.zero l.length x.needs
        rw [Hid, Nat.le_zero.1 h0']; exact this
      have x2 := HK1.out.cell X2.out (by simp)
      clear h0
      go_wp2_with fail
      go_loopw [8] (fun i wr => i = .int .i64 0 ∧ wr = w1) (fun _ _ => 0)
      case atStart => exact ⟨rfl, rfl⟩
      case round =>
        obtain ⟨rfl, rfl⟩ := hrel
        go_wp2_with fail
        go_meet
        exact ⟨_, HB1.out, HZ.out, Kept.refl _ _⟩
    · have HCT := Lib.hid hct
      have HNA := Lib.hid hna
      clear hct hna
      go_wp2_with fail
      go_loopw [8] (fun i wr => ∃ (k : Nat) (bs : List Bool), k ≤ x.needs.length ∧ i = .int .i64 k ∧ BRow wr G bs ∧ Bits1 l.length x.needs k bs ∧ Kept [G] w1 wr) (fun i _ => x.needs.length - (intOf i).toNat)
      case atStart => exact ⟨0, _, Nat.zero_le _, rfl, HB1.out, Bits1.zero _ _, Kept.refl _ _⟩
      case round =>
        obtain ⟨k, bs, hk, rfl, hbr, hbi, hkr⟩ := hrel
        have HBR := Lib.hid hbr
        have HBI := Lib.hid hbi
        have HKR := Lib.hid hkr
        have HKW : Hid (Kept [] w wr) := HK1.out.trans0 hkr (by omega)
        have x2 := HKW.out.cell X2.out (by simp)
        rw [HNA.out] at x2
        clear hbr hbi hkr
        by_cases hlt : k < x.needs.length
        · obtain ⟨s, hs⟩ : ∃ s, x.needs[k]? = some s := ⟨_, List.getElem?_eq_getElem hlt⟩
          have HS := Lib.hid hs
          have q1 := HKW.out.cell (HCT.out k s hs) (by simp)
          have hin := HM.out.needs x hxm s (List.mem_of_getElem? hs)
          clear hs
          obtain ⟨h00, h01⟩ := hin
          obtain ⟨sn, rfl⟩ := Int.eq_ofNat_of_zero_le h00
          have hsn : sn < l.length := by omega
          have qf := HBR.out.frozen sn
          have hbl : bs.length = l.length := HBI.out.1
          have qb : ∃ b, bs[sn]? = some b := ⟨_, List.getElem?_eq_getElem (by omega)⟩
          obtain ⟨b, hb⟩ := qb
          have qc := HBR.out.cell hb
          clear hb hbl h00 h01
          go_upto_region 4 with (fail)
          refine wp_gen ?_
          intro w5 hw5
          have HB5 : Hid (BRow w5 G (bs.set sn true)) := by rw [hw5]; exact HBR.out.set sn true
          have HK5 : Hid (Kept [G] w1 w5) := by rw [hw5]; exact HKR.out.trans (Kept.setCell _ _ _ (by simp))
          have HBI5 := Lib.hid (HBI.out.succ HS.out hsn)
          clear hw5 qf qc q1 x2
          go_wp2_with fail
          go_roundw
          case rel => exact ⟨k + 1, _, by omega, by go_num, HB5.out, HBI5.out, HK5.out⟩
          case measure => simp [intOf]; omega
        · obtain rfl : k = x.needs.length := by omega
          go_wp2_with fail
          go_meet
          exact ⟨bs, HBR.out, HBI.out, HKR.out⟩
  case rest =>
    obtain ⟨bs1, hb1, hbi1, hkc⟩ := hcut
    obtain ⟨w2, rfl⟩ : ∃ w2 : World, w2 = wc := ⟨_, rfl⟩
    have HB2 := Lib.hid hb1
    have HBI1 := Lib.hid hbi1
    have HK2 : Hid (Kept [] w w2) := HK1.out.trans0 hkc (by omega)
    have HKG2 := Lib.hid hkc
    have hG2 : G < w2.heap.size := hb1.lt
    clear hb1 hbi1 hkc HB1 X2
    go_wp2_with fail
    refine (reaches_any w2 _ uc l sa sc subs u x (HE.out.kept HK2.out) HX.out HM.out HBD.out).mono ?_
    rintro e w3 ⟨g2, sb, rfl, hsb, hg2, hri, hk3⟩
    have HSB := Lib.hid hsb
    have HRI := Lib.hid hri
    have HK3 : Hid (Kept [] w w3) := HK2.out.trans hk3
    have HB3 : Hid (BRow w3 G bs1) := HB2.out.kept hk3 (by simp)
    have hgne : g2 ≠ G := by omega
    have HK23 := Lib.hid hk3
    clear hsb hri hk3 HB2
    go_upto_block 2 with (fail)
    go_cut [] (fun wc => ∃ bs, BRow wc G bs ∧ Bits2 l.length subs sb x.needs subs.length bs ∧ Kept [G] w3 wc)
    case first =>
      rcases HE.out.ss.split with h0 | ⟨bq, oq, rfl, hr⟩
      · have HZ : Hid (Bits2 l.length subs sb x.needs subs.length bs1) := by
          have := Bits2.zero (subs := subs) (sb := sb) HBI1.out
          rw [Hid, Nat.le_zero.1 h0]; exact this
        go_wp2_with fail
        go_loopw [10] (fun i wr => i = .int .i64 0 ∧ wr = w3) (fun _ _ => 0)
        case atStart => exact ⟨rfl, rfl⟩
        case round =>
          obtain ⟨rfl, rfl⟩ := hrel
          go_wp2_with fail
          go_meet
          exact ⟨_, HB3.out, HZ.out, Kept.refl _ _⟩
      · have HR := Lib.hid hr
        clear hr
        go_wp2_with fail
        go_loopw [10] (fun i wr => ∃ (k : Nat) (bs : List Bool), k ≤ subs.length ∧ i = .int .i64 k ∧ BRow wr G bs ∧ Bits2 l.length subs sb x.needs k bs ∧ Kept [G] w3 wr) (fun i _ => subs.length - (intOf i).toNat)
        case atStart => exact ⟨0, _, Nat.zero_le _, rfl, HB3.out, Bits2.zero HBI1.out, Kept.refl _ _⟩
        case round =>
          obtain ⟨k, bs, hk, rfl, hbr, hbi, hkr⟩ := hrel
          have HBR := Lib.hid hbr
          have HBI := Lib.hid hbi
          have HKR := Lib.hid hkr
          have HSR : Hid (BRow wr g2 sb) := HSB.out.kept hkr (by simpa using hgne)
          have HKW : Hid (Kept [] w wr) := HK3.out.trans0 hkr (by omega)
          clear hbr hbi hkr
          by_cases hlt : k < subs.length
          · obtain ⟨y, hy⟩ : ∃ y, subs[k]? = some y := ⟨_, List.getElem?_eq_getElem hlt⟩
            obtain ⟨y0, _⟩ := sub_cells (HR.out k y hy)
            replace y0 := HKW.out.cell y0 (by simp)
            have HY := Lib.hid hy
            obtain ⟨b, hb⟩ := seen_at HRI.out.len hlt
            have HBB := Lib.hid hb
            have qb := HSR.out.cell hb
            have hin := HM.out.unit y (List.mem_of_getElem? hy)
            have hun : unitOf subs (k : Int) = y.unit := unitOf_eq (by simpa using hy)
            have HUN := Lib.hid hun
            clear hy hb hun
            cases b
            · have HNO := Lib.hid (HBI.out.no HBB.out)
              go_wp2_with fail
              go_roundw
              case rel => exact ⟨k + 1, bs, by omega, by go_num, HBR.out, HNO.out, HKR.out⟩
              case measure => simp [intOf]; omega
            · obtain ⟨h00, h01⟩ := hin
              generalize y.unit = yu at *
              obtain ⟨sn, rfl⟩ := Int.eq_ofNat_of_zero_le h00
              have hsn : sn < l.length := by omega
              have qf := HBR.out.frozen sn
              have hbl : bs.length = l.length := HBI.out.1
              obtain ⟨b', hb'⟩ : ∃ b, bs[sn]? = some b := ⟨_, List.getElem?_eq_getElem (by omega)⟩
              have qc := HBR.out.cell hb'
              clear hb' hbl h00 h01
              go_upto_region 9 with (fail)
              refine wp_gen ?_
              intro w5 hw5
              have HB5 : Hid (BRow w5 G (bs.set sn true)) := by rw [hw5]; exact HBR.out.set sn true
              have HK5 : Hid (Kept [G] w3 w5) := by rw [hw5]; exact HKR.out.trans (Kept.setCell _ _ _ (by simp))
              have HBI5 := Lib.hid (HBI.out.yes HBB.out HUN.out hsn)
              clear hw5 qf qc qb y0
              go_wp2_with fail
              go_roundw
              case rel => exact ⟨k + 1, _, by omega, by go_num, HB5.out, HBI5.out, HK5.out⟩
              case measure => simp [intOf]; omega
          · obtain rfl : k = subs.length := by omega
            go_wp2_with fail
            go_meet
            exact ⟨bs, HBR.out, HBI.out, HKR.out⟩
    case rest =>
      obtain ⟨bs2, hb2, hbi2, hkc⟩ := hcut
      obtain ⟨w4, rfl⟩ : ∃ w4 : World, w4 = wc := ⟨_, rfl⟩
      have HB4 := Lib.hid hb2
      have HKC := Lib.hid hkc
      have HK4 : Hid (Kept [] w w4) := HK3.out.trans0 hkc (by omega)
      have HBI4 := Lib.hid (bits_done HM.out HX.out HRI.out hbi2)
      have hbl : bs2.length = l.length := hbi2.1
      have qf := hb2.frozen u
      obtain ⟨b', hb'⟩ : ∃ b, bs2[u]? = some b := ⟨_, List.getElem?_eq_getElem (by omega)⟩
      have qc := hb2.cell hb'
      clear hb2 hbi2 hkc hb' hbl
      go_wp2_with fail
      go_ret
      exact ⟨G, _, rfl, HB4.out.set u false, by omega, HBI4.out, HK1.out.trans0 (((HKG2.out.trans (HK23.out.mono (by simp))).trans HKC.out).trans (Kept.setCell _ _ _ (by simp))) (by omega)⟩
end Go.Proofs.Ytoaklikkepkhfaa
