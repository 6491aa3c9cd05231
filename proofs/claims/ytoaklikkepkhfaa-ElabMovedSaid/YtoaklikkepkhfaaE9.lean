/- Order. -/
import Derived.Test.YtoaklikkepkhfaaE8
namespace Go.Proofs.Ytoaklikkepkhfaa
open Go.RowKit

theorem ints_info : (Try.prog.info? 26).map (fun i => (i.zero, i.size, i.bytes)) = some (some (.slice none 0 0), 1, 24) := by kernel_rfl

/-- The loop over the units. -/
def NamesL (l : List UnitV) (subs : List SubV) (w w4 : World) (G6 G7 : Nat) (i : Value) (wr : World) : Prop :=
  ∃ (k : Nat) (vs : List Value) (nl : List (List Int)), k ≤ l.length ∧ i = .int .i64 k ∧ nl.length = k ∧ VRow wr G6 3 (laidN l.length k) ∧ VRow wr G7 26 vs ∧ NeedRow l subs w4.heap.size vs nl wr ∧ Kept [G6, G7] w4 wr ∧ Kept [] w wr

theorem find_at {p : Nat → Bool} : ∀ (ns : List Nat) (k i : Nat), ns[k]? = some i → p i = true → (∀ (j a : Nat), j < k → ns[j]? = some a → p a = false) → ns.find? p = some i := by
  intro ns
  induction ns with
  | nil => intro k i h; simp at h
  | cons a ns ih =>
    intro k i hk hp h
    cases k with
    | zero => simp at hk; subst hk; rw [List.find?_cons, hp]
    | succ k =>
      rw [List.find?_cons, h 0 a (by omega) rfl]
      exact ih k i (by simpa using hk) hp (fun j b hj hb => h (j + 1) b (by omega) (by simpa using hb))
theorem Kept.above {X : List Nat} {a b c : World} (h : Kept [] a b) (k : Kept X b c) (hX : ∀ q, q ∈ X → a.heap.size ≤ q) : Kept [] a c :=
  ⟨k.os.trans h.os, k.tape.trans h.tape, k.output.trans h.output, Nat.le_trans h.size k.size, fun i hi _ => (k.block i (Nat.lt_of_lt_of_le hi h.size) (fun hm => by have := hX i hm; omega)).trans (h.block i hi (by simp))⟩

set_option maxRecDepth 100000 in
set_option maxHeartbeats 2000000 in
theorem order_any (w : World) (ua : Option Addr) (uc : Nat) (l : List UnitV) (sa : Option Addr) (sc : Nat) (subs : List SubV) (hE : Env w ua uc l sa sc subs) (hb : Room l subs) :
    Calls Try.prog 11 #[.slice ua l.length uc, .slice sa subs.length sc] w (RetTwo (OrderRes l subs) w) := by
  have HE := Lib.hid hE
  have HBD := Lib.hid hb
  have b1 := hE.ul
  have b2 := hE.um
  have b3 := hb.l300
  clear hE hb
  obtain ⟨i0, hi, hz0, hz1, hz2⟩ := info_parts int_info
  obtain ⟨i1, hi1, hz10, hz11, hz12⟩ := info_parts bool_info
  obtain ⟨i2, hi2, hz20, hz21, hz22⟩ := info_parts ints_info
  go_enter Try.func11, Try.ntmps11
  go_upto_region 1 with (fail)
  refine wp_gen' ?_
  intro w1 hw1
  have hk1 : Kept [] w w1 := by rw [hw1]; exact Kept.alloc _ _ _
  have hcB : w1.cell? ⟨w.heap.size, 0, none⟩ = some (.slice ua l.length uc) := by rw [hw1, cell_of_row _ _ _ _ _ _ (heap_alloc_new _ _)]; rfl
  have HK1 := Lib.hid hk1
  have hB1 : w.heap.size < w1.heap.size := World.block_lt_of_cell? w1 _ hcB
  clear hk1 hw1
  generalize hBB : w.heap.size = B at *
  go_wp2_with fail
  go_step3
  go_wp2_with fail
  refine (valid_any w1 ua uc l sa sc subs (HE.out.kept HK1.out)).mono ?_
  rintro e w2 ⟨rfl, hk2⟩
  have HK2 := Lib.hid (HK1.out.trans hk2)
  have hcB2 := hk2.cell hcB (by simp)
  have h12 := hk2.size
  clear hk2 hcB
  cases hm : mayR l subs
  · have HR : Hid (OrderRes l subs [] 2) := .inl ⟨hm, rfl, rfl⟩
    clear hm
    go_wp2_with fail
    go_ret2
    exact ⟨_, _, _, rfl, HR.out, IntsC.nil _, HK2.out⟩
  · have HM := Lib.hid (may_of hm)
    have HMB := Lib.hid hm
    clear hm
    have hmb0 : i0.bytes * l.length ≤ 281474976710656 := by rw [hz2]; omega
    have hmb1 : i1.bytes * l.length ≤ 281474976710656 := by rw [hz12]; omega
    have hmb2 : i2.bytes * l.length ≤ 281474976710656 := by rw [hz22]; omega
    go_upto_region 4 with (at_make; refine wpList_make_row _ rfl _ _ 26 rfl 3 i0 (.int .i64 0) Try.underlying26 hi hz0 hz1 rfl .i64 .i64 l.length rfl rfl hmb0 (by omega) ?_)
    refine wp_gen' ?_
    intro w3 hw3
    have hk3 : Kept [] w2 w3 := by rw [hw3]; exact Kept.alloc _ _ _
    have HV3 : Hid (VRow w3 w2.heap.size 3 (laidN l.length 0)) := by rw [Hid, laidN_zero, hw3]; exact VRow.made _ _ _ _
    have HK3 := Lib.hid (HK2.out.trans hk3)
    have hcB3 := hk3.cell hcB2 (by simp)
    have hG6 : w2.heap.size < w3.heap.size := HV3.out.lt
    clear hw3 hk3 hcB2
    generalize hGG : w2.heap.size = G6 at *
    go_upto_region 5 with (at_make; refine wpList_make_row _ rfl _ _ 37 rfl 26 i2 (.slice none 0 0) Try.underlying37 hi2 hz20 hz21 rfl .i64 .i64 l.length rfl rfl hmb2 (by omega) ?_)
    refine wp_gen' ?_
    intro w4 hw4
    have hk4 : Kept [] w3 w4 := by rw [hw4]; exact Kept.alloc _ _ _
    have HN4 : Hid (VRow w4 w3.heap.size 26 (List.replicate l.length (.slice none 0 0))) := by rw [Hid, hw4]; exact VRow.made _ _ _ _
    have HV4 := Lib.hid (HV3.out.kept hk4 (by simp))
    have HK4 := Lib.hid (HK3.out.trans hk4)
    have hcB4 := hk4.cell hcB3 (by simp)
    have hG7 : w3.heap.size < w4.heap.size := HN4.out.lt
    clear hw4 hk4 hcB3 HV3
    generalize hGG7 : w3.heap.size = G7 at *
    go_upto_block 0 with (fail)
    go_cut [] (fun wc => NamesL l subs w w4 G6 G7 (.int .i64 l.length) wc)
    case first =>
      go_wp2_with fail
      go_loopw [26] (fun i wr => NamesL l subs w w4 G6 G7 i wr) (fun i _ => l.length - (intOf i).toNat)
      case atStart => exact ⟨0, _, [], Nat.zero_le _, rfl, rfl, HV4.out, HN4.out, ⟨by simp, fun i x h => by simp at h, fun i x h => by simp at h⟩, Kept.refl _ _, HK4.out⟩
      case round =>
        obtain ⟨k, vs, nl, hk, rfl, hnl, hv6, hv7, hnr, hkg, hkw⟩ := hrel
        have HV6 := Lib.hid hv6
        have HV7 := Lib.hid hv7
        have HNR := Lib.hid hnr
        have HKG := Lib.hid hkg
        have HKW := Lib.hid hkw
        have HNL := Lib.hid hnl
        have hzr := hkg.size
        have cB := hkg.cell hcB4 (by simp; omega)
        clear hv6 hv7 hnr hkg hkw hnl
        by_cases hlt : k < l.length
        · obtain ⟨x, hx⟩ : ∃ x, l[k]? = some x := ⟨_, List.getElem?_eq_getElem hlt⟩
          have HX := Lib.hid hx
          clear hx
          go_wp2_with fail
          refine (needs_any wr ua uc l sa sc subs k x (HE.out.kept HKW.out) HX.out HM.out HBD.out).mono ?_
          rintro e w5 ⟨v, xs, rfl, hnl5, hi5, hk5, hfr5⟩
          have HNL5 := Lib.hid hnl5
          have HI5 := Lib.hid hi5
          have HK5 := Lib.hid hk5
          have HFR5 := Lib.hid hfr5
          have HV65 := Lib.hid (HV6.out.kept hk5 (by simp))
          have HV75 := Lib.hid (HV7.out.kept hk5 (by simp))
          have f6 := HV65.out.frozen k
          have f7 := HV75.out.frozen k
          have e6 : (laidN l.length k)[k]? = some (.int .i64 0) := by simp [laidN, hlt]
          have c6 := HV65.out.cell e6
          obtain ⟨v7, e7⟩ : ∃ v7, vs[k]? = some v7 := ⟨_, List.getElem?_eq_getElem (by rw [HNR.out.len]; exact hlt)⟩
          have c7 := HV75.out.cell e7
          have h67 : G6 ≠ G7 := by omega
          have h76 : G7 ≠ G6 := by omega
          obtain ⟨av, cv, rfl, _⟩ := hi5
          clear hnl5 hk5 hfr5 e6 e7
          have HL1 : Hid ((laidN l.length k).set k (.int .i64 (k : Int)) = laidN l.length (k + 1)) := laidN_set hlt
          have HSN : Hid (∀ wz, Kept [G6, G7] w5 wz → NeedRow l subs w4.heap.size (vs.set k (.slice av xs.length cv)) (nl ++ [xs]) wz) := fun wz hz => by
            have h1 : NeedRow l subs w4.heap.size vs nl wz := (HNR.out.kept HK5.out (by simp)).kept hz (fun q hq => by simp at hq; omega)
            have hn := HNL.out
            have h2 := h1.snoc (v := .slice av xs.length cv) (x := xs) (by omega) (HI5.out.apart hz (fun q hq hm => by have := HFR5.out q hq; simp at hm; omega)) (by rw [hn]; exact HNL5.out) (fun q hq => by have := HFR5.out q hq; omega)
            rw [hn] at h2
            exact h2
          go_wp2_with fail
          have HZ : Hid (Kept [G6, G7] w5 ((w5.setCell ⟨G6, k, none⟩ (.int .i64 k)).setCell ⟨G7, k, none⟩ (.slice av xs.length cv))) := (Kept.setCell _ _ _ (by simp)).trans (Kept.setCell _ _ _ (by simp))
          go_roundw
          case rel => exact ⟨k + 1, _, nl ++ [xs], by omega, by go_num, by have := HNL.out; simp; omega, by rw [← HL1.out]; exact (HV65.out.set k _).other _ _ h67, (HV75.out.other _ _ h76).set k _, HSN.out _ HZ.out, (HKG.out.trans (HK5.out.mono (by simp))).trans HZ.out, (HKW.out.trans HK5.out).above HZ.out (fun q hq => by simp at hq; omega)⟩
          case measure => simp [intOf]; omega
        · obtain rfl : k = l.length := by omega
          go_wp2_with fail
          go_meet
          exact ⟨l.length, vs, nl, Nat.le_refl _, rfl, HNL.out, HV6.out, HV7.out, HNR.out, HKG.out, HKW.out⟩
    case rest =>
      obtain ⟨k', vs, nl, _, e, hnl, hv6, hv7, hnr, hkg, hkw⟩ := hcut
      obtain rfl : l.length = k' := by injection e with _ e; omega
      obtain ⟨w5, rfl⟩ : ∃ w5 : World, w5 = wc := ⟨_, rfl⟩
      have HNEED : Hid (NeedsOk l subs nl) := ⟨hnl, hnr.need⟩
      obtain ⟨ns, hns⟩ := names_exist l
      have HNS := Lib.hid hns
      have hnsl := hns.length
      have HNLL := Lib.hid hnl
      rw [laidN_all] at hv6
      have hzr := hkg.size
      have cB5 := hkg.cell hcB4 (by simp; omega)
      have HV6 := Lib.hid hv6
      have HV7 := Lib.hid hv7
      have HNR := Lib.hid hnr
      have HKW := Lib.hid hkw
      clear hcB4 hv6 hv7 hnr hkg hkw e hnl hns
      go_upto_region 11 with (fail)
      refine wp_gen' ?_
      intro w6 hw6
      have hk6 : Kept [] w5 w6 := by rw [hw6]; exact Kept.alloc _ _ _
      have c9 : w6.cell? ⟨w5.heap.size, 0, none⟩ = some (.func (.func 22) #[] #[]) := by rw [hw6, cell_of_row _ _ _ _ _ _ (heap_alloc_new _ _)]; rfl
      have HV66 := Lib.hid (HV6.out.kept hk6 (by simp))
      have HV76 := Lib.hid (HV7.out.kept hk6 (by simp))
      have HNR6 := Lib.hid (HNR.out.kept hk6 (by simp))
      have HK6 := Lib.hid (HKW.out.trans hk6)
      have cB6 := hk6.cell cB5 (by simp)
      have h56 := hk6.size
      have C9 := Lib.hid c9
      have CB6 := Lib.hid cB6
      clear hw6 hk6 cB5 c9 cB6 HV6 HV7 HNR
      go_cut [] (fun wc => Kept [G6] w6 wc ∧ ∀ (j i : Nat), ns[j]? = some i → wc.cell? ⟨G6, j, none⟩ = some (.int .i64 i))
      case first =>
        by_cases hpos : 0 < l.length
        · obtain ⟨bu, ou, rfl, hru⟩ := HE.out.us.some_ (j := 0) (x := l[0]'hpos) (List.getElem?_eq_getElem hpos)
          have hbuw : bu < w.heap.size := by
            obtain ⟨x0, _⟩ := unit_cells (hru 0 _ (List.getElem?_eq_getElem hpos))
            exact World.block_lt_of_cell? w _ x0
          have HCON := Lib.hid (sort_names w6 bu ou uc l B w5.heap.size G6 0 ns HNS.out (fun j r hj i v hv => HK6.out.cell (hru j r hj i v hv) (by simp)) (by omega) hpos CB6.out C9.out HV66.out (by omega) (by omega) (by omega))
          clear hru
          go_wp2_with fail
          refine HCON.out.mono ?_
          rintro e w7 ⟨rfl, hk7, hc7⟩
          have HK7 := Lib.hid hk7
          have HC7 := Lib.hid hc7
          clear hk7 hc7
          go_wp2_with fail
          go_meet
          exact ⟨HK7.out, HC7.out⟩
        · have h0 : l.length = 0 := by omega
          have HN0 : Hid (∀ (wz : World) (j i : Nat), ns[j]? = some i → wz.cell? ⟨G6, j, none⟩ = some (.int .i64 i)) := fun wz j i hj => by have := (List.getElem?_eq_some_iff.1 hj).1; omega
          have HC0 : ∀ n : Nat, n = 0 → Calls Try.prog 23 #[.slice (some ⟨G6, 0, none⟩) n l.length, .func (.func 24) #[] #[.pointer (some ⟨B, 0, none⟩), .pointer (some ⟨w5.heap.size, 0, none⟩)]] w6 (fun e w' => e = .returned (.tuple #[]) ∧ w' = w6) := fun n hn => by
            subst hn
            exact Try.slices_SortFunc_none (α := Int) _ _ _ w6
          have HCON := Lib.hid (HC0 l.length h0)
          clear HC0
          clear h0
          go_wp2_with fail
          refine HCON.out.mono ?_
          rintro e w7 ⟨rfl, rfl⟩
          go_wp2_with fail
          go_meet
          exact ⟨Kept.refl _ _, HN0.out _⟩
      case rest =>
        obtain ⟨hk7, hc7⟩ := hcut
        obtain ⟨w7, rfl⟩ : ∃ w7 : World, w7 = wc := ⟨_, rfl⟩
        have HC7 := Lib.hid hc7
        have HV7 := Lib.hid (HV76.out.kept hk7 (by simp; omega))
        have HNR7 := Lib.hid (HNR6.out.kept hk7 (by simp; omega))
        have hw67 := hk7.size
        have HK7 : Hid (Kept [] w w7) := HK6.out.above hk7 (by simp; omega)
        have cB7 := hk7.cell CB6.out (by simp; omega)
        have hG7w : G7 < w7.heap.size := HV7.out.lt
        clear hk7 hc7 HV66 HV76 HNR6 HK6 CB6 C9
        go_upto_region 13 with (at_make; refine wpList_make_row _ rfl _ _ 39 rfl 4 i1 (.bool false) Try.underlying39 hi1 hz10 hz11 rfl .i64 .i64 l.length rfl rfl hmb1 (by omega) ?_)
        refine wp_gen' ?_
        intro w8 hw8
        have hk8 : Kept [] w7 w8 := by rw [hw8]; exact (Kept.alloc _ _ _).trans (Kept.alloc _ _ _)
        have HT8 : Hid (BRow w8 w7.heap.size (List.replicate l.length false)) := by rw [hw8]; exact (BRow.made w7 _).kept (Kept.alloc [] _ _) (by simp)
        have hbx : w8.cell? ⟨w7.heap.size + 1, 0, none⟩ = some (.slice (some ⟨w7.heap.size, 0, none⟩) l.length l.length) := by rw [hw8]; exact (cell_of_row _ _ _ _ _ _ (obj_new (by simp))).trans rfl
        have HBX := Lib.hid hbx
        have HK78 := Lib.hid hk8
        have hz8 : w7.heap.size + 1 < w8.heap.size := World.block_lt_of_cell? w8 _ hbx
        have CB7 := Lib.hid cB7
        have hw7w : w.heap.size ≤ w7.heap.size := HK7.out.size
        clear hw8 hk8 hbx cB7
        generalize hGt : w7.heap.size = Gt at *
        have HST : Hid (OutO l ns nl w8 Gt l.length (.slice none 0 0) w8) :=
          ⟨[], _, by simp, World.ownsRow_nil _ _ _ _, HT8.out, by simp, by have := HNLL.out; unfold orderR; rw [this], Kept.refl _ _⟩
        go_wp2_with fail
        go_step3
        go_wp2_with fail
        go_loopg [11] l.length (fun gk v wr => OutO l ns nl w8 Gt gk v wr)
        case atStart => exact HST.out
        case round =>
          obtain ⟨o, t, hgo, ho, ht, htl, hord, hkg⟩ := hrel
          obtain ⟨wo, rfl⟩ : ∃ wo : World, wo = wr := ⟨_, rfl⟩
          obtain ⟨A11, c11, rfl⟩ := own_shape ho
          have HO := Lib.hid ho
          have HT := Lib.hid ht
          have HTL := Lib.hid htl
          have HORD := Lib.hid hord
          have HKG := Lib.hid hkg
          have HK7o : Hid (Kept [] w7 wo) := HK78.out.trans0 hkg (by omega)
          have HKW := Lib.hid (HK7.out.trans HK7o.out)
          have hwo8 : w8.heap.size ≤ wo.heap.size := hkg.size
          have cB := HK7o.out.cell CB7.out (by simp)
          have cX := hkg.cell HBX.out (by simp)
          clear ho ht htl hord hkg
          by_cases hlt : o.length < l.length
          · obtain ⟨g1, rfl⟩ : ∃ g1, gk = g1 + 1 := ⟨gk - 1, by omega⟩
            have hO := HORD.out
            rw [orderG] at hO
            have HO1 := Lib.hid hO
            clear hO HORD
            go_wp2_with fail
            go_loopg [11, 54] l.length (fun g2 s11 i wr => s11 = .slice A11 o.length c11 ∧ ∃ k : Nat, k + g2 = l.length ∧ i = .int .i64 k ∧ (∀ (j a : Nat), j < k → ns[j]? = some a → readyB nl t a = false) ∧ Kept [] wo wr)
            case atStart => exact ⟨rfl, 0, by omega, rfl, fun j a hj => by omega, Kept.refl _ _⟩
            case round =>
              obtain ⟨rfl, k, hkg, rfl, hno, hkr⟩ := hrel
              have HNO := Lib.hid hno
              have HKR := Lib.hid hkr
              have HT2 : Hid (BRow wr Gt t) := HT.out.kept hkr (by simp)
              have cX2 := hkr.cell cX (by simp)
              have cB2 := hkr.cell cB (by simp)
              clear hno
              by_cases hlk : k < l.length
              · obtain ⟨i, hik⟩ : ∃ i, ns[k]? = some i := ⟨_, List.getElem?_eq_getElem (by omega)⟩
                have hil : i < l.length := (HNS.out.mem i).1 (List.mem_of_getElem? hik)
                have q0 := hkr.cell (HK7o.out.cell (HC7.out k i hik) (by simp)) (by simp)
                have HIK := Lib.hid hik
                obtain ⟨tb, htb⟩ : ∃ tb, t[i]? = some tb := ⟨_, List.getElem?_eq_getElem (by have := HTL.out; omega)⟩
                have q1 := HT2.out.cell htb
                have q2 := HT2.out.frozen i
                have HTK : Hid (tk t i = tb) := by rw [Hid, tk, htb]; rfl
                obtain ⟨x, hxn⟩ : ∃ x, nl[i]? = some x := ⟨_, List.getElem?_eq_getElem (by have := HNLL.out; omega)⟩
                obtain ⟨v, hv, hiv, _⟩ := HNR7.out.at' i x hxn
                have HNX : Hid (readyB nl t i = (!tb && allTk t x)) := by rw [Hid]; unfold readyB needAt; rw [HTK.out, hxn]; rfl
                have HXR : Hid (∀ y, y ∈ x → 0 ≤ y ∧ y < (l.length : Int)) := fun y hy => need_range HM.out (((HNEED.out.at' i x hxn).2 y).1 hy)
                obtain ⟨av, cv, rfl, hv1, hv2, hv3, hv4⟩ := hiv
                have HIV : Hid (IntsC wr (.slice av x.length cv) x) := (IntsC.kept ⟨av, cv, rfl, hv1, hv2, hv3, hv4⟩ HK7o.out).kept hkr
                have q3 := hkr.cell (HK7o.out.cell (HV7.out.cell hv) (by simp)) (by simp)
                clear hik htb hxn hv hv1 hv2 hv3 hv4 hkr
                cases tb
                · go_wp2_with fail
                  refine (contains_left wr _ x (Gt + 1) Gt l.length t HIV.out HXR.out (by omega) (by omega) HTL.out cX2 HT2.out).mono ?_
                  rintro e w9 ⟨rfl, hk9⟩
                  have HK9 := Lib.hid (HKR.out.trans hk9)
                  have cX9 := hk9.cell cX2 (by simp)
                  have HT9 := Lib.hid (HT2.out.kept hk9 (by simp))
                  have q9 := hk9.cell q1 (by simp)
                  clear hk9 q0 q1 q2 q3 cX2 cB2
                  cases hal : allTk t x
                  · have HNR : Hid (readyB nl t i = false) := by rw [Hid, HNX.out, hal]; rfl
                    clear hal
                    go_wp2_with fail
                    go_roundg (gk - 1)
                    case measure => omega
                    case rel => exact ⟨rfl, k + 1, by omega, by go_num, fun j a hj ha => by
                      by_cases e : j = k
                      · subst e
                        have := HIK.out
                        rw [ha] at this
                        injection this with this
                        subst this
                        exact HNR.out
                      · exact HNO.out j a (by omega) ha, HK9.out⟩
                  · have HFI : Hid (ns.find? (readyB nl t) = some i) := find_at ns k i HIK.out (by rw [HNX.out, hal]; rfl) HNO.out
                    have hO2 := HO1.out
                    rw [HFI.out] at hO2
                    have HO2 := Lib.hid hO2
                    have f9 := HT9.out.frozen i
                    have HOW := Lib.hid (own_keep HO.out HK9.out (by simp))
                    clear hal hO2
                    go_upto_region 20 with (fail)
                    refine wp_gen' ?_
                    intro wa hwa
                    have hka : Kept [Gt] w9 wa := by rw [hwa]; exact Kept.setCell _ _ _ (by simp)
                    have HTA : Hid (BRow wa Gt (t.set i true)) := by rw [hwa]; exact HT9.out.set i true
                    have HOA : Hid (wa.ownsRow w8.heap.size 3 1 (.slice A11 o.length c11) o.length ((natsI o).map (Value.int .i64))) := by rw [hwa]; exact ownsRow_setCell_below HOW.out (show Gt < _ by omega) _
                    have hsa : w8.heap.size ≤ wa.heap.size := by have := hka.size; have := HK9.out.size; omega
                    have HKA : Hid (Kept [Gt] w8 wa) := (HKG.out.trans (HK9.out.mono (by simp))).trans hka
                    clear hwa hka q9 f9 cX9
                    have hA : o.length + 1 ≤ maxLen := by unfold maxLen; omega
                    have hB : (o.length + 1) * 8 ≤ 140737488355328 := by omega
                    have hC : w8.heap.size ≤ (wa.alloc (.cells #[.int .i64 i] 3)).heap.size := by simp; omega
                    go_wp2_with (at_builtin; refine wpList_append_own _ rfl _ _ 26 rfl w8.heap.size 3 i0 (.int .i64 0) 1 8 Try.underlying26 hi hz0 hz1 hz2 rfl (by decide) (.slice A11 o.length c11) o.length ((natsI o).map (Value.int .i64)) rfl (HOA.out.alloc _) ⟨wa.heap.size, 0, none⟩ 1 1 [.int .i64 i] rfl rfl (cell_one_new _ _ _) (one_int _ _) hA hB hC ?_; intro vb wb hob hgb _; have HOB := Lib.hid hob; have HGB := Lib.hid hgb; clear hob hgb)
                    have HOW2 : Hid (wb.ownsRow w8.heap.size 3 1 vb (o ++ [i]).length ((natsI (o ++ [i])).map (Value.int .i64))) := by have := HOB.out; rw [Hid]; simpa [natsI] using this
                    have HKB : Hid (Kept [Gt] w8 wb) := (HKA.out.trans (Kept.alloc _ _ _)).grown HGB.out (fun q hq => own_at HOA.out q hq)
                    have HTB : Hid (BRow wb Gt (t.set i true)) := (HGB.out.block Gt (by simp; omega) (fun e => by have := own_at HOA.out Gt e.symm; omega)).trans (HTA.out.kept (Kept.alloc [] _ _) (by simp))
                    go_roundg g1
                    case measure => omega
                    case rel => exact ⟨o ++ [i], t.set i true, by simp; omega, HOW2.out, HTB.out, by rw [List.length_set]; exact HTL.out, HO2.out, HKB.out⟩
                · have HNR : Hid (readyB nl t i = false) := by rw [Hid, HNX.out]; rfl
                  go_wp2_with fail
                  go_roundg (gk - 1)
                  case measure => omega
                  case rel => exact ⟨rfl, k + 1, by omega, by go_num, fun j a hj ha => by
                    by_cases e : j = k
                    · subst e
                      have := HIK.out
                      rw [ha] at this
                      injection this with this
                      subst this
                      exact HNR.out
                    · exact HNO.out j a (by omega) ha, HKR.out⟩
              · have HFI : Hid (ns.find? (readyB nl t) = none) := List.find?_eq_none.2 fun a ha => by
                  obtain ⟨j, hj⟩ := List.mem_iff_getElem?.1 ha
                  have := (List.getElem?_eq_some_iff.1 hj).1
                  rw [HNO.out j a (by omega) hj]
                  simp
                have hO2 := HO1.out
                rw [HFI.out] at hO2
                have HRES : Hid (OrderRes l subs [] 150) := .inr ⟨HMB.out, ns, _, HNS.out, HNEED.out, by rw [← hO2]; rfl, by rw [← hO2]; rfl⟩
                clear hO2
                go_wp2_with fail
                go_ret2
                exact ⟨_, _, _, rfl, HRES.out, IntsC.nil _, HKW.out.trans HKR.out⟩
          · have h0 : gk = 0 := by omega
            subst h0
            have HRES : Hid (OrderRes l subs (natsI o) 0) := .inr ⟨HMB.out, ns, _, HNS.out, HNEED.out, by have := HORD.out; rw [← this]; rfl, by have := HORD.out; rw [← this]; rfl⟩
            go_wp2_with fail
            go_ret2
            exact ⟨_, _, _, rfl, HRES.out, IntsC.of_owns (by simpa [natsI] using HO.out), HKW.out⟩
end Go.Proofs.Ytoaklikkepkhfaa
