/- The examples: works() is true. -/
import Derived.Test.YtlgcboaojdhneaaE5
import Derived.Deep.RegionHeld3
namespace Go.Proofs.Ytlgcboaojdhneaa
open Go.RowKit

theorem case_info : (Try.prog.info? 82).map (fun i => (i.zero.isSome, i.size, i.bytes)) = some (true, 6, 104) := by kernel_rfl
theorem int_info' : (Try.prog.info? 3).map (fun i => (i.zero.isSome, i.size, i.bytes)) = some (true, 1, 8) := by kernel_rfl
theorem Try.info31 (h : WhV) : (Try.prog.info? 31).map (·.size) = some h.cells.toArray.size := by
  show _ = some 4
  kernel_rfl
theorem WhV.one (h : WhV) : h.cells.toArray.all (·.oneCell') = true := by simp [WhV.cells, Value.oneCell']
theorem Try.info82 (x : CaseV) : (Try.prog.info? 82).map (·.size) = some x.cells.length := by
  show _ = some 6
  kernel_rfl
theorem Try.sz31 : (Try.prog.info? 31).map (·.size) = some 4 := by kernel_rfl
theorem wh_range {w : World} {b : Nat} {h : WhV} (hb : w.heap[b]? = some (.cells h.cells.toArray 31 (0, 0))) : w.rangeAt b 0 h.cells := fun j u hu => by
  rw [Nat.zero_add, cell_of_row _ _ _ _ _ _ hb]
  simpa using hu
theorem ints_cells (l : List Int) : ∀ v ∈ l.map (Value.int .i64), v.cells = #[v] := by
  intro v hv
  obtain ⟨x, _, rfl⟩ := List.mem_map.1 hv
  rfl
theorem IntsIn.of_vals {w : World} {b : Nat} {l : List Int} (h : w.heap[b]? = some (.cells (l.map (Value.int .i64)).toArray 3 (0, 0))) : IntsIn w (at1 b) l :=
  .inr ⟨b, 0, rfl, fun j x hx => by
    rw [Nat.zero_add, cell_of_row _ _ _ _ _ _ h]
    simp [hx]⟩

theorem same_len (w : World) (a b : Option Addr) (c d : Nat) (xs ys : List Int) (n m : Nat) (hn : n = xs.length) (hm0 : m = ys.length) (hc : xs.length ≤ c) (hm : c ≤ 9223372036854775807) (hI : IntsIn w a xs) (hc' : ys.length ≤ d) (hm' : d ≤ 9223372036854775807) (hI' : IntsIn w b ys) :
    Calls Try.prog 21 #[.slice a n c, .slice b m d] w (RetB (sameI xs ys) w) := by
  subst hn hm0
  exact same_any w a b c d xs ys hc hm hI hc' hm' hI'
theorem selA (w : World) (v : TabV) (T : Tab) (u1 u2 : Nat) (u : Int) (name : ByteArray) (hT : TabIn w v T) (hH : WhIn w (whA u1 u2)) (hs : T.ents.length ≤ 5000) :
    Calls Try.prog 13 #[.agg #[.slice v.ta T.types.length v.tc, .slice v.sa T.subs.length v.sc, .slice v.ea T.ents.length v.ec, .slice v.ga v.gn v.gc, .slice v.ia v.im v.ic], .agg #[.int .i64 19, .int .i64 22, .slice (some ⟨u1, 0, none⟩) 1 1, .slice (some ⟨u2, 0, none⟩) 1 1], .int .i64 u, .string name] w (RetC (selR T (whA u1 u2) u name) w) :=
  select_any w v T (whA u1 u2) u name hT hH (by omega)
theorem selC (w : World) (v : TabV) (T : Tab) (u : Int) (name : ByteArray) (hT : TabIn w v T) (hH : WhIn w whC) (hs : T.ents.length ≤ 5000) :
    Calls Try.prog 13 #[.agg #[.slice v.ta T.types.length v.tc, .slice v.sa T.subs.length v.sc, .slice v.ea T.ents.length v.ec, .slice v.ga v.gn v.gc, .slice v.ia v.im v.ic], .agg #[.int .i64 15, .int .i64 19, .slice none 0 0, .slice none 0 0], .int .i64 u, .string name] w (RetC (selR T whC u name) w) :=
  select_any w v T whC u name hT hH (by omega)

set_option maxRecDepth 100000 in
set_option maxHeartbeats 4000000 in
theorem works_any (w : World) : Calls Try.prog 14 #[] w (RetB true w) := by
  obtain ⟨i82, hi82, hz82, hs82, _⟩ := info_parts' case_info
  obtain ⟨i3, hi3, hz3, hs3, _⟩ := info_parts' int_info'
  go_enter Try.func14, Try.ntmps14
  go_upto_region 2 with (first
    | (go_at_call 38
       refine (some_any w).mono ?_
       rintro e w1 ⟨v, kl, k1, k2, rfl, ho1, hm1, hk1⟩
       have HO1 := Lib.hid ho1
       have HM1 := Lib.hid hm1
       have HK1 := Lib.hid hk1
       clear ho1 hm1 hk1)
    | (guard_hyp HK1
       refine wpList_store_new rfl 28 (.tmp 1) (.tmp 7) rfl _ (v.cells (someT kl k1 k2)) w1.heap.size rfl rfl rfl (Try.info28 v _) rfl (tab_one _ _) ?_))
  refine wp_gen' ?_
  intro w2 hw2
  have hk2 : Kept [] w1 w2 := by rw [hw2]; exact Kept.alloc _ _ _
  have HBT : Hid (w2.heap[w1.heap.size]? = some (.cells (v.cells (someT kl k1 k2)) 28 (0, 0))) := by rw [Hid, hw2]; exact heap_alloc_new _ _
  have HK2 : Hid (Kept [] w w2) := HK1.out.trans hk2
  have HT2 : Hid (TabIn w2 v (someT kl k1 k2)) := (tabIn_std (base := w.heap.size) some7 some7_plain HM1.out HO1.out).kept hk2
  generalize w1.heap.size = B at *
  obtain ⟨T, hTd⟩ : ∃ T, T = someT kl k1 k2 := ⟨_, rfl⟩
  have HTD := Lib.hid hTd
  rw [← hTd] at HBT HT2
  clear hw2 hk2 HO1 HM1 HK1 hTd
  go_upto_region 3 with (first
    | (fail_if_success guard_hyp HU1
       refine wpList_build_vals (([15] : List Int).map (Value.int .i64)) (ints_cells _) rfl 29 3 1 #[(0, .const (.int .i64 15))] rfl i3 Try.underlying29 hi3 hz3 hs3 rfl (by decide) (by decide) rfl ?_
       intro u1 hu
       have HU1 := Lib.hid hu
       clear hu)
    | (guard_hyp HU1
       fail_if_success guard_hyp HU2
       refine wpList_build_vals (([15] : List Int).map (Value.int .i64)) (ints_cells _) rfl 29 3 1 #[(0, .const (.int .i64 15))] rfl i3 Try.underlying29 hi3 hz3 hs3 rfl (by decide) (by decide) rfl ?_
       intro u2 hu
       have HU2 := Lib.hid hu
       clear hu))
  refine wp_gen' ?_
  intro w3 hw3
  have hk3 : Kept [] w2 w3 := by rw [hw3]; exact ((Kept.alloc _ _ _).trans (Kept.alloc _ _ _)).trans (Kept.alloc _ _ _)
  have HW3 : Hid (w3.heap[w2.heap.size + 1 + 1]? = some (.cells (whA u1 u2).cells.toArray 31 (0, 0))) := by rw [Hid, hw3]; exact obj_new (by simp)
  have HI1 : Hid (IntsIn w3 (at1 u1) [15]) := by
    refine IntsIn.of_vals (l := [15]) ?_
    rw [hw3]
    exact obj_old (obj_old (obj_new HU1.out) (by simp [HU1.out])) (by simp [HU1.out]; omega)
  have HI2 : Hid (IntsIn w3 (at1 u2) [15]) := by
    refine IntsIn.of_vals (l := [15]) ?_
    rw [hw3]
    exact obj_old (obj_new HU2.out) (by rw [HU2.out]; simp)
  have HK3 : Hid (Kept [] w2 w3) := hk3
  generalize w2.heap.size + 1 + 1 = BW at *
  clear hw3 hk3 HU1 HU2
  go_upto_region 4 with (fail)
  refine wp_gen' ?_
  intro w4 hw4
  have hk4 : Kept [] w3 w4 := by rw [hw4]; exact Kept.alloc _ _ _
  have HW4 : Hid (w4.heap[w3.heap.size]? = some (.cells whB.cells.toArray 31 (0, 0))) := by rw [Hid, hw4]; exact heap_alloc_new _ _
  have HK4 : Hid (Kept [] w3 w4) := hk4
  generalize w3.heap.size = BA at *
  clear hw4 hk4
  go_upto_region 5 with (fail)
  refine wp_gen' ?_
  intro w5 hw5
  have hk5 : Kept [] w4 w5 := by rw [hw5]; exact Kept.alloc _ _ _
  have HW5 : Hid (w5.heap[w4.heap.size]? = some (.cells whC.cells.toArray 31 (0, 0))) := by rw [Hid, hw5]; exact heap_alloc_new _ _
  have HK5 : Hid (Kept [] w3 w5) := HK4.out.trans hk5
  have HWB5 : Hid (w5.heap[BA]? = some (.cells whB.cells.toArray 31 (0, 0))) := hk5.obj HW4.out (by simp)
  generalize w4.heap.size = BI at *
  clear hw5 hk5
  have HWA5 : Hid (w5.heap[BW]? = some (.cells (whA u1 u2).cells.toArray 31 (0, 0))) := HK5.out.obj HW3.out (by simp)
  have HRW : Hid (∀ W, Kept [] w5 W → W.rangeAt BW 0 [.int .i64 19, .int .i64 22, .slice (some ⟨u1, 0, none⟩) 1 1, .slice (some ⟨u2, 0, none⟩) 1 1]) := fun W hk => wh_range (h := whA u1 u2) (hk.obj HWA5.out (by simp))
  have HRA : Hid (∀ W, Kept [] w5 W → W.rangeAt BA 0 [.int .i64 19, .int .i64 22, .slice none 0 0, .slice none 0 0]) := fun W hk => wh_range (h := whB) (hk.obj HWB5.out (by simp))
  have HRI : Hid (∀ W, Kept [] w5 W → W.rangeAt BI 0 [.int .i64 15, .int .i64 19, .slice none 0 0, .slice none 0 0]) := fun W hk => wh_range (h := whC) (hk.obj HW5.out (by simp))
  clear HW3 HW4
  go_wp2_with (first
    | (fail_if_success guard_hyp HC1
       refine wpList_build_vals (([17, 20] : List Int).map (Value.int .i64)) (ints_cells _) rfl 29 3 2 #[(0, .const (.int .i64 17)), (1, .const (.int .i64 20))] rfl i3 Try.underlying29 hi3 hz3 hs3 rfl (by decide) (by decide) rfl ?_
       intro c1 hu
       have HC1 := Lib.hid hu
       clear hu)
    | (guard_hyp HC1
       fail_if_success guard_hyp HC2
       refine wpList_build_vals (([21] : List Int).map (Value.int .i64)) (ints_cells _) rfl 29 3 1 #[(0, .const (.int .i64 21))] rfl i3 Try.underlying29 hi3 hz3 hs3 rfl (by decide) (by decide) rfl ?_
       intro c2 hu
       have HC2 := Lib.hid hu
       clear hu)
    | (guard_hyp HC2
       fail_if_success guard_hyp HC4
       refine wpList_build_vals (([15] : List Int).map (Value.int .i64)) (ints_cells _) rfl 29 3 1 #[(0, .const (.int .i64 15))] rfl i3 Try.underlying29 hi3 hz3 hs3 rfl (by decide) (by decide) rfl ?_
       intro c4 hu
       have HC4 := Lib.hid hu
       clear hu)
    | (guard_hyp HC4
       fail_if_success guard_hyp HC5
       refine wpList_build_vals (([4] : List Int).map (Value.int .i64)) (ints_cells _) rfl 29 3 1 #[(0, .const (.int .i64 4))] rfl i3 Try.underlying29 hi3 hz3 hs3 rfl (by decide) (by decide) rfl ?_
       intro c5 hu
       have HC5 := Lib.hid hu
       clear hu)
    | (guard_hyp HC5
       fail_if_success guard_hyp HC6
       refine wpList_build_vals (([20] : List Int).map (Value.int .i64)) (ints_cells _) rfl 29 3 1 #[(0, .const (.int .i64 20))] rfl i3 Try.underlying29 hi3 hz3 hs3 rfl (by decide) (by decide) rfl ?_
       intro c6 hu
       have HC6 := Lib.hid hu
       clear hu)
    | (guard_hyp HC6
       fail_if_success guard_hyp HC8
       refine wpList_build_vals (([18] : List Int).map (Value.int .i64)) (ints_cells _) rfl 29 3 1 #[(0, .const (.int .i64 18))] rfl i3 Try.underlying29 hi3 hz3 hs3 rfl (by decide) (by decide) rfl ?_
       intro c8 hu
       have HC8 := Lib.hid hu
       clear hu)
    | (refine wpList_load_mid rfl 31 (.tmp 2) rfl BW 0 rfl [.int .i64 19, .int .i64 22, .slice (some ⟨u1, 0, none⟩) 1 1, .slice (some ⟨u2, 0, none⟩) 1 1] _ (HRW.out _ (by repeat (first | exact Kept.refl _ _ | refine Kept.trans ?_ (Kept.alloc _ _ _)))) Try.underlying31 rfl Try.sz31 ?_)
    | (refine wpList_load_mid rfl 31 (.tmp 3) rfl BA 0 rfl [.int .i64 19, .int .i64 22, .slice none 0 0, .slice none 0 0] _ (HRA.out _ (by repeat (first | exact Kept.refl _ _ | refine Kept.trans ?_ (Kept.alloc _ _ _)))) Try.underlying31 rfl Try.sz31 ?_)
    | (refine wpList_load_mid rfl 31 (.tmp 4) rfl BI 0 rfl [.int .i64 15, .int .i64 19, .slice none 0 0, .slice none 0 0] _ (HRI.out _ (by repeat (first | exact Kept.refl _ _ | refine Kept.trans ?_ (Kept.alloc _ _ _)))) Try.underlying31 rfl Try.sz31 ?_)
    | (guard_hyp HC8
       fail_if_success guard_hyp HKL
       refine wpList_build_rows CaseV.cells 6 CaseV.len (by decide) (casesL u1 u2 c1 c2 c4 c5 c6 c8) rfl 83 82 8 #[(0, .tmp 15), (1, .tmp 18), (2, .tmp 20), (3, .tmp 23), (4, .tmp 26), (5, .tmp 29), (6, .tmp 31), (7, .tmp 34)] rfl i82 Try.underlying83 hi82 hz82 hs82 rfl (by decide) (by decide) rfl ?_
       intro kL hu
       have HKL := Lib.hid hu
       clear hu))
  refine wp_gen' ?_
  intro w6 hw6
  have hk6 : Kept [] w5 w6 := (by rw [hw6]; repeat (first | exact Kept.refl _ _ | refine Kept.trans ?_ (Kept.alloc _ _ _)))
  have hi_c1 : IntsIn w6 (at1 c1) [17, 20] := (IntsIn.of_vals (l := [17, 20]) (obj_new HC1.out)).kept (by rw [hw6]; repeat (first | exact Kept.refl _ _ | refine Kept.trans ?_ (Kept.alloc _ _ _)))
  have hi_c2 : IntsIn w6 (at1 c2) [21] := (IntsIn.of_vals (l := [21]) (obj_new HC2.out)).kept (by rw [hw6]; repeat (first | exact Kept.refl _ _ | refine Kept.trans ?_ (Kept.alloc _ _ _)))
  have hi_c4 : IntsIn w6 (at1 c4) [15] := (IntsIn.of_vals (l := [15]) (obj_new HC4.out)).kept (by rw [hw6]; repeat (first | exact Kept.refl _ _ | refine Kept.trans ?_ (Kept.alloc _ _ _)))
  have hi_c5 : IntsIn w6 (at1 c5) [4] := (IntsIn.of_vals (l := [4]) (obj_new HC5.out)).kept (by rw [hw6]; repeat (first | exact Kept.refl _ _ | refine Kept.trans ?_ (Kept.alloc _ _ _)))
  have hi_c6 : IntsIn w6 (at1 c6) [20] := (IntsIn.of_vals (l := [20]) (obj_new HC6.out)).kept (by rw [hw6]; repeat (first | exact Kept.refl _ _ | refine Kept.trans ?_ (Kept.alloc _ _ _)))
  have hi_c8 : IntsIn w6 (at1 c8) [18] := (IntsIn.of_vals (l := [18]) (obj_new HC8.out)).kept (by rw [hw6]; repeat (first | exact Kept.refl _ _ | refine Kept.trans ?_ (Kept.alloc _ _ _)))
  have HLB : Hid (w6.heap[kL]? = some (.cells ((casesL u1 u2 c1 c2 c4 c5 c6 c8).map CaseV.cells).flatten.toArray 82 (0, 0))) := by rw [Hid, hw6]; exact obj_new HKL.out
  have hw1 : WhIn w6 (whA u1 u2) := ⟨(HI1.out.kept HK5.out).kept hk6, Nat.le_refl _, by show (1 : Nat) ≤ 9223372036854775807; omega, (HI2.out.kept HK5.out).kept hk6, Nat.le_refl _, by show (1 : Nat) ≤ 9223372036854775807; omega⟩
  have hw2 : WhIn w6 whB := ⟨.inl rfl, Nat.le_refl _, by show (0 : Nat) ≤ 9223372036854775807; omega, .inl rfl, Nat.le_refl _, by show (0 : Nat) ≤ 9223372036854775807; omega⟩
  have hw3 : WhIn w6 whC := ⟨.inl rfl, Nat.le_refl _, by show (0 : Nat) ≤ 9223372036854775807; omega, .inl rfl, Nat.le_refl _, by show (0 : Nat) ≤ 9223372036854775807; omega⟩
  have HCI : Hid (∀ x, x ∈ casesL u1 u2 c1 c2 c4 c5 c6 c8 → CaseIn w6 x ∧ findR T x.h x.name = x.want ∧ x.h.uses.length ≤ 100000) := by
    intro x hx
    refine ⟨?_, by rw [HTD.out]; exact cases_find kl k1 k2 u1 u2 c1 c2 c4 c5 c6 c8 x hx, ?_⟩
    · simp only [casesL, List.mem_cons, List.not_mem_nil, or_false] at hx
      rcases hx with rfl | rfl | rfl | rfl | rfl | rfl | rfl | rfl
      · exact ⟨hw1, hi_c1, Nat.le_refl _, Nat.le_of_ble_eq_true rfl⟩
      · exact ⟨hw1, hi_c2, Nat.le_refl _, Nat.le_of_ble_eq_true rfl⟩
      · exact ⟨hw1, .inl rfl, Nat.le_refl _, Nat.le_of_ble_eq_true rfl⟩
      · exact ⟨hw1, hi_c4, Nat.le_refl _, Nat.le_of_ble_eq_true rfl⟩
      · exact ⟨hw1, hi_c5, Nat.le_refl _, Nat.le_of_ble_eq_true rfl⟩
      · exact ⟨hw2, hi_c6, Nat.le_refl _, Nat.le_of_ble_eq_true rfl⟩
      · exact ⟨hw2, .inl rfl, Nat.le_refl _, Nat.le_of_ble_eq_true rfl⟩
      · exact ⟨hw3, hi_c8, Nat.le_refl _, Nat.le_of_ble_eq_true rfl⟩
    · simp only [casesL, List.mem_cons, List.not_mem_nil, or_false] at hx
      rcases hx with rfl | rfl | rfl | rfl | rfl | rfl | rfl | rfl <;> exact Nat.le_of_ble_eq_true rfl
  have HLL : Hid ((casesL u1 u2 c1 c2 c4 c5 c6 c8).length = 8) := rfl
  have HWH1 := Lib.hid hw1
  have HWH3 := Lib.hid hw3
  have HK6 : Hid (Kept [] w2 w6) := HK3.out.trans (HK5.out.trans hk6)
  have HK56 := Lib.hid hk6
  clear hw6 hk6 hi_c1 hi_c2 hi_c4 hi_c5 hi_c6 hi_c8 hw1 hw2 hw3 HKL HC1 HC2 HC4 HC5 HC6 HC8 HI1 HI2 HW5 HWB5
  have HSZ : Hid (T.ents.length ≤ 5000) := by rw [HTD.out]; exact Nat.le_of_ble_eq_true rfl
  have HWF : Hid (∀ x, x ∈ T.ents → (Lit.int .i64 x.owner).wf = true) := by rw [HTD.out]; exact some_wf k1 k2
  go_loopw [37] (fun i wr => ∃ k : Nat, k ≤ 8 ∧ i = .int .i64 k ∧ Kept [] w6 wr) (fun i _ => 8 - (intOf i).toNat)
  case atStart => exact ⟨0, by omega, rfl, Kept.refl _ _⟩
  case round =>
    obtain ⟨k, hk, rfl, hkr⟩ := hrel
    have HKR := Lib.hid hkr
    clear hkr
    generalize hLL : casesL u1 u2 c1 c2 c4 c5 c6 c8 = L at *
    clear hLL
    by_cases hlt : k < 8
    · obtain ⟨x, hx⟩ : ∃ x, L[k]? = some x := ⟨_, List.getElem?_eq_getElem (by rw [HLL.out]; exact hlt)⟩
      obtain ⟨hci, hfind, hus⟩ := HCI.out x (List.mem_of_getElem? hx)
      have HX : Hid (wr.rangeAt kL (k * 6) x.cells) := by
        rw [Hid, ← Nat.zero_add (k * 6)]
        exact range_of_block (HKR.out.obj HLB.out (by simp)) (fun r hr => by obtain ⟨y, _, rfl⟩ := List.mem_map.1 hr; rfl) (by rw [List.getElem?_map, hx]; rfl)
      have HCX := Lib.hid hci
      have HFX := Lib.hid hfind
      have HUX := Lib.hid hus
      clear hci hfind hus hx
      go_upto_region 8 with (first
        | (refine wpList_load_mid rfl 82 (.tmp 39) rfl kL (k * 6) rfl x.cells _ HX.out Try.underlying82 rfl (Try.info82 x) ?_)
        | (refine wpList_store_new rfl 82 (.tmp 6) (.tmp 40) rfl _ x.cells.toArray wr.heap.size rfl rfl rfl (Try.info82 x) rfl (CaseV.one _) ?_))
      refine wp_gen' ?_
      intro w7 hw7
      have hk7 : Kept [] wr w7 := by rw [hw7]; exact Kept.alloc _ _ _
      have hX7 : w7.heap[wr.heap.size]? = some (.cells x.cells.toArray 82 (0, 0)) := by rw [hw7]; exact heap_alloc_new _ _
      have HX7 := Lib.hid hX7
      have HK7 := Lib.hid hk7
      have hT7 : w7.heap[B]? = some (.cells (v.cells T) 28 (0, 0)) := (HK6.out.trans (HKR.out.trans hk7)).obj HBT.out (by simp)
      have HT7 := Lib.hid hT7
      generalize wr.heap.size = BX at *
      clear hw7 hk7 hX7 hT7 HX
      have HTI : Hid (TabIn w7 v T) := HT2.out.kept (HK6.out.trans (HKR.out.trans HK7.out))
      have HCI7 : Hid (CaseIn w7 x) := HCX.out.kept (HKR.out.trans HK7.out)
      have dT : ∀ wx, Kept [] w7 wx → ∀ j, wx.cell? ⟨B, j, none⟩ = (v.cells T)[j]? := fun wx hk j => cell_of_row _ _ _ _ _ _ (hk.obj HT7.out (by simp))
      have dX : ∀ wx, Kept [] w7 wx → ∀ j, wx.cell? ⟨BX, j, none⟩ = x.cells.toArray[j]? := fun wx hk j => cell_of_row _ _ _ _ _ _ (hk.obj HX7.out (by simp))
      have KP : Hid (∀ wx, Kept [] w7 wx → (wx.cell? ⟨B, 0, none⟩ = some (.slice v.ta T.types.length v.tc) ∧ wx.cell? ⟨B, 1, none⟩ = some (.slice v.sa T.subs.length v.sc) ∧ wx.cell? ⟨B, 2, none⟩ = some (.slice v.ea T.ents.length v.ec) ∧ wx.cell? ⟨B, 3, none⟩ = some (.slice v.ga v.gn v.gc) ∧ wx.cell? ⟨B, 4, none⟩ = some (.slice v.ia v.im v.ic) ∧ wx.cell? ⟨BX, 0, none⟩ = some (.int .i64 x.h.region) ∧ wx.cell? ⟨BX, 1, none⟩ = some (.int .i64 x.h.after) ∧ wx.cell? ⟨BX, 2, none⟩ = some (.slice x.h.ua x.h.units.length x.h.uc) ∧ wx.cell? ⟨BX, 3, none⟩ = some (.slice x.h.sa x.h.uses.length x.h.sc) ∧ wx.cell? ⟨BX, 4, none⟩ = some (.string x.name) ∧ wx.cell? ⟨BX, 5, none⟩ = some (.slice x.wa x.want.length x.wc) ∧ Kept [] w7 wx)) := fun wx h => ⟨dT wx h 0, dT wx h 1, dT wx h 2, dT wx h 3, dT wx h 4, dX wx h 0, dX wx h 1, dX wx h 2, dX wx h 3, dX wx h 4, dX wx h 5, h⟩
      clear dT dX
      go_region_held3 (fun wx => wx.cell? ⟨B, 0, none⟩ = some (.slice v.ta T.types.length v.tc) ∧ wx.cell? ⟨B, 1, none⟩ = some (.slice v.sa T.subs.length v.sc) ∧ wx.cell? ⟨B, 2, none⟩ = some (.slice v.ea T.ents.length v.ec) ∧ wx.cell? ⟨B, 3, none⟩ = some (.slice v.ga v.gn v.gc) ∧ wx.cell? ⟨B, 4, none⟩ = some (.slice v.ia v.im v.ic) ∧ wx.cell? ⟨BX, 0, none⟩ = some (.int .i64 x.h.region) ∧ wx.cell? ⟨BX, 1, none⟩ = some (.int .i64 x.h.after) ∧ wx.cell? ⟨BX, 2, none⟩ = some (.slice x.h.ua x.h.units.length x.h.uc) ∧ wx.cell? ⟨BX, 3, none⟩ = some (.slice x.h.sa x.h.uses.length x.h.sc) ∧ wx.cell? ⟨BX, 4, none⟩ = some (.string x.name) ∧ wx.cell? ⟨BX, 5, none⟩ = some (.slice x.wa x.want.length x.wc) ∧ Kept [] w7 wx)
        (first | exact KP.out _ HK9.out | exact KP.out _ HK8.out | exact KP.out _ (Kept.drew _ _) | exact KP.out _ (Kept.refl _ _))
        (first
          | (go_at_call 16
             have hkx := (‹_ ∧ _ ∧ _ ∧ _ ∧ _ ∧ _ ∧ _ ∧ _ ∧ _ ∧ _ ∧ _ ∧ Kept [] w7 _›).2.2.2.2.2.2.2.2.2.2.2
             have hf := find_at _ v T x.h x.name (HTI.out.kept hkx) (HCI7.out.wh.kept hkx) HSZ.out HUX.out HWF.out
             unfold TabV.cells WhV.cells at hf
             refine hf.mono ?_
             rintro e w8 ⟨v8, rfl, ho8, hk8⟩
             obtain ⟨A8, c8', rfl⟩ := own_shape ho8
             have HI8 := Lib.hid (IntsC.of_owns ho8).at_
             have HK8 := Lib.hid (hkx.trans hk8)
             clear hkx hf ho8 hk8)
          | (go_at_call 21
             have hkx := (‹_ ∧ _ ∧ _ ∧ _ ∧ _ ∧ _ ∧ _ ∧ _ ∧ _ ∧ _ ∧ _ ∧ Kept [] w7 _›).2.2.2.2.2.2.2.2.2.2.2
             refine (same_any _ A8 x.wa c8' x.wc (findR T x.h x.name) x.want HI8.out.2.2.1 HI8.out.2.2.2.1 HI8.out.2.1 HCI7.out.wl HCI7.out.wm (HCI7.out.wi.kept hkx)).mono ?_
             rintro e w9 ⟨rfl, hk9⟩
             have HS9 : Hid (sameI (findR T x.h x.name) x.want = true) := by rw [Hid, HFX.out]; simp [sameI]
             rw [HS9.out]
             have HK9 := Lib.hid (hkx.trans hk9)
             clear hkx hk9))
      go_wp2_with fail
      go_roundw
      case rel => exact ⟨k + 1, by omega, by go_num, HKR.out.trans (HK7.out.trans HK9.out)⟩
      case measure => simp [intOf]; omega
    · obtain rfl : k = 8 := by omega
      clear hlt hk
      have HD : Hid (∀ W, Kept [] w6 W → (W.cell? ⟨B, 0, none⟩ = some (.slice v.ta T.types.length v.tc) ∧ W.cell? ⟨B, 1, none⟩ = some (.slice v.sa T.subs.length v.sc) ∧ W.cell? ⟨B, 2, none⟩ = some (.slice v.ea T.ents.length v.ec) ∧ W.cell? ⟨B, 3, none⟩ = some (.slice v.ga v.gn v.gc) ∧ W.cell? ⟨B, 4, none⟩ = some (.slice v.ia v.im v.ic) ∧ W.cell? ⟨BW, 0, none⟩ = some (.int .i64 19) ∧ W.cell? ⟨BW, 1, none⟩ = some (.int .i64 22) ∧ W.cell? ⟨BW, 2, none⟩ = some (.slice (some ⟨u1, 0, none⟩) 1 1) ∧ W.cell? ⟨BW, 3, none⟩ = some (.slice (some ⟨u2, 0, none⟩) 1 1) ∧ W.cell? ⟨BI, 0, none⟩ = some (.int .i64 15) ∧ W.cell? ⟨BI, 1, none⟩ = some (.int .i64 19) ∧ W.cell? ⟨BI, 2, none⟩ = some (.slice none 0 0) ∧ W.cell? ⟨BI, 3, none⟩ = some (.slice none 0 0) ∧ B < W.heap.size ∧ BW < W.heap.size ∧ BI < W.heap.size)) := fun W hk => by
        have hT := hk.obj (HK6.out.obj HBT.out (by simp)) (by simp)
        have hW := HRW.out W (HK56.out.trans hk)
        have hI := HRI.out W (HK56.out.trans hk)
        have dT : ∀ j, W.cell? ⟨B, j, none⟩ = (v.cells T)[j]? := fun j => cell_of_row _ _ _ _ _ _ hT
        have e : ∀ (b : Nat) (cs : List Value) (j : Nat) (u : Value), W.rangeAt b 0 cs → cs[j]? = some u → W.cell? ⟨b, j, none⟩ = some u := fun b cs j u h hu => by have := h j u hu; rwa [Nat.zero_add] at this
        exact ⟨dT 0, dT 1, dT 2, dT 3, dT 4, e _ _ 0 _ hW rfl, e _ _ 1 _ hW rfl, e _ _ 2 _ hW rfl, e _ _ 3 _ hW rfl, e _ _ 0 _ hI rfl, e _ _ 1 _ hI rfl, e _ _ 2 _ hI rfl, e _ _ 3 _ hI rfl, (Array.getElem?_eq_some_iff.1 hT).1, World.block_lt_of_cell? W _ (e _ _ 0 _ hW rfl), World.block_lt_of_cell? W _ (e _ _ 0 _ hI rfl)⟩
      have HE1 : Hid (selR T (whA u1 u2) 15 ⟨#[120]⟩ = [16]) := by rw [HTD.out]; exact some_sel1 kl k1 k2 u1 u2
      have HE2 : Hid (selR T (whA u1 u2) 15 ⟨#[121]⟩ = []) := by rw [HTD.out]; exact some_sel2 kl k1 k2 u1 u2
      have HE3 : Hid (selR T (whA u1 u2) 19 ⟨#[120]⟩ = [21]) := by rw [HTD.out]; exact some_sel3 kl k1 k2 u1 u2
      have HE4 : Hid (selR T whC 15 ⟨#[121]⟩ = [18]) := by rw [HTD.out]; exact some_sel4 kl k1 k2
      obtain ⟨d0, d1, d2, d3, d4, a0, a1, a2, a3, b0, b1, b2, b3, hbB, hbW, hbI⟩ := HD.out wr HKR.out
      go_wp2_with (first
          | (guard_hyp HKR
             fail_if_success guard_hyp HG1
             go_at_call 13
             refine (selA _ v T u1 u2 15 ⟨#[120]⟩ (HT2.out.kept (HK6.out.trans (HKR.out))) (HWH1.out.kept (HKR.out)) HSZ.out).mono ?_
             rintro e g1 ⟨v1, rfl, hi1, hk1⟩
             rw [HE1.out] at hi1
             obtain ⟨A1, q1, rfl, hl1, hm1, _, hj1⟩ := hi1
             have HG1 := Lib.hid (And.intro hl1 (And.intro hm1 hj1))
             have HGK1 : Hid (Kept [] w6 g1) := (HKR.out).trans hk1
             clear hl1 hm1 hj1 hk1 d0 d1 d2 d3 d4 a0 a1 a2 a3 b0 b1 b2 b3 hbB hbW hbI
             obtain ⟨d0, d1, d2, d3, d4, a0, a1, a2, a3, b0, b1, b2, b3, hbB, hbW, hbI⟩ := HD.out g1 HGK1.out
             skip)
          | (guard_hyp HG1
             fail_if_success guard_hyp HH1
             go_at_call 21
             refine (same_len _ A1 (some ⟨g1.heap.size, 0, none⟩) q1 1 [16] [16] _ _ rfl rfl HG1.out.1 HG1.out.2.1 (IntsIn.kept (w := g1) HG1.out.2.2 (Kept.alloc _ _ _)) (Nat.le_refl _) (by omega) (IntsIn.of_vals (l := [16]) (obj_new rfl))).mono ?_
             rintro e f1 ⟨rfl, hk1⟩
             have HH1 : Hid (Kept [] w6 f1) := HGK1.out.trans ((Kept.alloc _ _ _).trans hk1)
             have hs1 : sameI [16] [16] = true := by decide
             rw [hs1]
             clear hk1 hs1 d0 d1 d2 d3 d4 a0 a1 a2 a3 b0 b1 b2 b3 hbB hbW hbI
             obtain ⟨d0, d1, d2, d3, d4, a0, a1, a2, a3, b0, b1, b2, b3, hbB, hbW, hbI⟩ := HD.out f1 HH1.out
             skip)
          | (guard_hyp HH1
             fail_if_success guard_hyp HG2
             go_at_call 13
             refine (selA _ v T u1 u2 15 ⟨#[121]⟩ (HT2.out.kept (HK6.out.trans (HH1.out))) (HWH1.out.kept (HH1.out)) HSZ.out).mono ?_
             rintro e g2 ⟨v2, rfl, hi2, hk2⟩
             rw [HE2.out] at hi2
             obtain ⟨A2, q2, rfl, hl2, hm2, _, hj2⟩ := hi2
             have HG2 := Lib.hid (And.intro hl2 (And.intro hm2 hj2))
             have HGK2 : Hid (Kept [] w6 g2) := (HH1.out).trans hk2
             clear hl2 hm2 hj2 hk2 d0 d1 d2 d3 d4 a0 a1 a2 a3 b0 b1 b2 b3 hbB hbW hbI
             obtain ⟨d0, d1, d2, d3, d4, a0, a1, a2, a3, b0, b1, b2, b3, hbB, hbW, hbI⟩ := HD.out g2 HGK2.out
             skip)
          | (guard_hyp HG2
             fail_if_success guard_hyp HG3
             go_at_call 13
             refine (selA _ v T u1 u2 19 ⟨#[120]⟩ (HT2.out.kept (HK6.out.trans (HGK2.out))) (HWH1.out.kept (HGK2.out)) HSZ.out).mono ?_
             rintro e g3 ⟨v3, rfl, hi3, hk3⟩
             rw [HE3.out] at hi3
             obtain ⟨A3, q3, rfl, hl3, hm3, _, hj3⟩ := hi3
             have HG3 := Lib.hid (And.intro hl3 (And.intro hm3 hj3))
             have HGK3 : Hid (Kept [] w6 g3) := (HGK2.out).trans hk3
             clear hl3 hm3 hj3 hk3 d0 d1 d2 d3 d4 a0 a1 a2 a3 b0 b1 b2 b3 hbB hbW hbI
             obtain ⟨d0, d1, d2, d3, d4, a0, a1, a2, a3, b0, b1, b2, b3, hbB, hbW, hbI⟩ := HD.out g3 HGK3.out
             skip)
          | (guard_hyp HG3
             fail_if_success guard_hyp HH3
             go_at_call 21
             refine (same_len _ A3 (some ⟨g3.heap.size, 0, none⟩) q3 1 [21] [21] _ _ rfl rfl HG3.out.1 HG3.out.2.1 (IntsIn.kept (w := g3) HG3.out.2.2 (Kept.alloc _ _ _)) (Nat.le_refl _) (by omega) (IntsIn.of_vals (l := [21]) (obj_new rfl))).mono ?_
             rintro e f3 ⟨rfl, hk3⟩
             have HH3 : Hid (Kept [] w6 f3) := HGK3.out.trans ((Kept.alloc _ _ _).trans hk3)
             have hs3 : sameI [21] [21] = true := by decide
             rw [hs3]
             clear hk3 hs3 d0 d1 d2 d3 d4 a0 a1 a2 a3 b0 b1 b2 b3 hbB hbW hbI
             obtain ⟨d0, d1, d2, d3, d4, a0, a1, a2, a3, b0, b1, b2, b3, hbB, hbW, hbI⟩ := HD.out f3 HH3.out
             skip)
          | (guard_hyp HH3
             fail_if_success guard_hyp HG4
             go_at_call 13
             refine (selC _ v T 15 ⟨#[121]⟩ (HT2.out.kept (HK6.out.trans (HH3.out))) (HWH3.out.kept (HH3.out)) HSZ.out).mono ?_
             rintro e g4 ⟨v4, rfl, hi4, hk4⟩
             rw [HE4.out] at hi4
             obtain ⟨A4, q4, rfl, hl4, hm4, _, hj4⟩ := hi4
             have HG4 := Lib.hid (And.intro hl4 (And.intro hm4 hj4))
             have HGK4 : Hid (Kept [] w6 g4) := (HH3.out).trans hk4
             clear hl4 hm4 hj4 hk4 d0 d1 d2 d3 d4 a0 a1 a2 a3 b0 b1 b2 b3 hbB hbW hbI
             obtain ⟨d0, d1, d2, d3, d4, a0, a1, a2, a3, b0, b1, b2, b3, hbB, hbW, hbI⟩ := HD.out g4 HGK4.out
             skip)
          | (guard_hyp HG4
             fail_if_success guard_hyp HH4
             go_at_call 21
             refine (same_len _ A4 (some ⟨g4.heap.size, 0, none⟩) q4 1 [18] [18] _ _ rfl rfl HG4.out.1 HG4.out.2.1 (IntsIn.kept (w := g4) HG4.out.2.2 (Kept.alloc _ _ _)) (Nat.le_refl _) (by omega) (IntsIn.of_vals (l := [18]) (obj_new rfl))).mono ?_
             rintro e f4 ⟨rfl, hk4⟩
             have HH4 : Hid (Kept [] w6 f4) := HGK4.out.trans ((Kept.alloc _ _ _).trans hk4)
             have hs4 : sameI [18] [18] = true := by decide
             rw [hs4]
             clear hk4 hs4 d0 d1 d2 d3 d4 a0 a1 a2 a3 b0 b1 b2 b3 hbB hbW hbI
             obtain ⟨d0, d1, d2, d3, d4, a0, a1, a2, a3, b0, b1, b2, b3, hbB, hbW, hbI⟩ := HD.out f4 HH4.out
             skip))
      go_ret
      exact ⟨rfl, HK2.out.trans (HK6.out.trans HH4.out)⟩
end Go.Proofs.Ytlgcboaojdhneaa
