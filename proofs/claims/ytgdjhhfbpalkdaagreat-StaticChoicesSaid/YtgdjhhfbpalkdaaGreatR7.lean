/- The reference: member, raw, value. -/
import Derived.Test.YtgdjhhfbpalkdaaGreatR6
namespace Go.Proofs.YtgdjhhfbpalkdaaGreat
open Go.RowKit
/-- Whether a value is a member; if it is not known, a number that says nothing. -/
def RetM (o : Option Bool) (w : World) (e : Ending) (w' : World) : Prop := ∃ z : Int, e = .returned (.tuple #[.int .i64 z, .bool o.isSome]) ∧ (∀ b, o = some b → z = truthP b) ∧ 0 ≤ z ∧ z ≤ 1 ∧ Kept [] w w'
def RetR (o : Option Int) (w : World) (e : Ending) (w' : World) : Prop := ∃ z : Int, e = .returned (.tuple #[.int .i64 z, .bool o.isSome]) ∧ (∀ u, o = some u → z = u) ∧ Kept [] w w'
theorem truth_bd (b : Bool) : 0 ≤ truthP b ∧ truthP b ≤ 1 := by cases b <;> decide
theorem bodyPost_m {P : Program} {fn : Func} {a : Act} {o : Option Bool} {z : Int} {w w' : World} (hd : a.defers = []) (hr : (results fn a.tmps).run P w' = .ok (.tuple #[.int .i64 z, .bool o.isSome]) w') (h1 : ∀ b, o = some b → z = truthP b) (h2 : 0 ≤ z ∧ z ≤ 1) (hk : Kept [] w w') : bodyPost P fn (RetM o w) .ret a w' :=
  bodyPost_ret hr hd ⟨z, rfl, h1, h2.1, h2.2, hk⟩
theorem bodyPost_r {P : Program} {fn : Func} {a : Act} {o : Option Int} {z : Int} {w w' : World} (hd : a.defers = []) (hr : (results fn a.tmps).run P w' = .ok (.tuple #[.int .i64 z, .bool o.isSome]) w') (h1 : ∀ u, o = some u → z = u) (hk : Kept [] w w') : bodyPost P fn (RetR o w) .ret a w' :=
  bodyPost_ret hr hd ⟨z, rfl, h1, hk⟩
theorem mem_no0 {V : ExV → Option Int} {t : Tab} {x : ExV} (h : V (l0 x) = none) : memV V t x = none := by unfold memV; rw [h]
theorem mem_two {V : ExV → Option Int} {t : Tab} {x : ExV} {u lo hi : Int} {a : Bd} (h : V (l0 x) = some u) (hl : x.ls.length = 2) (hm : markP t (l1 x) = some ((lo, hi), a)) : memV V t x = some (decide (lo ≤ u) && decide (u ≤ hi)) := by
  unfold memV
  rw [h]
  simp only
  rw [if_pos hl, hm]
theorem mem_no1 {V : ExV → Option Int} {t : Tab} {x : ExV} {u : Int} (h : V (l0 x) = some u) (hl : x.ls.length ≠ 2) (h1 : V (l1 x) = none) : memV V t x = none := by
  unfold memV
  rw [h]
  simp only
  rw [if_neg hl, h1]
theorem mem_no2 {V : ExV → Option Int} {t : Tab} {x : ExV} {u lo : Int} (h : V (l0 x) = some u) (hl : x.ls.length ≠ 2) (h1 : V (l1 x) = some lo) (h2 : V (l2 x) = none) : memV V t x = none := by
  unfold memV
  rw [h]
  simp only
  rw [if_neg hl, h1]
  simp only
  rw [h2]
theorem mem_three {V : ExV → Option Int} {t : Tab} {x : ExV} {u lo hi : Int} (h : V (l0 x) = some u) (hl : x.ls.length ≠ 2) (h1 : V (l1 x) = some lo) (h2 : V (l2 x) = some hi) : memV V t x = some (decide (lo ≤ u) && decide (u ≤ hi)) := by
  unfold memV
  rw [h]
  simp only
  rw [if_neg hl, h1]
  simp only
  rw [h2]
theorem in_three' {I : ExV → Bool} {t : Tab} {x : ExV} (h : inF I t x = true) (hl : x.ls.length ≠ 2) : x.ls.length = 3 ∧ I (l0 x) = true ∧ I (l1 x) = true ∧ I (l2 x) = true := by
  rw [in_three hl] at h
  unfold allF at h
  rw [Bool.and_eq_true, decide_eq_true_eq] at h
  obtain ⟨h1, h2⟩ := h
  have hm := List.all_eq_true.1 h2
  have e : ∀ k, k < 3 → x.ls.getD k default ∈ x.ls := fun k hk => by
    have hk' : k < x.ls.length := by omega
    simp [List.getD_eq_getElem?_getD, hk']
  exact ⟨h1, hm _ (e 0 (by omega)), hm _ (e 1 (by omega)), hm _ (e 2 (by omega))⟩
theorem in_two' {I : ExV → Bool} {t : Tab} {x : ExV} (h : inF I t x = true) (hl : x.ls.length = 2) : I (l0 x) = true ∧ ∃ b a, markP t (l1 x) = some (b, a) := by
  rw [in_two hl, markX_ok, Bool.and_eq_true] at h
  obtain ⟨⟨b, a⟩, hb⟩ := Option.isSome_iff_exists.1 h.1
  exact ⟨h.2, b, a, hb⟩
set_option maxRecDepth 100000 in
set_option maxHeartbeats 4000000 in
theorem rmember_any (w : World) (v : TabV) (t : Tab) (x : ExV) (n : Nat) (ih : ValR v t n) (hT : TabIn w v t) (hx : ExIn w (n + 1) x) (hI : inF (isP t n) t x = true) : Calls Tryz.prog 77 #[.agg (v.cells t), .agg x.cells.toArray] w (RetM (memV (valP t n) t x) w) := by
  have q1 := hx.2.2.2.2.1
  have HMK := Lib.hid (fun w' y (hk : Kept [] w w') => rMark_any w' v t y (hT.kept hk))
  unfold TabV.cells at HMK
  unfold rmV at HMK
  by_cases hl : x.ls.length = 2
  · obtain ⟨hI0, ⟨lo, hi⟩, a, hm⟩ := in_two' hI hl
    obtain ⟨b0, o0, ha, hat0, hat1, hi0, hi1⟩ := ex_second hx (by omega)
    have HS := Lib.hid (fun w' (hk : Kept [] w w') => ih w' (l0 x) (hT.kept hk) (hi0.kept hk) hI0)
    have HN := Lib.hid (fun h => mem_no0 (V := valP t n) (t := t) (x := x) h)
    have HY := Lib.hid (fun u h => mem_two (V := valP t n) (t := t) (x := x) (u := u) h hl hm)
    obtain ⟨k, s, hrm, hs, hbd, _⟩ := mark_at hm
    obtain ⟨s', bs, os, hs', hsa, hsat, _⟩ := tab_sub hT (List.getElem?_eq_some_iff.1 hs).1
    obtain rfl : s' = s := by rw [hs] at hs'; exact (Option.some.inj hs').symm
    obtain ⟨rfl, rfl⟩ : lo = s'.lo ∧ hi = s'.hi := by injection hbd with h1 h2; exact ⟨h1, h2⟩
    have h2 : (k : Int) < (t.subs.length : Int) := by have := (List.getElem?_eq_some_iff.1 hs).1; omega
    have HMK2 := Lib.hid (fun w' (hk : Kept [] w w') => HMK.out w' (l1 x) hk)
    rw [hrm] at HMK2
    unfold TabV.cells at HS
    unfold TabV.cells
    rw [hsa] at HMK2 HS
    have hl2 : ((x.ls.length : Int) == 2) = true := by simp; omega
    have hl3 : (1 : Int) < (x.ls.length : Int) := by omega
    have hl4 : (0 : Int) < (x.ls.length : Int) := by omega
    clear hT hx ih hI hI0 hi0 hi1 hs hs' hrm hm hbd hl HMK
    generalize l0 x = y at *
    generalize l1 x = z at *
    generalize memV (valP t n) t x = R at *
    generalize valP t n y = o at *
    go_enter Tryz.func77, Tryz.ntmps77
    go_wp2_with fail
    cases o with
    | none =>
      have HW := Lib.hid (HN.out rfl)
      unfold ovV at HS
      simp only [Option.getD_none, Option.isSome_none] at HS
      refine wp_region_head 11 0 (fun _ => .cells #[] 0) (by kernel_rfl) (by kernel_rfl) (fun i o h1 h2 => by omega) (fun _ _ _ _ _ h => h) ?_; apply Exists.intro; refine ⟨fun U hU hN => ?_, ?_⟩; simp only [List.take_succ_cons, List.take_zero]
      · repeat (go_big_quiet_step (exact Calls.headV hU (HS.out _ (Kept.trans (by repeat (first | with_reducible exact HK.out | with_reducible exact Kept.refl _ _ | with_reducible refine Kept.prev ?_ | with_reducible refine Kept.alloc' ?_ _ | with_reducible refine Kept.drew' ?_ | with_reducible refine Kept.setB ?_ _ _ _ (by omega) | with_reducible refine Kept.row' ?_ _ _ (by omega) | with_reducible refine Kept.map' ?_ _ _ (by omega))) (AfterU.prop _)))))
        refine wpQuiet_nil ?_
        exact rfl
      simp only [List.drop_succ_cons, List.drop_zero, List.take_zero]
      intro w4 hk_w4 _
      haveI p_w4 : PrevWorld w4 _ := ⟨hk_w4⟩
      clear hk_w4
      go_wp2_with fail
      rw [HW.out]
      exact bodyPost_m rfl (res2 Tryz.results77 (resT rfl) (resT rfl)) (fun b h => by cases h) (by decide) (by repeat (first | with_reducible exact HK.out | with_reducible exact Kept.refl _ _ | with_reducible refine Kept.prev ?_ | with_reducible refine Kept.alloc' ?_ _ | with_reducible refine Kept.drew' ?_ | with_reducible refine Kept.setB ?_ _ _ _ (by omega) | with_reducible refine Kept.row' ?_ _ _ (by omega) | with_reducible refine Kept.map' ?_ _ _ (by omega)))
    | some u =>
      have HW1 := Lib.hid (HY.out u rfl)
      unfold ovV at HS
      simp only [Option.getD_some, Option.isSome_some] at HS
      clear HN HY
      refine wp_region_head 11 0 (fun _ => .cells #[] 0) (by kernel_rfl) (by kernel_rfl) (fun i o h1 h2 => by omega) (fun _ _ _ _ _ h => h) ?_; apply Exists.intro; refine ⟨fun U hU hN => ?_, ?_⟩; simp only [List.take_succ_cons, List.take_zero]
      · repeat (go_big_quiet_step (exact Calls.headV hU (HS.out _ (Kept.trans (by repeat (first | with_reducible exact HK.out | with_reducible exact Kept.refl _ _ | with_reducible refine Kept.prev ?_ | with_reducible refine Kept.alloc' ?_ _ | with_reducible refine Kept.drew' ?_ | with_reducible refine Kept.setB ?_ _ _ _ (by omega) | with_reducible refine Kept.row' ?_ _ _ (by omega) | with_reducible refine Kept.map' ?_ _ _ (by omega))) (AfterU.prop _)))))
        refine wpQuiet_nil ?_
        exact rfl
      simp only [List.drop_succ_cons, List.drop_zero, List.take_zero]
      intro w4 hk_w4 _
      haveI p_w4 : PrevWorld w4 _ := ⟨hk_w4⟩
      clear hk_w4
      clear HS
      go_wp2_with fail
      refine wp_region_head 11 0 (fun _ => .cells #[] 0) (by kernel_rfl) (by kernel_rfl) (fun i o h1 h2 => by omega) (fun _ _ _ _ _ h => h) ?_; apply Exists.intro; refine ⟨fun U hU hN => ?_, ?_⟩; simp only [List.take_succ_cons, List.take_zero]
      · repeat (go_big_quiet_step (exact Calls.headV hU (HMK2.out _ (Kept.trans (by repeat (first | with_reducible exact HK.out | with_reducible exact Kept.refl _ _ | with_reducible refine Kept.prev ?_ | with_reducible refine Kept.alloc' ?_ _ | with_reducible refine Kept.drew' ?_ | with_reducible refine Kept.setB ?_ _ _ _ (by omega) | with_reducible refine Kept.row' ?_ _ _ (by omega) | with_reducible refine Kept.map' ?_ _ _ (by omega))) (AfterU.prop _)))))
        refine wpQuiet_nil ?_
        exact rfl
      simp only [List.drop_succ_cons, List.drop_zero, List.take_zero]
      intro w5 hk_w5 _
      haveI p_w5 : PrevWorld w5 _ := ⟨hk_w5⟩
      clear hk_w5
      clear HMK2
      by_cases c1 : s'.lo ≤ u
      · have HW : Hid (R = some (decide (u ≤ s'.hi))) := by rw [Hid, HW1.out, decide_eq_true c1, Bool.true_and]
        clear HW1
        go_wp2_with fail
        refine (rtruth_any _ _).mono ?_; rintro e w6 ⟨rfl, hk_w6⟩; haveI p_w6 : PrevWorld w6 _ := ⟨hk_w6⟩; have hz_w6 : w.heap.size ≤ w6.heap.size := Kept.size (by repeat (first | with_reducible exact HK.out | with_reducible exact Kept.refl _ _ | with_reducible refine Kept.prev ?_ | with_reducible refine Kept.alloc' ?_ _ | with_reducible refine Kept.drew' ?_ | with_reducible refine Kept.setB ?_ _ _ _ (by omega) | with_reducible refine Kept.row' ?_ _ _ (by omega) | with_reducible refine Kept.map' ?_ _ _ (by omega))); clear hk_w6
        go_wp2_with fail
        rw [HW.out]
        exact bodyPost_m rfl (res2 Tryz.results77 (resT rfl) (resT rfl)) (fun b h => by cases h; rfl) (truth_bd _) (by repeat (first | with_reducible exact HK.out | with_reducible exact Kept.refl _ _ | with_reducible refine Kept.prev ?_ | with_reducible refine Kept.alloc' ?_ _ | with_reducible refine Kept.drew' ?_ | with_reducible refine Kept.setB ?_ _ _ _ (by omega) | with_reducible refine Kept.row' ?_ _ _ (by omega) | with_reducible refine Kept.map' ?_ _ _ (by omega)))
      · have HW : Hid (R = some false) := by rw [Hid, HW1.out, decide_eq_false c1, Bool.false_and]
        have c2 : decide (s'.lo ≤ u) = false := decide_eq_false c1
        clear HW1 c1
        go_wp2_with fail
        refine (rtruth_any _ _).mono ?_; rintro e w6 ⟨rfl, hk_w6⟩; haveI p_w6 : PrevWorld w6 _ := ⟨hk_w6⟩; have hz_w6 : w.heap.size ≤ w6.heap.size := Kept.size (by repeat (first | with_reducible exact HK.out | with_reducible exact Kept.refl _ _ | with_reducible refine Kept.prev ?_ | with_reducible refine Kept.alloc' ?_ _ | with_reducible refine Kept.drew' ?_ | with_reducible refine Kept.setB ?_ _ _ _ (by omega) | with_reducible refine Kept.row' ?_ _ _ (by omega) | with_reducible refine Kept.map' ?_ _ _ (by omega))); clear hk_w6
        go_wp2_with fail
        rw [HW.out]
        exact bodyPost_m rfl (res2 Tryz.results77 (resT rfl) (resT rfl)) (fun b h => by cases h; rfl) (truth_bd _) (by repeat (first | with_reducible exact HK.out | with_reducible exact Kept.refl _ _ | with_reducible refine Kept.prev ?_ | with_reducible refine Kept.alloc' ?_ _ | with_reducible refine Kept.drew' ?_ | with_reducible refine Kept.setB ?_ _ _ _ (by omega) | with_reducible refine Kept.row' ?_ _ _ (by omega) | with_reducible refine Kept.map' ?_ _ _ (by omega)))
  obtain ⟨hl', hI0, hI1, hI2⟩ := in_three' hI hl
  obtain ⟨b0, o0, ha, hat0, hat1, hat2, hi0, hi1, hi2⟩ := ex_third hx (by omega)
  have HS0 := Lib.hid (fun w' (hk : Kept [] w w') => ih w' (l0 x) (hT.kept hk) (hi0.kept hk) hI0)
  have HS1 := Lib.hid (fun w' (hk : Kept [] w w') => ih w' (l1 x) (hT.kept hk) (hi1.kept hk) hI1)
  have HS2 := Lib.hid (fun w' (hk : Kept [] w w') => ih w' (l2 x) (hT.kept hk) (hi2.kept hk) hI2)
  have HN0 := Lib.hid (fun h => mem_no0 (V := valP t n) (t := t) (x := x) h)
  have HN1 := Lib.hid (fun u h h1 => mem_no1 (V := valP t n) (t := t) (x := x) (u := u) h hl h1)
  have HN2 := Lib.hid (fun u lo h h1 h2 => mem_no2 (V := valP t n) (t := t) (x := x) (u := u) (lo := lo) h hl h1 h2)
  have HY := Lib.hid (fun u lo hi h h1 h2 => mem_three (V := valP t n) (t := t) (x := x) (u := u) (lo := lo) (hi := hi) h hl h1 h2)
  unfold TabV.cells at HS0 HS1 HS2
  unfold TabV.cells
  have hl2 : ((x.ls.length : Int) == 2) = false := by simp; omega
  have hl3 : (1 : Int) < (x.ls.length : Int) := by omega
  have hl4 : (0 : Int) < (x.ls.length : Int) := by omega
  have hl5 : (2 : Int) < (x.ls.length : Int) := by omega
  clear hT hx ih hI hI0 hI1 hI2 hi0 hi1 hi2 hl hl' HMK
  unfold ovV at HS0 HS1 HS2
  generalize l0 x = y0 at *
  generalize l1 x = y1 at *
  generalize l2 x = y2 at *
  generalize memV (valP t n) t x = R at *
  generalize valP t n y0 = o0 at *
  generalize valP t n y1 = o1 at *
  generalize valP t n y2 = o2 at *
  go_enter Tryz.func77, Tryz.ntmps77
  go_wp2_with fail
  cases o0 with
  | none =>
    have HW := Lib.hid (HN0.out rfl)
    simp only [Option.getD_none, Option.isSome_none] at HS0
    refine wp_region_head 11 0 (fun _ => .cells #[] 0) (by kernel_rfl) (by kernel_rfl) (fun i o h1 h2 => by omega) (fun _ _ _ _ _ h => h) ?_; apply Exists.intro; refine ⟨fun U hU hN => ?_, ?_⟩; simp only [List.take_succ_cons, List.take_zero]
    · repeat (go_big_quiet_step (exact Calls.headV hU (HS0.out _ (Kept.trans (by repeat (first | with_reducible exact HK.out | with_reducible exact Kept.refl _ _ | with_reducible refine Kept.prev ?_ | with_reducible refine Kept.alloc' ?_ _ | with_reducible refine Kept.drew' ?_ | with_reducible refine Kept.setB ?_ _ _ _ (by omega) | with_reducible refine Kept.row' ?_ _ _ (by omega) | with_reducible refine Kept.map' ?_ _ _ (by omega))) (AfterU.prop _)))))
      refine wpQuiet_nil ?_
      exact rfl
    simp only [List.drop_succ_cons, List.drop_zero, List.take_zero]
    intro w4 hk_w4 _
    haveI p_w4 : PrevWorld w4 _ := ⟨hk_w4⟩
    clear hk_w4
    go_wp2_with fail
    rw [HW.out]
    exact bodyPost_m rfl (res2 Tryz.results77 (resT rfl) (resT rfl)) (fun b h => by cases h) (by decide) (by repeat (first | with_reducible exact HK.out | with_reducible exact Kept.refl _ _ | with_reducible refine Kept.prev ?_ | with_reducible refine Kept.alloc' ?_ _ | with_reducible refine Kept.drew' ?_ | with_reducible refine Kept.setB ?_ _ _ _ (by omega) | with_reducible refine Kept.row' ?_ _ _ (by omega) | with_reducible refine Kept.map' ?_ _ _ (by omega)))
  | some u =>
    simp only [Option.getD_some, Option.isSome_some] at HS0
    refine wp_region_head 11 0 (fun _ => .cells #[] 0) (by kernel_rfl) (by kernel_rfl) (fun i o h1 h2 => by omega) (fun _ _ _ _ _ h => h) ?_; apply Exists.intro; refine ⟨fun U hU hN => ?_, ?_⟩; simp only [List.take_succ_cons, List.take_zero]
    · repeat (go_big_quiet_step (exact Calls.headV hU (HS0.out _ (Kept.trans (by repeat (first | with_reducible exact HK.out | with_reducible exact Kept.refl _ _ | with_reducible refine Kept.prev ?_ | with_reducible refine Kept.alloc' ?_ _ | with_reducible refine Kept.drew' ?_ | with_reducible refine Kept.setB ?_ _ _ _ (by omega) | with_reducible refine Kept.row' ?_ _ _ (by omega) | with_reducible refine Kept.map' ?_ _ _ (by omega))) (AfterU.prop _)))))
      refine wpQuiet_nil ?_
      exact rfl
    simp only [List.drop_succ_cons, List.drop_zero, List.take_zero]
    intro w4 hk_w4 _
    haveI p_w4 : PrevWorld w4 _ := ⟨hk_w4⟩
    clear hk_w4
    clear HS0 HN0
    go_wp2_with fail
    cases o1 with
    | none =>
      have HW := Lib.hid (HN1.out u rfl rfl)
      simp only [Option.getD_none, Option.isSome_none] at HS1
      refine wp_region_head 11 0 (fun _ => .cells #[] 0) (by kernel_rfl) (by kernel_rfl) (fun i o h1 h2 => by omega) (fun _ _ _ _ _ h => h) ?_; apply Exists.intro; refine ⟨fun U hU hN => ?_, ?_⟩; simp only [List.take_succ_cons, List.take_zero]
      · repeat (go_big_quiet_step (exact Calls.headV hU (HS1.out _ (Kept.trans (by repeat (first | with_reducible exact HK.out | with_reducible exact Kept.refl _ _ | with_reducible refine Kept.prev ?_ | with_reducible refine Kept.alloc' ?_ _ | with_reducible refine Kept.drew' ?_ | with_reducible refine Kept.setB ?_ _ _ _ (by omega) | with_reducible refine Kept.row' ?_ _ _ (by omega) | with_reducible refine Kept.map' ?_ _ _ (by omega))) (AfterU.prop _)))))
        refine wpQuiet_nil ?_
        exact rfl
      simp only [List.drop_succ_cons, List.drop_zero, List.take_zero]
      intro w5 hk_w5 _
      haveI p_w5 : PrevWorld w5 _ := ⟨hk_w5⟩
      clear hk_w5
      go_wp2_with fail
      rw [HW.out]
      exact bodyPost_m rfl (res2 Tryz.results77 (resT rfl) (resT rfl)) (fun b h => by cases h) (by decide) (by repeat (first | with_reducible exact HK.out | with_reducible exact Kept.refl _ _ | with_reducible refine Kept.prev ?_ | with_reducible refine Kept.alloc' ?_ _ | with_reducible refine Kept.drew' ?_ | with_reducible refine Kept.setB ?_ _ _ _ (by omega) | with_reducible refine Kept.row' ?_ _ _ (by omega) | with_reducible refine Kept.map' ?_ _ _ (by omega)))
    | some lo =>
      simp only [Option.getD_some, Option.isSome_some] at HS1
      refine wp_region_head 11 0 (fun _ => .cells #[] 0) (by kernel_rfl) (by kernel_rfl) (fun i o h1 h2 => by omega) (fun _ _ _ _ _ h => h) ?_; apply Exists.intro; refine ⟨fun U hU hN => ?_, ?_⟩; simp only [List.take_succ_cons, List.take_zero]
      · repeat (go_big_quiet_step (exact Calls.headV hU (HS1.out _ (Kept.trans (by repeat (first | with_reducible exact HK.out | with_reducible exact Kept.refl _ _ | with_reducible refine Kept.prev ?_ | with_reducible refine Kept.alloc' ?_ _ | with_reducible refine Kept.drew' ?_ | with_reducible refine Kept.setB ?_ _ _ _ (by omega) | with_reducible refine Kept.row' ?_ _ _ (by omega) | with_reducible refine Kept.map' ?_ _ _ (by omega))) (AfterU.prop _)))))
        refine wpQuiet_nil ?_
        exact rfl
      simp only [List.drop_succ_cons, List.drop_zero, List.take_zero]
      intro w5 hk_w5 _
      haveI p_w5 : PrevWorld w5 _ := ⟨hk_w5⟩
      clear hk_w5
      clear HS1 HN1
      go_wp2_with fail
      cases o2 with
      | none =>
        have HW := Lib.hid (HN2.out u lo rfl rfl rfl)
        simp only [Option.getD_none, Option.isSome_none] at HS2
        refine wp_region_head 11 0 (fun _ => .cells #[] 0) (by kernel_rfl) (by kernel_rfl) (fun i o h1 h2 => by omega) (fun _ _ _ _ _ h => h) ?_; apply Exists.intro; refine ⟨fun U hU hN => ?_, ?_⟩; simp only [List.take_succ_cons, List.take_zero]
        · repeat (go_big_quiet_step (exact Calls.headV hU (HS2.out _ (Kept.trans (by repeat (first | with_reducible exact HK.out | with_reducible exact Kept.refl _ _ | with_reducible refine Kept.prev ?_ | with_reducible refine Kept.alloc' ?_ _ | with_reducible refine Kept.drew' ?_ | with_reducible refine Kept.setB ?_ _ _ _ (by omega) | with_reducible refine Kept.row' ?_ _ _ (by omega) | with_reducible refine Kept.map' ?_ _ _ (by omega))) (AfterU.prop _)))))
          refine wpQuiet_nil ?_
          exact rfl
        simp only [List.drop_succ_cons, List.drop_zero, List.take_zero]
        intro w6 hk_w6 _
        haveI p_w6 : PrevWorld w6 _ := ⟨hk_w6⟩
        clear hk_w6
        clear HS2
        by_cases c1 : lo ≤ u
        · go_wp2_with fail
          refine (rtruth_any _ _).mono ?_; rintro e w7 ⟨rfl, hk_w7⟩; haveI p_w7 : PrevWorld w7 _ := ⟨hk_w7⟩; have hz_w7 : w.heap.size ≤ w7.heap.size := Kept.size (by repeat (first | with_reducible exact HK.out | with_reducible exact Kept.refl _ _ | with_reducible refine Kept.prev ?_ | with_reducible refine Kept.alloc' ?_ _ | with_reducible refine Kept.drew' ?_ | with_reducible refine Kept.setB ?_ _ _ _ (by omega) | with_reducible refine Kept.row' ?_ _ _ (by omega) | with_reducible refine Kept.map' ?_ _ _ (by omega))); clear hk_w7
          go_wp2_with fail
          rw [HW.out]
          exact bodyPost_m rfl (res2 Tryz.results77 (resT rfl) (resT rfl)) (fun b h => by cases h) (truth_bd _) (by repeat (first | with_reducible exact HK.out | with_reducible exact Kept.refl _ _ | with_reducible refine Kept.prev ?_ | with_reducible refine Kept.alloc' ?_ _ | with_reducible refine Kept.drew' ?_ | with_reducible refine Kept.setB ?_ _ _ _ (by omega) | with_reducible refine Kept.row' ?_ _ _ (by omega) | with_reducible refine Kept.map' ?_ _ _ (by omega)))
        · have c3 : decide (lo ≤ u) = false := decide_eq_false c1
          clear c1
          go_wp2_with fail
          refine (rtruth_any _ _).mono ?_; rintro e w7 ⟨rfl, hk_w7⟩; haveI p_w7 : PrevWorld w7 _ := ⟨hk_w7⟩; have hz_w7 : w.heap.size ≤ w7.heap.size := Kept.size (by repeat (first | with_reducible exact HK.out | with_reducible exact Kept.refl _ _ | with_reducible refine Kept.prev ?_ | with_reducible refine Kept.alloc' ?_ _ | with_reducible refine Kept.drew' ?_ | with_reducible refine Kept.setB ?_ _ _ _ (by omega) | with_reducible refine Kept.row' ?_ _ _ (by omega) | with_reducible refine Kept.map' ?_ _ _ (by omega))); clear hk_w7
          go_wp2_with fail
          rw [HW.out]
          exact bodyPost_m rfl (res2 Tryz.results77 (resT rfl) (resT rfl)) (fun b h => by cases h) (truth_bd _) (by repeat (first | with_reducible exact HK.out | with_reducible exact Kept.refl _ _ | with_reducible refine Kept.prev ?_ | with_reducible refine Kept.alloc' ?_ _ | with_reducible refine Kept.drew' ?_ | with_reducible refine Kept.setB ?_ _ _ _ (by omega) | with_reducible refine Kept.row' ?_ _ _ (by omega) | with_reducible refine Kept.map' ?_ _ _ (by omega)))
      | some hi =>
        have HW1 := Lib.hid (HY.out u lo hi rfl rfl rfl)
        simp only [Option.getD_some, Option.isSome_some] at HS2
        refine wp_region_head 11 0 (fun _ => .cells #[] 0) (by kernel_rfl) (by kernel_rfl) (fun i o h1 h2 => by omega) (fun _ _ _ _ _ h => h) ?_; apply Exists.intro; refine ⟨fun U hU hN => ?_, ?_⟩; simp only [List.take_succ_cons, List.take_zero]
        · repeat (go_big_quiet_step (exact Calls.headV hU (HS2.out _ (Kept.trans (by repeat (first | with_reducible exact HK.out | with_reducible exact Kept.refl _ _ | with_reducible refine Kept.prev ?_ | with_reducible refine Kept.alloc' ?_ _ | with_reducible refine Kept.drew' ?_ | with_reducible refine Kept.setB ?_ _ _ _ (by omega) | with_reducible refine Kept.row' ?_ _ _ (by omega) | with_reducible refine Kept.map' ?_ _ _ (by omega))) (AfterU.prop _)))))
          refine wpQuiet_nil ?_
          exact rfl
        simp only [List.drop_succ_cons, List.drop_zero, List.take_zero]
        intro w6 hk_w6 _
        haveI p_w6 : PrevWorld w6 _ := ⟨hk_w6⟩
        clear hk_w6
        clear HS2
        by_cases c1 : lo ≤ u
        · have HW : Hid (R = some (decide (u ≤ hi))) := by rw [Hid, HW1.out, decide_eq_true c1, Bool.true_and]
          go_wp2_with fail
          refine (rtruth_any _ _).mono ?_; rintro e w7 ⟨rfl, hk_w7⟩; haveI p_w7 : PrevWorld w7 _ := ⟨hk_w7⟩; have hz_w7 : w.heap.size ≤ w7.heap.size := Kept.size (by repeat (first | with_reducible exact HK.out | with_reducible exact Kept.refl _ _ | with_reducible refine Kept.prev ?_ | with_reducible refine Kept.alloc' ?_ _ | with_reducible refine Kept.drew' ?_ | with_reducible refine Kept.setB ?_ _ _ _ (by omega) | with_reducible refine Kept.row' ?_ _ _ (by omega) | with_reducible refine Kept.map' ?_ _ _ (by omega))); clear hk_w7
          go_wp2_with fail
          rw [HW.out]
          exact bodyPost_m rfl (res2 Tryz.results77 (resT rfl) (resT rfl)) (fun b h => by cases h; rfl) (truth_bd _) (by repeat (first | with_reducible exact HK.out | with_reducible exact Kept.refl _ _ | with_reducible refine Kept.prev ?_ | with_reducible refine Kept.alloc' ?_ _ | with_reducible refine Kept.drew' ?_ | with_reducible refine Kept.setB ?_ _ _ _ (by omega) | with_reducible refine Kept.row' ?_ _ _ (by omega) | with_reducible refine Kept.map' ?_ _ _ (by omega)))
        · have HW : Hid (R = some false) := by rw [Hid, HW1.out, decide_eq_false c1, Bool.false_and]
          have c3 : decide (lo ≤ u) = false := decide_eq_false c1
          clear c1
          go_wp2_with fail
          refine (rtruth_any _ _).mono ?_; rintro e w7 ⟨rfl, hk_w7⟩; haveI p_w7 : PrevWorld w7 _ := ⟨hk_w7⟩; have hz_w7 : w.heap.size ≤ w7.heap.size := Kept.size (by repeat (first | with_reducible exact HK.out | with_reducible exact Kept.refl _ _ | with_reducible refine Kept.prev ?_ | with_reducible refine Kept.alloc' ?_ _ | with_reducible refine Kept.drew' ?_ | with_reducible refine Kept.setB ?_ _ _ _ (by omega) | with_reducible refine Kept.row' ?_ _ _ (by omega) | with_reducible refine Kept.map' ?_ _ _ (by omega))); clear hk_w7
          go_wp2_with fail
          rw [HW.out]
          exact bodyPost_m rfl (res2 Tryz.results77 (resT rfl) (resT rfl)) (fun b h => by cases h; rfl) (truth_bd _) (by repeat (first | with_reducible exact HK.out | with_reducible exact Kept.refl _ _ | with_reducible refine Kept.prev ?_ | with_reducible refine Kept.alloc' ?_ _ | with_reducible refine Kept.drew' ?_ | with_reducible refine Kept.setB ?_ _ _ _ (by omega) | with_reducible refine Kept.row' ?_ _ _ (by omega) | with_reducible refine Kept.map' ?_ _ _ (by omega)))
end Go.Proofs.YtgdjhhfbpalkdaaGreat
