/- raw of a call. Regions that draw their order, in which one call gives what no one foresees: heads around it, the rest behind it. -/
import Derived.Test.YtgdjhhfbpalkdaaGreatV10
namespace Go.Proofs.YtgdjhhfbpalkdaaGreat
open Go.RowKit

theorem shift_bd {s : ByteArray} {k : Int} {c : Bool} (h : shiftP s = some (k, c)) : -1 ≤ k ∧ k ≤ 1 := by
  unfold shiftP at h
  split at h
  · cases h; omega
  split at h
  · cases h; omega
  split at h
  · cases h; omega
  split at h
  · cases h; omega
  · cases h
theorem argued_bd {t : Tab} {x : ExV} {s : Int × Bool} {a : Bd} (h : arguedP t x = some (s, a)) : -1 ≤ s.1 ∧ s.1 ≤ 1 := by
  unfold arguedP at h
  split at h
  · split at h
    · cases h
    · rename_i r hr
      split at h
      · split at h
        · split at h
          · cases h
          · cases h
            obtain ⟨k, c⟩ := s
            exact shift_bd hr
        · cases h
      · cases h
  · cases h
set_option maxRecDepth 100000 in
set_option maxHeartbeats 4000000 in
theorem raw_call (w : World) (v : TabV) (t : Tab) (x : ExV) (n : Nat) (ih : ValAt v t n) (hT : TabIn w v t) (hx : ExIn w (n + 1) x) (hI : callF (isP t n) t x = true) (hk : x.kind = 7) : RawIs w v t x n := by
  unfold RawIs
  have h1 : x.ls.length = 1 := by
    by_cases h : x.ls.length = 1
    · exact h
    · rw [call_no1 h] at hI; cases hI
  have h2 : x.al.length = 1 := by
    by_cases h : x.al.length = 1
    · exact h
    · rw [call_no2 h] at hI; cases hI
  rw [call_yes h1 h2] at hI
  simp only [Bool.and_eq_true] at hI
  obtain ⟨hI1, hI2⟩ := hI
  obtain ⟨b0, o0, ha, hat, hia⟩ := as_at hx (by omega)
  have HV := Lib.hid (fun w' (hk : Kept [] w w') => ih w' (a0 x) (hT.kept hk) (hia.kept hk) hI1)
  have HB := Lib.hid (fun z (h : valP t n (a0 x) = some z) => val_bd hT.ll h)
  have HE := Lib.hid (fun w' (hk : Kept [] w w') => entity_any w' v t x (hT.kept hk))
  have HP := Lib.hid (fun w' m (hk : Kept [] w w') => plain_any w' v t m (hT.kept hk))
  have HG := Lib.hid (fun w' (hk : Kept [] w w') => argued_any w' v t x n (hT.kept hk) (hx.kept hk) (by omega))
  have HM : Hid (rawF (valP t n) t x = match valP t n (a0 x) with | none => none | some u => (match arguedP t x with
    | some (s, a) => if s.2 then withinP (u + s.1) a else some u
    | none => match plainP t (entP t x.ent).sub with
      | some (b, _) => withinP u b
      | none => none)) := by
    rw [Hid, rawF]
    simp only [hk]
    rfl
  have HAS := Lib.hid (fun s a h => argued_is (t := t) (x := x) (s := s) (a := a) h1 h)
  have HAB := Lib.hid (fun s a h => argued_bd (t := t) (x := x) (s := s) (a := a) h)
  have HAO := Lib.hid (argued_ok (t := t) h1)
  have HPO := Lib.hid (plainX_ok t (entP t x.ent).sub)
  have HI2 := Lib.hid hI2
  have HPS := Lib.hid (fun b a h => plainX_some (t := t) (n := (entP t x.ent).sub) (b := b) (a := a) h)
  have q2 := hx.2.2.2.2.2.1
  have l2 : (0 : Int) < (x.al.length : Int) := by omega
  clear ih hT hx hI1 hI2 hia h1 h2
  unfold TabV.cells at *
  unfold avV at HG
  unfold pvV at HP
  unfold entA at HE
  generalize valP t n (a0 x) = o at *
  generalize a0 x = y at *
  cases o with
  | none =>
    have HW : Hid (rawF (valP t n) t x = none) := HM.out
    clear HE HP HG HM HAS HAB HAO HPO HPS HI2
    go_enter Tryz.func48, Tryz.ntmps48
    go_wp2_with fail
    refine wp_region_heads [0,1,2,3,4,5] [6,7] (by kernel_rfl) (by kernel_rfl) (fun _ _ _ _ _ h => h) ?_; apply Exists.intro; refine ⟨fun U hU hN => ?_, ?_⟩; simp only [pick, List.flatMap_cons, List.flatMap_nil, List.getElem?_cons_zero, List.getElem?_cons_succ, Option.toList_some, List.cons_append, List.nil_append]
    · repeat (go_big_quiet_step (fail))
      refine wpQuiet_nil ?_
      exact rfl
    simp only [pick, List.flatMap_cons, List.flatMap_nil, List.getElem?_cons_zero, List.getElem?_cons_succ, Option.toList_some, List.cons_append, List.nil_append]
    intro w4 hk4
    haveI p_w4 : PrevWorld w4 _ := ⟨hk4⟩
    clear hk4
    go_wp2_with fail
    refine (Calls.retP (HV.out _ (by repeat (first | with_reducible exact HK.out | with_reducible exact Kept.refl _ _ | with_reducible refine Kept.prev ?_ | with_reducible refine Kept.alloc' ?_ _ | with_reducible refine Kept.drew' ?_ | with_reducible refine Kept.setB ?_ _ _ _ (by omega) | with_reducible refine Kept.row' ?_ _ _ (by omega) | with_reducible refine Kept.map' ?_ _ _ (by omega)))) rfl).mono ?_; rintro e w5 ⟨rfl, hk_w5⟩; haveI p_w5 : PrevWorld w5 _ := ⟨hk_w5⟩; have hz_w5 : w.heap.size ≤ w5.heap.size := Kept.size (by repeat (first | with_reducible exact HK.out | with_reducible exact Kept.refl _ _ | with_reducible refine Kept.prev ?_ | with_reducible refine Kept.alloc' ?_ _ | with_reducible refine Kept.drew' ?_ | with_reducible refine Kept.setB ?_ _ _ _ (by omega) | with_reducible refine Kept.row' ?_ _ _ (by omega) | with_reducible refine Kept.map' ?_ _ _ (by omega))); clear hk_w5
    show bodyPost _ _ _ (.panic failC) _ _
    rw [HW.out]
    exact bodyPost_p rfl (by repeat (first | with_reducible exact HK.out | with_reducible exact Kept.refl _ _ | with_reducible refine Kept.prev ?_ | with_reducible refine Kept.alloc' ?_ _ | with_reducible refine Kept.drew' ?_ | with_reducible refine Kept.setB ?_ _ _ _ (by omega) | with_reducible refine Kept.row' ?_ _ _ (by omega) | with_reducible refine Kept.map' ?_ _ _ (by omega)))
  | some u =>
  obtain ⟨u1, u2⟩ := HB.out u rfl
  cases hg : arguedP t x with
  | some r =>
    obtain ⟨⟨k, c⟩, a⟩ := r
    obtain ⟨k1, k2⟩ := HAB.out _ _ hg
    rw [HAS.out _ _ hg] at HG
    simp only at k1 k2 HG
    have HW0 : Hid (rawF (valP t n) t x = if c then withinP (u + k) a else some u) := by rw [Hid, HM.out, hg]
    clear HE HP HM HAS HAB HAO HPO HPS HI2 hg
    cases c
    · have HW : Hid (rawF (valP t n) t x = some u) := HW0.out
      go_enter Tryz.func48, Tryz.ntmps48
      go_wp2_with fail
      refine wp_region_heads [0,1,2,3,4,5] [6,7] (by kernel_rfl) (by kernel_rfl) (fun _ _ _ _ _ h => h) ?_; apply Exists.intro; refine ⟨fun U hU hN => ?_, ?_⟩; simp only [pick, List.flatMap_cons, List.flatMap_nil, List.getElem?_cons_zero, List.getElem?_cons_succ, Option.toList_some, List.cons_append, List.nil_append]
      · repeat (go_big_quiet_step (fail))
        refine wpQuiet_nil ?_
        exact rfl
      simp only [pick, List.flatMap_cons, List.flatMap_nil, List.getElem?_cons_zero, List.getElem?_cons_succ, Option.toList_some, List.cons_append, List.nil_append]
      intro w4 hk4
      haveI p_w4 : PrevWorld w4 _ := ⟨hk4⟩
      clear hk4
      go_wp2_with fail
      refine (Calls.retV (HV.out _ (by repeat (first | with_reducible exact HK.out | with_reducible exact Kept.refl _ _ | with_reducible refine Kept.prev ?_ | with_reducible refine Kept.alloc' ?_ _ | with_reducible refine Kept.drew' ?_ | with_reducible refine Kept.setB ?_ _ _ _ (by omega) | with_reducible refine Kept.row' ?_ _ _ (by omega) | with_reducible refine Kept.map' ?_ _ _ (by omega)))) rfl).mono ?_; rintro e w5 ⟨rfl, hk_w5⟩; haveI p_w5 : PrevWorld w5 _ := ⟨hk_w5⟩; have hz_w5 : w.heap.size ≤ w5.heap.size := Kept.size (by repeat (first | with_reducible exact HK.out | with_reducible exact Kept.refl _ _ | with_reducible refine Kept.prev ?_ | with_reducible refine Kept.alloc' ?_ _ | with_reducible refine Kept.drew' ?_ | with_reducible refine Kept.setB ?_ _ _ _ (by omega) | with_reducible refine Kept.row' ?_ _ _ (by omega) | with_reducible refine Kept.map' ?_ _ _ (by omega))); clear hk_w5
      go_wp2_with fail
      refine (HG.out _ (by repeat (first | with_reducible exact HK.out | with_reducible exact Kept.refl _ _ | with_reducible refine Kept.prev ?_ | with_reducible refine Kept.alloc' ?_ _ | with_reducible refine Kept.drew' ?_ | with_reducible refine Kept.setB ?_ _ _ _ (by omega) | with_reducible refine Kept.row' ?_ _ _ (by omega) | with_reducible refine Kept.map' ?_ _ _ (by omega)))).mono ?_; rintro e w6 ⟨rfl, hk_w6⟩; haveI p_w6 : PrevWorld w6 _ := ⟨hk_w6⟩; have hz_w6 : w.heap.size ≤ w6.heap.size := Kept.size (by repeat (first | with_reducible exact HK.out | with_reducible exact Kept.refl _ _ | with_reducible refine Kept.prev ?_ | with_reducible refine Kept.alloc' ?_ _ | with_reducible refine Kept.drew' ?_ | with_reducible refine Kept.setB ?_ _ _ _ (by omega) | with_reducible refine Kept.row' ?_ _ _ (by omega) | with_reducible refine Kept.map' ?_ _ _ (by omega))); clear hk_w6
      go_wp2_with fail
      rw [HW.out]
      exact bodyPost_o rfl (res1 Tryz.results48 (resT rfl)) (by repeat (first | with_reducible exact HK.out | with_reducible exact Kept.refl _ _ | with_reducible refine Kept.prev ?_ | with_reducible refine Kept.alloc' ?_ _ | with_reducible refine Kept.drew' ?_ | with_reducible refine Kept.setB ?_ _ _ _ (by omega) | with_reducible refine Kept.row' ?_ _ _ (by omega) | with_reducible refine Kept.map' ?_ _ _ (by omega)))
    · have HW1 : Hid (rawF (valP t n) t x = withinP (u + k) a) := HW0.out
      clear HW0
      go_enter Tryz.func48, Tryz.ntmps48
      go_wp2_with fail
      refine wp_region_heads [0,1,2,3,4,5] [6,7] (by kernel_rfl) (by kernel_rfl) (fun _ _ _ _ _ h => h) ?_; apply Exists.intro; refine ⟨fun U hU hN => ?_, ?_⟩; simp only [pick, List.flatMap_cons, List.flatMap_nil, List.getElem?_cons_zero, List.getElem?_cons_succ, Option.toList_some, List.cons_append, List.nil_append]
      · repeat (go_big_quiet_step (fail))
        refine wpQuiet_nil ?_
        exact rfl
      simp only [pick, List.flatMap_cons, List.flatMap_nil, List.getElem?_cons_zero, List.getElem?_cons_succ, Option.toList_some, List.cons_append, List.nil_append]
      intro w4 hk4
      haveI p_w4 : PrevWorld w4 _ := ⟨hk4⟩
      clear hk4
      go_wp2_with fail
      refine (Calls.retV (HV.out _ (by repeat (first | with_reducible exact HK.out | with_reducible exact Kept.refl _ _ | with_reducible refine Kept.prev ?_ | with_reducible refine Kept.alloc' ?_ _ | with_reducible refine Kept.drew' ?_ | with_reducible refine Kept.setB ?_ _ _ _ (by omega) | with_reducible refine Kept.row' ?_ _ _ (by omega) | with_reducible refine Kept.map' ?_ _ _ (by omega)))) rfl).mono ?_; rintro e w5 ⟨rfl, hk_w5⟩; haveI p_w5 : PrevWorld w5 _ := ⟨hk_w5⟩; have hz_w5 : w.heap.size ≤ w5.heap.size := Kept.size (by repeat (first | with_reducible exact HK.out | with_reducible exact Kept.refl _ _ | with_reducible refine Kept.prev ?_ | with_reducible refine Kept.alloc' ?_ _ | with_reducible refine Kept.drew' ?_ | with_reducible refine Kept.setB ?_ _ _ _ (by omega) | with_reducible refine Kept.row' ?_ _ _ (by omega) | with_reducible refine Kept.map' ?_ _ _ (by omega))); clear hk_w5
      go_wp2_with fail
      refine (HG.out _ (by repeat (first | with_reducible exact HK.out | with_reducible exact Kept.refl _ _ | with_reducible refine Kept.prev ?_ | with_reducible refine Kept.alloc' ?_ _ | with_reducible refine Kept.drew' ?_ | with_reducible refine Kept.setB ?_ _ _ _ (by omega) | with_reducible refine Kept.row' ?_ _ _ (by omega) | with_reducible refine Kept.map' ?_ _ _ (by omega)))).mono ?_; rintro e w6 ⟨rfl, hk_w6⟩; haveI p_w6 : PrevWorld w6 _ := ⟨hk_w6⟩; have hz_w6 : w.heap.size ≤ w6.heap.size := Kept.size (by repeat (first | with_reducible exact HK.out | with_reducible exact Kept.refl _ _ | with_reducible refine Kept.prev ?_ | with_reducible refine Kept.alloc' ?_ _ | with_reducible refine Kept.drew' ?_ | with_reducible refine Kept.setB ?_ _ _ _ (by omega) | with_reducible refine Kept.row' ?_ _ _ (by omega) | with_reducible refine Kept.map' ?_ _ _ (by omega))); clear hk_w6
      go_wp2_with fail
      cases hq : withinP (u + k) a with
      | none =>
        have HW : Hid (rawF (valP t n) t x = none) := by rw [Hid, HW1.out, hq]
        refine (Calls.retP (within_any _ _ a) hq).mono ?_; rintro e w10 ⟨rfl, hk_w10⟩; haveI p_w10 : PrevWorld w10 _ := ⟨hk_w10⟩; have hz_w10 : w.heap.size ≤ w10.heap.size := Kept.size (by repeat (first | with_reducible exact HK.out | with_reducible exact Kept.refl _ _ | with_reducible refine Kept.prev ?_ | with_reducible refine Kept.alloc' ?_ _ | with_reducible refine Kept.drew' ?_ | with_reducible refine Kept.setB ?_ _ _ _ (by omega) | with_reducible refine Kept.row' ?_ _ _ (by omega) | with_reducible refine Kept.map' ?_ _ _ (by omega))); clear hk_w10
        show bodyPost _ _ _ (.panic failC) _ _
        rw [HW.out]
        exact bodyPost_p rfl (by repeat (first | with_reducible exact HK.out | with_reducible exact Kept.refl _ _ | with_reducible refine Kept.prev ?_ | with_reducible refine Kept.alloc' ?_ _ | with_reducible refine Kept.drew' ?_ | with_reducible refine Kept.setB ?_ _ _ _ (by omega) | with_reducible refine Kept.row' ?_ _ _ (by omega) | with_reducible refine Kept.map' ?_ _ _ (by omega)))
      | some u' =>
        have HW : Hid (rawF (valP t n) t x = some u') := by rw [Hid, HW1.out, hq]
        refine (Calls.retV (within_any _ _ a) hq).mono ?_; rintro e w10 ⟨rfl, hk_w10⟩; haveI p_w10 : PrevWorld w10 _ := ⟨hk_w10⟩; have hz_w10 : w.heap.size ≤ w10.heap.size := Kept.size (by repeat (first | with_reducible exact HK.out | with_reducible exact Kept.refl _ _ | with_reducible refine Kept.prev ?_ | with_reducible refine Kept.alloc' ?_ _ | with_reducible refine Kept.drew' ?_ | with_reducible refine Kept.setB ?_ _ _ _ (by omega) | with_reducible refine Kept.row' ?_ _ _ (by omega) | with_reducible refine Kept.map' ?_ _ _ (by omega))); clear hk_w10
        clear hq
        go_wp2_with fail
        rw [HW.out]
        exact bodyPost_o rfl (res1 Tryz.results48 (resT rfl)) (by repeat (first | with_reducible exact HK.out | with_reducible exact Kept.refl _ _ | with_reducible refine Kept.prev ?_ | with_reducible refine Kept.alloc' ?_ _ | with_reducible refine Kept.drew' ?_ | with_reducible refine Kept.setB ?_ _ _ _ (by omega) | with_reducible refine Kept.row' ?_ _ _ (by omega) | with_reducible refine Kept.map' ?_ _ _ (by omega)))
  | none =>
    have hx2 : (arguedX t x).2.2 = false := by rw [HAO.out, hg]; rfl
    have h3 := HI2.out
    rw [hx2, Bool.false_or, Bool.and_eq_true, HPO.out] at h3
    obtain ⟨⟨b, a⟩, hp⟩ := Option.isSome_iff_exists.1 h3.2
    have HW1 : Hid (rawF (valP t n) t x = withinP u b) := by rw [Hid, HM.out, hg]; simp only [hp]
    have HPX := Lib.hid (HPS.out _ _ hp)
    have HP2 := Lib.hid (fun w' hk => HP.out w' (entP t x.ent).sub hk)
    clear HM HAS HAB HAO HPO HPS HI2 h3 hg hp HP
    rw [HPX.out] at HP2
    simp only at HP2
    generalize entP t x.ent = e at *
    go_enter Tryz.func48, Tryz.ntmps48
    go_wp2_with fail
    refine wp_region_heads [0,1,2,3,4,5] [6,7] (by kernel_rfl) (by kernel_rfl) (fun _ _ _ _ _ h => h) ?_; apply Exists.intro; refine ⟨fun U hU hN => ?_, ?_⟩; simp only [pick, List.flatMap_cons, List.flatMap_nil, List.getElem?_cons_zero, List.getElem?_cons_succ, Option.toList_some, List.cons_append, List.nil_append]
    · repeat (go_big_quiet_step (fail))
      refine wpQuiet_nil ?_
      exact rfl
    simp only [pick, List.flatMap_cons, List.flatMap_nil, List.getElem?_cons_zero, List.getElem?_cons_succ, Option.toList_some, List.cons_append, List.nil_append]
    intro w4 hk4
    haveI p_w4 : PrevWorld w4 _ := ⟨hk4⟩
    clear hk4
    go_wp2_with fail
    refine (Calls.retV (HV.out _ (by repeat (first | with_reducible exact HK.out | with_reducible exact Kept.refl _ _ | with_reducible refine Kept.prev ?_ | with_reducible refine Kept.alloc' ?_ _ | with_reducible refine Kept.drew' ?_ | with_reducible refine Kept.setB ?_ _ _ _ (by omega) | with_reducible refine Kept.row' ?_ _ _ (by omega) | with_reducible refine Kept.map' ?_ _ _ (by omega)))) rfl).mono ?_; rintro e w5 ⟨rfl, hk_w5⟩; haveI p_w5 : PrevWorld w5 _ := ⟨hk_w5⟩; have hz_w5 : w.heap.size ≤ w5.heap.size := Kept.size (by repeat (first | with_reducible exact HK.out | with_reducible exact Kept.refl _ _ | with_reducible refine Kept.prev ?_ | with_reducible refine Kept.alloc' ?_ _ | with_reducible refine Kept.drew' ?_ | with_reducible refine Kept.setB ?_ _ _ _ (by omega) | with_reducible refine Kept.row' ?_ _ _ (by omega) | with_reducible refine Kept.map' ?_ _ _ (by omega))); clear hk_w5
    go_wp2_with fail
    refine (HG.out _ (by repeat (first | with_reducible exact HK.out | with_reducible exact Kept.refl _ _ | with_reducible refine Kept.prev ?_ | with_reducible refine Kept.alloc' ?_ _ | with_reducible refine Kept.drew' ?_ | with_reducible refine Kept.setB ?_ _ _ _ (by omega) | with_reducible refine Kept.row' ?_ _ _ (by omega) | with_reducible refine Kept.map' ?_ _ _ (by omega)))).mono ?_; rintro e w6 ⟨rfl, hk_w6⟩; haveI p_w6 : PrevWorld w6 _ := ⟨hk_w6⟩; have hz_w6 : w.heap.size ≤ w6.heap.size := Kept.size (by repeat (first | with_reducible exact HK.out | with_reducible exact Kept.refl _ _ | with_reducible refine Kept.prev ?_ | with_reducible refine Kept.alloc' ?_ _ | with_reducible refine Kept.drew' ?_ | with_reducible refine Kept.setB ?_ _ _ _ (by omega) | with_reducible refine Kept.row' ?_ _ _ (by omega) | with_reducible refine Kept.map' ?_ _ _ (by omega))); clear hk_w6
    clear HV HG HB
    go_wp2_with fail
    refine wp_region_head 10 2 (fun _ => .cells #[.int .i64 0, .int .i64 0] 43) (by kernel_rfl) (by kernel_rfl) (fun i o h1 h2 h3 => by obtain rfl | rfl : i = 10 ∨ i = 11 := (by omega); all_goals (obtain rfl := Option.some.inj h3; exact alc_of rfl rfl Tryz.zeroBd)) (fun _ _ _ _ _ h => h) ?_; apply Exists.intro; refine ⟨fun U hU hN => ?_, ?_⟩; simp only [List.take_succ_cons, List.take_zero]
    · iterate 3 (go_big_quiet_step (fail))
      go_big_quiet_step (exact Calls.headV hU (HE.out _ (Kept.trans (by repeat (first | with_reducible exact HK.out | with_reducible exact Kept.refl _ _ | with_reducible refine Kept.prev ?_ | with_reducible refine Kept.alloc' ?_ _ | with_reducible refine Kept.drew' ?_ | with_reducible refine Kept.setB ?_ _ _ _ (by omega) | with_reducible refine Kept.row' ?_ _ _ (by omega) | with_reducible refine Kept.map' ?_ _ _ (by omega))) (AfterU.prop _))))
      go_big_quiet_step (fail)
      go_big_quiet_step (exact Calls.headV hU (HP2.out _ (Kept.trans (by repeat (first | with_reducible exact HK.out | with_reducible exact Kept.refl _ _ | with_reducible refine Kept.prev ?_ | with_reducible refine Kept.alloc' ?_ _ | with_reducible refine Kept.drew' ?_ | with_reducible refine Kept.setB ?_ _ _ _ (by omega) | with_reducible refine Kept.row' ?_ _ _ (by omega) | with_reducible refine Kept.map' ?_ _ _ (by omega))) (AfterU.prop _))))
      repeat (go_big_quiet_step (fail))
      refine wpQuiet_nil ?_
      exact rfl
    simp only [List.drop_succ_cons, List.drop_zero, List.take_succ_cons, List.take_zero]
    intro B2 hB2 _ B3 hB3 hne w8 hk8 hh
    haveI p_w8 : PrevWorld w8 _ := ⟨hk8⟩
    haveI bx2 : BoxIs w8 B2 43 #[.int .i64 0, .int .i64 0] := box_of hh (by simp)
    haveI bx3 : BoxIs w8 B3 43 #[.int .i64 0, .int .i64 0] := box_of hh (by simp)
    have hne2 := ne_of hne
    haveI ap1 : Apart B2 B3 := ⟨hne2⟩
    haveI ap2 : Apart B3 B2 := ⟨hne2.symm⟩
    haveI g2 : BornAfter B2 _ := ⟨hB2⟩
    haveI g3 : BornAfter B3 _ := ⟨hB3⟩
    have hz2 : w.heap.size ≤ B2 := Nat.le_trans (Kept.size (X := []) (by repeat (first | with_reducible exact HK.out | with_reducible exact Kept.refl _ _ | with_reducible refine Kept.prev ?_ | with_reducible refine Kept.alloc' ?_ _ | with_reducible refine Kept.drew' ?_ | with_reducible refine Kept.setB ?_ _ _ _ (by omega) | with_reducible refine Kept.row' ?_ _ _ (by omega) | with_reducible refine Kept.map' ?_ _ _ (by omega)))) hB2
    have hz3 : w.heap.size ≤ B3 := Nat.le_trans (Kept.size (X := []) (by repeat (first | with_reducible exact HK.out | with_reducible exact Kept.refl _ _ | with_reducible refine Kept.prev ?_ | with_reducible refine Kept.alloc' ?_ _ | with_reducible refine Kept.drew' ?_ | with_reducible refine Kept.setB ?_ _ _ _ (by omega) | with_reducible refine Kept.row' ?_ _ _ (by omega) | with_reducible refine Kept.map' ?_ _ _ (by omega)))) hB3
    clear hk8 hh hne
    clear HE HP2
    go_wp2_with fail
    cases hq : withinP u b with
    | none =>
      have HW : Hid (rawF (valP t n) t x = none) := by rw [Hid, HW1.out, hq]
      refine (Calls.retP (within_any _ _ b) hq).mono ?_; rintro e w10 ⟨rfl, hk_w10⟩; haveI p_w10 : PrevWorld w10 _ := ⟨hk_w10⟩; have hz_w10 : w.heap.size ≤ w10.heap.size := Kept.size (by repeat (first | with_reducible exact HK.out | with_reducible exact Kept.refl _ _ | with_reducible refine Kept.prev ?_ | with_reducible refine Kept.alloc' ?_ _ | with_reducible refine Kept.drew' ?_ | with_reducible refine Kept.setB ?_ _ _ _ (by omega) | with_reducible refine Kept.row' ?_ _ _ (by omega) | with_reducible refine Kept.map' ?_ _ _ (by omega))); clear hk_w10
      show bodyPost _ _ _ (.panic failC) _ _
      rw [HW.out]
      exact bodyPost_p rfl (by repeat (first | with_reducible exact HK.out | with_reducible exact Kept.refl _ _ | with_reducible refine Kept.prev ?_ | with_reducible refine Kept.alloc' ?_ _ | with_reducible refine Kept.drew' ?_ | with_reducible refine Kept.setB ?_ _ _ _ (by omega) | with_reducible refine Kept.row' ?_ _ _ (by omega) | with_reducible refine Kept.map' ?_ _ _ (by omega)))
    | some u' =>
      have HW : Hid (rawF (valP t n) t x = some u') := by rw [Hid, HW1.out, hq]
      refine (Calls.retV (within_any _ _ b) hq).mono ?_; rintro e w10 ⟨rfl, hk_w10⟩; haveI p_w10 : PrevWorld w10 _ := ⟨hk_w10⟩; have hz_w10 : w.heap.size ≤ w10.heap.size := Kept.size (by repeat (first | with_reducible exact HK.out | with_reducible exact Kept.refl _ _ | with_reducible refine Kept.prev ?_ | with_reducible refine Kept.alloc' ?_ _ | with_reducible refine Kept.drew' ?_ | with_reducible refine Kept.setB ?_ _ _ _ (by omega) | with_reducible refine Kept.row' ?_ _ _ (by omega) | with_reducible refine Kept.map' ?_ _ _ (by omega))); clear hk_w10
      clear hq
      go_wp2_with fail
      rw [HW.out]
      exact bodyPost_o rfl (res1 Tryz.results48 (resT rfl)) (by repeat (first | with_reducible exact HK.out | with_reducible exact Kept.refl _ _ | with_reducible refine Kept.prev ?_ | with_reducible refine Kept.alloc' ?_ _ | with_reducible refine Kept.drew' ?_ | with_reducible refine Kept.setB ?_ _ _ _ (by omega) | with_reducible refine Kept.row' ?_ _ _ (by omega) | with_reducible refine Kept.map' ?_ _ _ (by omega)))
end Go.Proofs.YtgdjhhfbpalkdaaGreat
namespace Go.Proofs.YtgdjhhfbpalkdaaGreat
open Go.RowKit

section
variable {P : Program} {md : Region.Mode} {ops : Array Oper} {Q : Exit → Act → World → Prop} {w0 : World} {hd : List Nat}

theorem Sure.up {o : Oper} {v : Value} {a : Act} {w1 : World} (h : Sure P ops w0 o v a) (hk : Kept [] w0 w1) : Sure P ops w1 o v a := fun U hU ⟨w, hw⟩ => by
  have e : CU w1 U = CU w0 (fun x => Kept [] w1 x ∧ U x) := by
    funext x
    apply propext
    exact ⟨fun h => CU.mk (hk.trans h.kept) ⟨h.kept, h.here⟩, fun h => CU.mk h.here.1 h.here.2⟩
  rw [e]
  exact h _ (fun a b hab hkab => ⟨hab.1.trans hkab, hU _ _ hab.2 hkab⟩) ⟨w, by rw [← e]; exact hw⟩

theorem wpOp_putS {j : Nat} {oi oj : Oper} {v : Value} (hj : ops[j]? = some oj) (hap : oi.apart ops oj = true)
    (hsi : ∀ cs b, oi.op ≠ .select cs b) (hsj : ∀ cs b, oj.op ≠ .select cs b)
    (hQ : ∀ c a w, Q (.panic c) (a.put oi.dst v) w → Q (.panic c) a w) {K : Act → World → Prop} {a : Act} {w : World}
    (hy : Sure P ops w0 oi v a) (h : wpOp P ops Q j K (a.put oi.dst v) w) :
    wpOp P ops Q j (fun a' w' => Sure P ops w0 oi v a' ∧ K (a'.put oi.dst v) w') a w := by
  obtain ⟨h1, h2, h3⟩ := Oper.apart_spec hap
  have keep : ∀ (a : Act), Sure P ops w0 oi v a → ∀ u, Sure P ops w0 oi v (a.put oj.dst u) := fun a hy u =>
    hy.of_same (execOp_put oi hsi a oj.dst u h3) (wanted_put oi a oj.dst u h3)
  have keepD : ∀ d, Sure P ops w0 oi v { a with defers := d :: a.defers } := fun d => hy.of_same rfl rfl
  unfold wpOp at *
  simp only [hj] at *
  rw [wanted_put oj a oi.dst v h1] at h
  split
  · rename_i hw
    simp only [hw, if_true] at h
    rcases h with h | ⟨hasks, hlets⟩
    case inr => exact .inr ⟨by unfold Oper.asks at *; rw [execOp_put oj hsj a oi.dst v h1] at hasks; exact hasks, hlets⟩
    refine .inl ?_
    unfold Oper.wp at *
    rw [execOp_put oj hsj a oi.dst v h1] at h
    generalize (execOp a.eval oj).run P w = r at *
    cases r with
    | ok n w' =>
      cases n <;> simp only [Oper.upon] at h ⊢
      case value u => exact ⟨keep a hy u, by rw [← Act.put_comm a v u h2]; exact h⟩
      case skip => exact ⟨keep a hy _, by rw [← Act.put_comm a v undef h2]; exact h⟩
      case defer d =>
        refine ⟨keep _ (keepD d) _, ?_⟩
        rw [← Act.put_comm _ v undef h2, ← Act.put_defers]
        exact h
      case enter f args =>
        refine Calls.mono h fun e w'' he => ?_
        cases e with
        | returned u => exact ⟨keep a hy u, by rw [← Act.put_comm a v u h2]; exact he⟩
        | panicked c => exact hQ _ _ _ he
        | outgrown => exact he
      case row row args => exact Rows.mono h fun u w'' he => ⟨keep a hy u, by rw [← Act.put_comm a v u h2]; exact he⟩
    | halt x w' =>
      cases x <;> simp only [Oper.upon] at h ⊢
      case panic u => exact hQ _ _ _ h
  · rename_i hw
    simp only [hw] at h
    exact ⟨keep a hy _, by rw [← Act.put_comm a v undef h2]; exact h⟩

/-- Whatever order: heads around one call. -/
def AnyC (P : Program) (md : Region.Mode) (ops : Array Oper) (Q : Exit → Act → World → Prop) (w0 : World) (hd : List Nat) (s : Nat) : Nat → Array Bool → Act → Prop
  | 0, _, _ => False
  | k + 1, done, a => Region.ready md ops done ≠ [] ∧
      ∀ i, i ∈ Region.ready md ops done → ∀ o, ops[i]? = some o →
        (i ∈ hd → ∃ v, Sure P ops w0 o v a ∧ AnyC P md ops Q w0 hd s k (done.setIfInBounds i true) (a.put o.dst v)) ∧
        (i ∉ hd → i = s ∧ ∀ w, CT w0 w → wpOp P ops Q i (fun a' w' => Kept [] w0 w' ∧ AnyH P md ops Q w' (s :: hd) k (done.setIfInBounds i true) a') a w)
theorem AnyC.any {s : Nat} : ∀ (k : Nat) (done : Array Bool) (a : Act) (w : World), CT w0 w → AnyC P md ops Q w0 hd s k done a → wpAny P md ops Q k done a w
  | 0, _, _, _, _, h => h.elim
  | k + 1, done, a, w, hw, h => ⟨fun h0 => absurd h0 h.1, fun i hi => by
    obtain ⟨_, o, ho, _⟩ := mem_ready.1 hi
    obtain ⟨h1, h3⟩ := h.2 i hi o ho
    by_cases c1 : i ∈ hd
    · obtain ⟨v, hy, hk⟩ := h1 c1
      have hq : qOp P ops (CT w0) i (fun a' => AnyC P md ops Q w0 hd s k (done.setIfInBounds i true) a') a := (hy _ (fun _ _ _ _ => trivial) ⟨w, hw⟩).qOp ho hk
      exact wpOp_of_qOp hw (fun a' w' hw' hk' => AnyC.any k _ a' w' hw' hk') hq
    · exact wpOp_mono (fun _ w' h => AnyH.any k _ _ w' (CU.mk (Kept.refl _ _) trivial) h.2) ((h3 c1).2 w hw)⟩

theorem AnyC.first {s : Nat} {i : Nat} {oi : Oper} {v : Value} (hi : ops[i]? = some oi) (hin : i ∈ hd) (hsel : ∀ (j : Nat) (o : Oper) cs b, ops[j]? = some o → o.op ≠ .select cs b)
    (hQ : ∀ c a w, Q (.panic c) (a.put oi.dst v) w → Q (.panic c) a w)
    (hfl : Floaty oi = true ∨ ∀ done, Closed md ops done → done.getD i true = false → ∀ t, t ∉ s :: hd → t ∉ Region.ready md ops done) :
    ∀ (k : Nat) (done : Array Bool) (a : Act), Closed md ops done →
      (∀ j oj, ops[j]? = some oj → j ≠ i → done.getD j true = false → (∀ e ∈ oj.after, Region.binds md e = true → e.on ≠ i) → oi.apart ops oj = true) →
      i ∈ Region.ready md ops done → Sure P ops w0 oi v a →
      AnyC P md ops Q w0 hd s k (done.setIfInBounds i true) (a.put oi.dst v) → AnyC P md ops Q w0 hd s (k + 1) done a := by
  intro k
  induction k with
  | zero => intro done a _ _ hr hy H; exact H.elim
  | succ k ih =>
    intro done a hcl hfree hr hy H
    refine ⟨fun h => by simp [h] at hr, fun j hj oj hoj => ?_⟩
    by_cases e : j = i
    · subst e
      rw [hi] at hoj
      cases hoj
      exact ⟨fun _ => ⟨v, hy, H⟩, fun c => absurd hin c⟩
    have hun := (mem_ready.1 hj).1
    have hap := hfree j oj hoj e hun (unlisted_ready hr hj hoj)
    obtain ⟨p1, p2, p3⟩ := Oper.apart_spec hap
    have hsi := fun cs b => hsel i oi cs b hi
    have hsj := fun cs b => hsel j oj cs b hoj
    have keep : ∀ u, Sure P ops w0 oi v (a.put oj.dst u) := fun u => hy.of_same (execOp_put oi hsi a oj.dst u p3) (wanted_put oi a oj.dst u p3)
    have hfree' : ∀ q oq, ops[q]? = some oq → q ≠ i → (done.setIfInBounds j true).getD q true = false → (∀ e ∈ oq.after, Region.binds md e = true → e.on ≠ i) → oi.apart ops oq = true := fun q oq hq hqi hqu hno => by
      refine hfree q oq hq hqi ?_ hno
      by_cases hjq : j = q
      · subst hjq; exact hun
      · rwa [getD_set_ne true hjq] at hqu
    have hr' := ready_mono hr (fun x => e x.symm)
    obtain ⟨h1, h3⟩ := H.2 j (ready_mono hj e) oj hoj
    refine ⟨fun c => ?_, fun c => ⟨(h3 c).1, fun w hw => ?_⟩⟩
    · obtain ⟨u, hu, hk⟩ := h1 c
      refine ⟨u, hu.of_same (execOp_put oj hsj a oi.dst v p1).symm (wanted_put oj a oi.dst v p1).symm, ih _ _ (hcl.set hj) hfree' hr' (keep u) ?_⟩
      rw [Array.setIfInBounds_comm _ _ e, ← Act.put_comm a v u p2]
      exact hk
    · have h4 := wpOp_putS hoj hap hsi hsj hQ hy ((h3 c).2 w hw)
      refine wpOp_mono (fun a' w' h5 => ⟨h5.2.1, ?_⟩) h4
      refine AnyH.first hi (List.mem_cons_of_mem _ hin) hsel hQ hfl k _ a' (hcl.set hj) hfree' hr' (h5.1.up h5.2.1) ?_
      rw [Array.setIfInBounds_comm _ _ e]
      exact h5.2.2

def lexC (md : Region.Mode) (ops : Array Oper) (hd : List Nat) (s : Nat) (ts : List Nat) : List Nat → Array Bool → Bool
  | [], done => decide (Region.ready md ops done = [s]) && seqL md ops ts (done.setIfInBounds s true)
  | k :: r, done => (Region.ready md ops done).contains k && Region.free md ops done k && (((ops[k]?).map Floaty).getD false || heldBy md ops (s :: hd) k) && lexC md ops hd s ts r (done.setIfInBounds k true)

theorem AnyC.heads {l : List Oper} (hl : ops = l.toArray) (hsel : Region.noSelect ops = true) (hQ : ∀ (d : Tmp) v c a w, Q (.panic c) (a.put (some d) v) w → Q (.panic c) a w) (s : Nat) (ts : List Nat) (hts : ∀ i ∈ ts, i < l.length) (hdt : ∀ i ∈ ts, i ∉ s :: hd) (hsd : s ∉ hd) (A : Act) (hA : ∀ w', Kept [] w0 w' → wpOp P ops Q s (fun a1 w1 => Kept [] w0 w1 ∧ ∀ w2, Kept [] w1 w2 → wpList P ops Q (pick l ts) a1 w2) A w') :
    ∀ (hs : List Nat) (done : Array Bool) (a : Act), (∀ i ∈ hs, i < l.length) → (∀ i ∈ hs, i ∈ hd) →
      lexC md ops hd s ts hs done = true → dstsB a.tmps.size (pick l hs) = true → Closed md ops done →
      (∀ U, UpC U → Nonempty (AfterU w0 U) → wpQuiet P ops (CU w0 U) (fun a' => a' = A) (pick l hs) a) → AnyC P md ops Q w0 hd s (hs.length + (ts.length + 1)) done a
  | [], done, a, _, _, hB, _, _, h => by
    obtain rfl : a = A := h (fun _ => True) (fun _ _ _ _ => trivial) ⟨⟨w0, Kept.refl _ _, trivial⟩⟩
    rw [List.length_nil, Nat.zero_add]
    simp only [lexC, Bool.and_eq_true, decide_eq_true_eq] at hB
    obtain ⟨hB, hB2⟩ := hB
    refine ⟨fun h => (by rw [hB] at h; cases h), fun i hi o ho => ?_⟩
    rw [hB] at hi
    obtain rfl : i = s := by simpa using hi
    refine ⟨fun c => absurd c hsd, fun _ => ⟨rfl, fun w hw => wpOp_mono (fun a1 w1 h1 => ⟨h1.1, ?_⟩) (hA w hw.kept)⟩⟩
    have h2 : ∀ w2, CT w1 w2 → wpAny P md ops Q ts.length (done.setIfInBounds i true) a1 w2 := fun w2 hw => wpAny_of_seqL hl ts _ a1 w2 hts hB2 (h1.2 w2 hw.kept)
    cases ts with
    | nil => exact ⟨by simpa [seqL] using hB2, fun w hw => (h2 w hw).2⟩
    | cons t ts =>
      simp only [List.length_cons] at h2 ⊢
      simp only [seqL, Bool.and_eq_true, decide_eq_true_eq] at hB2
      refine ⟨fun h0 w hw => (h2 w hw).1 h0, fun j hj o ho => ⟨fun c => ?_, fun _ w hw => (h2 w hw).2 j hj⟩⟩
      rw [hB2.1] at hj
      obtain rfl : j = t := by simpa using hj
      exact absurd c (hdt j (by simp))
  | k :: hs, done, a, hi, hin, hB, hdst, hds, h => by
    have hlt := hi k (by simp)
    have h0 : ops[k]? = some l[k] := by subst hl; simp [hlt]
    have hp : pick l (k :: hs) = l[k] :: pick l hs := by simp [pick, hlt]
    rw [hp] at hdst h
    generalize l[k] = o at *
    simp only [lexC, Bool.and_eq_true, Bool.or_eq_true] at hB
    obtain ⟨⟨⟨hr, hf⟩, hw⟩, hB'⟩ := hB
    simp only [dstsB, Bool.and_eq_true] at hdst
    obtain ⟨hd1, hd2⟩ := hdst
    obtain ⟨d, hod, hds1, hds2⟩ : ∃ d, o.dst = some d ∧ d < a.tmps.size ∧ ∀ o', o' ∈ pick l hs → o'.dst ≠ some d := by
      split at hd1
      · rename_i d hod
        simp only [Bool.and_eq_true, decide_eq_true_eq, List.all_eq_true, bne_iff_ne] at hd1
        exact ⟨d, hod, hd1.1, hd1.2⟩
      · cases hd1
    have hone : ∀ U, UpC U → Nonempty (AfterU w0 U) → ∃ v, YieldsIn P ops (CU w0 U) o v a ∧ wpQuiet P ops (CU w0 U) (fun a' => a' = A) (pick l hs) (a.put o.dst v) ∧ some v = A.tmps[d]? := fun U hU hn => by
      have hq : qOp P ops (CU w0 U) k (wpQuiet P ops (CU w0 U) (fun a' => a' = A) (pick l hs)) a := by
        unfold qOp
        simp only [h0]
        exact h U hU hn
      obtain ⟨v, hy, hK⟩ := yieldsIn_of_qOp h0 hq
      refine ⟨v, hy, hK, ?_⟩
      rw [quiet_keeps _ _ hK d hds2, hod]
      simp [Act.put, hds1]
    obtain ⟨v, _, _, hv⟩ := hone (fun _ => True) (fun _ _ _ _ => trivial) ⟨⟨w0, Kept.refl _ _, trivial⟩⟩
    have hall : ∀ U, UpC U → Nonempty (AfterU w0 U) → YieldsIn P ops (CU w0 U) o v a ∧ wpQuiet P ops (CU w0 U) (fun a' => a' = A) (pick l hs) (a.put o.dst v) := fun U hU hn => by
      obtain ⟨u, h1, h2, h3⟩ := hone U hU hn
      have : u = v := by
        rw [← hv] at h3
        exact Option.some.inj h3
      subst this
      exact ⟨h1, h2⟩
    rw [show (k :: hs).length + (ts.length + 1) = (hs.length + (ts.length + 1)) + 1 by simp; omega]
    refine AnyC.first h0 (hin k (by simp)) (Region.noSelect_spec hsel) (fun c a w => by rw [hod]; exact hQ d v c a w) ?_ _ done a hds (Region.free_spec h0 hf) (by simpa using hr) (fun U hU ⟨w, hw⟩ => (hall U hU (by obtain ⟨z, _⟩ := hw; exact ⟨z⟩)).1) ?_
    · rcases hw with hw | hw
      · left
        rw [h0] at hw
        simpa using hw
      · exact .inr fun d hd hu => heldBy_spec hw hd hu
    · refine AnyC.heads hl hsel hQ s ts hts hdt hsd A hA hs _ _ (fun i h => hi i (List.mem_cons_of_mem _ h)) (fun i h => hin i (List.mem_cons_of_mem _ h)) hB' ?_ (hds.set (by simpa using hr)) (fun U hU hn => (hall U hU hn).2)
      rw [hod]
      simpa [Act.put] using hd2

/-- Another end. -/
def OnlyK (K : Act → World → Prop) (Q : Exit → Act → World → Prop) : Exit → Act → World → Prop
  | .normal => K
  | e => Q e
def headC (l : List Oper) (hs : List Nat) (s : Nat) (ts : List Nat) (size : Nat) : Bool := Region.noSelect l.toArray && decide (hs.length + (ts.length + 1) = l.length) && decide (s < l.length) && hs.all (fun i => decide (i < l.length)) && ts.all (fun i => decide (i < l.length)) && ts.all (fun i => !(s :: hs).contains i) && !hs.contains s &&
  lexC .any l.toArray hs s ts hs (Array.replicate l.length false) && dstsB size (pick l hs)
/-- One walk: heads in any order that is named, one call, the tail. -/
theorem wp_region_call {id : Nat} {a : Act} {w : World} {l : List Oper} (hs : List Nat) (s : Nat) (ts : List Nat) (hm : P.follows .mixedOrders = true) (hB : headC l hs s ts a.tmps.size = true)
    (hQ : ∀ (d : Tmp) v c a w, Q (.panic c) (a.put (some d) v) w → Q (.panic c) a w)
    (h : ∃ A, (∀ U, UpC U → Nonempty (AfterU w U) → wpQuiet P l.toArray (fun w' => ∃ z : AfterU w U, w' = z.1) (fun a' => a' = A) (pick l hs) a) ∧
      ∀ w', Kept [] w w' → wpList P l.toArray (OnlyK (fun a1 w1 => Kept [] w w1 ∧ ∀ w2, Kept [] w1 w2 → wpList P l.toArray Q (pick l ts) a1 w2) Q) (pick l [s]) A w') :
    (Code.region id l.toArray true).wp P Q a w := by
  obtain ⟨A, h1, h2⟩ := h
  simp only [headC, Bool.and_eq_true, decide_eq_true_eq, List.all_eq_true] at hB
  obtain ⟨⟨⟨⟨⟨⟨⟨⟨hs1, hlen⟩, hsl⟩, hh⟩, ht⟩, hdt⟩, hsd⟩, hx⟩, hd⟩ := hB
  have hsz : l.toArray.size = l.length := by simp
  refine wp_region_any hm ?_
  have h3 : ∀ w', Kept [] w w' → wpOp P l.toArray Q s (fun a1 w1 => Kept [] w w1 ∧ ∀ w2, Kept [] w1 w2 → wpList P l.toArray Q (pick l ts) a1 w2) A w' := fun w' hk => by
    have h4 := h2 w' hk
    have hp : pick l [s] = [l[s]] := by simp [pick, hsl]
    rw [hp] at h4
    unfold wpOp
    have h0 : l.toArray[s]? = some l[s] := by simp [hsl]
    simp only [h0]
    simp only [wpList] at h4
    split
    · rename_i hw
      rw [if_pos hw] at h4
      rcases h4 with h4 | ⟨h4, h5⟩
      · left
        unfold Oper.wp at *
        generalize (execOp A.eval l[s]).run P w' = r at *
        cases r with
        | ok n w' =>
          cases n <;> simp only [Oper.upon] at h4 ⊢
          case value u => exact h4
          case skip => exact h4
          case defer d => exact h4
          case enter f args =>
            refine Calls.mono h4 fun e w'' he => ?_
            cases e with
            | returned u => exact he
            | panicked c => exact he
            | outgrown => exact he
          case row row args => exact Rows.mono h4 fun u w'' he => he
        | halt x w' =>
          cases x <;> simp only [Oper.upon] at h4 ⊢
          case panic u => exact h4
      · exact .inr ⟨h4, h5⟩
    · rename_i hw
      rw [if_neg hw] at h4
      exact h4
  have key := AnyC.heads (P := P) (md := .any) (ops := l.toArray) (Q := Q) (w0 := w) (hd := hs) rfl hs1 hQ s ts ht (fun i hi => by simpa using hdt i hi) (by simpa using hsd) A h3 hs (Array.replicate l.length false) a hh (fun _ h => h) hx hd (by simpa using Closed.none (md := .any) (ops := l.toArray)) h1
  have := AnyC.any (P := P) (md := .any) (ops := l.toArray) (Q := Q) (w0 := w) (hd := hs) _ _ a { w with drawn := w.drawn + 1 } (CU.mk ⟨rfl, rfl, rfl, Nat.le_refl _, fun _ _ _ => rfl⟩ trivial) key
  rw [hlen] at this
  rw [hsz]
  exact this
end
end Go.Proofs.YtgdjhhfbpalkdaaGreat
