/- raw of a call. -/
import Derived.Test.YtgdjhhfbpalkdaaV10
namespace Go.Proofs.Ytgdjhhfbpalkdaa
open Go.RowKit

theorem shift_bd {s : ByteArray} {k : Int} {c : Bool} (h : shiftP s = some (k, c)) : -1 ≤ k ∧ k ≤ 1 := by
  unfold shiftP at h
  split at h
  · cases h; omega
  split at h
  · cases h; omega
  split at h
  · cases h; omega
  split at h
  · cases h; omega
  · cases h
theorem argued_bd {t : Tab} {x : ExV} {s : Int × Bool} {a : Bd} (h : arguedP t x = some (s, a)) : -1 ≤ s.1 ∧ s.1 ≤ 1 := by
  unfold arguedP at h
  split at h
  · split at h
    · cases h
    · rename_i r hr
      split at h
      · split at h
        · split at h
          · cases h
          · cases h
            obtain ⟨k, c⟩ := s
            exact shift_bd hr
        · cases h
      · cases h
  · cases h
set_option maxRecDepth 100000 in
set_option maxHeartbeats 4000000 in
theorem raw_call (w : World) (v : TabV) (t : Tab) (x : ExV) (n : Nat) (ih : ValAt v t n) (hT : TabIn w v t) (hx : ExIn w (n + 1) x) (hI : callF (isP t n) t x = true) (hk : x.kind = 7) : RawIs w v t x n := by
  unfold RawIs
  have h1 : x.ls.length = 1 := by
    by_cases h : x.ls.length = 1
    · exact h
    · rw [call_no1 h] at hI; cases hI
  have h2 : x.al.length = 1 := by
    by_cases h : x.al.length = 1
    · exact h
    · rw [call_no2 h] at hI; cases hI
  rw [call_yes h1 h2] at hI
  simp only [Bool.and_eq_true] at hI
  obtain ⟨hI1, hI2⟩ := hI
  obtain ⟨b0, o0, ha, hat, hia⟩ := as_at hx (by omega)
  have HV := Lib.hid (fun w' (hk : Kept [] w w') => ih w' (a0 x) (hT.kept hk) (hia.kept hk) hI1)
  have HB := Lib.hid (fun z (h : valP t n (a0 x) = some z) => val_bd hT.ll h)
  have HE := Lib.hid (fun w' (hk : Kept [] w w') => entity_any w' v t x (hT.kept hk))
  have HP := Lib.hid (fun w' m (hk : Kept [] w w') => plain_any w' v t m (hT.kept hk))
  have HG := Lib.hid (fun w' (hk : Kept [] w w') => argued_any w' v t x n (hT.kept hk) (hx.kept hk) (by omega))
  have HM : Hid (rawF (valP t n) t x = match valP t n (a0 x) with | none => none | some u => (match arguedP t x with
    | some (s, a) => if s.2 then withinP (u + s.1) a else some u
    | none => match plainP t (entP t x.ent).sub with
      | some (b, _) => withinP u b
      | none => none)) := by
    rw [Hid, rawF]
    simp only [hk]
    rfl
  have HAS := Lib.hid (fun s a h => argued_is (t := t) (x := x) (s := s) (a := a) h1 h)
  have HAB := Lib.hid (fun s a h => argued_bd (t := t) (x := x) (s := s) (a := a) h)
  have HAO := Lib.hid (argued_ok (t := t) h1)
  have HPO := Lib.hid (plainX_ok t (entP t x.ent).sub)
  have HI2 := Lib.hid hI2
  have HPS := Lib.hid (fun b a h => plainX_some (t := t) (n := (entP t x.ent).sub) (b := b) (a := a) h)
  have q2 := hx.2.2.2.2.2.1
  have l2 : (0 : Int) < (x.al.length : Int) := by omega
  clear ih hT hx hI1 hI2 hia h1 h2
  unfold TabV.cells at *
  unfold avV at HG
  unfold pvV at HP
  unfold entA at HE
  generalize valP t n (a0 x) = o at *
  generalize a0 x = y at *
  cases o with
  | none =>
    have HW : Hid (rawF (valP t n) t x = none) := HM.out
    clear HE HP HG HM HAS HAB HAO HPO HPS HI2
    go_enter Try.func38, Try.ntmps38
    go_wp2_with fail
    refine wp_region_heads [0,1,2,3,4,5] [6,7] (by kernel_rfl) (by kernel_rfl) (fun _ _ _ _ _ h => h) ?_; apply Exists.intro; refine ⟨fun U hU hN => ?_, ?_⟩; simp only [pick, List.flatMap_cons, List.flatMap_nil, List.getElem?_cons_zero, List.getElem?_cons_succ, Option.toList_some, List.cons_append, List.nil_append]
    · repeat (go_big_quiet_step (fail))
      refine wpQuiet_nil ?_
      exact rfl
    simp only [pick, List.flatMap_cons, List.flatMap_nil, List.getElem?_cons_zero, List.getElem?_cons_succ, Option.toList_some, List.cons_append, List.nil_append]
    intro w4 hk4
    haveI p_w4 : PrevWorld w4 _ := ⟨hk4⟩
    clear hk4
    go_wp2_with fail
    refine (Calls.retP (HV.out _ (by repeat (first | with_reducible exact HK.out | with_reducible exact Kept.refl _ _ | with_reducible refine Kept.prev ?_ | with_reducible refine Kept.alloc' ?_ _ | with_reducible refine Kept.drew' ?_ | with_reducible refine Kept.setB ?_ _ _ _ (by omega) | with_reducible refine Kept.row' ?_ _ _ (by omega) | with_reducible refine Kept.map' ?_ _ _ (by omega)))) rfl).mono ?_; rintro e w5 ⟨rfl, hk_w5⟩; haveI p_w5 : PrevWorld w5 _ := ⟨hk_w5⟩; have hz_w5 : w.heap.size ≤ w5.heap.size := Kept.size (by repeat (first | with_reducible exact HK.out | with_reducible exact Kept.refl _ _ | with_reducible refine Kept.prev ?_ | with_reducible refine Kept.alloc' ?_ _ | with_reducible refine Kept.drew' ?_ | with_reducible refine Kept.setB ?_ _ _ _ (by omega) | with_reducible refine Kept.row' ?_ _ _ (by omega) | with_reducible refine Kept.map' ?_ _ _ (by omega))); clear hk_w5
    show bodyPost _ _ _ (.panic failC) _ _
    rw [HW.out]
    exact bodyPost_p rfl (by repeat (first | with_reducible exact HK.out | with_reducible exact Kept.refl _ _ | with_reducible refine Kept.prev ?_ | with_reducible refine Kept.alloc' ?_ _ | with_reducible refine Kept.drew' ?_ | with_reducible refine Kept.setB ?_ _ _ _ (by omega) | with_reducible refine Kept.row' ?_ _ _ (by omega) | with_reducible refine Kept.map' ?_ _ _ (by omega)))
  | some u =>
  obtain ⟨u1, u2⟩ := HB.out u rfl
  cases hg : arguedP t x with
  | some r =>
    obtain ⟨⟨k, c⟩, a⟩ := r
    obtain ⟨k1, k2⟩ := HAB.out _ _ hg
    rw [HAS.out _ _ hg] at HG
    simp only at k1 k2 HG
    have HW0 : Hid (rawF (valP t n) t x = if c then withinP (u + k) a else some u) := by rw [Hid, HM.out, hg]
    clear HE HP HM HAS HAB HAO HPO HPS HI2 hg
    cases c
    · have HW : Hid (rawF (valP t n) t x = some u) := HW0.out
      go_enter Try.func38, Try.ntmps38
      go_wp2_with fail
      refine wp_region_heads [0,1,2,3,4,5] [6,7] (by kernel_rfl) (by kernel_rfl) (fun _ _ _ _ _ h => h) ?_; apply Exists.intro; refine ⟨fun U hU hN => ?_, ?_⟩; simp only [pick, List.flatMap_cons, List.flatMap_nil, List.getElem?_cons_zero, List.getElem?_cons_succ, Option.toList_some, List.cons_append, List.nil_append]
      · repeat (go_big_quiet_step (fail))
        refine wpQuiet_nil ?_
        exact rfl
      simp only [pick, List.flatMap_cons, List.flatMap_nil, List.getElem?_cons_zero, List.getElem?_cons_succ, Option.toList_some, List.cons_append, List.nil_append]
      intro w4 hk4
      haveI p_w4 : PrevWorld w4 _ := ⟨hk4⟩
      clear hk4
      go_wp2_with fail
      refine (Calls.retV (HV.out _ (by repeat (first | with_reducible exact HK.out | with_reducible exact Kept.refl _ _ | with_reducible refine Kept.prev ?_ | with_reducible refine Kept.alloc' ?_ _ | with_reducible refine Kept.drew' ?_ | with_reducible refine Kept.setB ?_ _ _ _ (by omega) | with_reducible refine Kept.row' ?_ _ _ (by omega) | with_reducible refine Kept.map' ?_ _ _ (by omega)))) rfl).mono ?_; rintro e w5 ⟨rfl, hk_w5⟩; haveI p_w5 : PrevWorld w5 _ := ⟨hk_w5⟩; have hz_w5 : w.heap.size ≤ w5.heap.size := Kept.size (by repeat (first | with_reducible exact HK.out | with_reducible exact Kept.refl _ _ | with_reducible refine Kept.prev ?_ | with_reducible refine Kept.alloc' ?_ _ | with_reducible refine Kept.drew' ?_ | with_reducible refine Kept.setB ?_ _ _ _ (by omega) | with_reducible refine Kept.row' ?_ _ _ (by omega) | with_reducible refine Kept.map' ?_ _ _ (by omega))); clear hk_w5
      go_wp2_with fail
      refine (HG.out _ (by repeat (first | with_reducible exact HK.out | with_reducible exact Kept.refl _ _ | with_reducible refine Kept.prev ?_ | with_reducible refine Kept.alloc' ?_ _ | with_reducible refine Kept.drew' ?_ | with_reducible refine Kept.setB ?_ _ _ _ (by omega) | with_reducible refine Kept.row' ?_ _ _ (by omega) | with_reducible refine Kept.map' ?_ _ _ (by omega)))).mono ?_; rintro e w6 ⟨rfl, hk_w6⟩; haveI p_w6 : PrevWorld w6 _ := ⟨hk_w6⟩; have hz_w6 : w.heap.size ≤ w6.heap.size := Kept.size (by repeat (first | with_reducible exact HK.out | with_reducible exact Kept.refl _ _ | with_reducible refine Kept.prev ?_ | with_reducible refine Kept.alloc' ?_ _ | with_reducible refine Kept.drew' ?_ | with_reducible refine Kept.setB ?_ _ _ _ (by omega) | with_reducible refine Kept.row' ?_ _ _ (by omega) | with_reducible refine Kept.map' ?_ _ _ (by omega))); clear hk_w6
      go_wp2_with fail
      rw [HW.out]
      exact bodyPost_o rfl (res1 Try.results38 (resT rfl)) (by repeat (first | with_reducible exact HK.out | with_reducible exact Kept.refl _ _ | with_reducible refine Kept.prev ?_ | with_reducible refine Kept.alloc' ?_ _ | with_reducible refine Kept.drew' ?_ | with_reducible refine Kept.setB ?_ _ _ _ (by omega) | with_reducible refine Kept.row' ?_ _ _ (by omega) | with_reducible refine Kept.map' ?_ _ _ (by omega)))
    · have HW1 : Hid (rawF (valP t n) t x = withinP (u + k) a) := HW0.out
      clear HW0
      go_enter Try.func38, Try.ntmps38
      go_wp2_with fail
      refine wp_region_heads [0,1,2,3,4,5] [6,7] (by kernel_rfl) (by kernel_rfl) (fun _ _ _ _ _ h => h) ?_; apply Exists.intro; refine ⟨fun U hU hN => ?_, ?_⟩; simp only [pick, List.flatMap_cons, List.flatMap_nil, List.getElem?_cons_zero, List.getElem?_cons_succ, Option.toList_some, List.cons_append, List.nil_append]
      · repeat (go_big_quiet_step (fail))
        refine wpQuiet_nil ?_
        exact rfl
      simp only [pick, List.flatMap_cons, List.flatMap_nil, List.getElem?_cons_zero, List.getElem?_cons_succ, Option.toList_some, List.cons_append, List.nil_append]
      intro w4 hk4
      haveI p_w4 : PrevWorld w4 _ := ⟨hk4⟩
      clear hk4
      go_wp2_with fail
      refine (Calls.retV (HV.out _ (by repeat (first | with_reducible exact HK.out | with_reducible exact Kept.refl _ _ | with_reducible refine Kept.prev ?_ | with_reducible refine Kept.alloc' ?_ _ | with_reducible refine Kept.drew' ?_ | with_reducible refine Kept.setB ?_ _ _ _ (by omega) | with_reducible refine Kept.row' ?_ _ _ (by omega) | with_reducible refine Kept.map' ?_ _ _ (by omega)))) rfl).mono ?_; rintro e w5 ⟨rfl, hk_w5⟩; haveI p_w5 : PrevWorld w5 _ := ⟨hk_w5⟩; have hz_w5 : w.heap.size ≤ w5.heap.size := Kept.size (by repeat (first | with_reducible exact HK.out | with_reducible exact Kept.refl _ _ | with_reducible refine Kept.prev ?_ | with_reducible refine Kept.alloc' ?_ _ | with_reducible refine Kept.drew' ?_ | with_reducible refine Kept.setB ?_ _ _ _ (by omega) | with_reducible refine Kept.row' ?_ _ _ (by omega) | with_reducible refine Kept.map' ?_ _ _ (by omega))); clear hk_w5
      go_wp2_with fail
      refine (HG.out _ (by repeat (first | with_reducible exact HK.out | with_reducible exact Kept.refl _ _ | with_reducible refine Kept.prev ?_ | with_reducible refine Kept.alloc' ?_ _ | with_reducible refine Kept.drew' ?_ | with_reducible refine Kept.setB ?_ _ _ _ (by omega) | with_reducible refine Kept.row' ?_ _ _ (by omega) | with_reducible refine Kept.map' ?_ _ _ (by omega)))).mono ?_; rintro e w6 ⟨rfl, hk_w6⟩; haveI p_w6 : PrevWorld w6 _ := ⟨hk_w6⟩; have hz_w6 : w.heap.size ≤ w6.heap.size := Kept.size (by repeat (first | with_reducible exact HK.out | with_reducible exact Kept.refl _ _ | with_reducible refine Kept.prev ?_ | with_reducible refine Kept.alloc' ?_ _ | with_reducible refine Kept.drew' ?_ | with_reducible refine Kept.setB ?_ _ _ _ (by omega) | with_reducible refine Kept.row' ?_ _ _ (by omega) | with_reducible refine Kept.map' ?_ _ _ (by omega))); clear hk_w6
      go_wp2_with fail
      cases hq : withinP (u + k) a with
      | none =>
        have HW : Hid (rawF (valP t n) t x = none) := by rw [Hid, HW1.out, hq]
        refine (Calls.retP (within_any _ _ a) hq).mono ?_; rintro e w10 ⟨rfl, hk_w10⟩; haveI p_w10 : PrevWorld w10 _ := ⟨hk_w10⟩; have hz_w10 : w.heap.size ≤ w10.heap.size := Kept.size (by repeat (first | with_reducible exact HK.out | with_reducible exact Kept.refl _ _ | with_reducible refine Kept.prev ?_ | with_reducible refine Kept.alloc' ?_ _ | with_reducible refine Kept.drew' ?_ | with_reducible refine Kept.setB ?_ _ _ _ (by omega) | with_reducible refine Kept.row' ?_ _ _ (by omega) | with_reducible refine Kept.map' ?_ _ _ (by omega))); clear hk_w10
        show bodyPost _ _ _ (.panic failC) _ _
        rw [HW.out]
        exact bodyPost_p rfl (by repeat (first | with_reducible exact HK.out | with_reducible exact Kept.refl _ _ | with_reducible refine Kept.prev ?_ | with_reducible refine Kept.alloc' ?_ _ | with_reducible refine Kept.drew' ?_ | with_reducible refine Kept.setB ?_ _ _ _ (by omega) | with_reducible refine Kept.row' ?_ _ _ (by omega) | with_reducible refine Kept.map' ?_ _ _ (by omega)))
      | some u' =>
        have HW : Hid (rawF (valP t n) t x = some u') := by rw [Hid, HW1.out, hq]
        refine (Calls.retV (within_any _ _ a) hq).mono ?_; rintro e w10 ⟨rfl, hk_w10⟩; haveI p_w10 : PrevWorld w10 _ := ⟨hk_w10⟩; have hz_w10 : w.heap.size ≤ w10.heap.size := Kept.size (by repeat (first | with_reducible exact HK.out | with_reducible exact Kept.refl _ _ | with_reducible refine Kept.prev ?_ | with_reducible refine Kept.alloc' ?_ _ | with_reducible refine Kept.drew' ?_ | with_reducible refine Kept.setB ?_ _ _ _ (by omega) | with_reducible refine Kept.row' ?_ _ _ (by omega) | with_reducible refine Kept.map' ?_ _ _ (by omega))); clear hk_w10
        clear hq
        go_wp2_with fail
        rw [HW.out]
        exact bodyPost_o rfl (res1 Try.results38 (resT rfl)) (by repeat (first | with_reducible exact HK.out | with_reducible exact Kept.refl _ _ | with_reducible refine Kept.prev ?_ | with_reducible refine Kept.alloc' ?_ _ | with_reducible refine Kept.drew' ?_ | with_reducible refine Kept.setB ?_ _ _ _ (by omega) | with_reducible refine Kept.row' ?_ _ _ (by omega) | with_reducible refine Kept.map' ?_ _ _ (by omega)))
  | none =>
    have hx2 : (arguedX t x).2.2 = false := by rw [HAO.out, hg]; rfl
    have h3 := HI2.out
    rw [hx2, Bool.false_or, Bool.and_eq_true, HPO.out] at h3
    obtain ⟨⟨b, a⟩, hp⟩ := Option.isSome_iff_exists.1 h3.2
    have HW1 : Hid (rawF (valP t n) t x = withinP u b) := by rw [Hid, HM.out, hg]; simp only [hp]
    have HPX := Lib.hid (HPS.out _ _ hp)
    have HP2 := Lib.hid (fun w' hk => HP.out w' (entP t x.ent).sub hk)
    clear HM HAS HAB HAO HPO HPS HI2 h3 hg hp HP
    rw [HPX.out] at HP2
    simp only at HP2
    generalize entP t x.ent = e at *
    go_enter Try.func38, Try.ntmps38
    go_wp2_with fail
    refine wp_region_heads [0,1,2,3,4,5] [6,7] (by kernel_rfl) (by kernel_rfl) (fun _ _ _ _ _ h => h) ?_; apply Exists.intro; refine ⟨fun U hU hN => ?_, ?_⟩; simp only [pick, List.flatMap_cons, List.flatMap_nil, List.getElem?_cons_zero, List.getElem?_cons_succ, Option.toList_some, List.cons_append, List.nil_append]
    · repeat (go_big_quiet_step (fail))
      refine wpQuiet_nil ?_
      exact rfl
    simp only [pick, List.flatMap_cons, List.flatMap_nil, List.getElem?_cons_zero, List.getElem?_cons_succ, Option.toList_some, List.cons_append, List.nil_append]
    intro w4 hk4
    haveI p_w4 : PrevWorld w4 _ := ⟨hk4⟩
    clear hk4
    go_wp2_with fail
    refine (Calls.retV (HV.out _ (by repeat (first | with_reducible exact HK.out | with_reducible exact Kept.refl _ _ | with_reducible refine Kept.prev ?_ | with_reducible refine Kept.alloc' ?_ _ | with_reducible refine Kept.drew' ?_ | with_reducible refine Kept.setB ?_ _ _ _ (by omega) | with_reducible refine Kept.row' ?_ _ _ (by omega) | with_reducible refine Kept.map' ?_ _ _ (by omega)))) rfl).mono ?_; rintro e w5 ⟨rfl, hk_w5⟩; haveI p_w5 : PrevWorld w5 _ := ⟨hk_w5⟩; have hz_w5 : w.heap.size ≤ w5.heap.size := Kept.size (by repeat (first | with_reducible exact HK.out | with_reducible exact Kept.refl _ _ | with_reducible refine Kept.prev ?_ | with_reducible refine Kept.alloc' ?_ _ | with_reducible refine Kept.drew' ?_ | with_reducible refine Kept.setB ?_ _ _ _ (by omega) | with_reducible refine Kept.row' ?_ _ _ (by omega) | with_reducible refine Kept.map' ?_ _ _ (by omega))); clear hk_w5
    go_wp2_with fail
    refine (HG.out _ (by repeat (first | with_reducible exact HK.out | with_reducible exact Kept.refl _ _ | with_reducible refine Kept.prev ?_ | with_reducible refine Kept.alloc' ?_ _ | with_reducible refine Kept.drew' ?_ | with_reducible refine Kept.setB ?_ _ _ _ (by omega) | with_reducible refine Kept.row' ?_ _ _ (by omega) | with_reducible refine Kept.map' ?_ _ _ (by omega)))).mono ?_; rintro e w6 ⟨rfl, hk_w6⟩; haveI p_w6 : PrevWorld w6 _ := ⟨hk_w6⟩; have hz_w6 : w.heap.size ≤ w6.heap.size := Kept.size (by repeat (first | with_reducible exact HK.out | with_reducible exact Kept.refl _ _ | with_reducible refine Kept.prev ?_ | with_reducible refine Kept.alloc' ?_ _ | with_reducible refine Kept.drew' ?_ | with_reducible refine Kept.setB ?_ _ _ _ (by omega) | with_reducible refine Kept.row' ?_ _ _ (by omega) | with_reducible refine Kept.map' ?_ _ _ (by omega))); clear hk_w6
    clear HV HG HB
    go_wp2_with fail
    refine wp_region_head 10 2 (fun _ => .cells #[.int .i64 0, .int .i64 0] 55) (by kernel_rfl) (by kernel_rfl) (fun i o h1 h2 h3 => by obtain rfl | rfl : i = 10 ∨ i = 11 := (by omega); all_goals (obtain rfl := Option.some.inj h3; exact alc_of rfl rfl Try.zeroBd)) (fun _ _ _ _ _ h => h) ?_; apply Exists.intro; refine ⟨fun U hU hN => ?_, ?_⟩; simp only [List.take_succ_cons, List.take_zero]
    · iterate 3 (go_big_quiet_step (fail))
      go_big_quiet_step (exact Calls.headV hU (HE.out _ (Kept.trans (by repeat (first | with_reducible exact HK.out | with_reducible exact Kept.refl _ _ | with_reducible refine Kept.prev ?_ | with_reducible refine Kept.alloc' ?_ _ | with_reducible refine Kept.drew' ?_ | with_reducible refine Kept.setB ?_ _ _ _ (by omega) | with_reducible refine Kept.row' ?_ _ _ (by omega) | with_reducible refine Kept.map' ?_ _ _ (by omega))) (AfterU.prop _))))
      go_big_quiet_step (fail)
      go_big_quiet_step (exact Calls.headV hU (HP2.out _ (Kept.trans (by repeat (first | with_reducible exact HK.out | with_reducible exact Kept.refl _ _ | with_reducible refine Kept.prev ?_ | with_reducible refine Kept.alloc' ?_ _ | with_reducible refine Kept.drew' ?_ | with_reducible refine Kept.setB ?_ _ _ _ (by omega) | with_reducible refine Kept.row' ?_ _ _ (by omega) | with_reducible refine Kept.map' ?_ _ _ (by omega))) (AfterU.prop _))))
      repeat (go_big_quiet_step (fail))
      refine wpQuiet_nil ?_
      exact rfl
    simp only [List.drop_succ_cons, List.drop_zero, List.take_succ_cons, List.take_zero]
    intro B2 hB2 _ B3 hB3 hne w8 hk8 hh
    haveI p_w8 : PrevWorld w8 _ := ⟨hk8⟩
    haveI bx2 : BoxIs w8 B2 55 #[.int .i64 0, .int .i64 0] := box_of hh (by simp)
    haveI bx3 : BoxIs w8 B3 55 #[.int .i64 0, .int .i64 0] := box_of hh (by simp)
    have hne2 := ne_of hne
    haveI ap1 : Apart B2 B3 := ⟨hne2⟩
    haveI ap2 : Apart B3 B2 := ⟨hne2.symm⟩
    haveI g2 : BornAfter B2 _ := ⟨hB2⟩
    haveI g3 : BornAfter B3 _ := ⟨hB3⟩
    have hz2 : w.heap.size ≤ B2 := Nat.le_trans (Kept.size (X := []) (by repeat (first | with_reducible exact HK.out | with_reducible exact Kept.refl _ _ | with_reducible refine Kept.prev ?_ | with_reducible refine Kept.alloc' ?_ _ | with_reducible refine Kept.drew' ?_ | with_reducible refine Kept.setB ?_ _ _ _ (by omega) | with_reducible refine Kept.row' ?_ _ _ (by omega) | with_reducible refine Kept.map' ?_ _ _ (by omega)))) hB2
    have hz3 : w.heap.size ≤ B3 := Nat.le_trans (Kept.size (X := []) (by repeat (first | with_reducible exact HK.out | with_reducible exact Kept.refl _ _ | with_reducible refine Kept.prev ?_ | with_reducible refine Kept.alloc' ?_ _ | with_reducible refine Kept.drew' ?_ | with_reducible refine Kept.setB ?_ _ _ _ (by omega) | with_reducible refine Kept.row' ?_ _ _ (by omega) | with_reducible refine Kept.map' ?_ _ _ (by omega)))) hB3
    clear hk8 hh hne
    clear HE HP2
    go_wp2_with fail
    cases hq : withinP u b with
    | none =>
      have HW : Hid (rawF (valP t n) t x = none) := by rw [Hid, HW1.out, hq]
      refine (Calls.retP (within_any _ _ b) hq).mono ?_; rintro e w10 ⟨rfl, hk_w10⟩; haveI p_w10 : PrevWorld w10 _ := ⟨hk_w10⟩; have hz_w10 : w.heap.size ≤ w10.heap.size := Kept.size (by repeat (first | with_reducible exact HK.out | with_reducible exact Kept.refl _ _ | with_reducible refine Kept.prev ?_ | with_reducible refine Kept.alloc' ?_ _ | with_reducible refine Kept.drew' ?_ | with_reducible refine Kept.setB ?_ _ _ _ (by omega) | with_reducible refine Kept.row' ?_ _ _ (by omega) | with_reducible refine Kept.map' ?_ _ _ (by omega))); clear hk_w10
      show bodyPost _ _ _ (.panic failC) _ _
      rw [HW.out]
      exact bodyPost_p rfl (by repeat (first | with_reducible exact HK.out | with_reducible exact Kept.refl _ _ | with_reducible refine Kept.prev ?_ | with_reducible refine Kept.alloc' ?_ _ | with_reducible refine Kept.drew' ?_ | with_reducible refine Kept.setB ?_ _ _ _ (by omega) | with_reducible refine Kept.row' ?_ _ _ (by omega) | with_reducible refine Kept.map' ?_ _ _ (by omega)))
    | some u' =>
      have HW : Hid (rawF (valP t n) t x = some u') := by rw [Hid, HW1.out, hq]
      refine (Calls.retV (within_any _ _ b) hq).mono ?_; rintro e w10 ⟨rfl, hk_w10⟩; haveI p_w10 : PrevWorld w10 _ := ⟨hk_w10⟩; have hz_w10 : w.heap.size ≤ w10.heap.size := Kept.size (by repeat (first | with_reducible exact HK.out | with_reducible exact Kept.refl _ _ | with_reducible refine Kept.prev ?_ | with_reducible refine Kept.alloc' ?_ _ | with_reducible refine Kept.drew' ?_ | with_reducible refine Kept.setB ?_ _ _ _ (by omega) | with_reducible refine Kept.row' ?_ _ _ (by omega) | with_reducible refine Kept.map' ?_ _ _ (by omega))); clear hk_w10
      clear hq
      go_wp2_with fail
      rw [HW.out]
      exact bodyPost_o rfl (res1 Try.results38 (resT rfl)) (by repeat (first | with_reducible exact HK.out | with_reducible exact Kept.refl _ _ | with_reducible refine Kept.prev ?_ | with_reducible refine Kept.alloc' ?_ _ | with_reducible refine Kept.drew' ?_ | with_reducible refine Kept.setB ?_ _ _ _ (by omega) | with_reducible refine Kept.row' ?_ _ _ (by omega) | with_reducible refine Kept.map' ?_ _ _ (by omega)))
end Go.Proofs.Ytgdjhhfbpalkdaa
