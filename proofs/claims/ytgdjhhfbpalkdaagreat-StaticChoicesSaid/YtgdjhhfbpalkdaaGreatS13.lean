/- is, the other kinds; the whole. -/
import Derived.Test.YtgdjhhfbpalkdaaGreatS12
namespace Go.Proofs.YtgdjhhfbpalkdaaGreat
open Go.RowKit
theorem qual_no {I : ExV → Bool} {t : Tab} {x : ExV} (h : x.ls.length ≠ 2) : qualF I t x = false := by
  unfold qualF
  split
  · rename_i h1; rw [h1] at h; simp at h
  · rfl
theorem qual_yes {I : ExV → Bool} {t : Tab} {x : ExV} (h : x.ls.length = 2) : qualF I t x = ((markX t (l0 x)).2.2 && I (l1 x)) := by
  have e := list2 (d := default) h
  have h0 : l0 x = x.ls.getD 0 default := rfl
  have h1 : l1 x = x.ls.getD 1 default := rfl
  rw [← h0, ← h1] at e
  rw [markX_ok]
  unfold qualF
  rw [e]
theorem in_two {I : ExV → Bool} {t : Tab} {x : ExV} (h : x.ls.length = 2) : inF I t x = ((markX t (l1 x)).2.2 && I (l0 x)) := by
  have e := list2 (d := default) h
  have h0 : l0 x = x.ls.getD 0 default := rfl
  have h1 : l1 x = x.ls.getD 1 default := rfl
  rw [← h0, ← h1] at e
  rw [markX_ok]
  unfold inF
  rw [e]
theorem in_three {I : ExV → Bool} {t : Tab} {x : ExV} (h : x.ls.length ≠ 2) : inF I t x = allF I x.ls 3 := by
  unfold inF
  split
  · rename_i h1; rw [h1] at h; simp at h
  · rfl
theorem ex_second {w : World} {n : Nat} {x : ExV} (h : ExIn w (n + 1) x) (hj : 1 < x.ls.length) : ∃ b o, x.la = some ⟨b, o, none⟩ ∧ ExAt w b o (l0 x) ∧ ExAt w b (o + 9) (l1 x) ∧ ExIn w n (l0 x) ∧ ExIn w n (l1 x) := by
  obtain ⟨b, o, h1, h2, h3⟩ := ex_first h (by omega)
  obtain ⟨b', o', h4, h5, h6⟩ := ex_at h hj
  rw [h1] at h4
  cases h4
  have e : o + 1 * 9 = o + 9 := by omega
  rw [e] at h5
  exact ⟨b, o, h1, h2, h5, h3, h6⟩
section
variable (w : World) (v : TabV) (t : Tab) (x : ExV) (n : Nat)

set_option maxRecDepth 100000 in
set_option maxHeartbeats 2000000 in
theorem is_qual (ih : IsAt v t n) (hT : TabIn w v t) (hx : ExIn w (n + 1) x) (hs : (spanP t x.t).isSome = true) (hk : x.kind = 8) : Calls Tryz.prog 21 #[.agg (v.cells t), .agg x.cells.toArray] w (RetV (.bool (isF (isP t n) t x)) w) := by
  have HSP := Lib.hid (fun w' m (hk : Kept [] w w') => span_any w' v t m (hT.kept hk))
  unfold TabV.cells at HSP
  unfold bdV at HSP
  have HM := Lib.hid (fun w' m (hk : Kept [] w w') => mark_any w' v t m (hT.kept hk))
  have HI := Lib.hid (fun w' (hk : Kept [] w w') y hy => ih w' y (hT.kept hk) hy)
  have HW0 : Hid (isF (isP t n) t x = qualF (isP t n) t x) := by rw [Hid, isF, hs]; simp [hk]
  have q1 := hx.2.2.2.2.1
  by_cases hl : x.ls.length = 2
  rotate_left
  · have HW : Hid (isF (isP t n) t x = false) := by rw [Hid, HW0.out, qual_no hl]
    have hl2 : ((x.ls.length : Int) != 2) = true := by simp; omega
    clear hT hx ih HM HI HW0 hl
    unfold TabV.cells
    go_enter Tryz.func21, Tryz.ntmps21
    go_wp2_with fail
    refine (HSP.out _ _ (by repeat (first | with_reducible exact HK.out | with_reducible exact Kept.refl _ _ | with_reducible refine Kept.prev ?_ | with_reducible refine Kept.alloc' ?_ _ | with_reducible refine Kept.drew' ?_ | with_reducible refine Kept.setB ?_ _ _ _ (by omega) | with_reducible refine Kept.row' ?_ _ _ (by omega) | with_reducible refine Kept.map' ?_ _ _ (by omega)))).mono ?_; rintro e w1 ⟨rfl, hk_w1⟩; haveI p_w1 : PrevWorld w1 _ := ⟨hk_w1⟩; have hz_w1 : w.heap.size ≤ w1.heap.size := Kept.size (by repeat (first | with_reducible exact HK.out | with_reducible exact Kept.refl _ _ | with_reducible refine Kept.prev ?_ | with_reducible refine Kept.alloc' ?_ _ | with_reducible refine Kept.drew' ?_ | with_reducible refine Kept.setB ?_ _ _ _ (by omega) | with_reducible refine Kept.row' ?_ _ _ (by omega) | with_reducible refine Kept.map' ?_ _ _ (by omega))); clear hk_w1
    clear HSP
    go_wp2_with fail
    rw [HW.out]
    exact bodyPost_v rfl (res1 Tryz.results21 (resT rfl)) (by repeat (first | with_reducible exact HK.out | with_reducible exact Kept.refl _ _ | with_reducible refine Kept.prev ?_ | with_reducible refine Kept.alloc' ?_ _ | with_reducible refine Kept.drew' ?_ | with_reducible refine Kept.setB ?_ _ _ _ (by omega) | with_reducible refine Kept.row' ?_ _ _ (by omega) | with_reducible refine Kept.map' ?_ _ _ (by omega)))
  have HW : Hid (isF (isP t n) t x = ((markX t (l0 x)).2.2 && isP t n (l1 x))) := by rw [Hid, HW0.out, qual_yes hl]
  obtain ⟨b0, o0, ha, hat0, hat1, _, hi1⟩ := ex_second hx (by omega)
  have HI1 := Lib.hid hi1
  have hl2 : ((x.ls.length : Int) != 2) = false := by simp; omega
  have hl3 : (1 : Int) < (x.ls.length : Int) := by omega
  have hl4 : (0 : Int) < (x.ls.length : Int) := by omega
  clear hT hx ih HW0 hl hi1
  generalize l0 x = y at *
  generalize l1 x = z at *
  unfold TabV.cells at HM HI
  unfold pvV at HM
  unfold TabV.cells
  go_enter Tryz.func21, Tryz.ntmps21
  go_wp2_with fail
  refine (HSP.out _ _ (by repeat (first | with_reducible exact HK.out | with_reducible exact Kept.refl _ _ | with_reducible refine Kept.prev ?_ | with_reducible refine Kept.alloc' ?_ _ | with_reducible refine Kept.drew' ?_ | with_reducible refine Kept.setB ?_ _ _ _ (by omega) | with_reducible refine Kept.row' ?_ _ _ (by omega) | with_reducible refine Kept.map' ?_ _ _ (by omega)))).mono ?_; rintro e w1 ⟨rfl, hk_w1⟩; haveI p_w1 : PrevWorld w1 _ := ⟨hk_w1⟩; have hz_w1 : w.heap.size ≤ w1.heap.size := Kept.size (by repeat (first | with_reducible exact HK.out | with_reducible exact Kept.refl _ _ | with_reducible refine Kept.prev ?_ | with_reducible refine Kept.alloc' ?_ _ | with_reducible refine Kept.drew' ?_ | with_reducible refine Kept.setB ?_ _ _ _ (by omega) | with_reducible refine Kept.row' ?_ _ _ (by omega) | with_reducible refine Kept.map' ?_ _ _ (by omega))); clear hk_w1
  clear HSP
  go_wp2_with fail
  refine wp_region_head 10 2 (fun _ => .cells #[.int .i64 0, .int .i64 0] 43) (by kernel_rfl) (by kernel_rfl) (fun i o h1 h2 h3 => by obtain rfl | rfl : i = 10 ∨ i = 11 := (by omega); all_goals (obtain rfl := Option.some.inj h3; exact alc_of rfl rfl Tryz.zeroBd)) (fun _ _ _ _ _ h => h) ?_; apply Exists.intro; refine ⟨fun U hU hN => ?_, ?_⟩; simp only [List.take_succ_cons, List.take_zero]
  · repeat (go_big_quiet_step (exact Calls.headV hU (HM.out _ _ (Kept.trans (by repeat (first | with_reducible exact HK.out | with_reducible exact Kept.refl _ _ | with_reducible refine Kept.prev ?_ | with_reducible refine Kept.alloc' ?_ _ | with_reducible refine Kept.drew' ?_ | with_reducible refine Kept.setB ?_ _ _ _ (by omega) | with_reducible refine Kept.row' ?_ _ _ (by omega) | with_reducible refine Kept.map' ?_ _ _ (by omega))) (AfterU.prop _)))))
    refine wpQuiet_nil ?_
    exact rfl
  simp only [List.drop_succ_cons, List.drop_zero, List.take_succ_cons, List.take_zero]
  intro B2 hB2 _ B3 hB3 hne w5 hk5 hh
  haveI p_w5 : PrevWorld w5 _ := ⟨hk5⟩
  haveI bx2 : BoxIs w5 B2 43 #[.int .i64 0, .int .i64 0] := box_of hh (by simp)
  haveI bx3 : BoxIs w5 B3 43 #[.int .i64 0, .int .i64 0] := box_of hh (by simp)
  have hne2 := ne_of hne
  haveI ap1 : Apart B2 B3 := ⟨hne2⟩
  haveI ap2 : Apart B3 B2 := ⟨hne2.symm⟩
  haveI g2 : BornAfter B2 _ := ⟨hB2⟩
  haveI g3 : BornAfter B3 _ := ⟨hB3⟩
  clear hk5 hh hne
  go_wp2_with fail
  refine wp_gen' ?_
  intro w6 hw6
  haveI p_w6 : PrevWorld w6 _ := ⟨by rw [hw6]; exact Kept.setB (Kept.setB (Kept.setB (Kept.setB p_w5.kept _ _ _ hB2) _ _ _ hB2) _ _ _ hB3) _ _ _ hB3⟩
  clear hw6 p_w5 bx2 bx3 hB2 hB3 ap1 ap2 g2 g3 hne2
  cases hm : (markX t y).2.2
  · rw [hm] at HW
    refine wp_region_head 10 0 (fun _ => .cells #[] 0) (by kernel_rfl) (by kernel_rfl) (fun i o h1 h2 => by omega) (fun _ _ _ _ _ h => h) ?_; apply Exists.intro; refine ⟨fun U hU hN => ?_, ?_⟩; simp only [List.take_succ_cons, List.take_zero]
    · repeat (go_big_quiet_step (fail))
      refine wpQuiet_nil ?_
      exact rfl
    simp only [List.drop_succ_cons, List.drop_zero, List.take_zero]
    intro w7 hk7 _
    haveI p_w7 : PrevWorld w7 _ := ⟨hk7⟩
    go_wp2_with fail
    rw [HW.out]
    exact bodyPost_v rfl (res1 Tryz.results21 (resT rfl)) (by repeat (first | with_reducible exact HK.out | with_reducible exact Kept.refl _ _ | with_reducible refine Kept.prev ?_ | with_reducible refine Kept.alloc' ?_ _ | with_reducible refine Kept.drew' ?_ | with_reducible refine Kept.setB ?_ _ _ _ (by omega) | with_reducible refine Kept.row' ?_ _ _ (by omega) | with_reducible refine Kept.map' ?_ _ _ (by omega)))
  rw [hm] at HW
  refine wp_region_head 10 0 (fun _ => .cells #[] 0) (by kernel_rfl) (by kernel_rfl) (fun i o h1 h2 => by omega) (fun _ _ _ _ _ h => h) ?_; apply Exists.intro; refine ⟨fun U hU hN => ?_, ?_⟩; simp only [List.take_succ_cons, List.take_zero]
  · repeat (go_big_quiet_step (exact Calls.headV hU (HI.out _ (Kept.trans (by repeat (first | with_reducible exact HK.out | with_reducible exact Kept.refl _ _ | with_reducible refine Kept.prev ?_ | with_reducible refine Kept.alloc' ?_ _ | with_reducible refine Kept.drew' ?_ | with_reducible refine Kept.setB ?_ _ _ _ (by omega) | with_reducible refine Kept.row' ?_ _ _ (by omega) | with_reducible refine Kept.map' ?_ _ _ (by omega))) (AfterU.prop _)) _ (HI1.out.kept (Kept.trans (by repeat (first | with_reducible exact HK.out | with_reducible exact Kept.refl _ _ | with_reducible refine Kept.prev ?_ | with_reducible refine Kept.alloc' ?_ _ | with_reducible refine Kept.drew' ?_ | with_reducible refine Kept.setB ?_ _ _ _ (by omega) | with_reducible refine Kept.row' ?_ _ _ (by omega) | with_reducible refine Kept.map' ?_ _ _ (by omega))) (AfterU.prop _))))))
    refine wpQuiet_nil ?_
    exact rfl
  simp only [List.drop_succ_cons, List.drop_zero, List.take_zero]
  intro w7 hk7 _
  haveI p_w7 : PrevWorld w7 _ := ⟨hk7⟩
  go_wp2_with fail
  rw [HW.out]
  exact bodyPost_v rfl (res1 Tryz.results21 (resT rfl)) (by repeat (first | with_reducible exact HK.out | with_reducible exact Kept.refl _ _ | with_reducible refine Kept.prev ?_ | with_reducible refine Kept.alloc' ?_ _ | with_reducible refine Kept.drew' ?_ | with_reducible refine Kept.setB ?_ _ _ _ (by omega) | with_reducible refine Kept.row' ?_ _ _ (by omega) | with_reducible refine Kept.map' ?_ _ _ (by omega)))

set_option maxRecDepth 100000 in
set_option maxHeartbeats 4000000 in
theorem is_in (ih : IsAt v t n) (hT : TabIn w v t) (hx : ExIn w (n + 1) x) (hs : (spanP t x.t).isSome = true) (hk : x.kind = 13 ∨ x.kind = 14) : Calls Tryz.prog 21 #[.agg (v.cells t), .agg x.cells.toArray] w (RetV (.bool (isF (isP t n) t x)) w) := by
  have HSP := Lib.hid (fun w' m (hk : Kept [] w w') => span_any w' v t m (hT.kept hk))
  unfold TabV.cells at HSP
  unfold bdV at HSP
  have HM := Lib.hid (fun w' m (hk : Kept [] w w') => mark_any w' v t m (hT.kept hk))
  have HI := Lib.hid (fun w' (hk : Kept [] w w') y hy => ih w' y (hT.kept hk) hy)
  have HA := Lib.hid (fun w' (hk : Kept [] w w') => all_any w' v t x.la x.lc x.ls n 3 ih (hT.kept hk) hx.2.2.2.2.1 (hx.1.kept hk) (fun y hy => (hx.2.1 y hy).kept hk))
  have HW0 : Hid (isF (isP t n) t x = inF (isP t n) t x) := by
    rw [Hid, isF, hs]
    rcases hk with h | h <;> simp [h]
  have q1 := hx.2.2.2.2.1
  by_cases hl : x.ls.length = 2
  rotate_left
  · have HW : Hid (isF (isP t n) t x = allF (isP t n) x.ls 3) := by rw [Hid, HW0.out, in_three hl]
    have hl2 : ((x.ls.length : Int) == 2) = false := by simp; omega
    clear hT hx ih HM HI HW0 hl
    unfold TabV.cells at HA
    unfold TabV.cells
    rcases hk with hk | hk
    all_goals
      go_enter Tryz.func21, Tryz.ntmps21
      go_wp2_with fail
      refine (HSP.out _ _ (by repeat (first | with_reducible exact HK.out | with_reducible exact Kept.refl _ _ | with_reducible refine Kept.prev ?_ | with_reducible refine Kept.alloc' ?_ _ | with_reducible refine Kept.drew' ?_ | with_reducible refine Kept.setB ?_ _ _ _ (by omega) | with_reducible refine Kept.row' ?_ _ _ (by omega) | with_reducible refine Kept.map' ?_ _ _ (by omega)))).mono ?_; rintro e w1 ⟨rfl, hk_w1⟩; haveI p_w1 : PrevWorld w1 _ := ⟨hk_w1⟩; have hz_w1 : w.heap.size ≤ w1.heap.size := Kept.size (by repeat (first | with_reducible exact HK.out | with_reducible exact Kept.refl _ _ | with_reducible refine Kept.prev ?_ | with_reducible refine Kept.alloc' ?_ _ | with_reducible refine Kept.drew' ?_ | with_reducible refine Kept.setB ?_ _ _ _ (by omega) | with_reducible refine Kept.row' ?_ _ _ (by omega) | with_reducible refine Kept.map' ?_ _ _ (by omega))); clear hk_w1
      clear HSP
      go_wp2_with fail
      refine (HA.out _ (by repeat (first | with_reducible exact HK.out | with_reducible exact Kept.refl _ _ | with_reducible refine Kept.prev ?_ | with_reducible refine Kept.alloc' ?_ _ | with_reducible refine Kept.drew' ?_ | with_reducible refine Kept.setB ?_ _ _ _ (by omega) | with_reducible refine Kept.row' ?_ _ _ (by omega) | with_reducible refine Kept.map' ?_ _ _ (by omega)))).mono ?_; rintro e w2 ⟨rfl, hk_w2⟩; haveI p_w2 : PrevWorld w2 _ := ⟨hk_w2⟩; have hz_w2 : w.heap.size ≤ w2.heap.size := Kept.size (by repeat (first | with_reducible exact HK.out | with_reducible exact Kept.refl _ _ | with_reducible refine Kept.prev ?_ | with_reducible refine Kept.alloc' ?_ _ | with_reducible refine Kept.drew' ?_ | with_reducible refine Kept.setB ?_ _ _ _ (by omega) | with_reducible refine Kept.row' ?_ _ _ (by omega) | with_reducible refine Kept.map' ?_ _ _ (by omega))); clear hk_w2
      go_wp2_with fail
      rw [HW.out]
      exact bodyPost_v rfl (res1 Tryz.results21 (resT rfl)) (by repeat (first | with_reducible exact HK.out | with_reducible exact Kept.refl _ _ | with_reducible refine Kept.prev ?_ | with_reducible refine Kept.alloc' ?_ _ | with_reducible refine Kept.drew' ?_ | with_reducible refine Kept.setB ?_ _ _ _ (by omega) | with_reducible refine Kept.row' ?_ _ _ (by omega) | with_reducible refine Kept.map' ?_ _ _ (by omega)))
  have HW : Hid (isF (isP t n) t x = ((markX t (l1 x)).2.2 && isP t n (l0 x))) := by rw [Hid, HW0.out, in_two hl]
  obtain ⟨b0, o0, ha, hat0, hat1, hi0, _⟩ := ex_second hx (by omega)
  have HI0 := Lib.hid hi0
  have hl2 : ((x.ls.length : Int) == 2) = true := by simp; omega
  have hl3 : (1 : Int) < (x.ls.length : Int) := by omega
  have hl4 : (0 : Int) < (x.ls.length : Int) := by omega
  clear hT hx ih HW0 hl hi0 HA
  generalize l0 x = y at *
  generalize l1 x = z at *
  unfold TabV.cells at HM HI
  unfold pvV at HM
  unfold TabV.cells
  rcases hk with hk | hk
  all_goals
    go_enter Tryz.func21, Tryz.ntmps21
    go_wp2_with fail
    refine (HSP.out _ _ (by repeat (first | with_reducible exact HK.out | with_reducible exact Kept.refl _ _ | with_reducible refine Kept.prev ?_ | with_reducible refine Kept.alloc' ?_ _ | with_reducible refine Kept.drew' ?_ | with_reducible refine Kept.setB ?_ _ _ _ (by omega) | with_reducible refine Kept.row' ?_ _ _ (by omega) | with_reducible refine Kept.map' ?_ _ _ (by omega)))).mono ?_; rintro e w1 ⟨rfl, hk_w1⟩; haveI p_w1 : PrevWorld w1 _ := ⟨hk_w1⟩; have hz_w1 : w.heap.size ≤ w1.heap.size := Kept.size (by repeat (first | with_reducible exact HK.out | with_reducible exact Kept.refl _ _ | with_reducible refine Kept.prev ?_ | with_reducible refine Kept.alloc' ?_ _ | with_reducible refine Kept.drew' ?_ | with_reducible refine Kept.setB ?_ _ _ _ (by omega) | with_reducible refine Kept.row' ?_ _ _ (by omega) | with_reducible refine Kept.map' ?_ _ _ (by omega))); clear hk_w1
    clear HSP
    go_wp2_with fail
    refine wp_region_head 10 2 (fun _ => .cells #[.int .i64 0, .int .i64 0] 43) (by kernel_rfl) (by kernel_rfl) (fun i o h1 h2 h3 => by obtain rfl | rfl : i = 10 ∨ i = 11 := (by omega); all_goals (obtain rfl := Option.some.inj h3; exact alc_of rfl rfl Tryz.zeroBd)) (fun _ _ _ _ _ h => h) ?_; apply Exists.intro; refine ⟨fun U hU hN => ?_, ?_⟩; simp only [List.take_succ_cons, List.take_zero]
    · repeat (go_big_quiet_step (exact Calls.headV hU (HM.out _ _ (Kept.trans (by repeat (first | with_reducible exact HK.out | with_reducible exact Kept.refl _ _ | with_reducible refine Kept.prev ?_ | with_reducible refine Kept.alloc' ?_ _ | with_reducible refine Kept.drew' ?_ | with_reducible refine Kept.setB ?_ _ _ _ (by omega) | with_reducible refine Kept.row' ?_ _ _ (by omega) | with_reducible refine Kept.map' ?_ _ _ (by omega))) (AfterU.prop _)))))
      refine wpQuiet_nil ?_
      exact rfl
    simp only [List.drop_succ_cons, List.drop_zero, List.take_succ_cons, List.take_zero]
    intro B2 hB2 _ B3 hB3 hne w5 hk5 hh
    haveI p_w5 : PrevWorld w5 _ := ⟨hk5⟩
    haveI bx2 : BoxIs w5 B2 43 #[.int .i64 0, .int .i64 0] := box_of hh (by simp)
    haveI bx3 : BoxIs w5 B3 43 #[.int .i64 0, .int .i64 0] := box_of hh (by simp)
    have hne2 := ne_of hne
    haveI ap1 : Apart B2 B3 := ⟨hne2⟩
    haveI ap2 : Apart B3 B2 := ⟨hne2.symm⟩
    haveI g2 : BornAfter B2 _ := ⟨hB2⟩
    haveI g3 : BornAfter B3 _ := ⟨hB3⟩
    clear hk5 hh hne
    go_wp2_with fail
    refine wp_gen' ?_
    intro w6 hw6
    haveI p_w6 : PrevWorld w6 _ := ⟨by rw [hw6]; exact Kept.setB (Kept.setB (Kept.setB (Kept.setB p_w5.kept _ _ _ hB2) _ _ _ hB2) _ _ _ hB3) _ _ _ hB3⟩
    clear hw6 p_w5 bx2 bx3 hB2 hB3 ap1 ap2 g2 g3 hne2
    cases hm : (markX t z).2.2
    · rw [hm] at HW
      refine wp_region_head 10 0 (fun _ => .cells #[] 0) (by kernel_rfl) (by kernel_rfl) (fun i o h1 h2 => by omega) (fun _ _ _ _ _ h => h) ?_; apply Exists.intro; refine ⟨fun U hU hN => ?_, ?_⟩; simp only [List.take_succ_cons, List.take_zero]
      · repeat (go_big_quiet_step (fail))
        refine wpQuiet_nil ?_
        exact rfl
      simp only [List.drop_succ_cons, List.drop_zero, List.take_zero]
      intro w7 hk7 _
      haveI p_w7 : PrevWorld w7 _ := ⟨hk7⟩
      go_wp2_with fail
      rw [HW.out]
      exact bodyPost_v rfl (res1 Tryz.results21 (resT rfl)) (by repeat (first | with_reducible exact HK.out | with_reducible exact Kept.refl _ _ | with_reducible refine Kept.prev ?_ | with_reducible refine Kept.alloc' ?_ _ | with_reducible refine Kept.drew' ?_ | with_reducible refine Kept.setB ?_ _ _ _ (by omega) | with_reducible refine Kept.row' ?_ _ _ (by omega) | with_reducible refine Kept.map' ?_ _ _ (by omega)))
    rw [hm] at HW
    refine wp_region_head 10 0 (fun _ => .cells #[] 0) (by kernel_rfl) (by kernel_rfl) (fun i o h1 h2 => by omega) (fun _ _ _ _ _ h => h) ?_; apply Exists.intro; refine ⟨fun U hU hN => ?_, ?_⟩; simp only [List.take_succ_cons, List.take_zero]
    · repeat (go_big_quiet_step (exact Calls.headV hU (HI.out _ (Kept.trans (by repeat (first | with_reducible exact HK.out | with_reducible exact Kept.refl _ _ | with_reducible refine Kept.prev ?_ | with_reducible refine Kept.alloc' ?_ _ | with_reducible refine Kept.drew' ?_ | with_reducible refine Kept.setB ?_ _ _ _ (by omega) | with_reducible refine Kept.row' ?_ _ _ (by omega) | with_reducible refine Kept.map' ?_ _ _ (by omega))) (AfterU.prop _)) _ (HI0.out.kept (Kept.trans (by repeat (first | with_reducible exact HK.out | with_reducible exact Kept.refl _ _ | with_reducible refine Kept.prev ?_ | with_reducible refine Kept.alloc' ?_ _ | with_reducible refine Kept.drew' ?_ | with_reducible refine Kept.setB ?_ _ _ _ (by omega) | with_reducible refine Kept.row' ?_ _ _ (by omega) | with_reducible refine Kept.map' ?_ _ _ (by omega))) (AfterU.prop _))))))
      refine wpQuiet_nil ?_
      exact rfl
    simp only [List.drop_succ_cons, List.drop_zero, List.take_zero]
    intro w7 hk7 _
    haveI p_w7 : PrevWorld w7 _ := ⟨hk7⟩
    go_wp2_with fail
    rw [HW.out]
    exact bodyPost_v rfl (res1 Tryz.results21 (resT rfl)) (by repeat (first | with_reducible exact HK.out | with_reducible exact Kept.refl _ _ | with_reducible refine Kept.prev ?_ | with_reducible refine Kept.alloc' ?_ _ | with_reducible refine Kept.drew' ?_ | with_reducible refine Kept.setB ?_ _ _ _ (by omega) | with_reducible refine Kept.row' ?_ _ _ (by omega) | with_reducible refine Kept.map' ?_ _ _ (by omega)))

set_option maxRecDepth 100000 in
set_option maxHeartbeats 2000000 in
theorem is_mon (ih : IsAt v t n) (hT : TabIn w v t) (hx : ExIn w (n + 1) x) (hs : (spanP t x.t).isSome = true) (hk : x.kind = 11) : Calls Tryz.prog 21 #[.agg (v.cells t), .agg x.cells.toArray] w (RetV (.bool (isF (isP t n) t x)) w) := by
  have HSP := Lib.hid (fun w' m (hk : Kept [] w w') => span_any w' v t m (hT.kept hk))
  unfold TabV.cells at HSP
  unfold bdV at HSP
  have HW0 : Hid (isF (isP t n) t x = (decide (18 ≤ x.oper ∧ x.oper ≤ 21) && allF (isP t n) x.ls 1)) := by rw [Hid, isF, hs]; simp [hk]
  have HA := Lib.hid (fun w' (hk : Kept [] w w') => all_any w' v t x.la x.lc x.ls n 1 ih (hT.kept hk) hx.2.2.2.2.1 (hx.1.kept hk) (fun y hy => (hx.2.1 y hy).kept hk))
  clear hT hx ih
  unfold TabV.cells at HA
  unfold TabV.cells
  by_cases h1 : 18 ≤ x.oper
  rotate_left
  · have HW : Hid (isF (isP t n) t x = false) := by rw [Hid, HW0.out]; simp [h1]
    clear HA HW0
    go_enter Tryz.func21, Tryz.ntmps21
    go_wp2_with fail
    refine (HSP.out _ _ (by repeat (first | with_reducible exact HK.out | with_reducible exact Kept.refl _ _ | with_reducible refine Kept.prev ?_ | with_reducible refine Kept.alloc' ?_ _ | with_reducible refine Kept.drew' ?_ | with_reducible refine Kept.setB ?_ _ _ _ (by omega) | with_reducible refine Kept.row' ?_ _ _ (by omega) | with_reducible refine Kept.map' ?_ _ _ (by omega)))).mono ?_; rintro e w1 ⟨rfl, hk_w1⟩; haveI p_w1 : PrevWorld w1 _ := ⟨hk_w1⟩; have hz_w1 : w.heap.size ≤ w1.heap.size := Kept.size (by repeat (first | with_reducible exact HK.out | with_reducible exact Kept.refl _ _ | with_reducible refine Kept.prev ?_ | with_reducible refine Kept.alloc' ?_ _ | with_reducible refine Kept.drew' ?_ | with_reducible refine Kept.setB ?_ _ _ _ (by omega) | with_reducible refine Kept.row' ?_ _ _ (by omega) | with_reducible refine Kept.map' ?_ _ _ (by omega))); clear hk_w1
    clear HSP
    go_wp2_with fail
    rw [HW.out]
    exact bodyPost_v rfl (res1 Tryz.results21 (resT rfl)) (by repeat (first | with_reducible exact HK.out | with_reducible exact Kept.refl _ _ | with_reducible refine Kept.prev ?_ | with_reducible refine Kept.alloc' ?_ _ | with_reducible refine Kept.drew' ?_ | with_reducible refine Kept.setB ?_ _ _ _ (by omega) | with_reducible refine Kept.row' ?_ _ _ (by omega) | with_reducible refine Kept.map' ?_ _ _ (by omega)))
  by_cases h2 : x.oper ≤ 21
  rotate_left
  · have HW : Hid (isF (isP t n) t x = false) := by rw [Hid, HW0.out]; simp [h2]
    clear HA HW0
    go_enter Tryz.func21, Tryz.ntmps21
    go_wp2_with fail
    refine (HSP.out _ _ (by repeat (first | with_reducible exact HK.out | with_reducible exact Kept.refl _ _ | with_reducible refine Kept.prev ?_ | with_reducible refine Kept.alloc' ?_ _ | with_reducible refine Kept.drew' ?_ | with_reducible refine Kept.setB ?_ _ _ _ (by omega) | with_reducible refine Kept.row' ?_ _ _ (by omega) | with_reducible refine Kept.map' ?_ _ _ (by omega)))).mono ?_; rintro e w1 ⟨rfl, hk_w1⟩; haveI p_w1 : PrevWorld w1 _ := ⟨hk_w1⟩; have hz_w1 : w.heap.size ≤ w1.heap.size := Kept.size (by repeat (first | with_reducible exact HK.out | with_reducible exact Kept.refl _ _ | with_reducible refine Kept.prev ?_ | with_reducible refine Kept.alloc' ?_ _ | with_reducible refine Kept.drew' ?_ | with_reducible refine Kept.setB ?_ _ _ _ (by omega) | with_reducible refine Kept.row' ?_ _ _ (by omega) | with_reducible refine Kept.map' ?_ _ _ (by omega))); clear hk_w1
    clear HSP
    go_wp2_with fail
    rw [HW.out]
    exact bodyPost_v rfl (res1 Tryz.results21 (resT rfl)) (by repeat (first | with_reducible exact HK.out | with_reducible exact Kept.refl _ _ | with_reducible refine Kept.prev ?_ | with_reducible refine Kept.alloc' ?_ _ | with_reducible refine Kept.drew' ?_ | with_reducible refine Kept.setB ?_ _ _ _ (by omega) | with_reducible refine Kept.row' ?_ _ _ (by omega) | with_reducible refine Kept.map' ?_ _ _ (by omega)))
  have HW : Hid (isF (isP t n) t x = allF (isP t n) x.ls 1) := by rw [Hid, HW0.out]; simp [h1, h2]
  clear HW0
  go_enter Tryz.func21, Tryz.ntmps21
  go_wp2_with fail
  refine (HSP.out _ _ (by repeat (first | with_reducible exact HK.out | with_reducible exact Kept.refl _ _ | with_reducible refine Kept.prev ?_ | with_reducible refine Kept.alloc' ?_ _ | with_reducible refine Kept.drew' ?_ | with_reducible refine Kept.setB ?_ _ _ _ (by omega) | with_reducible refine Kept.row' ?_ _ _ (by omega) | with_reducible refine Kept.map' ?_ _ _ (by omega)))).mono ?_; rintro e w1 ⟨rfl, hk_w1⟩; haveI p_w1 : PrevWorld w1 _ := ⟨hk_w1⟩; have hz_w1 : w.heap.size ≤ w1.heap.size := Kept.size (by repeat (first | with_reducible exact HK.out | with_reducible exact Kept.refl _ _ | with_reducible refine Kept.prev ?_ | with_reducible refine Kept.alloc' ?_ _ | with_reducible refine Kept.drew' ?_ | with_reducible refine Kept.setB ?_ _ _ _ (by omega) | with_reducible refine Kept.row' ?_ _ _ (by omega) | with_reducible refine Kept.map' ?_ _ _ (by omega))); clear hk_w1
  clear HSP
  go_wp2_with fail
  refine (HA.out _ (by repeat (first | with_reducible exact HK.out | with_reducible exact Kept.refl _ _ | with_reducible refine Kept.prev ?_ | with_reducible refine Kept.alloc' ?_ _ | with_reducible refine Kept.drew' ?_ | with_reducible refine Kept.setB ?_ _ _ _ (by omega) | with_reducible refine Kept.row' ?_ _ _ (by omega) | with_reducible refine Kept.map' ?_ _ _ (by omega)))).mono ?_; rintro e w2 ⟨rfl, hk_w2⟩; haveI p_w2 : PrevWorld w2 _ := ⟨hk_w2⟩; have hz_w2 : w.heap.size ≤ w2.heap.size := Kept.size (by repeat (first | with_reducible exact HK.out | with_reducible exact Kept.refl _ _ | with_reducible refine Kept.prev ?_ | with_reducible refine Kept.alloc' ?_ _ | with_reducible refine Kept.drew' ?_ | with_reducible refine Kept.setB ?_ _ _ _ (by omega) | with_reducible refine Kept.row' ?_ _ _ (by omega) | with_reducible refine Kept.map' ?_ _ _ (by omega))); clear hk_w2
  go_wp2_with fail
  rw [HW.out]
  exact bodyPost_v rfl (res1 Tryz.results21 (resT rfl)) (by repeat (first | with_reducible exact HK.out | with_reducible exact Kept.refl _ _ | with_reducible refine Kept.prev ?_ | with_reducible refine Kept.alloc' ?_ _ | with_reducible refine Kept.drew' ?_ | with_reducible refine Kept.setB ?_ _ _ _ (by omega) | with_reducible refine Kept.row' ?_ _ _ (by omega) | with_reducible refine Kept.map' ?_ _ _ (by omega)))
set_option maxRecDepth 100000 in
set_option maxHeartbeats 2000000 in
theorem is_dy (ih : IsAt v t n) (hT : TabIn w v t) (hx : ExIn w (n + 1) x) (hs : (spanP t x.t).isSome = true) (hk : x.kind = 12) : Calls Tryz.prog 21 #[.agg (v.cells t), .agg x.cells.toArray] w (RetV (.bool (isF (isP t n) t x)) w) := by
  have HSP := Lib.hid (fun w' m (hk : Kept [] w w') => span_any w' v t m (hT.kept hk))
  unfold TabV.cells at HSP
  unfold bdV at HSP
  have HW0 : Hid (isF (isP t n) t x = (decide (1 ≤ x.oper ∧ x.oper ≤ 17) && allF (isP t n) x.ls 2)) := by rw [Hid, isF, hs]; simp [hk]
  have HA := Lib.hid (fun w' (hk : Kept [] w w') => all_any w' v t x.la x.lc x.ls n 2 ih (hT.kept hk) hx.2.2.2.2.1 (hx.1.kept hk) (fun y hy => (hx.2.1 y hy).kept hk))
  clear hT hx ih
  unfold TabV.cells at HA
  unfold TabV.cells
  by_cases h1 : 1 ≤ x.oper
  rotate_left
  · have HW : Hid (isF (isP t n) t x = false) := by rw [Hid, HW0.out]; simp [h1]
    clear HA HW0
    go_enter Tryz.func21, Tryz.ntmps21
    go_wp2_with fail
    refine (HSP.out _ _ (by repeat (first | with_reducible exact HK.out | with_reducible exact Kept.refl _ _ | with_reducible refine Kept.prev ?_ | with_reducible refine Kept.alloc' ?_ _ | with_reducible refine Kept.drew' ?_ | with_reducible refine Kept.setB ?_ _ _ _ (by omega) | with_reducible refine Kept.row' ?_ _ _ (by omega) | with_reducible refine Kept.map' ?_ _ _ (by omega)))).mono ?_; rintro e w1 ⟨rfl, hk_w1⟩; haveI p_w1 : PrevWorld w1 _ := ⟨hk_w1⟩; have hz_w1 : w.heap.size ≤ w1.heap.size := Kept.size (by repeat (first | with_reducible exact HK.out | with_reducible exact Kept.refl _ _ | with_reducible refine Kept.prev ?_ | with_reducible refine Kept.alloc' ?_ _ | with_reducible refine Kept.drew' ?_ | with_reducible refine Kept.setB ?_ _ _ _ (by omega) | with_reducible refine Kept.row' ?_ _ _ (by omega) | with_reducible refine Kept.map' ?_ _ _ (by omega))); clear hk_w1
    clear HSP
    go_wp2_with fail
    rw [HW.out]
    exact bodyPost_v rfl (res1 Tryz.results21 (resT rfl)) (by repeat (first | with_reducible exact HK.out | with_reducible exact Kept.refl _ _ | with_reducible refine Kept.prev ?_ | with_reducible refine Kept.alloc' ?_ _ | with_reducible refine Kept.drew' ?_ | with_reducible refine Kept.setB ?_ _ _ _ (by omega) | with_reducible refine Kept.row' ?_ _ _ (by omega) | with_reducible refine Kept.map' ?_ _ _ (by omega)))
  by_cases h2 : x.oper ≤ 17
  rotate_left
  · have HW : Hid (isF (isP t n) t x = false) := by rw [Hid, HW0.out]; simp [h2]
    clear HA HW0
    go_enter Tryz.func21, Tryz.ntmps21
    go_wp2_with fail
    refine (HSP.out _ _ (by repeat (first | with_reducible exact HK.out | with_reducible exact Kept.refl _ _ | with_reducible refine Kept.prev ?_ | with_reducible refine Kept.alloc' ?_ _ | with_reducible refine Kept.drew' ?_ | with_reducible refine Kept.setB ?_ _ _ _ (by omega) | with_reducible refine Kept.row' ?_ _ _ (by omega) | with_reducible refine Kept.map' ?_ _ _ (by omega)))).mono ?_; rintro e w1 ⟨rfl, hk_w1⟩; haveI p_w1 : PrevWorld w1 _ := ⟨hk_w1⟩; have hz_w1 : w.heap.size ≤ w1.heap.size := Kept.size (by repeat (first | with_reducible exact HK.out | with_reducible exact Kept.refl _ _ | with_reducible refine Kept.prev ?_ | with_reducible refine Kept.alloc' ?_ _ | with_reducible refine Kept.drew' ?_ | with_reducible refine Kept.setB ?_ _ _ _ (by omega) | with_reducible refine Kept.row' ?_ _ _ (by omega) | with_reducible refine Kept.map' ?_ _ _ (by omega))); clear hk_w1
    clear HSP
    go_wp2_with fail
    rw [HW.out]
    exact bodyPost_v rfl (res1 Tryz.results21 (resT rfl)) (by repeat (first | with_reducible exact HK.out | with_reducible exact Kept.refl _ _ | with_reducible refine Kept.prev ?_ | with_reducible refine Kept.alloc' ?_ _ | with_reducible refine Kept.drew' ?_ | with_reducible refine Kept.setB ?_ _ _ _ (by omega) | with_reducible refine Kept.row' ?_ _ _ (by omega) | with_reducible refine Kept.map' ?_ _ _ (by omega)))
  have HW : Hid (isF (isP t n) t x = allF (isP t n) x.ls 2) := by rw [Hid, HW0.out]; simp [h1, h2]
  clear HW0
  go_enter Tryz.func21, Tryz.ntmps21
  go_wp2_with fail
  refine (HSP.out _ _ (by repeat (first | with_reducible exact HK.out | with_reducible exact Kept.refl _ _ | with_reducible refine Kept.prev ?_ | with_reducible refine Kept.alloc' ?_ _ | with_reducible refine Kept.drew' ?_ | with_reducible refine Kept.setB ?_ _ _ _ (by omega) | with_reducible refine Kept.row' ?_ _ _ (by omega) | with_reducible refine Kept.map' ?_ _ _ (by omega)))).mono ?_; rintro e w1 ⟨rfl, hk_w1⟩; haveI p_w1 : PrevWorld w1 _ := ⟨hk_w1⟩; have hz_w1 : w.heap.size ≤ w1.heap.size := Kept.size (by repeat (first | with_reducible exact HK.out | with_reducible exact Kept.refl _ _ | with_reducible refine Kept.prev ?_ | with_reducible refine Kept.alloc' ?_ _ | with_reducible refine Kept.drew' ?_ | with_reducible refine Kept.setB ?_ _ _ _ (by omega) | with_reducible refine Kept.row' ?_ _ _ (by omega) | with_reducible refine Kept.map' ?_ _ _ (by omega))); clear hk_w1
  clear HSP
  go_wp2_with fail
  refine (HA.out _ (by repeat (first | with_reducible exact HK.out | with_reducible exact Kept.refl _ _ | with_reducible refine Kept.prev ?_ | with_reducible refine Kept.alloc' ?_ _ | with_reducible refine Kept.drew' ?_ | with_reducible refine Kept.setB ?_ _ _ _ (by omega) | with_reducible refine Kept.row' ?_ _ _ (by omega) | with_reducible refine Kept.map' ?_ _ _ (by omega)))).mono ?_; rintro e w2 ⟨rfl, hk_w2⟩; haveI p_w2 : PrevWorld w2 _ := ⟨hk_w2⟩; have hz_w2 : w.heap.size ≤ w2.heap.size := Kept.size (by repeat (first | with_reducible exact HK.out | with_reducible exact Kept.refl _ _ | with_reducible refine Kept.prev ?_ | with_reducible refine Kept.alloc' ?_ _ | with_reducible refine Kept.drew' ?_ | with_reducible refine Kept.setB ?_ _ _ _ (by omega) | with_reducible refine Kept.row' ?_ _ _ (by omega) | with_reducible refine Kept.map' ?_ _ _ (by omega))); clear hk_w2
  go_wp2_with fail
  rw [HW.out]
  exact bodyPost_v rfl (res1 Tryz.results21 (resT rfl)) (by repeat (first | with_reducible exact HK.out | with_reducible exact Kept.refl _ _ | with_reducible refine Kept.prev ?_ | with_reducible refine Kept.alloc' ?_ _ | with_reducible refine Kept.drew' ?_ | with_reducible refine Kept.setB ?_ _ _ _ (by omega) | with_reducible refine Kept.row' ?_ _ _ (by omega) | with_reducible refine Kept.map' ?_ _ _ (by omega)))

set_option maxRecDepth 100000 in
set_option maxHeartbeats 1000000 in
theorem is_else (hT : TabIn w v t) (hs : (spanP t x.t).isSome = true) (k1 : x.kind ≠ 1) (k3 : x.kind ≠ 3) (k4 : x.kind ≠ 4) (k6 : x.kind ≠ 6) (k7 : x.kind ≠ 7) (k8 : x.kind ≠ 8) (k10 : x.kind ≠ 10) (k11 : x.kind ≠ 11) (k12 : x.kind ≠ 12) (k13 : x.kind ≠ 13) (k14 : x.kind ≠ 14) :
    Calls Tryz.prog 21 #[.agg (v.cells t), .agg x.cells.toArray] w (RetV (.bool (isF (isP t n) t x)) w) := by
  have HSP := Lib.hid (fun w' m (hk : Kept [] w w') => span_any w' v t m (hT.kept hk))
  unfold TabV.cells at HSP
  unfold bdV at HSP
  have HW : Hid (isF (isP t n) t x = false) := by rw [Hid, isF, hs]; simp [k1, k3, k4, k6, k7, k8, k10, k11, k12, k13, k14]
  clear hT
  have e1 : (x.kind == 1) = false := by simp [k1]
  have e3 : (x.kind == 3) = false := by simp [k3]
  have e4 : (x.kind == 4) = false := by simp [k4]
  have e6 : (x.kind == 6) = false := by simp [k6]
  have e7 : (x.kind == 7) = false := by simp [k7]
  have e8 : (x.kind == 8) = false := by simp [k8]
  have e10 : (x.kind == 10) = false := by simp [k10]
  have e11 : (x.kind == 11) = false := by simp [k11]
  have e12 : (x.kind == 12) = false := by simp [k12]
  have e13 : (x.kind == 13) = false := by simp [k13]
  have e14 : (x.kind == 14) = false := by simp [k14]
  clear k1 k3 k4 k6 k7 k8 k10 k11 k12 k13 k14
  unfold TabV.cells
  go_enter Tryz.func21, Tryz.ntmps21
  go_wp2_with fail
  refine (HSP.out _ _ (by repeat (first | with_reducible exact HK.out | with_reducible exact Kept.refl _ _ | with_reducible refine Kept.prev ?_ | with_reducible refine Kept.alloc' ?_ _ | with_reducible refine Kept.drew' ?_ | with_reducible refine Kept.setB ?_ _ _ _ (by omega) | with_reducible refine Kept.row' ?_ _ _ (by omega) | with_reducible refine Kept.map' ?_ _ _ (by omega)))).mono ?_; rintro e w1 ⟨rfl, hk_w1⟩; haveI p_w1 : PrevWorld w1 _ := ⟨hk_w1⟩; have hz_w1 : w.heap.size ≤ w1.heap.size := Kept.size (by repeat (first | with_reducible exact HK.out | with_reducible exact Kept.refl _ _ | with_reducible refine Kept.prev ?_ | with_reducible refine Kept.alloc' ?_ _ | with_reducible refine Kept.drew' ?_ | with_reducible refine Kept.setB ?_ _ _ _ (by omega) | with_reducible refine Kept.row' ?_ _ _ (by omega) | with_reducible refine Kept.map' ?_ _ _ (by omega))); clear hk_w1
  clear HSP
  go_wp2_with fail
  rw [HW.out]
  exact bodyPost_v rfl (res1 Tryz.results21 (resT rfl)) (by repeat (first | with_reducible exact HK.out | with_reducible exact Kept.refl _ _ | with_reducible refine Kept.prev ?_ | with_reducible refine Kept.alloc' ?_ _ | with_reducible refine Kept.drew' ?_ | with_reducible refine Kept.setB ?_ _ _ _ (by omega) | with_reducible refine Kept.row' ?_ _ _ (by omega) | with_reducible refine Kept.map' ?_ _ _ (by omega)))
end

theorem is_any (v : TabV) (t : Tab) : ∀ n, IsAt v t n := by
  intro n
  induction n with
  | zero => intro w x _ hx; exact hx.elim
  | succ n ih =>
    intro w x hT hx
    show Calls Tryz.prog _ _ w (RetV (.bool (isF (isP t n) t x)) w)
    cases hs : (spanP t x.t).isSome
    · exact is_span w v t x n hT hs
    by_cases k1 : x.kind = 1
    · exact is_int w v t x n hT hs k1
    by_cases k3 : x.kind = 3
    · exact is_name w v t x n hT hs (.inl k3)
    by_cases k4 : x.kind = 4
    · exact is_name w v t x n hT hs (.inr k4)
    by_cases k6 : x.kind = 6
    · exact is_attr w v t x n hT hx hs k6
    by_cases k7 : x.kind = 7
    · exact is_call w v t x n ih hT hx hs k7
    by_cases k8 : x.kind = 8
    · exact is_qual w v t x n ih hT hx hs k8
    by_cases k10 : x.kind = 10
    · exact is_if w v t x n ih hT hx hs k10
    by_cases k11 : x.kind = 11
    · exact is_mon w v t x n ih hT hx hs k11
    by_cases k12 : x.kind = 12
    · exact is_dy w v t x n ih hT hx hs k12
    by_cases k13 : x.kind = 13
    · exact is_in w v t x n ih hT hx hs (.inl k13)
    by_cases k14 : x.kind = 14
    · exact is_in w v t x n ih hT hx hs (.inr k14)
    exact is_else w v t x n hT hs k1 k3 k4 k6 k7 k8 k10 k11 k12 k13 k14
end Go.Proofs.YtgdjhhfbpalkdaaGreat
