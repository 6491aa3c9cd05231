/- choice. -/
import Derived.Test.YtgdjhhfbpalkdaaV16
import Derived.Test.YtgdjhhfbpalkdaaO1
namespace Go.Proofs.Ytgdjhhfbpalkdaa
open Go.RowKit
def c0 (x : ChV) : ExV := x.ls.getD 0 default
def c1 (x : ChV) : ExV := x.ls.getD 1 default
/-- The bounds of a choice that is not others, or the error. -/
def choiceP (t : Tab) (n : Nat) (x : ChV) : Bd × Int :=
  if x.kind = 2 ∧ x.ls.length = 2 then rngP t n (-1) (c0 x) (c1 x)
  else if x.kind ≠ 1 ∨ x.ls.length ≠ 1 then ((0, 0), 70)
  else if (namedP (c0 x) && typedP (entP t (c0 x).ent)) = true then (if (markX t (c0 x)).2.2 = true then ((markX t (c0 x)).1, 0) else ((0, 0), 70))
  else (((valueP t n (c0 x)).1, (valueP t n (c0 x)).1), (valueP t n (c0 x)).2)
theorem choiceP_eq (t : Tab) (n : Nat) (x : ChV) : choiceP t n x = if x.kind = 2 ∧ x.ls.length = 2 then rngP t n (-1) (c0 x) (c1 x)
  else if x.kind ≠ 1 ∨ x.ls.length ≠ 1 then ((0, 0), 70)
  else if (namedP (c0 x) && typedP (entP t (c0 x).ent)) = true then (if (markX t (c0 x)).2.2 = true then ((markX t (c0 x)).1, 0) else ((0, 0), 70))
  else (((valueP t n (c0 x)).1, (valueP t n (c0 x)).1), (valueP t n (c0 x)).2) := rfl
theorem ch_at {w : World} {n : Nat} {x : ChV} (h : ChIn w n x) (hl : 0 < x.ls.length) : ∃ b o, x.la = some ⟨b, o, none⟩ ∧ ExAt w b o (c0 x) ∧ ExIn w n (c0 x) ∧ (1 < x.ls.length → ExAt w b (o + 9) (c1 x) ∧ ExIn w n (c1 x)) := by
  obtain ⟨y, hy⟩ : ∃ y, x.ls[0]? = some y := ⟨_, List.getElem?_eq_getElem hl⟩
  obtain ⟨b, o, ha, hr⟩ := h.rows.some_ hy
  refine ⟨b, o, ha, ?_, ?_, fun h1 => ?_⟩
  · have e : c0 x = y := by simp [c0, List.getD_eq_getElem?_getD, hy]
    rw [e]
    exact ⟨by simpa using hr 0 y hy⟩
  · have e : c0 x = y := by simp [c0, List.getD_eq_getElem?_getD, hy]
    rw [e]
    exact h.all y (List.mem_of_getElem? hy)
  · obtain ⟨z, hz⟩ : ∃ z, x.ls[1]? = some z := ⟨_, List.getElem?_eq_getElem h1⟩
    have e : c1 x = z := by simp [c1, List.getD_eq_getElem?_getD, hz]
    rw [e]
    exact ⟨⟨by simpa using hr 1 z hz⟩, h.all z (List.mem_of_getElem? hz)⟩
set_option maxRecDepth 100000 in
set_option maxHeartbeats 4000000 in
theorem choice_any (w : World) (v : TabV) (t : Tab) (x : ChV) (n : Nat) (hT : TabIn w v t) (hx : ChIn w n x) :
    Calls Try.prog 34 #[.agg (v.cells t), .agg #[.int .u8 x.kind, .slice x.la x.ls.length x.lc]] w (RetV (.tuple #[.agg #[.int .i64 (choiceP t n x).1.1, .int .i64 (choiceP t n x).1.2], .int .i64 (choiceP t n x).2]) w) := by
  have HT := Lib.hid hT
  have HR := Lib.hid (choiceP_eq t n x)
  have HA := Lib.hid (ch_at hx)
  clear hT hx
  generalize choiceP t n x = R at *
  generalize c0 x = y at *
  generalize c1 x = z at *
  obtain ⟨k, la, lc, ls⟩ := x
  simp only at *
  by_cases k2 : k = 2 ∧ ls.length = 2
  · obtain ⟨rfl, l2⟩ := k2
    obtain ⟨b, o, ha, ha0, hi0, h1⟩ := HA.out (by omega)
    obtain ⟨ha1, hi1⟩ := h1 (by omega)
    have HG := Lib.hid (fun w' (hk : Kept [] w w') => Range_any w' v t (-1) y z n (HT.out.kept hk) (hi0.kept hk) (hi1.kept hk))
    have HW : Hid (R = rngP t n (-1) y z) := by rw [Hid, HR.out, if_pos ⟨rfl, l2⟩]
    clear HR HA HT hi0 hi1 h1
    unfold TabV.cells at *
    rw [ha, l2]
    clear ha l2
    generalize rngP t n (-1) y z = r at *
    go_enter Try.func34, Try.ntmps34
    go_wp2_with fail
    refine wp_region_head 12 0 (fun _ => .cells #[] 0) (by kernel_rfl) (by kernel_rfl) (fun i o h1 h2 => by omega) (fun _ _ _ _ _ h => h) ?_; apply Exists.intro; refine ⟨fun U hU hN => ?_, ?_⟩; simp only [List.take_succ_cons, List.take_zero]
    · repeat (go_big_quiet_step (exact Calls.headV hU (HG.out _ (Kept.trans (by repeat (first | with_reducible exact HK.out | with_reducible exact Kept.refl _ _ | with_reducible refine Kept.prev ?_ | with_reducible refine Kept.alloc' ?_ _ | with_reducible refine Kept.drew' ?_ | with_reducible refine Kept.setB ?_ _ _ _ (by omega) | with_reducible refine Kept.row' ?_ _ _ (by omega) | with_reducible refine Kept.map' ?_ _ _ (by omega))) (AfterU.prop _)))))
      refine wpQuiet_nil ?_
      exact rfl
    simp only [List.drop_succ_cons, List.drop_zero, List.take_succ_cons, List.take_zero]
    intro w4 hk4 _
    haveI p_w4 : PrevWorld w4 _ := ⟨hk4⟩
    clear hk4
    go_wp2_with fail
    rw [HW.out]
    exact bodyPost_v rfl (res2 Try.results34 (resC rfl inferInstance) (resT rfl)) (by repeat (first | with_reducible exact HK.out | with_reducible exact Kept.refl _ _ | with_reducible refine Kept.prev ?_ | with_reducible refine Kept.alloc' ?_ _ | with_reducible refine Kept.drew' ?_ | with_reducible refine Kept.setB ?_ _ _ _ (by omega) | with_reducible refine Kept.row' ?_ _ _ (by omega) | with_reducible refine Kept.map' ?_ _ _ (by omega)))
  have HR2 : Hid (R = if k ≠ 1 ∨ ls.length ≠ 1 then ((0, 0), 70)
      else if (namedP y && typedP (entP t y.ent)) = true then (if (markX t y).2.2 = true then ((markX t y).1, 0) else ((0, 0), 70))
      else (((valueP t n y).1, (valueP t n y).1), (valueP t n y).2)) := by rw [Hid, HR.out, if_neg k2]
  clear HR
  by_cases k1 : k = 1
  rotate_left
  · have HW : Hid (R = ((0, 0), 70)) := by rw [Hid, HR2.out, if_pos (.inl k1)]
    have e1 : (k != 1) = true := by simp [k1]
    unfold TabV.cells at *
    by_cases c2 : k = 2
    · subst c2
      have e2 : ((ls.length : Int) == 2) = false := by
        rw [beq_eq_false_iff_ne]
        exact fun h => k2 ⟨rfl, by omega⟩
      clear k2 k1 HR2 HT HA e1
      go_enter Try.func34, Try.ntmps34
      go_wp2_with fail
      rw [HW.out]
      exact bodyPost_v rfl (res2 Try.results34 (resC rfl inferInstance) (resT rfl)) (by repeat (first | with_reducible exact HK.out | with_reducible exact Kept.refl _ _ | with_reducible refine Kept.prev ?_ | with_reducible refine Kept.alloc' ?_ _ | with_reducible refine Kept.drew' ?_ | with_reducible refine Kept.setB ?_ _ _ _ (by omega) | with_reducible refine Kept.row' ?_ _ _ (by omega) | with_reducible refine Kept.map' ?_ _ _ (by omega)))
    · have e2 : (k == 2) = false := by simp [c2]
      clear k2 k1 HR2 HT HA c2
      go_enter Try.func34, Try.ntmps34
      go_wp2_with fail
      rw [HW.out]
      exact bodyPost_v rfl (res2 Try.results34 (resC rfl inferInstance) (resT rfl)) (by repeat (first | with_reducible exact HK.out | with_reducible exact Kept.refl _ _ | with_reducible refine Kept.prev ?_ | with_reducible refine Kept.alloc' ?_ _ | with_reducible refine Kept.drew' ?_ | with_reducible refine Kept.setB ?_ _ _ _ (by omega) | with_reducible refine Kept.row' ?_ _ _ (by omega) | with_reducible refine Kept.map' ?_ _ _ (by omega)))
  subst k1
  by_cases l1 : ls.length = 1
  rotate_left
  · have HW : Hid (R = ((0, 0), 70)) := by rw [Hid, HR2.out, if_pos (.inr l1)]
    unfold TabV.cells at *
    have e2 : ((ls.length : Int) != 1) = true := by
      rw [bne_iff_ne]
      omega
    clear k2 HR2 HT HA l1
    go_enter Try.func34, Try.ntmps34
    go_wp2_with fail
    rw [HW.out]
    exact bodyPost_v rfl (res2 Try.results34 (resC rfl inferInstance) (resT rfl)) (by repeat (first | with_reducible exact HK.out | with_reducible exact Kept.refl _ _ | with_reducible refine Kept.prev ?_ | with_reducible refine Kept.alloc' ?_ _ | with_reducible refine Kept.drew' ?_ | with_reducible refine Kept.setB ?_ _ _ _ (by omega) | with_reducible refine Kept.row' ?_ _ _ (by omega) | with_reducible refine Kept.map' ?_ _ _ (by omega)))
  obtain ⟨b, o, ha, ha0, hi0, _⟩ := HA.out (by omega)
  have HR3 : Hid (R = if (namedP y && typedP (entP t y.ent)) = true then (if (markX t y).2.2 = true then ((markX t y).1, 0) else ((0, 0), 70))
      else (((valueP t n y).1, (valueP t n y).1), (valueP t n y).2)) := by rw [Hid, HR2.out, if_neg (by simp [l1])]
  clear HR2 HA k2
  have HE := Lib.hid (fun w' (hk : Kept [] w w') => entity_any w' v t y (HT.out.kept hk))
  have HM := Lib.hid (fun w' (hk : Kept [] w w') => mark_any w' v t y (HT.out.kept hk))
  have HV := Lib.hid (fun w' (hk : Kept [] w w') => Value_any w' v t y n (HT.out.kept hk) (hi0.kept hk))
  have HN := Lib.hid (fun w' => named_any w' y)
  have HY := Lib.hid (fun w' => typed_any w' (entP t y.ent))
  clear HT hi0
  unfold TabV.cells at *
  rw [ha, l1]
  clear ha l1
  unfold entA at HE
  generalize entP t y.ent = e at *
  cases hn : namedP y
  · rw [hn] at HN HR3
    have HW : Hid (R = (((valueP t n y).1, (valueP t n y).1), (valueP t n y).2)) := HR3.out
    generalize (valueP t n y).1 = vy at *
    generalize (valueP t n y).2 = ey at *
    clear hn HR3 HE HM HY
    go_enter Try.func34, Try.ntmps34
    go_wp2_with fail
    refine wp_region_head 14 0 (fun _ => .cells #[] 0) (by kernel_rfl) (by kernel_rfl) (fun i o h1 h2 => by omega) (fun _ _ _ _ _ h => h) ?_; apply Exists.intro; refine ⟨fun U hU hN => ?_, ?_⟩; simp only [List.take_succ_cons, List.take_zero]
    · repeat (go_big_quiet_step (exact Calls.headV hU (HN.out _)))
      refine wpQuiet_nil ?_
      exact rfl
    simp only [List.drop_succ_cons, List.drop_zero, List.take_succ_cons, List.take_zero]
    intro w4 hk4 _
    haveI p_w4 : PrevWorld w4 _ := ⟨hk4⟩
    clear hk4 HN
    go_wp2_with fail
    refine wp_region_head 11 0 (fun _ => .cells #[] 0) (by kernel_rfl) (by kernel_rfl) (fun i o h1 h2 => by omega) (fun _ _ _ _ _ h => h) ?_; apply Exists.intro; refine ⟨fun U hU hN => ?_, ?_⟩; simp only [List.take_succ_cons, List.take_zero]
    · repeat (go_big_quiet_step (exact Calls.headV hU (HV.out _ (Kept.trans (by repeat (first | with_reducible exact HK.out | with_reducible exact Kept.refl _ _ | with_reducible refine Kept.prev ?_ | with_reducible refine Kept.alloc' ?_ _ | with_reducible refine Kept.drew' ?_ | with_reducible refine Kept.setB ?_ _ _ _ (by omega) | with_reducible refine Kept.row' ?_ _ _ (by omega) | with_reducible refine Kept.map' ?_ _ _ (by omega))) (AfterU.prop _)))))
      refine wpQuiet_nil ?_
      exact rfl
    simp only [List.drop_succ_cons, List.drop_zero, List.take_succ_cons, List.take_zero]
    intro w5 hk5 _
    haveI p_w5 : PrevWorld w5 _ := ⟨hk5⟩
    clear hk5 HV
    go_wp2_with fail
    rw [HW.out]
    exact bodyPost_v rfl (res2 Try.results34 (resC rfl inferInstance) (resT rfl)) (by repeat (first | with_reducible exact HK.out | with_reducible exact Kept.refl _ _ | with_reducible refine Kept.prev ?_ | with_reducible refine Kept.alloc' ?_ _ | with_reducible refine Kept.drew' ?_ | with_reducible refine Kept.setB ?_ _ _ _ (by omega) | with_reducible refine Kept.row' ?_ _ _ (by omega) | with_reducible refine Kept.map' ?_ _ _ (by omega)))
  rw [hn, Bool.true_and] at HR3
  rw [hn] at HN
  clear hn
  cases hy : typedP e
  · rw [hy] at HY HR3
    have HW : Hid (R = (((valueP t n y).1, (valueP t n y).1), (valueP t n y).2)) := HR3.out
    generalize (valueP t n y).1 = vy at *
    generalize (valueP t n y).2 = ey at *
    clear hy HR3 HM
    go_enter Try.func34, Try.ntmps34
    go_wp2_with fail
    refine wp_region_head 14 0 (fun _ => .cells #[] 0) (by kernel_rfl) (by kernel_rfl) (fun i o h1 h2 => by omega) (fun _ _ _ _ _ h => h) ?_; apply Exists.intro; refine ⟨fun U hU hN => ?_, ?_⟩; simp only [List.take_succ_cons, List.take_zero]
    · iterate 5 (go_big_quiet_step (exact Calls.headV hU (HN.out _)))
      repeat (go_big_quiet_step (first | exact Calls.headV hU (HY.out _) | exact Calls.headV hU (HE.out _ (Kept.trans (by repeat (first | with_reducible exact HK.out | with_reducible exact Kept.refl _ _ | with_reducible refine Kept.prev ?_ | with_reducible refine Kept.alloc' ?_ _ | with_reducible refine Kept.drew' ?_ | with_reducible refine Kept.setB ?_ _ _ _ (by omega) | with_reducible refine Kept.row' ?_ _ _ (by omega) | with_reducible refine Kept.map' ?_ _ _ (by omega))) (AfterU.prop _)))))
      refine wpQuiet_nil ?_
      exact rfl
    simp only [List.drop_succ_cons, List.drop_zero, List.take_succ_cons, List.take_zero]
    intro w4 hk4 _
    haveI p_w4 : PrevWorld w4 _ := ⟨hk4⟩
    clear hk4 HN HE HY
    go_wp2_with fail
    refine wp_region_head 11 0 (fun _ => .cells #[] 0) (by kernel_rfl) (by kernel_rfl) (fun i o h1 h2 => by omega) (fun _ _ _ _ _ h => h) ?_; apply Exists.intro; refine ⟨fun U hU hN => ?_, ?_⟩; simp only [List.take_succ_cons, List.take_zero]
    · repeat (go_big_quiet_step (exact Calls.headV hU (HV.out _ (Kept.trans (by repeat (first | with_reducible exact HK.out | with_reducible exact Kept.refl _ _ | with_reducible refine Kept.prev ?_ | with_reducible refine Kept.alloc' ?_ _ | with_reducible refine Kept.drew' ?_ | with_reducible refine Kept.setB ?_ _ _ _ (by omega) | with_reducible refine Kept.row' ?_ _ _ (by omega) | with_reducible refine Kept.map' ?_ _ _ (by omega))) (AfterU.prop _)))))
      refine wpQuiet_nil ?_
      exact rfl
    simp only [List.drop_succ_cons, List.drop_zero, List.take_succ_cons, List.take_zero]
    intro w5 hk5 _
    haveI p_w5 : PrevWorld w5 _ := ⟨hk5⟩
    clear hk5 HV
    go_wp2_with fail
    rw [HW.out]
    exact bodyPost_v rfl (res2 Try.results34 (resC rfl inferInstance) (resT rfl)) (by repeat (first | with_reducible exact HK.out | with_reducible exact Kept.refl _ _ | with_reducible refine Kept.prev ?_ | with_reducible refine Kept.alloc' ?_ _ | with_reducible refine Kept.drew' ?_ | with_reducible refine Kept.setB ?_ _ _ _ (by omega) | with_reducible refine Kept.row' ?_ _ _ (by omega) | with_reducible refine Kept.map' ?_ _ _ (by omega)))
  · rw [hy] at HY HR3
    generalize markX t y = m at *
    unfold pvV at HM
    obtain ⟨mb, ma, mo⟩ := m
    have HR4 : Hid (R = if mo = true then (mb, 0) else ((0, 0), 70)) := HR3.out
    clear hy HR3 HV
    simp only at HM
    go_enter Try.func34, Try.ntmps34
    go_wp2_with fail
    refine wp_region_head 14 0 (fun _ => .cells #[] 0) (by kernel_rfl) (by kernel_rfl) (fun i o h1 h2 => by omega) (fun _ _ _ _ _ h => h) ?_; apply Exists.intro; refine ⟨fun U hU hN => ?_, ?_⟩; simp only [List.take_succ_cons, List.take_zero]
    · iterate 5 (go_big_quiet_step (exact Calls.headV hU (HN.out _)))
      repeat (go_big_quiet_step (first | exact Calls.headV hU (HY.out _) | exact Calls.headV hU (HE.out _ (Kept.trans (by repeat (first | with_reducible exact HK.out | with_reducible exact Kept.refl _ _ | with_reducible refine Kept.prev ?_ | with_reducible refine Kept.alloc' ?_ _ | with_reducible refine Kept.drew' ?_ | with_reducible refine Kept.setB ?_ _ _ _ (by omega) | with_reducible refine Kept.row' ?_ _ _ (by omega) | with_reducible refine Kept.map' ?_ _ _ (by omega))) (AfterU.prop _)))))
      refine wpQuiet_nil ?_
      exact rfl
    simp only [List.drop_succ_cons, List.drop_zero, List.take_succ_cons, List.take_zero]
    intro w4 hk4 _
    haveI p_w4 : PrevWorld w4 _ := ⟨hk4⟩
    clear hk4 HN HE HY
    go_wp2_with fail
    refine wp_region_head 10 2 (fun _ => .cells #[.int .i64 0, .int .i64 0] 55) (by kernel_rfl) (by kernel_rfl) (fun i o h1 h2 h3 => by obtain rfl | rfl : i = 10 ∨ i = 11 := (by omega); all_goals (obtain rfl := Option.some.inj h3; exact alc_of rfl rfl Try.zeroBd)) (fun _ _ _ _ _ h => h) ?_; apply Exists.intro; refine ⟨fun U hU hN => ?_, ?_⟩; simp only [List.take_succ_cons, List.take_zero]
    · repeat (go_big_quiet_step (exact Calls.headV hU (HM.out _ (Kept.trans (by repeat (first | with_reducible exact HK.out | with_reducible exact Kept.refl _ _ | with_reducible refine Kept.prev ?_ | with_reducible refine Kept.alloc' ?_ _ | with_reducible refine Kept.drew' ?_ | with_reducible refine Kept.setB ?_ _ _ _ (by omega) | with_reducible refine Kept.row' ?_ _ _ (by omega) | with_reducible refine Kept.map' ?_ _ _ (by omega))) (AfterU.prop _)))))
      refine wpQuiet_nil ?_
      exact rfl
    simp only [List.drop_succ_cons, List.drop_zero, List.take_succ_cons, List.take_zero]
    intro B2 hB2 _ B3 hB3 hne w6 hk6 hh
    haveI p_w6 : PrevWorld w6 _ := ⟨hk6⟩
    haveI bx2 : BoxIs w6 B2 55 #[.int .i64 0, .int .i64 0] := box_of hh (by simp)
    haveI bx3 : BoxIs w6 B3 55 #[.int .i64 0, .int .i64 0] := box_of hh (by simp)
    have hne2 := ne_of hne
    haveI ap1 : Apart B2 B3 := ⟨hne2⟩
    haveI ap2 : Apart B3 B2 := ⟨hne2.symm⟩
    haveI g2 : BornAfter B2 _ := ⟨hB2⟩
    haveI g3 : BornAfter B3 _ := ⟨hB3⟩
    have hz2 : w.heap.size ≤ B2 := Nat.le_trans (Kept.size (X := []) (by repeat (first | with_reducible exact HK.out | with_reducible exact Kept.refl _ _ | with_reducible refine Kept.prev ?_ | with_reducible refine Kept.alloc' ?_ _ | with_reducible refine Kept.drew' ?_ | with_reducible refine Kept.setB ?_ _ _ _ (by omega) | with_reducible refine Kept.row' ?_ _ _ (by omega) | with_reducible refine Kept.map' ?_ _ _ (by omega)))) hB2
    have hz3 : w.heap.size ≤ B3 := Nat.le_trans (Kept.size (X := []) (by repeat (first | with_reducible exact HK.out | with_reducible exact Kept.refl _ _ | with_reducible refine Kept.prev ?_ | with_reducible refine Kept.alloc' ?_ _ | with_reducible refine Kept.drew' ?_ | with_reducible refine Kept.setB ?_ _ _ _ (by omega) | with_reducible refine Kept.row' ?_ _ _ (by omega) | with_reducible refine Kept.map' ?_ _ _ (by omega)))) hB3
    clear hk6 hh hne
    clear HM
    cases mo
    · have HW : Hid (R = ((0, 0), 70)) := HR4.out
      clear HR4
      go_wp2_with fail
      rw [HW.out]
      exact bodyPost_v rfl (res2 Try.results34 (resC rfl inferInstance) (resT rfl)) (by repeat (first | with_reducible exact HK.out | with_reducible exact Kept.refl _ _ | with_reducible refine Kept.prev ?_ | with_reducible refine Kept.alloc' ?_ _ | with_reducible refine Kept.drew' ?_ | with_reducible refine Kept.setB ?_ _ _ _ (by omega) | with_reducible refine Kept.row' ?_ _ _ (by omega) | with_reducible refine Kept.map' ?_ _ _ (by omega)))
    · have HW : Hid (R = (mb, 0)) := HR4.out
      clear HR4
      go_wp2_with fail
      rw [HW.out]
      exact bodyPost_v rfl (res2 Try.results34 (resC rfl inferInstance) (resT rfl)) (by repeat (first | with_reducible exact HK.out | with_reducible exact Kept.refl _ _ | with_reducible refine Kept.prev ?_ | with_reducible refine Kept.alloc' ?_ _ | with_reducible refine Kept.drew' ?_ | with_reducible refine Kept.setB ?_ _ _ _ (by omega) | with_reducible refine Kept.row' ?_ _ _ (by omega) | with_reducible refine Kept.map' ?_ _ _ (by omega)))
end Go.Proofs.Ytgdjhhfbpalkdaa
