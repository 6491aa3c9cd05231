/- raw of a call and of a qualified expression. -/
import Derived.Test.YtgdjhhfbpalkdaaV9
import Derived.Test.YtgdjhhfbpalkdaaK14
namespace Go.Proofs.Ytgdjhhfbpalkdaa
open Go.RowKit

set_option maxRecDepth 100000 in
set_option maxHeartbeats 4000000 in
theorem raw_qual (w : World) (v : TabV) (t : Tab) (x : ExV) (n : Nat) (ih : ValAt v t n) (hT : TabIn w v t) (hx : ExIn w (n + 1) x) (hI : qualF (isP t n) t x = true) (hk : x.kind = 8) : RawIs w v t x n := by
  unfold RawIs
  have hl : x.ls.length = 2 := by
    by_cases h : x.ls.length = 2
    · exact h
    · rw [qual_no h] at hI; cases hI
  rw [qual_yes hl] at hI
  simp only [Bool.and_eq_true] at hI
  obtain ⟨hI1, hI2⟩ := hI
  rw [markX_ok] at hI1
  obtain ⟨⟨b, a⟩, hm⟩ := Option.isSome_iff_exists.1 hI1
  obtain ⟨b0, o0, ha, hat, hat1, hi0, hi1⟩ := ex_second hx (by omega)
  have HV := Lib.hid (fun w' (hk : Kept [] w w') => ih w' (l1 x) (hT.kept hk) (hi1.kept hk) hI2)
  have HMK := Lib.hid (fun w' (hk : Kept [] w w') => mark_any w' v t (l0 x) (hT.kept hk))
  have HW0 : Hid (rawF (valP t n) t x = match valP t n (l1 x) with | none => none | some u => withinP u b) := by
    rw [Hid, rawF]
    simp only [hk, qualV, hm]
    rfl
  have HX := Lib.hid (markX_some hm)
  rw [HX.out] at HMK
  have q1 := hx.2.2.2.2.1
  have hl2 : (0 : Int) < (x.ls.length : Int) := by omega
  have hl3 : (1 : Int) < (x.ls.length : Int) := by omega
  clear ih hT hx hl hI1 hI2 hi0 hi1 hm
  unfold TabV.cells at *
  unfold pvV at HMK
  simp only at HMK
  generalize valP t n (l1 x) = o at *
  generalize l0 x = y at *
  generalize l1 x = z at *
  go_enter Try.func38, Try.ntmps38
  go_wp2_with fail
  refine wp_region_head 10 2 (fun _ => .cells #[.int .i64 0, .int .i64 0] 55) (by kernel_rfl) (by kernel_rfl) (fun i o h1 h2 h3 => by obtain rfl | rfl : i = 10 ∨ i = 11 := (by omega); all_goals (obtain rfl := Option.some.inj h3; exact alc_of rfl rfl Try.zeroBd)) (fun _ _ _ _ _ h => h) ?_; apply Exists.intro; refine ⟨fun U hU hN => ?_, ?_⟩; simp only [List.take_succ_cons, List.take_zero]
  · repeat (go_big_quiet_step (exact Calls.headV hU (HMK.out _ (Kept.trans (by repeat (first | with_reducible exact HK.out | with_reducible exact Kept.refl _ _ | with_reducible refine Kept.prev ?_ | with_reducible refine Kept.alloc' ?_ _ | with_reducible refine Kept.drew' ?_ | with_reducible refine Kept.setB ?_ _ _ _ (by omega) | with_reducible refine Kept.row' ?_ _ _ (by omega) | with_reducible refine Kept.map' ?_ _ _ (by omega))) (AfterU.prop _)))))
    refine wpQuiet_nil ?_
    exact rfl
  simp only [List.drop_succ_cons, List.drop_zero, List.take_succ_cons, List.take_zero]
  intro B2 hB2 _ B3 hB3 hne w6 hk6 hh
  haveI p_w6 : PrevWorld w6 _ := ⟨hk6⟩
  haveI bx2 : BoxIs w6 B2 55 #[.int .i64 0, .int .i64 0] := box_of hh (by simp)
  haveI bx3 : BoxIs w6 B3 55 #[.int .i64 0, .int .i64 0] := box_of hh (by simp)
  have hne2 := ne_of hne
  haveI ap1 : Apart B2 B3 := ⟨hne2⟩
  haveI ap2 : Apart B3 B2 := ⟨hne2.symm⟩
  haveI g2 : BornAfter B2 _ := ⟨hB2⟩
  haveI g3 : BornAfter B3 _ := ⟨hB3⟩
  have hz2 : w.heap.size ≤ B2 := Nat.le_trans (Kept.size (X := []) (by repeat (first | with_reducible exact HK.out | with_reducible exact Kept.refl _ _ | with_reducible refine Kept.prev ?_ | with_reducible refine Kept.alloc' ?_ _ | with_reducible refine Kept.drew' ?_ | with_reducible refine Kept.setB ?_ _ _ _ (by omega) | with_reducible refine Kept.row' ?_ _ _ (by omega) | with_reducible refine Kept.map' ?_ _ _ (by omega)))) hB2
  have hz3 : w.heap.size ≤ B3 := Nat.le_trans (Kept.size (X := []) (by repeat (first | with_reducible exact HK.out | with_reducible exact Kept.refl _ _ | with_reducible refine Kept.prev ?_ | with_reducible refine Kept.alloc' ?_ _ | with_reducible refine Kept.drew' ?_ | with_reducible refine Kept.setB ?_ _ _ _ (by omega) | with_reducible refine Kept.row' ?_ _ _ (by omega) | with_reducible refine Kept.map' ?_ _ _ (by omega)))) hB3
  clear hk6 hh hne
  clear HMK
  go_wp2_with fail
  refine wp_gen' ?_
  intro w7 hw7
  haveI p_w7 : PrevWorld w7 _ := ⟨by rw [hw7]; exact Kept.setB (Kept.setB (Kept.setB (Kept.setB p_w6.kept _ _ _ hB2) _ _ _ hB2) _ _ _ hB3) _ _ _ hB3⟩
  haveI by2 : BoxIs w7 B2 _ _ := by rw [hw7]; infer_instance
  clear hw7 p_w6 bx2 bx3
  cases o with
  | none =>
    have HW : Hid (rawF (valP t n) t x = none) := HW0.out
    refine wp_region_stop [0,1,2,3,4,6] 5 (by kernel_rfl) (by kernel_rfl) (fun _ _ _ _ _ h => h) ?_; apply Exists.intro; refine ⟨fun U hU hN => ?_, ?_⟩; simp only [pick, List.flatMap_cons, List.flatMap_nil, List.getElem?_cons_zero, List.getElem?_cons_succ, Option.toList_some, List.cons_append, List.nil_append]
    · repeat (go_big_quiet_step (fail))
      refine wpQuiet_nil ?_
      exact rfl
    simp only [pick, List.flatMap_cons, List.flatMap_nil, List.getElem?_cons_zero, List.getElem?_cons_succ, Option.toList_some, List.cons_append, List.nil_append]
    intro w8 hk8
    haveI p_w8 : PrevWorld w8 _ := ⟨hk8⟩
    clear hk8
    go_wp2_with fail
    refine (Calls.retP (HV.out _ (by repeat (first | with_reducible exact HK.out | with_reducible exact Kept.refl _ _ | with_reducible refine Kept.prev ?_ | with_reducible refine Kept.alloc' ?_ _ | with_reducible refine Kept.drew' ?_ | with_reducible refine Kept.setB ?_ _ _ _ (by omega) | with_reducible refine Kept.row' ?_ _ _ (by omega) | with_reducible refine Kept.map' ?_ _ _ (by omega)))) rfl).mono ?_; rintro e w9 ⟨rfl, hk_w9⟩; haveI p_w9 : PrevWorld w9 _ := ⟨hk_w9⟩; have hz_w9 : w.heap.size ≤ w9.heap.size := Kept.size (by repeat (first | with_reducible exact HK.out | with_reducible exact Kept.refl _ _ | with_reducible refine Kept.prev ?_ | with_reducible refine Kept.alloc' ?_ _ | with_reducible refine Kept.drew' ?_ | with_reducible refine Kept.setB ?_ _ _ _ (by omega) | with_reducible refine Kept.row' ?_ _ _ (by omega) | with_reducible refine Kept.map' ?_ _ _ (by omega))); clear hk_w9
    simp only [OnlyP]
    show bodyPost Try.prog Try.f38 _ (.panic failC) _ _
    rw [HW.out]
    exact bodyPost_p rfl (by repeat (first | with_reducible exact HK.out | with_reducible exact Kept.refl _ _ | with_reducible refine Kept.prev ?_ | with_reducible refine Kept.alloc' ?_ _ | with_reducible refine Kept.drew' ?_ | with_reducible refine Kept.setB ?_ _ _ _ (by omega) | with_reducible refine Kept.row' ?_ _ _ (by omega) | with_reducible refine Kept.map' ?_ _ _ (by omega)))
  | some u =>
    have HW1 : Hid (rawF (valP t n) t x = withinP u b) := HW0.out
    refine wp_region_heads [0,1,2,3,4,6,5] [7,8] (by kernel_rfl) (by kernel_rfl) (fun _ _ _ _ _ h => h) ?_; apply Exists.intro; refine ⟨fun U hU hN => ?_, ?_⟩; simp only [pick, List.flatMap_cons, List.flatMap_nil, List.getElem?_cons_zero, List.getElem?_cons_succ, Option.toList_some, List.cons_append, List.nil_append]
    · iterate 6 (go_big_quiet_step (fail))
      go_big_quiet_step (exact Calls.headV hU (Calls.retV (HV.out _ (Kept.trans (by repeat (first | with_reducible exact HK.out | with_reducible exact Kept.refl _ _ | with_reducible refine Kept.prev ?_ | with_reducible refine Kept.alloc' ?_ _ | with_reducible refine Kept.drew' ?_ | with_reducible refine Kept.setB ?_ _ _ _ (by omega) | with_reducible refine Kept.row' ?_ _ _ (by omega) | with_reducible refine Kept.map' ?_ _ _ (by omega))) (AfterU.prop _))) rfl))
      refine wpQuiet_nil ?_
      exact rfl
    simp only [pick, List.flatMap_cons, List.flatMap_nil, List.getElem?_cons_zero, List.getElem?_cons_succ, Option.toList_some, List.cons_append, List.nil_append]
    intro w8 hk8
    haveI p_w8 : PrevWorld w8 _ := ⟨hk8⟩
    clear hk8 HV HW0
    go_wp2_with fail
    cases hq : withinP u b with
    | none =>
      have HW : Hid (rawF (valP t n) t x = none) := by rw [Hid, HW1.out, hq]
      refine (Calls.retP (within_any _ _ b) hq).mono ?_; rintro e w10 ⟨rfl, hk_w10⟩; haveI p_w10 : PrevWorld w10 _ := ⟨hk_w10⟩; have hz_w10 : w.heap.size ≤ w10.heap.size := Kept.size (by repeat (first | with_reducible exact HK.out | with_reducible exact Kept.refl _ _ | with_reducible refine Kept.prev ?_ | with_reducible refine Kept.alloc' ?_ _ | with_reducible refine Kept.drew' ?_ | with_reducible refine Kept.setB ?_ _ _ _ (by omega) | with_reducible refine Kept.row' ?_ _ _ (by omega) | with_reducible refine Kept.map' ?_ _ _ (by omega))); clear hk_w10
      show bodyPost _ _ _ (.panic failC) _ _
      rw [HW.out]
      exact bodyPost_p rfl (by repeat (first | with_reducible exact HK.out | with_reducible exact Kept.refl _ _ | with_reducible refine Kept.prev ?_ | with_reducible refine Kept.alloc' ?_ _ | with_reducible refine Kept.drew' ?_ | with_reducible refine Kept.setB ?_ _ _ _ (by omega) | with_reducible refine Kept.row' ?_ _ _ (by omega) | with_reducible refine Kept.map' ?_ _ _ (by omega)))
    | some u' =>
      have HW : Hid (rawF (valP t n) t x = some u') := by rw [Hid, HW1.out, hq]
      refine (Calls.retV (within_any _ _ b) hq).mono ?_; rintro e w10 ⟨rfl, hk_w10⟩; haveI p_w10 : PrevWorld w10 _ := ⟨hk_w10⟩; have hz_w10 : w.heap.size ≤ w10.heap.size := Kept.size (by repeat (first | with_reducible exact HK.out | with_reducible exact Kept.refl _ _ | with_reducible refine Kept.prev ?_ | with_reducible refine Kept.alloc' ?_ _ | with_reducible refine Kept.drew' ?_ | with_reducible refine Kept.setB ?_ _ _ _ (by omega) | with_reducible refine Kept.row' ?_ _ _ (by omega) | with_reducible refine Kept.map' ?_ _ _ (by omega))); clear hk_w10
      clear hq
      go_wp2_with fail
      rw [HW.out]
      exact bodyPost_o rfl (res1 Try.results38 (resT rfl)) (by repeat (first | with_reducible exact HK.out | with_reducible exact Kept.refl _ _ | with_reducible refine Kept.prev ?_ | with_reducible refine Kept.alloc' ?_ _ | with_reducible refine Kept.drew' ?_ | with_reducible refine Kept.setB ?_ _ _ _ (by omega) | with_reducible refine Kept.row' ?_ _ _ (by omega) | with_reducible refine Kept.map' ?_ _ _ (by omega)))
end Go.Proofs.Ytgdjhhfbpalkdaa
