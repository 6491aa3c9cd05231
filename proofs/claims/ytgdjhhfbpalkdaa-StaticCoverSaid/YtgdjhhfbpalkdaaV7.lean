/- member of three operands. -/
import Derived.Test.YtgdjhhfbpalkdaaV6
namespace Go.Proofs.Ytgdjhhfbpalkdaa
open Go.RowKit

set_option maxRecDepth 100000 in
set_option maxHeartbeats 4000000 in
theorem member3_any (w : World) (v : TabV) (t : Tab) (x : ExV) (n : Nat) (ih : ValAt v t n) (hT : TabIn w v t) (hx : ExIn w (n + 1) x) (hl : x.ls.length = 3) (hI : isP t n (l0 x) = true) (hI1 : isP t n (l1 x) = true) (hI2 : isP t n (l2 x) = true) :
    Calls Try.prog 55 #[.agg (v.cells t), .agg x.cells.toArray] w (RetOB (memV (valP t n) t x) w) := by
  obtain ⟨b0, o0, ha, hat, hat1, hat2, hi0, hi1, hi2⟩ := ex_third hx (by omega)
  have HPP : Hid (∀ (a : Act) (w' : World), a.defers = [] → Kept [] w w' → bodyPost Try.prog Try.f55 (RetOB none w) (.panic failC) a w') := fun _ _ h1 h2 => bodyPost_bp h1 h2
  have HV := Lib.hid (fun w' (hk : Kept [] w w') => ih w' (l0 x) (hT.kept hk) (hi0.kept hk) hI)
  have HV1 := Lib.hid (fun w' (hk : Kept [] w w') => ih w' (l1 x) (hT.kept hk) (hi1.kept hk) hI1)
  have HV2 := Lib.hid (fun w' (hk : Kept [] w w') => ih w' (l2 x) (hT.kept hk) (hi2.kept hk) hI2)
  have HB1 := Lib.hid (fun z (h : valP t n (l1 x) = some z) => val_bd hT.ll h)
  have HB2 := Lib.hid (fun z (h : valP t n (l2 x) = some z) => val_bd hT.ll h)
  have HMK := Lib.hid (fun w' (hk : Kept [] w w') => mark_any w' v t (l1 x) (hT.kept hk))
  have HM : Hid (memV (valP t n) t x = match valP t n (l0 x) with | none => none | some z => match valP t n (l1 x) with | none => none | some lo => match valP t n (l2 x) with | none => none | some hi => some (memB z lo hi)) := by
    have h2 : ¬ x.ls.length = 2 := by omega
    rw [Hid, memV]
    cases valP t n (l0 x) with
    | none => rfl
    | some z =>
      simp only [if_neg h2]
      rfl
  have q1 := hx.2.2.2.2.1
  have hl2 : (0 : Int) < (x.ls.length : Int) := by omega
  have hl3 : (1 : Int) < (x.ls.length : Int) := by omega
  have hl5 : (2 : Int) < (x.ls.length : Int) := by omega
  have hl4 : ((x.ls.length : Int) == 3) = true := by simp; omega
  clear ih hT hx hl hI hi0 hi1 hI1 hI2 hi2
  unfold TabV.cells at *
  unfold pvV at HMK
  generalize valP t n (l0 x) = o at *
  generalize valP t n (l1 x) = o1 at *
  generalize valP t n (l2 x) = o2 at *
  generalize l0 x = y at *
  generalize l1 x = z at *
  generalize l2 x = zz at *
  generalize markX t z = mk at *
  go_enter Try.func55, Try.ntmps55
  go_wp2_with fail
  refine wp_region_head 5 0 (fun _ => .cells #[] 0) (by kernel_rfl) (by kernel_rfl) (fun i o h1 h2 => by omega) (fun _ _ _ _ _ h => h) ?_; apply Exists.intro; refine ⟨fun U hU hN => ?_, ?_⟩; simp only [List.take_succ_cons, List.take_zero]
  · repeat (go_big_quiet_step (fail))
    refine wpQuiet_nil ?_
    exact rfl
  simp only [List.drop_succ_cons, List.drop_zero, List.take_succ_cons, List.take_zero]
  intro w4 hk4 _
  haveI p_w4 : PrevWorld w4 _ := ⟨hk4⟩
  go_wp2_with fail
  cases o with
  | none =>
    have HW : Hid (memV (valP t n) t x = none) := HM.out
    refine (Calls.retP (HV.out _ (by repeat (first | with_reducible exact HK.out | with_reducible exact Kept.refl _ _ | with_reducible refine Kept.prev ?_ | with_reducible refine Kept.alloc' ?_ _ | with_reducible refine Kept.drew' ?_ | with_reducible refine Kept.setB ?_ _ _ _ (by omega) | with_reducible refine Kept.row' ?_ _ _ (by omega) | with_reducible refine Kept.map' ?_ _ _ (by omega)))) rfl).mono ?_; rintro e w5 ⟨rfl, hk_w5⟩; haveI p_w5 : PrevWorld w5 _ := ⟨hk_w5⟩; have hz_w5 : w.heap.size ≤ w5.heap.size := Kept.size (by repeat (first | with_reducible exact HK.out | with_reducible exact Kept.refl _ _ | with_reducible refine Kept.prev ?_ | with_reducible refine Kept.alloc' ?_ _ | with_reducible refine Kept.drew' ?_ | with_reducible refine Kept.setB ?_ _ _ _ (by omega) | with_reducible refine Kept.row' ?_ _ _ (by omega) | with_reducible refine Kept.map' ?_ _ _ (by omega))); clear hk_w5
    show bodyPost _ _ _ (.panic failC) _ _
    rw [HW.out]
    exact HPP.out _ _ rfl (by repeat (first | with_reducible exact HK.out | with_reducible exact Kept.refl _ _ | with_reducible refine Kept.prev ?_ | with_reducible refine Kept.alloc' ?_ _ | with_reducible refine Kept.drew' ?_ | with_reducible refine Kept.setB ?_ _ _ _ (by omega) | with_reducible refine Kept.row' ?_ _ _ (by omega) | with_reducible refine Kept.map' ?_ _ _ (by omega)))
  | some u =>
  refine (Calls.retV (HV.out _ (by repeat (first | with_reducible exact HK.out | with_reducible exact Kept.refl _ _ | with_reducible refine Kept.prev ?_ | with_reducible refine Kept.alloc' ?_ _ | with_reducible refine Kept.drew' ?_ | with_reducible refine Kept.setB ?_ _ _ _ (by omega) | with_reducible refine Kept.row' ?_ _ _ (by omega) | with_reducible refine Kept.map' ?_ _ _ (by omega)))) rfl).mono ?_; rintro e w5 ⟨rfl, hk_w5⟩; haveI p_w5 : PrevWorld w5 _ := ⟨hk_w5⟩; have hz_w5 : w.heap.size ≤ w5.heap.size := Kept.size (by repeat (first | with_reducible exact HK.out | with_reducible exact Kept.refl _ _ | with_reducible refine Kept.prev ?_ | with_reducible refine Kept.alloc' ?_ _ | with_reducible refine Kept.drew' ?_ | with_reducible refine Kept.setB ?_ _ _ _ (by omega) | with_reducible refine Kept.row' ?_ _ _ (by omega) | with_reducible refine Kept.map' ?_ _ _ (by omega))); clear hk_w5
  clear HV
  go_wp2_with fail
  refine wp_region_head 10 2 (fun _ => .cells #[.int .i64 0, .int .i64 0] 55) (by kernel_rfl) (by kernel_rfl) (fun i o h1 h2 h3 => by obtain rfl | rfl : i = 10 ∨ i = 11 := (by omega); all_goals (obtain rfl := Option.some.inj h3; exact alc_of rfl rfl Try.zeroBd)) (fun _ _ _ _ _ h => h) ?_; apply Exists.intro; refine ⟨fun U hU hN => ?_, ?_⟩; simp only [List.take_succ_cons, List.take_zero]
  · repeat (go_big_quiet_step (exact Calls.headV hU (HMK.out _ (Kept.trans (by repeat (first | with_reducible exact HK.out | with_reducible exact Kept.refl _ _ | with_reducible refine Kept.prev ?_ | with_reducible refine Kept.alloc' ?_ _ | with_reducible refine Kept.drew' ?_ | with_reducible refine Kept.setB ?_ _ _ _ (by omega) | with_reducible refine Kept.row' ?_ _ _ (by omega) | with_reducible refine Kept.map' ?_ _ _ (by omega))) (AfterU.prop _)))))
    refine wpQuiet_nil ?_
    exact rfl
  simp only [List.drop_succ_cons, List.drop_zero, List.take_succ_cons, List.take_zero]
  intro B2 hB2 _ B3 hB3 hne w6 hk6 hh
  haveI p_w6 : PrevWorld w6 _ := ⟨hk6⟩
  haveI bx2 : BoxIs w6 B2 55 #[.int .i64 0, .int .i64 0] := box_of hh (by simp)
  haveI bx3 : BoxIs w6 B3 55 #[.int .i64 0, .int .i64 0] := box_of hh (by simp)
  have hne2 := ne_of hne
  haveI ap1 : Apart B2 B3 := ⟨hne2⟩
  haveI ap2 : Apart B3 B2 := ⟨hne2.symm⟩
  haveI g2 : BornAfter B2 _ := ⟨hB2⟩
  haveI g3 : BornAfter B3 _ := ⟨hB3⟩
  have hz2 : w.heap.size ≤ B2 := Nat.le_trans (Kept.size (X := []) (by repeat (first | with_reducible exact HK.out | with_reducible exact Kept.refl _ _ | with_reducible refine Kept.prev ?_ | with_reducible refine Kept.alloc' ?_ _ | with_reducible refine Kept.drew' ?_ | with_reducible refine Kept.setB ?_ _ _ _ (by omega) | with_reducible refine Kept.row' ?_ _ _ (by omega) | with_reducible refine Kept.map' ?_ _ _ (by omega)))) hB2
  have hz3 : w.heap.size ≤ B3 := Nat.le_trans (Kept.size (X := []) (by repeat (first | with_reducible exact HK.out | with_reducible exact Kept.refl _ _ | with_reducible refine Kept.prev ?_ | with_reducible refine Kept.alloc' ?_ _ | with_reducible refine Kept.drew' ?_ | with_reducible refine Kept.setB ?_ _ _ _ (by omega) | with_reducible refine Kept.row' ?_ _ _ (by omega) | with_reducible refine Kept.map' ?_ _ _ (by omega)))) hB3
  clear hk6 hh hne HMK
  go_wp2_with fail
  refine wp_gen' ?_
  intro w7 hw7
  haveI p_w7 : PrevWorld w7 _ := ⟨by rw [hw7]; exact Kept.setB (Kept.setB (Kept.setB (Kept.setB p_w6.kept _ _ _ hB2) _ _ _ hB2) _ _ _ hB3) _ _ _ hB3⟩
  haveI by2 : BoxIs w7 B2 _ _ := by rw [hw7]; infer_instance
  clear hw7 p_w6 bx2 bx3
  refine wp_region_head 5 0 (fun _ => .cells #[] 0) (by kernel_rfl) (by kernel_rfl) (fun i o h1 h2 => by omega) (fun _ _ _ _ _ h => h) ?_; apply Exists.intro; refine ⟨fun U hU hN => ?_, ?_⟩; simp only [List.take_succ_cons, List.take_zero]
  · repeat (go_big_quiet_step (fail))
    refine wpQuiet_nil ?_
    exact rfl
  simp only [List.drop_succ_cons, List.drop_zero, List.take_succ_cons, List.take_zero]
  intro w8 hk8 _
  haveI p_w8 : PrevWorld w8 _ := ⟨hk8⟩
  clear hk8
  go_wp2_with fail
  cases o1 with
  | none =>
    have HW : Hid (memV (valP t n) t x = none) := HM.out
    refine (Calls.retP (HV1.out _ (by repeat (first | with_reducible exact HK.out | with_reducible exact Kept.refl _ _ | with_reducible refine Kept.prev ?_ | with_reducible refine Kept.alloc' ?_ _ | with_reducible refine Kept.drew' ?_ | with_reducible refine Kept.setB ?_ _ _ _ (by omega) | with_reducible refine Kept.row' ?_ _ _ (by omega) | with_reducible refine Kept.map' ?_ _ _ (by omega)))) rfl).mono ?_; rintro e w9 ⟨rfl, hk_w9⟩; haveI p_w9 : PrevWorld w9 _ := ⟨hk_w9⟩; have hz_w9 : w.heap.size ≤ w9.heap.size := Kept.size (by repeat (first | with_reducible exact HK.out | with_reducible exact Kept.refl _ _ | with_reducible refine Kept.prev ?_ | with_reducible refine Kept.alloc' ?_ _ | with_reducible refine Kept.drew' ?_ | with_reducible refine Kept.setB ?_ _ _ _ (by omega) | with_reducible refine Kept.row' ?_ _ _ (by omega) | with_reducible refine Kept.map' ?_ _ _ (by omega))); clear hk_w9
    show bodyPost _ _ _ (.panic failC) _ _
    rw [HW.out]
    exact HPP.out _ _ rfl (by repeat (first | with_reducible exact HK.out | with_reducible exact Kept.refl _ _ | with_reducible refine Kept.prev ?_ | with_reducible refine Kept.alloc' ?_ _ | with_reducible refine Kept.drew' ?_ | with_reducible refine Kept.setB ?_ _ _ _ (by omega) | with_reducible refine Kept.row' ?_ _ _ (by omega) | with_reducible refine Kept.map' ?_ _ _ (by omega)))
  | some lo =>
  obtain ⟨b1, b2⟩ := HB1.out lo rfl
  refine (Calls.retV (HV1.out _ (by repeat (first | with_reducible exact HK.out | with_reducible exact Kept.refl _ _ | with_reducible refine Kept.prev ?_ | with_reducible refine Kept.alloc' ?_ _ | with_reducible refine Kept.drew' ?_ | with_reducible refine Kept.setB ?_ _ _ _ (by omega) | with_reducible refine Kept.row' ?_ _ _ (by omega) | with_reducible refine Kept.map' ?_ _ _ (by omega)))) rfl).mono ?_; rintro e w9 ⟨rfl, hk_w9⟩; haveI p_w9 : PrevWorld w9 _ := ⟨hk_w9⟩; have hz_w9 : w.heap.size ≤ w9.heap.size := Kept.size (by repeat (first | with_reducible exact HK.out | with_reducible exact Kept.refl _ _ | with_reducible refine Kept.prev ?_ | with_reducible refine Kept.alloc' ?_ _ | with_reducible refine Kept.drew' ?_ | with_reducible refine Kept.setB ?_ _ _ _ (by omega) | with_reducible refine Kept.row' ?_ _ _ (by omega) | with_reducible refine Kept.map' ?_ _ _ (by omega))); clear hk_w9
  clear HV1 HB1
  go_wp2_with fail
  refine wp_gen' ?_
  intro w10 hw10
  haveI p_w10 : PrevWorld w10 _ := ⟨by rw [hw10]; exact Kept.setB (Kept.trans p_w7.kept (Kept.trans p_w8.kept p_w9.kept)) _ _ _ hB2⟩
  haveI bz2 : BoxIs w10 B2 _ _ := by rw [hw10]; infer_instance
  clear hw10 p_w7 by2
  refine wp_region_head 5 0 (fun _ => .cells #[] 0) (by kernel_rfl) (by kernel_rfl) (fun i o h1 h2 => by omega) (fun _ _ _ _ _ h => h) ?_; apply Exists.intro; refine ⟨fun U hU hN => ?_, ?_⟩; simp only [List.take_succ_cons, List.take_zero]
  · repeat (go_big_quiet_step (fail))
    refine wpQuiet_nil ?_
    exact rfl
  simp only [List.drop_succ_cons, List.drop_zero, List.take_succ_cons, List.take_zero]
  intro w11 hk11 _
  haveI p_w11 : PrevWorld w11 _ := ⟨hk11⟩
  clear hk11
  go_wp2_with fail
  cases o2 with
  | none =>
    have HW : Hid (memV (valP t n) t x = none) := HM.out
    refine (Calls.retP (HV2.out _ (by repeat (first | with_reducible exact HK.out | with_reducible exact Kept.refl _ _ | with_reducible refine Kept.prev ?_ | with_reducible refine Kept.alloc' ?_ _ | with_reducible refine Kept.drew' ?_ | with_reducible refine Kept.setB ?_ _ _ _ (by omega) | with_reducible refine Kept.row' ?_ _ _ (by omega) | with_reducible refine Kept.map' ?_ _ _ (by omega)))) rfl).mono ?_; rintro e w12 ⟨rfl, hk_w12⟩; haveI p_w12 : PrevWorld w12 _ := ⟨hk_w12⟩; have hz_w12 : w.heap.size ≤ w12.heap.size := Kept.size (by repeat (first | with_reducible exact HK.out | with_reducible exact Kept.refl _ _ | with_reducible refine Kept.prev ?_ | with_reducible refine Kept.alloc' ?_ _ | with_reducible refine Kept.drew' ?_ | with_reducible refine Kept.setB ?_ _ _ _ (by omega) | with_reducible refine Kept.row' ?_ _ _ (by omega) | with_reducible refine Kept.map' ?_ _ _ (by omega))); clear hk_w12
    show bodyPost _ _ _ (.panic failC) _ _
    rw [HW.out]
    exact HPP.out _ _ rfl (by repeat (first | with_reducible exact HK.out | with_reducible exact Kept.refl _ _ | with_reducible refine Kept.prev ?_ | with_reducible refine Kept.alloc' ?_ _ | with_reducible refine Kept.drew' ?_ | with_reducible refine Kept.setB ?_ _ _ _ (by omega) | with_reducible refine Kept.row' ?_ _ _ (by omega) | with_reducible refine Kept.map' ?_ _ _ (by omega)))
  | some hi =>
  have HW : Hid (memV (valP t n) t x = some (memB u lo hi)) := HM.out
  obtain ⟨b3, b4⟩ := HB2.out hi rfl
  refine (Calls.retV (HV2.out _ (by repeat (first | with_reducible exact HK.out | with_reducible exact Kept.refl _ _ | with_reducible refine Kept.prev ?_ | with_reducible refine Kept.alloc' ?_ _ | with_reducible refine Kept.drew' ?_ | with_reducible refine Kept.setB ?_ _ _ _ (by omega) | with_reducible refine Kept.row' ?_ _ _ (by omega) | with_reducible refine Kept.map' ?_ _ _ (by omega)))) rfl).mono ?_; rintro e w12 ⟨rfl, hk_w12⟩; haveI p_w12 : PrevWorld w12 _ := ⟨hk_w12⟩; have hz_w12 : w.heap.size ≤ w12.heap.size := Kept.size (by repeat (first | with_reducible exact HK.out | with_reducible exact Kept.refl _ _ | with_reducible refine Kept.prev ?_ | with_reducible refine Kept.alloc' ?_ _ | with_reducible refine Kept.drew' ?_ | with_reducible refine Kept.setB ?_ _ _ _ (by omega) | with_reducible refine Kept.row' ?_ _ _ (by omega) | with_reducible refine Kept.map' ?_ _ _ (by omega))); clear hk_w12
  clear HV2 HB2
  by_cases c1 : lo ≤ u
  · by_cases c2 : u ≤ hi
    · have HE : Hid (memB u lo hi = true) := by rw [Hid, memB]; simp [c1, c2]
      go_wp2_with fail
      rw [HW.out, HE.out]
      exact bodyPost_b rfl (res1 Try.results55 (resT rfl)) (by repeat (first | with_reducible exact HK.out | with_reducible exact Kept.refl _ _ | with_reducible refine Kept.prev ?_ | with_reducible refine Kept.alloc' ?_ _ | with_reducible refine Kept.drew' ?_ | with_reducible refine Kept.setB ?_ _ _ _ (by omega) | with_reducible refine Kept.row' ?_ _ _ (by omega) | with_reducible refine Kept.map' ?_ _ _ (by omega)))
    · have HE : Hid (memB u lo hi = false) := by rw [Hid, memB]; simp [c2]
      have c3 : decide (u ≤ hi) = false := by simp; omega
      go_wp2_with fail
      rw [HW.out, HE.out]
      exact bodyPost_b rfl (res1 Try.results55 (resT rfl)) (by repeat (first | with_reducible exact HK.out | with_reducible exact Kept.refl _ _ | with_reducible refine Kept.prev ?_ | with_reducible refine Kept.alloc' ?_ _ | with_reducible refine Kept.drew' ?_ | with_reducible refine Kept.setB ?_ _ _ _ (by omega) | with_reducible refine Kept.row' ?_ _ _ (by omega) | with_reducible refine Kept.map' ?_ _ _ (by omega)))
  · have HE : Hid (memB u lo hi = false) := by rw [Hid, memB]; simp [c1]
    go_wp2_with fail
    rw [HW.out, HE.out]
    exact bodyPost_b rfl (res1 Try.results55 (resT rfl)) (by repeat (first | with_reducible exact HK.out | with_reducible exact Kept.refl _ _ | with_reducible refine Kept.prev ?_ | with_reducible refine Kept.alloc' ?_ _ | with_reducible refine Kept.drew' ?_ | with_reducible refine Kept.setB ?_ _ _ _ (by omega) | with_reducible refine Kept.row' ?_ _ _ (by omega) | with_reducible refine Kept.map' ?_ _ _ (by omega)))
/-- member, of what is static. -/
theorem member_any (w : World) (v : TabV) (t : Tab) (x : ExV) (n : Nat) (ih : ValAt v t n) (hT : TabIn w v t) (hx : ExIn w (n + 1) x) (hI : inF (isP t n) t x = true) :
    Calls Try.prog 55 #[.agg (v.cells t), .agg x.cells.toArray] w (RetOB (memV (valP t n) t x) w) := by
  unfold inF at hI
  split at hI
  · rename_i y z hl
    simp only [Bool.and_eq_true] at hI
    have e0 : l0 x = y := by simp [l0, hl]
    have e1 : l1 x = z := by simp [l1, hl]
    cases hm : markP t z with
    | none => rw [hm] at hI; simp at hI
    | some r =>
      obtain ⟨b, a⟩ := r
      exact member2_any w v t x n ih hT hx (by rw [hl]; rfl) (by rw [e0]; exact hI.2) b a (by rw [e1]; exact hm)
  · simp only [allF, Bool.and_eq_true, decide_eq_true_eq, List.all_eq_true] at hI
    obtain ⟨h1, h2⟩ := hI
    have e := list3 (d := (default : ExV)) h1
    have m0 : l0 x ∈ x.ls := by rw [e]; simp [l0]
    have m1 : l1 x ∈ x.ls := by rw [e]; simp [l1]
    have m2 : l2 x ∈ x.ls := by rw [e]; simp [l2]
    exact member3_any w v t x n ih hT hx h1 (h2 _ m0) (h2 _ m1) (h2 _ m2)
end Go.Proofs.Ytgdjhhfbpalkdaa
