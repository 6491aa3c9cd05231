/- The reference: Value, Has, inside, Range, choice. -/
import Derived.Test.YtgdjhhfbpalkdaaGreatR8
import Derived.Test.YtgdjhhfbpalkdaaGreatV17
namespace Go.Proofs.YtgdjhhfbpalkdaaGreat
open Go.RowKit
theorem risP_any (v : TabV) (t : Tab) (n : Nat) : IsR v t n := ris_any v t n
set_option maxRecDepth 100000 in
set_option maxHeartbeats 2000000 in
theorem rValue_any (w : World) (v : TabV) (t : Tab) (x : ExV) (n : Nat) (hT : TabIn w v t) (hx : ExIn w n x) : Calls Tryz.prog 7 #[.agg (v.cells t), .agg x.cells.toArray] w (RetV (.tuple #[.int .i64 (valueP t n x).1, .int .i64 (valueP t n x).2]) w) := by
  have HI := Lib.hid (fun w' (hk : Kept [] w w') => ris_any v t n w' x (hT.kept hk) (hx.kept hk))
  have HV := Lib.hid (fun w' (hk : Kept [] w w') h => rval_any v t n w' x (hT.kept hk) (hx.kept hk) h)
  have HM : Hid (valueP t n x = if isP t n x then (match valP t n x with | some v => (v, (0 : Int)) | none => ((0 : Int), (71 : Int))) else ((0 : Int), (70 : Int))) := rfl
  clear hT hx
  unfold TabV.cells at *
  unfold ovV at HV
  go_enter Tryz.func7, Tryz.ntmps7
  go_wp2_with fail
  refine (HI.out _ (by repeat (first | with_reducible exact HK.out | with_reducible exact Kept.refl _ _ | with_reducible refine Kept.prev ?_ | with_reducible refine Kept.alloc' ?_ _ | with_reducible refine Kept.drew' ?_ | with_reducible refine Kept.setB ?_ _ _ _ (by omega) | with_reducible refine Kept.row' ?_ _ _ (by omega) | with_reducible refine Kept.map' ?_ _ _ (by omega)))).mono ?_; rintro e w2 ⟨rfl, hk_w2⟩; haveI p_w2 : PrevWorld w2 _ := ⟨hk_w2⟩; have hz_w2 : w.heap.size ≤ w2.heap.size := Kept.size (by repeat (first | with_reducible exact HK.out | with_reducible exact Kept.refl _ _ | with_reducible refine Kept.prev ?_ | with_reducible refine Kept.alloc' ?_ _ | with_reducible refine Kept.drew' ?_ | with_reducible refine Kept.setB ?_ _ _ _ (by omega) | with_reducible refine Kept.row' ?_ _ _ (by omega) | with_reducible refine Kept.map' ?_ _ _ (by omega))); clear hk_w2
  cases hi : isP t n x
  · have HW : Hid (valueP t n x = (0, 70)) := by rw [Hid, HM.out, hi]; rfl
    clear HM HV
    go_wp2_with fail
    rw [HW.out]
    exact bodyPost_v rfl (res2 Tryz.results7 (resT rfl) (resT rfl)) (by repeat (first | with_reducible exact HK.out | with_reducible exact Kept.refl _ _ | with_reducible refine Kept.prev ?_ | with_reducible refine Kept.alloc' ?_ _ | with_reducible refine Kept.drew' ?_ | with_reducible refine Kept.setB ?_ _ _ _ (by omega) | with_reducible refine Kept.row' ?_ _ _ (by omega) | with_reducible refine Kept.map' ?_ _ _ (by omega)))
  have HV2 := Lib.hid (fun w' (hk : Kept [] w w') => HV.out w' hk hi)
  clear HV
  cases hv : valP t n x with
  | none =>
    have HW : Hid (valueP t n x = (0, 71)) := by rw [Hid, HM.out, hi, hv]; rfl
    rw [hv] at HV2
    simp only [Option.getD_none, Option.isSome_none] at HV2
    clear HM
    go_wp2_with fail
    refine (HV2.out _ (by repeat (first | with_reducible exact HK.out | with_reducible exact Kept.refl _ _ | with_reducible refine Kept.prev ?_ | with_reducible refine Kept.alloc' ?_ _ | with_reducible refine Kept.drew' ?_ | with_reducible refine Kept.setB ?_ _ _ _ (by omega) | with_reducible refine Kept.row' ?_ _ _ (by omega) | with_reducible refine Kept.map' ?_ _ _ (by omega)))).mono ?_; rintro e w3 ⟨rfl, hk_w3⟩; haveI p_w3 : PrevWorld w3 _ := ⟨hk_w3⟩; have hz_w3 : w.heap.size ≤ w3.heap.size := Kept.size (by repeat (first | with_reducible exact HK.out | with_reducible exact Kept.refl _ _ | with_reducible refine Kept.prev ?_ | with_reducible refine Kept.alloc' ?_ _ | with_reducible refine Kept.drew' ?_ | with_reducible refine Kept.setB ?_ _ _ _ (by omega) | with_reducible refine Kept.row' ?_ _ _ (by omega) | with_reducible refine Kept.map' ?_ _ _ (by omega))); clear hk_w3
    go_wp2_with fail
    rw [HW.out]
    exact bodyPost_v rfl (res2 Tryz.results7 (resT rfl) (resT rfl)) (by repeat (first | with_reducible exact HK.out | with_reducible exact Kept.refl _ _ | with_reducible refine Kept.prev ?_ | with_reducible refine Kept.alloc' ?_ _ | with_reducible refine Kept.drew' ?_ | with_reducible refine Kept.setB ?_ _ _ _ (by omega) | with_reducible refine Kept.row' ?_ _ _ (by omega) | with_reducible refine Kept.map' ?_ _ _ (by omega)))
  | some u =>
    have HW : Hid (valueP t n x = (u, 0)) := by rw [Hid, HM.out, hi, hv]; rfl
    rw [hv] at HV2
    simp only [Option.getD_some, Option.isSome_some] at HV2
    clear HM
    go_wp2_with fail
    refine (HV2.out _ (by repeat (first | with_reducible exact HK.out | with_reducible exact Kept.refl _ _ | with_reducible refine Kept.prev ?_ | with_reducible refine Kept.alloc' ?_ _ | with_reducible refine Kept.drew' ?_ | with_reducible refine Kept.setB ?_ _ _ _ (by omega) | with_reducible refine Kept.row' ?_ _ _ (by omega) | with_reducible refine Kept.map' ?_ _ _ (by omega)))).mono ?_; rintro e w3 ⟨rfl, hk_w3⟩; haveI p_w3 : PrevWorld w3 _ := ⟨hk_w3⟩; have hz_w3 : w.heap.size ≤ w3.heap.size := Kept.size (by repeat (first | with_reducible exact HK.out | with_reducible exact Kept.refl _ _ | with_reducible refine Kept.prev ?_ | with_reducible refine Kept.alloc' ?_ _ | with_reducible refine Kept.drew' ?_ | with_reducible refine Kept.setB ?_ _ _ _ (by omega) | with_reducible refine Kept.row' ?_ _ _ (by omega) | with_reducible refine Kept.map' ?_ _ _ (by omega))); clear hk_w3
    go_wp2_with fail
    rw [HW.out]
    exact bodyPost_v rfl (res2 Tryz.results7 (resT rfl) (resT rfl)) (by repeat (first | with_reducible exact HK.out | with_reducible exact Kept.refl _ _ | with_reducible refine Kept.prev ?_ | with_reducible refine Kept.alloc' ?_ _ | with_reducible refine Kept.drew' ?_ | with_reducible refine Kept.setB ?_ _ _ _ (by omega) | with_reducible refine Kept.row' ?_ _ _ (by omega) | with_reducible refine Kept.map' ?_ _ _ (by omega)))

def hasP (t : Tab) (sub x : Int) : Bool := match rangeP t sub with | some r => decide (r.1 ≤ x) && decide (x ≤ r.2) | none => false
set_option maxRecDepth 100000 in
set_option maxHeartbeats 1000000 in
theorem rHas_any (w : World) (v : TabV) (t : Tab) (sub x : Int) (hT : TabIn w v t) : Calls Tryz.prog 61 #[.agg (v.cells t), .int .i64 sub, .int .i64 x] w (RetV (.bool (hasP t sub x)) w) := by
  have HR := Lib.hid (fun w' (hk : Kept [] w w') => rrange_any w' v t sub (hT.kept hk))
  have HM : Hid (hasP t sub x = match rangeP t sub with | some r => decide (r.1 ≤ x) && decide (x ≤ r.2) | none => false) := rfl
  clear hT
  unfold TabV.cells at *
  unfold bd3V at HR
  go_enter Tryz.func61, Tryz.ntmps61
  go_wp2_with fail
  generalize rangeP t sub = r at *
  cases r with
  | none =>
    have HW : Hid (hasP t sub x = false) := HM.out
    simp only [Option.getD_none, Option.isSome_none] at HR
    refine (HR.out _ (by repeat (first | with_reducible exact HK.out | with_reducible exact Kept.refl _ _ | with_reducible refine Kept.prev ?_ | with_reducible refine Kept.alloc' ?_ _ | with_reducible refine Kept.drew' ?_ | with_reducible refine Kept.setB ?_ _ _ _ (by omega) | with_reducible refine Kept.row' ?_ _ _ (by omega) | with_reducible refine Kept.map' ?_ _ _ (by omega)))).mono ?_; rintro e w2 ⟨rfl, hk_w2⟩; haveI p_w2 : PrevWorld w2 _ := ⟨hk_w2⟩; have hz_w2 : w.heap.size ≤ w2.heap.size := Kept.size (by repeat (first | with_reducible exact HK.out | with_reducible exact Kept.refl _ _ | with_reducible refine Kept.prev ?_ | with_reducible refine Kept.alloc' ?_ _ | with_reducible refine Kept.drew' ?_ | with_reducible refine Kept.setB ?_ _ _ _ (by omega) | with_reducible refine Kept.row' ?_ _ _ (by omega) | with_reducible refine Kept.map' ?_ _ _ (by omega))); clear hk_w2
    go_wp2_with fail
    rw [HW.out]
    exact bodyPost_v rfl (res1 Tryz.results61 (resT rfl)) (by repeat (first | with_reducible exact HK.out | with_reducible exact Kept.refl _ _ | with_reducible refine Kept.prev ?_ | with_reducible refine Kept.alloc' ?_ _ | with_reducible refine Kept.drew' ?_ | with_reducible refine Kept.setB ?_ _ _ _ (by omega) | with_reducible refine Kept.row' ?_ _ _ (by omega) | with_reducible refine Kept.map' ?_ _ _ (by omega)))
  | some r =>
    obtain ⟨lo, hi⟩ := r
    have HW1 : Hid (hasP t sub x = (decide (lo ≤ x) && decide (x ≤ hi))) := HM.out
    simp only [Option.getD_some, Option.isSome_some] at HR
    refine (HR.out _ (by repeat (first | with_reducible exact HK.out | with_reducible exact Kept.refl _ _ | with_reducible refine Kept.prev ?_ | with_reducible refine Kept.alloc' ?_ _ | with_reducible refine Kept.drew' ?_ | with_reducible refine Kept.setB ?_ _ _ _ (by omega) | with_reducible refine Kept.row' ?_ _ _ (by omega) | with_reducible refine Kept.map' ?_ _ _ (by omega)))).mono ?_; rintro e w2 ⟨rfl, hk_w2⟩; haveI p_w2 : PrevWorld w2 _ := ⟨hk_w2⟩; have hz_w2 : w.heap.size ≤ w2.heap.size := Kept.size (by repeat (first | with_reducible exact HK.out | with_reducible exact Kept.refl _ _ | with_reducible refine Kept.prev ?_ | with_reducible refine Kept.alloc' ?_ _ | with_reducible refine Kept.drew' ?_ | with_reducible refine Kept.setB ?_ _ _ _ (by omega) | with_reducible refine Kept.row' ?_ _ _ (by omega) | with_reducible refine Kept.map' ?_ _ _ (by omega))); clear hk_w2
    clear HM HR
    by_cases c : lo ≤ x
    · have HW : Hid (hasP t sub x = decide (x ≤ hi)) := by rw [Hid, HW1.out, decide_eq_true c, Bool.true_and]
      go_wp2_with fail
      rw [HW.out]
      exact bodyPost_v rfl (res1 Tryz.results61 (resT rfl)) (by repeat (first | with_reducible exact HK.out | with_reducible exact Kept.refl _ _ | with_reducible refine Kept.prev ?_ | with_reducible refine Kept.alloc' ?_ _ | with_reducible refine Kept.drew' ?_ | with_reducible refine Kept.setB ?_ _ _ _ (by omega) | with_reducible refine Kept.row' ?_ _ _ (by omega) | with_reducible refine Kept.map' ?_ _ _ (by omega)))
    · have HW : Hid (hasP t sub x = false) := by rw [Hid, HW1.out, decide_eq_false c, Bool.false_and]
      have c' : decide (lo ≤ x) = false := decide_eq_false c
      clear c
      go_wp2_with fail
      rw [HW.out]
      exact bodyPost_v rfl (res1 Tryz.results61 (resT rfl)) (by repeat (first | with_reducible exact HK.out | with_reducible exact Kept.refl _ _ | with_reducible refine Kept.prev ?_ | with_reducible refine Kept.alloc' ?_ _ | with_reducible refine Kept.drew' ?_ | with_reducible refine Kept.setB ?_ _ _ _ (by omega) | with_reducible refine Kept.row' ?_ _ _ (by omega) | with_reducible refine Kept.map' ?_ _ _ (by omega)))
theorem inside_has (t : Tab) (sub : Int) (b : Bd) : insideP t sub b = if b.1 ≤ b.2 ∧ (hasP t sub b.1 = false ∨ hasP t sub b.2 = false) then 4 else 0 := by
  unfold insideP hasP
  by_cases c : b.1 ≤ b.2
  rotate_left
  · rw [if_neg c, if_neg (fun h => c h.1)]
  rw [if_pos c]
  cases rangeP t sub with
  | none => simp [c]
  | some r =>
    simp only
    by_cases h : b.1 < r.1 ∨ r.2 < b.2
    · rw [if_pos h, if_pos]
      refine ⟨c, ?_⟩
      rcases h with h | h
      · left
        rw [decide_eq_false (by omega), Bool.false_and]
      · right
        rw [decide_eq_false (show ¬ b.2 ≤ r.2 by omega), Bool.and_false]
    · rw [if_neg h, if_neg]
      rintro ⟨_, h2⟩
      rw [decide_eq_true (show r.1 ≤ b.1 by omega), decide_eq_true (show b.1 ≤ r.2 by omega), decide_eq_true (show r.1 ≤ b.2 by omega), decide_eq_true (show b.2 ≤ r.2 by omega)] at h2
      simp at h2
set_option maxRecDepth 100000 in
set_option maxHeartbeats 1000000 in
theorem rinside_any (w : World) (v : TabV) (t : Tab) (sub : Int) (b : Bd) (hT : TabIn w v t) : Calls Tryz.prog 37 #[.agg (v.cells t), .int .i64 sub, .agg #[.int .i64 b.1, .int .i64 b.2]] w (RetV (.int .i64 (insideP t sub b)) w) := by
  have HR := Lib.hid (fun w' x (hk : Kept [] w w') => rHas_any w' v t sub x (hT.kept hk))
  have HM := Lib.hid (inside_has t sub b)
  clear hT
  obtain ⟨lo, hi⟩ := b
  simp only at HM
  unfold TabV.cells at *
  have HR1 := Lib.hid (fun w' (hk : Kept [] w w') => HR.out w' lo hk)
  have HR2 := Lib.hid (fun w' (hk : Kept [] w w') => HR.out w' hi hk)
  clear HR
  generalize hasP t sub lo = h1 at *
  generalize hasP t sub hi = h2 at *
  generalize insideP t sub (lo, hi) = R at *
  go_enter Tryz.func37, Tryz.ntmps37
  by_cases c : lo ≤ hi
  rotate_left
  · have HW : Hid (R = 0) := by rw [Hid, HM.out, if_neg (fun h => c h.1)]
    have c' : decide (lo ≤ hi) = false := decide_eq_false c
    clear c HM HR1 HR2
    go_wp2_with fail
    rw [HW.out]
    exact bodyPost_v rfl (res1 Tryz.results37 (resT rfl)) (by repeat (first | with_reducible exact HK.out | with_reducible exact Kept.refl _ _ | with_reducible refine Kept.prev ?_ | with_reducible refine Kept.alloc' ?_ _ | with_reducible refine Kept.drew' ?_ | with_reducible refine Kept.setB ?_ _ _ _ (by omega) | with_reducible refine Kept.row' ?_ _ _ (by omega) | with_reducible refine Kept.map' ?_ _ _ (by omega)))
  cases h1
  · have HW : Hid (R = 4) := by rw [Hid, HM.out, if_pos ⟨c, .inl rfl⟩]
    clear HM HR2
    go_wp2_with fail
    refine (HR1.out _ (by repeat (first | with_reducible exact HK.out | with_reducible exact Kept.refl _ _ | with_reducible refine Kept.prev ?_ | with_reducible refine Kept.alloc' ?_ _ | with_reducible refine Kept.drew' ?_ | with_reducible refine Kept.setB ?_ _ _ _ (by omega) | with_reducible refine Kept.row' ?_ _ _ (by omega) | with_reducible refine Kept.map' ?_ _ _ (by omega)))).mono ?_; rintro e w2 ⟨rfl, hk_w2⟩; haveI p_w2 : PrevWorld w2 _ := ⟨hk_w2⟩; have hz_w2 : w.heap.size ≤ w2.heap.size := Kept.size (by repeat (first | with_reducible exact HK.out | with_reducible exact Kept.refl _ _ | with_reducible refine Kept.prev ?_ | with_reducible refine Kept.alloc' ?_ _ | with_reducible refine Kept.drew' ?_ | with_reducible refine Kept.setB ?_ _ _ _ (by omega) | with_reducible refine Kept.row' ?_ _ _ (by omega) | with_reducible refine Kept.map' ?_ _ _ (by omega))); clear hk_w2
    go_wp2_with fail
    rw [HW.out]
    exact bodyPost_v rfl (res1 Tryz.results37 (resT rfl)) (by repeat (first | with_reducible exact HK.out | with_reducible exact Kept.refl _ _ | with_reducible refine Kept.prev ?_ | with_reducible refine Kept.alloc' ?_ _ | with_reducible refine Kept.drew' ?_ | with_reducible refine Kept.setB ?_ _ _ _ (by omega) | with_reducible refine Kept.row' ?_ _ _ (by omega) | with_reducible refine Kept.map' ?_ _ _ (by omega)))
  cases h2
  · have HW : Hid (R = 4) := by rw [Hid, HM.out, if_pos ⟨c, .inr rfl⟩]
    clear HM
    go_wp2_with fail
    refine (HR1.out _ (by repeat (first | with_reducible exact HK.out | with_reducible exact Kept.refl _ _ | with_reducible refine Kept.prev ?_ | with_reducible refine Kept.alloc' ?_ _ | with_reducible refine Kept.drew' ?_ | with_reducible refine Kept.setB ?_ _ _ _ (by omega) | with_reducible refine Kept.row' ?_ _ _ (by omega) | with_reducible refine Kept.map' ?_ _ _ (by omega)))).mono ?_; rintro e w2 ⟨rfl, hk_w2⟩; haveI p_w2 : PrevWorld w2 _ := ⟨hk_w2⟩; have hz_w2 : w.heap.size ≤ w2.heap.size := Kept.size (by repeat (first | with_reducible exact HK.out | with_reducible exact Kept.refl _ _ | with_reducible refine Kept.prev ?_ | with_reducible refine Kept.alloc' ?_ _ | with_reducible refine Kept.drew' ?_ | with_reducible refine Kept.setB ?_ _ _ _ (by omega) | with_reducible refine Kept.row' ?_ _ _ (by omega) | with_reducible refine Kept.map' ?_ _ _ (by omega))); clear hk_w2
    go_wp2_with fail
    refine (HR2.out _ (by repeat (first | with_reducible exact HK.out | with_reducible exact Kept.refl _ _ | with_reducible refine Kept.prev ?_ | with_reducible refine Kept.alloc' ?_ _ | with_reducible refine Kept.drew' ?_ | with_reducible refine Kept.setB ?_ _ _ _ (by omega) | with_reducible refine Kept.row' ?_ _ _ (by omega) | with_reducible refine Kept.map' ?_ _ _ (by omega)))).mono ?_; rintro e w3 ⟨rfl, hk_w3⟩; haveI p_w3 : PrevWorld w3 _ := ⟨hk_w3⟩; have hz_w3 : w.heap.size ≤ w3.heap.size := Kept.size (by repeat (first | with_reducible exact HK.out | with_reducible exact Kept.refl _ _ | with_reducible refine Kept.prev ?_ | with_reducible refine Kept.alloc' ?_ _ | with_reducible refine Kept.drew' ?_ | with_reducible refine Kept.setB ?_ _ _ _ (by omega) | with_reducible refine Kept.row' ?_ _ _ (by omega) | with_reducible refine Kept.map' ?_ _ _ (by omega))); clear hk_w3
    go_wp2_with fail
    rw [HW.out]
    exact bodyPost_v rfl (res1 Tryz.results37 (resT rfl)) (by repeat (first | with_reducible exact HK.out | with_reducible exact Kept.refl _ _ | with_reducible refine Kept.prev ?_ | with_reducible refine Kept.alloc' ?_ _ | with_reducible refine Kept.drew' ?_ | with_reducible refine Kept.setB ?_ _ _ _ (by omega) | with_reducible refine Kept.row' ?_ _ _ (by omega) | with_reducible refine Kept.map' ?_ _ _ (by omega)))
  · have HW : Hid (R = 0) := by rw [Hid, HM.out, if_neg (by simp)]
    clear HM
    go_wp2_with fail
    refine (HR1.out _ (by repeat (first | with_reducible exact HK.out | with_reducible exact Kept.refl _ _ | with_reducible refine Kept.prev ?_ | with_reducible refine Kept.alloc' ?_ _ | with_reducible refine Kept.drew' ?_ | with_reducible refine Kept.setB ?_ _ _ _ (by omega) | with_reducible refine Kept.row' ?_ _ _ (by omega) | with_reducible refine Kept.map' ?_ _ _ (by omega)))).mono ?_; rintro e w2 ⟨rfl, hk_w2⟩; haveI p_w2 : PrevWorld w2 _ := ⟨hk_w2⟩; have hz_w2 : w.heap.size ≤ w2.heap.size := Kept.size (by repeat (first | with_reducible exact HK.out | with_reducible exact Kept.refl _ _ | with_reducible refine Kept.prev ?_ | with_reducible refine Kept.alloc' ?_ _ | with_reducible refine Kept.drew' ?_ | with_reducible refine Kept.setB ?_ _ _ _ (by omega) | with_reducible refine Kept.row' ?_ _ _ (by omega) | with_reducible refine Kept.map' ?_ _ _ (by omega))); clear hk_w2
    go_wp2_with fail
    refine (HR2.out _ (by repeat (first | with_reducible exact HK.out | with_reducible exact Kept.refl _ _ | with_reducible refine Kept.prev ?_ | with_reducible refine Kept.alloc' ?_ _ | with_reducible refine Kept.drew' ?_ | with_reducible refine Kept.setB ?_ _ _ _ (by omega) | with_reducible refine Kept.row' ?_ _ _ (by omega) | with_reducible refine Kept.map' ?_ _ _ (by omega)))).mono ?_; rintro e w3 ⟨rfl, hk_w3⟩; haveI p_w3 : PrevWorld w3 _ := ⟨hk_w3⟩; have hz_w3 : w.heap.size ≤ w3.heap.size := Kept.size (by repeat (first | with_reducible exact HK.out | with_reducible exact Kept.refl _ _ | with_reducible refine Kept.prev ?_ | with_reducible refine Kept.alloc' ?_ _ | with_reducible refine Kept.drew' ?_ | with_reducible refine Kept.setB ?_ _ _ _ (by omega) | with_reducible refine Kept.row' ?_ _ _ (by omega) | with_reducible refine Kept.map' ?_ _ _ (by omega))); clear hk_w3
    go_wp2_with fail
    rw [HW.out]
    exact bodyPost_v rfl (res1 Tryz.results37 (resT rfl)) (by repeat (first | with_reducible exact HK.out | with_reducible exact Kept.refl _ _ | with_reducible refine Kept.prev ?_ | with_reducible refine Kept.alloc' ?_ _ | with_reducible refine Kept.drew' ?_ | with_reducible refine Kept.setB ?_ _ _ _ (by omega) | with_reducible refine Kept.row' ?_ _ _ (by omega) | with_reducible refine Kept.map' ?_ _ _ (by omega)))
set_option maxRecDepth 100000 in
set_option maxHeartbeats 2000000 in
theorem rRange_any (w : World) (v : TabV) (t : Tab) (sub : Int) (x y : ExV) (n : Nat) (hT : TabIn w v t) (hx : ExIn w n x) (hy : ExIn w n y) :
    Calls Tryz.prog 12 #[.agg (v.cells t), .int .i64 sub, .agg x.cells.toArray, .agg y.cells.toArray] w (RetV (.tuple #[.agg #[.int .i64 (rngP t n sub x y).1.1, .int .i64 (rngP t n sub x y).1.2], .int .i64 (rngP t n sub x y).2]) w) := by
  have HX := Lib.hid (fun w' (hk : Kept [] w w') => rValue_any w' v t x n (hT.kept hk) (hx.kept hk))
  have HY := Lib.hid (fun w' (hk : Kept [] w w') => rValue_any w' v t y n (hT.kept hk) (hy.kept hk))
  have HI := Lib.hid (fun w' b (hk : Kept [] w w') => rinside_any w' v t sub b (hT.kept hk))
  have HR := Lib.hid (rngP_eq t n sub x y)
  have HIE := Lib.hid (fun b => inside_has t sub b)
  clear hT hx hy
  generalize rngP t n sub x y = R at *
  generalize (valueP t n x).1 = vx at *
  generalize (valueP t n x).2 = ex at *
  generalize (valueP t n y).1 = vy at *
  generalize (valueP t n y).2 = ey at *
  unfold TabV.cells at *
  go_enter Tryz.func12, Tryz.ntmps12
  go_wp2_with fail
  refine (HX.out _ (by repeat (first | with_reducible exact HK.out | with_reducible exact Kept.refl _ _ | with_reducible refine Kept.prev ?_ | with_reducible refine Kept.alloc' ?_ _ | with_reducible refine Kept.drew' ?_ | with_reducible refine Kept.setB ?_ _ _ _ (by omega) | with_reducible refine Kept.row' ?_ _ _ (by omega) | with_reducible refine Kept.map' ?_ _ _ (by omega)))).mono ?_; rintro e w2 ⟨rfl, hk_w2⟩; haveI p_w2 : PrevWorld w2 _ := ⟨hk_w2⟩; have hz_w2 : w.heap.size ≤ w2.heap.size := Kept.size (by repeat (first | with_reducible exact HK.out | with_reducible exact Kept.refl _ _ | with_reducible refine Kept.prev ?_ | with_reducible refine Kept.alloc' ?_ _ | with_reducible refine Kept.drew' ?_ | with_reducible refine Kept.setB ?_ _ _ _ (by omega) | with_reducible refine Kept.row' ?_ _ _ (by omega) | with_reducible refine Kept.map' ?_ _ _ (by omega))); clear hk_w2
  by_cases c1 : ex = 0
  rotate_left
  · have HW : Hid (R = ((0, 0), ex)) := by rw [Hid, HR.out, if_pos c1]
    have c2 : (ex != 0) = true := by simp [c1]
    clear HR c1 HX HY HI
    go_wp2_with fail
    rw [HW.out]
    exact bodyPost_v rfl (res2 Tryz.results12 (resC rfl inferInstance) (resT rfl)) (by repeat (first | with_reducible exact HK.out | with_reducible exact Kept.refl _ _ | with_reducible refine Kept.prev ?_ | with_reducible refine Kept.alloc' ?_ _ | with_reducible refine Kept.drew' ?_ | with_reducible refine Kept.setB ?_ _ _ _ (by omega) | with_reducible refine Kept.row' ?_ _ _ (by omega) | with_reducible refine Kept.map' ?_ _ _ (by omega)))
  subst c1
  have HR2 : Hid (R = if ey ≠ 0 then ((0, 0), ey) else if sub ≠ -1 ∧ insideP t sub (vx, vy) ≠ 0 then ((0, 0), 4) else ((vx, vy), 0)) := by rw [Hid, HR.out]; rfl
  clear HR HX
  go_wp2_with fail
  refine (HY.out _ (by repeat (first | with_reducible exact HK.out | with_reducible exact Kept.refl _ _ | with_reducible refine Kept.prev ?_ | with_reducible refine Kept.alloc' ?_ _ | with_reducible refine Kept.drew' ?_ | with_reducible refine Kept.setB ?_ _ _ _ (by omega) | with_reducible refine Kept.row' ?_ _ _ (by omega) | with_reducible refine Kept.map' ?_ _ _ (by omega)))).mono ?_; rintro e w3 ⟨rfl, hk_w3⟩; haveI p_w3 : PrevWorld w3 _ := ⟨hk_w3⟩; have hz_w3 : w.heap.size ≤ w3.heap.size := Kept.size (by repeat (first | with_reducible exact HK.out | with_reducible exact Kept.refl _ _ | with_reducible refine Kept.prev ?_ | with_reducible refine Kept.alloc' ?_ _ | with_reducible refine Kept.drew' ?_ | with_reducible refine Kept.setB ?_ _ _ _ (by omega) | with_reducible refine Kept.row' ?_ _ _ (by omega) | with_reducible refine Kept.map' ?_ _ _ (by omega))); clear hk_w3
  by_cases c1 : ey = 0
  rotate_left
  · have HW : Hid (R = ((0, 0), ey)) := by rw [Hid, HR2.out, if_pos c1]
    have c2 : (ey != 0) = true := by simp [c1]
    clear HR2 c1 HY HI
    go_wp2_with fail
    rw [HW.out]
    exact bodyPost_v rfl (res2 Tryz.results12 (resC rfl inferInstance) (resT rfl)) (by repeat (first | with_reducible exact HK.out | with_reducible exact Kept.refl _ _ | with_reducible refine Kept.prev ?_ | with_reducible refine Kept.alloc' ?_ _ | with_reducible refine Kept.drew' ?_ | with_reducible refine Kept.setB ?_ _ _ _ (by omega) | with_reducible refine Kept.row' ?_ _ _ (by omega) | with_reducible refine Kept.map' ?_ _ _ (by omega)))
  subst c1
  have HR3 : Hid (R = if sub ≠ -1 ∧ insideP t sub (vx, vy) ≠ 0 then ((0, 0), 4) else ((vx, vy), 0)) := by rw [Hid, HR2.out]; rfl
  clear HR2 HY
  have HI2 := Lib.hid (fun w' (hk : Kept [] w w') => HI.out w' (vx, vy) hk)
  clear HI
  by_cases c2 : sub = -1
  · have HW : Hid (R = ((vx, vy), 0)) := by rw [Hid, HR3.out, if_neg (fun h => h.1 c2)]
    subst c2
    clear HR3 HI2
    go_wp2_with fail
    rw [HW.out]
    exact bodyPost_v rfl (res2 Tryz.results12 (resC rfl inferInstance) (resT rfl)) (by repeat (first | with_reducible exact HK.out | with_reducible exact Kept.refl _ _ | with_reducible refine Kept.prev ?_ | with_reducible refine Kept.alloc' ?_ _ | with_reducible refine Kept.drew' ?_ | with_reducible refine Kept.setB ?_ _ _ _ (by omega) | with_reducible refine Kept.row' ?_ _ _ (by omega) | with_reducible refine Kept.map' ?_ _ _ (by omega)))
  have c3 : (sub != -1) = true := by simp [c2]
  by_cases c4 : insideP t sub (vx, vy) = 0
  · have HW : Hid (R = ((vx, vy), 0)) := by rw [Hid, HR3.out, if_neg (fun h => h.2 c4)]
    rw [c4] at HI2
    clear HR3 c4 c2
    go_wp2_with fail
    refine (HI2.out _ (by repeat (first | with_reducible exact HK.out | with_reducible exact Kept.refl _ _ | with_reducible refine Kept.prev ?_ | with_reducible refine Kept.alloc' ?_ _ | with_reducible refine Kept.drew' ?_ | with_reducible refine Kept.setB ?_ _ _ _ (by omega) | with_reducible refine Kept.row' ?_ _ _ (by omega) | with_reducible refine Kept.map' ?_ _ _ (by omega)))).mono ?_; rintro e w4 ⟨rfl, hk_w4⟩; haveI p_w4 : PrevWorld w4 _ := ⟨hk_w4⟩; have hz_w4 : w.heap.size ≤ w4.heap.size := Kept.size (by repeat (first | with_reducible exact HK.out | with_reducible exact Kept.refl _ _ | with_reducible refine Kept.prev ?_ | with_reducible refine Kept.alloc' ?_ _ | with_reducible refine Kept.drew' ?_ | with_reducible refine Kept.setB ?_ _ _ _ (by omega) | with_reducible refine Kept.row' ?_ _ _ (by omega) | with_reducible refine Kept.map' ?_ _ _ (by omega))); clear hk_w4
    go_wp2_with fail
    rw [HW.out]
    exact bodyPost_v rfl (res2 Tryz.results12 (resC rfl inferInstance) (resT rfl)) (by repeat (first | with_reducible exact HK.out | with_reducible exact Kept.refl _ _ | with_reducible refine Kept.prev ?_ | with_reducible refine Kept.alloc' ?_ _ | with_reducible refine Kept.drew' ?_ | with_reducible refine Kept.setB ?_ _ _ _ (by omega) | with_reducible refine Kept.row' ?_ _ _ (by omega) | with_reducible refine Kept.map' ?_ _ _ (by omega)))
  · have HW : Hid (R = ((0, 0), 4)) := by rw [Hid, HR3.out, if_pos ⟨c2, c4⟩]
    have h4 : insideP t sub (vx, vy) = 4 := by
      have h := HIE.out (vx, vy)
      split at h
      · exact h
      · exact absurd h c4
    rw [h4] at HI2
    clear HR3 c4 c2 h4 HIE
    go_wp2_with fail
    refine (HI2.out _ (by repeat (first | with_reducible exact HK.out | with_reducible exact Kept.refl _ _ | with_reducible refine Kept.prev ?_ | with_reducible refine Kept.alloc' ?_ _ | with_reducible refine Kept.drew' ?_ | with_reducible refine Kept.setB ?_ _ _ _ (by omega) | with_reducible refine Kept.row' ?_ _ _ (by omega) | with_reducible refine Kept.map' ?_ _ _ (by omega)))).mono ?_; rintro e w4 ⟨rfl, hk_w4⟩; haveI p_w4 : PrevWorld w4 _ := ⟨hk_w4⟩; have hz_w4 : w.heap.size ≤ w4.heap.size := Kept.size (by repeat (first | with_reducible exact HK.out | with_reducible exact Kept.refl _ _ | with_reducible refine Kept.prev ?_ | with_reducible refine Kept.alloc' ?_ _ | with_reducible refine Kept.drew' ?_ | with_reducible refine Kept.setB ?_ _ _ _ (by omega) | with_reducible refine Kept.row' ?_ _ _ (by omega) | with_reducible refine Kept.map' ?_ _ _ (by omega))); clear hk_w4
    go_wp2_with fail
    rw [HW.out]
    exact bodyPost_v rfl (res2 Tryz.results12 (resC rfl inferInstance) (resT rfl)) (by repeat (first | with_reducible exact HK.out | with_reducible exact Kept.refl _ _ | with_reducible refine Kept.prev ?_ | with_reducible refine Kept.alloc' ?_ _ | with_reducible refine Kept.drew' ?_ | with_reducible refine Kept.setB ?_ _ _ _ (by omega) | with_reducible refine Kept.row' ?_ _ _ (by omega) | with_reducible refine Kept.map' ?_ _ _ (by omega)))
theorem markX_b {t : Tab} {y : ExV} {b a : Bd} (h : markP t y = some (b, a)) : (markX t y).1 = b := by rw [markX_some h]
set_option maxRecDepth 100000 in
set_option maxHeartbeats 4000000 in
theorem rchoice_any (w : World) (v : TabV) (t : Tab) (x : ChV) (n : Nat) (hT : TabIn w v t) (hx : ChIn w n x) :
    Calls Tryz.prog 39 #[.agg (v.cells t), .agg #[.int .u8 x.kind, .slice x.la x.ls.length x.lc]] w (RetV (.tuple #[.agg #[.int .i64 (choiceP t n x).1.1, .int .i64 (choiceP t n x).1.2], .int .i64 (choiceP t n x).2]) w) := by
  have HT := Lib.hid hT
  have HR := Lib.hid (choiceP_eq t n x)
  have HA := Lib.hid (ch_at hx)
  clear hT hx
  generalize choiceP t n x = R at *
  generalize c0 x = y at *
  generalize c1 x = z at *
  obtain ⟨k, la, lc, ls⟩ := x
  simp only at *
  by_cases k2 : k = 2 ∧ ls.length = 2
  · obtain ⟨rfl, l2⟩ := k2
    obtain ⟨b, o, ha, ha0, hi0, h1⟩ := HA.out (by omega)
    obtain ⟨ha1, hi1⟩ := h1 (by omega)
    have HG := Lib.hid (fun w' (hk : Kept [] w w') => rRange_any w' v t (-1) y z n (HT.out.kept hk) (hi0.kept hk) (hi1.kept hk))
    have HW : Hid (R = rngP t n (-1) y z) := by rw [Hid, HR.out, if_pos ⟨rfl, l2⟩]
    clear HR HA HT hi0 hi1 h1
    unfold TabV.cells at *
    rw [ha, l2]
    clear ha l2
    generalize rngP t n (-1) y z = r at *
    go_enter Tryz.func39, Tryz.ntmps39
    go_wp2_with fail
    refine wp_region_head 12 0 (fun _ => .cells #[] 0) (by kernel_rfl) (by kernel_rfl) (fun i o h1 h2 => by omega) (fun _ _ _ _ _ h => h) ?_; apply Exists.intro; refine ⟨fun U hU hN => ?_, ?_⟩; simp only [List.take_succ_cons, List.take_zero]
    · repeat (go_big_quiet_step (exact Calls.headV hU (HG.out _ (Kept.trans (by repeat (first | with_reducible exact HK.out | with_reducible exact Kept.refl _ _ | with_reducible refine Kept.prev ?_ | with_reducible refine Kept.alloc' ?_ _ | with_reducible refine Kept.drew' ?_ | with_reducible refine Kept.setB ?_ _ _ _ (by omega) | with_reducible refine Kept.row' ?_ _ _ (by omega) | with_reducible refine Kept.map' ?_ _ _ (by omega))) (AfterU.prop _)))))
      refine wpQuiet_nil ?_
      exact rfl
    simp only [List.drop_succ_cons, List.drop_zero, List.take_zero]
    intro w4 hk_w4 _
    haveI p_w4 : PrevWorld w4 _ := ⟨hk_w4⟩
    clear hk_w4
    go_wp2_with fail
    rw [HW.out]
    exact bodyPost_v rfl (res2 Tryz.results39 (resC rfl inferInstance) (resT rfl)) (by repeat (first | with_reducible exact HK.out | with_reducible exact Kept.refl _ _ | with_reducible refine Kept.prev ?_ | with_reducible refine Kept.alloc' ?_ _ | with_reducible refine Kept.drew' ?_ | with_reducible refine Kept.setB ?_ _ _ _ (by omega) | with_reducible refine Kept.row' ?_ _ _ (by omega) | with_reducible refine Kept.map' ?_ _ _ (by omega)))
  have HR2 : Hid (R = if k ≠ 1 ∨ ls.length ≠ 1 then ((0, 0), 70)
      else if (namedP y && typedP (entP t y.ent)) = true then (if (markX t y).2.2 = true then ((markX t y).1, 0) else ((0, 0), 70))
      else (((valueP t n y).1, (valueP t n y).1), (valueP t n y).2)) := by rw [Hid, HR.out, if_neg k2]
  clear HR
  by_cases k1 : k = 1
  rotate_left
  · have HW : Hid (R = ((0, 0), 70)) := by rw [Hid, HR2.out, if_pos (.inl k1)]
    have e1 : (k != 1) = true := by simp [k1]
    unfold TabV.cells at *
    by_cases c2 : k = 2
    · subst c2
      have e2 : ((ls.length : Int) == 2) = false := by
        rw [beq_eq_false_iff_ne]
        exact fun h => k2 ⟨rfl, by omega⟩
      clear k2 k1 HR2 HT HA e1
      go_enter Tryz.func39, Tryz.ntmps39
      go_wp2_with fail
      rw [HW.out]
      exact bodyPost_v rfl (res2 Tryz.results39 (resC rfl inferInstance) (resT rfl)) (by repeat (first | with_reducible exact HK.out | with_reducible exact Kept.refl _ _ | with_reducible refine Kept.prev ?_ | with_reducible refine Kept.alloc' ?_ _ | with_reducible refine Kept.drew' ?_ | with_reducible refine Kept.setB ?_ _ _ _ (by omega) | with_reducible refine Kept.row' ?_ _ _ (by omega) | with_reducible refine Kept.map' ?_ _ _ (by omega)))
    · have e2 : (k == 2) = false := by simp [c2]
      clear k2 k1 HR2 HT HA c2
      go_enter Tryz.func39, Tryz.ntmps39
      go_wp2_with fail
      rw [HW.out]
      exact bodyPost_v rfl (res2 Tryz.results39 (resC rfl inferInstance) (resT rfl)) (by repeat (first | with_reducible exact HK.out | with_reducible exact Kept.refl _ _ | with_reducible refine Kept.prev ?_ | with_reducible refine Kept.alloc' ?_ _ | with_reducible refine Kept.drew' ?_ | with_reducible refine Kept.setB ?_ _ _ _ (by omega) | with_reducible refine Kept.row' ?_ _ _ (by omega) | with_reducible refine Kept.map' ?_ _ _ (by omega)))
  subst k1
  by_cases l1 : ls.length = 1
  rotate_left
  · have HW : Hid (R = ((0, 0), 70)) := by rw [Hid, HR2.out, if_pos (.inr l1)]
    unfold TabV.cells at *
    have e2 : ((ls.length : Int) != 1) = true := by
      rw [bne_iff_ne]
      omega
    clear k2 HR2 HT HA l1
    go_enter Tryz.func39, Tryz.ntmps39
    go_wp2_with fail
    rw [HW.out]
    exact bodyPost_v rfl (res2 Tryz.results39 (resC rfl inferInstance) (resT rfl)) (by repeat (first | with_reducible exact HK.out | with_reducible exact Kept.refl _ _ | with_reducible refine Kept.prev ?_ | with_reducible refine Kept.alloc' ?_ _ | with_reducible refine Kept.drew' ?_ | with_reducible refine Kept.setB ?_ _ _ _ (by omega) | with_reducible refine Kept.row' ?_ _ _ (by omega) | with_reducible refine Kept.map' ?_ _ _ (by omega)))
  obtain ⟨b, o, ha, ha0, hi0, _⟩ := HA.out (by omega)
  have HR3 : Hid (R = if (namedP y && typedP (entP t y.ent)) = true then (if (markX t y).2.2 = true then ((markX t y).1, 0) else ((0, 0), 70))
      else (((valueP t n y).1, (valueP t n y).1), (valueP t n y).2)) := by rw [Hid, HR2.out, if_neg (by simp [l1])]
  clear HR2 HA k2
  have HM := Lib.hid (fun w' (hk : Kept [] w w') => rMark_any w' v t y (HT.out.kept hk))
  have HP := Lib.hid (fun w' m (hk : Kept [] w w') => rplain_any w' v t m (HT.out.kept hk))
  have HV := Lib.hid (fun w' (hk : Kept [] w w') => rValue_any w' v t y n (HT.out.kept hk) (hi0.kept hk))
  have q2 := HT.out.sl
  unfold rmV at HM
  cases hn : (namedP y && typedP (entP t y.ent))
  · have HW : Hid (R = (((valueP t n y).1, (valueP t n y).1), (valueP t n y).2)) := by rw [Hid, HR3.out, if_neg (by rw [hn]; simp)]
    rw [rmark_no hn] at HM
    unfold TabV.cells at *
    rw [ha, l1]
    clear ha l1
    generalize (valueP t n y).1 = vy at *
    generalize (valueP t n y).2 = ey at *
    clear hn HR3 HP HT hi0
    go_enter Tryz.func39, Tryz.ntmps39
    go_wp2_with fail
    refine wp_region_head 11 0 (fun _ => .cells #[] 0) (by kernel_rfl) (by kernel_rfl) (fun i o h1 h2 => by omega) (fun _ _ _ _ _ h => h) ?_; apply Exists.intro; refine ⟨fun U hU hN => ?_, ?_⟩; simp only [List.take_succ_cons, List.take_zero]
    · repeat (go_big_quiet_step (exact Calls.headV hU (HM.out _ (Kept.trans (by repeat (first | with_reducible exact HK.out | with_reducible exact Kept.refl _ _ | with_reducible refine Kept.prev ?_ | with_reducible refine Kept.alloc' ?_ _ | with_reducible refine Kept.drew' ?_ | with_reducible refine Kept.setB ?_ _ _ _ (by omega) | with_reducible refine Kept.row' ?_ _ _ (by omega) | with_reducible refine Kept.map' ?_ _ _ (by omega))) (AfterU.prop _)))))
      refine wpQuiet_nil ?_
      exact rfl
    simp only [List.drop_succ_cons, List.drop_zero, List.take_zero]
    intro w4 hk_w4 _
    haveI p_w4 : PrevWorld w4 _ := ⟨hk_w4⟩
    clear hk_w4
    clear HM
    go_wp2_with fail
    refine wp_region_head 11 0 (fun _ => .cells #[] 0) (by kernel_rfl) (by kernel_rfl) (fun i o h1 h2 => by omega) (fun _ _ _ _ _ h => h) ?_; apply Exists.intro; refine ⟨fun U hU hN => ?_, ?_⟩; simp only [List.take_succ_cons, List.take_zero]
    · repeat (go_big_quiet_step (exact Calls.headV hU (HV.out _ (Kept.trans (by repeat (first | with_reducible exact HK.out | with_reducible exact Kept.refl _ _ | with_reducible refine Kept.prev ?_ | with_reducible refine Kept.alloc' ?_ _ | with_reducible refine Kept.drew' ?_ | with_reducible refine Kept.setB ?_ _ _ _ (by omega) | with_reducible refine Kept.row' ?_ _ _ (by omega) | with_reducible refine Kept.map' ?_ _ _ (by omega))) (AfterU.prop _)))))
      refine wpQuiet_nil ?_
      exact rfl
    simp only [List.drop_succ_cons, List.drop_zero, List.take_zero]
    intro w5 hk_w5 _
    haveI p_w5 : PrevWorld w5 _ := ⟨hk_w5⟩
    clear hk_w5
    clear HV
    go_wp2_with fail
    rw [HW.out]
    exact bodyPost_v rfl (res2 Tryz.results39 (resC rfl inferInstance) (resT rfl)) (by repeat (first | with_reducible exact HK.out | with_reducible exact Kept.refl _ _ | with_reducible refine Kept.prev ?_ | with_reducible refine Kept.alloc' ?_ _ | with_reducible refine Kept.drew' ?_ | with_reducible refine Kept.setB ?_ _ _ _ (by omega) | with_reducible refine Kept.row' ?_ _ _ (by omega) | with_reducible refine Kept.map' ?_ _ _ (by omega)))
  have HR4 : Hid (R = if (markX t y).2.2 = true then ((markX t y).1, 0) else ((0, 0), 70)) := by rw [Hid, HR3.out, if_pos hn]
  rw [rmark_yes hn] at HM
  have HPM : Hid ((markX t y).2.2 = (plainP t (entP t y.ent).sub).isSome) := by
    rw [Hid, markX_ok, marked_is, rmark_yes hn, Bool.true_and]
  have HP2 := Lib.hid (fun w' (hk : Kept [] w w') => HP.out w' (entP t y.ent).sub hk)
  rw [← HPM.out] at HP2
  clear HR3 HP HV
  cases hm : (markX t y).2.2
  · have HW : Hid (R = ((0, 0), 70)) := by rw [Hid, HR4.out, hm]; rfl
    rw [hm] at HP2
    unfold TabV.cells at *
    rw [ha, l1]
    clear ha l1 HR4 HPM hm hn HT hi0
    generalize (entP t y.ent).sub = m at *
    go_enter Tryz.func39, Tryz.ntmps39
    go_wp2_with fail
    refine wp_region_head 11 0 (fun _ => .cells #[] 0) (by kernel_rfl) (by kernel_rfl) (fun i o h1 h2 => by omega) (fun _ _ _ _ _ h => h) ?_; apply Exists.intro; refine ⟨fun U hU hN => ?_, ?_⟩; simp only [List.take_succ_cons, List.take_zero]
    · repeat (go_big_quiet_step (exact Calls.headV hU (HM.out _ (Kept.trans (by repeat (first | with_reducible exact HK.out | with_reducible exact Kept.refl _ _ | with_reducible refine Kept.prev ?_ | with_reducible refine Kept.alloc' ?_ _ | with_reducible refine Kept.drew' ?_ | with_reducible refine Kept.setB ?_ _ _ _ (by omega) | with_reducible refine Kept.row' ?_ _ _ (by omega) | with_reducible refine Kept.map' ?_ _ _ (by omega))) (AfterU.prop _)))))
      refine wpQuiet_nil ?_
      exact rfl
    simp only [List.drop_succ_cons, List.drop_zero, List.take_zero]
    intro w4 hk_w4 _
    haveI p_w4 : PrevWorld w4 _ := ⟨hk_w4⟩
    clear hk_w4
    clear HM
    go_wp2_with fail
    refine (HP2.out _ (by repeat (first | with_reducible exact HK.out | with_reducible exact Kept.refl _ _ | with_reducible refine Kept.prev ?_ | with_reducible refine Kept.alloc' ?_ _ | with_reducible refine Kept.drew' ?_ | with_reducible refine Kept.setB ?_ _ _ _ (by omega) | with_reducible refine Kept.row' ?_ _ _ (by omega) | with_reducible refine Kept.map' ?_ _ _ (by omega)))).mono ?_; rintro e w5 ⟨rfl, hk_w5⟩; haveI p_w5 : PrevWorld w5 _ := ⟨hk_w5⟩; have hz_w5 : w.heap.size ≤ w5.heap.size := Kept.size (by repeat (first | with_reducible exact HK.out | with_reducible exact Kept.refl _ _ | with_reducible refine Kept.prev ?_ | with_reducible refine Kept.alloc' ?_ _ | with_reducible refine Kept.drew' ?_ | with_reducible refine Kept.setB ?_ _ _ _ (by omega) | with_reducible refine Kept.row' ?_ _ _ (by omega) | with_reducible refine Kept.map' ?_ _ _ (by omega))); clear hk_w5
    go_wp2_with fail
    rw [HW.out]
    exact bodyPost_v rfl (res2 Tryz.results39 (resC rfl inferInstance) (resT rfl)) (by repeat (first | with_reducible exact HK.out | with_reducible exact Kept.refl _ _ | with_reducible refine Kept.prev ?_ | with_reducible refine Kept.alloc' ?_ _ | with_reducible refine Kept.drew' ?_ | with_reducible refine Kept.setB ?_ _ _ _ (by omega) | with_reducible refine Kept.row' ?_ _ _ (by omega) | with_reducible refine Kept.map' ?_ _ _ (by omega)))
  have hpl : (plainP t (entP t y.ent).sub).isSome = true := by rw [← HPM.out, hm]
  obtain ⟨m, s, hms, hs, hbd⟩ := plain_sub hpl
  have HW : Hid (R = ((s.lo, s.hi), 0)) := by
    have e : (markX t y).1 = (s.lo, s.hi) := by
      rw [← hbd]
      have h1 : (markP t y).isSome = true := by rw [← markX_ok, hm]
      obtain ⟨⟨b, a⟩, hb⟩ := Option.isSome_iff_exists.1 h1
      rw [markX_b hb, (plain_bounds (mark_bounds hb).2).1]
    rw [Hid, HR4.out, hm, e]
    rfl
  obtain ⟨s', bs, os, hs', hsa, hsat, _⟩ := tab_sub HT.out (List.getElem?_eq_some_iff.1 hs).1
  obtain rfl : s' = s := by rw [hs] at hs'; exact (Option.some.inj hs').symm
  have h2 : (m : Int) < (t.subs.length : Int) := by have := (List.getElem?_eq_some_iff.1 hs).1; omega
  rw [hms] at HM HP2
  rw [hm] at HP2
  unfold TabV.cells at *
  rw [ha, l1]
  rw [hsa] at HM HP2
  clear ha l1 HR4 HPM hm hn HT hi0 hpl hbd hs hs' hms
  go_enter Tryz.func39, Tryz.ntmps39
  go_wp2_with fail
  refine wp_region_head 11 0 (fun _ => .cells #[] 0) (by kernel_rfl) (by kernel_rfl) (fun i o h1 h2 => by omega) (fun _ _ _ _ _ h => h) ?_; apply Exists.intro; refine ⟨fun U hU hN => ?_, ?_⟩; simp only [List.take_succ_cons, List.take_zero]
  · repeat (go_big_quiet_step (exact Calls.headV hU (HM.out _ (Kept.trans (by repeat (first | with_reducible exact HK.out | with_reducible exact Kept.refl _ _ | with_reducible refine Kept.prev ?_ | with_reducible refine Kept.alloc' ?_ _ | with_reducible refine Kept.drew' ?_ | with_reducible refine Kept.setB ?_ _ _ _ (by omega) | with_reducible refine Kept.row' ?_ _ _ (by omega) | with_reducible refine Kept.map' ?_ _ _ (by omega))) (AfterU.prop _)))))
    refine wpQuiet_nil ?_
    exact rfl
  simp only [List.drop_succ_cons, List.drop_zero, List.take_zero]
  intro w4 hk_w4 _
  haveI p_w4 : PrevWorld w4 _ := ⟨hk_w4⟩
  clear hk_w4
  clear HM
  go_wp2_with fail
  refine (HP2.out _ (by repeat (first | with_reducible exact HK.out | with_reducible exact Kept.refl _ _ | with_reducible refine Kept.prev ?_ | with_reducible refine Kept.alloc' ?_ _ | with_reducible refine Kept.drew' ?_ | with_reducible refine Kept.setB ?_ _ _ _ (by omega) | with_reducible refine Kept.row' ?_ _ _ (by omega) | with_reducible refine Kept.map' ?_ _ _ (by omega)))).mono ?_; rintro e w5 ⟨rfl, hk_w5⟩; haveI p_w5 : PrevWorld w5 _ := ⟨hk_w5⟩; have hz_w5 : w.heap.size ≤ w5.heap.size := Kept.size (by repeat (first | with_reducible exact HK.out | with_reducible exact Kept.refl _ _ | with_reducible refine Kept.prev ?_ | with_reducible refine Kept.alloc' ?_ _ | with_reducible refine Kept.drew' ?_ | with_reducible refine Kept.setB ?_ _ _ _ (by omega) | with_reducible refine Kept.row' ?_ _ _ (by omega) | with_reducible refine Kept.map' ?_ _ _ (by omega))); clear hk_w5
  go_wp2_with fail
  refine wp_region_head 13 0 (fun _ => .cells #[] 0) (by kernel_rfl) (by kernel_rfl) (fun i o h1 h2 => by omega) (fun _ _ _ _ _ h => h) ?_; apply Exists.intro; refine ⟨fun U hU hN => ?_, ?_⟩; simp only [List.take_succ_cons, List.take_zero]
  · repeat (go_big_quiet_step (fail))
    refine wpQuiet_nil ?_
    exact rfl
  simp only [List.drop_succ_cons, List.drop_zero, List.take_zero]
  intro w6 hk_w6 _
  haveI p_w6 : PrevWorld w6 _ := ⟨hk_w6⟩
  clear hk_w6
  go_wp2_with fail
  rw [HW.out]
  exact bodyPost_v rfl (res2 Tryz.results39 (resC rfl inferInstance) (resT rfl)) (by repeat (first | with_reducible exact HK.out | with_reducible exact Kept.refl _ _ | with_reducible refine Kept.prev ?_ | with_reducible refine Kept.alloc' ?_ _ | with_reducible refine Kept.drew' ?_ | with_reducible refine Kept.setB ?_ _ _ _ (by omega) | with_reducible refine Kept.row' ?_ _ _ (by omega) | with_reducible refine Kept.map' ?_ _ _ (by omega)))
end Go.Proofs.YtgdjhhfbpalkdaaGreat
