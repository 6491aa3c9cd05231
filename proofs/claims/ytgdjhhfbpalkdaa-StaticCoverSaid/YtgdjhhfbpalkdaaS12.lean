/- is, by the kind of the expression. -/
import Derived.Test.YtgdjhhfbpalkdaaS11
namespace Go.Proofs.Ytgdjhhfbpalkdaa
open Go.RowKit
section
variable (w : World) (v : TabV) (t : Tab) (x : ExV) (n : Nat)

set_option maxRecDepth 100000 in
set_option maxHeartbeats 1000000 in
theorem is_span (hT : TabIn w v t) (hs : (spanP t x.t).isSome = false) : Calls Try.prog 26 #[.agg (v.cells t), .agg x.cells.toArray] w (RetV (.bool (isF (isP t n) t x)) w) := by
  have HSP := Lib.hid (fun w' m (hk : Kept [] w w') => span_any w' v t m (hT.kept hk))
  unfold TabV.cells at HSP
  unfold bdV at HSP
  have HW : Hid (isF (isP t n) t x = false) := by rw [Hid, isF, hs]; rfl
  clear hT
  unfold TabV.cells
  go_enter Try.func26, Try.ntmps26
  go_wp2_with fail
  refine (HSP.out _ _ (by repeat (first | with_reducible exact HK.out | with_reducible exact Kept.refl _ _ | with_reducible refine Kept.prev ?_ | with_reducible refine Kept.alloc' ?_ _ | with_reducible refine Kept.drew' ?_ | with_reducible refine Kept.setB ?_ _ _ _ (by omega) | with_reducible refine Kept.row' ?_ _ _ (by omega) | with_reducible refine Kept.map' ?_ _ _ (by omega)))).mono ?_; rintro e w1 ⟨rfl, hk_w1⟩; haveI p_w1 : PrevWorld w1 _ := ⟨hk_w1⟩; have hz_w1 : w.heap.size ≤ w1.heap.size := Kept.size (by repeat (first | with_reducible exact HK.out | with_reducible exact Kept.refl _ _ | with_reducible refine Kept.prev ?_ | with_reducible refine Kept.alloc' ?_ _ | with_reducible refine Kept.drew' ?_ | with_reducible refine Kept.setB ?_ _ _ _ (by omega) | with_reducible refine Kept.row' ?_ _ _ (by omega) | with_reducible refine Kept.map' ?_ _ _ (by omega))); clear hk_w1
  clear HSP
  go_wp2_with fail
  rw [HW.out]
  exact bodyPost_v rfl (res1 Try.results26 (resT rfl)) (by repeat (first | with_reducible exact HK.out | with_reducible exact Kept.refl _ _ | with_reducible refine Kept.prev ?_ | with_reducible refine Kept.alloc' ?_ _ | with_reducible refine Kept.drew' ?_ | with_reducible refine Kept.setB ?_ _ _ _ (by omega) | with_reducible refine Kept.row' ?_ _ _ (by omega) | with_reducible refine Kept.map' ?_ _ _ (by omega)))

set_option maxRecDepth 100000 in
set_option maxHeartbeats 1000000 in
theorem is_int (hT : TabIn w v t) (hs : (spanP t x.t).isSome = true) (hk : x.kind = 1) : Calls Try.prog 26 #[.agg (v.cells t), .agg x.cells.toArray] w (RetV (.bool (isF (isP t n) t x)) w) := by
  have HSP := Lib.hid (fun w' m (hk : Kept [] w w') => span_any w' v t m (hT.kept hk))
  unfold TabV.cells at HSP
  unfold bdV at HSP
  have HW : Hid (isF (isP t n) t x = true) := by rw [Hid, isF, hs]; simp [hk]
  clear hT
  unfold TabV.cells
  go_enter Try.func26, Try.ntmps26
  go_wp2_with fail
  refine (HSP.out _ _ (by repeat (first | with_reducible exact HK.out | with_reducible exact Kept.refl _ _ | with_reducible refine Kept.prev ?_ | with_reducible refine Kept.alloc' ?_ _ | with_reducible refine Kept.drew' ?_ | with_reducible refine Kept.setB ?_ _ _ _ (by omega) | with_reducible refine Kept.row' ?_ _ _ (by omega) | with_reducible refine Kept.map' ?_ _ _ (by omega)))).mono ?_; rintro e w1 ⟨rfl, hk_w1⟩; haveI p_w1 : PrevWorld w1 _ := ⟨hk_w1⟩; have hz_w1 : w.heap.size ≤ w1.heap.size := Kept.size (by repeat (first | with_reducible exact HK.out | with_reducible exact Kept.refl _ _ | with_reducible refine Kept.prev ?_ | with_reducible refine Kept.alloc' ?_ _ | with_reducible refine Kept.drew' ?_ | with_reducible refine Kept.setB ?_ _ _ _ (by omega) | with_reducible refine Kept.row' ?_ _ _ (by omega) | with_reducible refine Kept.map' ?_ _ _ (by omega))); clear hk_w1
  clear HSP
  go_wp2_with fail
  rw [HW.out]
  exact bodyPost_v rfl (res1 Try.results26 (resT rfl)) (by repeat (first | with_reducible exact HK.out | with_reducible exact Kept.refl _ _ | with_reducible refine Kept.prev ?_ | with_reducible refine Kept.alloc' ?_ _ | with_reducible refine Kept.drew' ?_ | with_reducible refine Kept.setB ?_ _ _ _ (by omega) | with_reducible refine Kept.row' ?_ _ _ (by omega) | with_reducible refine Kept.map' ?_ _ _ (by omega)))

set_option maxRecDepth 100000 in
set_option maxHeartbeats 2000000 in
theorem is_name (hT : TabIn w v t) (hs : (spanP t x.t).isSome = true) (hk : x.kind = 3 ∨ x.kind = 4) : Calls Try.prog 26 #[.agg (v.cells t), .agg x.cells.toArray] w (RetV (.bool (isF (isP t n) t x)) w) := by
  have HSP := Lib.hid (fun w' m (hk : Kept [] w w') => span_any w' v t m (hT.kept hk))
  unfold TabV.cells at HSP
  unfold bdV at HSP
  have HE := Lib.hid (fun w' (hk : Kept [] w w') => entity_any w' v t x (hT.kept hk))
  have HW : Hid (isF (isP t n) t x = ((entP t x.ent).kind == 9 || (entP t x.ent).kind == 10 || (entP t x.ent).kind == 8 && (entP t x.ent).static)) := by
    rw [Hid, isF, hs, if_neg (by rcases hk with h | h <;> simp [h]), if_pos hk]; rfl
  clear hT
  unfold TabV.cells at HE
  unfold entA at HE
  unfold TabV.cells
  rcases hk with hk | hk
  all_goals
    go_enter Try.func26, Try.ntmps26
    go_wp2_with fail
    refine (HSP.out _ _ (by repeat (first | with_reducible exact HK.out | with_reducible exact Kept.refl _ _ | with_reducible refine Kept.prev ?_ | with_reducible refine Kept.alloc' ?_ _ | with_reducible refine Kept.drew' ?_ | with_reducible refine Kept.setB ?_ _ _ _ (by omega) | with_reducible refine Kept.row' ?_ _ _ (by omega) | with_reducible refine Kept.map' ?_ _ _ (by omega)))).mono ?_; rintro e w1 ⟨rfl, hk_w1⟩; haveI p_w1 : PrevWorld w1 _ := ⟨hk_w1⟩; have hz_w1 : w.heap.size ≤ w1.heap.size := Kept.size (by repeat (first | with_reducible exact HK.out | with_reducible exact Kept.refl _ _ | with_reducible refine Kept.prev ?_ | with_reducible refine Kept.alloc' ?_ _ | with_reducible refine Kept.drew' ?_ | with_reducible refine Kept.setB ?_ _ _ _ (by omega) | with_reducible refine Kept.row' ?_ _ _ (by omega) | with_reducible refine Kept.map' ?_ _ _ (by omega))); clear hk_w1
    clear HSP
    go_wp2_with fail
    refine (HE.out _ (by repeat (first | with_reducible exact HK.out | with_reducible exact Kept.refl _ _ | with_reducible refine Kept.prev ?_ | with_reducible refine Kept.alloc' ?_ _ | with_reducible refine Kept.drew' ?_ | with_reducible refine Kept.setB ?_ _ _ _ (by omega) | with_reducible refine Kept.row' ?_ _ _ (by omega) | with_reducible refine Kept.map' ?_ _ _ (by omega)))).mono ?_; rintro e w2 ⟨rfl, hk_w2⟩; haveI p_w2 : PrevWorld w2 _ := ⟨hk_w2⟩; have hz_w2 : w.heap.size ≤ w2.heap.size := Kept.size (by repeat (first | with_reducible exact HK.out | with_reducible exact Kept.refl _ _ | with_reducible refine Kept.prev ?_ | with_reducible refine Kept.alloc' ?_ _ | with_reducible refine Kept.drew' ?_ | with_reducible refine Kept.setB ?_ _ _ _ (by omega) | with_reducible refine Kept.row' ?_ _ _ (by omega) | with_reducible refine Kept.map' ?_ _ _ (by omega))); clear hk_w2
    clear HE
    generalize entP t x.ent = y at *
    cases e9 : (y.kind == 9)
    · cases e10 : (y.kind == 10)
      · cases e8 : (y.kind == 8)
        · rw [e9, e10, e8] at HW
          go_wp2_with fail
          rw [HW.out]
          exact bodyPost_v rfl (res1 Try.results26 (resT rfl)) (by repeat (first | with_reducible exact HK.out | with_reducible exact Kept.refl _ _ | with_reducible refine Kept.prev ?_ | with_reducible refine Kept.alloc' ?_ _ | with_reducible refine Kept.drew' ?_ | with_reducible refine Kept.setB ?_ _ _ _ (by omega) | with_reducible refine Kept.row' ?_ _ _ (by omega) | with_reducible refine Kept.map' ?_ _ _ (by omega)))
        · rw [e9, e10, e8] at HW
          go_wp2_with fail
          rw [HW.out]
          exact bodyPost_v rfl (res1 Try.results26 (resT rfl)) (by repeat (first | with_reducible exact HK.out | with_reducible exact Kept.refl _ _ | with_reducible refine Kept.prev ?_ | with_reducible refine Kept.alloc' ?_ _ | with_reducible refine Kept.drew' ?_ | with_reducible refine Kept.setB ?_ _ _ _ (by omega) | with_reducible refine Kept.row' ?_ _ _ (by omega) | with_reducible refine Kept.map' ?_ _ _ (by omega)))
      · rw [e9, e10] at HW
        go_wp2_with fail
        rw [HW.out]
        exact bodyPost_v rfl (res1 Try.results26 (resT rfl)) (by repeat (first | with_reducible exact HK.out | with_reducible exact Kept.refl _ _ | with_reducible refine Kept.prev ?_ | with_reducible refine Kept.alloc' ?_ _ | with_reducible refine Kept.drew' ?_ | with_reducible refine Kept.setB ?_ _ _ _ (by omega) | with_reducible refine Kept.row' ?_ _ _ (by omega) | with_reducible refine Kept.map' ?_ _ _ (by omega)))
    · rw [e9] at HW
      go_wp2_with fail
      rw [HW.out]
      exact bodyPost_v rfl (res1 Try.results26 (resT rfl)) (by repeat (first | with_reducible exact HK.out | with_reducible exact Kept.refl _ _ | with_reducible refine Kept.prev ?_ | with_reducible refine Kept.alloc' ?_ _ | with_reducible refine Kept.drew' ?_ | with_reducible refine Kept.setB ?_ _ _ _ (by omega) | with_reducible refine Kept.row' ?_ _ _ (by omega) | with_reducible refine Kept.map' ?_ _ _ (by omega)))

set_option maxRecDepth 100000 in
set_option maxHeartbeats 1000000 in
theorem is_attr (hT : TabIn w v t) (hx : ExIn w (n + 1) x) (hs : (spanP t x.t).isSome = true) (hk : x.kind = 6) : Calls Try.prog 26 #[.agg (v.cells t), .agg x.cells.toArray] w (RetV (.bool (isF (isP t n) t x)) w) := by
  have HSP := Lib.hid (fun w' m (hk : Kept [] w w') => span_any w' v t m (hT.kept hk))
  unfold TabV.cells at HSP
  unfold bdV at HSP
  have HA := Lib.hid (fun w' (hk : Kept [] w w') => attribute_any w' v t x n (hT.kept hk) (hx.kept hk))
  have HW : Hid (isF (isP t n) t x = (attrX t x).2) := by rw [Hid, isF, hs, (attr_is t x).1]; simp [hk]
  clear hT hx
  unfold TabV.cells at HA
  unfold bvV at HA
  unfold TabV.cells
  go_enter Try.func26, Try.ntmps26
  go_wp2_with fail
  refine (HSP.out _ _ (by repeat (first | with_reducible exact HK.out | with_reducible exact Kept.refl _ _ | with_reducible refine Kept.prev ?_ | with_reducible refine Kept.alloc' ?_ _ | with_reducible refine Kept.drew' ?_ | with_reducible refine Kept.setB ?_ _ _ _ (by omega) | with_reducible refine Kept.row' ?_ _ _ (by omega) | with_reducible refine Kept.map' ?_ _ _ (by omega)))).mono ?_; rintro e w1 ⟨rfl, hk_w1⟩; haveI p_w1 : PrevWorld w1 _ := ⟨hk_w1⟩; have hz_w1 : w.heap.size ≤ w1.heap.size := Kept.size (by repeat (first | with_reducible exact HK.out | with_reducible exact Kept.refl _ _ | with_reducible refine Kept.prev ?_ | with_reducible refine Kept.alloc' ?_ _ | with_reducible refine Kept.drew' ?_ | with_reducible refine Kept.setB ?_ _ _ _ (by omega) | with_reducible refine Kept.row' ?_ _ _ (by omega) | with_reducible refine Kept.map' ?_ _ _ (by omega))); clear hk_w1
  clear HSP
  go_wp2_with fail
  refine (HA.out _ (by repeat (first | with_reducible exact HK.out | with_reducible exact Kept.refl _ _ | with_reducible refine Kept.prev ?_ | with_reducible refine Kept.alloc' ?_ _ | with_reducible refine Kept.drew' ?_ | with_reducible refine Kept.setB ?_ _ _ _ (by omega) | with_reducible refine Kept.row' ?_ _ _ (by omega) | with_reducible refine Kept.map' ?_ _ _ (by omega)))).mono ?_; rintro e w2 ⟨rfl, hk_w2⟩; haveI p_w2 : PrevWorld w2 _ := ⟨hk_w2⟩; have hz_w2 : w.heap.size ≤ w2.heap.size := Kept.size (by repeat (first | with_reducible exact HK.out | with_reducible exact Kept.refl _ _ | with_reducible refine Kept.prev ?_ | with_reducible refine Kept.alloc' ?_ _ | with_reducible refine Kept.drew' ?_ | with_reducible refine Kept.setB ?_ _ _ _ (by omega) | with_reducible refine Kept.row' ?_ _ _ (by omega) | with_reducible refine Kept.map' ?_ _ _ (by omega))); clear hk_w2
  go_wp2_with fail
  rw [HW.out]
  exact bodyPost_v rfl (res1 Try.results26 (resT rfl)) (by repeat (first | with_reducible exact HK.out | with_reducible exact Kept.refl _ _ | with_reducible refine Kept.prev ?_ | with_reducible refine Kept.alloc' ?_ _ | with_reducible refine Kept.drew' ?_ | with_reducible refine Kept.setB ?_ _ _ _ (by omega) | with_reducible refine Kept.row' ?_ _ _ (by omega) | with_reducible refine Kept.map' ?_ _ _ (by omega)))

set_option maxRecDepth 100000 in
set_option maxHeartbeats 1000000 in
theorem is_call (ih : IsAt v t n) (hT : TabIn w v t) (hx : ExIn w (n + 1) x) (hs : (spanP t x.t).isSome = true) (hk : x.kind = 7) : Calls Try.prog 26 #[.agg (v.cells t), .agg x.cells.toArray] w (RetV (.bool (isF (isP t n) t x)) w) := by
  have HSP := Lib.hid (fun w' m (hk : Kept [] w w') => span_any w' v t m (hT.kept hk))
  unfold TabV.cells at HSP
  unfold bdV at HSP
  have HA := Lib.hid (fun w' (hk : Kept [] w w') => call_any w' v t x n ih (hT.kept hk) (hx.kept hk))
  have HW : Hid (isF (isP t n) t x = callF (isP t n) t x) := by rw [Hid, isF, hs]; simp [hk]
  clear hT hx ih
  unfold TabV.cells at HA
  unfold TabV.cells
  go_enter Try.func26, Try.ntmps26
  go_wp2_with fail
  refine (HSP.out _ _ (by repeat (first | with_reducible exact HK.out | with_reducible exact Kept.refl _ _ | with_reducible refine Kept.prev ?_ | with_reducible refine Kept.alloc' ?_ _ | with_reducible refine Kept.drew' ?_ | with_reducible refine Kept.setB ?_ _ _ _ (by omega) | with_reducible refine Kept.row' ?_ _ _ (by omega) | with_reducible refine Kept.map' ?_ _ _ (by omega)))).mono ?_; rintro e w1 ⟨rfl, hk_w1⟩; haveI p_w1 : PrevWorld w1 _ := ⟨hk_w1⟩; have hz_w1 : w.heap.size ≤ w1.heap.size := Kept.size (by repeat (first | with_reducible exact HK.out | with_reducible exact Kept.refl _ _ | with_reducible refine Kept.prev ?_ | with_reducible refine Kept.alloc' ?_ _ | with_reducible refine Kept.drew' ?_ | with_reducible refine Kept.setB ?_ _ _ _ (by omega) | with_reducible refine Kept.row' ?_ _ _ (by omega) | with_reducible refine Kept.map' ?_ _ _ (by omega))); clear hk_w1
  clear HSP
  go_wp2_with fail
  refine (HA.out _ (by repeat (first | with_reducible exact HK.out | with_reducible exact Kept.refl _ _ | with_reducible refine Kept.prev ?_ | with_reducible refine Kept.alloc' ?_ _ | with_reducible refine Kept.drew' ?_ | with_reducible refine Kept.setB ?_ _ _ _ (by omega) | with_reducible refine Kept.row' ?_ _ _ (by omega) | with_reducible refine Kept.map' ?_ _ _ (by omega)))).mono ?_; rintro e w2 ⟨rfl, hk_w2⟩; haveI p_w2 : PrevWorld w2 _ := ⟨hk_w2⟩; have hz_w2 : w.heap.size ≤ w2.heap.size := Kept.size (by repeat (first | with_reducible exact HK.out | with_reducible exact Kept.refl _ _ | with_reducible refine Kept.prev ?_ | with_reducible refine Kept.alloc' ?_ _ | with_reducible refine Kept.drew' ?_ | with_reducible refine Kept.setB ?_ _ _ _ (by omega) | with_reducible refine Kept.row' ?_ _ _ (by omega) | with_reducible refine Kept.map' ?_ _ _ (by omega))); clear hk_w2
  go_wp2_with fail
  rw [HW.out]
  exact bodyPost_v rfl (res1 Try.results26 (resT rfl)) (by repeat (first | with_reducible exact HK.out | with_reducible exact Kept.refl _ _ | with_reducible refine Kept.prev ?_ | with_reducible refine Kept.alloc' ?_ _ | with_reducible refine Kept.drew' ?_ | with_reducible refine Kept.setB ?_ _ _ _ (by omega) | with_reducible refine Kept.row' ?_ _ _ (by omega) | with_reducible refine Kept.map' ?_ _ _ (by omega)))

set_option maxRecDepth 100000 in
set_option maxHeartbeats 1000000 in
theorem is_if (ih : IsAt v t n) (hT : TabIn w v t) (hx : ExIn w (n + 1) x) (hs : (spanP t x.t).isSome = true) (hk : x.kind = 10) : Calls Try.prog 26 #[.agg (v.cells t), .agg x.cells.toArray] w (RetV (.bool (isF (isP t n) t x)) w) := by
  have HSP := Lib.hid (fun w' m (hk : Kept [] w w') => span_any w' v t m (hT.kept hk))
  unfold TabV.cells at HSP
  unfold bdV at HSP
  have HA := Lib.hid (fun w' (hk : Kept [] w w') => all_any w' v t x.la x.lc x.ls n 3 ih (hT.kept hk) hx.2.2.2.2.1 (hx.1.kept hk) (fun y hy => (hx.2.1 y hy).kept hk))
  have HW : Hid (isF (isP t n) t x = allF (isP t n) x.ls 3) := by rw [Hid, isF, hs]; simp [hk]
  clear hT hx ih
  unfold TabV.cells at HA
  unfold TabV.cells
  go_enter Try.func26, Try.ntmps26
  go_wp2_with fail
  refine (HSP.out _ _ (by repeat (first | with_reducible exact HK.out | with_reducible exact Kept.refl _ _ | with_reducible refine Kept.prev ?_ | with_reducible refine Kept.alloc' ?_ _ | with_reducible refine Kept.drew' ?_ | with_reducible refine Kept.setB ?_ _ _ _ (by omega) | with_reducible refine Kept.row' ?_ _ _ (by omega) | with_reducible refine Kept.map' ?_ _ _ (by omega)))).mono ?_; rintro e w1 ⟨rfl, hk_w1⟩; haveI p_w1 : PrevWorld w1 _ := ⟨hk_w1⟩; have hz_w1 : w.heap.size ≤ w1.heap.size := Kept.size (by repeat (first | with_reducible exact HK.out | with_reducible exact Kept.refl _ _ | with_reducible refine Kept.prev ?_ | with_reducible refine Kept.alloc' ?_ _ | with_reducible refine Kept.drew' ?_ | with_reducible refine Kept.setB ?_ _ _ _ (by omega) | with_reducible refine Kept.row' ?_ _ _ (by omega) | with_reducible refine Kept.map' ?_ _ _ (by omega))); clear hk_w1
  clear HSP
  go_wp2_with fail
  refine (HA.out _ (by repeat (first | with_reducible exact HK.out | with_reducible exact Kept.refl _ _ | with_reducible refine Kept.prev ?_ | with_reducible refine Kept.alloc' ?_ _ | with_reducible refine Kept.drew' ?_ | with_reducible refine Kept.setB ?_ _ _ _ (by omega) | with_reducible refine Kept.row' ?_ _ _ (by omega) | with_reducible refine Kept.map' ?_ _ _ (by omega)))).mono ?_; rintro e w2 ⟨rfl, hk_w2⟩; haveI p_w2 : PrevWorld w2 _ := ⟨hk_w2⟩; have hz_w2 : w.heap.size ≤ w2.heap.size := Kept.size (by repeat (first | with_reducible exact HK.out | with_reducible exact Kept.refl _ _ | with_reducible refine Kept.prev ?_ | with_reducible refine Kept.alloc' ?_ _ | with_reducible refine Kept.drew' ?_ | with_reducible refine Kept.setB ?_ _ _ _ (by omega) | with_reducible refine Kept.row' ?_ _ _ (by omega) | with_reducible refine Kept.map' ?_ _ _ (by omega))); clear hk_w2
  go_wp2_with fail
  rw [HW.out]
  exact bodyPost_v rfl (res1 Try.results26 (resT rfl)) (by repeat (first | with_reducible exact HK.out | with_reducible exact Kept.refl _ _ | with_reducible refine Kept.prev ?_ | with_reducible refine Kept.alloc' ?_ _ | with_reducible refine Kept.drew' ?_ | with_reducible refine Kept.setB ?_ _ _ _ (by omega) | with_reducible refine Kept.row' ?_ _ _ (by omega) | with_reducible refine Kept.map' ?_ _ _ (by omega)))
end
end Go.Proofs.Ytgdjhhfbpalkdaa
