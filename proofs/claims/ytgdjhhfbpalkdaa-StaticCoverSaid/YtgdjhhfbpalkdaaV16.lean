/- Range. -/
import Derived.Test.YtgdjhhfbpalkdaaK17
import Derived.LoopN
namespace Go.Proofs.Ytgdjhhfbpalkdaa
open Go.RowKit
/-- A range of two expressions, in a subtype; -1: no subtype. -/
def rngP (t : Tab) (n : Nat) (sub : Int) (x y : ExV) : Bd × Int :=
  if (valueP t n x).2 ≠ 0 then ((0, 0), (valueP t n x).2)
  else if (valueP t n y).2 ≠ 0 then ((0, 0), (valueP t n y).2)
  else if sub ≠ -1 ∧ insideP t sub ((valueP t n x).1, (valueP t n y).1) ≠ 0 then ((0, 0), 4)
  else (((valueP t n x).1, (valueP t n y).1), 0)
theorem rngP_eq (t : Tab) (n : Nat) (sub : Int) (x y : ExV) : rngP t n sub x y =
    if (valueP t n x).2 ≠ 0 then ((0, 0), (valueP t n x).2)
    else if (valueP t n y).2 ≠ 0 then ((0, 0), (valueP t n y).2)
    else if sub ≠ -1 ∧ insideP t sub ((valueP t n x).1, (valueP t n y).1) ≠ 0 then ((0, 0), 4)
    else (((valueP t n x).1, (valueP t n y).1), 0) := rfl
set_option maxRecDepth 100000 in
set_option maxHeartbeats 4000000 in
theorem Range_any (w : World) (v : TabV) (t : Tab) (sub : Int) (x y : ExV) (n : Nat) (hT : TabIn w v t) (hx : ExIn w n x) (hy : ExIn w n y) :
    Calls Try.prog 22 #[.agg (v.cells t), .int .i64 sub, .agg x.cells.toArray, .agg y.cells.toArray] w (RetV (.tuple #[.agg #[.int .i64 (rngP t n sub x y).1.1, .int .i64 (rngP t n sub x y).1.2], .int .i64 (rngP t n sub x y).2]) w) := by
  have HX := Lib.hid (fun w' (hk : Kept [] w w') => Value_any w' v t x n (hT.kept hk) (hx.kept hk))
  have HY := Lib.hid (fun w' (hk : Kept [] w w') => Value_any w' v t y n (hT.kept hk) (hy.kept hk))
  have HI := Lib.hid (fun w' b (hk : Kept [] w w') => inside_any w' v t sub b (hT.kept hk))
  have HR := Lib.hid (rngP_eq t n sub x y)
  clear hT hx hy
  generalize rngP t n sub x y = R at *
  generalize (valueP t n x).1 = vx at *
  generalize (valueP t n x).2 = ex at *
  generalize (valueP t n y).1 = vy at *
  generalize (valueP t n y).2 = ey at *
  unfold TabV.cells at *
  go_enter Try.func22, Try.ntmps22
  go_wp2_with fail
  refine wp_loop_rounds 3 ?_
  rw [rounds_succ]
  go_wp2_with fail
  refine (HX.out _ (by repeat (first | with_reducible exact HK.out | with_reducible exact Kept.refl _ _ | with_reducible refine Kept.prev ?_ | with_reducible refine Kept.alloc' ?_ _ | with_reducible refine Kept.drew' ?_ | with_reducible refine Kept.setB ?_ _ _ _ (by omega) | with_reducible refine Kept.row' ?_ _ _ (by omega) | with_reducible refine Kept.map' ?_ _ _ (by omega)))).mono ?_; rintro e w2 ⟨rfl, hk_w2⟩; haveI p_w2 : PrevWorld w2 _ := ⟨hk_w2⟩; have hz_w2 : w.heap.size ≤ w2.heap.size := Kept.size (by repeat (first | with_reducible exact HK.out | with_reducible exact Kept.refl _ _ | with_reducible refine Kept.prev ?_ | with_reducible refine Kept.alloc' ?_ _ | with_reducible refine Kept.drew' ?_ | with_reducible refine Kept.setB ?_ _ _ _ (by omega) | with_reducible refine Kept.row' ?_ _ _ (by omega) | with_reducible refine Kept.map' ?_ _ _ (by omega))); clear hk_w2
  by_cases c1 : ex = 0
  rotate_left
  · have HW : Hid (R = ((0, 0), ex)) := by rw [Hid, HR.out, if_pos c1]
    have c2 : (ex == 0) = false := by simp [c1]
    clear HR c1 HX HY HI
    go_wp2_with fail
    rw [HW.out]
    exact bodyPost_v rfl (res2 Try.results22 (resC rfl inferInstance) (resT rfl)) (by repeat (first | with_reducible exact HK.out | with_reducible exact Kept.refl _ _ | with_reducible refine Kept.prev ?_ | with_reducible refine Kept.alloc' ?_ _ | with_reducible refine Kept.drew' ?_ | with_reducible refine Kept.setB ?_ _ _ _ (by omega) | with_reducible refine Kept.row' ?_ _ _ (by omega) | with_reducible refine Kept.map' ?_ _ _ (by omega)))
  subst c1
  have HR2 : Hid (R = if ey ≠ 0 then ((0, 0), ey) else if sub ≠ -1 ∧ insideP t sub (vx, vy) ≠ 0 then ((0, 0), 4) else ((vx, vy), 0)) := by rw [Hid, HR.out]; rfl
  clear HR HX
  go_wp2_with fail
  rw [rounds_succ]
  go_wp2_with fail
  refine (HY.out _ (by repeat (first | with_reducible exact HK.out | with_reducible exact Kept.refl _ _ | with_reducible refine Kept.prev ?_ | with_reducible refine Kept.alloc' ?_ _ | with_reducible refine Kept.drew' ?_ | with_reducible refine Kept.setB ?_ _ _ _ (by omega) | with_reducible refine Kept.row' ?_ _ _ (by omega) | with_reducible refine Kept.map' ?_ _ _ (by omega)))).mono ?_; rintro e w3 ⟨rfl, hk_w3⟩; haveI p_w3 : PrevWorld w3 _ := ⟨hk_w3⟩; have hz_w3 : w.heap.size ≤ w3.heap.size := Kept.size (by repeat (first | with_reducible exact HK.out | with_reducible exact Kept.refl _ _ | with_reducible refine Kept.prev ?_ | with_reducible refine Kept.alloc' ?_ _ | with_reducible refine Kept.drew' ?_ | with_reducible refine Kept.setB ?_ _ _ _ (by omega) | with_reducible refine Kept.row' ?_ _ _ (by omega) | with_reducible refine Kept.map' ?_ _ _ (by omega))); clear hk_w3
  by_cases c1 : ey = 0
  rotate_left
  · have HW : Hid (R = ((0, 0), ey)) := by rw [Hid, HR2.out, if_pos c1]
    have c2 : (ey == 0) = false := by simp [c1]
    clear HR2 c1 HY HI
    go_wp2_with fail
    rw [HW.out]
    exact bodyPost_v rfl (res2 Try.results22 (resC rfl inferInstance) (resT rfl)) (by repeat (first | with_reducible exact HK.out | with_reducible exact Kept.refl _ _ | with_reducible refine Kept.prev ?_ | with_reducible refine Kept.alloc' ?_ _ | with_reducible refine Kept.drew' ?_ | with_reducible refine Kept.setB ?_ _ _ _ (by omega) | with_reducible refine Kept.row' ?_ _ _ (by omega) | with_reducible refine Kept.map' ?_ _ _ (by omega)))
  subst c1
  have HR3 : Hid (R = if sub ≠ -1 ∧ insideP t sub (vx, vy) ≠ 0 then ((0, 0), 4) else ((vx, vy), 0)) := by rw [Hid, HR2.out]; rfl
  clear HR2 HY
  have HI2 := Lib.hid (fun w' (hk : Kept [] w w') => HI.out w' (vx, vy) hk)
  clear HI
  by_cases c2 : sub = -1
  · have HW : Hid (R = ((vx, vy), 0)) := by rw [Hid, HR3.out, if_neg (fun h => h.1 c2)]
    subst c2
    clear HR3 HI2
    go_wp2_with fail
    rw [rounds_succ]
    go_wp2_with fail
    rw [HW.out]
    exact bodyPost_v rfl (res2 Try.results22 (resC rfl inferInstance) (resT rfl)) (by repeat (first | with_reducible exact HK.out | with_reducible exact Kept.refl _ _ | with_reducible refine Kept.prev ?_ | with_reducible refine Kept.alloc' ?_ _ | with_reducible refine Kept.drew' ?_ | with_reducible refine Kept.setB ?_ _ _ _ (by omega) | with_reducible refine Kept.row' ?_ _ _ (by omega) | with_reducible refine Kept.map' ?_ _ _ (by omega)))
  have c3 : (sub != -1) = true := by simp [c2]
  by_cases c4 : insideP t sub (vx, vy) = 0
  · have HW : Hid (R = ((vx, vy), 0)) := by rw [Hid, HR3.out, if_neg (fun h => h.2 c4)]
    rw [c4] at HI2
    clear HR3 c4 c2
    go_wp2_with fail
    rw [rounds_succ]
    go_wp2_with fail
    refine (HI2.out _ (by repeat (first | with_reducible exact HK.out | with_reducible exact Kept.refl _ _ | with_reducible refine Kept.prev ?_ | with_reducible refine Kept.alloc' ?_ _ | with_reducible refine Kept.drew' ?_ | with_reducible refine Kept.setB ?_ _ _ _ (by omega) | with_reducible refine Kept.row' ?_ _ _ (by omega) | with_reducible refine Kept.map' ?_ _ _ (by omega)))).mono ?_; rintro e w4 ⟨rfl, hk_w4⟩; haveI p_w4 : PrevWorld w4 _ := ⟨hk_w4⟩; have hz_w4 : w.heap.size ≤ w4.heap.size := Kept.size (by repeat (first | with_reducible exact HK.out | with_reducible exact Kept.refl _ _ | with_reducible refine Kept.prev ?_ | with_reducible refine Kept.alloc' ?_ _ | with_reducible refine Kept.drew' ?_ | with_reducible refine Kept.setB ?_ _ _ _ (by omega) | with_reducible refine Kept.row' ?_ _ _ (by omega) | with_reducible refine Kept.map' ?_ _ _ (by omega))); clear hk_w4
    go_wp2_with fail
    rw [HW.out]
    exact bodyPost_v rfl (res2 Try.results22 (resC rfl inferInstance) (resT rfl)) (by repeat (first | with_reducible exact HK.out | with_reducible exact Kept.refl _ _ | with_reducible refine Kept.prev ?_ | with_reducible refine Kept.alloc' ?_ _ | with_reducible refine Kept.drew' ?_ | with_reducible refine Kept.setB ?_ _ _ _ (by omega) | with_reducible refine Kept.row' ?_ _ _ (by omega) | with_reducible refine Kept.map' ?_ _ _ (by omega)))
  · have HW : Hid (R = ((0, 0), 4)) := by rw [Hid, HR3.out, if_pos ⟨c2, c4⟩]
    generalize insideP t sub (vx, vy) = z at *
    have c5 : (z != 0) = true := by simp [c4]
    clear HR3 c4 c2
    go_wp2_with fail
    rw [rounds_succ]
    go_wp2_with fail
    refine (HI2.out _ (by repeat (first | with_reducible exact HK.out | with_reducible exact Kept.refl _ _ | with_reducible refine Kept.prev ?_ | with_reducible refine Kept.alloc' ?_ _ | with_reducible refine Kept.drew' ?_ | with_reducible refine Kept.setB ?_ _ _ _ (by omega) | with_reducible refine Kept.row' ?_ _ _ (by omega) | with_reducible refine Kept.map' ?_ _ _ (by omega)))).mono ?_; rintro e w4 ⟨rfl, hk_w4⟩; haveI p_w4 : PrevWorld w4 _ := ⟨hk_w4⟩; have hz_w4 : w.heap.size ≤ w4.heap.size := Kept.size (by repeat (first | with_reducible exact HK.out | with_reducible exact Kept.refl _ _ | with_reducible refine Kept.prev ?_ | with_reducible refine Kept.alloc' ?_ _ | with_reducible refine Kept.drew' ?_ | with_reducible refine Kept.setB ?_ _ _ _ (by omega) | with_reducible refine Kept.row' ?_ _ _ (by omega) | with_reducible refine Kept.map' ?_ _ _ (by omega))); clear hk_w4
    go_wp2_with fail
    rw [HW.out]
    exact bodyPost_v rfl (res2 Try.results22 (resC rfl inferInstance) (resT rfl)) (by repeat (first | with_reducible exact HK.out | with_reducible exact Kept.refl _ _ | with_reducible refine Kept.prev ?_ | with_reducible refine Kept.alloc' ?_ _ | with_reducible refine Kept.drew' ?_ | with_reducible refine Kept.setB ?_ _ _ _ (by omega) | with_reducible refine Kept.row' ?_ _ _ (by omega) | with_reducible refine Kept.map' ?_ _ _ (by omega)))
end Go.Proofs.Ytgdjhhfbpalkdaa
