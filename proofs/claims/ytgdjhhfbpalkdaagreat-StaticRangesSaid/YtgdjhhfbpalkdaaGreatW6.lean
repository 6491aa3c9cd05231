/- The walk of StaticValues. The walk of StaticRanges. -/
import Derived.Test.YtgdjhhfbpalkdaaGreatR9
import Derived.Test.YtgdjhhfbpalkdaaGreatL6
namespace Go.Proofs.YtgdjhhfbpalkdaaGreat
open Go.RowKit
set_option maxRecDepth 100000 in
set_option maxHeartbeats 2000000 in
theorem values_walk (w : World) (v : TabV) (t : Tab) (x : ExV) (n : Nat) (hT : TabIn w v t) (hx : ExIn w n x) : Calls Tryz.prog 3 #[.agg (v.cells t), .agg x.cells.toArray] w (RetV (.bool true) w) := by
  have HV := Lib.hid (fun w' (hk : Kept [] w w') => Value_any w' v t x n (hT.kept hk) (hx.kept hk))
  have HRV := Lib.hid (fun w' (hk : Kept [] w w') => rValue_any w' v t x n (hT.kept hk) (hx.kept hk))
  have HI := Lib.hid (fun w' (hk : Kept [] w w') => Is_any w' v t x n (hT.kept hk) (hx.kept hk))
  have HRI := Lib.hid (fun w' (hk : Kept [] w w') => ris_any v t n w' x (hT.kept hk) (hx.kept hk))
  have HW := Lib.hid (fun w' => works_any w')
  clear hT hx
  unfold TabV.cells at *
  generalize valueP t n x = r at *
  obtain ⟨r, e⟩ := r
  simp only at HV HRV
  generalize isP t n x = b at *
  go_enter Tryz.func3, Tryz.ntmps3
  go_wp2_with fail
  refine (HV.out _ (by repeat (first | with_reducible exact HK.out | with_reducible exact Kept.refl _ _ | with_reducible refine Kept.prev ?_ | with_reducible refine Kept.alloc' ?_ _ | with_reducible refine Kept.drew' ?_ | with_reducible refine Kept.setB ?_ _ _ _ (by omega) | with_reducible refine Kept.row' ?_ _ _ (by omega) | with_reducible refine Kept.map' ?_ _ _ (by omega)))).mono ?_; rintro e w2 ⟨rfl, hk_w2⟩; haveI p_w2 : PrevWorld w2 _ := ⟨hk_w2⟩; have hz_w2 : w.heap.size ≤ w2.heap.size := Kept.size (by repeat (first | with_reducible exact HK.out | with_reducible exact Kept.refl _ _ | with_reducible refine Kept.prev ?_ | with_reducible refine Kept.alloc' ?_ _ | with_reducible refine Kept.drew' ?_ | with_reducible refine Kept.setB ?_ _ _ _ (by omega) | with_reducible refine Kept.row' ?_ _ _ (by omega) | with_reducible refine Kept.map' ?_ _ _ (by omega))); clear hk_w2
  go_wp2_with fail
  refine (HRV.out _ (by repeat (first | with_reducible exact HK.out | with_reducible exact Kept.refl _ _ | with_reducible refine Kept.prev ?_ | with_reducible refine Kept.alloc' ?_ _ | with_reducible refine Kept.drew' ?_ | with_reducible refine Kept.setB ?_ _ _ _ (by omega) | with_reducible refine Kept.row' ?_ _ _ (by omega) | with_reducible refine Kept.map' ?_ _ _ (by omega)))).mono ?_; rintro e w3 ⟨rfl, hk_w3⟩; haveI p_w3 : PrevWorld w3 _ := ⟨hk_w3⟩; have hz_w3 : w.heap.size ≤ w3.heap.size := Kept.size (by repeat (first | with_reducible exact HK.out | with_reducible exact Kept.refl _ _ | with_reducible refine Kept.prev ?_ | with_reducible refine Kept.alloc' ?_ _ | with_reducible refine Kept.drew' ?_ | with_reducible refine Kept.setB ?_ _ _ _ (by omega) | with_reducible refine Kept.row' ?_ _ _ (by omega) | with_reducible refine Kept.map' ?_ _ _ (by omega))); clear hk_w3
  go_wp2_with fail
  refine wp_region_head 21 0 (fun _ => .cells #[] 0) (by kernel_rfl) (by kernel_rfl) (fun i o h1 h2 => by omega) (fun _ _ _ _ _ h => h) ?_; apply Exists.intro; refine ⟨fun U hU hN => ?_, ?_⟩; simp only [List.take_succ_cons, List.take_zero]
  · iterate 3 (go_big_quiet_step (exact Calls.headV hU (HI.out _ (Kept.trans (by repeat (first | with_reducible exact HK.out | with_reducible exact Kept.refl _ _ | with_reducible refine Kept.prev ?_ | with_reducible refine Kept.alloc' ?_ _ | with_reducible refine Kept.drew' ?_ | with_reducible refine Kept.setB ?_ _ _ _ (by omega) | with_reducible refine Kept.row' ?_ _ _ (by omega) | with_reducible refine Kept.map' ?_ _ _ (by omega))) (AfterU.prop _)))))
    iterate 3 (go_big_quiet_step (exact Calls.headV hU (HRI.out _ (Kept.trans (by repeat (first | with_reducible exact HK.out | with_reducible exact Kept.refl _ _ | with_reducible refine Kept.prev ?_ | with_reducible refine Kept.alloc' ?_ _ | with_reducible refine Kept.drew' ?_ | with_reducible refine Kept.setB ?_ _ _ _ (by omega) | with_reducible refine Kept.row' ?_ _ _ (by omega) | with_reducible refine Kept.map' ?_ _ _ (by omega))) (AfterU.prop _)))))
    repeat (go_big_quiet_step (exact Calls.headV hU (HW.out _)))
    refine wpQuiet_nil ?_
    exact rfl
  simp only [List.drop_succ_cons, List.drop_zero, List.take_zero]
  intro w5 hk5 _
  haveI p_w5 : PrevWorld w5 _ := ⟨hk5⟩
  clear hk5
  go_wp2_with fail
  exact bodyPost_v rfl (res1 Tryz.results3 (resT rfl)) (by repeat (first | with_reducible exact HK.out | with_reducible exact Kept.refl _ _ | with_reducible refine Kept.prev ?_ | with_reducible refine Kept.alloc' ?_ _ | with_reducible refine Kept.drew' ?_ | with_reducible refine Kept.setB ?_ _ _ _ (by omega) | with_reducible refine Kept.row' ?_ _ _ (by omega) | with_reducible refine Kept.map' ?_ _ _ (by omega)))
end Go.Proofs.YtgdjhhfbpalkdaaGreat
namespace Go.Proofs.YtgdjhhfbpalkdaaGreat
open Go.RowKit
set_option maxRecDepth 100000 in
set_option maxHeartbeats 4000000 in
theorem ranges_walk (w : World) (v : TabV) (t : Tab) (sub : Int) (x y : ExV) (n m : Nat) (hT : TabIn w v t) (hx : ExIn w n x) (hy : ExIn w m y) :
    Calls Tryz.prog 4 #[.agg (v.cells t), .int .i64 sub, .agg x.cells.toArray, .agg y.cells.toArray] w (RetV (.bool true) w) := by
  have hx' := hx.mono (Nat.le_max_left n m)
  have hy' := hy.mono (Nat.le_max_right n m)
  have HR := Lib.hid (fun w' s (hk : Kept [] w w') => Range_any w' v t s x y (max n m) (hT.kept hk) (hx'.kept hk) (hy'.kept hk))
  have HRR := Lib.hid (fun w' s (hk : Kept [] w w') => rRange_any w' v t s x y (max n m) (hT.kept hk) (hx'.kept hk) (hy'.kept hk))
  have hsl := hT.sl
  clear hT hx hy hx' hy'
  generalize max n m = d at *
  unfold TabV.cells at *
  go_enter Tryz.func4, Tryz.ntmps4
  go_wp2_with fail
  refine wp_gen' ?_
  intro w1 hw1
  haveI p_w1 : PrevWorld w1 w := ⟨by rw [hw1]; exact (by repeat (first | with_reducible exact HK.out | with_reducible exact Kept.refl _ _ | with_reducible refine Kept.prev ?_ | with_reducible refine Kept.alloc' ?_ _ | with_reducible refine Kept.drew' ?_ | with_reducible refine Kept.setB ?_ _ _ _ (by omega) | with_reducible refine Kept.row' ?_ _ _ (by omega) | with_reducible refine Kept.map' ?_ _ _ (by omega)))⟩
  haveI bx1 : BoxIs w1 w.heap.size 28 _ := by rw [hw1]; infer_instance
  haveI bx2 : BoxIs w1 (w.heap.size + 1) 34 x.cells.toArray := by rw [hw1]; infer_instance
  haveI bx3 : BoxIs w1 (w.heap.size + 1 + 1) 34 y.cells.toArray := by rw [hw1]; infer_instance
  have hz1 : w.heap.size ≤ w1.heap.size := Kept.size (X := []) (by repeat (first | with_reducible exact HK.out | with_reducible exact Kept.refl _ _ | with_reducible refine Kept.prev ?_ | with_reducible refine Kept.alloc' ?_ _ | with_reducible refine Kept.drew' ?_ | with_reducible refine Kept.setB ?_ _ _ _ (by omega) | with_reducible refine Kept.row' ?_ _ _ (by omega) | with_reducible refine Kept.map' ?_ _ _ (by omega)))
  clear hw1
  go_loopw [9] (fun i wr => ∃ k : Nat, (k : Int) ≤ min (t.subs.length : Int) 60 + 2 ∧ i = .int .i64 ((k : Int) - 2) ∧ Kept [] w1 wr) (fun i _ => (min (t.subs.length : Int) 60 - intOf i).toNat)
  case atStart => exact ⟨0, by omega, rfl, Kept.refl _ _⟩
  case round =>
    obtain ⟨k, hk, rfl, hkr⟩ := hrel
    haveI p_wr : PrevWorld wr w1 := ⟨hkr⟩
    have hkz := hkr.size
    clear hkr
    generalize hi : (k : Int) - 2 = i at *
    have HIK := Lib.hid hi
    have i1 : -2 ≤ i := by omega
    have i2 : i ≤ 60 := by omega
    clear hi
    by_cases hlt : i < min (t.subs.length : Int) 60
    · by_cases c1 : i < -1
      · have HA := Lib.hid (fun w' (hk : Kept [] w w') => HR.out w' sub hk)
        have HB := Lib.hid (fun w' (hk : Kept [] w w') => HRR.out w' sub hk)
        clear HR HRR
        generalize rngP t d sub x y = r at *
        obtain ⟨⟨lo, hi⟩, e⟩ := r
        simp only at HA HB
        have hik := HIK.out
        go_wp2_with fail
        refine (HA.out _ (by repeat (first | with_reducible exact HK.out | with_reducible exact Kept.refl _ _ | with_reducible refine Kept.prev ?_ | with_reducible refine Kept.alloc' ?_ _ | with_reducible refine Kept.drew' ?_ | with_reducible refine Kept.setB ?_ _ _ _ (by omega) | with_reducible refine Kept.row' ?_ _ _ (by omega) | with_reducible refine Kept.map' ?_ _ _ (by omega)))).mono ?_; rintro e w2 ⟨rfl, hk_w2⟩; haveI p_w2 : PrevWorld w2 _ := ⟨hk_w2⟩; have hz_w2 : w.heap.size ≤ w2.heap.size := Kept.size (by repeat (first | with_reducible exact HK.out | with_reducible exact Kept.refl _ _ | with_reducible refine Kept.prev ?_ | with_reducible refine Kept.alloc' ?_ _ | with_reducible refine Kept.drew' ?_ | with_reducible refine Kept.setB ?_ _ _ _ (by omega) | with_reducible refine Kept.row' ?_ _ _ (by omega) | with_reducible refine Kept.map' ?_ _ _ (by omega))); clear hk_w2
        go_wp2_with fail
        refine (HB.out _ (by repeat (first | with_reducible exact HK.out | with_reducible exact Kept.refl _ _ | with_reducible refine Kept.prev ?_ | with_reducible refine Kept.alloc' ?_ _ | with_reducible refine Kept.drew' ?_ | with_reducible refine Kept.setB ?_ _ _ _ (by omega) | with_reducible refine Kept.row' ?_ _ _ (by omega) | with_reducible refine Kept.map' ?_ _ _ (by omega)))).mono ?_; rintro e w3 ⟨rfl, hk_w3⟩; haveI p_w3 : PrevWorld w3 _ := ⟨hk_w3⟩; have hz_w3 : w.heap.size ≤ w3.heap.size := Kept.size (by repeat (first | with_reducible exact HK.out | with_reducible exact Kept.refl _ _ | with_reducible refine Kept.prev ?_ | with_reducible refine Kept.alloc' ?_ _ | with_reducible refine Kept.drew' ?_ | with_reducible refine Kept.setB ?_ _ _ _ (by omega) | with_reducible refine Kept.row' ?_ _ _ (by omega) | with_reducible refine Kept.map' ?_ _ _ (by omega))); clear hk_w3
        go_wp2_with fail
        go_roundw
        case rel => exact ⟨k + 1, by omega, congrArg (Value.int .i64) (by omega), (by repeat (first | with_reducible exact HK.out | with_reducible exact Kept.refl _ _ | with_reducible refine Kept.prev ?_ | with_reducible refine Kept.alloc' ?_ _ | with_reducible refine Kept.drew' ?_ | with_reducible refine Kept.setB ?_ _ _ _ (by omega) | with_reducible refine Kept.row' ?_ _ _ (by omega) | with_reducible refine Kept.map' ?_ _ _ (by omega)))⟩
        case measure => simp [intOf]; omega
      · have c2 : decide (i < -1) = false := decide_eq_false c1
        have HA := Lib.hid (fun w' (hk : Kept [] w w') => HR.out w' i hk)
        have HB := Lib.hid (fun w' (hk : Kept [] w w') => HRR.out w' i hk)
        clear HR HRR c1
        generalize rngP t d i x y = r at *
        obtain ⟨⟨lo, hi⟩, e⟩ := r
        simp only at HA HB
        have hik := HIK.out
        go_wp2_with fail
        refine (HA.out _ (by repeat (first | with_reducible exact HK.out | with_reducible exact Kept.refl _ _ | with_reducible refine Kept.prev ?_ | with_reducible refine Kept.alloc' ?_ _ | with_reducible refine Kept.drew' ?_ | with_reducible refine Kept.setB ?_ _ _ _ (by omega) | with_reducible refine Kept.row' ?_ _ _ (by omega) | with_reducible refine Kept.map' ?_ _ _ (by omega)))).mono ?_; rintro e w2 ⟨rfl, hk_w2⟩; haveI p_w2 : PrevWorld w2 _ := ⟨hk_w2⟩; have hz_w2 : w.heap.size ≤ w2.heap.size := Kept.size (by repeat (first | with_reducible exact HK.out | with_reducible exact Kept.refl _ _ | with_reducible refine Kept.prev ?_ | with_reducible refine Kept.alloc' ?_ _ | with_reducible refine Kept.drew' ?_ | with_reducible refine Kept.setB ?_ _ _ _ (by omega) | with_reducible refine Kept.row' ?_ _ _ (by omega) | with_reducible refine Kept.map' ?_ _ _ (by omega))); clear hk_w2
        go_wp2_with fail
        refine (HB.out _ (by repeat (first | with_reducible exact HK.out | with_reducible exact Kept.refl _ _ | with_reducible refine Kept.prev ?_ | with_reducible refine Kept.alloc' ?_ _ | with_reducible refine Kept.drew' ?_ | with_reducible refine Kept.setB ?_ _ _ _ (by omega) | with_reducible refine Kept.row' ?_ _ _ (by omega) | with_reducible refine Kept.map' ?_ _ _ (by omega)))).mono ?_; rintro e w3 ⟨rfl, hk_w3⟩; haveI p_w3 : PrevWorld w3 _ := ⟨hk_w3⟩; have hz_w3 : w.heap.size ≤ w3.heap.size := Kept.size (by repeat (first | with_reducible exact HK.out | with_reducible exact Kept.refl _ _ | with_reducible refine Kept.prev ?_ | with_reducible refine Kept.alloc' ?_ _ | with_reducible refine Kept.drew' ?_ | with_reducible refine Kept.setB ?_ _ _ _ (by omega) | with_reducible refine Kept.row' ?_ _ _ (by omega) | with_reducible refine Kept.map' ?_ _ _ (by omega))); clear hk_w3
        go_wp2_with fail
        go_roundw
        case rel => exact ⟨k + 1, by omega, congrArg (Value.int .i64) (by omega), (by repeat (first | with_reducible exact HK.out | with_reducible exact Kept.refl _ _ | with_reducible refine Kept.prev ?_ | with_reducible refine Kept.alloc' ?_ _ | with_reducible refine Kept.drew' ?_ | with_reducible refine Kept.setB ?_ _ _ _ (by omega) | with_reducible refine Kept.row' ?_ _ _ (by omega) | with_reducible refine Kept.map' ?_ _ _ (by omega)))⟩
        case measure => simp [intOf]; omega
    · have hlt2 : decide (i < min (t.subs.length : Int) 60) = false := decide_eq_false hlt
      clear hlt HR HRR
      go_wp2_with fail
      refine (works_any _).mono ?_; rintro e w7 ⟨rfl, hk_w7⟩; haveI p_w7 : PrevWorld w7 _ := ⟨hk_w7⟩; have hz_w7 : w.heap.size ≤ w7.heap.size := Kept.size (by repeat (first | with_reducible exact HK.out | with_reducible exact Kept.refl _ _ | with_reducible refine Kept.prev ?_ | with_reducible refine Kept.alloc' ?_ _ | with_reducible refine Kept.drew' ?_ | with_reducible refine Kept.setB ?_ _ _ _ (by omega) | with_reducible refine Kept.row' ?_ _ _ (by omega) | with_reducible refine Kept.map' ?_ _ _ (by omega))); clear hk_w7
      go_wp2_with fail
      exact bodyPost_v rfl (res1 Tryz.results4 (resT rfl)) (by repeat (first | with_reducible exact HK.out | with_reducible exact Kept.refl _ _ | with_reducible refine Kept.prev ?_ | with_reducible refine Kept.alloc' ?_ _ | with_reducible refine Kept.drew' ?_ | with_reducible refine Kept.setB ?_ _ _ _ (by omega) | with_reducible refine Kept.row' ?_ _ _ (by omega) | with_reducible refine Kept.map' ?_ _ _ (by omega)))
end Go.Proofs.YtgdjhhfbpalkdaaGreat
