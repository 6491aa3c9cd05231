/- The reference's span. The walk of StaticInside. -/
import Derived.Test.YtgdjhhfbpalkdaaL6
namespace Go.Proofs.Ytgdjhhfbpalkdaa
open Go.RowKit
set_option maxRecDepth 100000 in
set_option maxHeartbeats 1000000 in
theorem rspan_any (w : World) (v : TabV) (t : Tab) (ty : Int) (hT : TabIn w v t) : Calls Try.prog 8 #[.agg (v.cells t), .int .i64 ty] w (RetV (bd3V (spanP t ty)) w) := by
  have HT := Lib.hid hT
  have q1 := hT.tl
  clear hT
  unfold TabV.cells
  by_cases h0 : ty < 0
  · have HR : Hid (spanP t ty = none) := span_out (.inl h0)
    go_enter Try.func8, Try.ntmps8
    go_wp2_with fail
    rw [HR.out]
    exact bodyPost_v rfl (res3 Try.results8 (resT rfl) (resT rfl) (resT rfl)) (by repeat (first | with_reducible exact HK.out | with_reducible exact Kept.refl _ _ | with_reducible refine Kept.prev ?_ | with_reducible refine Kept.alloc' ?_ _ | with_reducible refine Kept.drew' ?_ | with_reducible refine Kept.setB ?_ _ _ _ (by omega) | with_reducible refine Kept.row' ?_ _ _ (by omega) | with_reducible refine Kept.map' ?_ _ _ (by omega)))
  obtain ⟨n, rfl⟩ := Int.eq_ofNat_of_zero_le (by omega : 0 ≤ ty)
  by_cases h1 : t.types.length ≤ n
  · have HR : Hid (spanP t (n : Int) = none) := span_out (.inr (by omega))
    have h2 : (t.types.length : Int) ≤ (n : Int) := by omega
    go_enter Try.func8, Try.ntmps8
    go_wp2_with fail
    rw [HR.out]
    exact bodyPost_v rfl (res3 Try.results8 (resT rfl) (resT rfl) (resT rfl)) (by repeat (first | with_reducible exact HK.out | with_reducible exact Kept.refl _ _ | with_reducible refine Kept.prev ?_ | with_reducible refine Kept.alloc' ?_ _ | with_reducible refine Kept.drew' ?_ | with_reducible refine Kept.setB ?_ _ _ _ (by omega) | with_reducible refine Kept.row' ?_ _ _ (by omega) | with_reducible refine Kept.map' ?_ _ _ (by omega)))
  obtain ⟨y, b, o, hy, ha, hat, hl⟩ := tab_ty HT.out (by omega : n < t.types.length)
  have HS := Lib.hid (span_at hy)
  have h2 : (n : Int) < (t.types.length : Int) := by omega
  rw [ha]
  clear hy ha
  by_cases k1 : y.kind = 1
  · have HR : Hid (spanP t (n : Int) = some (-4611686018427387904, 4611686018427387904)) := by rw [Hid, HS.out]; simp [k1]
    go_enter Try.func8, Try.ntmps8
    go_wp2_with fail
    rw [HR.out]
    exact bodyPost_v rfl (res3 Try.results8 (resT rfl) (resT rfl) (resT rfl)) (by repeat (first | with_reducible exact HK.out | with_reducible exact Kept.refl _ _ | with_reducible refine Kept.prev ?_ | with_reducible refine Kept.alloc' ?_ _ | with_reducible refine Kept.drew' ?_ | with_reducible refine Kept.setB ?_ _ _ _ (by omega) | with_reducible refine Kept.row' ?_ _ _ (by omega) | with_reducible refine Kept.map' ?_ _ _ (by omega)))
  by_cases k2 : y.formal = 0
  rotate_left
  · have HR : Hid (spanP t (n : Int) = none) := by rw [Hid, HS.out]; simp [k1, k2]
    go_enter Try.func8, Try.ntmps8
    go_wp2_with fail
    all_goals
      rw [HR.out]
      exact bodyPost_v rfl (res3 Try.results8 (resT rfl) (resT rfl) (resT rfl)) (by repeat (first | with_reducible exact HK.out | with_reducible exact Kept.refl _ _ | with_reducible refine Kept.prev ?_ | with_reducible refine Kept.alloc' ?_ _ | with_reducible refine Kept.drew' ?_ | with_reducible refine Kept.setB ?_ _ _ _ (by omega) | with_reducible refine Kept.row' ?_ _ _ (by omega) | with_reducible refine Kept.map' ?_ _ _ (by omega)))
  by_cases k3 : y.kind = 2
  · have HR : Hid (spanP t (n : Int) = some (-2147483648, 2147483647)) := by rw [Hid, HS.out]; simp [k2, k3]
    go_enter Try.func8, Try.ntmps8
    go_wp2_with fail
    rw [HR.out]
    exact bodyPost_v rfl (res3 Try.results8 (resT rfl) (resT rfl) (resT rfl)) (by repeat (first | with_reducible exact HK.out | with_reducible exact Kept.refl _ _ | with_reducible refine Kept.prev ?_ | with_reducible refine Kept.alloc' ?_ _ | with_reducible refine Kept.drew' ?_ | with_reducible refine Kept.setB ?_ _ _ _ (by omega) | with_reducible refine Kept.row' ?_ _ _ (by omega) | with_reducible refine Kept.map' ?_ _ _ (by omega)))
  by_cases k4 : y.kind = 3
  · have HR : Hid (spanP t (n : Int) = some (0, (y.lits.length : Int) - 1)) := by rw [Hid, HS.out]; simp [k2, k4]
    go_enter Try.func8, Try.ntmps8
    go_wp2_with fail
    go_region
    all_goals
      go_wp2_with fail
      rw [HR.out]
      exact bodyPost_v rfl (res3 Try.results8 (resT rfl) (resT rfl) (resT rfl)) (by repeat (first | with_reducible exact HK.out | with_reducible exact Kept.refl _ _ | with_reducible refine Kept.prev ?_ | with_reducible refine Kept.alloc' ?_ _ | with_reducible refine Kept.drew' ?_ | with_reducible refine Kept.setB ?_ _ _ _ (by omega) | with_reducible refine Kept.row' ?_ _ _ (by omega) | with_reducible refine Kept.map' ?_ _ _ (by omega)))
  have HR : Hid (spanP t (n : Int) = none) := by rw [Hid, HS.out]; simp [k1, k2, k3, k4]
  go_enter Try.func8, Try.ntmps8
  go_wp2_with fail
  rw [HR.out]
  exact bodyPost_v rfl (res3 Try.results8 (resT rfl) (resT rfl) (resT rfl)) (by repeat (first | with_reducible exact HK.out | with_reducible exact Kept.refl _ _ | with_reducible refine Kept.prev ?_ | with_reducible refine Kept.alloc' ?_ _ | with_reducible refine Kept.drew' ?_ | with_reducible refine Kept.setB ?_ _ _ _ (by omega) | with_reducible refine Kept.row' ?_ _ _ (by omega) | with_reducible refine Kept.map' ?_ _ _ (by omega)))
end Go.Proofs.Ytgdjhhfbpalkdaa
namespace Go.Proofs.Ytgdjhhfbpalkdaa
open Go.RowKit
theorem isP_span {t : Tab} {n : Nat} {x : ExV} (h : isP t n x = true) : ∃ b, spanP t x.t = some b := by
  cases n with
  | zero => cases h
  | succ n =>
    simp only [isP, isF, Bool.and_eq_true] at h
    exact Option.isSome_iff_exists.1 h.1
theorem val_span {t : Tab} {n : Nat} {x : ExV} {u : Int} {b : Bd} (h : valP t n x = some u) (hb : spanP t x.t = some b) : b.1 ≤ u ∧ u ≤ b.2 := by
  cases n with
  | zero => cases h
  | succ n =>
    simp only [valP, valF, hb] at h
    split at h
    · cases h
    · unfold withinP at h
      split at h
      · cases h
      · cases h
        omega
set_option maxRecDepth 100000 in
set_option maxHeartbeats 2000000 in
theorem inside_law (w : World) (v : TabV) (t : Tab) (x : ExV) (n : Nat) (hT : TabIn w v t) (hx : ExIn w n x) : Calls Try.prog 3 #[.agg (v.cells t), .agg x.cells.toArray] w (RetV (.bool true) w) := by
  have HV := Lib.hid (fun w' (hk : Kept [] w w') => Value_any w' v t x n (hT.kept hk) (hx.kept hk))
  have HI := Lib.hid (fun w' (hk : Kept [] w w') => Is_any w' v t x n (hT.kept hk) (hx.kept hk))
  have HS := Lib.hid (fun w' (hk : Kept [] w w') => rspan_any w' v t x.t (hT.kept hk))
  have HW := Lib.hid (fun w' => works_any w')
  have HVP : Hid (valueP t n x = if isP t n x then (match valP t n x with | some v => (v, (0 : Int)) | none => ((0 : Int), (71 : Int))) else ((0 : Int), (70 : Int))) := rfl
  clear hT hx
  unfold TabV.cells at *
  unfold bd3V at HS
  cases hi : isP t n x
  · have HE : Hid (valueP t n x = (0, 70)) := by rw [Hid, HVP.out, hi]; rfl
    rw [hi] at HI
    rw [HE.out] at HV
    clear HVP HE hi
    generalize (spanP t x.t).isSome = sc at *
    generalize ((spanP t x.t).getD (0, 0)).1 = lo at *
    generalize ((spanP t x.t).getD (0, 0)).2 = hi at *
    go_enter Try.func3, Try.ntmps3
    go_wp2_with fail
    refine (HV.out _ (by repeat (first | with_reducible exact HK.out | with_reducible exact Kept.refl _ _ | with_reducible refine Kept.prev ?_ | with_reducible refine Kept.alloc' ?_ _ | with_reducible refine Kept.drew' ?_ | with_reducible refine Kept.setB ?_ _ _ _ (by omega) | with_reducible refine Kept.row' ?_ _ _ (by omega) | with_reducible refine Kept.map' ?_ _ _ (by omega)))).mono ?_; rintro e w2 ⟨rfl, hk_w2⟩; haveI p_w2 : PrevWorld w2 _ := ⟨hk_w2⟩; have hz_w2 : w.heap.size ≤ w2.heap.size := Kept.size (by repeat (first | with_reducible exact HK.out | with_reducible exact Kept.refl _ _ | with_reducible refine Kept.prev ?_ | with_reducible refine Kept.alloc' ?_ _ | with_reducible refine Kept.drew' ?_ | with_reducible refine Kept.setB ?_ _ _ _ (by omega) | with_reducible refine Kept.row' ?_ _ _ (by omega) | with_reducible refine Kept.map' ?_ _ _ (by omega))); clear hk_w2
    go_wp2_with fail
    refine (HS.out _ (by repeat (first | with_reducible exact HK.out | with_reducible exact Kept.refl _ _ | with_reducible refine Kept.prev ?_ | with_reducible refine Kept.alloc' ?_ _ | with_reducible refine Kept.drew' ?_ | with_reducible refine Kept.setB ?_ _ _ _ (by omega) | with_reducible refine Kept.row' ?_ _ _ (by omega) | with_reducible refine Kept.map' ?_ _ _ (by omega)))).mono ?_; rintro e w3 ⟨rfl, hk_w3⟩; haveI p_w3 : PrevWorld w3 _ := ⟨hk_w3⟩; have hz_w3 : w.heap.size ≤ w3.heap.size := Kept.size (by repeat (first | with_reducible exact HK.out | with_reducible exact Kept.refl _ _ | with_reducible refine Kept.prev ?_ | with_reducible refine Kept.alloc' ?_ _ | with_reducible refine Kept.drew' ?_ | with_reducible refine Kept.setB ?_ _ _ _ (by omega) | with_reducible refine Kept.row' ?_ _ _ (by omega) | with_reducible refine Kept.map' ?_ _ _ (by omega))); clear hk_w3
    go_wp2_with fail
    refine (HI.out _ (by repeat (first | with_reducible exact HK.out | with_reducible exact Kept.refl _ _ | with_reducible refine Kept.prev ?_ | with_reducible refine Kept.alloc' ?_ _ | with_reducible refine Kept.drew' ?_ | with_reducible refine Kept.setB ?_ _ _ _ (by omega) | with_reducible refine Kept.row' ?_ _ _ (by omega) | with_reducible refine Kept.map' ?_ _ _ (by omega)))).mono ?_; rintro e w4 ⟨rfl, hk_w4⟩; haveI p_w4 : PrevWorld w4 _ := ⟨hk_w4⟩; have hz_w4 : w.heap.size ≤ w4.heap.size := Kept.size (by repeat (first | with_reducible exact HK.out | with_reducible exact Kept.refl _ _ | with_reducible refine Kept.prev ?_ | with_reducible refine Kept.alloc' ?_ _ | with_reducible refine Kept.drew' ?_ | with_reducible refine Kept.setB ?_ _ _ _ (by omega) | with_reducible refine Kept.row' ?_ _ _ (by omega) | with_reducible refine Kept.map' ?_ _ _ (by omega))); clear hk_w4
    go_wp2_with fail
    refine (HW.out _).mono ?_; rintro e w5 ⟨rfl, hk_w5⟩; haveI p_w5 : PrevWorld w5 _ := ⟨hk_w5⟩; have hz_w5 : w.heap.size ≤ w5.heap.size := Kept.size (by repeat (first | with_reducible exact HK.out | with_reducible exact Kept.refl _ _ | with_reducible refine Kept.prev ?_ | with_reducible refine Kept.alloc' ?_ _ | with_reducible refine Kept.drew' ?_ | with_reducible refine Kept.setB ?_ _ _ _ (by omega) | with_reducible refine Kept.row' ?_ _ _ (by omega) | with_reducible refine Kept.map' ?_ _ _ (by omega))); clear hk_w5
    go_wp2_with fail
    exact bodyPost_v rfl (res1 Try.results3 (resT rfl)) (by repeat (first | with_reducible exact HK.out | with_reducible exact Kept.refl _ _ | with_reducible refine Kept.prev ?_ | with_reducible refine Kept.alloc' ?_ _ | with_reducible refine Kept.drew' ?_ | with_reducible refine Kept.setB ?_ _ _ _ (by omega) | with_reducible refine Kept.row' ?_ _ _ (by omega) | with_reducible refine Kept.map' ?_ _ _ (by omega)))
  obtain ⟨b, hb⟩ := isP_span hi
  have HB := Lib.hid (fun u h => val_span (n := n) (u := u) h hb)
  rw [hi] at HI
  rw [hb] at HS
  simp only [Option.getD_some, Option.isSome_some] at HS
  obtain ⟨lo, up⟩ := b
  simp only at HS HB
  cases hv : valP t n x with
  | none =>
    have HE : Hid (valueP t n x = (0, 71)) := by rw [Hid, HVP.out, hi, hv]; rfl
    rw [HE.out] at HV
    clear HVP HE hi hv hb HB
    go_enter Try.func3, Try.ntmps3
    go_wp2_with fail
    refine (HV.out _ (by repeat (first | with_reducible exact HK.out | with_reducible exact Kept.refl _ _ | with_reducible refine Kept.prev ?_ | with_reducible refine Kept.alloc' ?_ _ | with_reducible refine Kept.drew' ?_ | with_reducible refine Kept.setB ?_ _ _ _ (by omega) | with_reducible refine Kept.row' ?_ _ _ (by omega) | with_reducible refine Kept.map' ?_ _ _ (by omega)))).mono ?_; rintro e w2 ⟨rfl, hk_w2⟩; haveI p_w2 : PrevWorld w2 _ := ⟨hk_w2⟩; have hz_w2 : w.heap.size ≤ w2.heap.size := Kept.size (by repeat (first | with_reducible exact HK.out | with_reducible exact Kept.refl _ _ | with_reducible refine Kept.prev ?_ | with_reducible refine Kept.alloc' ?_ _ | with_reducible refine Kept.drew' ?_ | with_reducible refine Kept.setB ?_ _ _ _ (by omega) | with_reducible refine Kept.row' ?_ _ _ (by omega) | with_reducible refine Kept.map' ?_ _ _ (by omega))); clear hk_w2
    go_wp2_with fail
    refine (HS.out _ (by repeat (first | with_reducible exact HK.out | with_reducible exact Kept.refl _ _ | with_reducible refine Kept.prev ?_ | with_reducible refine Kept.alloc' ?_ _ | with_reducible refine Kept.drew' ?_ | with_reducible refine Kept.setB ?_ _ _ _ (by omega) | with_reducible refine Kept.row' ?_ _ _ (by omega) | with_reducible refine Kept.map' ?_ _ _ (by omega)))).mono ?_; rintro e w3 ⟨rfl, hk_w3⟩; haveI p_w3 : PrevWorld w3 _ := ⟨hk_w3⟩; have hz_w3 : w.heap.size ≤ w3.heap.size := Kept.size (by repeat (first | with_reducible exact HK.out | with_reducible exact Kept.refl _ _ | with_reducible refine Kept.prev ?_ | with_reducible refine Kept.alloc' ?_ _ | with_reducible refine Kept.drew' ?_ | with_reducible refine Kept.setB ?_ _ _ _ (by omega) | with_reducible refine Kept.row' ?_ _ _ (by omega) | with_reducible refine Kept.map' ?_ _ _ (by omega))); clear hk_w3
    go_wp2_with fail
    refine (HI.out _ (by repeat (first | with_reducible exact HK.out | with_reducible exact Kept.refl _ _ | with_reducible refine Kept.prev ?_ | with_reducible refine Kept.alloc' ?_ _ | with_reducible refine Kept.drew' ?_ | with_reducible refine Kept.setB ?_ _ _ _ (by omega) | with_reducible refine Kept.row' ?_ _ _ (by omega) | with_reducible refine Kept.map' ?_ _ _ (by omega)))).mono ?_; rintro e w4 ⟨rfl, hk_w4⟩; haveI p_w4 : PrevWorld w4 _ := ⟨hk_w4⟩; have hz_w4 : w.heap.size ≤ w4.heap.size := Kept.size (by repeat (first | with_reducible exact HK.out | with_reducible exact Kept.refl _ _ | with_reducible refine Kept.prev ?_ | with_reducible refine Kept.alloc' ?_ _ | with_reducible refine Kept.drew' ?_ | with_reducible refine Kept.setB ?_ _ _ _ (by omega) | with_reducible refine Kept.row' ?_ _ _ (by omega) | with_reducible refine Kept.map' ?_ _ _ (by omega))); clear hk_w4
    go_wp2_with fail
    refine (HW.out _).mono ?_; rintro e w5 ⟨rfl, hk_w5⟩; haveI p_w5 : PrevWorld w5 _ := ⟨hk_w5⟩; have hz_w5 : w.heap.size ≤ w5.heap.size := Kept.size (by repeat (first | with_reducible exact HK.out | with_reducible exact Kept.refl _ _ | with_reducible refine Kept.prev ?_ | with_reducible refine Kept.alloc' ?_ _ | with_reducible refine Kept.drew' ?_ | with_reducible refine Kept.setB ?_ _ _ _ (by omega) | with_reducible refine Kept.row' ?_ _ _ (by omega) | with_reducible refine Kept.map' ?_ _ _ (by omega))); clear hk_w5
    go_wp2_with fail
    exact bodyPost_v rfl (res1 Try.results3 (resT rfl)) (by repeat (first | with_reducible exact HK.out | with_reducible exact Kept.refl _ _ | with_reducible refine Kept.prev ?_ | with_reducible refine Kept.alloc' ?_ _ | with_reducible refine Kept.drew' ?_ | with_reducible refine Kept.setB ?_ _ _ _ (by omega) | with_reducible refine Kept.row' ?_ _ _ (by omega) | with_reducible refine Kept.map' ?_ _ _ (by omega)))
  | some u =>
    have HE : Hid (valueP t n x = (u, 0)) := by rw [Hid, HVP.out, hi, hv]; rfl
    rw [HE.out] at HV
    obtain ⟨c1, c2⟩ := HB.out u hv
    clear HVP HE hi hv hb HB
    go_enter Try.func3, Try.ntmps3
    go_wp2_with fail
    refine (HV.out _ (by repeat (first | with_reducible exact HK.out | with_reducible exact Kept.refl _ _ | with_reducible refine Kept.prev ?_ | with_reducible refine Kept.alloc' ?_ _ | with_reducible refine Kept.drew' ?_ | with_reducible refine Kept.setB ?_ _ _ _ (by omega) | with_reducible refine Kept.row' ?_ _ _ (by omega) | with_reducible refine Kept.map' ?_ _ _ (by omega)))).mono ?_; rintro e w2 ⟨rfl, hk_w2⟩; haveI p_w2 : PrevWorld w2 _ := ⟨hk_w2⟩; have hz_w2 : w.heap.size ≤ w2.heap.size := Kept.size (by repeat (first | with_reducible exact HK.out | with_reducible exact Kept.refl _ _ | with_reducible refine Kept.prev ?_ | with_reducible refine Kept.alloc' ?_ _ | with_reducible refine Kept.drew' ?_ | with_reducible refine Kept.setB ?_ _ _ _ (by omega) | with_reducible refine Kept.row' ?_ _ _ (by omega) | with_reducible refine Kept.map' ?_ _ _ (by omega))); clear hk_w2
    go_wp2_with fail
    refine (HS.out _ (by repeat (first | with_reducible exact HK.out | with_reducible exact Kept.refl _ _ | with_reducible refine Kept.prev ?_ | with_reducible refine Kept.alloc' ?_ _ | with_reducible refine Kept.drew' ?_ | with_reducible refine Kept.setB ?_ _ _ _ (by omega) | with_reducible refine Kept.row' ?_ _ _ (by omega) | with_reducible refine Kept.map' ?_ _ _ (by omega)))).mono ?_; rintro e w3 ⟨rfl, hk_w3⟩; haveI p_w3 : PrevWorld w3 _ := ⟨hk_w3⟩; have hz_w3 : w.heap.size ≤ w3.heap.size := Kept.size (by repeat (first | with_reducible exact HK.out | with_reducible exact Kept.refl _ _ | with_reducible refine Kept.prev ?_ | with_reducible refine Kept.alloc' ?_ _ | with_reducible refine Kept.drew' ?_ | with_reducible refine Kept.setB ?_ _ _ _ (by omega) | with_reducible refine Kept.row' ?_ _ _ (by omega) | with_reducible refine Kept.map' ?_ _ _ (by omega))); clear hk_w3
    go_wp2_with fail
    refine (HI.out _ (by repeat (first | with_reducible exact HK.out | with_reducible exact Kept.refl _ _ | with_reducible refine Kept.prev ?_ | with_reducible refine Kept.alloc' ?_ _ | with_reducible refine Kept.drew' ?_ | with_reducible refine Kept.setB ?_ _ _ _ (by omega) | with_reducible refine Kept.row' ?_ _ _ (by omega) | with_reducible refine Kept.map' ?_ _ _ (by omega)))).mono ?_; rintro e w4 ⟨rfl, hk_w4⟩; haveI p_w4 : PrevWorld w4 _ := ⟨hk_w4⟩; have hz_w4 : w.heap.size ≤ w4.heap.size := Kept.size (by repeat (first | with_reducible exact HK.out | with_reducible exact Kept.refl _ _ | with_reducible refine Kept.prev ?_ | with_reducible refine Kept.alloc' ?_ _ | with_reducible refine Kept.drew' ?_ | with_reducible refine Kept.setB ?_ _ _ _ (by omega) | with_reducible refine Kept.row' ?_ _ _ (by omega) | with_reducible refine Kept.map' ?_ _ _ (by omega))); clear hk_w4
    go_wp2_with fail
    refine (HW.out _).mono ?_; rintro e w5 ⟨rfl, hk_w5⟩; haveI p_w5 : PrevWorld w5 _ := ⟨hk_w5⟩; have hz_w5 : w.heap.size ≤ w5.heap.size := Kept.size (by repeat (first | with_reducible exact HK.out | with_reducible exact Kept.refl _ _ | with_reducible refine Kept.prev ?_ | with_reducible refine Kept.alloc' ?_ _ | with_reducible refine Kept.drew' ?_ | with_reducible refine Kept.setB ?_ _ _ _ (by omega) | with_reducible refine Kept.row' ?_ _ _ (by omega) | with_reducible refine Kept.map' ?_ _ _ (by omega))); clear hk_w5
    go_wp2_with fail
    exact bodyPost_v rfl (res1 Try.results3 (resT rfl)) (by repeat (first | with_reducible exact HK.out | with_reducible exact Kept.refl _ _ | with_reducible refine Kept.prev ?_ | with_reducible refine Kept.alloc' ?_ _ | with_reducible refine Kept.drew' ?_ | with_reducible refine Kept.setB ?_ _ _ _ (by omega) | with_reducible refine Kept.row' ?_ _ _ (by omega) | with_reducible refine Kept.map' ?_ _ _ (by omega)))
end Go.Proofs.Ytgdjhhfbpalkdaa
