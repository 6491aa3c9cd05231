/- span. table.at of subtypes and of types. row, bounds, table.Range. bounds, table.Range, plain. -/
import Derived.Test.YtgdjhhfbpalkdaaGreatK8
import Derived.BigRegion
import Derived.Test.YtgdjhhfbpalkdaaGreatV1
namespace Go.Proofs.YtgdjhhfbpalkdaaGreat
open Go.RowKit

set_option maxRecDepth 100000 in
set_option maxHeartbeats 1000000 in
theorem span_any (w : World) (v : TabV) (t : Tab) (ty : Int) (hT : TabIn w v t) : Calls Tryz.prog 46 #[.agg (v.cells t), .int .i64 ty] w (RetV (bdV (spanP t ty)) w) := by
  have HT := Lib.hid hT
  have q1 := hT.tl
  clear hT
  unfold TabV.cells
  by_cases h0 : ty < 0
  · have HR : Hid (spanP t ty = none) := span_out (.inl h0)
    go_enter Tryz.func46, Tryz.ntmps46
    go_wp2_with fail
    rw [HR.out]
    exact bodyPost_v rfl (res2 Tryz.results46 (resC rfl inferInstance) (resT rfl)) (by repeat (first | with_reducible exact HK.out | with_reducible exact Kept.refl _ _ | with_reducible refine Kept.prev ?_ | with_reducible refine Kept.alloc' ?_ _ | with_reducible refine Kept.drew' ?_ | with_reducible refine Kept.setB ?_ _ _ _ (by omega) | with_reducible refine Kept.row' ?_ _ _ (by omega) | with_reducible refine Kept.map' ?_ _ _ (by omega)))
  obtain ⟨n, rfl⟩ := Int.eq_ofNat_of_zero_le (by omega : 0 ≤ ty)
  by_cases h1 : t.types.length ≤ n
  · have HR : Hid (spanP t (n : Int) = none) := span_out (.inr (by omega))
    have h2 : (t.types.length : Int) ≤ (n : Int) := by omega
    go_enter Tryz.func46, Tryz.ntmps46
    go_wp2_with fail
    rw [HR.out]
    exact bodyPost_v rfl (res2 Tryz.results46 (resC rfl inferInstance) (resT rfl)) (by repeat (first | with_reducible exact HK.out | with_reducible exact Kept.refl _ _ | with_reducible refine Kept.prev ?_ | with_reducible refine Kept.alloc' ?_ _ | with_reducible refine Kept.drew' ?_ | with_reducible refine Kept.setB ?_ _ _ _ (by omega) | with_reducible refine Kept.row' ?_ _ _ (by omega) | with_reducible refine Kept.map' ?_ _ _ (by omega)))
  obtain ⟨y, b, o, hy, ha, hat, hl⟩ := tab_ty HT.out (by omega : n < t.types.length)
  have HS := Lib.hid (span_at hy)
  have h2 : (n : Int) < (t.types.length : Int) := by omega
  rw [ha]
  clear hy ha
  by_cases k1 : y.kind = 1
  · have HR : Hid (spanP t (n : Int) = some (-4611686018427387904, 4611686018427387904)) := by rw [Hid, HS.out]; simp [k1]
    go_enter Tryz.func46, Tryz.ntmps46
    go_wp2_with fail
    rw [HR.out]
    exact bodyPost_v rfl (res2 Tryz.results46 (resC rfl inferInstance) (resT rfl)) (by repeat (first | with_reducible exact HK.out | with_reducible exact Kept.refl _ _ | with_reducible refine Kept.prev ?_ | with_reducible refine Kept.alloc' ?_ _ | with_reducible refine Kept.drew' ?_ | with_reducible refine Kept.setB ?_ _ _ _ (by omega) | with_reducible refine Kept.row' ?_ _ _ (by omega) | with_reducible refine Kept.map' ?_ _ _ (by omega)))
  by_cases k2 : y.formal = 0
  rotate_left
  · have HR : Hid (spanP t (n : Int) = none) := by rw [Hid, HS.out]; simp [k1, k2]
    go_enter Tryz.func46, Tryz.ntmps46
    go_wp2_with fail
    rw [HR.out]
    exact bodyPost_v rfl (res2 Tryz.results46 (resC rfl inferInstance) (resT rfl)) (by repeat (first | with_reducible exact HK.out | with_reducible exact Kept.refl _ _ | with_reducible refine Kept.prev ?_ | with_reducible refine Kept.alloc' ?_ _ | with_reducible refine Kept.drew' ?_ | with_reducible refine Kept.setB ?_ _ _ _ (by omega) | with_reducible refine Kept.row' ?_ _ _ (by omega) | with_reducible refine Kept.map' ?_ _ _ (by omega)))
  by_cases k3 : y.kind = 2
  · have HR : Hid (spanP t (n : Int) = some (-2147483648, 2147483647)) := by rw [Hid, HS.out]; simp [k2, k3]
    go_enter Tryz.func46, Tryz.ntmps46
    go_wp2_with fail
    rw [HR.out]
    exact bodyPost_v rfl (res2 Tryz.results46 (resC rfl inferInstance) (resT rfl)) (by repeat (first | with_reducible exact HK.out | with_reducible exact Kept.refl _ _ | with_reducible refine Kept.prev ?_ | with_reducible refine Kept.alloc' ?_ _ | with_reducible refine Kept.drew' ?_ | with_reducible refine Kept.setB ?_ _ _ _ (by omega) | with_reducible refine Kept.row' ?_ _ _ (by omega) | with_reducible refine Kept.map' ?_ _ _ (by omega)))
  by_cases k4 : y.kind = 3
  · have HR : Hid (spanP t (n : Int) = some (0, (y.lits.length : Int) - 1)) := by rw [Hid, HS.out]; simp [k2, k4]
    go_enter Tryz.func46, Tryz.ntmps46
    go_wp2_with fail
    rw [HR.out]
    exact bodyPost_v rfl (res2 Tryz.results46 (resC rfl inferInstance) (resT rfl)) (by repeat (first | with_reducible exact HK.out | with_reducible exact Kept.refl _ _ | with_reducible refine Kept.prev ?_ | with_reducible refine Kept.alloc' ?_ _ | with_reducible refine Kept.drew' ?_ | with_reducible refine Kept.setB ?_ _ _ _ (by omega) | with_reducible refine Kept.row' ?_ _ _ (by omega) | with_reducible refine Kept.map' ?_ _ _ (by omega)))
  have HR : Hid (spanP t (n : Int) = none) := by rw [Hid, HS.out]; simp [k1, k2, k3, k4]
  go_enter Tryz.func46, Tryz.ntmps46
  go_wp2_with fail
  rw [HR.out]
  exact bodyPost_v rfl (res2 Tryz.results46 (resC rfl inferInstance) (resT rfl)) (by repeat (first | with_reducible exact HK.out | with_reducible exact Kept.refl _ _ | with_reducible refine Kept.prev ?_ | with_reducible refine Kept.alloc' ?_ _ | with_reducible refine Kept.drew' ?_ | with_reducible refine Kept.setB ?_ _ _ _ (by omega) | with_reducible refine Kept.row' ?_ _ _ (by omega) | with_reducible refine Kept.map' ?_ _ _ (by omega)))
end Go.Proofs.YtgdjhhfbpalkdaaGreat
namespace Go.Proofs.YtgdjhhfbpalkdaaGreat
open Go.RowKit

set_option maxRecDepth 100000 in
set_option maxHeartbeats 1000000 in
theorem atSub_any (w : World) (v : TabV) (t : Tab) (i : Int) (hT : TabIn w v t) : Calls Tryz.prog 119 #[.slice v.sa t.subs.length v.sc, .int .i64 i] w (RetV (subV (subO t i)) w) := by
  have HT := Lib.hid hT
  have q1 := hT.sl
  clear hT
  by_cases h0 : i < 0
  · have HR : Hid (subO t i = none) := subO_out (.inl h0)
    go_enter Tryz.func119, Tryz.ntmps119
    go_wp2_with fail
    rw [HR.out]
    exact bodyPost_v rfl (res2 Tryz.results119 (resC rfl inferInstance) (resT rfl)) (by repeat (first | with_reducible exact HK.out | with_reducible exact Kept.refl _ _ | with_reducible refine Kept.prev ?_ | with_reducible refine Kept.alloc' ?_ _ | with_reducible refine Kept.drew' ?_ | with_reducible refine Kept.setB ?_ _ _ _ (by omega) | with_reducible refine Kept.row' ?_ _ _ (by omega) | with_reducible refine Kept.map' ?_ _ _ (by omega)))
  obtain ⟨n, rfl⟩ := Int.eq_ofNat_of_zero_le (by omega : 0 ≤ i)
  by_cases h1 : t.subs.length ≤ n
  · have HR : Hid (subO t (n : Int) = none) := subO_out (.inr (by omega))
    have h2 : (t.subs.length : Int) ≤ (n : Int) := by omega
    go_enter Tryz.func119, Tryz.ntmps119
    go_wp2_with fail
    rw [HR.out]
    exact bodyPost_v rfl (res2 Tryz.results119 (resC rfl inferInstance) (resT rfl)) (by repeat (first | with_reducible exact HK.out | with_reducible exact Kept.refl _ _ | with_reducible refine Kept.prev ?_ | with_reducible refine Kept.alloc' ?_ _ | with_reducible refine Kept.drew' ?_ | with_reducible refine Kept.setB ?_ _ _ _ (by omega) | with_reducible refine Kept.row' ?_ _ _ (by omega) | with_reducible refine Kept.map' ?_ _ _ (by omega)))
  obtain ⟨s, b, o, hs, ha, hat, _⟩ := tab_sub HT.out (by omega : n < t.subs.length)
  have HR := Lib.hid (subO_at hs)
  have h2 : (n : Int) < (t.subs.length : Int) := by omega
  rw [ha]
  clear hs ha
  go_enter Tryz.func119, Tryz.ntmps119
  go_wp2_with fail
  rw [HR.out]
  exact bodyPost_v rfl (res2 Tryz.results119 (resC rfl inferInstance) (resT rfl)) (by repeat (first | with_reducible exact HK.out | with_reducible exact Kept.refl _ _ | with_reducible refine Kept.prev ?_ | with_reducible refine Kept.alloc' ?_ _ | with_reducible refine Kept.drew' ?_ | with_reducible refine Kept.setB ?_ _ _ _ (by omega) | with_reducible refine Kept.row' ?_ _ _ (by omega) | with_reducible refine Kept.map' ?_ _ _ (by omega)))

set_option maxRecDepth 100000 in
set_option maxHeartbeats 1000000 in
theorem atTy_any (w : World) (v : TabV) (t : Tab) (i : Int) (hT : TabIn w v t) : Calls Tryz.prog 120 #[.slice v.ta t.types.length v.tc, .int .i64 i] w (RetV (tyV (tyO t i)) w) := by
  have HT := Lib.hid hT
  have q1 := hT.tl
  clear hT
  by_cases h0 : i < 0
  · have HR : Hid (tyO t i = none) := tyO_out (.inl h0)
    go_enter Tryz.func120, Tryz.ntmps120
    go_wp2_with fail
    rw [HR.out]
    exact bodyPost_v rfl (res2 Tryz.results120 (resC rfl inferInstance) (resT rfl)) (by repeat (first | with_reducible exact HK.out | with_reducible exact Kept.refl _ _ | with_reducible refine Kept.prev ?_ | with_reducible refine Kept.alloc' ?_ _ | with_reducible refine Kept.drew' ?_ | with_reducible refine Kept.setB ?_ _ _ _ (by omega) | with_reducible refine Kept.row' ?_ _ _ (by omega) | with_reducible refine Kept.map' ?_ _ _ (by omega)))
  obtain ⟨n, rfl⟩ := Int.eq_ofNat_of_zero_le (by omega : 0 ≤ i)
  by_cases h1 : t.types.length ≤ n
  · have HR : Hid (tyO t (n : Int) = none) := tyO_out (.inr (by omega))
    have h2 : (t.types.length : Int) ≤ (n : Int) := by omega
    go_enter Tryz.func120, Tryz.ntmps120
    go_wp2_with fail
    rw [HR.out]
    exact bodyPost_v rfl (res2 Tryz.results120 (resC rfl inferInstance) (resT rfl)) (by repeat (first | with_reducible exact HK.out | with_reducible exact Kept.refl _ _ | with_reducible refine Kept.prev ?_ | with_reducible refine Kept.alloc' ?_ _ | with_reducible refine Kept.drew' ?_ | with_reducible refine Kept.setB ?_ _ _ _ (by omega) | with_reducible refine Kept.row' ?_ _ _ (by omega) | with_reducible refine Kept.map' ?_ _ _ (by omega)))
  obtain ⟨s, b, o, hs, ha, hat, _⟩ := tab_ty HT.out (by omega : n < t.types.length)
  have HR := Lib.hid (tyO_at hs)
  have h2 : (n : Int) < (t.types.length : Int) := by omega
  rw [ha]
  clear hs ha
  go_enter Tryz.func120, Tryz.ntmps120
  go_wp2_with fail
  rw [HR.out]
  exact bodyPost_v rfl (res2 Tryz.results120 (resC rfl inferInstance) (resT rfl)) (by repeat (first | with_reducible exact HK.out | with_reducible exact Kept.refl _ _ | with_reducible refine Kept.prev ?_ | with_reducible refine Kept.alloc' ?_ _ | with_reducible refine Kept.drew' ?_ | with_reducible refine Kept.setB ?_ _ _ _ (by omega) | with_reducible refine Kept.row' ?_ _ _ (by omega) | with_reducible refine Kept.map' ?_ _ _ (by omega)))
end Go.Proofs.YtgdjhhfbpalkdaaGreat
namespace Go.Proofs.YtgdjhhfbpalkdaaGreat
open Go.RowKit

def rowO (t : Tab) (n : Int) : TyV × SubtV × Bool :=
  match subO t n with
  | none => (zeroT, zeroS, false)
  | some s => match tyO t s.t with
    | none => (zeroT, s, false)
    | some y => (y, s, true)
def rowV (r : TyV × SubtV × Bool) : Value := .tuple #[.agg r.1.cells.toArray, subA r.2.1, .bool r.2.2]

set_option maxRecDepth 100000 in
set_option maxHeartbeats 1000000 in
theorem row_any (w : World) (v : TabV) (t : Tab) (n : Int) (hT : TabIn w v t) : Calls Tryz.prog 95 #[.agg (v.cells t), .int .i64 n] w (RetV (rowV (rowO t n)) w) := by
  have HT := Lib.hid hT
  have HC := Lib.hid (fun w' (hk : Kept [] w w') => atSub_any w' v t n (hT.kept hk))
  have HC2 := Lib.hid (fun w' m (hk : Kept [] w w') => atTy_any w' v t m (hT.kept hk))
  clear hT
  have HV : Hid (rowO t n = match subO t n with | none => (zeroT, zeroS, false) | some s => match tyO t s.t with | none => (zeroT, s, false) | some y => (y, s, true)) := rfl
  unfold TabV.cells
  go_enter Tryz.func95, Tryz.ntmps95
  go_wp2_with fail
  refine (HC.out _ (by repeat (first | exact Kept.refl _ _ | exact Kept.alloc _ _ _ | apply Kept.alloc'))).mono ?_
  rintro e w1 ⟨rfl, hk1⟩
  haveI b2 : BoxIs w1 w.heap.size _ _ := BoxIs.kept (by infer_instance) hk1
  haveI b4 : BoxIs w1 (w.heap.size + 1) _ _ := BoxIs.kept (by infer_instance) hk1
  haveI b5 : BoxIs w1 (w.heap.size + 1 + 1) _ _ := BoxIs.kept (by infer_instance) hk1
  have HK : Hid (Kept [] w w1) := Kept.trans (by repeat (first | exact Kept.refl _ _ | exact Kept.alloc _ _ _ | apply Kept.alloc')) hk1
  clear hk1 HC
  cases hs : subO t n with
  | none =>
    rw [hs] at HV
    clear hs
    unfold subV subA zeroS
    go_wp2_with fail
    go_region
    go_wp2_with fail
    rw [HV.out]
    exact bodyPost_v rfl (res3 Tryz.results95 (resC rfl inferInstance) (resC rfl inferInstance) (resT rfl)) (by repeat (first | with_reducible exact HK.out | with_reducible exact Kept.refl _ _ | with_reducible refine Kept.prev ?_ | with_reducible refine Kept.alloc' ?_ _ | with_reducible refine Kept.drew' ?_ | with_reducible refine Kept.setB ?_ _ _ _ (by omega) | with_reducible refine Kept.row' ?_ _ _ (by omega) | with_reducible refine Kept.map' ?_ _ _ (by omega)))
  | some s =>
    rw [hs] at HV
    clear hs
    unfold subV subA
    simp only [Option.getD_some, Option.isSome_some]
    go_wp2_with fail
    refine (HC2.out _ _ (by repeat (first | with_reducible exact HK.out | with_reducible exact Kept.refl _ _ | with_reducible refine Kept.prev ?_ | with_reducible refine Kept.alloc' ?_ _ | with_reducible refine Kept.drew' ?_ | with_reducible refine Kept.setB ?_ _ _ _ (by omega) | with_reducible refine Kept.row' ?_ _ _ (by omega) | with_reducible refine Kept.map' ?_ _ _ (by omega)))).mono ?_
    rintro e w2 ⟨rfl, hk2⟩
    haveI c4 : BoxIs w2 (w.heap.size + 1) _ _ := BoxIs.kept (by infer_instance) hk2
    haveI c5 : BoxIs w2 (w.heap.size + 1 + 1) _ _ := BoxIs.kept (by infer_instance) hk2
    haveI c7 : BoxIs w2 w1.heap.size _ _ := BoxIs.kept (by infer_instance) hk2
    have hz1 := HK.out.size
    have HK0 := HK
    clear HK
    have HK : Hid (Kept [] w w2) := Kept.trans (by exact HK0.out.alloc' _) hk2
    haveI l4 : LtB (w.heap.size + 1) w1.heap.size := inferInstance
    haveI l5 : LtB (w.heap.size + 1 + 1) w1.heap.size := inferInstance
    clear hk2 HC2 b2 b4 b5 HT
    have HW : Hid (rowV (rowO t n) = .tuple #[.agg ((tyO t s.t).getD zeroT).cells.toArray, subA s, .bool (tyO t s.t).isSome]) := by
      rw [Hid, HV.out]
      cases tyO t s.t <;> rfl
    unfold tyV
    generalize (tyO t s.t).getD zeroT = y at *
    generalize (tyO t s.t).isSome = ok at *
    go_wp2_with fail
    go_region
    go_wp2_with fail
    rw [HW.out]
    exact bodyPost_v rfl (res3 Tryz.results95 (resC rfl inferInstance) (resC rfl inferInstance) (resT rfl)) (by repeat (first | with_reducible exact HK.out | with_reducible exact Kept.refl _ _ | with_reducible refine Kept.prev ?_ | with_reducible refine Kept.alloc' ?_ _ | with_reducible refine Kept.drew' ?_ | with_reducible refine Kept.setB ?_ _ _ _ (by omega) | with_reducible refine Kept.row' ?_ _ _ (by omega) | with_reducible refine Kept.map' ?_ _ _ (by omega)))
end Go.Proofs.YtgdjhhfbpalkdaaGreat
namespace Go.Proofs.YtgdjhhfbpalkdaaGreat
open Go.RowKit

theorem range_row (t : Tab) (n : Int) : rangeP t n = if (rowO t n).1.kind = 2 ∨ (rowO t n).1.kind = 3 then some ((rowO t n).2.1.lo, (rowO t n).2.1.hi) else none := by
  unfold rangeP kindP tyP rowO subO tyO subP
  by_cases h1 : n < 0 ∨ (t.subs.length : Int) ≤ n
  · simp [h1, zeroT]
  · simp only [if_neg h1]
    by_cases h2 : (t.subs.getD n.toNat default).t < 0 ∨ (t.types.length : Int) ≤ (t.subs.getD n.toNat default).t
    · simp only [if_pos h2]
      simp [zeroT]
    · simp only [if_neg h2]

set_option maxRecDepth 100000 in
set_option maxHeartbeats 1000000 in
theorem bounds_any (w : World) (v : TabV) (t : Tab) (n : Int) (hT : TabIn w v t) : Calls Tryz.prog 67 #[.agg (v.cells t), .int .i64 n] w (RetV (bd3V (rangeP t n)) w) := by
  have HC := Lib.hid (fun w' (hk : Kept [] w w') => row_any w' v t n (hT.kept hk))
  have HV := Lib.hid (range_row t n)
  unfold TabV.cells at *
  clear hT
  go_enter Tryz.func67, Tryz.ntmps67
  go_wp2_with fail
  refine (HC.out _ (by repeat (first | with_reducible exact HK.out | with_reducible exact Kept.refl _ _ | with_reducible refine Kept.prev ?_ | with_reducible refine Kept.alloc' ?_ _ | with_reducible refine Kept.drew' ?_ | with_reducible refine Kept.setB ?_ _ _ _ (by omega) | with_reducible refine Kept.row' ?_ _ _ (by omega) | with_reducible refine Kept.map' ?_ _ _ (by omega)))).mono ?_
  rintro e w1 ⟨rfl, hk1⟩
  have HK : Hid (Kept [] w w1) := Kept.trans (by repeat (first | with_reducible exact HK.out | with_reducible exact Kept.refl _ _ | with_reducible refine Kept.prev ?_ | with_reducible refine Kept.alloc' ?_ _ | with_reducible refine Kept.drew' ?_ | with_reducible refine Kept.setB ?_ _ _ _ (by omega) | with_reducible refine Kept.row' ?_ _ _ (by omega) | with_reducible refine Kept.map' ?_ _ _ (by omega))) hk1
  clear hk1 HC
  have hz1 := HK.out.size
  unfold rowV subA
  generalize (rowO t n).1 = y at *
  generalize (rowO t n).2.1 = s at *
  generalize (rowO t n).2.2 = ok at *
  by_cases k2 : y.kind = 2
  · have HW : Hid (rangeP t n = some (s.lo, s.hi)) := by rw [Hid, HV.out]; simp [k2]
    clear HV
    go_wp2_with fail
    go_region
    go_wp2_with fail
    rw [HW.out]
    exact bodyPost_v rfl (res3 Tryz.results67 (resT rfl) (resT rfl) (resT rfl)) (by repeat (first | with_reducible exact HK.out | with_reducible exact Kept.refl _ _ | with_reducible refine Kept.prev ?_ | with_reducible refine Kept.alloc' ?_ _ | with_reducible refine Kept.drew' ?_ | with_reducible refine Kept.setB ?_ _ _ _ (by omega) | with_reducible refine Kept.row' ?_ _ _ (by omega) | with_reducible refine Kept.map' ?_ _ _ (by omega)))
  by_cases k3 : y.kind = 3
  · have HW : Hid (rangeP t n = some (s.lo, s.hi)) := by rw [Hid, HV.out]; simp [k3]
    clear HV
    go_wp2_with fail
    go_region
    go_wp2_with fail
    rw [HW.out]
    exact bodyPost_v rfl (res3 Tryz.results67 (resT rfl) (resT rfl) (resT rfl)) (by repeat (first | with_reducible exact HK.out | with_reducible exact Kept.refl _ _ | with_reducible refine Kept.prev ?_ | with_reducible refine Kept.alloc' ?_ _ | with_reducible refine Kept.drew' ?_ | with_reducible refine Kept.setB ?_ _ _ _ (by omega) | with_reducible refine Kept.row' ?_ _ _ (by omega) | with_reducible refine Kept.map' ?_ _ _ (by omega)))
  have HW : Hid (rangeP t n = none) := by rw [Hid, HV.out]; simp [k2, k3]
  have k2' : (y.kind != 2) = true := by simp [k2]
  have k3' : (y.kind != 3) = true := by simp [k3]
  clear HV k2 k3
  go_wp2_with fail
  rw [HW.out]
  exact bodyPost_v rfl (res3 Tryz.results67 (resT rfl) (resT rfl) (resT rfl)) (by repeat (first | with_reducible exact HK.out | with_reducible exact Kept.refl _ _ | with_reducible refine Kept.prev ?_ | with_reducible refine Kept.alloc' ?_ _ | with_reducible refine Kept.drew' ?_ | with_reducible refine Kept.setB ?_ _ _ _ (by omega) | with_reducible refine Kept.row' ?_ _ _ (by omega) | with_reducible refine Kept.map' ?_ _ _ (by omega)))

set_option maxRecDepth 100000 in
set_option maxHeartbeats 1000000 in
theorem range_any (w : World) (v : TabV) (t : Tab) (n : Int) (hT : TabIn w v t) : Calls Tryz.prog 43 #[.agg (v.cells t), .int .i64 n] w (RetV (bd3V (rangeP t n)) w) := by
  have HC := Lib.hid (fun w' (hk : Kept [] w w') => bounds_any w' v t n (hT.kept hk))
  unfold TabV.cells at *
  clear hT
  go_enter Tryz.func43, Tryz.ntmps43
  go_wp2_with fail
  refine (HC.out _ (by repeat (first | with_reducible exact HK.out | with_reducible exact Kept.refl _ _ | with_reducible refine Kept.prev ?_ | with_reducible refine Kept.alloc' ?_ _ | with_reducible refine Kept.drew' ?_ | with_reducible refine Kept.setB ?_ _ _ _ (by omega) | with_reducible refine Kept.row' ?_ _ _ (by omega) | with_reducible refine Kept.map' ?_ _ _ (by omega)))).mono ?_
  rintro e w1 ⟨rfl, hk1⟩
  have HK : Hid (Kept [] w w1) := Kept.trans (by repeat (first | with_reducible exact HK.out | with_reducible exact Kept.refl _ _ | with_reducible refine Kept.prev ?_ | with_reducible refine Kept.alloc' ?_ _ | with_reducible refine Kept.drew' ?_ | with_reducible refine Kept.setB ?_ _ _ _ (by omega) | with_reducible refine Kept.row' ?_ _ _ (by omega) | with_reducible refine Kept.map' ?_ _ _ (by omega))) hk1
  clear hk1 HC
  unfold bd3V
  generalize rangeP t n = r at *
  go_wp2_with fail
  exact bodyPost_v rfl (res3 Tryz.results43 (resT rfl) (resT rfl) (resT rfl)) (by repeat (first | with_reducible exact HK.out | with_reducible exact Kept.refl _ _ | with_reducible refine Kept.prev ?_ | with_reducible refine Kept.alloc' ?_ _ | with_reducible refine Kept.drew' ?_ | with_reducible refine Kept.setB ?_ _ _ _ (by omega) | with_reducible refine Kept.row' ?_ _ _ (by omega) | with_reducible refine Kept.map' ?_ _ _ (by omega)))

/-- What plain hands back, whether it says yes or no. -/
def plainX (t : Tab) (n : Int) : Bd × Bd × Bool :=
  match rangeP t n with
  | none => ((0, 0), (0, 0), false)
  | some b => (b, (spanP t (subP t n).t).getD (0, 0), (spanP t (subP t n).t).isSome)
def pvV (r : Bd × Bd × Bool) : Value := .tuple #[.agg #[.int .i64 r.1.1, .int .i64 r.1.2], .agg #[.int .i64 r.2.1.1, .int .i64 r.2.1.2], .bool r.2.2]
def bvV (r : Bd × Bool) : Value := .tuple #[.agg #[.int .i64 r.1.1, .int .i64 r.1.2], .bool r.2]
theorem plainX_ok (t : Tab) (n : Int) : (plainX t n).2.2 = (plainP t n).isSome := by
  unfold plainX plainP
  cases rangeP t n with
  | none => rfl
  | some b => cases h : spanP t (subP t n).t <;> simp []
theorem plainX_some {t : Tab} {n : Int} {b a : Bd} (h : plainP t n = some (b, a)) : plainX t n = (b, a, true) := by
  unfold plainX plainP at *
  cases hr : rangeP t n with
  | none => rw [hr] at h; cases h
  | some c =>
    rw [hr] at h
    cases hs : spanP t (subP t n).t with
    | none => simp [hs] at h
    | some d => simp [hs] at h; simp [h]
theorem range_some {t : Tab} {n : Int} {b : Bd} (h : rangeP t n = some b) : ∃ m : Nat, n = (m : Int) ∧ m < t.subs.length ∧ b = ((subP t n).lo, (subP t n).hi) := by
  unfold rangeP at h
  split at h
  · rename_i hk
    injection h with h
    by_cases h1 : n < 0 ∨ (t.subs.length : Int) ≤ n
    · have : kindP t n = 0 := by simp [kindP, tyP, h1]
      rw [this] at hk
      simp at hk
    · exact ⟨n.toNat, by omega, by omega, h.symm⟩
  · cases h

set_option maxRecDepth 100000 in
set_option maxHeartbeats 1000000 in
theorem plain_any (w : World) (v : TabV) (t : Tab) (n : Int) (hT : TabIn w v t) : Calls Tryz.prog 71 #[.agg (v.cells t), .int .i64 n] w (RetV (pvV (plainX t n)) w) := by
  have HT := Lib.hid hT
  have HC := Lib.hid (fun w' (hk : Kept [] w w') => range_any w' v t n (hT.kept hk))
  have HS := Lib.hid (fun w' m (hk : Kept [] w w') => span_any w' v t m (hT.kept hk))
  unfold TabV.cells at HC HS
  unfold TabV.cells
  clear hT
  go_enter Tryz.func71, Tryz.ntmps71
  go_wp2_with fail
  refine (HC.out _ (by repeat (first | with_reducible exact HK.out | with_reducible exact Kept.refl _ _ | with_reducible refine Kept.prev ?_ | with_reducible refine Kept.alloc' ?_ _ | with_reducible refine Kept.drew' ?_ | with_reducible refine Kept.setB ?_ _ _ _ (by omega) | with_reducible refine Kept.row' ?_ _ _ (by omega) | with_reducible refine Kept.map' ?_ _ _ (by omega)))).mono ?_
  rintro e w1 ⟨rfl, hk1⟩
  haveI b2 : BoxIs w1 w.heap.size _ _ := BoxIs.kept (by infer_instance) hk1
  haveI b4 : BoxIs w1 (w.heap.size + 1) _ _ := BoxIs.kept (by infer_instance) hk1
  haveI b5 : BoxIs w1 (w.heap.size + 1 + 1) _ _ := BoxIs.kept (by infer_instance) hk1
  have HK : Hid (Kept [] w w1) := Kept.trans (by repeat (first | with_reducible exact HK.out | with_reducible exact Kept.refl _ _ | with_reducible refine Kept.prev ?_ | with_reducible refine Kept.alloc' ?_ _ | with_reducible refine Kept.drew' ?_ | with_reducible refine Kept.setB ?_ _ _ _ (by omega) | with_reducible refine Kept.row' ?_ _ _ (by omega) | with_reducible refine Kept.map' ?_ _ _ (by omega))) hk1
  clear hk1 HC
  have hz1 := HK.out.size
  cases hr : rangeP t n with
  | none =>
    have HW : Hid (plainX t n = ((0, 0), (0, 0), false)) := by rw [Hid, plainX, hr]
    clear hr
    unfold bd3V
    go_wp2_with fail
    go_region
    go_wp2_with fail
    rw [HW.out]
    exact bodyPost_v rfl (res3 Tryz.results71 (resC rfl inferInstance) (resC rfl inferInstance) (resT rfl)) (by repeat (first | with_reducible exact HK.out | with_reducible exact Kept.refl _ _ | with_reducible refine Kept.prev ?_ | with_reducible refine Kept.alloc' ?_ _ | with_reducible refine Kept.drew' ?_ | with_reducible refine Kept.setB ?_ _ _ _ (by omega) | with_reducible refine Kept.row' ?_ _ _ (by omega) | with_reducible refine Kept.map' ?_ _ _ (by omega)))
  | some b =>
    obtain ⟨m, rfl, hm, hb⟩ := range_some hr
    have HR := Lib.hid hr
    clear hr hb
    obtain ⟨s, bs, os, hs, ha, hat, _⟩ := tab_sub (HT.out.kept HK.out) hm
    have HU : Hid (subP t (m : Int) = s) := by simp [Hid, subP, List.getD_eq_getElem?_getD, hs]
    have hm2 : (m : Int) < (t.subs.length : Int) := by omega
    rw [ha] at b2 HS
    unfold bdV at HS
    clear hs ha HT
    unfold bd3V
    simp only [Option.getD_some, Option.isSome_some]
    go_wp2_with fail
    refine wp_region_head 12 0 (fun _ => .cells #[] 0) (by kernel_rfl) (by kernel_rfl) (fun i o h1 h2 => by omega) (fun _ _ _ _ _ h => h) ?_
    apply Exists.intro
    refine ⟨fun U hU hN => ?_, ?_⟩
    · simp only [List.take_succ_cons, List.take_zero]
      repeat (go_big_quiet_step (exact Calls.headV hU (HS.out _ _ (HK.out.trans (AfterU.prop _)))))
      refine wpQuiet_nil ?_
      exact rfl
    · simp only [List.drop_succ_cons, List.drop_zero, List.take_zero]
      intro w2 hk2 _
      have HW : Hid (plainX t (m : Int) = (b, (spanP t s.t).getD (0, 0), (spanP t s.t).isSome)) := by
        rw [Hid, plainX, HR.out, HU.out]
      haveI c4 : BoxIs w2 (w.heap.size + 1) _ _ := BoxIs.kept (by infer_instance) hk2
      haveI c5 : BoxIs w2 (w.heap.size + 1 + 1) _ _ := BoxIs.kept (by infer_instance) hk2
      have HK0 := HK
      clear HK
      have HK : Hid (Kept [] w w2) := HK0.out.trans hk2
      clear hk2 HK0 b2 b4 b5 hat HS HR HU
      go_wp2_with fail
      go_region
      go_wp2_with fail
      rw [HW.out]
      exact bodyPost_v rfl (res3 Tryz.results71 (resC rfl inferInstance) (resC rfl inferInstance) (resT rfl)) (by repeat (first | with_reducible exact HK.out | with_reducible exact Kept.refl _ _ | with_reducible refine Kept.prev ?_ | with_reducible refine Kept.alloc' ?_ _ | with_reducible refine Kept.drew' ?_ | with_reducible refine Kept.setB ?_ _ _ _ (by omega) | with_reducible refine Kept.row' ?_ _ _ (by omega) | with_reducible refine Kept.map' ?_ _ _ (by omega)))
end Go.Proofs.YtgdjhhfbpalkdaaGreat
