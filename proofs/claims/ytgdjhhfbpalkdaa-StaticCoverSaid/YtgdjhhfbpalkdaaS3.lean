/- span. table.at of subtypes and of types. row, bounds, table.Range. -/
import Derived.Test.YtgdjhhfbpalkdaaK8
import Derived.BigRegion
namespace Go.Proofs.Ytgdjhhfbpalkdaa
open Go.RowKit

set_option maxRecDepth 100000 in
set_option maxHeartbeats 1000000 in
theorem span_any (w : World) (v : TabV) (t : Tab) (ty : Int) (hT : TabIn w v t) : Calls Try.prog 36 #[.agg (v.cells t), .int .i64 ty] w (RetV (bdV (spanP t ty)) w) := by
  have HT := Lib.hid hT
  have q1 := hT.tl
  clear hT
  unfold TabV.cells
  by_cases h0 : ty < 0
  · have HR : Hid (spanP t ty = none) := span_out (.inl h0)
    go_enter Try.func36, Try.ntmps36
    go_wp2_with fail
    rw [HR.out]
    exact bodyPost_v rfl (res2 Try.results36 (resC rfl inferInstance) (resT rfl)) (by repeat (first | with_reducible exact HK.out | with_reducible exact Kept.refl _ _ | with_reducible refine Kept.prev ?_ | with_reducible refine Kept.alloc' ?_ _ | with_reducible refine Kept.drew' ?_ | with_reducible refine Kept.setB ?_ _ _ _ (by omega) | with_reducible refine Kept.row' ?_ _ _ (by omega) | with_reducible refine Kept.map' ?_ _ _ (by omega)))
  obtain ⟨n, rfl⟩ := Int.eq_ofNat_of_zero_le (by omega : 0 ≤ ty)
  by_cases h1 : t.types.length ≤ n
  · have HR : Hid (spanP t (n : Int) = none) := span_out (.inr (by omega))
    have h2 : (t.types.length : Int) ≤ (n : Int) := by omega
    go_enter Try.func36, Try.ntmps36
    go_wp2_with fail
    rw [HR.out]
    exact bodyPost_v rfl (res2 Try.results36 (resC rfl inferInstance) (resT rfl)) (by repeat (first | with_reducible exact HK.out | with_reducible exact Kept.refl _ _ | with_reducible refine Kept.prev ?_ | with_reducible refine Kept.alloc' ?_ _ | with_reducible refine Kept.drew' ?_ | with_reducible refine Kept.setB ?_ _ _ _ (by omega) | with_reducible refine Kept.row' ?_ _ _ (by omega) | with_reducible refine Kept.map' ?_ _ _ (by omega)))
  obtain ⟨y, b, o, hy, ha, hat, hl⟩ := tab_ty HT.out (by omega : n < t.types.length)
  have HS := Lib.hid (span_at hy)
  have h2 : (n : Int) < (t.types.length : Int) := by omega
  rw [ha]
  clear hy ha
  by_cases k1 : y.kind = 1
  · have HR : Hid (spanP t (n : Int) = some (-4611686018427387904, 4611686018427387904)) := by rw [Hid, HS.out]; simp [k1]
    go_enter Try.func36, Try.ntmps36
    go_wp2_with fail
    rw [HR.out]
    exact bodyPost_v rfl (res2 Try.results36 (resC rfl inferInstance) (resT rfl)) (by repeat (first | with_reducible exact HK.out | with_reducible exact Kept.refl _ _ | with_reducible refine Kept.prev ?_ | with_reducible refine Kept.alloc' ?_ _ | with_reducible refine Kept.drew' ?_ | with_reducible refine Kept.setB ?_ _ _ _ (by omega) | with_reducible refine Kept.row' ?_ _ _ (by omega) | with_reducible refine Kept.map' ?_ _ _ (by omega)))
  by_cases k2 : y.formal = 0
  rotate_left
  · have HR : Hid (spanP t (n : Int) = none) := by rw [Hid, HS.out]; simp [k1, k2]
    go_enter Try.func36, Try.ntmps36
    go_wp2_with fail
    rw [HR.out]
    exact bodyPost_v rfl (res2 Try.results36 (resC rfl inferInstance) (resT rfl)) (by repeat (first | with_reducible exact HK.out | with_reducible exact Kept.refl _ _ | with_reducible refine Kept.prev ?_ | with_reducible refine Kept.alloc' ?_ _ | with_reducible refine Kept.drew' ?_ | with_reducible refine Kept.setB ?_ _ _ _ (by omega) | with_reducible refine Kept.row' ?_ _ _ (by omega) | with_reducible refine Kept.map' ?_ _ _ (by omega)))
  by_cases k3 : y.kind = 2
  · have HR : Hid (spanP t (n : Int) = some (-2147483648, 2147483647)) := by rw [Hid, HS.out]; simp [k2, k3]
    go_enter Try.func36, Try.ntmps36
    go_wp2_with fail
    rw [HR.out]
    exact bodyPost_v rfl (res2 Try.results36 (resC rfl inferInstance) (resT rfl)) (by repeat (first | with_reducible exact HK.out | with_reducible exact Kept.refl _ _ | with_reducible refine Kept.prev ?_ | with_reducible refine Kept.alloc' ?_ _ | with_reducible refine Kept.drew' ?_ | with_reducible refine Kept.setB ?_ _ _ _ (by omega) | with_reducible refine Kept.row' ?_ _ _ (by omega) | with_reducible refine Kept.map' ?_ _ _ (by omega)))
  by_cases k4 : y.kind = 3
  · have HR : Hid (spanP t (n : Int) = some (0, (y.lits.length : Int) - 1)) := by rw [Hid, HS.out]; simp [k2, k4]
    go_enter Try.func36, Try.ntmps36
    go_wp2_with fail
    rw [HR.out]
    exact bodyPost_v rfl (res2 Try.results36 (resC rfl inferInstance) (resT rfl)) (by repeat (first | with_reducible exact HK.out | with_reducible exact Kept.refl _ _ | with_reducible refine Kept.prev ?_ | with_reducible refine Kept.alloc' ?_ _ | with_reducible refine Kept.drew' ?_ | with_reducible refine Kept.setB ?_ _ _ _ (by omega) | with_reducible refine Kept.row' ?_ _ _ (by omega) | with_reducible refine Kept.map' ?_ _ _ (by omega)))
  have HR : Hid (spanP t (n : Int) = none) := by rw [Hid, HS.out]; simp [k1, k2, k3, k4]
  go_enter Try.func36, Try.ntmps36
  go_wp2_with fail
  rw [HR.out]
  exact bodyPost_v rfl (res2 Try.results36 (resC rfl inferInstance) (resT rfl)) (by repeat (first | with_reducible exact HK.out | with_reducible exact Kept.refl _ _ | with_reducible refine Kept.prev ?_ | with_reducible refine Kept.alloc' ?_ _ | with_reducible refine Kept.drew' ?_ | with_reducible refine Kept.setB ?_ _ _ _ (by omega) | with_reducible refine Kept.row' ?_ _ _ (by omega) | with_reducible refine Kept.map' ?_ _ _ (by omega)))
end Go.Proofs.Ytgdjhhfbpalkdaa
namespace Go.Proofs.Ytgdjhhfbpalkdaa
open Go.RowKit

set_option maxRecDepth 100000 in
set_option maxHeartbeats 1000000 in
theorem atSub_any (w : World) (v : TabV) (t : Tab) (i : Int) (hT : TabIn w v t) : Calls Try.prog 96 #[.slice v.sa t.subs.length v.sc, .int .i64 i] w (RetV (subV (subO t i)) w) := by
  have HT := Lib.hid hT
  have q1 := hT.sl
  clear hT
  by_cases h0 : i < 0
  · have HR : Hid (subO t i = none) := subO_out (.inl h0)
    go_enter Try.func96, Try.ntmps96
    go_wp2_with fail
    rw [HR.out]
    exact bodyPost_v rfl (res2 Try.results96 (resC rfl inferInstance) (resT rfl)) (by repeat (first | with_reducible exact HK.out | with_reducible exact Kept.refl _ _ | with_reducible refine Kept.prev ?_ | with_reducible refine Kept.alloc' ?_ _ | with_reducible refine Kept.drew' ?_ | with_reducible refine Kept.setB ?_ _ _ _ (by omega) | with_reducible refine Kept.row' ?_ _ _ (by omega) | with_reducible refine Kept.map' ?_ _ _ (by omega)))
  obtain ⟨n, rfl⟩ := Int.eq_ofNat_of_zero_le (by omega : 0 ≤ i)
  by_cases h1 : t.subs.length ≤ n
  · have HR : Hid (subO t (n : Int) = none) := subO_out (.inr (by omega))
    have h2 : (t.subs.length : Int) ≤ (n : Int) := by omega
    go_enter Try.func96, Try.ntmps96
    go_wp2_with fail
    rw [HR.out]
    exact bodyPost_v rfl (res2 Try.results96 (resC rfl inferInstance) (resT rfl)) (by repeat (first | with_reducible exact HK.out | with_reducible exact Kept.refl _ _ | with_reducible refine Kept.prev ?_ | with_reducible refine Kept.alloc' ?_ _ | with_reducible refine Kept.drew' ?_ | with_reducible refine Kept.setB ?_ _ _ _ (by omega) | with_reducible refine Kept.row' ?_ _ _ (by omega) | with_reducible refine Kept.map' ?_ _ _ (by omega)))
  obtain ⟨s, b, o, hs, ha, hat, _⟩ := tab_sub HT.out (by omega : n < t.subs.length)
  have HR := Lib.hid (subO_at hs)
  have h2 : (n : Int) < (t.subs.length : Int) := by omega
  rw [ha]
  clear hs ha
  go_enter Try.func96, Try.ntmps96
  go_wp2_with fail
  rw [HR.out]
  exact bodyPost_v rfl (res2 Try.results96 (resC rfl inferInstance) (resT rfl)) (by repeat (first | with_reducible exact HK.out | with_reducible exact Kept.refl _ _ | with_reducible refine Kept.prev ?_ | with_reducible refine Kept.alloc' ?_ _ | with_reducible refine Kept.drew' ?_ | with_reducible refine Kept.setB ?_ _ _ _ (by omega) | with_reducible refine Kept.row' ?_ _ _ (by omega) | with_reducible refine Kept.map' ?_ _ _ (by omega)))

set_option maxRecDepth 100000 in
set_option maxHeartbeats 1000000 in
theorem atTy_any (w : World) (v : TabV) (t : Tab) (i : Int) (hT : TabIn w v t) : Calls Try.prog 97 #[.slice v.ta t.types.length v.tc, .int .i64 i] w (RetV (tyV (tyO t i)) w) := by
  have HT := Lib.hid hT
  have q1 := hT.tl
  clear hT
  by_cases h0 : i < 0
  · have HR : Hid (tyO t i = none) := tyO_out (.inl h0)
    go_enter Try.func97, Try.ntmps97
    go_wp2_with fail
    rw [HR.out]
    exact bodyPost_v rfl (res2 Try.results97 (resC rfl inferInstance) (resT rfl)) (by repeat (first | with_reducible exact HK.out | with_reducible exact Kept.refl _ _ | with_reducible refine Kept.prev ?_ | with_reducible refine Kept.alloc' ?_ _ | with_reducible refine Kept.drew' ?_ | with_reducible refine Kept.setB ?_ _ _ _ (by omega) | with_reducible refine Kept.row' ?_ _ _ (by omega) | with_reducible refine Kept.map' ?_ _ _ (by omega)))
  obtain ⟨n, rfl⟩ := Int.eq_ofNat_of_zero_le (by omega : 0 ≤ i)
  by_cases h1 : t.types.length ≤ n
  · have HR : Hid (tyO t (n : Int) = none) := tyO_out (.inr (by omega))
    have h2 : (t.types.length : Int) ≤ (n : Int) := by omega
    go_enter Try.func97, Try.ntmps97
    go_wp2_with fail
    rw [HR.out]
    exact bodyPost_v rfl (res2 Try.results97 (resC rfl inferInstance) (resT rfl)) (by repeat (first | with_reducible exact HK.out | with_reducible exact Kept.refl _ _ | with_reducible refine Kept.prev ?_ | with_reducible refine Kept.alloc' ?_ _ | with_reducible refine Kept.drew' ?_ | with_reducible refine Kept.setB ?_ _ _ _ (by omega) | with_reducible refine Kept.row' ?_ _ _ (by omega) | with_reducible refine Kept.map' ?_ _ _ (by omega)))
  obtain ⟨s, b, o, hs, ha, hat, _⟩ := tab_ty HT.out (by omega : n < t.types.length)
  have HR := Lib.hid (tyO_at hs)
  have h2 : (n : Int) < (t.types.length : Int) := by omega
  rw [ha]
  clear hs ha
  go_enter Try.func97, Try.ntmps97
  go_wp2_with fail
  rw [HR.out]
  exact bodyPost_v rfl (res2 Try.results97 (resC rfl inferInstance) (resT rfl)) (by repeat (first | with_reducible exact HK.out | with_reducible exact Kept.refl _ _ | with_reducible refine Kept.prev ?_ | with_reducible refine Kept.alloc' ?_ _ | with_reducible refine Kept.drew' ?_ | with_reducible refine Kept.setB ?_ _ _ _ (by omega) | with_reducible refine Kept.row' ?_ _ _ (by omega) | with_reducible refine Kept.map' ?_ _ _ (by omega)))
end Go.Proofs.Ytgdjhhfbpalkdaa
namespace Go.Proofs.Ytgdjhhfbpalkdaa
open Go.RowKit

def rowO (t : Tab) (n : Int) : TyV × SubtV × Bool :=
  match subO t n with
  | none => (zeroT, zeroS, false)
  | some s => match tyO t s.t with
    | none => (zeroT, s, false)
    | some y => (y, s, true)
def rowV (r : TyV × SubtV × Bool) : Value := .tuple #[.agg r.1.cells.toArray, subA r.2.1, .bool r.2.2]

set_option maxRecDepth 100000 in
set_option maxHeartbeats 1000000 in
theorem row_any (w : World) (v : TabV) (t : Tab) (n : Int) (hT : TabIn w v t) : Calls Try.prog 72 #[.agg (v.cells t), .int .i64 n] w (RetV (rowV (rowO t n)) w) := by
  have HT := Lib.hid hT
  have HC := Lib.hid (fun w' (hk : Kept [] w w') => atSub_any w' v t n (hT.kept hk))
  have HC2 := Lib.hid (fun w' m (hk : Kept [] w w') => atTy_any w' v t m (hT.kept hk))
  clear hT
  have HV : Hid (rowO t n = match subO t n with | none => (zeroT, zeroS, false) | some s => match tyO t s.t with | none => (zeroT, s, false) | some y => (y, s, true)) := rfl
  unfold TabV.cells
  go_enter Try.func72, Try.ntmps72
  go_wp2_with fail
  refine (HC.out _ (by repeat (first | exact Kept.refl _ _ | exact Kept.alloc _ _ _ | apply Kept.alloc'))).mono ?_
  rintro e w1 ⟨rfl, hk1⟩
  haveI b2 : BoxIs w1 w.heap.size _ _ := BoxIs.kept (by infer_instance) hk1
  haveI b4 : BoxIs w1 (w.heap.size + 1) _ _ := BoxIs.kept (by infer_instance) hk1
  haveI b5 : BoxIs w1 (w.heap.size + 1 + 1) _ _ := BoxIs.kept (by infer_instance) hk1
  have HK : Hid (Kept [] w w1) := Kept.trans (by repeat (first | exact Kept.refl _ _ | exact Kept.alloc _ _ _ | apply Kept.alloc')) hk1
  clear hk1 HC
  cases hs : subO t n with
  | none =>
    rw [hs] at HV
    clear hs
    unfold subV subA zeroS
    go_wp2_with fail
    go_region
    go_wp2_with fail
    rw [HV.out]
    exact bodyPost_v rfl (res3 Try.results72 (resC rfl inferInstance) (resC rfl inferInstance) (resT rfl)) (by repeat (first | with_reducible exact HK.out | with_reducible exact Kept.refl _ _ | with_reducible refine Kept.prev ?_ | with_reducible refine Kept.alloc' ?_ _ | with_reducible refine Kept.drew' ?_ | with_reducible refine Kept.setB ?_ _ _ _ (by omega) | with_reducible refine Kept.row' ?_ _ _ (by omega) | with_reducible refine Kept.map' ?_ _ _ (by omega)))
  | some s =>
    rw [hs] at HV
    clear hs
    unfold subV subA
    simp only [Option.getD_some, Option.isSome_some]
    go_wp2_with fail
    refine (HC2.out _ _ (by repeat (first | with_reducible exact HK.out | with_reducible exact Kept.refl _ _ | with_reducible refine Kept.prev ?_ | with_reducible refine Kept.alloc' ?_ _ | with_reducible refine Kept.drew' ?_ | with_reducible refine Kept.setB ?_ _ _ _ (by omega) | with_reducible refine Kept.row' ?_ _ _ (by omega) | with_reducible refine Kept.map' ?_ _ _ (by omega)))).mono ?_
    rintro e w2 ⟨rfl, hk2⟩
    haveI c4 : BoxIs w2 (w.heap.size + 1) _ _ := BoxIs.kept (by infer_instance) hk2
    haveI c5 : BoxIs w2 (w.heap.size + 1 + 1) _ _ := BoxIs.kept (by infer_instance) hk2
    haveI c7 : BoxIs w2 w1.heap.size _ _ := BoxIs.kept (by infer_instance) hk2
    have hz1 := HK.out.size
    have HK0 := HK
    clear HK
    have HK : Hid (Kept [] w w2) := Kept.trans (by exact HK0.out.alloc' _) hk2
    haveI l4 : LtB (w.heap.size + 1) w1.heap.size := inferInstance
    haveI l5 : LtB (w.heap.size + 1 + 1) w1.heap.size := inferInstance
    clear hk2 HC2 b2 b4 b5 HT
    have HW : Hid (rowV (rowO t n) = .tuple #[.agg ((tyO t s.t).getD zeroT).cells.toArray, subA s, .bool (tyO t s.t).isSome]) := by
      rw [Hid, HV.out]
      cases tyO t s.t <;> rfl
    unfold tyV
    generalize (tyO t s.t).getD zeroT = y at *
    generalize (tyO t s.t).isSome = ok at *
    go_wp2_with fail
    go_region
    go_wp2_with fail
    rw [HW.out]
    exact bodyPost_v rfl (res3 Try.results72 (resC rfl inferInstance) (resC rfl inferInstance) (resT rfl)) (by repeat (first | with_reducible exact HK.out | with_reducible exact Kept.refl _ _ | with_reducible refine Kept.prev ?_ | with_reducible refine Kept.alloc' ?_ _ | with_reducible refine Kept.drew' ?_ | with_reducible refine Kept.setB ?_ _ _ _ (by omega) | with_reducible refine Kept.row' ?_ _ _ (by omega) | with_reducible refine Kept.map' ?_ _ _ (by omega)))
end Go.Proofs.Ytgdjhhfbpalkdaa
