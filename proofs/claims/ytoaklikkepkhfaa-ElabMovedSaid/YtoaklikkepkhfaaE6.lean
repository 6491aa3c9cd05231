/- The comparison that Order sorts by. -/
import Derived.Test.YtoaklikkepkhfaaE5
namespace Go.Proofs.Ytoaklikkepkhfaa
open Go.RowKit Go.Lib Go.Sort

set_option maxHeartbeats 400000 in
theorem or_any (w : World) (b : Nat) (x y z : Int) (h0 : w.cell? ⟨b, 0, none⟩ = some (.int .i64 x)) (h1 : w.cell? ⟨b, 1, none⟩ = some (.int .i64 y)) (h2 : w.cell? ⟨b, 2, none⟩ = some (.int .i64 z)) :
    Calls Try.prog 25 #[.slice (some ⟨b, 0, none⟩) 3 3] w fun e w' => e = .returned (.int .i64 (or3 x y z)) ∧ w = w' := by
  have HO : Hid (or3 x y z = if x = 0 then (if y = 0 then z else y) else x) := rfl
  go_enter Try.func25, Try.ntmps25
  go_wp2_with fail
  go_loop [8] (fun i => ∃ k : Nat, k ≤ 3 ∧ i = .int .i64 k ∧ (0 < k → x = 0) ∧ (1 < k → y = 0) ∧ (2 < k → z = 0)) (fun i => 3 - (intOf i).toNat)
  case atStart => exact ⟨0, by omega, rfl, fun h => by omega, fun h => by omega, fun h => by omega⟩
  case round =>
    obtain ⟨k, hk, rfl, e0, e1, e2⟩ := hrel
    have E0 := Lib.hid e0
    have E1 := Lib.hid e1
    have E2 := Lib.hid e2
    clear e0 e1 e2
    rcases (show k = 0 ∨ k = 1 ∨ k = 2 ∨ k = 3 by omega) with rfl | rfl | rfl | rfl
    · cases hx : (x != 0)
      · have HX : Hid (x = 0) := by rw [Hid]; simpa using hx
        go_wp2_with fail
        go_round
        case rel => exact ⟨1, by omega, rfl, fun _ => HX.out, fun h => by omega, fun h => by omega⟩
        case measure => simp [intOf]
      · have HF : Hid (or3 x y z = x) := by rw [Hid, HO.out, if_neg (by simpa using hx)]
        go_wp2_with fail
        go_ret
        rw [HF.out]
        exact ⟨rfl, rfl⟩
    · cases hx : (y != 0)
      · have HX : Hid (y = 0) := by rw [Hid]; simpa using hx
        go_wp2_with fail
        go_round
        case rel => exact ⟨2, by omega, rfl, fun _ => E0.out (by omega), fun _ => HX.out, fun h => by omega⟩
        case measure => simp [intOf]
      · have HF : Hid (or3 x y z = y) := by rw [Hid, HO.out, if_pos (E0.out (by omega)), if_neg (by simpa using hx)]
        go_wp2_with fail
        go_ret
        rw [HF.out]
        exact ⟨rfl, rfl⟩
    · cases hx : (z != 0)
      · have HX : Hid (z = 0) := by rw [Hid]; simpa using hx
        go_wp2_with fail
        go_round
        case rel => exact ⟨3, by omega, rfl, fun _ => E0.out (by omega), fun _ => E1.out (by omega), fun _ => HX.out⟩
        case measure => simp [intOf]
      · have HF : Hid (or3 x y z = z) := by rw [Hid, HO.out, if_pos (E0.out (by omega)), if_pos (E1.out (by omega))]
        go_wp2_with fail
        go_ret
        rw [HF.out]
        exact ⟨rfl, rfl⟩
    · have HF : Hid (or3 x y z = 0) := by rw [Hid, HO.out, if_pos (E0.out (by omega)), if_pos (E1.out (by omega)), E2.out (by omega)]
      go_wp2_with fail
      go_ret
      rw [HF.out]
      exact ⟨rfl, rfl⟩

theorem alloc_grow (W : World) (o : Obj) : (W.alloc o).drew = grow (W.drewN 1) #[o] := by
  have h : W.heap.push o = W.heap ++ #[o] := by simp
  show World.mk _ _ _ _ _ = World.mk _ _ _ _ _
  congr 1
theorem nameOf_eq {l : List UnitV} {i : Nat} {x : UnitV} (h : l[i]? = some x) : nameOf l i = x.name.toList := by simp [nameOf, h]
theorem bodyOf_eq {l : List UnitV} {i : Nat} {x : UnitV} (h : l[i]? = some x) : bodyOf l i = x.body := by simp [bodyOf, h]

set_option maxRecDepth 100000 in
set_option maxHeartbeats 2000000 in
theorem cmp_gives (W : World) (bu ou uc : Nat) (l : List UnitV) (i j B2 B9 : Nat) (hr : ∀ (j : Nat) (r : UnitV), l[j]? = some r → W.rangeAt bu (ou + j * 4) r.cells) (hl : l.length ≤ 100000) (hi : i < l.length) (hj : j < l.length)
    (h2 : W.cell? ⟨B2, 0, none⟩ = some (.slice (some ⟨bu, ou, none⟩) l.length uc)) (h9 : W.cell? ⟨B9, 0, none⟩ = some (.func (.func 22) #[] #[])) :
    Calls Try.prog 24 #[.int .i64 i, .int .i64 j, .pointer (some ⟨B2, 0, none⟩), .pointer (some ⟨B9, 0, none⟩)] W fun e w' => e = .returned (.int .i64 (cmpF l i j)) ∧ ∃ q os', w' = grow (W.drewN q) os' := by
  obtain ⟨x, hx⟩ : ∃ x, l[i]? = some x := ⟨_, List.getElem?_eq_getElem hi⟩
  obtain ⟨y, hy⟩ : ∃ y, l[j]? = some y := ⟨_, List.getElem?_eq_getElem hj⟩
  obtain ⟨x0, x1, _, _⟩ := unit_cells (hr i x hx)
  obtain ⟨y0, y1, _, _⟩ := unit_cells (hr j y hy)
  have HF : Hid (cmpF l i j = or3 (cmpS x.name.toList y.name.toList) (cmpZ (rankI x.body) (rankI y.body)) (cmpZ i j)) := by
    rw [Hid, cmpF, nameOf_eq hx, nameOf_eq hy, bodyOf_eq hx, bodyOf_eq hy]
  have c1 : ∀ V, Calls Try.prog 26 #[.string x.name, .string y.name] V (fun e w' => e = .returned (.int .i64 (cmpS x.name.toList y.name.toList)) ∧ w' = V) := fun V => (cmpS_any V x.name y.name).mono fun _ _ h => ⟨h.1, h.2.symm⟩
  have c2 : ∀ V, Calls Try.prog 22 #[.bool x.body] V (fun e w' => e = .returned (.int .i64 (rankI x.body)) ∧ w' = V) := fun V => (rank_any V x.body).mono fun _ _ h => ⟨h.1, h.2.symm⟩
  have c3 : ∀ V, Calls Try.prog 22 #[.bool y.body] V (fun e w' => e = .returned (.int .i64 (rankI y.body)) ∧ w' = V) := fun V => (rank_any V y.body).mono fun _ _ h => ⟨h.1, h.2.symm⟩
  have c4 : ∀ V, Calls Try.prog 27 #[.int .i64 (rankI x.body), .int .i64 (rankI y.body)] V (fun e w' => e = .returned (.int .i64 (cmpZ (rankI x.body) (rankI y.body))) ∧ w' = V) := fun V => (cmpI_any V (rankI x.body) (rankI y.body)).mono fun _ _ h => ⟨h.1, h.2.symm⟩
  have c5 : ∀ V, Calls Try.prog 27 #[.int .i64 (i : Int), .int .i64 (j : Int)] V (fun e w' => e = .returned (.int .i64 (cmpZ i j)) ∧ w' = V) := fun V => (cmpI_any V i j).mono fun _ _ h => ⟨h.1, h.2.symm⟩
  have C1 := Lib.hid c1
  have C2 := Lib.hid c2
  have C3 := Lib.hid c3
  have C4 := Lib.hid c4
  have C5 := Lib.hid c5
  clear hr hx hy c1 c2 c3 c4 c5
  generalize cmpS x.name.toList y.name.toList = z1 at *
  generalize cmpZ (rankI x.body) (rankI y.body) = z2 at *
  generalize rankI x.body = r1 at *
  generalize rankI y.body = r2 at *
  generalize cmpZ i j = z3 at *
  go_enter Try.func24, Try.ntmps24
  go_wp2_with fail
  refine wp_region_still_tail 29 (by kernel_rfl) (by kernel_rfl) ?_
  simp only [List.take_succ_cons, List.take_zero, List.drop_succ_cons, List.drop_zero]
  repeat still_step
  still_call (C1.out _)
  repeat still_step
  still_call (C2.out _)
  repeat still_step
  still_call (C3.out _)
  repeat still_step
  still_call (C4.out _)
  repeat still_step
  still_call (C5.out _)
  repeat still_step
  refine wpStill_nil ?_
  change wpList _ _ _ _ _ W.drew
  go_wp2_with fail
  have HC : Hid ((W.alloc (.cells #[.int .i64 z1, .int .i64 z2, .int .i64 z3] 3)).drew.heap[W.heap.size]? = some (.cells #[.int .i64 z1, .int .i64 z2, .int .i64 z3] 3 (0, 0))) := heap_alloc_new W _
  refine (or_any _ W.heap.size z1 z2 z3 ((cell_of_row _ _ _ _ _ _ HC.out).trans rfl) ((cell_of_row _ _ _ _ _ _ HC.out).trans rfl) ((cell_of_row _ _ _ _ _ _ HC.out).trans rfl)).mono ?_
  rintro e w' ⟨rfl, hw⟩
  have HW := Lib.hid hw
  clear hw
  go_wp2_with fail
  go_ret
  exact ⟨by rw [HF.out]; rfl, 1, #[.cells #[.int .i64 z1, .int .i64 z2, .int .i64 z3] 3], by rw [← HW.out]; exact alloc_grow W _⟩
end Go.Proofs.Ytoaklikkepkhfaa
