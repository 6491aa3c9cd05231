/- fail, within, truth. -/
import Derived.Test.YtgdjhhfbpalkdaaK12
namespace Go.Proofs.Ytgdjhhfbpalkdaa
open Go.RowKit

/-- The panic of an expression without a value. -/
def failC : List PanicEntry := [{ v := .iface 144 (.agg #[]), recovered := false }]
def RetP (w : World) (e : Ending) (w' : World) : Prop := e = .panicked failC ∧ Kept [] w w'
/-- A value, or the panic. -/
def RetO (o : Option Int) (w : World) (e : Ending) (w' : World) : Prop := match o with | some v => RetV (.int .i64 v) w e w' | none => RetP w e w'

theorem bodyPost_p {P : Program} {fn : Func} {a : Act} {w w' : World} (hd : a.defers = []) (hk : Kept [] w w') : bodyPost P fn (RetO none w) (.panic failC) a w' := ⟨hd, rfl, hk⟩
theorem bodyPost_pp {P : Program} {fn : Func} {a : Act} {w w' : World} (hd : a.defers = []) (hk : Kept [] w w') : bodyPost P fn (RetP w) (.panic failC) a w' := ⟨hd, rfl, hk⟩
theorem bodyPost_o {P : Program} {fn : Func} {v : Int} {a : Act} {w w' : World} (hd : a.defers = []) (hr : (results fn a.tmps).run P w' = .ok (.int .i64 v) w') (hk : Kept [] w w') : bodyPost P fn (RetO (some v) w) .ret a w' :=
  bodyPost_ret hr hd ⟨rfl, hk⟩
set_option maxRecDepth 100000 in
set_option maxHeartbeats 1000000 in
theorem fail_any (w : World) : Calls Try.prog 51 #[] w (RetP w) := by
  go_enter Try.func51, Try.ntmps51
  go_wp2_with fail
  exact bodyPost_pp rfl (by repeat (first | with_reducible exact HK.out | with_reducible exact Kept.refl _ _ | with_reducible refine Kept.prev ?_ | with_reducible refine Kept.alloc' ?_ _ | with_reducible refine Kept.drew' ?_ | with_reducible refine Kept.setB ?_ _ _ _ (by omega) | with_reducible refine Kept.row' ?_ _ _ (by omega) | with_reducible refine Kept.map' ?_ _ _ (by omega)))

set_option maxRecDepth 100000 in
set_option maxHeartbeats 1000000 in
theorem within_any (w : World) (x : Int) (b : Bd) : Calls Try.prog 37 #[.int .i64 x, .agg #[.int .i64 b.1, .int .i64 b.2]] w (RetO (withinP x b) w) := by
  by_cases h1 : x < b.1
  · have HW : Hid (withinP x b = none) := by rw [Hid, withinP, if_pos (.inl h1)]
    go_enter Try.func37, Try.ntmps37
    go_wp2_with fail
    refine (fail_any _).mono ?_; rintro e w1 ⟨rfl, hk_w1⟩; haveI p_w1 : PrevWorld w1 _ := ⟨hk_w1⟩; have hz_w1 : w.heap.size ≤ w1.heap.size := Kept.size (by repeat (first | with_reducible exact HK.out | with_reducible exact Kept.refl _ _ | with_reducible refine Kept.prev ?_ | with_reducible refine Kept.alloc' ?_ _ | with_reducible refine Kept.drew' ?_ | with_reducible refine Kept.setB ?_ _ _ _ (by omega) | with_reducible refine Kept.row' ?_ _ _ (by omega) | with_reducible refine Kept.map' ?_ _ _ (by omega))); clear hk_w1
    show bodyPost _ _ (RetO (withinP x b) w) (.panic failC) _ w1
    rw [HW.out]
    exact bodyPost_p rfl (by repeat (first | with_reducible exact HK.out | with_reducible exact Kept.refl _ _ | with_reducible refine Kept.prev ?_ | with_reducible refine Kept.alloc' ?_ _ | with_reducible refine Kept.drew' ?_ | with_reducible refine Kept.setB ?_ _ _ _ (by omega) | with_reducible refine Kept.row' ?_ _ _ (by omega) | with_reducible refine Kept.map' ?_ _ _ (by omega)))
  by_cases h2 : b.2 < x
  · have HW : Hid (withinP x b = none) := by rw [Hid, withinP, if_pos (.inr h2)]
    go_enter Try.func37, Try.ntmps37
    go_wp2_with fail
    refine (fail_any _).mono ?_; rintro e w1 ⟨rfl, hk_w1⟩; haveI p_w1 : PrevWorld w1 _ := ⟨hk_w1⟩; have hz_w1 : w.heap.size ≤ w1.heap.size := Kept.size (by repeat (first | with_reducible exact HK.out | with_reducible exact Kept.refl _ _ | with_reducible refine Kept.prev ?_ | with_reducible refine Kept.alloc' ?_ _ | with_reducible refine Kept.drew' ?_ | with_reducible refine Kept.setB ?_ _ _ _ (by omega) | with_reducible refine Kept.row' ?_ _ _ (by omega) | with_reducible refine Kept.map' ?_ _ _ (by omega))); clear hk_w1
    show bodyPost _ _ (RetO (withinP x b) w) (.panic failC) _ w1
    rw [HW.out]
    exact bodyPost_p rfl (by repeat (first | with_reducible exact HK.out | with_reducible exact Kept.refl _ _ | with_reducible refine Kept.prev ?_ | with_reducible refine Kept.alloc' ?_ _ | with_reducible refine Kept.drew' ?_ | with_reducible refine Kept.setB ?_ _ _ _ (by omega) | with_reducible refine Kept.row' ?_ _ _ (by omega) | with_reducible refine Kept.map' ?_ _ _ (by omega)))
  have HW : Hid (withinP x b = some x) := by rw [Hid, withinP, if_neg (by omega)]
  have h3 : b.1 ≤ x := by omega
  have h4 : x ≤ b.2 := by omega
  go_enter Try.func37, Try.ntmps37
  go_wp2_with fail
  rw [HW.out]
  exact bodyPost_o rfl (res1 Try.results37 (resT rfl)) (by repeat (first | with_reducible exact HK.out | with_reducible exact Kept.refl _ _ | with_reducible refine Kept.prev ?_ | with_reducible refine Kept.alloc' ?_ _ | with_reducible refine Kept.drew' ?_ | with_reducible refine Kept.setB ?_ _ _ _ (by omega) | with_reducible refine Kept.row' ?_ _ _ (by omega) | with_reducible refine Kept.map' ?_ _ _ (by omega)))

theorem truth_any (w : World) (b : Bool) : Calls Try.prog 54 #[.bool b] w (RetV (.int .i64 (truthP b)) w) := by
  cases b
  all_goals
    go_enter Try.func54, Try.ntmps54
    go_wp2_with fail
    exact bodyPost_v rfl (res1 Try.results54 (resT rfl)) (by repeat (first | with_reducible exact HK.out | with_reducible exact Kept.refl _ _ | with_reducible refine Kept.prev ?_ | with_reducible refine Kept.alloc' ?_ _ | with_reducible refine Kept.drew' ?_ | with_reducible refine Kept.setB ?_ _ _ _ (by omega) | with_reducible refine Kept.row' ?_ _ _ (by omega) | with_reducible refine Kept.map' ?_ _ _ (by omega)))

theorem tmod_bd {a b : Int} (ha : -4611686018427387904 ≤ a ∧ a ≤ 4611686018427387904) : -4611686018427387904 ≤ a.tmod b ∧ a.tmod b ≤ 4611686018427387904 := by
  have h := Int.natAbs_tmod a b
  have h2 : a.natAbs % b.natAbs ≤ a.natAbs := Nat.mod_le _ _
  omega
set_option maxRecDepth 100000 in
set_option maxHeartbeats 1000000 in
theorem modulo_any (w : World) (a b : Int) (ha : -4611686018427387904 ≤ a ∧ a ≤ 4611686018427387904) (hb : -4611686018427387904 ≤ b ∧ b ≤ 4611686018427387904) (h0 : b ≠ 0) : Calls Try.prog 80 #[.int .i64 a, .int .i64 b] w (RetV (.int .i64 (modP a b)) w) := by
  obtain ⟨r1, r2⟩ := tmod_bd (b := b) ha
  have HV : Hid (modP a b = if a.tmod b ≠ 0 ∧ decide (a.tmod b < 0) ≠ decide (b < 0) then a.tmod b + b else a.tmod b) := rfl
  by_cases h1 : a.tmod b = 0
  · have HW : Hid (modP a b = 0) := by rw [Hid, HV.out, if_neg (by simp [h1]), h1]
    have h2 : (a.tmod b != 0) = false := by simp [h1]
    clear HV
    go_enter Try.func80, Try.ntmps80
    go_wp2_with fail
    rw [HW.out]
    exact bodyPost_v rfl (res1 Try.results80 (resT rfl)) (by repeat (first | with_reducible exact HK.out | with_reducible exact Kept.refl _ _ | with_reducible refine Kept.prev ?_ | with_reducible refine Kept.alloc' ?_ _ | with_reducible refine Kept.drew' ?_ | with_reducible refine Kept.setB ?_ _ _ _ (by omega) | with_reducible refine Kept.row' ?_ _ _ (by omega) | with_reducible refine Kept.map' ?_ _ _ (by omega)))
  have h2 : (a.tmod b != 0) = true := by simp [h1]
  by_cases h3 : a.tmod b < 0
  · by_cases h4 : b < 0
    · have HW : Hid (modP a b = a.tmod b) := by rw [Hid, HV.out, if_neg (by simp [h3, h4])]
      clear HV h1
      go_enter Try.func80, Try.ntmps80
      go_wp2_with fail
      rw [HW.out]
      exact bodyPost_v rfl (res1 Try.results80 (resT rfl)) (by repeat (first | with_reducible exact HK.out | with_reducible exact Kept.refl _ _ | with_reducible refine Kept.prev ?_ | with_reducible refine Kept.alloc' ?_ _ | with_reducible refine Kept.drew' ?_ | with_reducible refine Kept.setB ?_ _ _ _ (by omega) | with_reducible refine Kept.row' ?_ _ _ (by omega) | with_reducible refine Kept.map' ?_ _ _ (by omega)))
    · have HW : Hid (modP a b = a.tmod b + b) := by rw [Hid, HV.out, if_pos (by simp [h1, h3, h4])]
      clear HV h1
      go_enter Try.func80, Try.ntmps80
      go_wp2_with fail
      rw [HW.out]
      exact bodyPost_v rfl (res1 Try.results80 (resT rfl)) (by repeat (first | with_reducible exact HK.out | with_reducible exact Kept.refl _ _ | with_reducible refine Kept.prev ?_ | with_reducible refine Kept.alloc' ?_ _ | with_reducible refine Kept.drew' ?_ | with_reducible refine Kept.setB ?_ _ _ _ (by omega) | with_reducible refine Kept.row' ?_ _ _ (by omega) | with_reducible refine Kept.map' ?_ _ _ (by omega)))
  · by_cases h4 : b < 0
    · have HW : Hid (modP a b = a.tmod b + b) := by rw [Hid, HV.out, if_pos (by simp [h1, h3, h4])]
      clear HV h1
      go_enter Try.func80, Try.ntmps80
      go_wp2_with fail
      rw [HW.out]
      exact bodyPost_v rfl (res1 Try.results80 (resT rfl)) (by repeat (first | with_reducible exact HK.out | with_reducible exact Kept.refl _ _ | with_reducible refine Kept.prev ?_ | with_reducible refine Kept.alloc' ?_ _ | with_reducible refine Kept.drew' ?_ | with_reducible refine Kept.setB ?_ _ _ _ (by omega) | with_reducible refine Kept.row' ?_ _ _ (by omega) | with_reducible refine Kept.map' ?_ _ _ (by omega)))
    · have HW : Hid (modP a b = a.tmod b) := by rw [Hid, HV.out, if_neg (by simp [h3, h4])]
      clear HV h1
      go_enter Try.func80, Try.ntmps80
      go_wp2_with fail
      rw [HW.out]
      exact bodyPost_v rfl (res1 Try.results80 (resT rfl)) (by repeat (first | with_reducible exact HK.out | with_reducible exact Kept.refl _ _ | with_reducible refine Kept.prev ?_ | with_reducible refine Kept.alloc' ?_ _ | with_reducible refine Kept.drew' ?_ | with_reducible refine Kept.setB ?_ _ _ _ (by omega) | with_reducible refine Kept.row' ?_ _ _ (by omega) | with_reducible refine Kept.map' ?_ _ _ (by omega)))

def prodP (a b : Int) : Int := if b ≠ 0 ∧ absP a > (4611686018427387904 : Int).tdiv (absP b) then 4611686018427387905 else a * b
theorem prod_zero (a : Int) : prodP a 0 = 0 := by simp [prodP]
theorem abs_pos {p : Int} (h : 0 ≤ p) : absP p = p := by unfold absP; rw [if_neg (by omega)]
theorem abs_neg {p : Int} (h : 0 ≤ p) : absP (-p) = p := by unfold absP; split <;> omega
theorem prod_is {a b p q : Int} (ha : absP a = p) (hb : absP b = q) (hp : 0 ≤ p) (hq : 0 < q) : (4611686018427387904 / q < p → prodP a b = 4611686018427387905) ∧ (¬ 4611686018427387904 / q < p → prodP a b = a * b ∧ 0 ≤ p * q ∧ p * q ≤ 4611686018427387904) := by
  have hb0 : b ≠ 0 := fun h => by rw [h, abs_pos (Int.le_refl 0)] at hb; omega
  have ht : (4611686018427387904 : Int).tdiv q = 4611686018427387904 / q := Int.tdiv_eq_ediv_of_nonneg (by omega)
  unfold prodP
  rw [ha, hb, ht]
  constructor
  · intro h
    rw [if_pos ⟨hb0, h⟩]
  · intro h
    rw [if_neg (fun x => h x.2)]
    have h1 : p * q ≤ 4611686018427387904 / q * q := Int.mul_le_mul_of_nonneg_right (by omega) (by omega)
    have h2 := Int.ediv_mul_le 4611686018427387904 (b := q) (by omega)
    exact ⟨rfl, Int.mul_nonneg hp (by omega), by omega⟩
set_option maxRecDepth 100000 in
set_option maxHeartbeats 1000000 in
theorem prod_pp (w : World) (p q : Int) (hp : 0 ≤ p) (hp2 : p ≤ 4611686018427387904) (hq : 0 < q) (hq2 : q ≤ 4611686018427387904) : Calls Try.prog 77 #[.int .i64 p, .int .i64 q] w (RetV (.int .i64 (prodP p q)) w) := by
  have HP := prod_is (abs_pos hp) (abs_pos (by omega : 0 ≤ q)) hp hq
  have hn : (q != 0) = true := by simp; omega
  have hm : 0 ≤ p * q → p * q ≤ 4611686018427387904 → -4611686018427387904 ≤ p * q ∧ p * q ≤ 4611686018427387904 := fun h h' => by
    have e : p * q = p * q := rfl
    rw [e]
    omega
  by_cases h1 : 4611686018427387904 / q < p
  · have HW := Lib.hid (HP.1 h1)
    clear HP hm
    go_enter Try.func77, Try.ntmps77
    go_wp2_with fail
    rw [HW.out]
    exact bodyPost_v rfl (res1 Try.results77 (resT rfl)) (by repeat (first | with_reducible exact HK.out | with_reducible exact Kept.refl _ _ | with_reducible refine Kept.prev ?_ | with_reducible refine Kept.alloc' ?_ _ | with_reducible refine Kept.drew' ?_ | with_reducible refine Kept.setB ?_ _ _ _ (by omega) | with_reducible refine Kept.row' ?_ _ _ (by omega) | with_reducible refine Kept.map' ?_ _ _ (by omega)))
  · obtain ⟨e, m1, m2⟩ := HP.2 h1
    have HW := Lib.hid e
    obtain ⟨m3, m4⟩ := hm m1 m2
    clear HP e hm
    go_enter Try.func77, Try.ntmps77
    go_wp2_with fail
    rw [HW.out]
    exact bodyPost_v rfl (res1 Try.results77 (resT rfl)) (by repeat (first | with_reducible exact HK.out | with_reducible exact Kept.refl _ _ | with_reducible refine Kept.prev ?_ | with_reducible refine Kept.alloc' ?_ _ | with_reducible refine Kept.drew' ?_ | with_reducible refine Kept.setB ?_ _ _ _ (by omega) | with_reducible refine Kept.row' ?_ _ _ (by omega) | with_reducible refine Kept.map' ?_ _ _ (by omega)))
set_option maxRecDepth 100000 in
set_option maxHeartbeats 1000000 in
theorem prod_np (w : World) (p q : Int) (hp : 0 < p) (hp2 : p ≤ 4611686018427387904) (hq : 0 < q) (hq2 : q ≤ 4611686018427387904) : Calls Try.prog 77 #[.int .i64 (-p), .int .i64 q] w (RetV (.int .i64 (prodP (-p) q)) w) := by
  have HP := prod_is (abs_neg (Int.le_of_lt hp)) (abs_pos (by omega : 0 ≤ q)) (Int.le_of_lt hp) hq
  have hn : (q != 0) = true := by simp; omega
  have hm : 0 ≤ p * q → p * q ≤ 4611686018427387904 → -4611686018427387904 ≤ -p * q ∧ -p * q ≤ 4611686018427387904 := fun h h' => by
    have e : -p * q = -(p * q) := Int.neg_mul p q
    rw [e]
    omega
  by_cases h1 : 4611686018427387904 / q < p
  · have HW := Lib.hid (HP.1 h1)
    clear HP hm
    go_enter Try.func77, Try.ntmps77
    go_wp2_with fail
    rw [HW.out]
    exact bodyPost_v rfl (res1 Try.results77 (resT rfl)) (by repeat (first | with_reducible exact HK.out | with_reducible exact Kept.refl _ _ | with_reducible refine Kept.prev ?_ | with_reducible refine Kept.alloc' ?_ _ | with_reducible refine Kept.drew' ?_ | with_reducible refine Kept.setB ?_ _ _ _ (by omega) | with_reducible refine Kept.row' ?_ _ _ (by omega) | with_reducible refine Kept.map' ?_ _ _ (by omega)))
  · obtain ⟨e, m1, m2⟩ := HP.2 h1
    have HW := Lib.hid e
    obtain ⟨m3, m4⟩ := hm m1 m2
    clear HP e hm
    go_enter Try.func77, Try.ntmps77
    go_wp2_with fail
    rw [HW.out]
    exact bodyPost_v rfl (res1 Try.results77 (resT rfl)) (by repeat (first | with_reducible exact HK.out | with_reducible exact Kept.refl _ _ | with_reducible refine Kept.prev ?_ | with_reducible refine Kept.alloc' ?_ _ | with_reducible refine Kept.drew' ?_ | with_reducible refine Kept.setB ?_ _ _ _ (by omega) | with_reducible refine Kept.row' ?_ _ _ (by omega) | with_reducible refine Kept.map' ?_ _ _ (by omega)))
set_option maxRecDepth 100000 in
set_option maxHeartbeats 1000000 in
theorem prod_pn (w : World) (p q : Int) (hp : 0 ≤ p) (hp2 : p ≤ 4611686018427387904) (hq : 0 < q) (hq2 : q ≤ 4611686018427387904) : Calls Try.prog 77 #[.int .i64 p, .int .i64 (-q)] w (RetV (.int .i64 (prodP p (-q))) w) := by
  have HP := prod_is (abs_pos hp) (abs_neg (by omega : 0 ≤ q)) hp hq
  have hn : (-q != 0) = true := by simp; omega
  have hm : 0 ≤ p * q → p * q ≤ 4611686018427387904 → -4611686018427387904 ≤ p * -q ∧ p * -q ≤ 4611686018427387904 := fun h h' => by
    have e : p * -q = -(p * q) := Int.mul_neg p q
    rw [e]
    omega
  by_cases h1 : 4611686018427387904 / q < p
  · have HW := Lib.hid (HP.1 h1)
    clear HP hm
    go_enter Try.func77, Try.ntmps77
    go_wp2_with fail
    rw [HW.out]
    exact bodyPost_v rfl (res1 Try.results77 (resT rfl)) (by repeat (first | with_reducible exact HK.out | with_reducible exact Kept.refl _ _ | with_reducible refine Kept.prev ?_ | with_reducible refine Kept.alloc' ?_ _ | with_reducible refine Kept.drew' ?_ | with_reducible refine Kept.setB ?_ _ _ _ (by omega) | with_reducible refine Kept.row' ?_ _ _ (by omega) | with_reducible refine Kept.map' ?_ _ _ (by omega)))
  · obtain ⟨e, m1, m2⟩ := HP.2 h1
    have HW := Lib.hid e
    obtain ⟨m3, m4⟩ := hm m1 m2
    clear HP e hm
    go_enter Try.func77, Try.ntmps77
    go_wp2_with fail
    rw [HW.out]
    exact bodyPost_v rfl (res1 Try.results77 (resT rfl)) (by repeat (first | with_reducible exact HK.out | with_reducible exact Kept.refl _ _ | with_reducible refine Kept.prev ?_ | with_reducible refine Kept.alloc' ?_ _ | with_reducible refine Kept.drew' ?_ | with_reducible refine Kept.setB ?_ _ _ _ (by omega) | with_reducible refine Kept.row' ?_ _ _ (by omega) | with_reducible refine Kept.map' ?_ _ _ (by omega)))
set_option maxRecDepth 100000 in
set_option maxHeartbeats 1000000 in
theorem prod_nn (w : World) (p q : Int) (hp : 0 < p) (hp2 : p ≤ 4611686018427387904) (hq : 0 < q) (hq2 : q ≤ 4611686018427387904) : Calls Try.prog 77 #[.int .i64 (-p), .int .i64 (-q)] w (RetV (.int .i64 (prodP (-p) (-q))) w) := by
  have HP := prod_is (abs_neg (Int.le_of_lt hp)) (abs_neg (by omega : 0 ≤ q)) (Int.le_of_lt hp) hq
  have hn : (-q != 0) = true := by simp; omega
  have hm : 0 ≤ p * q → p * q ≤ 4611686018427387904 → -4611686018427387904 ≤ -p * -q ∧ -p * -q ≤ 4611686018427387904 := fun h h' => by
    have e : -p * -q = p * q := Int.neg_mul_neg p q
    rw [e]
    omega
  by_cases h1 : 4611686018427387904 / q < p
  · have HW := Lib.hid (HP.1 h1)
    clear HP hm
    go_enter Try.func77, Try.ntmps77
    go_wp2_with fail
    rw [HW.out]
    exact bodyPost_v rfl (res1 Try.results77 (resT rfl)) (by repeat (first | with_reducible exact HK.out | with_reducible exact Kept.refl _ _ | with_reducible refine Kept.prev ?_ | with_reducible refine Kept.alloc' ?_ _ | with_reducible refine Kept.drew' ?_ | with_reducible refine Kept.setB ?_ _ _ _ (by omega) | with_reducible refine Kept.row' ?_ _ _ (by omega) | with_reducible refine Kept.map' ?_ _ _ (by omega)))
  · obtain ⟨e, m1, m2⟩ := HP.2 h1
    have HW := Lib.hid e
    obtain ⟨m3, m4⟩ := hm m1 m2
    clear HP e hm
    go_enter Try.func77, Try.ntmps77
    go_wp2_with fail
    rw [HW.out]
    exact bodyPost_v rfl (res1 Try.results77 (resT rfl)) (by repeat (first | with_reducible exact HK.out | with_reducible exact Kept.refl _ _ | with_reducible refine Kept.prev ?_ | with_reducible refine Kept.alloc' ?_ _ | with_reducible refine Kept.drew' ?_ | with_reducible refine Kept.setB ?_ _ _ _ (by omega) | with_reducible refine Kept.row' ?_ _ _ (by omega) | with_reducible refine Kept.map' ?_ _ _ (by omega)))
set_option maxRecDepth 100000 in
set_option maxHeartbeats 1000000 in
theorem prod_z (w : World) (p : Int) : Calls Try.prog 77 #[.int .i64 p, .int .i64 0] w (RetV (.int .i64 (prodP p 0)) w) := by
  have HW := Lib.hid (prod_zero p)
  go_enter Try.func77, Try.ntmps77
  go_wp2_with fail
  rw [HW.out]
  exact bodyPost_v rfl (res1 Try.results77 (resT (by simp))) (by repeat (first | with_reducible exact HK.out | with_reducible exact Kept.refl _ _ | with_reducible refine Kept.prev ?_ | with_reducible refine Kept.alloc' ?_ _ | with_reducible refine Kept.drew' ?_ | with_reducible refine Kept.setB ?_ _ _ _ (by omega) | with_reducible refine Kept.row' ?_ _ _ (by omega) | with_reducible refine Kept.map' ?_ _ _ (by omega)))
theorem product_any (w : World) (a b : Int) (ha : -4611686018427387904 ≤ a ∧ a ≤ 4611686018427387904) (hb : -4611686018427387904 ≤ b ∧ b ≤ 4611686018427387904) : Calls Try.prog 77 #[.int .i64 a, .int .i64 b] w (RetV (.int .i64 (prodP a b)) w) := by
  by_cases h0 : b = 0
  · subst h0; exact prod_z w a
  by_cases h1 : a < 0
  · obtain ⟨p, rfl⟩ : ∃ p, a = -p := ⟨-a, by omega⟩
    by_cases h2 : b < 0
    · obtain ⟨q, rfl⟩ : ∃ q, b = -q := ⟨-b, by omega⟩
      exact prod_nn w p q (by omega) (by omega) (by omega) (by omega)
    · exact prod_np w p b (by omega) (by omega) (by omega) (by omega)
  · by_cases h2 : b < 0
    · obtain ⟨q, rfl⟩ : ∃ q, b = -q := ⟨-b, by omega⟩
      exact prod_pn w a q (by omega) (by omega) (by omega) (by omega)
    · exact prod_pp w a b (by omega) (by omega) (by omega) (by omega)
end Go.Proofs.Ytgdjhhfbpalkdaa
