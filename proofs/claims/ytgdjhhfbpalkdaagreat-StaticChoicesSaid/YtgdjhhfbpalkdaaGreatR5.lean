/- The reference: truth, size, within, two. -/
import Derived.Test.YtgdjhhfbpalkdaaGreatR1
namespace Go.Proofs.YtgdjhhfbpalkdaaGreat
open Go.RowKit
def ovV (o : Option Int) : Value := .tuple #[.int .i64 (o.getD 0), .bool o.isSome]
theorem ov_some (z : Int) : ovV (some z) = .tuple #[.int .i64 z, .bool true] := rfl
theorem ov_none : ovV none = .tuple #[.int .i64 0, .bool false] := rfl
set_option maxRecDepth 100000 in
theorem rtruth_any (w : World) (b : Bool) : Calls Tryz.prog 79 #[.bool b] w (RetV (.int .i64 (truthP b)) w) := by
  cases b
  all_goals
    go_enter Tryz.func79, Tryz.ntmps79
    go_wp2_with fail
    exact bodyPost_v rfl (res1 Tryz.results79 (resT rfl)) (by repeat (first | with_reducible exact HK.out | with_reducible exact Kept.refl _ _ | with_reducible refine Kept.prev ?_ | with_reducible refine Kept.alloc' ?_ _ | with_reducible refine Kept.drew' ?_ | with_reducible refine Kept.setB ?_ _ _ _ (by omega) | with_reducible refine Kept.row' ?_ _ _ (by omega) | with_reducible refine Kept.map' ?_ _ _ (by omega)))
set_option maxRecDepth 100000 in
theorem rsize_any (w : World) (a : Int) (ha : InB a) : Calls Tryz.prog 78 #[.int .i64 a] w (RetV (.int .i64 (absP a)) w) := by
  obtain ⟨a1, a2⟩ := ha
  by_cases h : a < 0
  · have HW : Hid (absP a = -a) := by rw [Hid, absP, if_pos h]
    go_enter Tryz.func78, Tryz.ntmps78
    go_wp2_with fail
    rw [HW.out]
    exact bodyPost_v rfl (res1 Tryz.results78 (resT rfl)) (by repeat (first | with_reducible exact HK.out | with_reducible exact Kept.refl _ _ | with_reducible refine Kept.prev ?_ | with_reducible refine Kept.alloc' ?_ _ | with_reducible refine Kept.drew' ?_ | with_reducible refine Kept.setB ?_ _ _ _ (by omega) | with_reducible refine Kept.row' ?_ _ _ (by omega) | with_reducible refine Kept.map' ?_ _ _ (by omega)))
  · have HW : Hid (absP a = a) := by rw [Hid, absP, if_neg h]
    have h2 : 0 ≤ a := by omega
    go_enter Tryz.func78, Tryz.ntmps78
    go_wp2_with fail
    rw [HW.out]
    exact bodyPost_v rfl (res1 Tryz.results78 (resT rfl)) (by repeat (first | with_reducible exact HK.out | with_reducible exact Kept.refl _ _ | with_reducible refine Kept.prev ?_ | with_reducible refine Kept.alloc' ?_ _ | with_reducible refine Kept.drew' ?_ | with_reducible refine Kept.setB ?_ _ _ _ (by omega) | with_reducible refine Kept.row' ?_ _ _ (by omega) | with_reducible refine Kept.map' ?_ _ _ (by omega)))
set_option maxRecDepth 100000 in
theorem rwithin_any (w : World) (x lo hi : Int) : Calls Tryz.prog 50 #[.int .i64 x, .int .i64 lo, .int .i64 hi] w (RetV (ovV (withinP x (lo, hi))) w) := by
  have HV : Hid (withinP x (lo, hi) = if x < lo ∨ hi < x then none else some x) := rfl
  by_cases h1 : x < lo
  · have HW : Hid (withinP x (lo, hi) = none) := by rw [Hid, HV.out, if_pos (.inl h1)]
    clear HV
    go_enter Tryz.func50, Tryz.ntmps50
    go_wp2_with fail
    rw [HW.out]
    exact bodyPost_v rfl (res2 Tryz.results50 (resT rfl) (resT rfl)) (by repeat (first | with_reducible exact HK.out | with_reducible exact Kept.refl _ _ | with_reducible refine Kept.prev ?_ | with_reducible refine Kept.alloc' ?_ _ | with_reducible refine Kept.drew' ?_ | with_reducible refine Kept.setB ?_ _ _ _ (by omega) | with_reducible refine Kept.row' ?_ _ _ (by omega) | with_reducible refine Kept.map' ?_ _ _ (by omega)))
  have h1' : decide (x < lo) = false := by simp; omega
  by_cases h2 : hi < x
  · have HW : Hid (withinP x (lo, hi) = none) := by rw [Hid, HV.out, if_pos (.inr h2)]
    clear h1
    clear HV
    go_enter Tryz.func50, Tryz.ntmps50
    go_wp2_with fail
    rw [HW.out]
    exact bodyPost_v rfl (res2 Tryz.results50 (resT rfl) (resT rfl)) (by repeat (first | with_reducible exact HK.out | with_reducible exact Kept.refl _ _ | with_reducible refine Kept.prev ?_ | with_reducible refine Kept.alloc' ?_ _ | with_reducible refine Kept.drew' ?_ | with_reducible refine Kept.setB ?_ _ _ _ (by omega) | with_reducible refine Kept.row' ?_ _ _ (by omega) | with_reducible refine Kept.map' ?_ _ _ (by omega)))
  have h2' : decide (hi < x) = false := by simp; omega
  have HW : Hid (withinP x (lo, hi) = some x) := by rw [Hid, HV.out, if_neg (by rintro (h | h) <;> contradiction)]
  clear h1 h2
  clear HV
  go_enter Tryz.func50, Tryz.ntmps50
  go_wp2_with fail
  rw [HW.out]
  exact bodyPost_v rfl (res2 Tryz.results50 (resT rfl) (resT rfl)) (by repeat (first | with_reducible exact HK.out | with_reducible exact Kept.refl _ _ | with_reducible refine Kept.prev ?_ | with_reducible refine Kept.alloc' ?_ _ | with_reducible refine Kept.drew' ?_ | with_reducible refine Kept.setB ?_ _ _ _ (by omega) | with_reducible refine Kept.row' ?_ _ _ (by omega) | with_reducible refine Kept.map' ?_ _ _ (by omega)))
theorem mul_bd {a b p q : Int} (ha : absP a = p) (hb : absP b = q) (h : p * q ≤ 4611686018427387904) : -4611686018427387904 ≤ a * b ∧ a * b ≤ 4611686018427387904 := by
  have h1 : ∀ x : Int, absP x = (x.natAbs : Int) := fun x => by unfold absP; split <;> omega
  rw [h1] at ha hb
  subst ha hb
  have h2 : ((a * b).natAbs : Int) = (a.natAbs : Int) * (b.natAbs : Int) := by rw [Int.natAbs_mul]; simp
  omega
set_option maxRecDepth 100000 in
theorem rtwo1_any (w : World) (a b : Int) (ha : InB a) (hb : InB b) : Calls Tryz.prog 80 #[.int .u8 1, .int .i64 a, .int .i64 b] w (RetV (ovV (opR 1 a b)) w) := by
  have HW : Hid (opR 1 a b = some (wrap64 (a + b))) := by simp [Hid, opR, opP]
  obtain ⟨a1, a2⟩ := ha
  obtain ⟨b1, b2⟩ := hb
  go_enter Tryz.func80, Tryz.ntmps80
  go_wp2_with fail
  rw [HW.out]
  exact bodyPost_v rfl (res2 Tryz.results80 (resT rfl) (resT rfl)) (by repeat (first | with_reducible exact HK.out | with_reducible exact Kept.refl _ _ | with_reducible refine Kept.prev ?_ | with_reducible refine Kept.alloc' ?_ _ | with_reducible refine Kept.drew' ?_ | with_reducible refine Kept.setB ?_ _ _ _ (by omega) | with_reducible refine Kept.row' ?_ _ _ (by omega) | with_reducible refine Kept.map' ?_ _ _ (by omega)))
set_option maxRecDepth 100000 in
theorem rtwo2_any (w : World) (a b : Int) (ha : InB a) (hb : InB b) : Calls Tryz.prog 80 #[.int .u8 2, .int .i64 a, .int .i64 b] w (RetV (ovV (opR 2 a b)) w) := by
  have HW : Hid (opR 2 a b = some (wrap64 (a - b))) := by simp [Hid, opR, opP]
  obtain ⟨a1, a2⟩ := ha
  obtain ⟨b1, b2⟩ := hb
  go_enter Tryz.func80, Tryz.ntmps80
  go_wp2_with fail
  rw [HW.out]
  exact bodyPost_v rfl (res2 Tryz.results80 (resT rfl) (resT rfl)) (by repeat (first | with_reducible exact HK.out | with_reducible exact Kept.refl _ _ | with_reducible refine Kept.prev ?_ | with_reducible refine Kept.alloc' ?_ _ | with_reducible refine Kept.drew' ?_ | with_reducible refine Kept.setB ?_ _ _ _ (by omega) | with_reducible refine Kept.row' ?_ _ _ (by omega) | with_reducible refine Kept.map' ?_ _ _ (by omega)))
set_option maxRecDepth 100000 in
theorem rtwo3_any (w : World) (a b : Int) (ha : InB a) (hb : InB b) : Calls Tryz.prog 80 #[.int .u8 3, .int .i64 a, .int .i64 b] w (RetV (ovV (opR 3 a b)) w) := by
  have HA : Hid (InB a) := ha
  have HB : Hid (InB b) := hb
  have HV : Hid (opR 3 a b = if b ≠ 0 ∧ absP a > (4611686018427387904 : Int).tdiv (absP b) then none else some (a * b)) := by simp [Hid, opR]
  obtain ⟨a1, a2⟩ := ha
  obtain ⟨b1, b2⟩ := hb
  by_cases h0 : b = 0
  · subst h0
    have HW : Hid (opR 3 a 0 = some 0) := by rw [Hid, HV.out]; simp
    clear HV
    go_enter Tryz.func80, Tryz.ntmps80
    go_wp2_with fail
    rw [HW.out]
    exact bodyPost_v rfl (res2 Tryz.results80 (resT (by simp)) (resT rfl)) (by repeat (first | with_reducible exact HK.out | with_reducible exact Kept.refl _ _ | with_reducible refine Kept.prev ?_ | with_reducible refine Kept.alloc' ?_ _ | with_reducible refine Kept.drew' ?_ | with_reducible refine Kept.setB ?_ _ _ _ (by omega) | with_reducible refine Kept.row' ?_ _ _ (by omega) | with_reducible refine Kept.map' ?_ _ _ (by omega)))
  have h0' : (b != 0) = true := by simp [h0]
  have hp0 : 0 ≤ absP a := by unfold absP; split <;> omega
  have hq0 : 0 < absP b := by unfold absP; split <;> omega
  have hp2 : absP a ≤ 4611686018427387904 := by unfold absP; split <;> omega
  have hq2 : absP b ≤ 4611686018427387904 := by unfold absP; split <;> omega
  have HM := Lib.hid (fun h => mul_bd (a := a) (b := b) rfl rfl h)
  have HS1 := Lib.hid (fun w' => rsize_any w' a HA.out)
  have HS2 := Lib.hid (fun w' => rsize_any w' b HB.out)
  have ht : (4611686018427387904 : Int).tdiv (absP b) = 4611686018427387904 / absP b := Int.tdiv_eq_ediv_of_nonneg (by omega)
  rw [ht] at HV
  clear ht
  generalize absP a = p at *
  generalize absP b = q at *
  by_cases h1 : 4611686018427387904 / q < p
  · have HW : Hid (opR 3 a b = none) := by rw [Hid, HV.out, if_pos ⟨h0, h1⟩]
    clear HV HM HA HB h0
    go_enter Tryz.func80, Tryz.ntmps80
    go_wp2_with fail
    refine (HS1.out _).mono ?_; rintro e w1 ⟨rfl, hk_w1⟩; haveI p_w1 : PrevWorld w1 _ := ⟨hk_w1⟩; have hz_w1 : w.heap.size ≤ w1.heap.size := Kept.size (by repeat (first | with_reducible exact HK.out | with_reducible exact Kept.refl _ _ | with_reducible refine Kept.prev ?_ | with_reducible refine Kept.alloc' ?_ _ | with_reducible refine Kept.drew' ?_ | with_reducible refine Kept.setB ?_ _ _ _ (by omega) | with_reducible refine Kept.row' ?_ _ _ (by omega) | with_reducible refine Kept.map' ?_ _ _ (by omega))); clear hk_w1
    go_wp2_with fail
    refine (HS2.out _).mono ?_; rintro e w2 ⟨rfl, hk_w2⟩; haveI p_w2 : PrevWorld w2 _ := ⟨hk_w2⟩; have hz_w2 : w.heap.size ≤ w2.heap.size := Kept.size (by repeat (first | with_reducible exact HK.out | with_reducible exact Kept.refl _ _ | with_reducible refine Kept.prev ?_ | with_reducible refine Kept.alloc' ?_ _ | with_reducible refine Kept.drew' ?_ | with_reducible refine Kept.setB ?_ _ _ _ (by omega) | with_reducible refine Kept.row' ?_ _ _ (by omega) | with_reducible refine Kept.map' ?_ _ _ (by omega))); clear hk_w2
    go_wp2_with fail
    rw [HW.out]
    exact bodyPost_v rfl (res2 Tryz.results80 (resT rfl) (resT rfl)) (by repeat (first | with_reducible exact HK.out | with_reducible exact Kept.refl _ _ | with_reducible refine Kept.prev ?_ | with_reducible refine Kept.alloc' ?_ _ | with_reducible refine Kept.drew' ?_ | with_reducible refine Kept.setB ?_ _ _ _ (by omega) | with_reducible refine Kept.row' ?_ _ _ (by omega) | with_reducible refine Kept.map' ?_ _ _ (by omega)))
  · have HW : Hid (opR 3 a b = some (a * b)) := by rw [Hid, HV.out, if_neg (fun h => h1 h.2)]
    have h3 : p * q ≤ 4611686018427387904 := by
      have h1 : p * q ≤ 4611686018427387904 / q * q := Int.mul_le_mul_of_nonneg_right (by omega) (by omega)
      have h2 := Int.ediv_mul_le 4611686018427387904 (b := q) (by omega)
      omega
    obtain ⟨m1, m2⟩ := HM.out h3
    have h1' : decide (4611686018427387904 / q < p) = false := by simp; omega
    clear HV HM HA HB h0 h1 h3
    go_enter Tryz.func80, Tryz.ntmps80
    go_wp2_with fail
    refine (HS1.out _).mono ?_; rintro e w1 ⟨rfl, hk_w1⟩; haveI p_w1 : PrevWorld w1 _ := ⟨hk_w1⟩; have hz_w1 : w.heap.size ≤ w1.heap.size := Kept.size (by repeat (first | with_reducible exact HK.out | with_reducible exact Kept.refl _ _ | with_reducible refine Kept.prev ?_ | with_reducible refine Kept.alloc' ?_ _ | with_reducible refine Kept.drew' ?_ | with_reducible refine Kept.setB ?_ _ _ _ (by omega) | with_reducible refine Kept.row' ?_ _ _ (by omega) | with_reducible refine Kept.map' ?_ _ _ (by omega))); clear hk_w1
    go_wp2_with fail
    refine (HS2.out _).mono ?_; rintro e w2 ⟨rfl, hk_w2⟩; haveI p_w2 : PrevWorld w2 _ := ⟨hk_w2⟩; have hz_w2 : w.heap.size ≤ w2.heap.size := Kept.size (by repeat (first | with_reducible exact HK.out | with_reducible exact Kept.refl _ _ | with_reducible refine Kept.prev ?_ | with_reducible refine Kept.alloc' ?_ _ | with_reducible refine Kept.drew' ?_ | with_reducible refine Kept.setB ?_ _ _ _ (by omega) | with_reducible refine Kept.row' ?_ _ _ (by omega) | with_reducible refine Kept.map' ?_ _ _ (by omega))); clear hk_w2
    go_wp2_with fail
    rw [HW.out]
    exact bodyPost_v rfl (res2 Tryz.results80 (resT rfl) (resT rfl)) (by repeat (first | with_reducible exact HK.out | with_reducible exact Kept.refl _ _ | with_reducible refine Kept.prev ?_ | with_reducible refine Kept.alloc' ?_ _ | with_reducible refine Kept.drew' ?_ | with_reducible refine Kept.setB ?_ _ _ _ (by omega) | with_reducible refine Kept.row' ?_ _ _ (by omega) | with_reducible refine Kept.map' ?_ _ _ (by omega)))
set_option maxRecDepth 100000 in
theorem rtwo4_any (w : World) (a b : Int) (ha : InB a) (hb : InB b) : Calls Tryz.prog 80 #[.int .u8 4, .int .i64 a, .int .i64 b] w (RetV (ovV (opR 4 a b)) w) := by
  by_cases h0 : b = 0
  · subst h0
    have HW : Hid (opR 4 a 0 = none) := by simp [Hid, opR, opP]
    go_enter Tryz.func80, Tryz.ntmps80
    go_wp2_with fail
    rw [HW.out]
    exact bodyPost_v rfl (res2 Tryz.results80 (resT rfl) (resT rfl)) (by repeat (first | with_reducible exact HK.out | with_reducible exact Kept.refl _ _ | with_reducible refine Kept.prev ?_ | with_reducible refine Kept.alloc' ?_ _ | with_reducible refine Kept.drew' ?_ | with_reducible refine Kept.setB ?_ _ _ _ (by omega) | with_reducible refine Kept.row' ?_ _ _ (by omega) | with_reducible refine Kept.map' ?_ _ _ (by omega)))
  have HW : Hid (opR 4 a b = some (a.tdiv b)) := by simp [Hid, opR, opP, h0]
  have h0' : (b == 0) = false := by simp [h0]
  obtain ⟨t1, t2⟩ := tdiv_bd (b := b) ha
  obtain ⟨a1, a2⟩ := ha
  obtain ⟨b1, b2⟩ := hb
  go_enter Tryz.func80, Tryz.ntmps80
  go_wp2_with fail
  rw [HW.out]
  exact bodyPost_v rfl (res2 Tryz.results80 (resT rfl) (resT rfl)) (by repeat (first | with_reducible exact HK.out | with_reducible exact Kept.refl _ _ | with_reducible refine Kept.prev ?_ | with_reducible refine Kept.alloc' ?_ _ | with_reducible refine Kept.drew' ?_ | with_reducible refine Kept.setB ?_ _ _ _ (by omega) | with_reducible refine Kept.row' ?_ _ _ (by omega) | with_reducible refine Kept.map' ?_ _ _ (by omega)))
set_option maxRecDepth 100000 in
theorem rtwo6_any (w : World) (a b : Int) (ha : InB a) (hb : InB b) : Calls Tryz.prog 80 #[.int .u8 6, .int .i64 a, .int .i64 b] w (RetV (ovV (opR 6 a b)) w) := by
  by_cases h0 : b = 0
  · subst h0
    have HW : Hid (opR 6 a 0 = none) := by simp [Hid, opR, opP]
    go_enter Tryz.func80, Tryz.ntmps80
    go_wp2_with fail
    rw [HW.out]
    exact bodyPost_v rfl (res2 Tryz.results80 (resT rfl) (resT rfl)) (by repeat (first | with_reducible exact HK.out | with_reducible exact Kept.refl _ _ | with_reducible refine Kept.prev ?_ | with_reducible refine Kept.alloc' ?_ _ | with_reducible refine Kept.drew' ?_ | with_reducible refine Kept.setB ?_ _ _ _ (by omega) | with_reducible refine Kept.row' ?_ _ _ (by omega) | with_reducible refine Kept.map' ?_ _ _ (by omega)))
  have HW : Hid (opR 6 a b = some (a.tmod b)) := by simp [Hid, opR, opP, h0]
  have h0' : (b == 0) = false := by simp [h0]
  obtain ⟨t1, t2⟩ := tmod_bd (b := b) ha
  obtain ⟨a1, a2⟩ := ha
  obtain ⟨b1, b2⟩ := hb
  go_enter Tryz.func80, Tryz.ntmps80
  go_wp2_with fail
  rw [HW.out]
  exact bodyPost_v rfl (res2 Tryz.results80 (resT rfl) (resT rfl)) (by repeat (first | with_reducible exact HK.out | with_reducible exact Kept.refl _ _ | with_reducible refine Kept.prev ?_ | with_reducible refine Kept.alloc' ?_ _ | with_reducible refine Kept.drew' ?_ | with_reducible refine Kept.setB ?_ _ _ _ (by omega) | with_reducible refine Kept.row' ?_ _ _ (by omega) | with_reducible refine Kept.map' ?_ _ _ (by omega)))
set_option maxRecDepth 100000 in
theorem rtwo5_any (w : World) (a b : Int) (ha : InB a) (hb : InB b) : Calls Tryz.prog 80 #[.int .u8 5, .int .i64 a, .int .i64 b] w (RetV (ovV (opR 5 a b)) w) := by
  by_cases h0 : b = 0
  · subst h0
    have HW : Hid (opR 5 a 0 = none) := by simp [Hid, opR, opP]
    go_enter Tryz.func80, Tryz.ntmps80
    go_wp2_with fail
    rw [HW.out]
    exact bodyPost_v rfl (res2 Tryz.results80 (resT rfl) (resT rfl)) (by repeat (first | with_reducible exact HK.out | with_reducible exact Kept.refl _ _ | with_reducible refine Kept.prev ?_ | with_reducible refine Kept.alloc' ?_ _ | with_reducible refine Kept.drew' ?_ | with_reducible refine Kept.setB ?_ _ _ _ (by omega) | with_reducible refine Kept.row' ?_ _ _ (by omega) | with_reducible refine Kept.map' ?_ _ _ (by omega)))
  have HV : Hid (opR 5 a b = some (if a.tmod b ≠ 0 ∧ decide (a.tmod b < 0) ≠ decide (b < 0) then a.tmod b + b else a.tmod b)) := by
    have e : opR 5 a b = if b = 0 then none else some (modP a b) := by simp [opR, opP]
    rw [Hid, e, if_neg h0]
    rfl
  have h0' : (b == 0) = false := by simp [h0]
  obtain ⟨r1, r2⟩ := tmod_bd (b := b) ha
  obtain ⟨a1, a2⟩ := ha
  obtain ⟨b1, b2⟩ := hb
  by_cases h1 : a.tmod b = 0
  · have HW : Hid (opR 5 a b = some 0) := by rw [Hid, HV.out, if_neg (by simp [h1]), h1]
    have h2 : (a.tmod b != 0) = false := by simp [h1]
    clear HV
    go_enter Tryz.func80, Tryz.ntmps80
    go_wp2_with fail
    rw [HW.out]
    exact bodyPost_v rfl (res2 Tryz.results80 (resT rfl) (resT rfl)) (by repeat (first | with_reducible exact HK.out | with_reducible exact Kept.refl _ _ | with_reducible refine Kept.prev ?_ | with_reducible refine Kept.alloc' ?_ _ | with_reducible refine Kept.drew' ?_ | with_reducible refine Kept.setB ?_ _ _ _ (by omega) | with_reducible refine Kept.row' ?_ _ _ (by omega) | with_reducible refine Kept.map' ?_ _ _ (by omega)))
  have h2 : (a.tmod b != 0) = true := by simp [h1]
  by_cases h3 : a.tmod b < 0
  · by_cases h4 : b < 0
    · have HW : Hid (opR 5 a b = some (a.tmod b)) := by rw [Hid, HV.out, if_neg (by simp [h3, h4])]
      clear HV h1
      go_enter Tryz.func80, Tryz.ntmps80
      go_wp2_with fail
      rw [HW.out]
      exact bodyPost_v rfl (res2 Tryz.results80 (resT rfl) (resT rfl)) (by repeat (first | with_reducible exact HK.out | with_reducible exact Kept.refl _ _ | with_reducible refine Kept.prev ?_ | with_reducible refine Kept.alloc' ?_ _ | with_reducible refine Kept.drew' ?_ | with_reducible refine Kept.setB ?_ _ _ _ (by omega) | with_reducible refine Kept.row' ?_ _ _ (by omega) | with_reducible refine Kept.map' ?_ _ _ (by omega)))
    · have HW : Hid (opR 5 a b = some (a.tmod b + b)) := by rw [Hid, HV.out, if_pos (by simp [h1, h3, h4])]
      clear HV h1
      go_enter Tryz.func80, Tryz.ntmps80
      go_wp2_with fail
      rw [HW.out]
      exact bodyPost_v rfl (res2 Tryz.results80 (resT rfl) (resT rfl)) (by repeat (first | with_reducible exact HK.out | with_reducible exact Kept.refl _ _ | with_reducible refine Kept.prev ?_ | with_reducible refine Kept.alloc' ?_ _ | with_reducible refine Kept.drew' ?_ | with_reducible refine Kept.setB ?_ _ _ _ (by omega) | with_reducible refine Kept.row' ?_ _ _ (by omega) | with_reducible refine Kept.map' ?_ _ _ (by omega)))
  · by_cases h4 : b < 0
    · have HW : Hid (opR 5 a b = some (a.tmod b + b)) := by rw [Hid, HV.out, if_pos (by simp [h1, h3, h4])]
      clear HV h1
      go_enter Tryz.func80, Tryz.ntmps80
      go_wp2_with fail
      rw [HW.out]
      exact bodyPost_v rfl (res2 Tryz.results80 (resT rfl) (resT rfl)) (by repeat (first | with_reducible exact HK.out | with_reducible exact Kept.refl _ _ | with_reducible refine Kept.prev ?_ | with_reducible refine Kept.alloc' ?_ _ | with_reducible refine Kept.drew' ?_ | with_reducible refine Kept.setB ?_ _ _ _ (by omega) | with_reducible refine Kept.row' ?_ _ _ (by omega) | with_reducible refine Kept.map' ?_ _ _ (by omega)))
    · have HW : Hid (opR 5 a b = some (a.tmod b)) := by rw [Hid, HV.out, if_neg (by simp [h3, h4])]
      clear HV h1
      go_enter Tryz.func80, Tryz.ntmps80
      go_wp2_with fail
      rw [HW.out]
      exact bodyPost_v rfl (res2 Tryz.results80 (resT rfl) (resT rfl)) (by repeat (first | with_reducible exact HK.out | with_reducible exact Kept.refl _ _ | with_reducible refine Kept.prev ?_ | with_reducible refine Kept.alloc' ?_ _ | with_reducible refine Kept.drew' ?_ | with_reducible refine Kept.setB ?_ _ _ _ (by omega) | with_reducible refine Kept.row' ?_ _ _ (by omega) | with_reducible refine Kept.map' ?_ _ _ (by omega)))
set_option maxRecDepth 100000 in
theorem rtwo7_any (w : World) (a b : Int) (_ha : InB a) (_hb : InB b) : Calls Tryz.prog 80 #[.int .u8 7, .int .i64 a, .int .i64 b] w (RetV (ovV (opR 7 a b)) w) := by
  have HW : Hid (opR 7 a b = some (truthP (a == b))) := by simp [Hid, opR, opP]
  clear _ha _hb
  go_enter Tryz.func80, Tryz.ntmps80
  go_wp2_with fail
  refine (rtruth_any _ _).mono ?_; rintro e w1 ⟨rfl, hk_w1⟩; haveI p_w1 : PrevWorld w1 _ := ⟨hk_w1⟩; have hz_w1 : w.heap.size ≤ w1.heap.size := Kept.size (by repeat (first | with_reducible exact HK.out | with_reducible exact Kept.refl _ _ | with_reducible refine Kept.prev ?_ | with_reducible refine Kept.alloc' ?_ _ | with_reducible refine Kept.drew' ?_ | with_reducible refine Kept.setB ?_ _ _ _ (by omega) | with_reducible refine Kept.row' ?_ _ _ (by omega) | with_reducible refine Kept.map' ?_ _ _ (by omega))); clear hk_w1
  go_wp2_with fail
  rw [HW.out]
  exact bodyPost_v rfl (res2 Tryz.results80 (resT rfl) (resT rfl)) (by repeat (first | with_reducible exact HK.out | with_reducible exact Kept.refl _ _ | with_reducible refine Kept.prev ?_ | with_reducible refine Kept.alloc' ?_ _ | with_reducible refine Kept.drew' ?_ | with_reducible refine Kept.setB ?_ _ _ _ (by omega) | with_reducible refine Kept.row' ?_ _ _ (by omega) | with_reducible refine Kept.map' ?_ _ _ (by omega)))
set_option maxRecDepth 100000 in
theorem rtwo8_any (w : World) (a b : Int) (_ha : InB a) (_hb : InB b) : Calls Tryz.prog 80 #[.int .u8 8, .int .i64 a, .int .i64 b] w (RetV (ovV (opR 8 a b)) w) := by
  have HW : Hid (opR 8 a b = some (truthP (a != b))) := by simp [Hid, opR, opP]
  clear _ha _hb
  go_enter Tryz.func80, Tryz.ntmps80
  go_wp2_with fail
  refine (rtruth_any _ _).mono ?_; rintro e w1 ⟨rfl, hk_w1⟩; haveI p_w1 : PrevWorld w1 _ := ⟨hk_w1⟩; have hz_w1 : w.heap.size ≤ w1.heap.size := Kept.size (by repeat (first | with_reducible exact HK.out | with_reducible exact Kept.refl _ _ | with_reducible refine Kept.prev ?_ | with_reducible refine Kept.alloc' ?_ _ | with_reducible refine Kept.drew' ?_ | with_reducible refine Kept.setB ?_ _ _ _ (by omega) | with_reducible refine Kept.row' ?_ _ _ (by omega) | with_reducible refine Kept.map' ?_ _ _ (by omega))); clear hk_w1
  go_wp2_with fail
  rw [HW.out]
  exact bodyPost_v rfl (res2 Tryz.results80 (resT rfl) (resT rfl)) (by repeat (first | with_reducible exact HK.out | with_reducible exact Kept.refl _ _ | with_reducible refine Kept.prev ?_ | with_reducible refine Kept.alloc' ?_ _ | with_reducible refine Kept.drew' ?_ | with_reducible refine Kept.setB ?_ _ _ _ (by omega) | with_reducible refine Kept.row' ?_ _ _ (by omega) | with_reducible refine Kept.map' ?_ _ _ (by omega)))
set_option maxRecDepth 100000 in
theorem rtwo9_any (w : World) (a b : Int) (_ha : InB a) (_hb : InB b) : Calls Tryz.prog 80 #[.int .u8 9, .int .i64 a, .int .i64 b] w (RetV (ovV (opR 9 a b)) w) := by
  have HW : Hid (opR 9 a b = some (truthP (decide (a < b)))) := by simp [Hid, opR, opP]
  clear _ha _hb
  go_enter Tryz.func80, Tryz.ntmps80
  go_wp2_with fail
  refine (rtruth_any _ _).mono ?_; rintro e w1 ⟨rfl, hk_w1⟩; haveI p_w1 : PrevWorld w1 _ := ⟨hk_w1⟩; have hz_w1 : w.heap.size ≤ w1.heap.size := Kept.size (by repeat (first | with_reducible exact HK.out | with_reducible exact Kept.refl _ _ | with_reducible refine Kept.prev ?_ | with_reducible refine Kept.alloc' ?_ _ | with_reducible refine Kept.drew' ?_ | with_reducible refine Kept.setB ?_ _ _ _ (by omega) | with_reducible refine Kept.row' ?_ _ _ (by omega) | with_reducible refine Kept.map' ?_ _ _ (by omega))); clear hk_w1
  go_wp2_with fail
  rw [HW.out]
  exact bodyPost_v rfl (res2 Tryz.results80 (resT rfl) (resT rfl)) (by repeat (first | with_reducible exact HK.out | with_reducible exact Kept.refl _ _ | with_reducible refine Kept.prev ?_ | with_reducible refine Kept.alloc' ?_ _ | with_reducible refine Kept.drew' ?_ | with_reducible refine Kept.setB ?_ _ _ _ (by omega) | with_reducible refine Kept.row' ?_ _ _ (by omega) | with_reducible refine Kept.map' ?_ _ _ (by omega)))
set_option maxRecDepth 100000 in
theorem rtwo10_any (w : World) (a b : Int) (_ha : InB a) (_hb : InB b) : Calls Tryz.prog 80 #[.int .u8 10, .int .i64 a, .int .i64 b] w (RetV (ovV (opR 10 a b)) w) := by
  have HW : Hid (opR 10 a b = some (truthP (decide (a ≤ b)))) := by simp [Hid, opR, opP]
  clear _ha _hb
  go_enter Tryz.func80, Tryz.ntmps80
  go_wp2_with fail
  refine (rtruth_any _ _).mono ?_; rintro e w1 ⟨rfl, hk_w1⟩; haveI p_w1 : PrevWorld w1 _ := ⟨hk_w1⟩; have hz_w1 : w.heap.size ≤ w1.heap.size := Kept.size (by repeat (first | with_reducible exact HK.out | with_reducible exact Kept.refl _ _ | with_reducible refine Kept.prev ?_ | with_reducible refine Kept.alloc' ?_ _ | with_reducible refine Kept.drew' ?_ | with_reducible refine Kept.setB ?_ _ _ _ (by omega) | with_reducible refine Kept.row' ?_ _ _ (by omega) | with_reducible refine Kept.map' ?_ _ _ (by omega))); clear hk_w1
  go_wp2_with fail
  rw [HW.out]
  exact bodyPost_v rfl (res2 Tryz.results80 (resT rfl) (resT rfl)) (by repeat (first | with_reducible exact HK.out | with_reducible exact Kept.refl _ _ | with_reducible refine Kept.prev ?_ | with_reducible refine Kept.alloc' ?_ _ | with_reducible refine Kept.drew' ?_ | with_reducible refine Kept.setB ?_ _ _ _ (by omega) | with_reducible refine Kept.row' ?_ _ _ (by omega) | with_reducible refine Kept.map' ?_ _ _ (by omega)))
set_option maxRecDepth 100000 in
theorem rtwo11_any (w : World) (a b : Int) (_ha : InB a) (_hb : InB b) : Calls Tryz.prog 80 #[.int .u8 11, .int .i64 a, .int .i64 b] w (RetV (ovV (opR 11 a b)) w) := by
  have HW : Hid (opR 11 a b = some (truthP (decide (b < a)))) := by simp [Hid, opR, opP]
  clear _ha _hb
  go_enter Tryz.func80, Tryz.ntmps80
  go_wp2_with fail
  refine (rtruth_any _ _).mono ?_; rintro e w1 ⟨rfl, hk_w1⟩; haveI p_w1 : PrevWorld w1 _ := ⟨hk_w1⟩; have hz_w1 : w.heap.size ≤ w1.heap.size := Kept.size (by repeat (first | with_reducible exact HK.out | with_reducible exact Kept.refl _ _ | with_reducible refine Kept.prev ?_ | with_reducible refine Kept.alloc' ?_ _ | with_reducible refine Kept.drew' ?_ | with_reducible refine Kept.setB ?_ _ _ _ (by omega) | with_reducible refine Kept.row' ?_ _ _ (by omega) | with_reducible refine Kept.map' ?_ _ _ (by omega))); clear hk_w1
  go_wp2_with fail
  rw [HW.out]
  exact bodyPost_v rfl (res2 Tryz.results80 (resT rfl) (resT rfl)) (by repeat (first | with_reducible exact HK.out | with_reducible exact Kept.refl _ _ | with_reducible refine Kept.prev ?_ | with_reducible refine Kept.alloc' ?_ _ | with_reducible refine Kept.drew' ?_ | with_reducible refine Kept.setB ?_ _ _ _ (by omega) | with_reducible refine Kept.row' ?_ _ _ (by omega) | with_reducible refine Kept.map' ?_ _ _ (by omega)))
set_option maxRecDepth 100000 in
theorem rtwo12_any (w : World) (a b : Int) (_ha : InB a) (_hb : InB b) : Calls Tryz.prog 80 #[.int .u8 12, .int .i64 a, .int .i64 b] w (RetV (ovV (opR 12 a b)) w) := by
  have HW : Hid (opR 12 a b = some (truthP (decide (b ≤ a)))) := by simp [Hid, opR, opP]
  clear _ha _hb
  go_enter Tryz.func80, Tryz.ntmps80
  go_wp2_with fail
  refine (rtruth_any _ _).mono ?_; rintro e w1 ⟨rfl, hk_w1⟩; haveI p_w1 : PrevWorld w1 _ := ⟨hk_w1⟩; have hz_w1 : w.heap.size ≤ w1.heap.size := Kept.size (by repeat (first | with_reducible exact HK.out | with_reducible exact Kept.refl _ _ | with_reducible refine Kept.prev ?_ | with_reducible refine Kept.alloc' ?_ _ | with_reducible refine Kept.drew' ?_ | with_reducible refine Kept.setB ?_ _ _ _ (by omega) | with_reducible refine Kept.row' ?_ _ _ (by omega) | with_reducible refine Kept.map' ?_ _ _ (by omega))); clear hk_w1
  go_wp2_with fail
  rw [HW.out]
  exact bodyPost_v rfl (res2 Tryz.results80 (resT rfl) (resT rfl)) (by repeat (first | with_reducible exact HK.out | with_reducible exact Kept.refl _ _ | with_reducible refine Kept.prev ?_ | with_reducible refine Kept.alloc' ?_ _ | with_reducible refine Kept.drew' ?_ | with_reducible refine Kept.setB ?_ _ _ _ (by omega) | with_reducible refine Kept.row' ?_ _ _ (by omega) | with_reducible refine Kept.map' ?_ _ _ (by omega)))
set_option maxRecDepth 100000 in
theorem rtwo15_any (w : World) (a b : Int) (_ha : InB a) (_hb : InB b) : Calls Tryz.prog 80 #[.int .u8 15, .int .i64 a, .int .i64 b] w (RetV (ovV (opR 15 a b)) w) := by
  have HW : Hid (opR 15 a b = some (truthP (a != b))) := by simp [Hid, opR, opP]
  clear _ha _hb
  go_enter Tryz.func80, Tryz.ntmps80
  go_wp2_with fail
  refine (rtruth_any _ _).mono ?_; rintro e w1 ⟨rfl, hk_w1⟩; haveI p_w1 : PrevWorld w1 _ := ⟨hk_w1⟩; have hz_w1 : w.heap.size ≤ w1.heap.size := Kept.size (by repeat (first | with_reducible exact HK.out | with_reducible exact Kept.refl _ _ | with_reducible refine Kept.prev ?_ | with_reducible refine Kept.alloc' ?_ _ | with_reducible refine Kept.drew' ?_ | with_reducible refine Kept.setB ?_ _ _ _ (by omega) | with_reducible refine Kept.row' ?_ _ _ (by omega) | with_reducible refine Kept.map' ?_ _ _ (by omega))); clear hk_w1
  go_wp2_with fail
  rw [HW.out]
  exact bodyPost_v rfl (res2 Tryz.results80 (resT rfl) (resT rfl)) (by repeat (first | with_reducible exact HK.out | with_reducible exact Kept.refl _ _ | with_reducible refine Kept.prev ?_ | with_reducible refine Kept.alloc' ?_ _ | with_reducible refine Kept.drew' ?_ | with_reducible refine Kept.setB ?_ _ _ _ (by omega) | with_reducible refine Kept.row' ?_ _ _ (by omega) | with_reducible refine Kept.map' ?_ _ _ (by omega)))
set_option maxRecDepth 100000 in
theorem rtwo13_any (w : World) (a b : Int) (_ha : InB a) (_hb : InB b) : Calls Tryz.prog 80 #[.int .u8 13, .int .i64 a, .int .i64 b] w (RetV (ovV (opR 13 a b)) w) := by
  have HW0 : Hid (opR 13 a b = some (truthP (a == 1 && b == 1))) := by simp [Hid, opR, opP]
  clear _ha _hb
  cases hg : (a == 1)
  all_goals
    have HW := HW0
    rw [hg] at HW
    clear HW0
    go_enter Tryz.func80, Tryz.ntmps80
    go_wp2_with fail
    refine (rtruth_any _ _).mono ?_; rintro e w1 ⟨rfl, hk_w1⟩; haveI p_w1 : PrevWorld w1 _ := ⟨hk_w1⟩; have hz_w1 : w.heap.size ≤ w1.heap.size := Kept.size (by repeat (first | with_reducible exact HK.out | with_reducible exact Kept.refl _ _ | with_reducible refine Kept.prev ?_ | with_reducible refine Kept.alloc' ?_ _ | with_reducible refine Kept.drew' ?_ | with_reducible refine Kept.setB ?_ _ _ _ (by omega) | with_reducible refine Kept.row' ?_ _ _ (by omega) | with_reducible refine Kept.map' ?_ _ _ (by omega))); clear hk_w1
    go_wp2_with fail
    rw [HW.out]
    exact bodyPost_v rfl (res2 Tryz.results80 (resT rfl) (resT rfl)) (by repeat (first | with_reducible exact HK.out | with_reducible exact Kept.refl _ _ | with_reducible refine Kept.prev ?_ | with_reducible refine Kept.alloc' ?_ _ | with_reducible refine Kept.drew' ?_ | with_reducible refine Kept.setB ?_ _ _ _ (by omega) | with_reducible refine Kept.row' ?_ _ _ (by omega) | with_reducible refine Kept.map' ?_ _ _ (by omega)))
set_option maxRecDepth 100000 in
theorem rtwo14_any (w : World) (a b : Int) (_ha : InB a) (_hb : InB b) : Calls Tryz.prog 80 #[.int .u8 14, .int .i64 a, .int .i64 b] w (RetV (ovV (opR 14 a b)) w) := by
  have HW0 : Hid (opR 14 a b = some (truthP (a != 0 || b != 0))) := by simp [Hid, opR, opP]
  clear _ha _hb
  cases hg : (a != 0)
  all_goals
    have HW := HW0
    rw [hg] at HW
    clear HW0
    go_enter Tryz.func80, Tryz.ntmps80
    go_wp2_with fail
    refine (rtruth_any _ _).mono ?_; rintro e w1 ⟨rfl, hk_w1⟩; haveI p_w1 : PrevWorld w1 _ := ⟨hk_w1⟩; have hz_w1 : w.heap.size ≤ w1.heap.size := Kept.size (by repeat (first | with_reducible exact HK.out | with_reducible exact Kept.refl _ _ | with_reducible refine Kept.prev ?_ | with_reducible refine Kept.alloc' ?_ _ | with_reducible refine Kept.drew' ?_ | with_reducible refine Kept.setB ?_ _ _ _ (by omega) | with_reducible refine Kept.row' ?_ _ _ (by omega) | with_reducible refine Kept.map' ?_ _ _ (by omega))); clear hk_w1
    go_wp2_with fail
    rw [HW.out]
    exact bodyPost_v rfl (res2 Tryz.results80 (resT rfl) (resT rfl)) (by repeat (first | with_reducible exact HK.out | with_reducible exact Kept.refl _ _ | with_reducible refine Kept.prev ?_ | with_reducible refine Kept.alloc' ?_ _ | with_reducible refine Kept.drew' ?_ | with_reducible refine Kept.setB ?_ _ _ _ (by omega) | with_reducible refine Kept.row' ?_ _ _ (by omega) | with_reducible refine Kept.map' ?_ _ _ (by omega)))
theorem rtwo_any (w : World) (o a b : Int) (h1 : 1 ≤ o) (h2 : o ≤ 15) (ha : InB a) (hb : InB b) : Calls Tryz.prog 80 #[.int .u8 o, .int .i64 a, .int .i64 b] w (RetV (ovV (opR o a b)) w) := by
  have h : o = 1 ∨ o = 2 ∨ o = 3 ∨ o = 4 ∨ o = 5 ∨ o = 6 ∨ o = 7 ∨ o = 8 ∨ o = 9 ∨ o = 10 ∨ o = 11 ∨ o = 12 ∨ o = 13 ∨ o = 14 ∨ o = 15 := by omega
  rcases h with rfl | rfl | rfl | rfl | rfl | rfl | rfl | rfl | rfl | rfl | rfl | rfl | rfl | rfl | rfl
  · exact rtwo1_any w a b ha hb
  · exact rtwo2_any w a b ha hb
  · exact rtwo3_any w a b ha hb
  · exact rtwo4_any w a b ha hb
  · exact rtwo5_any w a b ha hb
  · exact rtwo6_any w a b ha hb
  · exact rtwo7_any w a b ha hb
  · exact rtwo8_any w a b ha hb
  · exact rtwo9_any w a b ha hb
  · exact rtwo10_any w a b ha hb
  · exact rtwo11_any w a b ha hb
  · exact rtwo12_any w a b ha hb
  · exact rtwo13_any w a b ha hb
  · exact rtwo14_any w a b ha hb
  · exact rtwo15_any w a b ha hb
end Go.Proofs.YtgdjhhfbpalkdaaGreat
