/- The reference's Range of a subtype. -/
import Derived.Test.YtgdjhhfbpalkdaaK17
namespace Go.Proofs.Ytgdjhhfbpalkdaa
open Go.RowKit
def atIs (i n : Int) : Bool := decide (0 ≤ i) && decide (i < n)
set_option maxRecDepth 100000 in
theorem atIs_any (w : World) (i n : Int) : Calls Try.prog 61 #[.int .i64 i, .int .i64 n] w (RetV (.bool (atIs i n)) w) := by
  by_cases h1 : 0 ≤ i
  · by_cases h2 : i < n
    · have HR : Hid (atIs i n = true) := by rw [Hid, atIs, decide_eq_true h1, decide_eq_true h2]; rfl
      go_enter Try.func61, Try.ntmps61
      go_wp2_with fail
      rw [HR.out]
      exact bodyPost_v rfl (res1 Try.results61 (resT rfl)) (by repeat (first | with_reducible exact HK.out | with_reducible exact Kept.refl _ _ | with_reducible refine Kept.prev ?_ | with_reducible refine Kept.alloc' ?_ _ | with_reducible refine Kept.drew' ?_ | with_reducible refine Kept.setB ?_ _ _ _ (by omega) | with_reducible refine Kept.row' ?_ _ _ (by omega) | with_reducible refine Kept.map' ?_ _ _ (by omega)))
    · have HR : Hid (atIs i n = false) := by rw [Hid, atIs, decide_eq_false h2, Bool.and_false]
      have h3 : decide (i < n) = false := decide_eq_false h2
      go_enter Try.func61, Try.ntmps61
      go_wp2_with fail
      rw [HR.out]
      exact bodyPost_v rfl (res1 Try.results61 (resT rfl)) (by repeat (first | with_reducible exact HK.out | with_reducible exact Kept.refl _ _ | with_reducible refine Kept.prev ?_ | with_reducible refine Kept.alloc' ?_ _ | with_reducible refine Kept.drew' ?_ | with_reducible refine Kept.setB ?_ _ _ _ (by omega) | with_reducible refine Kept.row' ?_ _ _ (by omega) | with_reducible refine Kept.map' ?_ _ _ (by omega)))
  · have HR : Hid (atIs i n = false) := by rw [Hid, atIs, decide_eq_false h1, Bool.false_and]
    have h3 : decide (0 ≤ i) = false := decide_eq_false h1
    go_enter Try.func61, Try.ntmps61
    go_wp2_with fail
    rw [HR.out]
    exact bodyPost_v rfl (res1 Try.results61 (resT rfl)) (by repeat (first | with_reducible exact HK.out | with_reducible exact Kept.refl _ _ | with_reducible refine Kept.prev ?_ | with_reducible refine Kept.alloc' ?_ _ | with_reducible refine Kept.drew' ?_ | with_reducible refine Kept.setB ?_ _ _ _ (by omega) | with_reducible refine Kept.row' ?_ _ _ (by omega) | with_reducible refine Kept.map' ?_ _ _ (by omega)))
theorem atIs_yes {i n : Int} (h1 : 0 ≤ i) (h2 : i < n) : atIs i n = true := by simp [atIs, h1, h2]
theorem atIs_no {i n : Int} (h : i < 0 ∨ n ≤ i) : atIs i n = false := by
  unfold atIs
  rcases h with h | h
  · rw [decide_eq_false (show ¬ 0 ≤ i by omega)]
    rfl
  · rw [decide_eq_false (show ¬ i < n by omega), Bool.and_false]
theorem kind_out {t : Tab} {n : Int} (h : n < 0 ∨ (t.subs.length : Int) ≤ n) : kindP t n = 0 := by
  unfold kindP tyP
  rw [if_pos h]
theorem kind_bad {t : Tab} {n : Nat} {s : SubtV} (hs : t.subs[n]? = some s) (h : s.t < 0 ∨ (t.types.length : Int) ≤ s.t) : kindP t (n : Int) = 0 := by
  have hn := (List.getElem?_eq_some_iff.1 hs).1
  have e : t.subs.getD n default = s := by simp [List.getD_eq_getElem?_getD, hs]
  unfold kindP tyP
  rw [if_neg (by omega)]
  simp only [Int.toNat_natCast, e]
  rw [if_pos h]
theorem kind_ok {t : Tab} {n m : Nat} {s : SubtV} {y : TyV} (hs : t.subs[n]? = some s) (hm : s.t = (m : Int)) (hy : t.types[m]? = some y) : kindP t (n : Int) = y.kind := by
  have hn := (List.getElem?_eq_some_iff.1 hs).1
  have hml := (List.getElem?_eq_some_iff.1 hy).1
  have e : t.subs.getD n default = s := by simp [List.getD_eq_getElem?_getD, hs]
  have e2 : t.types.getD m default = y := by simp [List.getD_eq_getElem?_getD, hy]
  unfold kindP tyP
  rw [if_neg (by omega)]
  simp only [Int.toNat_natCast, e]
  rw [if_neg (by omega), hm]
  simp only [Int.toNat_natCast, e2]
set_option maxRecDepth 100000 in
set_option maxHeartbeats 1000000 in
theorem rkind_any (w : World) (v : TabV) (t : Tab) (n : Int) (hT : TabIn w v t) : Calls Try.prog 44 #[.agg (v.cells t), .int .i64 n] w (RetV (.int .u8 (kindP t n)) w) := by
  have HT := Lib.hid hT
  have HA := Lib.hid (fun w i n => atIs_any w i n)
  clear hT
  unfold TabV.cells
  by_cases h0 : n < 0 ∨ (t.subs.length : Int) ≤ n
  · have HR : Hid (kindP t n = 0) := kind_out h0
    have a1 := atIs_no h0
    clear h0
    go_enter Try.func44, Try.ntmps44
    go_wp2_with fail
    refine wp_region_head 19 0 (fun _ => .cells #[] 0) (by kernel_rfl) (by kernel_rfl) (fun i o h1 h2 => by omega) (fun _ _ _ _ _ h => h) ?_; apply Exists.intro; refine ⟨fun U hU hN => ?_, ?_⟩; simp only [List.take_succ_cons, List.take_zero]
    · repeat (go_big_quiet_step (exact Calls.headV hU (HA.out _ _ _)))
      refine wpQuiet_nil ?_
      exact rfl
    simp only [List.drop_succ_cons, List.drop_zero, List.take_succ_cons, List.take_zero]
    intro w7 hk7 _
    haveI p_w7 : PrevWorld w7 _ := ⟨hk7⟩
    clear hk7
    go_wp2_with fail
    rw [HR.out]
    exact bodyPost_v rfl (res1 Try.results44 (resT rfl)) (by repeat (first | with_reducible exact HK.out | with_reducible exact Kept.refl _ _ | with_reducible refine Kept.prev ?_ | with_reducible refine Kept.alloc' ?_ _ | with_reducible refine Kept.drew' ?_ | with_reducible refine Kept.setB ?_ _ _ _ (by omega) | with_reducible refine Kept.row' ?_ _ _ (by omega) | with_reducible refine Kept.map' ?_ _ _ (by omega)))
  obtain ⟨n, rfl⟩ := Int.eq_ofNat_of_zero_le (by omega : 0 ≤ n)
  have a1 := atIs_yes (i := (n : Int)) (n := (t.subs.length : Int)) (by omega) (by omega)
  obtain ⟨s, b, o, hs, ha, hat, _⟩ := tab_sub HT.out (by omega : n < t.subs.length)
  have j1 : (n : Int) < (t.subs.length : Int) := by omega
  rw [ha]
  clear ha h0
  by_cases h0 : s.t < 0 ∨ (t.types.length : Int) ≤ s.t
  · have HR : Hid (kindP t (n : Int) = 0) := kind_bad hs h0
    have a2 := atIs_no h0
    clear h0 hs
    go_enter Try.func44, Try.ntmps44
    go_wp2_with fail
    refine wp_region_head 19 0 (fun _ => .cells #[] 0) (by kernel_rfl) (by kernel_rfl) (fun i o h1 h2 => by omega) (fun _ _ _ _ _ h => h) ?_; apply Exists.intro; refine ⟨fun U hU hN => ?_, ?_⟩; simp only [List.take_succ_cons, List.take_zero]
    · repeat (go_big_quiet_step (exact Calls.headV hU (HA.out _ _ _)))
      refine wpQuiet_nil ?_
      exact rfl
    simp only [List.drop_succ_cons, List.drop_zero, List.take_succ_cons, List.take_zero]
    intro w7 hk7 _
    haveI p_w7 : PrevWorld w7 _ := ⟨hk7⟩
    clear hk7
    go_wp2_with fail
    rw [HR.out]
    exact bodyPost_v rfl (res1 Try.results44 (resT rfl)) (by repeat (first | with_reducible exact HK.out | with_reducible exact Kept.refl _ _ | with_reducible refine Kept.prev ?_ | with_reducible refine Kept.alloc' ?_ _ | with_reducible refine Kept.drew' ?_ | with_reducible refine Kept.setB ?_ _ _ _ (by omega) | with_reducible refine Kept.row' ?_ _ _ (by omega) | with_reducible refine Kept.map' ?_ _ _ (by omega)))
  obtain ⟨m, hm⟩ := Int.eq_ofNat_of_zero_le (by omega : 0 ≤ s.t)
  have a2 := atIs_yes (i := (m : Int)) (n := (t.types.length : Int)) (by omega) (by omega)
  obtain ⟨y, b2, o2, hy, ha2, hat2, _⟩ := tab_ty HT.out (by omega : m < t.types.length)
  have HR := Lib.hid (kind_ok hs hm hy)
  have j2 : (m : Int) < (t.types.length : Int) := by omega
  rw [ha2]
  clear ha2 h0 hs hy
  go_enter Try.func44, Try.ntmps44
  go_wp2_with fail
  refine wp_region_head 19 0 (fun _ => .cells #[] 0) (by kernel_rfl) (by kernel_rfl) (fun i o h1 h2 => by omega) (fun _ _ _ _ _ h => h) ?_; apply Exists.intro; refine ⟨fun U hU hN => ?_, ?_⟩; simp only [List.take_succ_cons, List.take_zero]
  · repeat (go_big_quiet_step (exact Calls.headV hU (HA.out _ _ _)))
    refine wpQuiet_nil ?_
    exact rfl
  simp only [List.drop_succ_cons, List.drop_zero, List.take_succ_cons, List.take_zero]
  intro w7 hk7 _
  haveI p_w7 : PrevWorld w7 _ := ⟨hk7⟩
  clear hk7
  go_wp2_with fail
  go_region
  go_wp2_with fail
  rw [HR.out]
  exact bodyPost_v rfl (res1 Try.results44 (resT rfl)) (by repeat (first | with_reducible exact HK.out | with_reducible exact Kept.refl _ _ | with_reducible refine Kept.prev ?_ | with_reducible refine Kept.alloc' ?_ _ | with_reducible refine Kept.drew' ?_ | with_reducible refine Kept.setB ?_ _ _ _ (by omega) | with_reducible refine Kept.row' ?_ _ _ (by omega) | with_reducible refine Kept.map' ?_ _ _ (by omega)))
set_option maxRecDepth 100000 in
set_option maxHeartbeats 1000000 in
theorem rscalar_any (w : World) (v : TabV) (t : Tab) (n : Int) (hT : TabIn w v t) : Calls Try.prog 29 #[.agg (v.cells t), .int .i64 n] w (RetV (.bool (rangeP t n).isSome) w) := by
  have HK := Lib.hid (fun w' (hk : Kept [] w w') => rkind_any w' v t n (hT.kept hk))
  have HR : Hid ((rangeP t n).isSome = (kindP t n == 2 || kindP t n == 3)) := by
    rw [Hid, rangeP]
    by_cases h2 : kindP t n = 2
    · simp [h2]
    by_cases h3 : kindP t n = 3 <;> simp [h2, h3]
  clear hT
  unfold TabV.cells at *
  generalize kindP t n = k at *
  by_cases h2 : k = 2
  · subst h2
    go_enter Try.func29, Try.ntmps29
    go_wp2_with fail
    refine (HK.out _ (by repeat (first | with_reducible exact HK.out | with_reducible exact Kept.refl _ _ | with_reducible refine Kept.prev ?_ | with_reducible refine Kept.alloc' ?_ _ | with_reducible refine Kept.drew' ?_ | with_reducible refine Kept.setB ?_ _ _ _ (by omega) | with_reducible refine Kept.row' ?_ _ _ (by omega) | with_reducible refine Kept.map' ?_ _ _ (by omega)))).mono ?_; rintro e w2 ⟨rfl, hk_w2⟩; haveI p_w2 : PrevWorld w2 _ := ⟨hk_w2⟩; have hz_w2 : w.heap.size ≤ w2.heap.size := Kept.size (by repeat (first | with_reducible exact HK.out | with_reducible exact Kept.refl _ _ | with_reducible refine Kept.prev ?_ | with_reducible refine Kept.alloc' ?_ _ | with_reducible refine Kept.drew' ?_ | with_reducible refine Kept.setB ?_ _ _ _ (by omega) | with_reducible refine Kept.row' ?_ _ _ (by omega) | with_reducible refine Kept.map' ?_ _ _ (by omega))); clear hk_w2
    go_wp2_with fail
    rw [HR.out]
    exact bodyPost_v rfl (res1 Try.results29 (resT rfl)) (by repeat (first | with_reducible exact HK.out | with_reducible exact Kept.refl _ _ | with_reducible refine Kept.prev ?_ | with_reducible refine Kept.alloc' ?_ _ | with_reducible refine Kept.drew' ?_ | with_reducible refine Kept.setB ?_ _ _ _ (by omega) | with_reducible refine Kept.row' ?_ _ _ (by omega) | with_reducible refine Kept.map' ?_ _ _ (by omega)))
  · have e2 : (k == 2) = false := by simp [h2]
    clear h2
    go_enter Try.func29, Try.ntmps29
    go_wp2_with fail
    refine (HK.out _ (by repeat (first | with_reducible exact HK.out | with_reducible exact Kept.refl _ _ | with_reducible refine Kept.prev ?_ | with_reducible refine Kept.alloc' ?_ _ | with_reducible refine Kept.drew' ?_ | with_reducible refine Kept.setB ?_ _ _ _ (by omega) | with_reducible refine Kept.row' ?_ _ _ (by omega) | with_reducible refine Kept.map' ?_ _ _ (by omega)))).mono ?_; rintro e w2 ⟨rfl, hk_w2⟩; haveI p_w2 : PrevWorld w2 _ := ⟨hk_w2⟩; have hz_w2 : w.heap.size ≤ w2.heap.size := Kept.size (by repeat (first | with_reducible exact HK.out | with_reducible exact Kept.refl _ _ | with_reducible refine Kept.prev ?_ | with_reducible refine Kept.alloc' ?_ _ | with_reducible refine Kept.drew' ?_ | with_reducible refine Kept.setB ?_ _ _ _ (by omega) | with_reducible refine Kept.row' ?_ _ _ (by omega) | with_reducible refine Kept.map' ?_ _ _ (by omega))); clear hk_w2
    go_wp2_with fail
    refine (HK.out _ (by repeat (first | with_reducible exact HK.out | with_reducible exact Kept.refl _ _ | with_reducible refine Kept.prev ?_ | with_reducible refine Kept.alloc' ?_ _ | with_reducible refine Kept.drew' ?_ | with_reducible refine Kept.setB ?_ _ _ _ (by omega) | with_reducible refine Kept.row' ?_ _ _ (by omega) | with_reducible refine Kept.map' ?_ _ _ (by omega)))).mono ?_; rintro e w3 ⟨rfl, hk_w3⟩; haveI p_w3 : PrevWorld w3 _ := ⟨hk_w3⟩; have hz_w3 : w.heap.size ≤ w3.heap.size := Kept.size (by repeat (first | with_reducible exact HK.out | with_reducible exact Kept.refl _ _ | with_reducible refine Kept.prev ?_ | with_reducible refine Kept.alloc' ?_ _ | with_reducible refine Kept.drew' ?_ | with_reducible refine Kept.setB ?_ _ _ _ (by omega) | with_reducible refine Kept.row' ?_ _ _ (by omega) | with_reducible refine Kept.map' ?_ _ _ (by omega))); clear hk_w3
    go_wp2_with fail
    rw [HR.out, e2, Bool.false_or]
    exact bodyPost_v rfl (res1 Try.results29 (resT rfl)) (by repeat (first | with_reducible exact HK.out | with_reducible exact Kept.refl _ _ | with_reducible refine Kept.prev ?_ | with_reducible refine Kept.alloc' ?_ _ | with_reducible refine Kept.drew' ?_ | with_reducible refine Kept.setB ?_ _ _ _ (by omega) | with_reducible refine Kept.row' ?_ _ _ (by omega) | with_reducible refine Kept.map' ?_ _ _ (by omega)))
set_option maxRecDepth 100000 in
set_option maxHeartbeats 1000000 in
theorem rrange_any (w : World) (v : TabV) (t : Tab) (n : Int) (hT : TabIn w v t) : Calls Try.prog 15 #[.agg (v.cells t), .int .i64 n] w (RetV (bd3V (rangeP t n)) w) := by
  have HT := Lib.hid hT
  have HS := Lib.hid (fun w' (hk : Kept [] w w') => rscalar_any w' v t n (hT.kept hk))
  clear hT
  unfold TabV.cells at *
  cases hr : rangeP t n with
  | none =>
    rw [hr] at HS
    clear hr
    go_enter Try.func15, Try.ntmps15
    go_wp2_with fail
    refine (HS.out _ (by repeat (first | with_reducible exact HK.out | with_reducible exact Kept.refl _ _ | with_reducible refine Kept.prev ?_ | with_reducible refine Kept.alloc' ?_ _ | with_reducible refine Kept.drew' ?_ | with_reducible refine Kept.setB ?_ _ _ _ (by omega) | with_reducible refine Kept.row' ?_ _ _ (by omega) | with_reducible refine Kept.map' ?_ _ _ (by omega)))).mono ?_; rintro e w2 ⟨rfl, hk_w2⟩; haveI p_w2 : PrevWorld w2 _ := ⟨hk_w2⟩; have hz_w2 : w.heap.size ≤ w2.heap.size := Kept.size (by repeat (first | with_reducible exact HK.out | with_reducible exact Kept.refl _ _ | with_reducible refine Kept.prev ?_ | with_reducible refine Kept.alloc' ?_ _ | with_reducible refine Kept.drew' ?_ | with_reducible refine Kept.setB ?_ _ _ _ (by omega) | with_reducible refine Kept.row' ?_ _ _ (by omega) | with_reducible refine Kept.map' ?_ _ _ (by omega))); clear hk_w2
    go_wp2_with fail
    exact bodyPost_v rfl (res3 Try.results15 (resT rfl) (resT rfl) (resT rfl)) (by repeat (first | with_reducible exact HK.out | with_reducible exact Kept.refl _ _ | with_reducible refine Kept.prev ?_ | with_reducible refine Kept.alloc' ?_ _ | with_reducible refine Kept.drew' ?_ | with_reducible refine Kept.setB ?_ _ _ _ (by omega) | with_reducible refine Kept.row' ?_ _ _ (by omega) | with_reducible refine Kept.map' ?_ _ _ (by omega)))
  | some r =>
    rw [hr] at HS
    have hk : kindP t n ≠ 0 := fun h => by
      unfold rangeP at hr
      rw [h] at hr
      cases hr
    have h0 : ¬ (n < 0 ∨ (t.subs.length : Int) ≤ n) := fun h => hk (kind_out h)
    obtain ⟨n, rfl⟩ := Int.eq_ofNat_of_zero_le (by omega : 0 ≤ n)
    obtain ⟨s, b, o, hs, ha, hat, _⟩ := tab_sub HT.out (by omega : n < t.subs.length)
    have hrs : r = (s.lo, s.hi) := by
      unfold rangeP subP at hr
      split at hr
      · have e : t.subs.getD n default = s := by simp [List.getD_eq_getElem?_getD, hs]
        rw [Int.toNat_natCast, e] at hr
        exact (Option.some.inj hr).symm
      · cases hr
    subst hrs
    have j1 : (n : Int) < (t.subs.length : Int) := by omega
    rw [ha] at *
    clear ha h0 hs hr hk
    go_enter Try.func15, Try.ntmps15
    go_wp2_with fail
    refine (HS.out _ (by repeat (first | with_reducible exact HK.out | with_reducible exact Kept.refl _ _ | with_reducible refine Kept.prev ?_ | with_reducible refine Kept.alloc' ?_ _ | with_reducible refine Kept.drew' ?_ | with_reducible refine Kept.setB ?_ _ _ _ (by omega) | with_reducible refine Kept.row' ?_ _ _ (by omega) | with_reducible refine Kept.map' ?_ _ _ (by omega)))).mono ?_; rintro e w2 ⟨rfl, hk_w2⟩; haveI p_w2 : PrevWorld w2 _ := ⟨hk_w2⟩; have hz_w2 : w.heap.size ≤ w2.heap.size := Kept.size (by repeat (first | with_reducible exact HK.out | with_reducible exact Kept.refl _ _ | with_reducible refine Kept.prev ?_ | with_reducible refine Kept.alloc' ?_ _ | with_reducible refine Kept.drew' ?_ | with_reducible refine Kept.setB ?_ _ _ _ (by omega) | with_reducible refine Kept.row' ?_ _ _ (by omega) | with_reducible refine Kept.map' ?_ _ _ (by omega))); clear hk_w2
    go_wp2_with fail
    go_region
    go_wp2_with fail
    exact bodyPost_v rfl (res3 Try.results15 (resT rfl) (resT rfl) (resT rfl)) (by repeat (first | with_reducible exact HK.out | with_reducible exact Kept.refl _ _ | with_reducible refine Kept.prev ?_ | with_reducible refine Kept.alloc' ?_ _ | with_reducible refine Kept.drew' ?_ | with_reducible refine Kept.setB ?_ _ _ _ (by omega) | with_reducible refine Kept.row' ?_ _ _ (by omega) | with_reducible refine Kept.map' ?_ _ _ (by omega)))
end Go.Proofs.Ytgdjhhfbpalkdaa
