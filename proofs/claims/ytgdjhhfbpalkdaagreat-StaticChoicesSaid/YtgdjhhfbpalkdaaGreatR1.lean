/- The reference: plain, entity, Mark, marked. -/
import Derived.Test.YtgdjhhfbpalkdaaGreatX1
namespace Go.Proofs.YtgdjhhfbpalkdaaGreat
open Go.RowKit
def entIn (t : Tab) (e : Int) : Bool := decide (0 ≤ e) && decide (e < (t.ents.length : Int))
theorem entIn_no {t : Tab} {e : Int} (h : e < 0 ∨ (t.ents.length : Int) ≤ e) : entIn t e = false := by
  unfold entIn
  rcases h with h | h
  · rw [decide_eq_false (by omega)]; rfl
  · rw [decide_eq_false (show ¬ e < (t.ents.length : Int) by omega), Bool.and_false]
theorem entIn_yes {t : Tab} {e : Int} (h1 : 0 ≤ e) (h2 : e < (t.ents.length : Int)) : entIn t e = true := by
  unfold entIn
  rw [decide_eq_true h1, decide_eq_true h2]; rfl
theorem ent_zero {t : Tab} {e : Int} (h : entIn t e = false) : entP t e = zeroE := by
  apply ent_out
  apply Classical.byContradiction
  intro hc
  rw [entIn_yes (by omega) (by omega)] at h
  cases h
def entV2 (t : Tab) (e : Int) : Value := .tuple #[entA (entP t e), .bool (entIn t e)]

set_option maxRecDepth 100000 in
set_option maxHeartbeats 1000000 in
theorem rentity_any (w : World) (v : TabV) (t : Tab) (x : ExV) (hT : TabIn w v t) : Calls Tryz.prog 23 #[.agg (v.cells t), .agg x.cells.toArray] w (RetV (entV2 t x.ent) w) := by
  have HT := Lib.hid hT
  have q1 := hT.el
  clear hT
  unfold TabV.cells
  unfold entV2
  generalize he : x.ent = e
  by_cases h0 : e < 0
  · have HR : Hid (entP t e = zeroE) := ent_out (.inl h0)
    have HI : Hid (entIn t e = false) := entIn_no (.inl h0)
    go_enter Tryz.func23, Tryz.ntmps23
    go_wp2_with fail
    rw [HR.out, HI.out]
    exact bodyPost_v rfl (res2 Tryz.results23 (resC rfl inferInstance) (resT rfl)) (by repeat (first | with_reducible exact HK.out | with_reducible exact Kept.refl _ _ | with_reducible refine Kept.prev ?_ | with_reducible refine Kept.alloc' ?_ _ | with_reducible refine Kept.drew' ?_ | with_reducible refine Kept.setB ?_ _ _ _ (by omega) | with_reducible refine Kept.row' ?_ _ _ (by omega) | with_reducible refine Kept.map' ?_ _ _ (by omega)))
  obtain ⟨n, rfl⟩ := Int.eq_ofNat_of_zero_le (by omega : 0 ≤ e)
  by_cases h1 : t.ents.length ≤ n
  · have HR : Hid (entP t (n : Int) = zeroE) := ent_out (.inr (by omega))
    have HI : Hid (entIn t (n : Int) = false) := entIn_no (.inr (by omega))
    have h2 : (t.ents.length : Int) ≤ (n : Int) := by omega
    go_enter Tryz.func23, Tryz.ntmps23
    go_wp2_with fail
    rw [HR.out, HI.out]
    exact bodyPost_v rfl (res2 Tryz.results23 (resC rfl inferInstance) (resT rfl)) (by repeat (first | with_reducible exact HK.out | with_reducible exact Kept.refl _ _ | with_reducible refine Kept.prev ?_ | with_reducible refine Kept.alloc' ?_ _ | with_reducible refine Kept.drew' ?_ | with_reducible refine Kept.setB ?_ _ _ _ (by omega) | with_reducible refine Kept.row' ?_ _ _ (by omega) | with_reducible refine Kept.map' ?_ _ _ (by omega)))
  obtain ⟨y, b, o, hy, ha, hat, _⟩ := tab_ent HT.out (by omega : n < t.ents.length)
  have HR := Lib.hid (ent_in hy)
  have h2 : (n : Int) < (t.ents.length : Int) := by omega
  have HI : Hid (entIn t (n : Int) = true) := entIn_yes (by omega) h2
  rw [ha]
  clear hy ha
  go_enter Tryz.func23, Tryz.ntmps23
  go_wp2_with fail
  rw [HR.out, HI.out]
  exact bodyPost_v rfl (res2 Tryz.results23 (resC rfl inferInstance) (resT rfl)) (by repeat (first | with_reducible exact HK.out | with_reducible exact Kept.refl _ _ | with_reducible refine Kept.prev ?_ | with_reducible refine Kept.alloc' ?_ _ | with_reducible refine Kept.drew' ?_ | with_reducible refine Kept.setB ?_ _ _ _ (by omega) | with_reducible refine Kept.row' ?_ _ _ (by omega) | with_reducible refine Kept.map' ?_ _ _ (by omega)))

set_option maxRecDepth 100000 in
set_option maxHeartbeats 1000000 in
theorem rplain_any (w : World) (v : TabV) (t : Tab) (n : Int) (hT : TabIn w v t) : Calls Tryz.prog 58 #[.agg (v.cells t), .int .i64 n] w (RetV (.bool (plainP t n).isSome) w) := by
  have HT := Lib.hid hT
  have HC := Lib.hid (fun w' (hk : Kept [] w w') => rrange_any w' v t n (hT.kept hk))
  have HS := Lib.hid (fun w' m (hk : Kept [] w w') => rspan_any w' v t m (hT.kept hk))
  have HP : Hid (plainP t n = match rangeP t n with | none => none | some b => match spanP t (subP t n).t with | none => none | some a => some (b, a)) := rfl
  unfold TabV.cells at HC HS
  unfold bd3V at HC HS
  unfold TabV.cells
  clear hT
  cases hr : rangeP t n with
  | none =>
    have HW : Hid ((plainP t n).isSome = false) := by rw [Hid, HP.out, hr]; rfl
    rw [hr] at HC
    clear hr HP HS
    go_enter Tryz.func58, Tryz.ntmps58
    go_wp2_with fail
    refine (HC.out _ (by repeat (first | with_reducible exact HK.out | with_reducible exact Kept.refl _ _ | with_reducible refine Kept.prev ?_ | with_reducible refine Kept.alloc' ?_ _ | with_reducible refine Kept.drew' ?_ | with_reducible refine Kept.setB ?_ _ _ _ (by omega) | with_reducible refine Kept.row' ?_ _ _ (by omega) | with_reducible refine Kept.map' ?_ _ _ (by omega)))).mono ?_; rintro e w1 ⟨rfl, hk_w1⟩; haveI p_w1 : PrevWorld w1 _ := ⟨hk_w1⟩; have hz_w1 : w.heap.size ≤ w1.heap.size := Kept.size (by repeat (first | with_reducible exact HK.out | with_reducible exact Kept.refl _ _ | with_reducible refine Kept.prev ?_ | with_reducible refine Kept.alloc' ?_ _ | with_reducible refine Kept.drew' ?_ | with_reducible refine Kept.setB ?_ _ _ _ (by omega) | with_reducible refine Kept.row' ?_ _ _ (by omega) | with_reducible refine Kept.map' ?_ _ _ (by omega))); clear hk_w1
    go_wp2_with fail
    rw [HW.out]
    exact bodyPost_v rfl (res1 Tryz.results58 (resT rfl)) (by repeat (first | with_reducible exact HK.out | with_reducible exact Kept.refl _ _ | with_reducible refine Kept.prev ?_ | with_reducible refine Kept.alloc' ?_ _ | with_reducible refine Kept.drew' ?_ | with_reducible refine Kept.setB ?_ _ _ _ (by omega) | with_reducible refine Kept.row' ?_ _ _ (by omega) | with_reducible refine Kept.map' ?_ _ _ (by omega)))
  | some b =>
    obtain ⟨m, rfl, hm, rfl⟩ := range_some hr
    obtain ⟨s, bs, os, hs, ha, hat, _⟩ := tab_sub HT.out hm
    have e : subP t (m : Int) = s := by simp [subP, List.getD_eq_getElem?_getD, hs]
    have HW : Hid ((plainP t (m : Int)).isSome = (spanP t s.t).isSome) := by
      rw [Hid, HP.out, hr, e]
      cases spanP t s.t <;> rfl
    have h2 : (m : Int) < (t.subs.length : Int) := by omega
    rw [hr] at HC
    rw [ha] at HC HS ⊢
    clear hr HP ha hs e hm
    go_enter Tryz.func58, Tryz.ntmps58
    go_wp2_with fail
    refine (HC.out _ (by repeat (first | with_reducible exact HK.out | with_reducible exact Kept.refl _ _ | with_reducible refine Kept.prev ?_ | with_reducible refine Kept.alloc' ?_ _ | with_reducible refine Kept.drew' ?_ | with_reducible refine Kept.setB ?_ _ _ _ (by omega) | with_reducible refine Kept.row' ?_ _ _ (by omega) | with_reducible refine Kept.map' ?_ _ _ (by omega)))).mono ?_; rintro e w1 ⟨rfl, hk_w1⟩; haveI p_w1 : PrevWorld w1 _ := ⟨hk_w1⟩; have hz_w1 : w.heap.size ≤ w1.heap.size := Kept.size (by repeat (first | with_reducible exact HK.out | with_reducible exact Kept.refl _ _ | with_reducible refine Kept.prev ?_ | with_reducible refine Kept.alloc' ?_ _ | with_reducible refine Kept.drew' ?_ | with_reducible refine Kept.setB ?_ _ _ _ (by omega) | with_reducible refine Kept.row' ?_ _ _ (by omega) | with_reducible refine Kept.map' ?_ _ _ (by omega))); clear hk_w1
    go_wp2_with fail
    refine wp_region_head 15 0 (fun _ => .cells #[] 0) (by kernel_rfl) (by kernel_rfl) (fun i o h1 h2 => by omega) (fun _ _ _ _ _ h => h) ?_; apply Exists.intro; refine ⟨fun U hU hN => ?_, ?_⟩; simp only [List.take_succ_cons, List.take_zero]
    · repeat (go_big_quiet_step (exact Calls.headV hU (HS.out _ _ (Kept.trans (by repeat (first | with_reducible exact HK.out | with_reducible exact Kept.refl _ _ | with_reducible refine Kept.prev ?_ | with_reducible refine Kept.alloc' ?_ _ | with_reducible refine Kept.drew' ?_ | with_reducible refine Kept.setB ?_ _ _ _ (by omega) | with_reducible refine Kept.row' ?_ _ _ (by omega) | with_reducible refine Kept.map' ?_ _ _ (by omega))) (AfterU.prop _)))))
      refine wpQuiet_nil ?_
      exact rfl
    simp only [List.drop_succ_cons, List.drop_zero, List.take_zero]
    intro w2 hk_w2 _
    haveI p_w2 : PrevWorld w2 _ := ⟨hk_w2⟩
    clear hk_w2
    go_wp2_with fail
    rw [HW.out]
    exact bodyPost_v rfl (res1 Tryz.results58 (resT rfl)) (by repeat (first | with_reducible exact HK.out | with_reducible exact Kept.refl _ _ | with_reducible refine Kept.prev ?_ | with_reducible refine Kept.alloc' ?_ _ | with_reducible refine Kept.drew' ?_ | with_reducible refine Kept.setB ?_ _ _ _ (by omega) | with_reducible refine Kept.row' ?_ _ _ (by omega) | with_reducible refine Kept.map' ?_ _ _ (by omega)))

/-- The subtype that an expression denotes; whether it is a mark. -/
def rmarkP (t : Tab) (x : ExV) : Int × Bool := if (namedP x && typedP (entP t x.ent)) = true then ((entP t x.ent).sub, true) else (0, false)
def rmV (r : Int × Bool) : Value := .tuple #[.int .i64 r.1, .bool r.2]
theorem rmark_no {t : Tab} {x : ExV} (h : (namedP x && typedP (entP t x.ent)) = false) : rmarkP t x = (0, false) := by unfold rmarkP; rw [h]; rfl
theorem rmark_yes {t : Tab} {x : ExV} (h : (namedP x && typedP (entP t x.ent)) = true) : rmarkP t x = ((entP t x.ent).sub, true) := by unfold rmarkP; rw [if_pos h]

set_option maxRecDepth 100000 in
set_option maxHeartbeats 1000000 in
theorem rMark_any (w : World) (v : TabV) (t : Tab) (x : ExV) (hT : TabIn w v t) : Calls Tryz.prog 56 #[.agg (v.cells t), .agg x.cells.toArray] w (RetV (rmV (rmarkP t x)) w) := by
  have HC := Lib.hid (fun w' (hk : Kept [] w w') => rentity_any w' v t x (hT.kept hk))
  have HZ := Lib.hid (fun h => ent_zero (t := t) (e := x.ent) h)
  have HN := Lib.hid (fun h => rmark_no (t := t) (x := x) h)
  have HY := Lib.hid (fun h => rmark_yes (t := t) (x := x) h)
  have HV1 : Hid (namedP x = (x.kind == 3 || x.kind == 4)) := rfl
  have HV2 : Hid (typedP (entP t x.ent) = ((entP t x.ent).kind == 5 || (entP t x.ent).kind == 6)) := rfl
  unfold TabV.cells at *
  unfold entV2 at HC
  unfold entA at HC
  clear hT
  cases hi : entIn t x.ent
  · have HW : Hid (rmarkP t x = (0, false)) := HN.out (by rw [HZ.out hi]; simp [zeroE, typedP])
    rw [hi] at HC
    clear hi HN HY HZ HV1 HV2
    go_enter Tryz.func56, Tryz.ntmps56
    go_wp2_with fail
    refine (HC.out _ (by repeat (first | with_reducible exact HK.out | with_reducible exact Kept.refl _ _ | with_reducible refine Kept.prev ?_ | with_reducible refine Kept.alloc' ?_ _ | with_reducible refine Kept.drew' ?_ | with_reducible refine Kept.setB ?_ _ _ _ (by omega) | with_reducible refine Kept.row' ?_ _ _ (by omega) | with_reducible refine Kept.map' ?_ _ _ (by omega)))).mono ?_; rintro e w1 ⟨rfl, hk_w1⟩; haveI p_w1 : PrevWorld w1 _ := ⟨hk_w1⟩; have hz_w1 : w.heap.size ≤ w1.heap.size := Kept.size (by repeat (first | with_reducible exact HK.out | with_reducible exact Kept.refl _ _ | with_reducible refine Kept.prev ?_ | with_reducible refine Kept.alloc' ?_ _ | with_reducible refine Kept.drew' ?_ | with_reducible refine Kept.setB ?_ _ _ _ (by omega) | with_reducible refine Kept.row' ?_ _ _ (by omega) | with_reducible refine Kept.map' ?_ _ _ (by omega))); clear hk_w1
    clear HC
    generalize entP t x.ent = y at *
    go_wp2_with fail
    rw [HW.out]
    exact bodyPost_v rfl (res2 Tryz.results56 (resT rfl) (resT rfl)) (by repeat (first | with_reducible exact HK.out | with_reducible exact Kept.refl _ _ | with_reducible refine Kept.prev ?_ | with_reducible refine Kept.alloc' ?_ _ | with_reducible refine Kept.drew' ?_ | with_reducible refine Kept.setB ?_ _ _ _ (by omega) | with_reducible refine Kept.row' ?_ _ _ (by omega) | with_reducible refine Kept.map' ?_ _ _ (by omega)))
  rw [hi] at HC
  clear hi HZ
  generalize entP t x.ent = y at *
  by_cases k3 : x.kind = 3
  ·
    by_cases t5 : y.kind = 5
    ·
      have HW : Hid (rmarkP t x = (y.sub, true)) := HY.out (by rw [HV1.out, HV2.out]; simp [*])
      clear HN HY HV1 HV2
      go_enter Tryz.func56, Tryz.ntmps56
      go_wp2_with fail
      refine (HC.out _ (by repeat (first | with_reducible exact HK.out | with_reducible exact Kept.refl _ _ | with_reducible refine Kept.prev ?_ | with_reducible refine Kept.alloc' ?_ _ | with_reducible refine Kept.drew' ?_ | with_reducible refine Kept.setB ?_ _ _ _ (by omega) | with_reducible refine Kept.row' ?_ _ _ (by omega) | with_reducible refine Kept.map' ?_ _ _ (by omega)))).mono ?_; rintro e w1 ⟨rfl, hk_w1⟩; haveI p_w1 : PrevWorld w1 _ := ⟨hk_w1⟩; have hz_w1 : w.heap.size ≤ w1.heap.size := Kept.size (by repeat (first | with_reducible exact HK.out | with_reducible exact Kept.refl _ _ | with_reducible refine Kept.prev ?_ | with_reducible refine Kept.alloc' ?_ _ | with_reducible refine Kept.drew' ?_ | with_reducible refine Kept.setB ?_ _ _ _ (by omega) | with_reducible refine Kept.row' ?_ _ _ (by omega) | with_reducible refine Kept.map' ?_ _ _ (by omega))); clear hk_w1
      clear HC
      go_wp2_with fail
      rw [HW.out]
      exact bodyPost_v rfl (res2 Tryz.results56 (resT rfl) (resT rfl)) (by repeat (first | with_reducible exact HK.out | with_reducible exact Kept.refl _ _ | with_reducible refine Kept.prev ?_ | with_reducible refine Kept.alloc' ?_ _ | with_reducible refine Kept.drew' ?_ | with_reducible refine Kept.setB ?_ _ _ _ (by omega) | with_reducible refine Kept.row' ?_ _ _ (by omega) | with_reducible refine Kept.map' ?_ _ _ (by omega)))
    have f5 : (y.kind == 5) = false := by simp [t5]
    have g5 : (y.kind != 5) = true := by simp [t5]
    by_cases t6 : y.kind = 6
    ·
      have HW : Hid (rmarkP t x = (y.sub, true)) := HY.out (by rw [HV1.out, HV2.out]; simp [*])
      clear HN HY HV1 HV2
      go_enter Tryz.func56, Tryz.ntmps56
      go_wp2_with fail
      refine (HC.out _ (by repeat (first | with_reducible exact HK.out | with_reducible exact Kept.refl _ _ | with_reducible refine Kept.prev ?_ | with_reducible refine Kept.alloc' ?_ _ | with_reducible refine Kept.drew' ?_ | with_reducible refine Kept.setB ?_ _ _ _ (by omega) | with_reducible refine Kept.row' ?_ _ _ (by omega) | with_reducible refine Kept.map' ?_ _ _ (by omega)))).mono ?_; rintro e w1 ⟨rfl, hk_w1⟩; haveI p_w1 : PrevWorld w1 _ := ⟨hk_w1⟩; have hz_w1 : w.heap.size ≤ w1.heap.size := Kept.size (by repeat (first | with_reducible exact HK.out | with_reducible exact Kept.refl _ _ | with_reducible refine Kept.prev ?_ | with_reducible refine Kept.alloc' ?_ _ | with_reducible refine Kept.drew' ?_ | with_reducible refine Kept.setB ?_ _ _ _ (by omega) | with_reducible refine Kept.row' ?_ _ _ (by omega) | with_reducible refine Kept.map' ?_ _ _ (by omega))); clear hk_w1
      clear HC
      go_wp2_with fail
      rw [HW.out]
      exact bodyPost_v rfl (res2 Tryz.results56 (resT rfl) (resT rfl)) (by repeat (first | with_reducible exact HK.out | with_reducible exact Kept.refl _ _ | with_reducible refine Kept.prev ?_ | with_reducible refine Kept.alloc' ?_ _ | with_reducible refine Kept.drew' ?_ | with_reducible refine Kept.setB ?_ _ _ _ (by omega) | with_reducible refine Kept.row' ?_ _ _ (by omega) | with_reducible refine Kept.map' ?_ _ _ (by omega)))
    have f6 : (y.kind == 6) = false := by simp [t6]
    have g6 : (y.kind != 6) = true := by simp [t6]
    clear t5 t6
    have HW : Hid (rmarkP t x = (0, false)) := HN.out (by rw [HV1.out, HV2.out]; simp [*])
    clear HN HY HV1 HV2
    go_enter Tryz.func56, Tryz.ntmps56
    go_wp2_with fail
    refine (HC.out _ (by repeat (first | with_reducible exact HK.out | with_reducible exact Kept.refl _ _ | with_reducible refine Kept.prev ?_ | with_reducible refine Kept.alloc' ?_ _ | with_reducible refine Kept.drew' ?_ | with_reducible refine Kept.setB ?_ _ _ _ (by omega) | with_reducible refine Kept.row' ?_ _ _ (by omega) | with_reducible refine Kept.map' ?_ _ _ (by omega)))).mono ?_; rintro e w1 ⟨rfl, hk_w1⟩; haveI p_w1 : PrevWorld w1 _ := ⟨hk_w1⟩; have hz_w1 : w.heap.size ≤ w1.heap.size := Kept.size (by repeat (first | with_reducible exact HK.out | with_reducible exact Kept.refl _ _ | with_reducible refine Kept.prev ?_ | with_reducible refine Kept.alloc' ?_ _ | with_reducible refine Kept.drew' ?_ | with_reducible refine Kept.setB ?_ _ _ _ (by omega) | with_reducible refine Kept.row' ?_ _ _ (by omega) | with_reducible refine Kept.map' ?_ _ _ (by omega))); clear hk_w1
    clear HC
    go_wp2_with fail
    rw [HW.out]
    exact bodyPost_v rfl (res2 Tryz.results56 (resT rfl) (resT rfl)) (by repeat (first | with_reducible exact HK.out | with_reducible exact Kept.refl _ _ | with_reducible refine Kept.prev ?_ | with_reducible refine Kept.alloc' ?_ _ | with_reducible refine Kept.drew' ?_ | with_reducible refine Kept.setB ?_ _ _ _ (by omega) | with_reducible refine Kept.row' ?_ _ _ (by omega) | with_reducible refine Kept.map' ?_ _ _ (by omega)))
  have e3 : (x.kind == 3) = false := by simp [k3]
  have n3 : (x.kind != 3) = true := by simp [k3]
  by_cases k4 : x.kind = 4
  ·
    by_cases t5 : y.kind = 5
    ·
      have HW : Hid (rmarkP t x = (y.sub, true)) := HY.out (by rw [HV1.out, HV2.out]; simp [*])
      clear HN HY HV1 HV2
      go_enter Tryz.func56, Tryz.ntmps56
      go_wp2_with fail
      refine (HC.out _ (by repeat (first | with_reducible exact HK.out | with_reducible exact Kept.refl _ _ | with_reducible refine Kept.prev ?_ | with_reducible refine Kept.alloc' ?_ _ | with_reducible refine Kept.drew' ?_ | with_reducible refine Kept.setB ?_ _ _ _ (by omega) | with_reducible refine Kept.row' ?_ _ _ (by omega) | with_reducible refine Kept.map' ?_ _ _ (by omega)))).mono ?_; rintro e w1 ⟨rfl, hk_w1⟩; haveI p_w1 : PrevWorld w1 _ := ⟨hk_w1⟩; have hz_w1 : w.heap.size ≤ w1.heap.size := Kept.size (by repeat (first | with_reducible exact HK.out | with_reducible exact Kept.refl _ _ | with_reducible refine Kept.prev ?_ | with_reducible refine Kept.alloc' ?_ _ | with_reducible refine Kept.drew' ?_ | with_reducible refine Kept.setB ?_ _ _ _ (by omega) | with_reducible refine Kept.row' ?_ _ _ (by omega) | with_reducible refine Kept.map' ?_ _ _ (by omega))); clear hk_w1
      clear HC
      go_wp2_with fail
      rw [HW.out]
      exact bodyPost_v rfl (res2 Tryz.results56 (resT rfl) (resT rfl)) (by repeat (first | with_reducible exact HK.out | with_reducible exact Kept.refl _ _ | with_reducible refine Kept.prev ?_ | with_reducible refine Kept.alloc' ?_ _ | with_reducible refine Kept.drew' ?_ | with_reducible refine Kept.setB ?_ _ _ _ (by omega) | with_reducible refine Kept.row' ?_ _ _ (by omega) | with_reducible refine Kept.map' ?_ _ _ (by omega)))
    have f5 : (y.kind == 5) = false := by simp [t5]
    have g5 : (y.kind != 5) = true := by simp [t5]
    by_cases t6 : y.kind = 6
    ·
      have HW : Hid (rmarkP t x = (y.sub, true)) := HY.out (by rw [HV1.out, HV2.out]; simp [*])
      clear HN HY HV1 HV2
      go_enter Tryz.func56, Tryz.ntmps56
      go_wp2_with fail
      refine (HC.out _ (by repeat (first | with_reducible exact HK.out | with_reducible exact Kept.refl _ _ | with_reducible refine Kept.prev ?_ | with_reducible refine Kept.alloc' ?_ _ | with_reducible refine Kept.drew' ?_ | with_reducible refine Kept.setB ?_ _ _ _ (by omega) | with_reducible refine Kept.row' ?_ _ _ (by omega) | with_reducible refine Kept.map' ?_ _ _ (by omega)))).mono ?_; rintro e w1 ⟨rfl, hk_w1⟩; haveI p_w1 : PrevWorld w1 _ := ⟨hk_w1⟩; have hz_w1 : w.heap.size ≤ w1.heap.size := Kept.size (by repeat (first | with_reducible exact HK.out | with_reducible exact Kept.refl _ _ | with_reducible refine Kept.prev ?_ | with_reducible refine Kept.alloc' ?_ _ | with_reducible refine Kept.drew' ?_ | with_reducible refine Kept.setB ?_ _ _ _ (by omega) | with_reducible refine Kept.row' ?_ _ _ (by omega) | with_reducible refine Kept.map' ?_ _ _ (by omega))); clear hk_w1
      clear HC
      go_wp2_with fail
      rw [HW.out]
      exact bodyPost_v rfl (res2 Tryz.results56 (resT rfl) (resT rfl)) (by repeat (first | with_reducible exact HK.out | with_reducible exact Kept.refl _ _ | with_reducible refine Kept.prev ?_ | with_reducible refine Kept.alloc' ?_ _ | with_reducible refine Kept.drew' ?_ | with_reducible refine Kept.setB ?_ _ _ _ (by omega) | with_reducible refine Kept.row' ?_ _ _ (by omega) | with_reducible refine Kept.map' ?_ _ _ (by omega)))
    have f6 : (y.kind == 6) = false := by simp [t6]
    have g6 : (y.kind != 6) = true := by simp [t6]
    clear t5 t6
    have HW : Hid (rmarkP t x = (0, false)) := HN.out (by rw [HV1.out, HV2.out]; simp [*])
    clear HN HY HV1 HV2
    go_enter Tryz.func56, Tryz.ntmps56
    go_wp2_with fail
    refine (HC.out _ (by repeat (first | with_reducible exact HK.out | with_reducible exact Kept.refl _ _ | with_reducible refine Kept.prev ?_ | with_reducible refine Kept.alloc' ?_ _ | with_reducible refine Kept.drew' ?_ | with_reducible refine Kept.setB ?_ _ _ _ (by omega) | with_reducible refine Kept.row' ?_ _ _ (by omega) | with_reducible refine Kept.map' ?_ _ _ (by omega)))).mono ?_; rintro e w1 ⟨rfl, hk_w1⟩; haveI p_w1 : PrevWorld w1 _ := ⟨hk_w1⟩; have hz_w1 : w.heap.size ≤ w1.heap.size := Kept.size (by repeat (first | with_reducible exact HK.out | with_reducible exact Kept.refl _ _ | with_reducible refine Kept.prev ?_ | with_reducible refine Kept.alloc' ?_ _ | with_reducible refine Kept.drew' ?_ | with_reducible refine Kept.setB ?_ _ _ _ (by omega) | with_reducible refine Kept.row' ?_ _ _ (by omega) | with_reducible refine Kept.map' ?_ _ _ (by omega))); clear hk_w1
    clear HC
    go_wp2_with fail
    rw [HW.out]
    exact bodyPost_v rfl (res2 Tryz.results56 (resT rfl) (resT rfl)) (by repeat (first | with_reducible exact HK.out | with_reducible exact Kept.refl _ _ | with_reducible refine Kept.prev ?_ | with_reducible refine Kept.alloc' ?_ _ | with_reducible refine Kept.drew' ?_ | with_reducible refine Kept.setB ?_ _ _ _ (by omega) | with_reducible refine Kept.row' ?_ _ _ (by omega) | with_reducible refine Kept.map' ?_ _ _ (by omega)))
  have e4 : (x.kind == 4) = false := by simp [k4]
  have n4 : (x.kind != 4) = true := by simp [k4]
  clear k3 k4
  have HW : Hid (rmarkP t x = (0, false)) := HN.out (by rw [HV1.out, HV2.out]; simp [*])
  clear HN HY HV1 HV2
  go_enter Tryz.func56, Tryz.ntmps56
  go_wp2_with fail
  refine (HC.out _ (by repeat (first | with_reducible exact HK.out | with_reducible exact Kept.refl _ _ | with_reducible refine Kept.prev ?_ | with_reducible refine Kept.alloc' ?_ _ | with_reducible refine Kept.drew' ?_ | with_reducible refine Kept.setB ?_ _ _ _ (by omega) | with_reducible refine Kept.row' ?_ _ _ (by omega) | with_reducible refine Kept.map' ?_ _ _ (by omega)))).mono ?_; rintro e w1 ⟨rfl, hk_w1⟩; haveI p_w1 : PrevWorld w1 _ := ⟨hk_w1⟩; have hz_w1 : w.heap.size ≤ w1.heap.size := Kept.size (by repeat (first | with_reducible exact HK.out | with_reducible exact Kept.refl _ _ | with_reducible refine Kept.prev ?_ | with_reducible refine Kept.alloc' ?_ _ | with_reducible refine Kept.drew' ?_ | with_reducible refine Kept.setB ?_ _ _ _ (by omega) | with_reducible refine Kept.row' ?_ _ _ (by omega) | with_reducible refine Kept.map' ?_ _ _ (by omega))); clear hk_w1
  clear HC
  go_wp2_with fail
  rw [HW.out]
  exact bodyPost_v rfl (res2 Tryz.results56 (resT rfl) (resT rfl)) (by repeat (first | with_reducible exact HK.out | with_reducible exact Kept.refl _ _ | with_reducible refine Kept.prev ?_ | with_reducible refine Kept.alloc' ?_ _ | with_reducible refine Kept.drew' ?_ | with_reducible refine Kept.setB ?_ _ _ _ (by omega) | with_reducible refine Kept.row' ?_ _ _ (by omega) | with_reducible refine Kept.map' ?_ _ _ (by omega)))

theorem marked_is (t : Tab) (x : ExV) : (markP t x).isSome = ((rmarkP t x).2 && (plainP t (rmarkP t x).1).isSome) := by
  unfold markP rmarkP
  split <;> simp
set_option maxRecDepth 100000 in
set_option maxHeartbeats 1000000 in
theorem rmarked_any (w : World) (v : TabV) (t : Tab) (x : ExV) (hT : TabIn w v t) : Calls Tryz.prog 26 #[.agg (v.cells t), .agg x.cells.toArray] w (RetV (.bool (markP t x).isSome) w) := by
  have HC := Lib.hid (fun w' (hk : Kept [] w w') => rMark_any w' v t x (hT.kept hk))
  have HP := Lib.hid (fun w' m (hk : Kept [] w w') => rplain_any w' v t m (hT.kept hk))
  have HM := Lib.hid (marked_is t x)
  unfold TabV.cells at *
  unfold rmV at HC
  clear hT
  generalize rmarkP t x = r at *
  obtain ⟨s, ok⟩ := r
  simp only at *
  go_enter Tryz.func26, Tryz.ntmps26
  cases ok
  · go_wp2_with fail
    refine (HC.out _ (by repeat (first | with_reducible exact HK.out | with_reducible exact Kept.refl _ _ | with_reducible refine Kept.prev ?_ | with_reducible refine Kept.alloc' ?_ _ | with_reducible refine Kept.drew' ?_ | with_reducible refine Kept.setB ?_ _ _ _ (by omega) | with_reducible refine Kept.row' ?_ _ _ (by omega) | with_reducible refine Kept.map' ?_ _ _ (by omega)))).mono ?_; rintro e w1 ⟨rfl, hk_w1⟩; haveI p_w1 : PrevWorld w1 _ := ⟨hk_w1⟩; have hz_w1 : w.heap.size ≤ w1.heap.size := Kept.size (by repeat (first | with_reducible exact HK.out | with_reducible exact Kept.refl _ _ | with_reducible refine Kept.prev ?_ | with_reducible refine Kept.alloc' ?_ _ | with_reducible refine Kept.drew' ?_ | with_reducible refine Kept.setB ?_ _ _ _ (by omega) | with_reducible refine Kept.row' ?_ _ _ (by omega) | with_reducible refine Kept.map' ?_ _ _ (by omega))); clear hk_w1
    go_wp2_with fail
    rw [HM.out]
    exact bodyPost_v rfl (res1 Tryz.results26 (resT rfl)) (by repeat (first | with_reducible exact HK.out | with_reducible exact Kept.refl _ _ | with_reducible refine Kept.prev ?_ | with_reducible refine Kept.alloc' ?_ _ | with_reducible refine Kept.drew' ?_ | with_reducible refine Kept.setB ?_ _ _ _ (by omega) | with_reducible refine Kept.row' ?_ _ _ (by omega) | with_reducible refine Kept.map' ?_ _ _ (by omega)))
  · go_wp2_with fail
    refine (HC.out _ (by repeat (first | with_reducible exact HK.out | with_reducible exact Kept.refl _ _ | with_reducible refine Kept.prev ?_ | with_reducible refine Kept.alloc' ?_ _ | with_reducible refine Kept.drew' ?_ | with_reducible refine Kept.setB ?_ _ _ _ (by omega) | with_reducible refine Kept.row' ?_ _ _ (by omega) | with_reducible refine Kept.map' ?_ _ _ (by omega)))).mono ?_; rintro e w1 ⟨rfl, hk_w1⟩; haveI p_w1 : PrevWorld w1 _ := ⟨hk_w1⟩; have hz_w1 : w.heap.size ≤ w1.heap.size := Kept.size (by repeat (first | with_reducible exact HK.out | with_reducible exact Kept.refl _ _ | with_reducible refine Kept.prev ?_ | with_reducible refine Kept.alloc' ?_ _ | with_reducible refine Kept.drew' ?_ | with_reducible refine Kept.setB ?_ _ _ _ (by omega) | with_reducible refine Kept.row' ?_ _ _ (by omega) | with_reducible refine Kept.map' ?_ _ _ (by omega))); clear hk_w1
    go_wp2_with fail
    refine (HP.out _ _ (by repeat (first | with_reducible exact HK.out | with_reducible exact Kept.refl _ _ | with_reducible refine Kept.prev ?_ | with_reducible refine Kept.alloc' ?_ _ | with_reducible refine Kept.drew' ?_ | with_reducible refine Kept.setB ?_ _ _ _ (by omega) | with_reducible refine Kept.row' ?_ _ _ (by omega) | with_reducible refine Kept.map' ?_ _ _ (by omega)))).mono ?_; rintro e w2 ⟨rfl, hk_w2⟩; haveI p_w2 : PrevWorld w2 _ := ⟨hk_w2⟩; have hz_w2 : w.heap.size ≤ w2.heap.size := Kept.size (by repeat (first | with_reducible exact HK.out | with_reducible exact Kept.refl _ _ | with_reducible refine Kept.prev ?_ | with_reducible refine Kept.alloc' ?_ _ | with_reducible refine Kept.drew' ?_ | with_reducible refine Kept.setB ?_ _ _ _ (by omega) | with_reducible refine Kept.row' ?_ _ _ (by omega) | with_reducible refine Kept.map' ?_ _ _ (by omega))); clear hk_w2
    go_wp2_with fail
    rw [HM.out]
    exact bodyPost_v rfl (res1 Tryz.results26 (resT rfl)) (by repeat (first | with_reducible exact HK.out | with_reducible exact Kept.refl _ _ | with_reducible refine Kept.prev ?_ | with_reducible refine Kept.alloc' ?_ _ | with_reducible refine Kept.drew' ?_ | with_reducible refine Kept.setB ?_ _ _ _ (by omega) | with_reducible refine Kept.row' ?_ _ _ (by omega) | with_reducible refine Kept.map' ?_ _ _ (by omega)))
end Go.Proofs.YtgdjhhfbpalkdaaGreat
