/- The reference: prefix. -/
import Derived.Test.YtgdjhhfbpalkdaaGreatR1
import Derived.Deep.DeepCutAuto
namespace Go.Proofs.YtgdjhhfbpalkdaaGreat
open Go.RowKit
theorem arr_no {t : Tab} {x : ExV} (h : (namedP x && (typedP (entP t x.ent) || objP (entP t x.ent))) = false) : arrP t x = none := by
  unfold arrP
  rw [if_neg (by simp [h])]
theorem arr_kind {t : Tab} {x : ExV} (h : kindP t (entP t x.ent).sub ≠ 4) : arrP t x = none := by
  unfold arrP
  split
  · unfold kindP at h
    cases h1 : tyP t (entP t x.ent).sub with
    | none => rfl
    | some p =>
      obtain ⟨z, s⟩ := p
      rw [h1] at h
      simp only at h ⊢
      rw [if_neg h]
  · rfl
theorem kind_some {t : Tab} {n : Int} (h : kindP t n ≠ 0) : ∃ (k m : Nat) (s : SubtV) (z : TyV), n = (k : Int) ∧ t.subs[k]? = some s ∧ s.t = (m : Int) ∧ t.types[m]? = some z ∧ tyP t n = some (z, s) ∧ kindP t n = z.kind := by
  have h0 : ¬ (n < 0 ∨ (t.subs.length : Int) ≤ n) := fun hc => h (kind_out hc)
  obtain ⟨k, rfl⟩ := Int.eq_ofNat_of_zero_le (by omega : 0 ≤ n)
  obtain ⟨s, hs⟩ : ∃ s, t.subs[k]? = some s := ⟨_, List.getElem?_eq_getElem (by omega)⟩
  have h1 : ¬ (s.t < 0 ∨ (t.types.length : Int) ≤ s.t) := fun hc => h (kind_bad hs hc)
  obtain ⟨m, hm⟩ := Int.eq_ofNat_of_zero_le (by omega : 0 ≤ s.t)
  obtain ⟨z, hz⟩ : ∃ z, t.types[m]? = some z := ⟨_, List.getElem?_eq_getElem (by omega)⟩
  have hk := kind_ok hs hm hz
  refine ⟨k, m, s, z, rfl, hs, hm, hz, ?_, hk⟩
  have e : t.subs.getD k default = s := by simp [List.getD_eq_getElem?_getD, hs]
  have e2 : t.types.getD m default = z := by simp [List.getD_eq_getElem?_getD, hz]
  unfold tyP
  rw [if_neg h0]
  simp only [Int.toNat_natCast, e]
  rw [if_neg h1, hm]
  simp only [Int.toNat_natCast, e2]
theorem arr_at {t : Tab} {x : ExV} {z : TyV} {s : SubtV} (h : (namedP x && (typedP (entP t x.ent) || objP (entP t x.ent))) = true) (hr : tyP t (entP t x.ent).sub = some (z, s)) (hk : z.kind = 4) :
    arrP t x = if (plainP t z.index).isSome = true ∧ (boundsP t z.index).1 ≤ (boundsP t z.index).2 then some z.index else none := by
  unfold arrP
  rw [if_pos h, hr]
  simp only
  rw [if_pos hk]
  cases hp : plainP t z.index with
  | none => simp
  | some q =>
    obtain ⟨b, a⟩ := q
    rw [← (plain_bounds hp).1]
    simp
theorem plain_sub {t : Tab} {n : Int} (h : (plainP t n).isSome = true) : ∃ (k : Nat) (s : SubtV), n = (k : Int) ∧ t.subs[k]? = some s ∧ boundsP t n = (s.lo, s.hi) := by
  obtain ⟨⟨b, a⟩, hb⟩ := Option.isSome_iff_exists.1 h
  have hk := (plain_bounds hb).2
  obtain ⟨k, m, s, z, rfl, hs, _⟩ := kind_some (t := t) (n := n) (by omega)
  refine ⟨k, s, rfl, hs, ?_⟩
  have e : t.subs.getD k default = s := by simp [List.getD_eq_getElem?_getD, hs]
  simp only [boundsP, subP, Int.toNat_natCast, e]
def prefV (r : Int × Bool × Bool) : Value := .tuple #[.int .i64 r.1, .bool r.2.1, .bool r.2.2]
set_option maxRecDepth 100000 in
set_option maxHeartbeats 4000000 in
theorem prefix_any (w : World) (v : TabV) (t : Tab) (x : ExV) (hT : TabIn w v t) : Calls Tryz.prog 24 #[.agg (v.cells t), .agg x.cells.toArray] w (RetV (prefV (prefP t x)) w) := by
  have HT := Lib.hid hT
  have q1 := hT.sl
  have q2 := hT.tl
  have HD := Lib.hid (fun w' (hk : Kept [] w w') => rmarked_any w' v t x (hT.kept hk))
  have HM := Lib.hid (fun w' (hk : Kept [] w w') => rMark_any w' v t x (hT.kept hk))
  have HE := Lib.hid (fun w' (hk : Kept [] w w') => rentity_any w' v t x (hT.kept hk))
  have HK := Lib.hid (fun w' m (hk : Kept [] w w') => rkind_any w' v t m (hT.kept hk))
  have HP := Lib.hid (fun w' m (hk : Kept [] w w') => rplain_any w' v t m (hT.kept hk))
  have HRM := Lib.hid (marked_is t x)
  unfold TabV.cells at HD HM HE HK HP
  unfold rmV at HM
  unfold entV2 entA at HE
  unfold TabV.cells
  clear hT
  cases hm : (markP t x).isSome
  rotate_left
  · have hr : (namedP x && typedP (entP t x.ent)) = true := by
      obtain ⟨⟨b, a⟩, hb⟩ := Option.isSome_iff_exists.1 hm
      exact (mark_bounds hb).1
    have HW := Lib.hid (pref_mark hm)
    rw [hm] at HD
    rw [rmark_yes hr] at HM
    clear HRM hm hr HE HK HP HT
    generalize (entP t x.ent).sub = m at *
    go_enter Tryz.func24, Tryz.ntmps24
    go_wp2_with fail
    refine (HD.out _ (by repeat (first | with_reducible exact HK.out | with_reducible exact Kept.refl _ _ | with_reducible refine Kept.prev ?_ | with_reducible refine Kept.alloc' ?_ _ | with_reducible refine Kept.drew' ?_ | with_reducible refine Kept.setB ?_ _ _ _ (by omega) | with_reducible refine Kept.row' ?_ _ _ (by omega) | with_reducible refine Kept.map' ?_ _ _ (by omega)))).mono ?_; rintro e w2 ⟨rfl, hk_w2⟩; haveI p_w2 : PrevWorld w2 _ := ⟨hk_w2⟩; have hz_w2 : w.heap.size ≤ w2.heap.size := Kept.size (by repeat (first | with_reducible exact HK.out | with_reducible exact Kept.refl _ _ | with_reducible refine Kept.prev ?_ | with_reducible refine Kept.alloc' ?_ _ | with_reducible refine Kept.drew' ?_ | with_reducible refine Kept.setB ?_ _ _ _ (by omega) | with_reducible refine Kept.row' ?_ _ _ (by omega) | with_reducible refine Kept.map' ?_ _ _ (by omega))); clear hk_w2
    go_wp2_with fail
    refine (HM.out _ (by repeat (first | with_reducible exact HK.out | with_reducible exact Kept.refl _ _ | with_reducible refine Kept.prev ?_ | with_reducible refine Kept.alloc' ?_ _ | with_reducible refine Kept.drew' ?_ | with_reducible refine Kept.setB ?_ _ _ _ (by omega) | with_reducible refine Kept.row' ?_ _ _ (by omega) | with_reducible refine Kept.map' ?_ _ _ (by omega)))).mono ?_; rintro e w3 ⟨rfl, hk_w3⟩; haveI p_w3 : PrevWorld w3 _ := ⟨hk_w3⟩; have hz_w3 : w.heap.size ≤ w3.heap.size := Kept.size (by repeat (first | with_reducible exact HK.out | with_reducible exact Kept.refl _ _ | with_reducible refine Kept.prev ?_ | with_reducible refine Kept.alloc' ?_ _ | with_reducible refine Kept.drew' ?_ | with_reducible refine Kept.setB ?_ _ _ _ (by omega) | with_reducible refine Kept.row' ?_ _ _ (by omega) | with_reducible refine Kept.map' ?_ _ _ (by omega))); clear hk_w3
    go_wp2_with fail
    rw [HW.out]
    exact bodyPost_v rfl (res3 Tryz.results24 (resT rfl) (resT rfl) (resT rfl)) (by repeat (first | with_reducible exact HK.out | with_reducible exact Kept.refl _ _ | with_reducible refine Kept.prev ?_ | with_reducible refine Kept.alloc' ?_ _ | with_reducible refine Kept.drew' ?_ | with_reducible refine Kept.setB ?_ _ _ _ (by omega) | with_reducible refine Kept.row' ?_ _ _ (by omega) | with_reducible refine Kept.map' ?_ _ _ (by omega)))
  have HNO := Lib.hid (fun h => pref_none (t := t) (x := x) hm h)
  have HYES := Lib.hid (fun i h => pref_some (t := t) (x := x) (i := i) hm h)
  have HAN := Lib.hid (fun h => arr_no (t := t) (x := x) h)
  have HAK := Lib.hid (fun h => arr_kind (t := t) (x := x) h)
  have HAT := Lib.hid (fun z s h1 h2 h3 => arr_at (t := t) (x := x) (z := z) (s := s) h1 h2 h3)
  have HZE := Lib.hid (fun h => ent_zero (t := t) (e := x.ent) h)
  have HMN := Lib.hid (fun h => rmark_no (t := t) (x := x) h)
  have HMY := Lib.hid (fun h => rmark_yes (t := t) (x := x) h)
  rw [hm] at HD
  clear HRM hm
  generalize entP t x.ent = y at *
  have HMC : Hid (rmarkP t x = ((rmarkP t x).1, namedP x && typedP y)) := by
    cases e : (namedP x && typedP y)
    · rw [Hid, HMN.out e]
    · rw [Hid, HMY.out e]
  rw [HMC.out] at HM
  clear HMC HMN HMY
  generalize (rmarkP t x).1 = mi at *
  go_enter Tryz.func24, Tryz.ntmps24
  go_wp2_with fail
  refine (HD.out _ (by repeat (first | with_reducible exact HK.out | with_reducible exact Kept.refl _ _ | with_reducible refine Kept.prev ?_ | with_reducible refine Kept.alloc' ?_ _ | with_reducible refine Kept.drew' ?_ | with_reducible refine Kept.setB ?_ _ _ _ (by omega) | with_reducible refine Kept.row' ?_ _ _ (by omega) | with_reducible refine Kept.map' ?_ _ _ (by omega)))).mono ?_; rintro e w2 ⟨rfl, hk_w2⟩; haveI p_w2 : PrevWorld w2 _ := ⟨hk_w2⟩; have hz_w2 : w.heap.size ≤ w2.heap.size := Kept.size (by repeat (first | with_reducible exact HK.out | with_reducible exact Kept.refl _ _ | with_reducible refine Kept.prev ?_ | with_reducible refine Kept.alloc' ?_ _ | with_reducible refine Kept.drew' ?_ | with_reducible refine Kept.setB ?_ _ _ _ (by omega) | with_reducible refine Kept.row' ?_ _ _ (by omega) | with_reducible refine Kept.map' ?_ _ _ (by omega))); clear hk_w2
  go_wp2_with fail
  refine (HE.out _ (by repeat (first | with_reducible exact HK.out | with_reducible exact Kept.refl _ _ | with_reducible refine Kept.prev ?_ | with_reducible refine Kept.alloc' ?_ _ | with_reducible refine Kept.drew' ?_ | with_reducible refine Kept.setB ?_ _ _ _ (by omega) | with_reducible refine Kept.row' ?_ _ _ (by omega) | with_reducible refine Kept.map' ?_ _ _ (by omega)))).mono ?_; rintro e w3 ⟨rfl, hk_w3⟩; haveI p_w3 : PrevWorld w3 _ := ⟨hk_w3⟩; have hz_w3 : w.heap.size ≤ w3.heap.size := Kept.size (by repeat (first | with_reducible exact HK.out | with_reducible exact Kept.refl _ _ | with_reducible refine Kept.prev ?_ | with_reducible refine Kept.alloc' ?_ _ | with_reducible refine Kept.drew' ?_ | with_reducible refine Kept.setB ?_ _ _ _ (by omega) | with_reducible refine Kept.row' ?_ _ _ (by omega) | with_reducible refine Kept.map' ?_ _ _ (by omega))); clear hk_w3
  clear HE
  go_wp2_with fail
  refine (HM.out _ (by repeat (first | with_reducible exact HK.out | with_reducible exact Kept.refl _ _ | with_reducible refine Kept.prev ?_ | with_reducible refine Kept.alloc' ?_ _ | with_reducible refine Kept.drew' ?_ | with_reducible refine Kept.setB ?_ _ _ _ (by omega) | with_reducible refine Kept.row' ?_ _ _ (by omega) | with_reducible refine Kept.map' ?_ _ _ (by omega)))).mono ?_; rintro e w4 ⟨rfl, hk_w4⟩; haveI p_w4 : PrevWorld w4 _ := ⟨hk_w4⟩; have hz_w4 : w.heap.size ≤ w4.heap.size := Kept.size (by repeat (first | with_reducible exact HK.out | with_reducible exact Kept.refl _ _ | with_reducible refine Kept.prev ?_ | with_reducible refine Kept.alloc' ?_ _ | with_reducible refine Kept.drew' ?_ | with_reducible refine Kept.setB ?_ _ _ _ (by omega) | with_reducible refine Kept.row' ?_ _ _ (by omega) | with_reducible refine Kept.map' ?_ _ _ (by omega))); clear hk_w4
  clear HM HD
  go_upto_region 6 with fail
  go_cut [13] (fun v13 wc => v13 = .bool (namedP x && objP y) ∧ wc = w4)
  case first =>
    have HO : Hid (objP y = (y.kind == 7 || y.kind == 8 || y.kind == 15)) := rfl
    have HN : Hid (namedP x = (x.kind == 3 || x.kind == 4)) := rfl
    cases e3 : (x.kind == 3)
    · cases e4 : (x.kind == 4)
      · go_wp2_with fail
        go_meet
        exact ⟨by rw [HN.out, e3, e4]; rfl, rfl⟩
      ·
        cases e7 : (y.kind == 7)
        · cases e8 : (y.kind == 8)
          · rw [e7, e8] at HO
            go_wp2_with fail
            go_meet
            exact ⟨by rw [HN.out, HO.out]; simp [*], rfl⟩
          · rw [e7, e8] at HO
            go_wp2_with fail
            go_meet
            exact ⟨by rw [HN.out, HO.out]; simp [*], rfl⟩
        · rw [e7] at HO
          go_wp2_with fail
          go_meet
          exact ⟨by rw [HN.out, HO.out]; simp [*], rfl⟩
    ·
      cases e7 : (y.kind == 7)
      · cases e8 : (y.kind == 8)
        · rw [e7, e8] at HO
          go_wp2_with fail
          go_meet
          exact ⟨by rw [HN.out, HO.out]; simp [*], rfl⟩
        · rw [e7, e8] at HO
          go_wp2_with fail
          go_meet
          exact ⟨by rw [HN.out, HO.out]; simp [*], rfl⟩
      · rw [e7] at HO
        go_wp2_with fail
        go_meet
        exact ⟨by rw [HN.out, HO.out]; simp [*], rfl⟩
  case rest =>
    obtain ⟨rfl, rfl⟩ := hcut
    cases hi : entIn t x.ent
    · have HW : Hid (prefP t x = (0, false, false)) := HNO.out (HAN.out (by rw [HZE.out hi]; simp [zeroE, typedP, objP]))
      clear HNO HYES HAN HAK HAT HZE hi HK HP HT
      generalize (namedP x && typedP y) = c1
      generalize (namedP x && objP y) = c2
      go_wp2_with fail
      rw [HW.out]
      exact bodyPost_v rfl (res3 Tryz.results24 (resT rfl) (resT rfl) (resT rfl)) (by repeat (first | with_reducible exact HK.out | with_reducible exact Kept.refl _ _ | with_reducible refine Kept.prev ?_ | with_reducible refine Kept.alloc' ?_ _ | with_reducible refine Kept.drew' ?_ | with_reducible refine Kept.setB ?_ _ _ _ (by omega) | with_reducible refine Kept.row' ?_ _ _ (by omega) | with_reducible refine Kept.map' ?_ _ _ (by omega)))
    clear HZE
    cases hc : (namedP x && (typedP y || objP y))
    · have HW : Hid (prefP t x = (0, false, false)) := HNO.out (HAN.out hc)
      have c1 : (namedP x && typedP y) = false := by revert hc; cases namedP x <;> cases typedP y <;> simp
      have c2 : (namedP x && objP y) = false := by revert hc; cases namedP x <;> cases objP y <;> simp
      clear HNO HYES HAN HAK HAT hi HK HP HT hc
      go_wp2_with fail
      rw [HW.out]
      exact bodyPost_v rfl (res3 Tryz.results24 (resT rfl) (resT rfl) (resT rfl)) (by repeat (first | with_reducible exact HK.out | with_reducible exact Kept.refl _ _ | with_reducible refine Kept.prev ?_ | with_reducible refine Kept.alloc' ?_ _ | with_reducible refine Kept.drew' ?_ | with_reducible refine Kept.setB ?_ _ _ _ (by omega) | with_reducible refine Kept.row' ?_ _ _ (by omega) | with_reducible refine Kept.map' ?_ _ _ (by omega)))
    cases c1 : (namedP x && typedP y)
    · have c2 : (namedP x && objP y) = true := by revert hc c1; cases namedP x <;> cases typedP y <;> cases objP y <;> simp
      by_cases hk : kindP t y.sub = 4
      rotate_left
      · have HW : Hid (prefP t x = (0, false, false)) := HNO.out (HAK.out hk)
        have hk2 : (kindP t y.sub != 4) = true := by simp [hk]
        clear HNO HYES HAN HAK HAT hi HP HT hc hk
        go_wp2_with fail
        refine (HK.out _ _ (by repeat (first | with_reducible exact HK.out | with_reducible exact Kept.refl _ _ | with_reducible refine Kept.prev ?_ | with_reducible refine Kept.alloc' ?_ _ | with_reducible refine Kept.drew' ?_ | with_reducible refine Kept.setB ?_ _ _ _ (by omega) | with_reducible refine Kept.row' ?_ _ _ (by omega) | with_reducible refine Kept.map' ?_ _ _ (by omega)))).mono ?_; rintro e w5 ⟨rfl, hk_w5⟩; haveI p_w5 : PrevWorld w5 _ := ⟨hk_w5⟩; have hz_w5 : w.heap.size ≤ w5.heap.size := Kept.size (by repeat (first | with_reducible exact HK.out | with_reducible exact Kept.refl _ _ | with_reducible refine Kept.prev ?_ | with_reducible refine Kept.alloc' ?_ _ | with_reducible refine Kept.drew' ?_ | with_reducible refine Kept.setB ?_ _ _ _ (by omega) | with_reducible refine Kept.row' ?_ _ _ (by omega) | with_reducible refine Kept.map' ?_ _ _ (by omega))); clear hk_w5
        go_wp2_with fail
        rw [HW.out]
        exact bodyPost_v rfl (res3 Tryz.results24 (resT rfl) (resT rfl) (resT rfl)) (by repeat (first | with_reducible exact HK.out | with_reducible exact Kept.refl _ _ | with_reducible refine Kept.prev ?_ | with_reducible refine Kept.alloc' ?_ _ | with_reducible refine Kept.drew' ?_ | with_reducible refine Kept.setB ?_ _ _ _ (by omega) | with_reducible refine Kept.row' ?_ _ _ (by omega) | with_reducible refine Kept.map' ?_ _ _ (by omega)))
      obtain ⟨n, m, s, z, hn, hs, hsm, hz, hty, hzk⟩ := kind_some (t := t) (n := y.sub) (by omega)
      have HA0 := Lib.hid (HAT.out z s hc hty (by omega))
      have HK4 := Lib.hid (fun w' (hq : Kept [] w w') => HK.out w' y.sub hq)
      rw [hk, hn] at HK4
      clear HK
      clear HAN HAK HAT hc hty hi
      obtain ⟨s', bs, os, hs', ha, hat, _⟩ := tab_sub (HT.out.kept (w' := wc) (by repeat (first | with_reducible exact HK.out | with_reducible exact Kept.refl _ _ | with_reducible refine Kept.prev ?_ | with_reducible refine Kept.alloc' ?_ _ | with_reducible refine Kept.drew' ?_ | with_reducible refine Kept.setB ?_ _ _ _ (by omega) | with_reducible refine Kept.row' ?_ _ _ (by omega) | with_reducible refine Kept.map' ?_ _ _ (by omega)))) (List.getElem?_eq_some_iff.1 hs).1
      obtain rfl : s' = s := by rw [hs] at hs'; exact (Option.some.inj hs').symm
      obtain ⟨z', bt, ot, hz', hta, hat2, _⟩ := tab_ty (HT.out.kept (w' := wc) (by repeat (first | with_reducible exact HK.out | with_reducible exact Kept.refl _ _ | with_reducible refine Kept.prev ?_ | with_reducible refine Kept.alloc' ?_ _ | with_reducible refine Kept.drew' ?_ | with_reducible refine Kept.setB ?_ _ _ _ (by omega) | with_reducible refine Kept.row' ?_ _ _ (by omega) | with_reducible refine Kept.map' ?_ _ _ (by omega)))) (List.getElem?_eq_some_iff.1 hz).1
      obtain rfl : z' = z := by rw [hz] at hz'; exact (Option.some.inj hz').symm
      have h2 : (n : Int) < (t.subs.length : Int) := by have := (List.getElem?_eq_some_iff.1 hs).1; omega
      have h5 : (m : Int) < (t.types.length : Int) := by have := (List.getElem?_eq_some_iff.1 hz).1; omega
      have HAA := Lib.hid ha
      have HKK := Lib.hid hk
      rw [ha] at HP HK4
      rw [hta] at HP HK4
      clear hs hs' hz hz' hzk hk
      go_wp2_with fail
      refine (HK4.out _ (by repeat (first | with_reducible exact HK.out | with_reducible exact Kept.refl _ _ | with_reducible refine Kept.prev ?_ | with_reducible refine Kept.alloc' ?_ _ | with_reducible refine Kept.drew' ?_ | with_reducible refine Kept.setB ?_ _ _ _ (by omega) | with_reducible refine Kept.row' ?_ _ _ (by omega) | with_reducible refine Kept.map' ?_ _ _ (by omega)))).mono ?_; rintro e w5 ⟨rfl, hk_w5⟩; haveI p_w5 : PrevWorld w5 _ := ⟨hk_w5⟩; have hz_w5 : w.heap.size ≤ w5.heap.size := Kept.size (by repeat (first | with_reducible exact HK.out | with_reducible exact Kept.refl _ _ | with_reducible refine Kept.prev ?_ | with_reducible refine Kept.alloc' ?_ _ | with_reducible refine Kept.drew' ?_ | with_reducible refine Kept.setB ?_ _ _ _ (by omega) | with_reducible refine Kept.row' ?_ _ _ (by omega) | with_reducible refine Kept.map' ?_ _ _ (by omega))); clear hk_w5
      clear HK4
      go_wp2_with fail
      refine wp_region_head 13 0 (fun _ => .cells #[] 0) (by kernel_rfl) (by kernel_rfl) (fun i o h1 h2 => by omega) (fun _ _ _ _ _ h => h) ?_; apply Exists.intro; refine ⟨fun U hU hN => ?_, ?_⟩; simp only [List.take_succ_cons, List.take_zero]
      · repeat (go_big_quiet_step (fail))
        refine wpQuiet_nil ?_
        exact rfl
      simp only [List.drop_succ_cons, List.drop_zero, List.take_zero]
      intro w6 hk6 _
      haveI p_w6 : PrevWorld w6 _ := ⟨hk6⟩
      clear hk6
      go_wp2_with fail
      have HP2 := Lib.hid (fun w' (hq : Kept [] w w') => HP.out w' z'.index hq)
      clear HP
      cases hp : (plainP t z'.index).isSome
      · have HW : Hid (prefP t x = (0, false, false)) := HNO.out (by rw [HA0.out, if_neg (by simp [hp])])
        rw [hp] at HP2
        clear HNO HYES HA0
        refine wp_region_head 19 0 (fun _ => .cells #[] 0) (by kernel_rfl) (by kernel_rfl) (fun i o h1 h2 => by omega) (fun _ _ _ _ _ h => h) ?_; apply Exists.intro; refine ⟨fun U hU hN => ?_, ?_⟩; simp only [List.take_succ_cons, List.take_zero]
        · repeat (go_big_quiet_step (exact Calls.headV hU (HP2.out _ (Kept.trans (by repeat (first | with_reducible exact HK.out | with_reducible exact Kept.refl _ _ | with_reducible refine Kept.prev ?_ | with_reducible refine Kept.alloc' ?_ _ | with_reducible refine Kept.drew' ?_ | with_reducible refine Kept.setB ?_ _ _ _ (by omega) | with_reducible refine Kept.row' ?_ _ _ (by omega) | with_reducible refine Kept.map' ?_ _ _ (by omega))) (AfterU.prop _)))))
          refine wpQuiet_nil ?_
          exact rfl
        simp only [List.drop_succ_cons, List.drop_zero, List.take_zero]
        intro w7 hk7 _
        haveI p_w7 : PrevWorld w7 _ := ⟨hk7⟩
        clear hk7
        go_wp2_with fail
        rw [HW.out]
        exact bodyPost_v rfl (res3 Tryz.results24 (resT rfl) (resT rfl) (resT rfl)) (by repeat (first | with_reducible exact HK.out | with_reducible exact Kept.refl _ _ | with_reducible refine Kept.prev ?_ | with_reducible refine Kept.alloc' ?_ _ | with_reducible refine Kept.drew' ?_ | with_reducible refine Kept.setB ?_ _ _ _ (by omega) | with_reducible refine Kept.row' ?_ _ _ (by omega) | with_reducible refine Kept.map' ?_ _ _ (by omega)))
      rw [hp] at HP2
      obtain ⟨k, r, hzi, hr, hbd⟩ := plain_sub hp
      obtain ⟨r', br, oq, hr', har, hatr, _⟩ := tab_sub (HT.out.kept (w' := w6) (by repeat (first | with_reducible exact HK.out | with_reducible exact Kept.refl _ _ | with_reducible refine Kept.prev ?_ | with_reducible refine Kept.alloc' ?_ _ | with_reducible refine Kept.drew' ?_ | with_reducible refine Kept.setB ?_ _ _ _ (by omega) | with_reducible refine Kept.row' ?_ _ _ (by omega) | with_reducible refine Kept.map' ?_ _ _ (by omega)))) (List.getElem?_eq_some_iff.1 hr).1
      obtain rfl : r' = r := by rw [hr] at hr'; exact (Option.some.inj hr').symm
      have h7 : (k : Int) < (t.subs.length : Int) := by have := (List.getElem?_eq_some_iff.1 hr).1; omega
      obtain ⟨rfl, rfl⟩ : bs = br ∧ os = oq := by
        have e := HAA.out
        rw [har] at e
        injection e with e
        injection e with e1 e2
        exact ⟨e1.symm, e2.symm⟩
      rw [hzi] at hp HA0 hbd HP2
      clear hr hr' har
      by_cases hle : r'.lo ≤ r'.hi
      · have HW : Hid (prefP t x = (z'.index, true, true)) := by rw [hzi]; exact HYES.out _ (by rw [HA0.out, if_pos ⟨hp, by rw [hbd]; exact hle⟩])
        have hgt : decide (r'.hi < r'.lo) = false := by simp; omega
        clear HNO HYES HA0 hbd hle
        refine wp_region_head 19 0 (fun _ => .cells #[] 0) (by kernel_rfl) (by kernel_rfl) (fun i o h1 h2 => by omega) (fun _ _ _ _ _ h => h) ?_; apply Exists.intro; refine ⟨fun U hU hN => ?_, ?_⟩; simp only [List.take_succ_cons, List.take_zero]
        · repeat (go_big_quiet_step (exact Calls.headV hU (HP2.out _ (Kept.trans (by repeat (first | with_reducible exact HK.out | with_reducible exact Kept.refl _ _ | with_reducible refine Kept.prev ?_ | with_reducible refine Kept.alloc' ?_ _ | with_reducible refine Kept.drew' ?_ | with_reducible refine Kept.setB ?_ _ _ _ (by omega) | with_reducible refine Kept.row' ?_ _ _ (by omega) | with_reducible refine Kept.map' ?_ _ _ (by omega))) (AfterU.prop _)))))
          refine wpQuiet_nil ?_
          exact rfl
        simp only [List.drop_succ_cons, List.drop_zero, List.take_zero]
        intro w7 hk7 _
        haveI p_w7 : PrevWorld w7 _ := ⟨hk7⟩
        clear hk7
        go_wp2_with fail
        rw [HW.out]
        exact bodyPost_v rfl (res3 Tryz.results24 (resT rfl) (resT rfl) (resT rfl)) (by repeat (first | with_reducible exact HK.out | with_reducible exact Kept.refl _ _ | with_reducible refine Kept.prev ?_ | with_reducible refine Kept.alloc' ?_ _ | with_reducible refine Kept.drew' ?_ | with_reducible refine Kept.setB ?_ _ _ _ (by omega) | with_reducible refine Kept.row' ?_ _ _ (by omega) | with_reducible refine Kept.map' ?_ _ _ (by omega)))
      · have HW : Hid (prefP t x = (0, false, false)) := HNO.out (by rw [HA0.out, if_neg (by rw [hbd]; exact fun h => hle h.2)])
        have hgt : decide (r'.hi < r'.lo) = true := by simp; omega
        clear HNO HYES HA0 hbd hle
        refine wp_region_head 19 0 (fun _ => .cells #[] 0) (by kernel_rfl) (by kernel_rfl) (fun i o h1 h2 => by omega) (fun _ _ _ _ _ h => h) ?_; apply Exists.intro; refine ⟨fun U hU hN => ?_, ?_⟩; simp only [List.take_succ_cons, List.take_zero]
        · repeat (go_big_quiet_step (exact Calls.headV hU (HP2.out _ (Kept.trans (by repeat (first | with_reducible exact HK.out | with_reducible exact Kept.refl _ _ | with_reducible refine Kept.prev ?_ | with_reducible refine Kept.alloc' ?_ _ | with_reducible refine Kept.drew' ?_ | with_reducible refine Kept.setB ?_ _ _ _ (by omega) | with_reducible refine Kept.row' ?_ _ _ (by omega) | with_reducible refine Kept.map' ?_ _ _ (by omega))) (AfterU.prop _)))))
          refine wpQuiet_nil ?_
          exact rfl
        simp only [List.drop_succ_cons, List.drop_zero, List.take_zero]
        intro w7 hk7 _
        haveI p_w7 : PrevWorld w7 _ := ⟨hk7⟩
        clear hk7
        go_wp2_with fail
        rw [HW.out]
        exact bodyPost_v rfl (res3 Tryz.results24 (resT rfl) (resT rfl) (resT rfl)) (by repeat (first | with_reducible exact HK.out | with_reducible exact Kept.refl _ _ | with_reducible refine Kept.prev ?_ | with_reducible refine Kept.alloc' ?_ _ | with_reducible refine Kept.drew' ?_ | with_reducible refine Kept.setB ?_ _ _ _ (by omega) | with_reducible refine Kept.row' ?_ _ _ (by omega) | with_reducible refine Kept.map' ?_ _ _ (by omega)))
    · generalize (namedP x && objP y) = c2 at *
      by_cases hk : kindP t y.sub = 4
      rotate_left
      · have HW : Hid (prefP t x = (0, false, false)) := HNO.out (HAK.out hk)
        have hk2 : (kindP t y.sub != 4) = true := by simp [hk]
        clear HNO HYES HAN HAK HAT hi HP HT hc hk
        go_wp2_with fail
        refine (HK.out _ _ (by repeat (first | with_reducible exact HK.out | with_reducible exact Kept.refl _ _ | with_reducible refine Kept.prev ?_ | with_reducible refine Kept.alloc' ?_ _ | with_reducible refine Kept.drew' ?_ | with_reducible refine Kept.setB ?_ _ _ _ (by omega) | with_reducible refine Kept.row' ?_ _ _ (by omega) | with_reducible refine Kept.map' ?_ _ _ (by omega)))).mono ?_; rintro e w5 ⟨rfl, hk_w5⟩; haveI p_w5 : PrevWorld w5 _ := ⟨hk_w5⟩; have hz_w5 : w.heap.size ≤ w5.heap.size := Kept.size (by repeat (first | with_reducible exact HK.out | with_reducible exact Kept.refl _ _ | with_reducible refine Kept.prev ?_ | with_reducible refine Kept.alloc' ?_ _ | with_reducible refine Kept.drew' ?_ | with_reducible refine Kept.setB ?_ _ _ _ (by omega) | with_reducible refine Kept.row' ?_ _ _ (by omega) | with_reducible refine Kept.map' ?_ _ _ (by omega))); clear hk_w5
        go_wp2_with fail
        rw [HW.out]
        exact bodyPost_v rfl (res3 Tryz.results24 (resT rfl) (resT rfl) (resT rfl)) (by repeat (first | with_reducible exact HK.out | with_reducible exact Kept.refl _ _ | with_reducible refine Kept.prev ?_ | with_reducible refine Kept.alloc' ?_ _ | with_reducible refine Kept.drew' ?_ | with_reducible refine Kept.setB ?_ _ _ _ (by omega) | with_reducible refine Kept.row' ?_ _ _ (by omega) | with_reducible refine Kept.map' ?_ _ _ (by omega)))
      obtain ⟨n, m, s, z, hn, hs, hsm, hz, hty, hzk⟩ := kind_some (t := t) (n := y.sub) (by omega)
      have HA0 := Lib.hid (HAT.out z s hc hty (by omega))
      have HK4 := Lib.hid (fun w' (hq : Kept [] w w') => HK.out w' y.sub hq)
      rw [hk, hn] at HK4
      clear HK
      clear HAN HAK HAT hc hty hi
      obtain ⟨s', bs, os, hs', ha, hat, _⟩ := tab_sub (HT.out.kept (w' := wc) (by repeat (first | with_reducible exact HK.out | with_reducible exact Kept.refl _ _ | with_reducible refine Kept.prev ?_ | with_reducible refine Kept.alloc' ?_ _ | with_reducible refine Kept.drew' ?_ | with_reducible refine Kept.setB ?_ _ _ _ (by omega) | with_reducible refine Kept.row' ?_ _ _ (by omega) | with_reducible refine Kept.map' ?_ _ _ (by omega)))) (List.getElem?_eq_some_iff.1 hs).1
      obtain rfl : s' = s := by rw [hs] at hs'; exact (Option.some.inj hs').symm
      obtain ⟨z', bt, ot, hz', hta, hat2, _⟩ := tab_ty (HT.out.kept (w' := wc) (by repeat (first | with_reducible exact HK.out | with_reducible exact Kept.refl _ _ | with_reducible refine Kept.prev ?_ | with_reducible refine Kept.alloc' ?_ _ | with_reducible refine Kept.drew' ?_ | with_reducible refine Kept.setB ?_ _ _ _ (by omega) | with_reducible refine Kept.row' ?_ _ _ (by omega) | with_reducible refine Kept.map' ?_ _ _ (by omega)))) (List.getElem?_eq_some_iff.1 hz).1
      obtain rfl : z' = z := by rw [hz] at hz'; exact (Option.some.inj hz').symm
      have h2 : (n : Int) < (t.subs.length : Int) := by have := (List.getElem?_eq_some_iff.1 hs).1; omega
      have h5 : (m : Int) < (t.types.length : Int) := by have := (List.getElem?_eq_some_iff.1 hz).1; omega
      have HAA := Lib.hid ha
      have HKK := Lib.hid hk
      rw [ha] at HP HK4
      rw [hta] at HP HK4
      clear hs hs' hz hz' hzk hk
      go_wp2_with fail
      refine (HK4.out _ (by repeat (first | with_reducible exact HK.out | with_reducible exact Kept.refl _ _ | with_reducible refine Kept.prev ?_ | with_reducible refine Kept.alloc' ?_ _ | with_reducible refine Kept.drew' ?_ | with_reducible refine Kept.setB ?_ _ _ _ (by omega) | with_reducible refine Kept.row' ?_ _ _ (by omega) | with_reducible refine Kept.map' ?_ _ _ (by omega)))).mono ?_; rintro e w5 ⟨rfl, hk_w5⟩; haveI p_w5 : PrevWorld w5 _ := ⟨hk_w5⟩; have hz_w5 : w.heap.size ≤ w5.heap.size := Kept.size (by repeat (first | with_reducible exact HK.out | with_reducible exact Kept.refl _ _ | with_reducible refine Kept.prev ?_ | with_reducible refine Kept.alloc' ?_ _ | with_reducible refine Kept.drew' ?_ | with_reducible refine Kept.setB ?_ _ _ _ (by omega) | with_reducible refine Kept.row' ?_ _ _ (by omega) | with_reducible refine Kept.map' ?_ _ _ (by omega))); clear hk_w5
      clear HK4
      go_wp2_with fail
      refine wp_region_head 13 0 (fun _ => .cells #[] 0) (by kernel_rfl) (by kernel_rfl) (fun i o h1 h2 => by omega) (fun _ _ _ _ _ h => h) ?_; apply Exists.intro; refine ⟨fun U hU hN => ?_, ?_⟩; simp only [List.take_succ_cons, List.take_zero]
      · repeat (go_big_quiet_step (fail))
        refine wpQuiet_nil ?_
        exact rfl
      simp only [List.drop_succ_cons, List.drop_zero, List.take_zero]
      intro w6 hk6 _
      haveI p_w6 : PrevWorld w6 _ := ⟨hk6⟩
      clear hk6
      go_wp2_with fail
      have HP2 := Lib.hid (fun w' (hq : Kept [] w w') => HP.out w' z'.index hq)
      clear HP
      cases hp : (plainP t z'.index).isSome
      · have HW : Hid (prefP t x = (0, false, false)) := HNO.out (by rw [HA0.out, if_neg (by simp [hp])])
        rw [hp] at HP2
        clear HNO HYES HA0
        refine wp_region_head 19 0 (fun _ => .cells #[] 0) (by kernel_rfl) (by kernel_rfl) (fun i o h1 h2 => by omega) (fun _ _ _ _ _ h => h) ?_; apply Exists.intro; refine ⟨fun U hU hN => ?_, ?_⟩; simp only [List.take_succ_cons, List.take_zero]
        · repeat (go_big_quiet_step (exact Calls.headV hU (HP2.out _ (Kept.trans (by repeat (first | with_reducible exact HK.out | with_reducible exact Kept.refl _ _ | with_reducible refine Kept.prev ?_ | with_reducible refine Kept.alloc' ?_ _ | with_reducible refine Kept.drew' ?_ | with_reducible refine Kept.setB ?_ _ _ _ (by omega) | with_reducible refine Kept.row' ?_ _ _ (by omega) | with_reducible refine Kept.map' ?_ _ _ (by omega))) (AfterU.prop _)))))
          refine wpQuiet_nil ?_
          exact rfl
        simp only [List.drop_succ_cons, List.drop_zero, List.take_zero]
        intro w7 hk7 _
        haveI p_w7 : PrevWorld w7 _ := ⟨hk7⟩
        clear hk7
        go_wp2_with fail
        rw [HW.out]
        exact bodyPost_v rfl (res3 Tryz.results24 (resT rfl) (resT rfl) (resT rfl)) (by repeat (first | with_reducible exact HK.out | with_reducible exact Kept.refl _ _ | with_reducible refine Kept.prev ?_ | with_reducible refine Kept.alloc' ?_ _ | with_reducible refine Kept.drew' ?_ | with_reducible refine Kept.setB ?_ _ _ _ (by omega) | with_reducible refine Kept.row' ?_ _ _ (by omega) | with_reducible refine Kept.map' ?_ _ _ (by omega)))
      rw [hp] at HP2
      obtain ⟨k, r, hzi, hr, hbd⟩ := plain_sub hp
      obtain ⟨r', br, oq, hr', har, hatr, _⟩ := tab_sub (HT.out.kept (w' := w6) (by repeat (first | with_reducible exact HK.out | with_reducible exact Kept.refl _ _ | with_reducible refine Kept.prev ?_ | with_reducible refine Kept.alloc' ?_ _ | with_reducible refine Kept.drew' ?_ | with_reducible refine Kept.setB ?_ _ _ _ (by omega) | with_reducible refine Kept.row' ?_ _ _ (by omega) | with_reducible refine Kept.map' ?_ _ _ (by omega)))) (List.getElem?_eq_some_iff.1 hr).1
      obtain rfl : r' = r := by rw [hr] at hr'; exact (Option.some.inj hr').symm
      have h7 : (k : Int) < (t.subs.length : Int) := by have := (List.getElem?_eq_some_iff.1 hr).1; omega
      obtain ⟨rfl, rfl⟩ : bs = br ∧ os = oq := by
        have e := HAA.out
        rw [har] at e
        injection e with e
        injection e with e1 e2
        exact ⟨e1.symm, e2.symm⟩
      rw [hzi] at hp HA0 hbd HP2
      clear hr hr' har
      by_cases hle : r'.lo ≤ r'.hi
      · have HW : Hid (prefP t x = (z'.index, true, true)) := by rw [hzi]; exact HYES.out _ (by rw [HA0.out, if_pos ⟨hp, by rw [hbd]; exact hle⟩])
        have hgt : decide (r'.hi < r'.lo) = false := by simp; omega
        clear HNO HYES HA0 hbd hle
        refine wp_region_head 19 0 (fun _ => .cells #[] 0) (by kernel_rfl) (by kernel_rfl) (fun i o h1 h2 => by omega) (fun _ _ _ _ _ h => h) ?_; apply Exists.intro; refine ⟨fun U hU hN => ?_, ?_⟩; simp only [List.take_succ_cons, List.take_zero]
        · repeat (go_big_quiet_step (exact Calls.headV hU (HP2.out _ (Kept.trans (by repeat (first | with_reducible exact HK.out | with_reducible exact Kept.refl _ _ | with_reducible refine Kept.prev ?_ | with_reducible refine Kept.alloc' ?_ _ | with_reducible refine Kept.drew' ?_ | with_reducible refine Kept.setB ?_ _ _ _ (by omega) | with_reducible refine Kept.row' ?_ _ _ (by omega) | with_reducible refine Kept.map' ?_ _ _ (by omega))) (AfterU.prop _)))))
          refine wpQuiet_nil ?_
          exact rfl
        simp only [List.drop_succ_cons, List.drop_zero, List.take_zero]
        intro w7 hk7 _
        haveI p_w7 : PrevWorld w7 _ := ⟨hk7⟩
        clear hk7
        go_wp2_with fail
        rw [HW.out]
        exact bodyPost_v rfl (res3 Tryz.results24 (resT rfl) (resT rfl) (resT rfl)) (by repeat (first | with_reducible exact HK.out | with_reducible exact Kept.refl _ _ | with_reducible refine Kept.prev ?_ | with_reducible refine Kept.alloc' ?_ _ | with_reducible refine Kept.drew' ?_ | with_reducible refine Kept.setB ?_ _ _ _ (by omega) | with_reducible refine Kept.row' ?_ _ _ (by omega) | with_reducible refine Kept.map' ?_ _ _ (by omega)))
      · have HW : Hid (prefP t x = (0, false, false)) := HNO.out (by rw [HA0.out, if_neg (by rw [hbd]; exact fun h => hle h.2)])
        have hgt : decide (r'.hi < r'.lo) = true := by simp; omega
        clear HNO HYES HA0 hbd hle
        refine wp_region_head 19 0 (fun _ => .cells #[] 0) (by kernel_rfl) (by kernel_rfl) (fun i o h1 h2 => by omega) (fun _ _ _ _ _ h => h) ?_; apply Exists.intro; refine ⟨fun U hU hN => ?_, ?_⟩; simp only [List.take_succ_cons, List.take_zero]
        · repeat (go_big_quiet_step (exact Calls.headV hU (HP2.out _ (Kept.trans (by repeat (first | with_reducible exact HK.out | with_reducible exact Kept.refl _ _ | with_reducible refine Kept.prev ?_ | with_reducible refine Kept.alloc' ?_ _ | with_reducible refine Kept.drew' ?_ | with_reducible refine Kept.setB ?_ _ _ _ (by omega) | with_reducible refine Kept.row' ?_ _ _ (by omega) | with_reducible refine Kept.map' ?_ _ _ (by omega))) (AfterU.prop _)))))
          refine wpQuiet_nil ?_
          exact rfl
        simp only [List.drop_succ_cons, List.drop_zero, List.take_zero]
        intro w7 hk7 _
        haveI p_w7 : PrevWorld w7 _ := ⟨hk7⟩
        clear hk7
        go_wp2_with fail
        rw [HW.out]
        exact bodyPost_v rfl (res3 Tryz.results24 (resT rfl) (resT rfl) (resT rfl)) (by repeat (first | with_reducible exact HK.out | with_reducible exact Kept.refl _ _ | with_reducible refine Kept.prev ?_ | with_reducible refine Kept.alloc' ?_ _ | with_reducible refine Kept.drew' ?_ | with_reducible refine Kept.setB ?_ _ _ _ (by omega) | with_reducible refine Kept.row' ?_ _ _ (by omega) | with_reducible refine Kept.map' ?_ _ _ (by omega)))
end Go.Proofs.YtgdjhhfbpalkdaaGreat
