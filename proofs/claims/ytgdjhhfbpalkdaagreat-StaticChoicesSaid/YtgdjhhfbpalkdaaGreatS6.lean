/- index. -/
import Derived.Test.YtgdjhhfbpalkdaaGreatS9
import Derived.Deep.DeepCutAuto
namespace Go.Proofs.YtgdjhhfbpalkdaaGreat
open Go.RowKit

def indexX (t : Tab) (x : ExV) : Bd × Bool :=
  if namedP x && (typedP (entP t x.ent) || objP (entP t x.ent)) then
    if (rowO t (entP t x.ent).sub).1.kind = 4 then ((plainX t (rowO t (entP t x.ent).sub).1.index).1, (plainX t (rowO t (entP t x.ent).sub).1.index).2.2 && decide ((plainX t (rowO t (entP t x.ent).sub).1.index).1.1 ≤ (plainX t (rowO t (entP t x.ent).sub).1.index).1.2))
    else ((0, 0), false)
  else ((0, 0), false)
theorem row_out {t : Tab} {n : Int} (h : n < 0 ∨ (t.subs.length : Int) ≤ n) : (rowO t n).1 = zeroT := by
  unfold rowO
  rw [subO_out h]
theorem row_in {t : Tab} {n : Nat} {s : SubtV} (h : t.subs[n]? = some s) (hs : s.t < 0 ∨ (t.types.length : Int) ≤ s.t) : (rowO t (n : Int)).1 = zeroT := by
  unfold rowO
  rw [subO_at h]
  simp only [tyO_out hs]
theorem row_at {t : Tab} {n m : Nat} {s : SubtV} {y : TyV} (h : t.subs[n]? = some s) (hm : s.t = (m : Int)) (hy : t.types[m]? = some y) : rowO t (n : Int) = (y, s, true) := by
  unfold rowO
  rw [subO_at h]
  simp only [hm, tyO_at hy]
theorem index_no {t : Tab} {x : ExV} (h : (namedP x && (typedP (entP t x.ent) || objP (entP t x.ent))) = false) : indexX t x = ((0, 0), false) := by
  unfold indexX
  rw [if_neg (by rw [h]; simp)]
theorem index_zero {t : Tab} {x : ExV} (h : (rowO t (entP t x.ent).sub).1.kind ≠ 4) : indexX t x = ((0, 0), false) := by
  unfold indexX
  rw [if_neg h]
  split <;> rfl
theorem index_yes {t : Tab} {x : ExV} {y : TyV} (h : (namedP x && (typedP (entP t x.ent) || objP (entP t x.ent))) = true) (hr : (rowO t (entP t x.ent).sub).1 = y) (hk : y.kind = 4) :
    indexX t x = ((plainX t y.index).1, (plainX t y.index).2.2 && decide ((plainX t y.index).1.1 ≤ (plainX t y.index).1.2)) := by
  unfold indexX
  rw [if_pos h, hr, if_pos hk]

set_option maxRecDepth 100000 in
set_option maxHeartbeats 4000000 in
theorem index_any (w : World) (v : TabV) (t : Tab) (x : ExV) (hT : TabIn w v t) : Calls Tryz.prog 81 #[.agg (v.cells t), .agg x.cells.toArray] w (RetV (bvV (indexX t x)) w) := by
  have HT := Lib.hid hT
  have q1 := hT.sl
  have q2 := hT.tl
  have HC := Lib.hid (fun w' (hk : Kept [] w w') => entity_any w' v t x (hT.kept hk))
  have HP := Lib.hid (fun w' m (hk : Kept [] w w') => plain_any w' v t m (hT.kept hk))
  have HNO := Lib.hid (fun h => index_no (t := t) (x := x) h)
  have HZ := Lib.hid (fun h => index_zero (t := t) (x := x) h)
  have HY := Lib.hid (fun y h1 h2 h3 => index_yes (t := t) (x := x) (y := y) h1 h2 h3)
  unfold TabV.cells at HC HP
  unfold TabV.cells
  clear hT
  go_enter Tryz.func81, Tryz.ntmps81
  go_wp2_with fail
  refine (HC.out _ (by repeat (first | with_reducible exact HK.out | with_reducible exact Kept.refl _ _ | with_reducible refine Kept.prev ?_ | with_reducible refine Kept.alloc' ?_ _ | with_reducible refine Kept.drew' ?_ | with_reducible refine Kept.setB ?_ _ _ _ (by omega) | with_reducible refine Kept.row' ?_ _ _ (by omega) | with_reducible refine Kept.map' ?_ _ _ (by omega)))).mono ?_; rintro e w1 ⟨rfl, hk_w1⟩; haveI p_w1 : PrevWorld w1 _ := ⟨hk_w1⟩; have hz_w1 : w.heap.size ≤ w1.heap.size := Kept.size (by repeat (first | with_reducible exact HK.out | with_reducible exact Kept.refl _ _ | with_reducible refine Kept.prev ?_ | with_reducible refine Kept.alloc' ?_ _ | with_reducible refine Kept.drew' ?_ | with_reducible refine Kept.setB ?_ _ _ _ (by omega) | with_reducible refine Kept.row' ?_ _ _ (by omega) | with_reducible refine Kept.map' ?_ _ _ (by omega))); clear hk_w1
  clear HC
  generalize entP t x.ent = y at *
  unfold entA
  go_upto_region 2 with fail
  go_cut [7] (fun v7 wc => v7 = .bool (objP y) ∧ wc = w1.alloc (.cells y.cells.toArray 74))
  case first =>
    have HO : Hid (objP y = (y.kind == 7 || y.kind == 8 || y.kind == 15)) := rfl
    cases e7 : (y.kind == 7)
    · cases e8 : (y.kind == 8)
      · rw [e7, e8] at HO
        go_wp2_with fail
        go_meet
        exact ⟨by rw [HO.out]; rfl, rfl⟩
      · rw [e7, e8] at HO
        go_wp2_with fail
        go_meet
        exact ⟨by rw [HO.out]; rfl, rfl⟩
    · rw [e7] at HO
      go_wp2_with fail
      go_meet
      exact ⟨by rw [HO.out]; rfl, rfl⟩
  case rest =>
    obtain ⟨rfl, rfl⟩ := hcut
    go_wp2_with fail
    refine (named_any _ _).mono ?_; rintro e w2 ⟨rfl, hk_w2⟩; haveI p_w2 : PrevWorld w2 _ := ⟨hk_w2⟩; have hz_w2 : w.heap.size ≤ w2.heap.size := Kept.size (by repeat (first | with_reducible exact HK.out | with_reducible exact Kept.refl _ _ | with_reducible refine Kept.prev ?_ | with_reducible refine Kept.alloc' ?_ _ | with_reducible refine Kept.drew' ?_ | with_reducible refine Kept.setB ?_ _ _ _ (by omega) | with_reducible refine Kept.row' ?_ _ _ (by omega) | with_reducible refine Kept.map' ?_ _ _ (by omega))); clear hk_w2
    cases hn : namedP x
    · have HW : Hid (indexX t x = ((0, 0), false)) := HNO.out (by rw [hn]; rfl)
      clear hn HP HNO HZ HY
      go_wp2_with fail
      rw [HW.out]
      exact bodyPost_v rfl (res2 Tryz.results81 (resC rfl inferInstance) (resT rfl)) (by repeat (first | with_reducible exact HK.out | with_reducible exact Kept.refl _ _ | with_reducible refine Kept.prev ?_ | with_reducible refine Kept.alloc' ?_ _ | with_reducible refine Kept.drew' ?_ | with_reducible refine Kept.setB ?_ _ _ _ (by omega) | with_reducible refine Kept.row' ?_ _ _ (by omega) | with_reducible refine Kept.map' ?_ _ _ (by omega)))
    rw [hn] at HNO HY
    clear hn
    go_wp2_with fail
    refine (typed_any _ _).mono ?_; rintro e w3 ⟨rfl, hk_w3⟩; haveI p_w3 : PrevWorld w3 _ := ⟨hk_w3⟩; have hz_w3 : w.heap.size ≤ w3.heap.size := Kept.size (by repeat (first | with_reducible exact HK.out | with_reducible exact Kept.refl _ _ | with_reducible refine Kept.prev ?_ | with_reducible refine Kept.alloc' ?_ _ | with_reducible refine Kept.drew' ?_ | with_reducible refine Kept.setB ?_ _ _ _ (by omega) | with_reducible refine Kept.row' ?_ _ _ (by omega) | with_reducible refine Kept.map' ?_ _ _ (by omega))); clear hk_w3
    cases ht : typedP y
    · cases ho : objP y
      · have HW : Hid (indexX t x = ((0, 0), false)) := HNO.out (by rw [ht, ho]; rfl)
        clear HP HNO HZ HY
        go_wp2_with fail
        rw [HW.out]
        exact bodyPost_v rfl (res2 Tryz.results81 (resC rfl inferInstance) (resT rfl)) (by repeat (first | with_reducible exact HK.out | with_reducible exact Kept.refl _ _ | with_reducible refine Kept.prev ?_ | with_reducible refine Kept.alloc' ?_ _ | with_reducible refine Kept.drew' ?_ | with_reducible refine Kept.setB ?_ _ _ _ (by omega) | with_reducible refine Kept.row' ?_ _ _ (by omega) | with_reducible refine Kept.map' ?_ _ _ (by omega)))
      · have HTO : Hid ((typedP y || objP y) = true) := by rw [Hid, ht, ho]; rfl
        by_cases h0 : y.sub < 0
        · have HW : Hid (indexX t x = ((0, 0), false)) := HZ.out (by rw [row_out (.inl h0)]; simp [zeroT])
          clear HP HNO HZ HY HT
          go_wp2_with fail
          rw [HW.out]
          exact bodyPost_v rfl (res2 Tryz.results81 (resC rfl inferInstance) (resT rfl)) (by repeat (first | with_reducible exact HK.out | with_reducible exact Kept.refl _ _ | with_reducible refine Kept.prev ?_ | with_reducible refine Kept.alloc' ?_ _ | with_reducible refine Kept.drew' ?_ | with_reducible refine Kept.setB ?_ _ _ _ (by omega) | with_reducible refine Kept.row' ?_ _ _ (by omega) | with_reducible refine Kept.map' ?_ _ _ (by omega)))
        obtain ⟨n, hn⟩ := Int.eq_ofNat_of_zero_le (by omega : 0 ≤ y.sub)
        by_cases h1 : t.subs.length ≤ n
        · have HW : Hid (indexX t x = ((0, 0), false)) := HZ.out (by rw [row_out (.inr (by omega))]; simp [zeroT])
          have h2 : (t.subs.length : Int) ≤ y.sub := by omega
          clear HP HNO HZ HY HT hn
          go_wp2_with fail
          rw [HW.out]
          exact bodyPost_v rfl (res2 Tryz.results81 (resC rfl inferInstance) (resT rfl)) (by repeat (first | with_reducible exact HK.out | with_reducible exact Kept.refl _ _ | with_reducible refine Kept.prev ?_ | with_reducible refine Kept.alloc' ?_ _ | with_reducible refine Kept.drew' ?_ | with_reducible refine Kept.setB ?_ _ _ _ (by omega) | with_reducible refine Kept.row' ?_ _ _ (by omega) | with_reducible refine Kept.map' ?_ _ _ (by omega)))
        obtain ⟨s, bs, os, hs, ha, hat, _⟩ := tab_sub (HT.out.kept (w' := w3) (by repeat (first | with_reducible exact HK.out | with_reducible exact Kept.refl _ _ | with_reducible refine Kept.prev ?_ | with_reducible refine Kept.alloc' ?_ _ | with_reducible refine Kept.drew' ?_ | with_reducible refine Kept.setB ?_ _ _ _ (by omega) | with_reducible refine Kept.row' ?_ _ _ (by omega) | with_reducible refine Kept.map' ?_ _ _ (by omega)))) (by omega : n < t.subs.length)
        have h2 : (n : Int) < (t.subs.length : Int) := by omega
        rw [hn] at HZ HY
        rw [ha] at HP
        by_cases h3 : s.t < 0
        · have HW : Hid (indexX t x = ((0, 0), false)) := HZ.out (by rw [row_in hs (.inl h3)]; simp [zeroT])
          clear HP HNO HZ HY HT hs
          go_wp2_with fail
          rw [HW.out]
          exact bodyPost_v rfl (res2 Tryz.results81 (resC rfl inferInstance) (resT rfl)) (by repeat (first | with_reducible exact HK.out | with_reducible exact Kept.refl _ _ | with_reducible refine Kept.prev ?_ | with_reducible refine Kept.alloc' ?_ _ | with_reducible refine Kept.drew' ?_ | with_reducible refine Kept.setB ?_ _ _ _ (by omega) | with_reducible refine Kept.row' ?_ _ _ (by omega) | with_reducible refine Kept.map' ?_ _ _ (by omega)))
        obtain ⟨m, hm⟩ := Int.eq_ofNat_of_zero_le (by omega : 0 ≤ s.t)
        by_cases h4 : t.types.length ≤ m
        · have HW : Hid (indexX t x = ((0, 0), false)) := HZ.out (by rw [row_in hs (.inr (by omega))]; simp [zeroT])
          have h5 : (t.types.length : Int) ≤ s.t := by omega
          clear HP HNO HZ HY HT hs hm
          go_wp2_with fail
          rw [HW.out]
          exact bodyPost_v rfl (res2 Tryz.results81 (resC rfl inferInstance) (resT rfl)) (by repeat (first | with_reducible exact HK.out | with_reducible exact Kept.refl _ _ | with_reducible refine Kept.prev ?_ | with_reducible refine Kept.alloc' ?_ _ | with_reducible refine Kept.drew' ?_ | with_reducible refine Kept.setB ?_ _ _ _ (by omega) | with_reducible refine Kept.row' ?_ _ _ (by omega) | with_reducible refine Kept.map' ?_ _ _ (by omega)))
        obtain ⟨z, bt, ot, hz, hta, hat2, _⟩ := tab_ty (HT.out.kept (w' := w3) (by repeat (first | with_reducible exact HK.out | with_reducible exact Kept.refl _ _ | with_reducible refine Kept.prev ?_ | with_reducible refine Kept.alloc' ?_ _ | with_reducible refine Kept.drew' ?_ | with_reducible refine Kept.setB ?_ _ _ _ (by omega) | with_reducible refine Kept.row' ?_ _ _ (by omega) | with_reducible refine Kept.map' ?_ _ _ (by omega)))) (by omega : m < t.types.length)
        have HA2 := Lib.hid ha
        have h5 : (m : Int) < (t.types.length : Int) := by omega
        have HR : Hid ((rowO t (n : Int)).1 = z) := by rw [Hid, row_at hs hm hz]
        rw [hta] at HP
        clear hs hz
        by_cases hk : z.kind = 4
        rotate_left
        · have HW : Hid (indexX t x = ((0, 0), false)) := HZ.out (by rw [HR.out]; exact hk)
          have hk2 : (z.kind != 4) = true := by simp [hk]
          clear HP HNO HZ HY HT hk HR
          go_wp2_with fail
          rw [HW.out]
          exact bodyPost_v rfl (res2 Tryz.results81 (resC rfl inferInstance) (resT rfl)) (by repeat (first | with_reducible exact HK.out | with_reducible exact Kept.refl _ _ | with_reducible refine Kept.prev ?_ | with_reducible refine Kept.alloc' ?_ _ | with_reducible refine Kept.drew' ?_ | with_reducible refine Kept.setB ?_ _ _ _ (by omega) | with_reducible refine Kept.row' ?_ _ _ (by omega) | with_reducible refine Kept.map' ?_ _ _ (by omega)))
        have HW := Lib.hid (HY.out z (by rw [HTO.out]; rfl) HR.out hk)
        clear HNO HZ HY HT HR
        go_wp2_with fail
        unfold pvV at HP
        refine wp_region_head 13 2 (fun _ => .cells #[.int .i64 0, .int .i64 0] 43) (by kernel_rfl) (by kernel_rfl) (fun i o h1 h2 h3 => by obtain rfl | rfl : i = 13 ∨ i = 14 := (by omega); all_goals (obtain rfl := Option.some.inj h3; exact alc_of rfl rfl Tryz.zeroBd)) (fun _ _ _ _ _ h => h) ?_; apply Exists.intro; refine ⟨fun U hU hN => ?_, ?_⟩; simp only [List.take_succ_cons, List.take_zero]
        · repeat (go_big_quiet_step (exact Calls.headV hU (HP.out _ _ (Kept.trans (by repeat (first | with_reducible exact HK.out | with_reducible exact Kept.refl _ _ | with_reducible refine Kept.prev ?_ | with_reducible refine Kept.alloc' ?_ _ | with_reducible refine Kept.drew' ?_ | with_reducible refine Kept.setB ?_ _ _ _ (by omega) | with_reducible refine Kept.row' ?_ _ _ (by omega) | with_reducible refine Kept.map' ?_ _ _ (by omega))) (AfterU.prop _)))))
          refine wpQuiet_nil ?_
          exact rfl
        simp only [List.drop_succ_cons, List.drop_zero, List.take_succ_cons, List.take_zero]
        intro B1 hB1 _ B2 hB2 hne w4 hk4 hh
        haveI p_w4 : PrevWorld w4 w3 := ⟨hk4⟩
        haveI bx1 : BoxIs w4 B1 43 #[.int .i64 0, .int .i64 0] := box_of hh (by simp)
        haveI bx2 : BoxIs w4 B2 43 #[.int .i64 0, .int .i64 0] := box_of hh (by simp)
        have hne2 := ne_of hne
        haveI ap1 : Apart B1 B2 := ⟨hne2⟩
        haveI ap2 : Apart B2 B1 := ⟨hne2.symm⟩
        have hlt : w.heap.size + 1 + 1 < w3.heap.size := BoxIs.lt (w := w3) (by infer_instance)
        haveI l1 : LtB (w.heap.size + 1 + 1) B1 := ⟨by omega⟩
        haveI l2 : LtB (w.heap.size + 1 + 1) B2 := ⟨by omega⟩
        clear hk4 hh hne
        generalize plainX t z.index = r at *
        go_wp2_with fail
        cases hr : r.2.2
        · rw [hr] at HW
          clear HP
          go_region
          go_wp2_with fail
          rw [HW.out]
          exact bodyPost_v rfl (res2 Tryz.results81 (resC rfl inferInstance) (resT rfl)) (by repeat (first | with_reducible exact HK.out | with_reducible exact Kept.refl _ _ | with_reducible refine Kept.prev ?_ | with_reducible refine Kept.alloc' ?_ _ | with_reducible refine Kept.drew' ?_ | with_reducible refine Kept.setB ?_ _ _ _ (by omega) | with_reducible refine Kept.row' ?_ _ _ (by omega) | with_reducible refine Kept.map' ?_ _ _ (by omega)))
        rw [hr] at HW
        clear HP
        go_region
        go_wp2_with fail
        rw [HW.out]
        exact bodyPost_v rfl (res2 Tryz.results81 (resC rfl inferInstance) (resT rfl)) (by repeat (first | with_reducible exact HK.out | with_reducible exact Kept.refl _ _ | with_reducible refine Kept.prev ?_ | with_reducible refine Kept.alloc' ?_ _ | with_reducible refine Kept.drew' ?_ | with_reducible refine Kept.setB ?_ _ _ _ (by omega) | with_reducible refine Kept.row' ?_ _ _ (by omega) | with_reducible refine Kept.map' ?_ _ _ (by omega)))
    · have HTO : Hid ((typedP y || objP y) = true) := by rw [Hid, ht]; rfl
      by_cases h0 : y.sub < 0
      · have HW : Hid (indexX t x = ((0, 0), false)) := HZ.out (by rw [row_out (.inl h0)]; simp [zeroT])
        clear HP HNO HZ HY HT
        go_wp2_with fail
        rw [HW.out]
        exact bodyPost_v rfl (res2 Tryz.results81 (resC rfl inferInstance) (resT rfl)) (by repeat (first | with_reducible exact HK.out | with_reducible exact Kept.refl _ _ | with_reducible refine Kept.prev ?_ | with_reducible refine Kept.alloc' ?_ _ | with_reducible refine Kept.drew' ?_ | with_reducible refine Kept.setB ?_ _ _ _ (by omega) | with_reducible refine Kept.row' ?_ _ _ (by omega) | with_reducible refine Kept.map' ?_ _ _ (by omega)))
      obtain ⟨n, hn⟩ := Int.eq_ofNat_of_zero_le (by omega : 0 ≤ y.sub)
      by_cases h1 : t.subs.length ≤ n
      · have HW : Hid (indexX t x = ((0, 0), false)) := HZ.out (by rw [row_out (.inr (by omega))]; simp [zeroT])
        have h2 : (t.subs.length : Int) ≤ y.sub := by omega
        clear HP HNO HZ HY HT hn
        go_wp2_with fail
        rw [HW.out]
        exact bodyPost_v rfl (res2 Tryz.results81 (resC rfl inferInstance) (resT rfl)) (by repeat (first | with_reducible exact HK.out | with_reducible exact Kept.refl _ _ | with_reducible refine Kept.prev ?_ | with_reducible refine Kept.alloc' ?_ _ | with_reducible refine Kept.drew' ?_ | with_reducible refine Kept.setB ?_ _ _ _ (by omega) | with_reducible refine Kept.row' ?_ _ _ (by omega) | with_reducible refine Kept.map' ?_ _ _ (by omega)))
      obtain ⟨s, bs, os, hs, ha, hat, _⟩ := tab_sub (HT.out.kept (w' := w3) (by repeat (first | with_reducible exact HK.out | with_reducible exact Kept.refl _ _ | with_reducible refine Kept.prev ?_ | with_reducible refine Kept.alloc' ?_ _ | with_reducible refine Kept.drew' ?_ | with_reducible refine Kept.setB ?_ _ _ _ (by omega) | with_reducible refine Kept.row' ?_ _ _ (by omega) | with_reducible refine Kept.map' ?_ _ _ (by omega)))) (by omega : n < t.subs.length)
      have h2 : (n : Int) < (t.subs.length : Int) := by omega
      rw [hn] at HZ HY
      rw [ha] at HP
      by_cases h3 : s.t < 0
      · have HW : Hid (indexX t x = ((0, 0), false)) := HZ.out (by rw [row_in hs (.inl h3)]; simp [zeroT])
        clear HP HNO HZ HY HT hs
        go_wp2_with fail
        rw [HW.out]
        exact bodyPost_v rfl (res2 Tryz.results81 (resC rfl inferInstance) (resT rfl)) (by repeat (first | with_reducible exact HK.out | with_reducible exact Kept.refl _ _ | with_reducible refine Kept.prev ?_ | with_reducible refine Kept.alloc' ?_ _ | with_reducible refine Kept.drew' ?_ | with_reducible refine Kept.setB ?_ _ _ _ (by omega) | with_reducible refine Kept.row' ?_ _ _ (by omega) | with_reducible refine Kept.map' ?_ _ _ (by omega)))
      obtain ⟨m, hm⟩ := Int.eq_ofNat_of_zero_le (by omega : 0 ≤ s.t)
      by_cases h4 : t.types.length ≤ m
      · have HW : Hid (indexX t x = ((0, 0), false)) := HZ.out (by rw [row_in hs (.inr (by omega))]; simp [zeroT])
        have h5 : (t.types.length : Int) ≤ s.t := by omega
        clear HP HNO HZ HY HT hs hm
        go_wp2_with fail
        rw [HW.out]
        exact bodyPost_v rfl (res2 Tryz.results81 (resC rfl inferInstance) (resT rfl)) (by repeat (first | with_reducible exact HK.out | with_reducible exact Kept.refl _ _ | with_reducible refine Kept.prev ?_ | with_reducible refine Kept.alloc' ?_ _ | with_reducible refine Kept.drew' ?_ | with_reducible refine Kept.setB ?_ _ _ _ (by omega) | with_reducible refine Kept.row' ?_ _ _ (by omega) | with_reducible refine Kept.map' ?_ _ _ (by omega)))
      obtain ⟨z, bt, ot, hz, hta, hat2, _⟩ := tab_ty (HT.out.kept (w' := w3) (by repeat (first | with_reducible exact HK.out | with_reducible exact Kept.refl _ _ | with_reducible refine Kept.prev ?_ | with_reducible refine Kept.alloc' ?_ _ | with_reducible refine Kept.drew' ?_ | with_reducible refine Kept.setB ?_ _ _ _ (by omega) | with_reducible refine Kept.row' ?_ _ _ (by omega) | with_reducible refine Kept.map' ?_ _ _ (by omega)))) (by omega : m < t.types.length)
      have HA2 := Lib.hid ha
      have h5 : (m : Int) < (t.types.length : Int) := by omega
      have HR : Hid ((rowO t (n : Int)).1 = z) := by rw [Hid, row_at hs hm hz]
      rw [hta] at HP
      clear hs hz
      by_cases hk : z.kind = 4
      rotate_left
      · have HW : Hid (indexX t x = ((0, 0), false)) := HZ.out (by rw [HR.out]; exact hk)
        have hk2 : (z.kind != 4) = true := by simp [hk]
        clear HP HNO HZ HY HT hk HR
        go_wp2_with fail
        rw [HW.out]
        exact bodyPost_v rfl (res2 Tryz.results81 (resC rfl inferInstance) (resT rfl)) (by repeat (first | with_reducible exact HK.out | with_reducible exact Kept.refl _ _ | with_reducible refine Kept.prev ?_ | with_reducible refine Kept.alloc' ?_ _ | with_reducible refine Kept.drew' ?_ | with_reducible refine Kept.setB ?_ _ _ _ (by omega) | with_reducible refine Kept.row' ?_ _ _ (by omega) | with_reducible refine Kept.map' ?_ _ _ (by omega)))
      have HW := Lib.hid (HY.out z (by rw [HTO.out]; rfl) HR.out hk)
      clear HNO HZ HY HT HR
      go_wp2_with fail
      unfold pvV at HP
      refine wp_region_head 13 2 (fun _ => .cells #[.int .i64 0, .int .i64 0] 43) (by kernel_rfl) (by kernel_rfl) (fun i o h1 h2 h3 => by obtain rfl | rfl : i = 13 ∨ i = 14 := (by omega); all_goals (obtain rfl := Option.some.inj h3; exact alc_of rfl rfl Tryz.zeroBd)) (fun _ _ _ _ _ h => h) ?_; apply Exists.intro; refine ⟨fun U hU hN => ?_, ?_⟩; simp only [List.take_succ_cons, List.take_zero]
      · repeat (go_big_quiet_step (exact Calls.headV hU (HP.out _ _ (Kept.trans (by repeat (first | with_reducible exact HK.out | with_reducible exact Kept.refl _ _ | with_reducible refine Kept.prev ?_ | with_reducible refine Kept.alloc' ?_ _ | with_reducible refine Kept.drew' ?_ | with_reducible refine Kept.setB ?_ _ _ _ (by omega) | with_reducible refine Kept.row' ?_ _ _ (by omega) | with_reducible refine Kept.map' ?_ _ _ (by omega))) (AfterU.prop _)))))
        refine wpQuiet_nil ?_
        exact rfl
      simp only [List.drop_succ_cons, List.drop_zero, List.take_succ_cons, List.take_zero]
      intro B1 hB1 _ B2 hB2 hne w4 hk4 hh
      haveI p_w4 : PrevWorld w4 w3 := ⟨hk4⟩
      haveI bx1 : BoxIs w4 B1 43 #[.int .i64 0, .int .i64 0] := box_of hh (by simp)
      haveI bx2 : BoxIs w4 B2 43 #[.int .i64 0, .int .i64 0] := box_of hh (by simp)
      have hne2 := ne_of hne
      haveI ap1 : Apart B1 B2 := ⟨hne2⟩
      haveI ap2 : Apart B2 B1 := ⟨hne2.symm⟩
      have hlt : w.heap.size + 1 + 1 < w3.heap.size := BoxIs.lt (w := w3) (by infer_instance)
      haveI l1 : LtB (w.heap.size + 1 + 1) B1 := ⟨by omega⟩
      haveI l2 : LtB (w.heap.size + 1 + 1) B2 := ⟨by omega⟩
      clear hk4 hh hne
      generalize plainX t z.index = r at *
      go_wp2_with fail
      cases hr : r.2.2
      · rw [hr] at HW
        clear HP
        go_region
        go_wp2_with fail
        rw [HW.out]
        exact bodyPost_v rfl (res2 Tryz.results81 (resC rfl inferInstance) (resT rfl)) (by repeat (first | with_reducible exact HK.out | with_reducible exact Kept.refl _ _ | with_reducible refine Kept.prev ?_ | with_reducible refine Kept.alloc' ?_ _ | with_reducible refine Kept.drew' ?_ | with_reducible refine Kept.setB ?_ _ _ _ (by omega) | with_reducible refine Kept.row' ?_ _ _ (by omega) | with_reducible refine Kept.map' ?_ _ _ (by omega)))
      rw [hr] at HW
      clear HP
      go_region
      go_wp2_with fail
      rw [HW.out]
      exact bodyPost_v rfl (res2 Tryz.results81 (resC rfl inferInstance) (resT rfl)) (by repeat (first | with_reducible exact HK.out | with_reducible exact Kept.refl _ _ | with_reducible refine Kept.prev ?_ | with_reducible refine Kept.alloc' ?_ _ | with_reducible refine Kept.drew' ?_ | with_reducible refine Kept.setB ?_ _ _ _ (by omega) | with_reducible refine Kept.row' ?_ _ _ (by omega) | with_reducible refine Kept.map' ?_ _ _ (by omega)))
end Go.Proofs.YtgdjhhfbpalkdaaGreat
