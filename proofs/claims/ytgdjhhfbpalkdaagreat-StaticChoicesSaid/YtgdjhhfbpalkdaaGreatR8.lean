/- The reference: raw, value. -/
import Derived.Test.YtgdjhhfbpalkdaaGreatR7
namespace Go.Proofs.YtgdjhhfbpalkdaaGreat
open Go.RowKit
@[go_sem] theorem ent_c10 (w : World) (b o : Nat) (x : EntV) [h : EntAt w b o x] : w.cell? ⟨b, o + 10, none⟩ = some (.int .i64 x.value) := h.range 10 _ rfl
abbrev RawRs (w : World) (v : TabV) (t : Tab) (x : ExV) (n : Nat) : Prop := Calls Tryz.prog 49 #[.agg (v.cells t), .agg x.cells.toArray] w (RetR (rawR (valP t n) t x) w)
section
variable (w : World) (v : TabV) (t : Tab) (x : ExV) (n : Nat)
set_option maxRecDepth 100000 in
theorem rraw_int (hk : x.kind = 1) : RawRs w v t x n := by
  unfold RawRs
  have HW : Hid (rawR (valP t n) t x = some x.n) := by rw [Hid, rawR, if_pos hk]
  unfold TabV.cells
  go_enter Tryz.func49, Tryz.ntmps49
  go_wp2_with fail
  rw [HW.out]
  exact bodyPost_r rfl (res2 Tryz.results49 (resT rfl) (resT rfl)) (fun u h => by cases h; rfl) (by repeat (first | with_reducible exact HK.out | with_reducible exact Kept.refl _ _ | with_reducible refine Kept.prev ?_ | with_reducible refine Kept.alloc' ?_ _ | with_reducible refine Kept.drew' ?_ | with_reducible refine Kept.setB ?_ _ _ _ (by omega) | with_reducible refine Kept.row' ?_ _ _ (by omega) | with_reducible refine Kept.map' ?_ _ _ (by omega)))
set_option maxRecDepth 100000 in
set_option maxHeartbeats 1000000 in
theorem rraw_name (hT : TabIn w v t) (hI : ((entP t x.ent).kind == 9 || (entP t x.ent).kind == 10 || (entP t x.ent).kind == 8 && (entP t x.ent).static) = true) (hk : x.kind = 3 ∨ x.kind = 4) : RawRs w v t x n := by
  unfold RawRs
  have HW0 : Hid (rawR (valP t n) t x = some (entP t x.ent).value) := by rw [Hid, rawR, if_neg (by rcases hk with h | h <;> rw [h] <;> decide), if_pos hk]
  have hin : ¬ (x.ent < 0 ∨ (t.ents.length : Int) ≤ x.ent) := fun h => by
    rw [ent_out h] at hI
    simp [zeroE] at hI
  obtain ⟨k, hke⟩ := Int.eq_ofNat_of_zero_le (by omega : 0 ≤ x.ent)
  obtain ⟨y, b, o, hy, ha, hat, _⟩ := tab_ent hT (show k < t.ents.length by omega)
  have HW : Hid (rawR (valP t n) t x = some y.value) := by rw [Hid, HW0.out, hke, ent_in hy]
  have h2 : (k : Int) < (t.ents.length : Int) := by omega
  have q1 := hT.el
  clear HW0 hI hin hT hy
  unfold TabV.cells
  rcases hk with hk | hk
  all_goals
    go_enter Tryz.func49, Tryz.ntmps49
    go_wp2_with fail
    rw [HW.out]
    exact bodyPost_r rfl (res2 Tryz.results49 (resT rfl) (resT rfl)) (fun u h => by cases h; rfl) (by repeat (first | with_reducible exact HK.out | with_reducible exact Kept.refl _ _ | with_reducible refine Kept.prev ?_ | with_reducible refine Kept.alloc' ?_ _ | with_reducible refine Kept.drew' ?_ | with_reducible refine Kept.setB ?_ _ _ _ (by omega) | with_reducible refine Kept.row' ?_ _ _ (by omega) | with_reducible refine Kept.map' ?_ _ _ (by omega)))
theorem arr_plain {t : Tab} {y : ExV} {i : Int} (h : arrP t y = some i) : (plainP t i).isSome = true := by
  unfold arrP at h
  split at h
  · split at h
    · cases h
    · split at h
      · split at h
        · cases h
        · rename_i b _ hp
          split at h
          · cases h
            rw [hp]
            rfl
          · cases h
      · cases h
  · cases h
theorem pref_at {t : Tab} {x : ExV} (h : (attrP t x).isSome = true) : x.ls.length = 1 ∧ ∃ (k : Nat) (arr : Bool) (s : SubtV), prefP t (l0 x) = ((k : Int), arr, true) ∧ t.subs[k]? = some s ∧ attrP t x = some (s.lo, s.hi) := by
  have hl : x.ls.length = 1 := by
    apply Classical.byContradiction
    intro hn
    rw [attr_len hn] at h
    cases h
  refine ⟨hl, ?_⟩
  have h1 := attr_some hl (t := t)
  rw [h] at h1
  have hok : (prefP t (l0 x)).2.2 = true := by
    have := h1.symm
    rw [Bool.and_eq_true] at this
    exact this.1
  have hb : attrP t x = some (boundsP t (prefP t (l0 x)).1) := by
    have e := list1 (d := default) hl
    have h0 : l0 x = x.ls.getD 0 default := rfl
    rw [← h0] at e
    have h2 := attr_pref t x
    rw [e] at h2
    simp only at h2
    split at h2
    · exact h2
    · rw [h2] at h
      cases h
  cases hm : (markP t (l0 x)).isSome
  · cases ha : arrP t (l0 x) with
    | none =>
      rw [pref_none hm ha] at hok
      cases hok
    | some i =>
      obtain ⟨k, s, rfl, hs, hbd⟩ := plain_sub (arr_plain ha)
      rw [pref_some hm ha] at hb ⊢
      exact ⟨k, true, s, rfl, hs, by rw [hb, hbd]⟩
  · obtain ⟨⟨b, a⟩, hmb⟩ := Option.isSome_iff_exists.1 hm
    obtain ⟨_, hp⟩ := mark_bounds hmb
    obtain ⟨k, s, hk, hs, hbd⟩ := plain_sub (t := t) (n := (entP t (l0 x).ent).sub) (by rw [hp]; rfl)
    rw [pref_mark hm, hk] at hb ⊢
    rw [hk] at hbd
    exact ⟨k, false, s, rfl, hs, by rw [hb, hbd]⟩
set_option maxRecDepth 100000 in
set_option maxHeartbeats 4000000 in
theorem rraw_attr (hT : TabIn w v t) (hx : ExIn w (n + 1) x) (hI : (attrP t x).isSome = true) (hk : x.kind = 6) : RawRs w v t x n := by
  unfold RawRs
  obtain ⟨hl, k, arr, s, hp, hs, hb⟩ := pref_at hI
  have HA := Lib.hid (fun w' (hk : Kept [] w w') => prefix_any w' v t (l0 x) (hT.kept hk))
  rw [hp] at HA
  have HW0 : Hid (rawR (valP t n) t x = if x.s = sFirst then some s.lo else if x.s = sLast then some s.hi else if 4611686018427387904 ≤ s.hi - s.lo then none else some (s.hi - s.lo + 1)) := by
    rw [Hid, rawR]
    simp only [hk, attrV, hb]
    rfl
  have HR := Lib.hid (fun h1 h2 => attr_64 hT.sb hb h1 h2)
  obtain ⟨s', bs, os, hs', hsa, hsat, _⟩ := tab_sub hT (List.getElem?_eq_some_iff.1 hs).1
  obtain rfl : s' = s := by rw [hs] at hs'; exact (Option.some.inj hs').symm
  have h2 : (k : Int) < (t.subs.length : Int) := by have := (List.getElem?_eq_some_iff.1 hs).1; omega
  obtain ⟨b0, o0, ha, hat, _⟩ := ex_first hx (by omega)
  have hl3 : (0 : Int) < (x.ls.length : Int) := by omega
  have q1 := hx.2.2.2.2.1
  have q2 := hT.sl
  unfold TabV.cells at HA
  unfold TabV.cells
  unfold prefV at HA
  rw [hsa] at HA
  clear hT hx hI hp hs hb hs' hl
  generalize l0 x = y at *
  have s1 := str_first x.s
  have s2 := str_last x.s
  go_enter Tryz.func49, Tryz.ntmps49
  go_wp2_with fail
  refine wp_region_head 13 0 (fun _ => .cells #[] 0) (by kernel_rfl) (by kernel_rfl) (fun i o h1 h2 => by omega) (fun _ _ _ _ _ h => h) ?_; apply Exists.intro; refine ⟨fun U hU hN => ?_, ?_⟩; simp only [List.take_succ_cons, List.take_zero]
  · repeat (go_big_quiet_step (exact Calls.headV hU (HA.out _ (Kept.trans (by repeat (first | with_reducible exact HK.out | with_reducible exact Kept.refl _ _ | with_reducible refine Kept.prev ?_ | with_reducible refine Kept.alloc' ?_ _ | with_reducible refine Kept.drew' ?_ | with_reducible refine Kept.setB ?_ _ _ _ (by omega) | with_reducible refine Kept.row' ?_ _ _ (by omega) | with_reducible refine Kept.map' ?_ _ _ (by omega))) (AfterU.prop _)))))
    refine wpQuiet_nil ?_
    exact rfl
  simp only [List.drop_succ_cons, List.drop_zero, List.take_zero]
  intro w2 hk_w2 _
  haveI p_w2 : PrevWorld w2 _ := ⟨hk_w2⟩
  clear hk_w2
  clear HA
  by_cases c1 : x.s = sFirst
  · have HW : Hid (rawR (valP t n) t x = some s'.lo) := by rw [Hid, HW0.out, if_pos c1]
    rw [decide_eq_true c1] at s1
    clear s2 HW0 c1 HR
    go_wp2_with fail
    rw [HW.out]
    exact bodyPost_r rfl (res2 Tryz.results49 (resT rfl) (resT rfl)) (fun u h => by cases h; rfl) (by repeat (first | with_reducible exact HK.out | with_reducible exact Kept.refl _ _ | with_reducible refine Kept.prev ?_ | with_reducible refine Kept.alloc' ?_ _ | with_reducible refine Kept.drew' ?_ | with_reducible refine Kept.setB ?_ _ _ _ (by omega) | with_reducible refine Kept.row' ?_ _ _ (by omega) | with_reducible refine Kept.map' ?_ _ _ (by omega)))
  rw [decide_eq_false c1] at s1
  by_cases c2 : x.s = sLast
  · have HW : Hid (rawR (valP t n) t x = some s'.hi) := by rw [Hid, HW0.out, if_neg c1, if_pos c2]
    rw [decide_eq_true c2] at s2
    clear HW0 c1 c2 HR
    go_wp2_with fail
    rw [HW.out]
    exact bodyPost_r rfl (res2 Tryz.results49 (resT rfl) (resT rfl)) (fun u h => by cases h; rfl) (by repeat (first | with_reducible exact HK.out | with_reducible exact Kept.refl _ _ | with_reducible refine Kept.prev ?_ | with_reducible refine Kept.alloc' ?_ _ | with_reducible refine Kept.drew' ?_ | with_reducible refine Kept.setB ?_ _ _ _ (by omega) | with_reducible refine Kept.row' ?_ _ _ (by omega) | with_reducible refine Kept.map' ?_ _ _ (by omega)))
  rw [decide_eq_false c2] at s2
  obtain ⟨⟨⟨b1, b2⟩, b3, b4⟩, b5⟩ := HR.out c1 c2
  have HW1 : Hid (rawR (valP t n) t x = if 4611686018427387904 ≤ s'.hi - s'.lo then none else some (s'.hi - s'.lo + 1)) := by rw [Hid, HW0.out, if_neg c1, if_neg c2]
  clear HW0 c1 c2 HR
  simp only at b1 b2 b3 b4 b5
  have hu : IntKind.u64.wrap (IntKind.u64.wrap s'.hi - IntKind.u64.wrap s'.lo) = s'.hi - s'.lo := by
    have e1 : IntKind.u64.signed = false := rfl
    have e2 : (2 : Int) ^ IntKind.u64.bits = 18446744073709551616 := by decide
    simp only [IntKind.wrap, e1, e2, Bool.false_and, Bool.false_eq_true, if_false]
    omega
  go_wp2_with fail
  by_cases c : 4611686018427387904 ≤ s'.hi - s'.lo
  · have HW : Hid (rawR (valP t n) t x = none) := by rw [Hid, HW1.out, if_pos c]
    clear HW1
    refine wp_region_head 16 0 (fun _ => .cells #[] 0) (by kernel_rfl) (by kernel_rfl) (fun i o h1 h2 => by omega) (fun _ _ _ _ _ h => h) ?_; apply Exists.intro; refine ⟨fun U hU hN => ?_, ?_⟩; simp only [List.take_succ_cons, List.take_zero]
    · repeat (go_big_quiet_step (fail))
      refine wpQuiet_nil ?_
      exact rfl
    simp only [List.drop_succ_cons, List.drop_zero, List.take_zero]
    intro w3 hk_w3 _
    haveI p_w3 : PrevWorld w3 _ := ⟨hk_w3⟩
    clear hk_w3
    go_wp2_with fail
    rw [HW.out]
    exact bodyPost_r rfl (res2 Tryz.results49 (resT rfl) (resT rfl)) (fun u h => by cases h) (by repeat (first | with_reducible exact HK.out | with_reducible exact Kept.refl _ _ | with_reducible refine Kept.prev ?_ | with_reducible refine Kept.alloc' ?_ _ | with_reducible refine Kept.drew' ?_ | with_reducible refine Kept.setB ?_ _ _ _ (by omega) | with_reducible refine Kept.row' ?_ _ _ (by omega) | with_reducible refine Kept.map' ?_ _ _ (by omega)))
  · have HW : Hid (rawR (valP t n) t x = some (s'.hi - s'.lo + 1)) := by rw [Hid, HW1.out, if_neg c]
    have c' : decide (4611686018427387904 ≤ s'.hi - s'.lo) = false := decide_eq_false c
    clear HW1
    refine wp_region_head 16 0 (fun _ => .cells #[] 0) (by kernel_rfl) (by kernel_rfl) (fun i o h1 h2 => by omega) (fun _ _ _ _ _ h => h) ?_; apply Exists.intro; refine ⟨fun U hU hN => ?_, ?_⟩; simp only [List.take_succ_cons, List.take_zero]
    · repeat (go_big_quiet_step (fail))
      refine wpQuiet_nil ?_
      exact rfl
    simp only [List.drop_succ_cons, List.drop_zero, List.take_zero]
    intro w3 hk_w3 _
    haveI p_w3 : PrevWorld w3 _ := ⟨hk_w3⟩
    clear hk_w3
    go_wp2_with fail
    refine wp_region_head 16 0 (fun _ => .cells #[] 0) (by kernel_rfl) (by kernel_rfl) (fun i o h1 h2 => by omega) (fun _ _ _ _ _ h => h) ?_; apply Exists.intro; refine ⟨fun U hU hN => ?_, ?_⟩; simp only [List.take_succ_cons, List.take_zero]
    · repeat (go_big_quiet_step (fail))
      refine wpQuiet_nil ?_
      exact rfl
    simp only [List.drop_succ_cons, List.drop_zero, List.take_zero]
    intro w4 hk_w4 _
    haveI p_w4 : PrevWorld w4 _ := ⟨hk_w4⟩
    clear hk_w4
    go_wp2_with fail
    rw [HW.out]
    exact bodyPost_r rfl (res2 Tryz.results49 (resT rfl) (resT rfl)) (fun u h => by cases h; rfl) (by repeat (first | with_reducible exact HK.out | with_reducible exact Kept.refl _ _ | with_reducible refine Kept.prev ?_ | with_reducible refine Kept.alloc' ?_ _ | with_reducible refine Kept.drew' ?_ | with_reducible refine Kept.setB ?_ _ _ _ (by omega) | with_reducible refine Kept.row' ?_ _ _ (by omega) | with_reducible refine Kept.map' ?_ _ _ (by omega)))
set_option maxRecDepth 100000 in
set_option maxHeartbeats 1000000 in
theorem rraw_call (ih : ValR v t n) (hT : TabIn w v t) (hx : ExIn w (n + 1) x) (hI : callF (isP t n) t x = true) (hk : x.kind = 7) : RawRs w v t x n := by
  unfold RawRs
  have HC := Lib.hid (fun w' (hk : Kept [] w w') => rcall_any w' v t x n ih (hT.kept hk) (hx.kept hk) hI)
  have HW : Hid (rawR (valP t n) t x = callV (valP t n) t x) := by rw [Hid, rawR]; simp [hk]
  clear hT hx hI ih
  unfold TabV.cells at *
  unfold ovV at HC
  generalize callV (valP t n) t x = R at *
  go_enter Tryz.func49, Tryz.ntmps49
  go_wp2_with fail
  refine (HC.out _ (by repeat (first | with_reducible exact HK.out | with_reducible exact Kept.refl _ _ | with_reducible refine Kept.prev ?_ | with_reducible refine Kept.alloc' ?_ _ | with_reducible refine Kept.drew' ?_ | with_reducible refine Kept.setB ?_ _ _ _ (by omega) | with_reducible refine Kept.row' ?_ _ _ (by omega) | with_reducible refine Kept.map' ?_ _ _ (by omega)))).mono ?_; rintro e w2 ⟨rfl, hk_w2⟩; haveI p_w2 : PrevWorld w2 _ := ⟨hk_w2⟩; have hz_w2 : w.heap.size ≤ w2.heap.size := Kept.size (by repeat (first | with_reducible exact HK.out | with_reducible exact Kept.refl _ _ | with_reducible refine Kept.prev ?_ | with_reducible refine Kept.alloc' ?_ _ | with_reducible refine Kept.drew' ?_ | with_reducible refine Kept.setB ?_ _ _ _ (by omega) | with_reducible refine Kept.row' ?_ _ _ (by omega) | with_reducible refine Kept.map' ?_ _ _ (by omega))); clear hk_w2
  go_wp2_with fail
  rw [HW.out]
  exact bodyPost_r rfl (res2 Tryz.results49 (resT rfl) (resT rfl)) (fun u h => by rw [h]; rfl) (by repeat (first | with_reducible exact HK.out | with_reducible exact Kept.refl _ _ | with_reducible refine Kept.prev ?_ | with_reducible refine Kept.alloc' ?_ _ | with_reducible refine Kept.drew' ?_ | with_reducible refine Kept.setB ?_ _ _ _ (by omega) | with_reducible refine Kept.row' ?_ _ _ (by omega) | with_reducible refine Kept.map' ?_ _ _ (by omega)))
set_option maxRecDepth 100000 in
set_option maxHeartbeats 1000000 in
theorem rraw_in (ih : ValR v t n) (hT : TabIn w v t) (hx : ExIn w (n + 1) x) (hI : inF (isP t n) t x = true) (hk : x.kind = 13) : RawRs w v t x n := by
  unfold RawRs
  have HC := Lib.hid (fun w' (hk : Kept [] w w') => rmember_any w' v t x n ih (hT.kept hk) (hx.kept hk) hI)
  have HW : Hid (rawR (valP t n) t x = (memV (valP t n) t x).map truthP) := by rw [Hid, rawR]; simp [hk]
  clear hT hx hI ih
  unfold TabV.cells at *
  generalize memV (valP t n) t x = R at *
  go_enter Tryz.func49, Tryz.ntmps49
  go_wp2_with fail
  refine (HC.out _ (by repeat (first | with_reducible exact HK.out | with_reducible exact Kept.refl _ _ | with_reducible refine Kept.prev ?_ | with_reducible refine Kept.alloc' ?_ _ | with_reducible refine Kept.drew' ?_ | with_reducible refine Kept.setB ?_ _ _ _ (by omega) | with_reducible refine Kept.row' ?_ _ _ (by omega) | with_reducible refine Kept.map' ?_ _ _ (by omega)))).mono ?_
  rintro e w2 ⟨z, rfl, h1, h2, h3, hk2⟩
  haveI p_w2 : PrevWorld w2 _ := ⟨hk2⟩
  have H1 := Lib.hid h1
  clear hk2 HC h1
  have HE : Hid (R.isSome = (R.map truthP).isSome) := by cases R <;> rfl
  go_wp2_with fail
  rw [HW.out]
  exact bodyPost_r rfl (res2 Tryz.results49 (resT rfl) (resT (congrArg Value.bool HE.out))) (fun u h => by
    cases R with
    | none => cases h
    | some b => rw [H1.out b rfl]; exact Option.some.inj h) (by repeat (first | with_reducible exact HK.out | with_reducible exact Kept.refl _ _ | with_reducible refine Kept.prev ?_ | with_reducible refine Kept.alloc' ?_ _ | with_reducible refine Kept.drew' ?_ | with_reducible refine Kept.setB ?_ _ _ _ (by omega) | with_reducible refine Kept.row' ?_ _ _ (by omega) | with_reducible refine Kept.map' ?_ _ _ (by omega)))
set_option maxRecDepth 100000 in
set_option maxHeartbeats 1000000 in
theorem rraw_not (ih : ValR v t n) (hT : TabIn w v t) (hx : ExIn w (n + 1) x) (hI : inF (isP t n) t x = true) (hk : x.kind = 14) : RawRs w v t x n := by
  unfold RawRs
  have HC := Lib.hid (fun w' (hk : Kept [] w w') => rmember_any w' v t x n ih (hT.kept hk) (hx.kept hk) hI)
  have HW : Hid (rawR (valP t n) t x = (memV (valP t n) t x).map fun b => truthP (!b)) := by rw [Hid, rawR]; simp [hk]
  clear hT hx hI ih
  unfold TabV.cells at *
  generalize memV (valP t n) t x = R at *
  go_enter Tryz.func49, Tryz.ntmps49
  go_wp2_with fail
  refine (HC.out _ (by repeat (first | with_reducible exact HK.out | with_reducible exact Kept.refl _ _ | with_reducible refine Kept.prev ?_ | with_reducible refine Kept.alloc' ?_ _ | with_reducible refine Kept.drew' ?_ | with_reducible refine Kept.setB ?_ _ _ _ (by omega) | with_reducible refine Kept.row' ?_ _ _ (by omega) | with_reducible refine Kept.map' ?_ _ _ (by omega)))).mono ?_
  rintro e w2 ⟨z, rfl, h1, h2, h3, hk2⟩
  haveI p_w2 : PrevWorld w2 _ := ⟨hk2⟩
  have H1 := Lib.hid h1
  clear hk2 HC h1
  have HE : Hid (R.isSome = (R.map fun b => truthP (!b)).isSome) := by cases R <;> rfl
  go_wp2_with fail
  rw [HW.out]
  exact bodyPost_r rfl (res2 Tryz.results49 (resT rfl) (resT (congrArg Value.bool HE.out))) (fun u h => by
    cases R with
    | none => cases h
    | some b =>
      rw [H1.out b rfl, ← Option.some.inj h]
      cases b <;> rfl) (by repeat (first | with_reducible exact HK.out | with_reducible exact Kept.refl _ _ | with_reducible refine Kept.prev ?_ | with_reducible refine Kept.alloc' ?_ _ | with_reducible refine Kept.drew' ?_ | with_reducible refine Kept.setB ?_ _ _ _ (by omega) | with_reducible refine Kept.row' ?_ _ _ (by omega) | with_reducible refine Kept.map' ?_ _ _ (by omega)))
set_option maxRecDepth 100000 in
set_option maxHeartbeats 2000000 in
theorem rraw_qual (ih : ValR v t n) (hT : TabIn w v t) (hx : ExIn w (n + 1) x) (hI : qualF (isP t n) t x = true) (hk : x.kind = 8) : RawRs w v t x n := by
  unfold RawRs
  have hl : x.ls.length = 2 := by
    apply Classical.byContradiction
    intro hn
    rw [qual_no hn] at hI
    cases hI
  rw [qual_yes hl, markX_ok, Bool.and_eq_true] at hI
  obtain ⟨⟨⟨lo, hi⟩, a⟩, hm⟩ := Option.isSome_iff_exists.1 hI.1
  obtain ⟨b0, o0, ha, hat0, hat1, hi0, hi1⟩ := ex_second hx (by omega)
  have hI1 := hI.2
  have HS := Lib.hid (fun w' (hk : Kept [] w w') => ih w' (l1 x) (hT.kept hk) (hi1.kept hk) hI1)
  have HMK := Lib.hid (fun w' (hk : Kept [] w w') => rMark_any w' v t (l0 x) (hT.kept hk))
  have HW0 : Hid (rawR (valP t n) t x = match valP t n (l1 x) with | none => none | some u => withinP u (lo, hi)) := by
    rw [Hid, rawR]
    simp only [hk, qualV, hm]
    rfl
  obtain ⟨k, s, hrm, hs, hbd, _⟩ := mark_at hm
  obtain ⟨s', bs, os, hs', hsa, hsat, _⟩ := tab_sub hT (List.getElem?_eq_some_iff.1 hs).1
  obtain rfl : s' = s := by rw [hs] at hs'; exact (Option.some.inj hs').symm
  obtain ⟨rfl, rfl⟩ : lo = s'.lo ∧ hi = s'.hi := by injection hbd with h1 h2; exact ⟨h1, h2⟩
  have h2 : (k : Int) < (t.subs.length : Int) := by have := (List.getElem?_eq_some_iff.1 hs).1; omega
  rw [hrm] at HMK
  have q1 := hx.2.2.2.2.1
  have q2 := hT.sl
  unfold TabV.cells at HS HMK
  unfold TabV.cells
  unfold rmV at HMK
  unfold ovV at HS
  rw [hsa] at HS HMK
  have hl3 : (1 : Int) < (x.ls.length : Int) := by omega
  have hl4 : (0 : Int) < (x.ls.length : Int) := by omega
  clear hT hx hI hI1 ih hm hrm hs hbd hs' hi0 hi1 hl
  generalize l0 x = y at *
  generalize l1 x = z at *
  generalize rawR (valP t n) t x = R at *
  generalize valP t n z = o at *
  go_enter Tryz.func49, Tryz.ntmps49
  go_wp2_with fail
  cases o with
  | none =>
    have HW : Hid (R = none) := HW0.out
    simp only [Option.getD_none, Option.isSome_none] at HS
    refine wp_region_head 11 0 (fun _ => .cells #[] 0) (by kernel_rfl) (by kernel_rfl) (fun i o h1 h2 => by omega) (fun _ _ _ _ _ h => h) ?_; apply Exists.intro; refine ⟨fun U hU hN => ?_, ?_⟩; simp only [List.take_succ_cons, List.take_zero]
    · repeat (go_big_quiet_step (exact Calls.headV hU (HS.out _ (Kept.trans (by repeat (first | with_reducible exact HK.out | with_reducible exact Kept.refl _ _ | with_reducible refine Kept.prev ?_ | with_reducible refine Kept.alloc' ?_ _ | with_reducible refine Kept.drew' ?_ | with_reducible refine Kept.setB ?_ _ _ _ (by omega) | with_reducible refine Kept.row' ?_ _ _ (by omega) | with_reducible refine Kept.map' ?_ _ _ (by omega))) (AfterU.prop _)))))
      refine wpQuiet_nil ?_
      exact rfl
    simp only [List.drop_succ_cons, List.drop_zero, List.take_zero]
    intro w4 hk_w4 _
    haveI p_w4 : PrevWorld w4 _ := ⟨hk_w4⟩
    clear hk_w4
    go_wp2_with fail
    refine wp_region_head 11 0 (fun _ => .cells #[] 0) (by kernel_rfl) (by kernel_rfl) (fun i o h1 h2 => by omega) (fun _ _ _ _ _ h => h) ?_; apply Exists.intro; refine ⟨fun U hU hN => ?_, ?_⟩; simp only [List.take_succ_cons, List.take_zero]
    · repeat (go_big_quiet_step (exact Calls.headV hU (HMK.out _ (Kept.trans (by repeat (first | with_reducible exact HK.out | with_reducible exact Kept.refl _ _ | with_reducible refine Kept.prev ?_ | with_reducible refine Kept.alloc' ?_ _ | with_reducible refine Kept.drew' ?_ | with_reducible refine Kept.setB ?_ _ _ _ (by omega) | with_reducible refine Kept.row' ?_ _ _ (by omega) | with_reducible refine Kept.map' ?_ _ _ (by omega))) (AfterU.prop _)))))
      refine wpQuiet_nil ?_
      exact rfl
    simp only [List.drop_succ_cons, List.drop_zero, List.take_zero]
    intro w5 hk_w5 _
    haveI p_w5 : PrevWorld w5 _ := ⟨hk_w5⟩
    clear hk_w5
    go_wp2_with fail
    rw [HW.out]
    exact bodyPost_r rfl (res2 Tryz.results49 (resT rfl) (resT rfl)) (fun u h => by cases h) (by repeat (first | with_reducible exact HK.out | with_reducible exact Kept.refl _ _ | with_reducible refine Kept.prev ?_ | with_reducible refine Kept.alloc' ?_ _ | with_reducible refine Kept.drew' ?_ | with_reducible refine Kept.setB ?_ _ _ _ (by omega) | with_reducible refine Kept.row' ?_ _ _ (by omega) | with_reducible refine Kept.map' ?_ _ _ (by omega)))
  | some u =>
    have HW1 : Hid (R = withinP u (s'.lo, s'.hi)) := HW0.out
    simp only [Option.getD_some, Option.isSome_some] at HS
    refine wp_region_head 11 0 (fun _ => .cells #[] 0) (by kernel_rfl) (by kernel_rfl) (fun i o h1 h2 => by omega) (fun _ _ _ _ _ h => h) ?_; apply Exists.intro; refine ⟨fun U hU hN => ?_, ?_⟩; simp only [List.take_succ_cons, List.take_zero]
    · repeat (go_big_quiet_step (exact Calls.headV hU (HS.out _ (Kept.trans (by repeat (first | with_reducible exact HK.out | with_reducible exact Kept.refl _ _ | with_reducible refine Kept.prev ?_ | with_reducible refine Kept.alloc' ?_ _ | with_reducible refine Kept.drew' ?_ | with_reducible refine Kept.setB ?_ _ _ _ (by omega) | with_reducible refine Kept.row' ?_ _ _ (by omega) | with_reducible refine Kept.map' ?_ _ _ (by omega))) (AfterU.prop _)))))
      refine wpQuiet_nil ?_
      exact rfl
    simp only [List.drop_succ_cons, List.drop_zero, List.take_zero]
    intro w4 hk_w4 _
    haveI p_w4 : PrevWorld w4 _ := ⟨hk_w4⟩
    clear hk_w4
    clear HS HW0
    go_wp2_with fail
    refine wp_region_head 11 0 (fun _ => .cells #[] 0) (by kernel_rfl) (by kernel_rfl) (fun i o h1 h2 => by omega) (fun _ _ _ _ _ h => h) ?_; apply Exists.intro; refine ⟨fun U hU hN => ?_, ?_⟩; simp only [List.take_succ_cons, List.take_zero]
    · repeat (go_big_quiet_step (exact Calls.headV hU (HMK.out _ (Kept.trans (by repeat (first | with_reducible exact HK.out | with_reducible exact Kept.refl _ _ | with_reducible refine Kept.prev ?_ | with_reducible refine Kept.alloc' ?_ _ | with_reducible refine Kept.drew' ?_ | with_reducible refine Kept.setB ?_ _ _ _ (by omega) | with_reducible refine Kept.row' ?_ _ _ (by omega) | with_reducible refine Kept.map' ?_ _ _ (by omega))) (AfterU.prop _)))))
      refine wpQuiet_nil ?_
      exact rfl
    simp only [List.drop_succ_cons, List.drop_zero, List.take_zero]
    intro w5 hk_w5 _
    haveI p_w5 : PrevWorld w5 _ := ⟨hk_w5⟩
    clear hk_w5
    clear HMK
    go_wp2_with fail
    have HWI := Lib.hid (fun w' => rwithin_any w' u s'.lo s'.hi)
    unfold ovV at HWI
    generalize withinP u (s'.lo, s'.hi) = r at *
    have HW : Hid (R = r) := HW1.out
    refine wp_region_head 18 0 (fun _ => .cells #[] 0) (by kernel_rfl) (by kernel_rfl) (fun i o h1 h2 => by omega) (fun _ _ _ _ _ h => h) ?_; apply Exists.intro; refine ⟨fun U hU hN => ?_, ?_⟩; simp only [List.take_succ_cons, List.take_zero]
    · repeat (go_big_quiet_step (exact Calls.headV hU (HWI.out _)))
      refine wpQuiet_nil ?_
      exact rfl
    simp only [List.drop_succ_cons, List.drop_zero, List.take_zero]
    intro w6 hk_w6 _
    haveI p_w6 : PrevWorld w6 _ := ⟨hk_w6⟩
    clear hk_w6
    go_wp2_with fail
    rw [HW.out]
    exact bodyPost_r rfl (res2 Tryz.results49 (resT rfl) (resT rfl)) (fun u h => by rw [h]; rfl) (by repeat (first | with_reducible exact HK.out | with_reducible exact Kept.refl _ _ | with_reducible refine Kept.prev ?_ | with_reducible refine Kept.alloc' ?_ _ | with_reducible refine Kept.drew' ?_ | with_reducible refine Kept.setB ?_ _ _ _ (by omega) | with_reducible refine Kept.row' ?_ _ _ (by omega) | with_reducible refine Kept.map' ?_ _ _ (by omega)))
theorem all_first {I : ExV → Bool} {l : List ExV} {k j : Nat} (h : allF I l k = true) (hj : j < k) : l.length = k ∧ I (l.getD j default) = true := by
  unfold allF at h
  rw [Bool.and_eq_true, decide_eq_true_eq] at h
  obtain ⟨h1, h2⟩ := h
  refine ⟨h1, List.all_eq_true.1 h2 _ ?_⟩
  have hk' : j < l.length := by omega
  simp [List.getD_eq_getElem?_getD, hk']
set_option maxRecDepth 100000 in
set_option maxHeartbeats 2000000 in
theorem rraw_if (ih : ValR v t n) (hT : TabIn w v t) (hx : ExIn w (n + 1) x) (hI : allF (isP t n) x.ls 3 = true) (hk : x.kind = 10) : RawRs w v t x n := by
  unfold RawRs
  obtain ⟨hl, hI0⟩ := all_first hI (show 0 < 3 by decide)
  obtain ⟨_, hI1⟩ := all_first hI (show 1 < 3 by decide)
  obtain ⟨_, hI2⟩ := all_first hI (show 2 < 3 by decide)
  obtain ⟨b0, o0, ha, hat0, hat1, hat2, hi0, hi1, hi2⟩ := ex_third hx (by omega)
  have HS0 := Lib.hid (fun w' (hk : Kept [] w w') => ih w' (l0 x) (hT.kept hk) (hi0.kept hk) hI0)
  have HS1 := Lib.hid (fun w' (hk : Kept [] w w') => ih w' (l1 x) (hT.kept hk) (hi1.kept hk) hI1)
  have HS2 := Lib.hid (fun w' (hk : Kept [] w w') => ih w' (l2 x) (hT.kept hk) (hi2.kept hk) hI2)
  have HW0 : Hid (rawR (valP t n) t x = match valP t n (l0 x) with | none => none | some a => if a = 1 then valP t n (l1 x) else valP t n (l2 x)) := by
    rw [Hid, rawR]
    simp only [hk, ifV]
    rfl
  have q1 := hx.2.2.2.2.1
  unfold TabV.cells at HS0 HS1 HS2
  unfold TabV.cells
  unfold ovV at HS0 HS1 HS2
  have hl3 : (1 : Int) < (x.ls.length : Int) := by omega
  have hl4 : (0 : Int) < (x.ls.length : Int) := by omega
  have hl5 : (2 : Int) < (x.ls.length : Int) := by omega
  clear hT hx hI hI0 hI1 hI2 ih hi0 hi1 hi2 hl
  generalize l0 x = y0 at *
  generalize l1 x = y1 at *
  generalize l2 x = y2 at *
  generalize rawR (valP t n) t x = R at *
  generalize valP t n y0 = o at *
  generalize valP t n y1 = o1 at *
  generalize valP t n y2 = o2 at *
  go_enter Tryz.func49, Tryz.ntmps49
  go_wp2_with fail
  cases o with
  | none =>
    have HW : Hid (R = none) := HW0.out
    simp only [Option.getD_none, Option.isSome_none] at HS0
    refine wp_region_head 11 0 (fun _ => .cells #[] 0) (by kernel_rfl) (by kernel_rfl) (fun i o h1 h2 => by omega) (fun _ _ _ _ _ h => h) ?_; apply Exists.intro; refine ⟨fun U hU hN => ?_, ?_⟩; simp only [List.take_succ_cons, List.take_zero]
    · repeat (go_big_quiet_step (exact Calls.headV hU (HS0.out _ (Kept.trans (by repeat (first | with_reducible exact HK.out | with_reducible exact Kept.refl _ _ | with_reducible refine Kept.prev ?_ | with_reducible refine Kept.alloc' ?_ _ | with_reducible refine Kept.drew' ?_ | with_reducible refine Kept.setB ?_ _ _ _ (by omega) | with_reducible refine Kept.row' ?_ _ _ (by omega) | with_reducible refine Kept.map' ?_ _ _ (by omega))) (AfterU.prop _)))))
      refine wpQuiet_nil ?_
      exact rfl
    simp only [List.drop_succ_cons, List.drop_zero, List.take_zero]
    intro w4 hk_w4 _
    haveI p_w4 : PrevWorld w4 _ := ⟨hk_w4⟩
    clear hk_w4
    go_wp2_with fail
    rw [HW.out]
    exact bodyPost_r rfl (res2 Tryz.results49 (resT rfl) (resT rfl)) (fun u h => by cases h) (by repeat (first | with_reducible exact HK.out | with_reducible exact Kept.refl _ _ | with_reducible refine Kept.prev ?_ | with_reducible refine Kept.alloc' ?_ _ | with_reducible refine Kept.drew' ?_ | with_reducible refine Kept.setB ?_ _ _ _ (by omega) | with_reducible refine Kept.row' ?_ _ _ (by omega) | with_reducible refine Kept.map' ?_ _ _ (by omega)))
  | some u =>
    simp only [Option.getD_some, Option.isSome_some] at HS0
    have HW1 : Hid (R = if u = 1 then o1 else o2) := HW0.out
    clear HW0
    refine wp_region_head 11 0 (fun _ => .cells #[] 0) (by kernel_rfl) (by kernel_rfl) (fun i o h1 h2 => by omega) (fun _ _ _ _ _ h => h) ?_; apply Exists.intro; refine ⟨fun U hU hN => ?_, ?_⟩; simp only [List.take_succ_cons, List.take_zero]
    · repeat (go_big_quiet_step (exact Calls.headV hU (HS0.out _ (Kept.trans (by repeat (first | with_reducible exact HK.out | with_reducible exact Kept.refl _ _ | with_reducible refine Kept.prev ?_ | with_reducible refine Kept.alloc' ?_ _ | with_reducible refine Kept.drew' ?_ | with_reducible refine Kept.setB ?_ _ _ _ (by omega) | with_reducible refine Kept.row' ?_ _ _ (by omega) | with_reducible refine Kept.map' ?_ _ _ (by omega))) (AfterU.prop _)))))
      refine wpQuiet_nil ?_
      exact rfl
    simp only [List.drop_succ_cons, List.drop_zero, List.take_zero]
    intro w4 hk_w4 _
    haveI p_w4 : PrevWorld w4 _ := ⟨hk_w4⟩
    clear hk_w4
    clear HS0
    by_cases c : u = 1
    · have HW : Hid (R = o1) := by rw [Hid, HW1.out, if_pos c]
      go_wp2_with fail
      refine wp_region_head 10 0 (fun _ => .cells #[] 0) (by kernel_rfl) (by kernel_rfl) (fun i o h1 h2 => by omega) (fun _ _ _ _ _ h => h) ?_; apply Exists.intro; refine ⟨fun U hU hN => ?_, ?_⟩; simp only [List.take_succ_cons, List.take_zero]
      · repeat (go_big_quiet_step (exact Calls.headV hU (HS1.out _ (Kept.trans (by repeat (first | with_reducible exact HK.out | with_reducible exact Kept.refl _ _ | with_reducible refine Kept.prev ?_ | with_reducible refine Kept.alloc' ?_ _ | with_reducible refine Kept.drew' ?_ | with_reducible refine Kept.setB ?_ _ _ _ (by omega) | with_reducible refine Kept.row' ?_ _ _ (by omega) | with_reducible refine Kept.map' ?_ _ _ (by omega))) (AfterU.prop _)))))
        refine wpQuiet_nil ?_
        exact rfl
      simp only [List.drop_succ_cons, List.drop_zero, List.take_zero]
      intro w5 hk_w5 _
      haveI p_w5 : PrevWorld w5 _ := ⟨hk_w5⟩
      clear hk_w5
      go_wp2_with fail
      rw [HW.out]
      exact bodyPost_r rfl (res2 Tryz.results49 (resT rfl) (resT rfl)) (fun u h => by rw [h]; rfl) (by repeat (first | with_reducible exact HK.out | with_reducible exact Kept.refl _ _ | with_reducible refine Kept.prev ?_ | with_reducible refine Kept.alloc' ?_ _ | with_reducible refine Kept.drew' ?_ | with_reducible refine Kept.setB ?_ _ _ _ (by omega) | with_reducible refine Kept.row' ?_ _ _ (by omega) | with_reducible refine Kept.map' ?_ _ _ (by omega)))
    · have HW : Hid (R = o2) := by rw [Hid, HW1.out, if_neg c]
      have c' : (u == 1) = false := by simp [c]
      clear c
      go_wp2_with fail
      refine wp_region_head 10 0 (fun _ => .cells #[] 0) (by kernel_rfl) (by kernel_rfl) (fun i o h1 h2 => by omega) (fun _ _ _ _ _ h => h) ?_; apply Exists.intro; refine ⟨fun U hU hN => ?_, ?_⟩; simp only [List.take_succ_cons, List.take_zero]
      · repeat (go_big_quiet_step (exact Calls.headV hU (HS2.out _ (Kept.trans (by repeat (first | with_reducible exact HK.out | with_reducible exact Kept.refl _ _ | with_reducible refine Kept.prev ?_ | with_reducible refine Kept.alloc' ?_ _ | with_reducible refine Kept.drew' ?_ | with_reducible refine Kept.setB ?_ _ _ _ (by omega) | with_reducible refine Kept.row' ?_ _ _ (by omega) | with_reducible refine Kept.map' ?_ _ _ (by omega))) (AfterU.prop _)))))
        refine wpQuiet_nil ?_
        exact rfl
      simp only [List.drop_succ_cons, List.drop_zero, List.take_zero]
      intro w5 hk_w5 _
      haveI p_w5 : PrevWorld w5 _ := ⟨hk_w5⟩
      clear hk_w5
      go_wp2_with fail
      rw [HW.out]
      exact bodyPost_r rfl (res2 Tryz.results49 (resT rfl) (resT rfl)) (fun u h => by rw [h]; rfl) (by repeat (first | with_reducible exact HK.out | with_reducible exact Kept.refl _ _ | with_reducible refine Kept.prev ?_ | with_reducible refine Kept.alloc' ?_ _ | with_reducible refine Kept.drew' ?_ | with_reducible refine Kept.setB ?_ _ _ _ (by omega) | with_reducible refine Kept.row' ?_ _ _ (by omega) | with_reducible refine Kept.map' ?_ _ _ (by omega)))
set_option maxRecDepth 100000 in
set_option maxHeartbeats 2000000 in
theorem rraw_mon (ih : ValR v t n) (hT : TabIn w v t) (hx : ExIn w (n + 1) x) (hI : allF (isP t n) x.ls 1 = true) (ho : 18 ≤ x.oper ∧ x.oper ≤ 21) (hk : x.kind = 11) : RawRs w v t x n := by
  unfold RawRs
  obtain ⟨hl, hI0⟩ := all_first hI (show 0 < 1 by decide)
  obtain ⟨b0, o0, ha, hat0, hi0⟩ := ex_first hx (by omega)
  have HS0 := Lib.hid (fun w' (hk : Kept [] w w') => ih w' (l0 x) (hT.kept hk) (hi0.kept hk) hI0)
  have HB := Lib.hid (fun z (h : valP t n (l0 x) = some z) => val_bd hT.ll h)
  have HW0 : Hid (rawR (valP t n) t x = match valP t n (l0 x) with | none => none | some a => some (if x.oper = 19 then -a else if x.oper = 20 then absP a else if x.oper = 21 then truthP (a == 0) else a)) := by
    rw [Hid, rawR]
    simp only [hk, monV]
    rfl
  have q1 := hx.2.2.2.2.1
  unfold TabV.cells at HS0
  unfold TabV.cells
  unfold ovV at HS0
  have hl4 : (0 : Int) < (x.ls.length : Int) := by omega
  clear hT hx hI hI0 ih hi0 hl
  generalize l0 x = y0 at *
  generalize rawR (valP t n) t x = R at *
  generalize valP t n y0 = o at *
  go_enter Tryz.func49, Tryz.ntmps49
  go_wp2_with fail
  cases o with
  | none =>
    have HW : Hid (R = none) := HW0.out
    simp only [Option.getD_none, Option.isSome_none] at HS0
    refine wp_region_head 11 0 (fun _ => .cells #[] 0) (by kernel_rfl) (by kernel_rfl) (fun i o h1 h2 => by omega) (fun _ _ _ _ _ h => h) ?_; apply Exists.intro; refine ⟨fun U hU hN => ?_, ?_⟩; simp only [List.take_succ_cons, List.take_zero]
    · repeat (go_big_quiet_step (exact Calls.headV hU (HS0.out _ (Kept.trans (by repeat (first | with_reducible exact HK.out | with_reducible exact Kept.refl _ _ | with_reducible refine Kept.prev ?_ | with_reducible refine Kept.alloc' ?_ _ | with_reducible refine Kept.drew' ?_ | with_reducible refine Kept.setB ?_ _ _ _ (by omega) | with_reducible refine Kept.row' ?_ _ _ (by omega) | with_reducible refine Kept.map' ?_ _ _ (by omega))) (AfterU.prop _)))))
      refine wpQuiet_nil ?_
      exact rfl
    simp only [List.drop_succ_cons, List.drop_zero, List.take_zero]
    intro w4 hk_w4 _
    haveI p_w4 : PrevWorld w4 _ := ⟨hk_w4⟩
    clear hk_w4
    go_wp2_with fail
    rw [HW.out]
    exact bodyPost_r rfl (res2 Tryz.results49 (resT rfl) (resT rfl)) (fun u h => by cases h) (by repeat (first | with_reducible exact HK.out | with_reducible exact Kept.refl _ _ | with_reducible refine Kept.prev ?_ | with_reducible refine Kept.alloc' ?_ _ | with_reducible refine Kept.drew' ?_ | with_reducible refine Kept.setB ?_ _ _ _ (by omega) | with_reducible refine Kept.row' ?_ _ _ (by omega) | with_reducible refine Kept.map' ?_ _ _ (by omega)))
  | some u =>
    have HIB := Lib.hid (HB.out u rfl)
    simp only [Option.getD_some, Option.isSome_some] at HS0
    have HW1 : Hid (R = some (if x.oper = 19 then -u else if x.oper = 20 then absP u else if x.oper = 21 then truthP (u == 0) else u)) := HW0.out
    clear HW0 HB
    refine wp_region_head 11 0 (fun _ => .cells #[] 0) (by kernel_rfl) (by kernel_rfl) (fun i o h1 h2 => by omega) (fun _ _ _ _ _ h => h) ?_; apply Exists.intro; refine ⟨fun U hU hN => ?_, ?_⟩; simp only [List.take_succ_cons, List.take_zero]
    · repeat (go_big_quiet_step (exact Calls.headV hU (HS0.out _ (Kept.trans (by repeat (first | with_reducible exact HK.out | with_reducible exact Kept.refl _ _ | with_reducible refine Kept.prev ?_ | with_reducible refine Kept.alloc' ?_ _ | with_reducible refine Kept.drew' ?_ | with_reducible refine Kept.setB ?_ _ _ _ (by omega) | with_reducible refine Kept.row' ?_ _ _ (by omega) | with_reducible refine Kept.map' ?_ _ _ (by omega))) (AfterU.prop _)))))
      refine wpQuiet_nil ?_
      exact rfl
    simp only [List.drop_succ_cons, List.drop_zero, List.take_zero]
    intro w4 hk_w4 _
    haveI p_w4 : PrevWorld w4 _ := ⟨hk_w4⟩
    clear hk_w4
    clear HS0
    obtain ⟨u1, u2⟩ := HIB.out
    have hc : x.oper = 18 ∨ x.oper = 19 ∨ x.oper = 20 ∨ x.oper = 21 := by omega
    rcases hc with c | c | c | c
    · have HW : Hid (R = some u) := by rw [Hid, HW1.out, c]; rfl
      clear ho
      go_wp2_with fail
      rw [HW.out]
      exact bodyPost_r rfl (res2 Tryz.results49 (resT rfl) (resT rfl)) (fun u h => by cases h; rfl) (by repeat (first | with_reducible exact HK.out | with_reducible exact Kept.refl _ _ | with_reducible refine Kept.prev ?_ | with_reducible refine Kept.alloc' ?_ _ | with_reducible refine Kept.drew' ?_ | with_reducible refine Kept.setB ?_ _ _ _ (by omega) | with_reducible refine Kept.row' ?_ _ _ (by omega) | with_reducible refine Kept.map' ?_ _ _ (by omega)))
    · have HW : Hid (R = some (-u)) := by rw [Hid, HW1.out, c]; rfl
      clear ho
      go_wp2_with fail
      rw [HW.out]
      exact bodyPost_r rfl (res2 Tryz.results49 (resT rfl) (resT rfl)) (fun u h => by cases h; rfl) (by repeat (first | with_reducible exact HK.out | with_reducible exact Kept.refl _ _ | with_reducible refine Kept.prev ?_ | with_reducible refine Kept.alloc' ?_ _ | with_reducible refine Kept.drew' ?_ | with_reducible refine Kept.setB ?_ _ _ _ (by omega) | with_reducible refine Kept.row' ?_ _ _ (by omega) | with_reducible refine Kept.map' ?_ _ _ (by omega)))
    · have HW : Hid (R = some (absP u)) := by rw [Hid, HW1.out, c]; rfl
      clear ho
      go_wp2_with fail
      refine (rsize_any _ _ HIB.out).mono ?_; rintro e w5 ⟨rfl, hk_w5⟩; haveI p_w5 : PrevWorld w5 _ := ⟨hk_w5⟩; have hz_w5 : w.heap.size ≤ w5.heap.size := Kept.size (by repeat (first | with_reducible exact HK.out | with_reducible exact Kept.refl _ _ | with_reducible refine Kept.prev ?_ | with_reducible refine Kept.alloc' ?_ _ | with_reducible refine Kept.drew' ?_ | with_reducible refine Kept.setB ?_ _ _ _ (by omega) | with_reducible refine Kept.row' ?_ _ _ (by omega) | with_reducible refine Kept.map' ?_ _ _ (by omega))); clear hk_w5
      go_wp2_with fail
      rw [HW.out]
      exact bodyPost_r rfl (res2 Tryz.results49 (resT rfl) (resT rfl)) (fun u h => by cases h; rfl) (by repeat (first | with_reducible exact HK.out | with_reducible exact Kept.refl _ _ | with_reducible refine Kept.prev ?_ | with_reducible refine Kept.alloc' ?_ _ | with_reducible refine Kept.drew' ?_ | with_reducible refine Kept.setB ?_ _ _ _ (by omega) | with_reducible refine Kept.row' ?_ _ _ (by omega) | with_reducible refine Kept.map' ?_ _ _ (by omega)))
    · have HW : Hid (R = some (truthP (u == 0))) := by rw [Hid, HW1.out, c]; rfl
      clear ho
      go_wp2_with fail
      refine (rtruth_any _ _).mono ?_; rintro e w5 ⟨rfl, hk_w5⟩; haveI p_w5 : PrevWorld w5 _ := ⟨hk_w5⟩; have hz_w5 : w.heap.size ≤ w5.heap.size := Kept.size (by repeat (first | with_reducible exact HK.out | with_reducible exact Kept.refl _ _ | with_reducible refine Kept.prev ?_ | with_reducible refine Kept.alloc' ?_ _ | with_reducible refine Kept.drew' ?_ | with_reducible refine Kept.setB ?_ _ _ _ (by omega) | with_reducible refine Kept.row' ?_ _ _ (by omega) | with_reducible refine Kept.map' ?_ _ _ (by omega))); clear hk_w5
      go_wp2_with fail
      rw [HW.out]
      exact bodyPost_r rfl (res2 Tryz.results49 (resT rfl) (resT rfl)) (fun u h => by cases h; rfl) (by repeat (first | with_reducible exact HK.out | with_reducible exact Kept.refl _ _ | with_reducible refine Kept.prev ?_ | with_reducible refine Kept.alloc' ?_ _ | with_reducible refine Kept.drew' ?_ | with_reducible refine Kept.setB ?_ _ _ _ (by omega) | with_reducible refine Kept.row' ?_ _ _ (by omega) | with_reducible refine Kept.map' ?_ _ _ (by omega)))
set_option maxRecDepth 100000 in
set_option maxHeartbeats 4000000 in
theorem rraw_dy (ih : ValR v t n) (hT : TabIn w v t) (hx : ExIn w (n + 1) x) (hI : allF (isP t n) x.ls 2 = true) (ho : 1 ≤ x.oper ∧ x.oper ≤ 17) (hk : x.kind = 12) : RawRs w v t x n := by
  unfold RawRs
  obtain ⟨hl, hI0⟩ := all_first hI (show 0 < 2 by decide)
  obtain ⟨_, hI1⟩ := all_first hI (show 1 < 2 by decide)
  obtain ⟨b0, o0, ha, hat0, hat1, hi0, hi1⟩ := ex_second hx (by omega)
  have HS0 := Lib.hid (fun w' (hk : Kept [] w w') => ih w' (l0 x) (hT.kept hk) (hi0.kept hk) hI0)
  have HS1 := Lib.hid (fun w' (hk : Kept [] w w') => ih w' (l1 x) (hT.kept hk) (hi1.kept hk) hI1)
  have HB0 := Lib.hid (fun z (h : valP t n (l0 x) = some z) => val_bd hT.ll h)
  have HB1 := Lib.hid (fun z (h : valP t n (l1 x) = some z) => val_bd hT.ll h)
  have HW0 : Hid (rawR (valP t n) t x = match valP t n (l0 x) with
    | none => none
    | some a => if x.oper = 16 ∧ a = 0 then some 0 else if x.oper = 17 ∧ a ≠ 0 then some 1 else match valP t n (l1 x) with
      | none => none
      | some b => if x.oper = 16 ∨ x.oper = 17 then some b else opR x.oper a b) := by
    rw [Hid, rawR]
    simp only [hk, dyR]
    rfl
  have q1 := hx.2.2.2.2.1
  unfold TabV.cells at HS0 HS1
  unfold TabV.cells
  unfold ovV at HS0 HS1
  have hl3 : (1 : Int) < (x.ls.length : Int) := by omega
  have hl4 : (0 : Int) < (x.ls.length : Int) := by omega
  clear hT hx hI hI0 hI1 ih hi0 hi1 hl
  generalize l0 x = y0 at *
  generalize l1 x = y1 at *
  generalize rawR (valP t n) t x = R at *
  generalize valP t n y0 = o at *
  generalize valP t n y1 = o1 at *
  go_enter Tryz.func49, Tryz.ntmps49
  go_wp2_with fail
  cases o with
  | none =>
    have HW : Hid (R = none) := HW0.out
    simp only [Option.getD_none, Option.isSome_none] at HS0
    refine wp_region_head 11 0 (fun _ => .cells #[] 0) (by kernel_rfl) (by kernel_rfl) (fun i o h1 h2 => by omega) (fun _ _ _ _ _ h => h) ?_; apply Exists.intro; refine ⟨fun U hU hN => ?_, ?_⟩; simp only [List.take_succ_cons, List.take_zero]
    · repeat (go_big_quiet_step (exact Calls.headV hU (HS0.out _ (Kept.trans (by repeat (first | with_reducible exact HK.out | with_reducible exact Kept.refl _ _ | with_reducible refine Kept.prev ?_ | with_reducible refine Kept.alloc' ?_ _ | with_reducible refine Kept.drew' ?_ | with_reducible refine Kept.setB ?_ _ _ _ (by omega) | with_reducible refine Kept.row' ?_ _ _ (by omega) | with_reducible refine Kept.map' ?_ _ _ (by omega))) (AfterU.prop _)))))
      refine wpQuiet_nil ?_
      exact rfl
    simp only [List.drop_succ_cons, List.drop_zero, List.take_zero]
    intro w4 hk_w4 _
    haveI p_w4 : PrevWorld w4 _ := ⟨hk_w4⟩
    clear hk_w4
    go_wp2_with fail
    rw [HW.out]
    exact bodyPost_r rfl (res2 Tryz.results49 (resT rfl) (resT rfl)) (fun u h => by cases h) (by repeat (first | with_reducible exact HK.out | with_reducible exact Kept.refl _ _ | with_reducible refine Kept.prev ?_ | with_reducible refine Kept.alloc' ?_ _ | with_reducible refine Kept.drew' ?_ | with_reducible refine Kept.setB ?_ _ _ _ (by omega) | with_reducible refine Kept.row' ?_ _ _ (by omega) | with_reducible refine Kept.map' ?_ _ _ (by omega)))
  | some u =>
    have HIB := Lib.hid (HB0.out u rfl)
    simp only [Option.getD_some, Option.isSome_some] at HS0
    have HW1 : Hid (R = if x.oper = 16 ∧ u = 0 then some 0 else if x.oper = 17 ∧ u ≠ 0 then some 1 else match (generalizing := false) o1 with
      | none => none
      | some b => if x.oper = 16 ∨ x.oper = 17 then some b else opR x.oper u b) := HW0.out
    clear HW0 HB0
    refine wp_region_head 11 0 (fun _ => .cells #[] 0) (by kernel_rfl) (by kernel_rfl) (fun i o h1 h2 => by omega) (fun _ _ _ _ _ h => h) ?_; apply Exists.intro; refine ⟨fun U hU hN => ?_, ?_⟩; simp only [List.take_succ_cons, List.take_zero]
    · repeat (go_big_quiet_step (exact Calls.headV hU (HS0.out _ (Kept.trans (by repeat (first | with_reducible exact HK.out | with_reducible exact Kept.refl _ _ | with_reducible refine Kept.prev ?_ | with_reducible refine Kept.alloc' ?_ _ | with_reducible refine Kept.drew' ?_ | with_reducible refine Kept.setB ?_ _ _ _ (by omega) | with_reducible refine Kept.row' ?_ _ _ (by omega) | with_reducible refine Kept.map' ?_ _ _ (by omega))) (AfterU.prop _)))))
      refine wpQuiet_nil ?_
      exact rfl
    simp only [List.drop_succ_cons, List.drop_zero, List.take_zero]
    intro w4 hk_w4 _
    haveI p_w4 : PrevWorld w4 _ := ⟨hk_w4⟩
    clear hk_w4
    clear HS0
    by_cases c16 : x.oper = 16
    · clear ho
      by_cases c : u = 0
      · have HW : Hid (R = some 0) := by rw [Hid, HW1.out, if_pos ⟨c16, c⟩]
        go_wp2_with fail
        rw [HW.out]
        exact bodyPost_r rfl (res2 Tryz.results49 (resT rfl) (resT rfl)) (fun u h => by cases h; rfl) (by repeat (first | with_reducible exact HK.out | with_reducible exact Kept.refl _ _ | with_reducible refine Kept.prev ?_ | with_reducible refine Kept.alloc' ?_ _ | with_reducible refine Kept.drew' ?_ | with_reducible refine Kept.setB ?_ _ _ _ (by omega) | with_reducible refine Kept.row' ?_ _ _ (by omega) | with_reducible refine Kept.map' ?_ _ _ (by omega)))
      · have HW : Hid (R = o1) := by
          rw [Hid, HW1.out, if_neg (fun h => c h.2), if_neg (by rw [c16]; simp)]
          cases o1 with
          | none => rfl
          | some b => simp [c16]
        have c' : (u == 0) = false := by simp [c]
        clear c HW1
        go_wp2_with fail
        refine wp_region_head 10 0 (fun _ => .cells #[] 0) (by kernel_rfl) (by kernel_rfl) (fun i o h1 h2 => by omega) (fun _ _ _ _ _ h => h) ?_; apply Exists.intro; refine ⟨fun U hU hN => ?_, ?_⟩; simp only [List.take_succ_cons, List.take_zero]
        · repeat (go_big_quiet_step (exact Calls.headV hU (HS1.out _ (Kept.trans (by repeat (first | with_reducible exact HK.out | with_reducible exact Kept.refl _ _ | with_reducible refine Kept.prev ?_ | with_reducible refine Kept.alloc' ?_ _ | with_reducible refine Kept.drew' ?_ | with_reducible refine Kept.setB ?_ _ _ _ (by omega) | with_reducible refine Kept.row' ?_ _ _ (by omega) | with_reducible refine Kept.map' ?_ _ _ (by omega))) (AfterU.prop _)))))
          refine wpQuiet_nil ?_
          exact rfl
        simp only [List.drop_succ_cons, List.drop_zero, List.take_zero]
        intro w5 hk_w5 _
        haveI p_w5 : PrevWorld w5 _ := ⟨hk_w5⟩
        clear hk_w5
        go_wp2_with fail
        rw [HW.out]
        exact bodyPost_r rfl (res2 Tryz.results49 (resT rfl) (resT rfl)) (fun u h => by rw [h]; rfl) (by repeat (first | with_reducible exact HK.out | with_reducible exact Kept.refl _ _ | with_reducible refine Kept.prev ?_ | with_reducible refine Kept.alloc' ?_ _ | with_reducible refine Kept.drew' ?_ | with_reducible refine Kept.setB ?_ _ _ _ (by omega) | with_reducible refine Kept.row' ?_ _ _ (by omega) | with_reducible refine Kept.map' ?_ _ _ (by omega)))
    by_cases c17 : x.oper = 17
    · clear ho
      by_cases c : u = 0
      · have HW : Hid (R = o1) := by
          rw [Hid, HW1.out, if_neg (fun h => c16 h.1), if_neg (fun h => h.2 c)]
          cases o1 with
          | none => rfl
          | some b => simp [c17]
        clear HW1
        go_wp2_with fail
        refine wp_region_head 10 0 (fun _ => .cells #[] 0) (by kernel_rfl) (by kernel_rfl) (fun i o h1 h2 => by omega) (fun _ _ _ _ _ h => h) ?_; apply Exists.intro; refine ⟨fun U hU hN => ?_, ?_⟩; simp only [List.take_succ_cons, List.take_zero]
        · repeat (go_big_quiet_step (exact Calls.headV hU (HS1.out _ (Kept.trans (by repeat (first | with_reducible exact HK.out | with_reducible exact Kept.refl _ _ | with_reducible refine Kept.prev ?_ | with_reducible refine Kept.alloc' ?_ _ | with_reducible refine Kept.drew' ?_ | with_reducible refine Kept.setB ?_ _ _ _ (by omega) | with_reducible refine Kept.row' ?_ _ _ (by omega) | with_reducible refine Kept.map' ?_ _ _ (by omega))) (AfterU.prop _)))))
          refine wpQuiet_nil ?_
          exact rfl
        simp only [List.drop_succ_cons, List.drop_zero, List.take_zero]
        intro w5 hk_w5 _
        haveI p_w5 : PrevWorld w5 _ := ⟨hk_w5⟩
        clear hk_w5
        go_wp2_with fail
        rw [HW.out]
        exact bodyPost_r rfl (res2 Tryz.results49 (resT rfl) (resT rfl)) (fun u h => by rw [h]; rfl) (by repeat (first | with_reducible exact HK.out | with_reducible exact Kept.refl _ _ | with_reducible refine Kept.prev ?_ | with_reducible refine Kept.alloc' ?_ _ | with_reducible refine Kept.drew' ?_ | with_reducible refine Kept.setB ?_ _ _ _ (by omega) | with_reducible refine Kept.row' ?_ _ _ (by omega) | with_reducible refine Kept.map' ?_ _ _ (by omega)))
      · have HW : Hid (R = some 1) := by rw [Hid, HW1.out, if_neg (fun h => c16 h.1), if_pos ⟨c17, c⟩]
        have c' : (u == 0) = false := by simp [c]
        clear c HW1
        go_wp2_with fail
        rw [HW.out]
        exact bodyPost_r rfl (res2 Tryz.results49 (resT rfl) (resT rfl)) (fun u h => by cases h; rfl) (by repeat (first | with_reducible exact HK.out | with_reducible exact Kept.refl _ _ | with_reducible refine Kept.prev ?_ | with_reducible refine Kept.alloc' ?_ _ | with_reducible refine Kept.drew' ?_ | with_reducible refine Kept.setB ?_ _ _ _ (by omega) | with_reducible refine Kept.row' ?_ _ _ (by omega) | with_reducible refine Kept.map' ?_ _ _ (by omega)))
    have HW2 : Hid (R = match (generalizing := false) o1 with | none => none | some b => opR x.oper u b) := by
      rw [Hid, HW1.out, if_neg (fun h => c16 h.1), if_neg (fun h => c17 h.1)]
      cases o1 with
      | none => rfl
      | some b => simp [c16, c17]
    have HO : Hid (1 ≤ x.oper ∧ x.oper ≤ 15) := by rw [Hid]; omega
    have e16 : (x.oper == 16) = false := by simp [c16]
    have e17 : (x.oper == 17) = false := by simp [c17]
    have e18 : (x.oper == 18) = false := by simp; omega
    have e19 : (x.oper == 19) = false := by simp; omega
    have e20 : (x.oper == 20) = false := by simp; omega
    have e21 : (x.oper == 21) = false := by simp; omega
    clear c16 c17 ho HW1
    go_wp2_with fail
    cases o1 with
    | none =>
      have HW : Hid (R = none) := HW2.out
      simp only [Option.getD_none, Option.isSome_none] at HS1
      refine wp_region_head 11 0 (fun _ => .cells #[] 0) (by kernel_rfl) (by kernel_rfl) (fun i o h1 h2 => by omega) (fun _ _ _ _ _ h => h) ?_; apply Exists.intro; refine ⟨fun U hU hN => ?_, ?_⟩; simp only [List.take_succ_cons, List.take_zero]
      · repeat (go_big_quiet_step (exact Calls.headV hU (HS1.out _ (Kept.trans (by repeat (first | with_reducible exact HK.out | with_reducible exact Kept.refl _ _ | with_reducible refine Kept.prev ?_ | with_reducible refine Kept.alloc' ?_ _ | with_reducible refine Kept.drew' ?_ | with_reducible refine Kept.setB ?_ _ _ _ (by omega) | with_reducible refine Kept.row' ?_ _ _ (by omega) | with_reducible refine Kept.map' ?_ _ _ (by omega))) (AfterU.prop _)))))
        refine wpQuiet_nil ?_
        exact rfl
      simp only [List.drop_succ_cons, List.drop_zero, List.take_zero]
      intro w5 hk_w5 _
      haveI p_w5 : PrevWorld w5 _ := ⟨hk_w5⟩
      clear hk_w5
      go_wp2_with fail
      rw [HW.out]
      exact bodyPost_r rfl (res2 Tryz.results49 (resT rfl) (resT rfl)) (fun u h => by cases h) (by repeat (first | with_reducible exact HK.out | with_reducible exact Kept.refl _ _ | with_reducible refine Kept.prev ?_ | with_reducible refine Kept.alloc' ?_ _ | with_reducible refine Kept.drew' ?_ | with_reducible refine Kept.setB ?_ _ _ _ (by omega) | with_reducible refine Kept.row' ?_ _ _ (by omega) | with_reducible refine Kept.map' ?_ _ _ (by omega)))
    | some b =>
      have HW : Hid (R = opR x.oper u b) := HW2.out
      have HT2 := Lib.hid (fun w' => rtwo_any w' x.oper u b HO.out.1 HO.out.2 HIB.out (HB1.out b rfl))
      unfold ovV at HT2
      simp only [Option.getD_some, Option.isSome_some] at HS1
      generalize opR x.oper u b = r at *
      refine wp_region_head 11 0 (fun _ => .cells #[] 0) (by kernel_rfl) (by kernel_rfl) (fun i o h1 h2 => by omega) (fun _ _ _ _ _ h => h) ?_; apply Exists.intro; refine ⟨fun U hU hN => ?_, ?_⟩; simp only [List.take_succ_cons, List.take_zero]
      · repeat (go_big_quiet_step (exact Calls.headV hU (HS1.out _ (Kept.trans (by repeat (first | with_reducible exact HK.out | with_reducible exact Kept.refl _ _ | with_reducible refine Kept.prev ?_ | with_reducible refine Kept.alloc' ?_ _ | with_reducible refine Kept.drew' ?_ | with_reducible refine Kept.setB ?_ _ _ _ (by omega) | with_reducible refine Kept.row' ?_ _ _ (by omega) | with_reducible refine Kept.map' ?_ _ _ (by omega))) (AfterU.prop _)))))
        refine wpQuiet_nil ?_
        exact rfl
      simp only [List.drop_succ_cons, List.drop_zero, List.take_zero]
      intro w5 hk_w5 _
      haveI p_w5 : PrevWorld w5 _ := ⟨hk_w5⟩
      clear hk_w5
      clear HS1 HW2
      go_wp2_with fail
      refine (HT2.out _).mono ?_; rintro e w6 ⟨rfl, hk_w6⟩; haveI p_w6 : PrevWorld w6 _ := ⟨hk_w6⟩; have hz_w6 : w.heap.size ≤ w6.heap.size := Kept.size (by repeat (first | with_reducible exact HK.out | with_reducible exact Kept.refl _ _ | with_reducible refine Kept.prev ?_ | with_reducible refine Kept.alloc' ?_ _ | with_reducible refine Kept.drew' ?_ | with_reducible refine Kept.setB ?_ _ _ _ (by omega) | with_reducible refine Kept.row' ?_ _ _ (by omega) | with_reducible refine Kept.map' ?_ _ _ (by omega))); clear hk_w6
      go_wp2_with fail
      rw [HW.out]
      exact bodyPost_r rfl (res2 Tryz.results49 (resT rfl) (resT rfl)) (fun u h => by rw [h]; rfl) (by repeat (first | with_reducible exact HK.out | with_reducible exact Kept.refl _ _ | with_reducible refine Kept.prev ?_ | with_reducible refine Kept.alloc' ?_ _ | with_reducible refine Kept.drew' ?_ | with_reducible refine Kept.setB ?_ _ _ _ (by omega) | with_reducible refine Kept.row' ?_ _ _ (by omega) | with_reducible refine Kept.map' ?_ _ _ (by omega)))
end
theorem rraw_any (w : World) (v : TabV) (t : Tab) (x : ExV) (n : Nat) (ih : ValR v t n) (hT : TabIn w v t) (hx : ExIn w (n + 1) x) (hI : isF (isP t n) t x = true) : RawRs w v t x n := by
  unfold isF at hI
  rw [Bool.and_eq_true] at hI
  obtain ⟨_, hI⟩ := hI
  by_cases k1 : x.kind = 1
  · exact rraw_int w v t x n k1
  rw [if_neg k1] at hI
  by_cases k3 : x.kind = 3 ∨ x.kind = 4
  · rw [if_pos k3] at hI
    exact rraw_name w v t x n hT hI k3
  rw [if_neg k3] at hI
  by_cases k6 : x.kind = 6
  · rw [if_pos k6] at hI
    exact rraw_attr w v t x n hT hx hI k6
  rw [if_neg k6] at hI
  by_cases k7 : x.kind = 7
  · rw [if_pos k7] at hI
    exact rraw_call w v t x n ih hT hx hI k7
  rw [if_neg k7] at hI
  by_cases k8 : x.kind = 8
  · rw [if_pos k8] at hI
    exact rraw_qual w v t x n ih hT hx hI k8
  rw [if_neg k8] at hI
  by_cases k10 : x.kind = 10
  · rw [if_pos k10] at hI
    exact rraw_if w v t x n ih hT hx hI k10
  rw [if_neg k10] at hI
  by_cases k11 : x.kind = 11
  · rw [if_pos k11, Bool.and_eq_true, decide_eq_true_eq] at hI
    exact rraw_mon w v t x n ih hT hx hI.2 hI.1 k11
  rw [if_neg k11] at hI
  by_cases k12 : x.kind = 12
  · rw [if_pos k12, Bool.and_eq_true, decide_eq_true_eq] at hI
    exact rraw_dy w v t x n ih hT hx hI.2 hI.1 k12
  rw [if_neg k12] at hI
  by_cases k13 : x.kind = 13
  · rw [if_pos (.inl k13)] at hI
    exact rraw_in w v t x n ih hT hx hI k13
  by_cases k14 : x.kind = 14
  · rw [if_pos (.inr k14)] at hI
    exact rraw_not w v t x n ih hT hx hI k14
  rw [if_neg (by rintro (h | h) <;> contradiction)] at hI
  cases hI
set_option maxRecDepth 100000 in
set_option maxHeartbeats 2000000 in
theorem rvalue_any (w : World) (v : TabV) (t : Tab) (x : ExV) (n : Nat) (ih : ValR v t n) (hT : TabIn w v t) (hx : ExIn w (n + 1) x) (hI : isF (isP t n) t x = true) :
    Calls Tryz.prog 20 #[.agg (v.cells t), .agg x.cells.toArray] w (RetV (ovV (valF (valP t n) t x)) w) := by
  have HS := Lib.hid (fun w' (hk : Kept [] w w') => rspan_any w' v t x.t (hT.kept hk))
  have HR := Lib.hid (fun w' (hk : Kept [] w w') => rraw_any w' v t x n ih (hT.kept hk) (hx.kept hk) hI)
  have hsp : (spanP t x.t).isSome = true := by
    unfold isF at hI
    rw [Bool.and_eq_true] at hI
    exact hI.1
  obtain ⟨⟨lo, hi⟩, hb⟩ := Option.isSome_iff_exists.1 hsp
  have HM : Hid (valF (valP t n) t x = match rawR (valP t n) t x with | none => none | some u => withinP u (lo, hi)) := by
    rw [Hid, ← valR_eq hT.ll, valR, hb]
    cases rawR (valP t n) t x <;> rfl
  rw [hb] at HS
  clear hT hx hI ih hsp hb
  unfold RawRs at HR
  unfold TabV.cells at *
  unfold bd3V at HS
  simp only [Option.getD_some, Option.isSome_some] at HS
  generalize rawR (valP t n) t x = o at *
  go_enter Tryz.func20, Tryz.ntmps20
  go_wp2_with fail
  refine (HR.out _ (by repeat (first | with_reducible exact HK.out | with_reducible exact Kept.refl _ _ | with_reducible refine Kept.prev ?_ | with_reducible refine Kept.alloc' ?_ _ | with_reducible refine Kept.drew' ?_ | with_reducible refine Kept.setB ?_ _ _ _ (by omega) | with_reducible refine Kept.row' ?_ _ _ (by omega) | with_reducible refine Kept.map' ?_ _ _ (by omega)))).mono ?_
  rintro e w2 ⟨z, rfl, h1, hk2⟩
  haveI p_w2 : PrevWorld w2 _ := ⟨hk2⟩
  have H1 := Lib.hid h1
  clear hk2 HR h1
  cases o with
  | none =>
    have HW : Hid (valF (valP t n) t x = none) := HM.out
    go_wp2_with fail
    rw [HW.out]
    exact bodyPost_v rfl (res2 Tryz.results20 (resT rfl) (resT rfl)) (by repeat (first | with_reducible exact HK.out | with_reducible exact Kept.refl _ _ | with_reducible refine Kept.prev ?_ | with_reducible refine Kept.alloc' ?_ _ | with_reducible refine Kept.drew' ?_ | with_reducible refine Kept.setB ?_ _ _ _ (by omega) | with_reducible refine Kept.row' ?_ _ _ (by omega) | with_reducible refine Kept.map' ?_ _ _ (by omega)))
  | some u =>
    have hz : z = u := H1.out u rfl
    subst hz
    have HW1 : Hid (valF (valP t n) t x = withinP z (lo, hi)) := HM.out
    have HWI := Lib.hid (fun w' => rwithin_any w' z lo hi)
    unfold ovV at HWI
    unfold ovV
    generalize withinP z (lo, hi) = r at *
    have HW : Hid (valF (valP t n) t x = r) := HW1.out
    go_wp2_with fail
    refine (HS.out _ (by repeat (first | with_reducible exact HK.out | with_reducible exact Kept.refl _ _ | with_reducible refine Kept.prev ?_ | with_reducible refine Kept.alloc' ?_ _ | with_reducible refine Kept.drew' ?_ | with_reducible refine Kept.setB ?_ _ _ _ (by omega) | with_reducible refine Kept.row' ?_ _ _ (by omega) | with_reducible refine Kept.map' ?_ _ _ (by omega)))).mono ?_; rintro e w3 ⟨rfl, hk_w3⟩; haveI p_w3 : PrevWorld w3 _ := ⟨hk_w3⟩; have hz_w3 : w.heap.size ≤ w3.heap.size := Kept.size (by repeat (first | with_reducible exact HK.out | with_reducible exact Kept.refl _ _ | with_reducible refine Kept.prev ?_ | with_reducible refine Kept.alloc' ?_ _ | with_reducible refine Kept.drew' ?_ | with_reducible refine Kept.setB ?_ _ _ _ (by omega) | with_reducible refine Kept.row' ?_ _ _ (by omega) | with_reducible refine Kept.map' ?_ _ _ (by omega))); clear hk_w3
    go_wp2_with fail
    refine (HWI.out _).mono ?_; rintro e w4 ⟨rfl, hk_w4⟩; haveI p_w4 : PrevWorld w4 _ := ⟨hk_w4⟩; have hz_w4 : w.heap.size ≤ w4.heap.size := Kept.size (by repeat (first | with_reducible exact HK.out | with_reducible exact Kept.refl _ _ | with_reducible refine Kept.prev ?_ | with_reducible refine Kept.alloc' ?_ _ | with_reducible refine Kept.drew' ?_ | with_reducible refine Kept.setB ?_ _ _ _ (by omega) | with_reducible refine Kept.row' ?_ _ _ (by omega) | with_reducible refine Kept.map' ?_ _ _ (by omega))); clear hk_w4
    go_wp2_with fail
    rw [HW.out]
    exact bodyPost_v rfl (res2 Tryz.results20 (resT rfl) (resT rfl)) (by repeat (first | with_reducible exact HK.out | with_reducible exact Kept.refl _ _ | with_reducible refine Kept.prev ?_ | with_reducible refine Kept.alloc' ?_ _ | with_reducible refine Kept.drew' ?_ | with_reducible refine Kept.setB ?_ _ _ _ (by omega) | with_reducible refine Kept.row' ?_ _ _ (by omega) | with_reducible refine Kept.map' ?_ _ _ (by omega)))
theorem rval_any (v : TabV) (t : Tab) : ∀ n, ValR v t n
  | 0 => fun _ _ _ hx _ => hx.elim
  | n + 1 => fun w x hT hx hI => rvalue_any w v t x n (rval_any v t n) hT hx hI
end Go.Proofs.YtgdjhhfbpalkdaaGreat
