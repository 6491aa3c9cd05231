/- The reference: call. -/
import Derived.Test.YtgdjhhfbpalkdaaGreatR4
import Derived.Test.YtgdjhhfbpalkdaaGreatR5
namespace Go.Proofs.YtgdjhhfbpalkdaaGreat
open Go.RowKit
/-- What the reference's value tells of static expressions to a depth. -/
def ValR (v : TabV) (t : Tab) (n : Nat) : Prop := ∀ w x, TabIn w v t → ExIn w n x → isP t n x = true → Calls Tryz.prog 20 #[.agg (v.cells t), .agg x.cells.toArray] w (RetV (ovV (valP t n x)) w)
theorem plain_at {t : Tab} {n : Int} {b a : Bd} (h : plainP t n = some (b, a)) : ∃ (k : Nat) (s : SubtV), n = (k : Int) ∧ t.subs[k]? = some s ∧ b = (s.lo, s.hi) ∧ spanP t s.t = some a := by
  obtain ⟨k, s, rfl, hs, hb⟩ := plain_sub (t := t) (n := n) (by rw [h]; rfl)
  refine ⟨k, s, rfl, hs, ?_, ?_⟩
  · rw [(plain_bounds h).1, hb]
  · have e : subP t (k : Int) = s := by simp [subP, List.getD_eq_getElem?_getD, hs]
    unfold plainP at h
    rw [e] at h
    split at h
    · cases h
    · split at h
      · cases h
      · rename_i a' ha
        injection h with h
        injection h with h1 h2
        rw [ha, h2]
theorem mark_at {t : Tab} {y : ExV} {b a : Bd} (h : markP t y = some (b, a)) : ∃ (k : Nat) (s : SubtV), rmarkP t y = ((k : Int), true) ∧ t.subs[k]? = some s ∧ b = (s.lo, s.hi) ∧ spanP t s.t = some a := by
  obtain ⟨h1, h2⟩ := mark_bounds h
  obtain ⟨k, s, h3, h4, h5, h6⟩ := plain_at h2
  exact ⟨k, s, by rw [rmark_yes h1, h3], h4, h5, h6⟩
/-- What an attribute with an argument adds. -/
def shiftI (s : ByteArray) : Int := if (s.toList == [83, 117, 99, 99]) = true then 1 else if (s.toList == [80, 114, 101, 100]) = true then -1 else 0
theorem shift_pos {s : ByteArray} (h : (s.toList == [80, 111, 115]) = true) : shiftP s = some (0, false) := by
  rw [str_is, decide_eq_true_eq] at h
  subst h
  rfl
theorem shift_other {s : ByteArray} (h0 : (s.toList == [80, 111, 115]) = false) (h : (shiftP s).isSome = true) : shiftP s = some (shiftI s, true) := by
  unfold shiftI
  rw [str_is] at h0 ⊢
  rw [str_is]
  unfold shiftP at *
  rw [if_neg (show ¬ s = sPos from by simpa [sPos] using h0)] at h ⊢
  split
  · rename_i h1
    subst h1
    rfl
  rename_i h1
  rw [if_neg h1] at h
  split
  · rename_i h2
    subst h2
    rfl
  rename_i h2
  rw [if_neg h2] at h
  split
  · rename_i h3
    subst h3
    rfl
  rename_i h3
  rw [if_neg h3] at h
  cases h
theorem attrArg_at {t : Tab} {p : ExV} (h : attrArg t p = true) : p.kind = 6 ∧ (shiftP p.s).isSome = true ∧ p.ls.length = 1 ∧ ∃ b a, markP t (l0 p) = some (b, a) := by
  unfold attrArg at h
  rw [← shift_is] at h
  simp only [Bool.and_eq_true, beq_iff_eq, decide_eq_true_eq] at h
  obtain ⟨⟨⟨h1, h2⟩, h3⟩, h4⟩ := h
  obtain ⟨⟨b, a⟩, hb⟩ := Option.isSome_iff_exists.1 h4
  exact ⟨h1, h2, h3, b, a, hb⟩
theorem argued_val {t : Tab} {x : ExV} {s : Int × Bool} {b a : Bd} (hl : x.ls.length = 1) (hk : (l0 x).kind = 6) (hs : shiftP (l0 x).s = some s) (hp : (l0 x).ls.length = 1) (hm : markP t (l0 (l0 x)) = some (b, a)) : arguedP t x = some (s, a) := by
  have e := list1 (d := default) hl
  have h0 : l0 x = x.ls.getD 0 default := rfl
  rw [← h0] at e
  have e2 := list1 (d := default) hp
  have h1 : l0 (l0 x) = (l0 x).ls.getD 0 default := rfl
  rw [← h1] at e2
  unfold arguedP
  rw [e]
  simp only [hs, hk, if_true]
  rw [e2]
  simp only [hm]
theorem argued_no2 {t : Tab} {x : ExV} (hl : x.ls.length = 1) (h : attrArg t (l0 x) = false) : arguedP t x = none := by
  have := argued_arg (t := t) hl
  rw [h] at this
  simpa using this
/-- The value of a call, as the reference works it out. -/
theorem callV_no {V : ExV → Option Int} {t : Tab} {x : ExV} (h : V (a0 x) = none) : callV V t x = none := by unfold callV; rw [h]
theorem callV_pos {V : ExV → Option Int} {t : Tab} {x : ExV} {u : Int} (h : V (a0 x) = some u) (hl : x.ls.length = 1) (hg : attrArg t (l0 x) = true) (hs : ((l0 x).s.toList == [80, 111, 115]) = true) : callV V t x = some u := by
  obtain ⟨h1, h2, h3, b, a, h4⟩ := attrArg_at hg
  unfold callV
  rw [h, argued_val hl h1 (shift_pos hs) h3 h4]
  rfl
theorem callV_shift {V : ExV → Option Int} {t : Tab} {x : ExV} {u : Int} {b a : Bd} (h : V (a0 x) = some u) (hl : x.ls.length = 1) (hg : attrArg t (l0 x) = true) (hs : ((l0 x).s.toList == [80, 111, 115]) = false) (hm : markP t (l0 (l0 x)) = some (b, a)) : callV V t x = withinP (u + shiftI (l0 x).s) a := by
  obtain ⟨h1, h2, h3, _⟩ := attrArg_at hg
  unfold callV
  rw [h, argued_val hl h1 (shift_other hs h2) h3 hm]
  rfl
theorem callV_conv {V : ExV → Option Int} {t : Tab} {x : ExV} {u : Int} {b a : Bd} (h : V (a0 x) = some u) (hl : x.ls.length = 1) (hg : attrArg t (l0 x) = false) (hp : plainP t (entP t x.ent).sub = some (b, a)) : callV V t x = withinP u b := by
  unfold callV
  rw [h, argued_no2 hl hg, hp]
set_option maxRecDepth 100000 in
set_option maxHeartbeats 8000000 in
theorem rcall_any (w : World) (v : TabV) (t : Tab) (x : ExV) (n : Nat) (ih : ValR v t n) (hT : TabIn w v t) (hx : ExIn w (n + 1) x) (hI : callF (isP t n) t x = true) : Calls Tryz.prog 76 #[.agg (v.cells t), .agg x.cells.toArray] w (RetV (ovV (callV (valP t n) t x)) w) := by
  have k1 : x.ls.length = 1 := by
    apply Classical.byContradiction
    intro h
    rw [call_no1 h] at hI
    cases hI
  have k2 : x.al.length = 1 := by
    apply Classical.byContradiction
    intro h
    rw [call_no2 h] at hI
    cases hI
  rw [called_yes k1 k2, Bool.and_eq_true] at hI
  obtain ⟨hI1, hI2⟩ := hI
  have HE := Lib.hid (fun w' (hk : Kept [] w w') => rentity_any w' v t x (hT.kept hk))
  have HM := Lib.hid (fun w' y (hk : Kept [] w w') => rmarked_any w' v t y (hT.kept hk))
  have HMK := Lib.hid (fun w' y (hk : Kept [] w w') => rMark_any w' v t y (hT.kept hk))
  have HSP := Lib.hid (fun w' m (hk : Kept [] w w') => rspan_any w' v t m (hT.kept hk))
  have HS := Lib.hid (fun w' (hk : Kept [] w w') hy => ih w' (a0 x) (hT.kept hk) hy hI1)
  have HB := Lib.hid (fun z (h : valP t n (a0 x) = some z) => val_bd hT.ll h)
  have HT := Lib.hid hT
  have HX := Lib.hid hx
  have q1 := hx.2.2.2.2.1
  have q2 := hx.2.2.2.2.2.1
  have HC0 := Lib.hid (fun h => callV_no (V := valP t n) (t := t) (x := x) h)
  have HC1 := Lib.hid (fun u h hg hs => callV_pos (V := valP t n) (t := t) (x := x) (u := u) h k1 hg hs)
  have HC2 := Lib.hid (fun u b a h hg hs hm => callV_shift (V := valP t n) (t := t) (x := x) (u := u) (b := b) (a := a) h k1 hg hs hm)
  have HC3 := Lib.hid (fun u b a h hg hp => callV_conv (V := valP t n) (t := t) (x := x) (u := u) (b := b) (a := a) h k1 hg hp)
  unfold TabV.cells at HE HM HMK HSP HS
  unfold ovV at HS
  unfold TabV.cells
  obtain ⟨b0, o0, ha, hat, hia⟩ := as_at HX.out (by omega)
  have HIA := Lib.hid hia
  obtain ⟨bp, op, hpa, hpat, hpi⟩ := ex_first HX.out (by omega)
  have HPI := Lib.hid hpi
  have HAT := Lib.hid hpat
  have l2 : (0 : Int) < (x.al.length : Int) := by omega
  have l3 : (0 : Int) < (x.ls.length : Int) := by omega
  have q3 : (l0 x).ls.length ≤ 140737488355328 := by
    cases n with
    | zero => exact HPI.out.elim
    | succ n => exact HPI.out.2.2.2.2.1
  have HAG : Hid (attrArg t (l0 x) = ((l0 x).kind == 6 && ((l0 x).s.toList == [80, 111, 115] || (l0 x).s.toList == [86, 97, 108] || (l0 x).s.toList == [83, 117, 99, 99] || (l0 x).s.toList == [80, 114, 101, 100]) && decide ((l0 x).ls.length = 1) && (markP t (l0 (l0 x))).isSome)) := rfl
  have HLQ := Lib.hid (fun (h : (l0 x).ls.length = 1) => show ∃ b o, (l0 x).la = some ⟨b, o, none⟩ ∧ ExAt w b o (l0 (l0 x)) from by
    cases n with
    | zero => exact HPI.out.elim
    | succ n =>
      obtain ⟨b, o, h1, h2, _⟩ := ex_first HPI.out (by omega)
      exact ⟨b, o, h1, h2⟩)
  clear hT hx ih hI1 k1 k2 hia hpi HX HPI hpat
  generalize l0 x = p at *
  generalize a0 x = y0 at *
  go_enter Tryz.func76, Tryz.ntmps76
  go_wp2_with fail
  refine wp_region_head 12 0 (fun _ => .cells #[] 0) (by kernel_rfl) (by kernel_rfl) (fun i o h1 h2 => by omega) (fun _ _ _ _ _ h => h) ?_; apply Exists.intro; refine ⟨fun U hU hN => ?_, ?_⟩; simp only [List.take_succ_cons, List.take_zero]
  · repeat (go_big_quiet_step (exact Calls.headV hU (HS.out _ (Kept.trans (by repeat (first | with_reducible exact HK.out | with_reducible exact Kept.refl _ _ | with_reducible refine Kept.prev ?_ | with_reducible refine Kept.alloc' ?_ _ | with_reducible refine Kept.drew' ?_ | with_reducible refine Kept.setB ?_ _ _ _ (by omega) | with_reducible refine Kept.row' ?_ _ _ (by omega) | with_reducible refine Kept.map' ?_ _ _ (by omega))) (AfterU.prop _)) (HIA.out.kept (Kept.trans (by repeat (first | with_reducible exact HK.out | with_reducible exact Kept.refl _ _ | with_reducible refine Kept.prev ?_ | with_reducible refine Kept.alloc' ?_ _ | with_reducible refine Kept.drew' ?_ | with_reducible refine Kept.setB ?_ _ _ _ (by omega) | with_reducible refine Kept.row' ?_ _ _ (by omega) | with_reducible refine Kept.map' ?_ _ _ (by omega))) (AfterU.prop _))))))
    refine wpQuiet_nil ?_
    exact rfl
  simp only [List.drop_succ_cons, List.drop_zero, List.take_zero]
  intro w4 hk4 _
  haveI p_w4 : PrevWorld w4 _ := ⟨hk4⟩
  clear hk4
  clear hat HS HIA
  cases hu : valP t n y0 with
  | none =>
    have HW := Lib.hid (HC0.out hu)
    clear HC0 HC1 HC2 HC3 HE HM HMK HSP HB HT hI2 HAG HLQ
    go_wp2_with fail
    rw [HW.out]
    exact bodyPost_v rfl (res2 Tryz.results76 (resT rfl) (resT rfl)) (by repeat (first | with_reducible exact HK.out | with_reducible exact Kept.refl _ _ | with_reducible refine Kept.prev ?_ | with_reducible refine Kept.alloc' ?_ _ | with_reducible refine Kept.drew' ?_ | with_reducible refine Kept.setB ?_ _ _ _ (by omega) | with_reducible refine Kept.row' ?_ _ _ (by omega) | with_reducible refine Kept.map' ?_ _ _ (by omega)))
  | some u =>
    obtain ⟨u1, u2⟩ := HB.out u hu
    have HC1' := Lib.hid (fun hg hs => HC1.out u hu hg hs)
    have HC2' := Lib.hid (fun b a hg hs hm => HC2.out u b a hu hg hs hm)
    have HC3' := Lib.hid (fun b a hg hp => HC3.out u b a hu hg hp)
    clear HC0 HC1 HC2 HC3 HB hu
    haveI hpat := HAT.out
    have hz4 := (show Kept [] w w4 from (by repeat (first | with_reducible exact HK.out | with_reducible exact Kept.refl _ _ | with_reducible refine Kept.prev ?_ | with_reducible refine Kept.alloc' ?_ _ | with_reducible refine Kept.drew' ?_ | with_reducible refine Kept.setB ?_ _ _ _ (by omega) | with_reducible refine Kept.row' ?_ _ _ (by omega) | with_reducible refine Kept.map' ?_ _ _ (by omega)))).size
    go_upto_region 5 with fail
    go_cut [9] (fun v9 wc => v9 = .bool (attrArg t p) ∧ Kept [] (w4.alloc (.cells p.cells.toArray 34)) wc)
    case first =>
      clear HE HMK HSP HC1' HC2' HC3' HT hI2
      by_cases k6 : p.kind = 6
      rotate_left
      · have k62 : (p.kind == 6) = false := by simp [k6]
        clear HM k6 HLQ
        refine wp_region_head 38 0 (fun _ => .cells #[] 0) (by kernel_rfl) (by kernel_rfl) (fun i o h1 h2 => by omega) (fun _ _ _ _ _ h => h) ?_; apply Exists.intro; refine ⟨fun U hU hN => ?_, ?_⟩; simp only [List.take_succ_cons, List.take_zero]
        · repeat (go_big_quiet_step (fail))
          refine wpQuiet_nil ?_
          exact rfl
        simp only [List.drop_succ_cons, List.drop_zero, List.take_zero]
        intro w7 hk7 _
        have HK7 := Lib.hid hk7
        clear hk7
        go_wp2_with fail
        go_meet
        exact ⟨by rw [HAG.out]; simp [*], HK7.out⟩
      have k62 : (p.kind == 6) = true := by simp [k6]
      clear k6
      cases s1 : (p.s.toList == [80, 111, 115])
      rotate_left
      ·
        by_cases kl : p.ls.length = 1
        rotate_left
        · have kl2 : ((p.ls.length : Int) == 1) = false := by simp; omega
          clear HM HLQ
          refine wp_region_head 38 0 (fun _ => .cells #[] 0) (by kernel_rfl) (by kernel_rfl) (fun i o h1 h2 => by omega) (fun _ _ _ _ _ h => h) ?_; apply Exists.intro; refine ⟨fun U hU hN => ?_, ?_⟩; simp only [List.take_succ_cons, List.take_zero]
          · repeat (go_big_quiet_step (fail))
            refine wpQuiet_nil ?_
            exact rfl
          simp only [List.drop_succ_cons, List.drop_zero, List.take_zero]
          intro w7 hk7 _
          have HK7 := Lib.hid hk7
          clear hk7
          go_wp2_with fail
          go_meet
          exact ⟨by rw [HAG.out]; simp [*], HK7.out⟩
        obtain ⟨b1, o1, hla, hlat⟩ := HLQ.out kl
        have kl2 : ((p.ls.length : Int) == 1) = true := by simp; omega
        have kl3 : (0 : Int) < (p.ls.length : Int) := by omega
        clear HLQ
        generalize hq : l0 p = q at *
        have HM2 := Lib.hid (fun w' (hk : Kept [] w w') => HM.out w' q hk)
        clear HM
        generalize (markP t q).isSome = bq at *
        refine wp_region_head 38 0 (fun _ => .cells #[] 0) (by kernel_rfl) (by kernel_rfl) (fun i o h1 h2 => by omega) (fun _ _ _ _ _ h => h) ?_; apply Exists.intro; refine ⟨fun U hU hN => ?_, ?_⟩; simp only [List.take_succ_cons, List.take_zero]
        · repeat (go_big_quiet_step (exact Calls.headV hU (HM2.out _ (Kept.trans (by repeat (first | with_reducible exact HK.out | with_reducible exact Kept.refl _ _ | with_reducible refine Kept.prev ?_ | with_reducible refine Kept.alloc' ?_ _ | with_reducible refine Kept.drew' ?_ | with_reducible refine Kept.setB ?_ _ _ _ (by omega) | with_reducible refine Kept.row' ?_ _ _ (by omega) | with_reducible refine Kept.map' ?_ _ _ (by omega))) (AfterU.prop _)))))
          refine wpQuiet_nil ?_
          exact rfl
        simp only [List.drop_succ_cons, List.drop_zero, List.take_zero]
        intro w7 hk7 _
        have HK7 := Lib.hid hk7
        clear hk7
        go_wp2_with fail
        go_meet
        exact ⟨by rw [HAG.out]; simp [*], HK7.out⟩
      cases s2 : (p.s.toList == [86, 97, 108])
      rotate_left
      ·
        by_cases kl : p.ls.length = 1
        rotate_left
        · have kl2 : ((p.ls.length : Int) == 1) = false := by simp; omega
          clear HM HLQ
          refine wp_region_head 38 0 (fun _ => .cells #[] 0) (by kernel_rfl) (by kernel_rfl) (fun i o h1 h2 => by omega) (fun _ _ _ _ _ h => h) ?_; apply Exists.intro; refine ⟨fun U hU hN => ?_, ?_⟩; simp only [List.take_succ_cons, List.take_zero]
          · repeat (go_big_quiet_step (fail))
            refine wpQuiet_nil ?_
            exact rfl
          simp only [List.drop_succ_cons, List.drop_zero, List.take_zero]
          intro w7 hk7 _
          have HK7 := Lib.hid hk7
          clear hk7
          go_wp2_with fail
          go_meet
          exact ⟨by rw [HAG.out]; simp [*], HK7.out⟩
        obtain ⟨b1, o1, hla, hlat⟩ := HLQ.out kl
        have kl2 : ((p.ls.length : Int) == 1) = true := by simp; omega
        have kl3 : (0 : Int) < (p.ls.length : Int) := by omega
        clear HLQ
        generalize hq : l0 p = q at *
        have HM2 := Lib.hid (fun w' (hk : Kept [] w w') => HM.out w' q hk)
        clear HM
        generalize (markP t q).isSome = bq at *
        refine wp_region_head 38 0 (fun _ => .cells #[] 0) (by kernel_rfl) (by kernel_rfl) (fun i o h1 h2 => by omega) (fun _ _ _ _ _ h => h) ?_; apply Exists.intro; refine ⟨fun U hU hN => ?_, ?_⟩; simp only [List.take_succ_cons, List.take_zero]
        · repeat (go_big_quiet_step (exact Calls.headV hU (HM2.out _ (Kept.trans (by repeat (first | with_reducible exact HK.out | with_reducible exact Kept.refl _ _ | with_reducible refine Kept.prev ?_ | with_reducible refine Kept.alloc' ?_ _ | with_reducible refine Kept.drew' ?_ | with_reducible refine Kept.setB ?_ _ _ _ (by omega) | with_reducible refine Kept.row' ?_ _ _ (by omega) | with_reducible refine Kept.map' ?_ _ _ (by omega))) (AfterU.prop _)))))
          refine wpQuiet_nil ?_
          exact rfl
        simp only [List.drop_succ_cons, List.drop_zero, List.take_zero]
        intro w7 hk7 _
        have HK7 := Lib.hid hk7
        clear hk7
        go_wp2_with fail
        go_meet
        exact ⟨by rw [HAG.out]; simp [*], HK7.out⟩
      cases s3 : (p.s.toList == [83, 117, 99, 99])
      rotate_left
      ·
        by_cases kl : p.ls.length = 1
        rotate_left
        · have kl2 : ((p.ls.length : Int) == 1) = false := by simp; omega
          clear HM HLQ
          refine wp_region_head 38 0 (fun _ => .cells #[] 0) (by kernel_rfl) (by kernel_rfl) (fun i o h1 h2 => by omega) (fun _ _ _ _ _ h => h) ?_; apply Exists.intro; refine ⟨fun U hU hN => ?_, ?_⟩; simp only [List.take_succ_cons, List.take_zero]
          · repeat (go_big_quiet_step (fail))
            refine wpQuiet_nil ?_
            exact rfl
          simp only [List.drop_succ_cons, List.drop_zero, List.take_zero]
          intro w7 hk7 _
          have HK7 := Lib.hid hk7
          clear hk7
          go_wp2_with fail
          go_meet
          exact ⟨by rw [HAG.out]; simp [*], HK7.out⟩
        obtain ⟨b1, o1, hla, hlat⟩ := HLQ.out kl
        have kl2 : ((p.ls.length : Int) == 1) = true := by simp; omega
        have kl3 : (0 : Int) < (p.ls.length : Int) := by omega
        clear HLQ
        generalize hq : l0 p = q at *
        have HM2 := Lib.hid (fun w' (hk : Kept [] w w') => HM.out w' q hk)
        clear HM
        generalize (markP t q).isSome = bq at *
        refine wp_region_head 38 0 (fun _ => .cells #[] 0) (by kernel_rfl) (by kernel_rfl) (fun i o h1 h2 => by omega) (fun _ _ _ _ _ h => h) ?_; apply Exists.intro; refine ⟨fun U hU hN => ?_, ?_⟩; simp only [List.take_succ_cons, List.take_zero]
        · repeat (go_big_quiet_step (exact Calls.headV hU (HM2.out _ (Kept.trans (by repeat (first | with_reducible exact HK.out | with_reducible exact Kept.refl _ _ | with_reducible refine Kept.prev ?_ | with_reducible refine Kept.alloc' ?_ _ | with_reducible refine Kept.drew' ?_ | with_reducible refine Kept.setB ?_ _ _ _ (by omega) | with_reducible refine Kept.row' ?_ _ _ (by omega) | with_reducible refine Kept.map' ?_ _ _ (by omega))) (AfterU.prop _)))))
          refine wpQuiet_nil ?_
          exact rfl
        simp only [List.drop_succ_cons, List.drop_zero, List.take_zero]
        intro w7 hk7 _
        have HK7 := Lib.hid hk7
        clear hk7
        go_wp2_with fail
        go_meet
        exact ⟨by rw [HAG.out]; simp [*], HK7.out⟩
      cases s4 : (p.s.toList == [80, 114, 101, 100])
      rotate_left
      ·
        by_cases kl : p.ls.length = 1
        rotate_left
        · have kl2 : ((p.ls.length : Int) == 1) = false := by simp; omega
          clear HM HLQ
          refine wp_region_head 38 0 (fun _ => .cells #[] 0) (by kernel_rfl) (by kernel_rfl) (fun i o h1 h2 => by omega) (fun _ _ _ _ _ h => h) ?_; apply Exists.intro; refine ⟨fun U hU hN => ?_, ?_⟩; simp only [List.take_succ_cons, List.take_zero]
          · repeat (go_big_quiet_step (fail))
            refine wpQuiet_nil ?_
            exact rfl
          simp only [List.drop_succ_cons, List.drop_zero, List.take_zero]
          intro w7 hk7 _
          have HK7 := Lib.hid hk7
          clear hk7
          go_wp2_with fail
          go_meet
          exact ⟨by rw [HAG.out]; simp [*], HK7.out⟩
        obtain ⟨b1, o1, hla, hlat⟩ := HLQ.out kl
        have kl2 : ((p.ls.length : Int) == 1) = true := by simp; omega
        have kl3 : (0 : Int) < (p.ls.length : Int) := by omega
        clear HLQ
        generalize hq : l0 p = q at *
        have HM2 := Lib.hid (fun w' (hk : Kept [] w w') => HM.out w' q hk)
        clear HM
        generalize (markP t q).isSome = bq at *
        refine wp_region_head 38 0 (fun _ => .cells #[] 0) (by kernel_rfl) (by kernel_rfl) (fun i o h1 h2 => by omega) (fun _ _ _ _ _ h => h) ?_; apply Exists.intro; refine ⟨fun U hU hN => ?_, ?_⟩; simp only [List.take_succ_cons, List.take_zero]
        · repeat (go_big_quiet_step (exact Calls.headV hU (HM2.out _ (Kept.trans (by repeat (first | with_reducible exact HK.out | with_reducible exact Kept.refl _ _ | with_reducible refine Kept.prev ?_ | with_reducible refine Kept.alloc' ?_ _ | with_reducible refine Kept.drew' ?_ | with_reducible refine Kept.setB ?_ _ _ _ (by omega) | with_reducible refine Kept.row' ?_ _ _ (by omega) | with_reducible refine Kept.map' ?_ _ _ (by omega))) (AfterU.prop _)))))
          refine wpQuiet_nil ?_
          exact rfl
        simp only [List.drop_succ_cons, List.drop_zero, List.take_zero]
        intro w7 hk7 _
        have HK7 := Lib.hid hk7
        clear hk7
        go_wp2_with fail
        go_meet
        exact ⟨by rw [HAG.out]; simp [*], HK7.out⟩
      clear HM HLQ
      refine wp_region_head 38 0 (fun _ => .cells #[] 0) (by kernel_rfl) (by kernel_rfl) (fun i o h1 h2 => by omega) (fun _ _ _ _ _ h => h) ?_; apply Exists.intro; refine ⟨fun U hU hN => ?_, ?_⟩; simp only [List.take_succ_cons, List.take_zero]
      · repeat (go_big_quiet_step (fail))
        refine wpQuiet_nil ?_
        exact rfl
      simp only [List.drop_succ_cons, List.drop_zero, List.take_zero]
      intro w7 hk7 _
      have HK7 := Lib.hid hk7
      clear hk7
      go_wp2_with fail
      go_meet
      exact ⟨by rw [HAG.out]; simp [*], HK7.out⟩
    obtain ⟨rfl, hkc⟩ := hcut
    obtain ⟨w5, rfl⟩ : ∃ w5 : World, w5 = wc := ⟨_, rfl⟩
    haveI p_w5 : PrevWorld w5 _ := ⟨hkc⟩
    have hz5 := (show Kept [] w w5 from (by repeat (first | with_reducible exact HK.out | with_reducible exact Kept.refl _ _ | with_reducible refine Kept.prev ?_ | with_reducible refine Kept.alloc' ?_ _ | with_reducible refine Kept.drew' ?_ | with_reducible refine Kept.setB ?_ _ _ _ (by omega) | with_reducible refine Kept.row' ?_ _ _ (by omega) | with_reducible refine Kept.map' ?_ _ _ (by omega)))).size
    clear HAG hkc HM hpat
    cases hg : attrArg t p
    · rw [hg, Bool.false_or, Bool.and_eq_true] at hI2
      obtain ⟨hty, hpl⟩ := hI2
      have HEN : Hid (entIn t x.ent = true) := by
        rw [Hid]
        apply Classical.byContradiction
        intro h
        rw [ent_zero (by simpa using h)] at hty
        simp [zeroE, typedP] at hty
      obtain ⟨⟨bb, aa⟩, hpb⟩ := Option.isSome_iff_exists.1 hpl
      have HC := Lib.hid (HC3'.out bb aa hg hpb)
      obtain ⟨k, s, hk, hs, rfl, _⟩ := plain_at hpb
      obtain ⟨s', bs, os, hs', hsa, hsat, _⟩ := tab_sub (HT.out.kept (w' := w5) (by repeat (first | with_reducible exact HK.out | with_reducible exact Kept.refl _ _ | with_reducible refine Kept.prev ?_ | with_reducible refine Kept.alloc' ?_ _ | with_reducible refine Kept.drew' ?_ | with_reducible refine Kept.setB ?_ _ _ _ (by omega) | with_reducible refine Kept.row' ?_ _ _ (by omega) | with_reducible refine Kept.map' ?_ _ _ (by omega)))) (List.getElem?_eq_some_iff.1 hs).1
      obtain rfl : s' = s := by rw [hs] at hs'; exact (Option.some.inj hs').symm
      have h2 : (k : Int) < (t.subs.length : Int) := by have := (List.getElem?_eq_some_iff.1 hs).1; omega
      unfold entV2 entA at HE
      rw [HEN.out] at HE
      rw [hsa] at HE
      clear HC1' HC2' HC3' HMK HSP HT hty hpl hpb hs hs' HEN hg HLQ
      generalize entP t x.ent = e at *
      have HWI := Lib.hid (fun w' => rwithin_any w' u s'.lo s'.hi)
      rw [← HC.out] at HWI
      generalize callV (valP t n) t x = R at *
      go_wp2_with fail
      refine (HE.out _ (by repeat (first | with_reducible exact HK.out | with_reducible exact Kept.refl _ _ | with_reducible refine Kept.prev ?_ | with_reducible refine Kept.alloc' ?_ _ | with_reducible refine Kept.drew' ?_ | with_reducible refine Kept.setB ?_ _ _ _ (by omega) | with_reducible refine Kept.row' ?_ _ _ (by omega) | with_reducible refine Kept.map' ?_ _ _ (by omega)))).mono ?_; rintro e w6 ⟨rfl, hk_w6⟩; haveI p_w6 : PrevWorld w6 _ := ⟨hk_w6⟩; have hz_w6 : w.heap.size ≤ w6.heap.size := Kept.size (by repeat (first | with_reducible exact HK.out | with_reducible exact Kept.refl _ _ | with_reducible refine Kept.prev ?_ | with_reducible refine Kept.alloc' ?_ _ | with_reducible refine Kept.drew' ?_ | with_reducible refine Kept.setB ?_ _ _ _ (by omega) | with_reducible refine Kept.row' ?_ _ _ (by omega) | with_reducible refine Kept.map' ?_ _ _ (by omega))); clear hk_w6
      clear HE
      go_wp2_with fail
      unfold ovV at HWI
      unfold ovV
      refine wp_region_head 20 0 (fun _ => .cells #[] 0) (by kernel_rfl) (by kernel_rfl) (fun i o h1 h2 => by omega) (fun _ _ _ _ _ h => h) ?_; apply Exists.intro; refine ⟨fun U hU hN => ?_, ?_⟩; simp only [List.take_succ_cons, List.take_zero]
      · repeat (go_big_quiet_step (exact Calls.headV hU (HWI.out _)))
        refine wpQuiet_nil ?_
        exact rfl
      simp only [List.drop_succ_cons, List.drop_zero, List.take_zero]
      intro w7 hk7 _
      haveI p_w7 : PrevWorld w7 _ := ⟨hk7⟩
      clear hk7
      go_wp2_with fail
      exact bodyPost_v rfl (res2 Tryz.results76 (resT rfl) (resT rfl)) (by repeat (first | with_reducible exact HK.out | with_reducible exact Kept.refl _ _ | with_reducible refine Kept.prev ?_ | with_reducible refine Kept.alloc' ?_ _ | with_reducible refine Kept.drew' ?_ | with_reducible refine Kept.setB ?_ _ _ _ (by omega) | with_reducible refine Kept.row' ?_ _ _ (by omega) | with_reducible refine Kept.map' ?_ _ _ (by omega)))
    obtain ⟨hk6, hsh, hpl, bb, aa, hmk⟩ := attrArg_at hg
    obtain ⟨k, s, hrm, hs, rfl, hsp⟩ := mark_at hmk
    obtain ⟨s', bs, os, hs', hsa, hsat, _⟩ := tab_sub (HT.out.kept (w' := w5) (by repeat (first | with_reducible exact HK.out | with_reducible exact Kept.refl _ _ | with_reducible refine Kept.prev ?_ | with_reducible refine Kept.alloc' ?_ _ | with_reducible refine Kept.drew' ?_ | with_reducible refine Kept.setB ?_ _ _ _ (by omega) | with_reducible refine Kept.row' ?_ _ _ (by omega) | with_reducible refine Kept.map' ?_ _ _ (by omega)))) (List.getElem?_eq_some_iff.1 hs).1
    obtain rfl : s' = s := by rw [hs] at hs'; exact (Option.some.inj hs').symm
    have h2 : (k : Int) < (t.subs.length : Int) := by have := (List.getElem?_eq_some_iff.1 hs).1; omega
    obtain ⟨b1, o1, hla, hlat⟩ := HLQ.out hpl
    have kl3 : (0 : Int) < (p.ls.length : Int) := by omega
    have HMK2 := Lib.hid (fun w' (hk : Kept [] w w') => HMK.out w' (l0 p) hk)
    rw [hrm] at HMK2
    have HSP2 := Lib.hid (fun w' (hk : Kept [] w w') => HSP.out w' s'.t hk)
    rw [hsp] at HSP2
    unfold rmV at HMK2
    unfold bd3V at HSP2
    simp only [Option.getD_some, Option.isSome_some] at HSP2
    have HC2 := Lib.hid (fun hs => HC2'.out _ aa hg hs hmk)
    have HC1 := Lib.hid (fun hs => HC1'.out hg hs)
    have HSHI : Hid (shiftI p.s = if (p.s.toList == [83, 117, 99, 99]) = true then 1 else if (p.s.toList == [80, 114, 101, 100]) = true then -1 else 0) := rfl
    rw [hsa] at HMK2 HSP2
    obtain ⟨lo, hi⟩ := aa
    simp only at HSP2
    clear HC1' HC2' HC3' HMK HSP HT hI2 HE hs hs' hrm hsp hmk hg hk6 hsh hpl HLQ
    generalize l0 p = q at *
    generalize callV (valP t n) t x = R at *
    go_wp2_with fail
    refine wp_region_head 11 0 (fun _ => .cells #[] 0) (by kernel_rfl) (by kernel_rfl) (fun i o h1 h2 => by omega) (fun _ _ _ _ _ h => h) ?_; apply Exists.intro; refine ⟨fun U hU hN => ?_, ?_⟩; simp only [List.take_succ_cons, List.take_zero]
    · repeat (go_big_quiet_step (exact Calls.headV hU (HMK2.out _ (Kept.trans (by repeat (first | with_reducible exact HK.out | with_reducible exact Kept.refl _ _ | with_reducible refine Kept.prev ?_ | with_reducible refine Kept.alloc' ?_ _ | with_reducible refine Kept.drew' ?_ | with_reducible refine Kept.setB ?_ _ _ _ (by omega) | with_reducible refine Kept.row' ?_ _ _ (by omega) | with_reducible refine Kept.map' ?_ _ _ (by omega))) (AfterU.prop _)))))
      refine wpQuiet_nil ?_
      exact rfl
    simp only [List.drop_succ_cons, List.drop_zero, List.take_zero]
    intro w6 hk6 _
    haveI p_w6 : PrevWorld w6 _ := ⟨hk6⟩
    clear hk6 HMK2
    go_wp2_with fail
    refine wp_region_head 15 0 (fun _ => .cells #[] 0) (by kernel_rfl) (by kernel_rfl) (fun i o h1 h2 => by omega) (fun _ _ _ _ _ h => h) ?_; apply Exists.intro; refine ⟨fun U hU hN => ?_, ?_⟩; simp only [List.take_succ_cons, List.take_zero]
    · repeat (go_big_quiet_step (exact Calls.headV hU (HSP2.out _ (Kept.trans (by repeat (first | with_reducible exact HK.out | with_reducible exact Kept.refl _ _ | with_reducible refine Kept.prev ?_ | with_reducible refine Kept.alloc' ?_ _ | with_reducible refine Kept.drew' ?_ | with_reducible refine Kept.setB ?_ _ _ _ (by omega) | with_reducible refine Kept.row' ?_ _ _ (by omega) | with_reducible refine Kept.map' ?_ _ _ (by omega))) (AfterU.prop _)))))
      refine wpQuiet_nil ?_
      exact rfl
    simp only [List.drop_succ_cons, List.drop_zero, List.take_zero]
    intro w7 hk7 _
    haveI p_w7 : PrevWorld w7 _ := ⟨hk7⟩
    clear hk7 HSP2
    cases s1 : (p.s.toList == [80, 111, 115])
    rotate_left
    · have HW := Lib.hid (HC1.out s1)
      go_wp2_with fail
      rw [HW.out]
      exact bodyPost_v rfl (res2 Tryz.results76 (resT rfl) (resT rfl)) (by repeat (first | with_reducible exact HK.out | with_reducible exact Kept.refl _ _ | with_reducible refine Kept.prev ?_ | with_reducible refine Kept.alloc' ?_ _ | with_reducible refine Kept.drew' ?_ | with_reducible refine Kept.setB ?_ _ _ _ (by omega) | with_reducible refine Kept.row' ?_ _ _ (by omega) | with_reducible refine Kept.map' ?_ _ _ (by omega)))
    have HC3 := Lib.hid (HC2.out s1)
    clear HC1 HC2
    cases s3 : (p.s.toList == [83, 117, 99, 99])
    rotate_left
    · have HW1 : Hid (R = withinP (u + 1) (lo, hi)) := by rw [Hid, HC3.out, HSHI.out, s3]; rfl
      clear HC3 HSHI
      have HWI := Lib.hid (fun w' => rwithin_any w' (u + 1) lo hi)
      rw [← HW1.out] at HWI
      unfold ovV at HWI
      unfold ovV
      go_wp2_with fail
      refine (HWI.out _).mono ?_; rintro e w8 ⟨rfl, hk_w8⟩; haveI p_w8 : PrevWorld w8 _ := ⟨hk_w8⟩; have hz_w8 : w.heap.size ≤ w8.heap.size := Kept.size (by repeat (first | with_reducible exact HK.out | with_reducible exact Kept.refl _ _ | with_reducible refine Kept.prev ?_ | with_reducible refine Kept.alloc' ?_ _ | with_reducible refine Kept.drew' ?_ | with_reducible refine Kept.setB ?_ _ _ _ (by omega) | with_reducible refine Kept.row' ?_ _ _ (by omega) | with_reducible refine Kept.map' ?_ _ _ (by omega))); clear hk_w8
      go_wp2_with fail
      exact bodyPost_v rfl (res2 Tryz.results76 (resT rfl) (resT rfl)) (by repeat (first | with_reducible exact HK.out | with_reducible exact Kept.refl _ _ | with_reducible refine Kept.prev ?_ | with_reducible refine Kept.alloc' ?_ _ | with_reducible refine Kept.drew' ?_ | with_reducible refine Kept.setB ?_ _ _ _ (by omega) | with_reducible refine Kept.row' ?_ _ _ (by omega) | with_reducible refine Kept.map' ?_ _ _ (by omega)))
    cases s4 : (p.s.toList == [80, 114, 101, 100])
    rotate_left
    · have HW1 : Hid (R = withinP (u - 1) (lo, hi)) := by rw [Hid, HC3.out, HSHI.out, s3, s4]; rfl
      clear HC3 HSHI
      have HWI := Lib.hid (fun w' => rwithin_any w' (u - 1) lo hi)
      rw [← HW1.out] at HWI
      unfold ovV at HWI
      unfold ovV
      go_wp2_with fail
      refine (HWI.out _).mono ?_; rintro e w8 ⟨rfl, hk_w8⟩; haveI p_w8 : PrevWorld w8 _ := ⟨hk_w8⟩; have hz_w8 : w.heap.size ≤ w8.heap.size := Kept.size (by repeat (first | with_reducible exact HK.out | with_reducible exact Kept.refl _ _ | with_reducible refine Kept.prev ?_ | with_reducible refine Kept.alloc' ?_ _ | with_reducible refine Kept.drew' ?_ | with_reducible refine Kept.setB ?_ _ _ _ (by omega) | with_reducible refine Kept.row' ?_ _ _ (by omega) | with_reducible refine Kept.map' ?_ _ _ (by omega))); clear hk_w8
      go_wp2_with fail
      exact bodyPost_v rfl (res2 Tryz.results76 (resT rfl) (resT rfl)) (by repeat (first | with_reducible exact HK.out | with_reducible exact Kept.refl _ _ | with_reducible refine Kept.prev ?_ | with_reducible refine Kept.alloc' ?_ _ | with_reducible refine Kept.drew' ?_ | with_reducible refine Kept.setB ?_ _ _ _ (by omega) | with_reducible refine Kept.row' ?_ _ _ (by omega) | with_reducible refine Kept.map' ?_ _ _ (by omega)))
    have HW1 : Hid (R = withinP u (lo, hi)) := by rw [Hid, HC3.out, HSHI.out, s3, s4]; show withinP (u + 0) _ = _; rw [Int.add_zero]
    clear HC3 HSHI
    have HWI := Lib.hid (fun w' => rwithin_any w' u lo hi)
    rw [← HW1.out] at HWI
    unfold ovV at HWI
    unfold ovV
    go_wp2_with fail
    refine (HWI.out _).mono ?_; rintro e w8 ⟨rfl, hk_w8⟩; haveI p_w8 : PrevWorld w8 _ := ⟨hk_w8⟩; have hz_w8 : w.heap.size ≤ w8.heap.size := Kept.size (by repeat (first | with_reducible exact HK.out | with_reducible exact Kept.refl _ _ | with_reducible refine Kept.prev ?_ | with_reducible refine Kept.alloc' ?_ _ | with_reducible refine Kept.drew' ?_ | with_reducible refine Kept.setB ?_ _ _ _ (by omega) | with_reducible refine Kept.row' ?_ _ _ (by omega) | with_reducible refine Kept.map' ?_ _ _ (by omega))); clear hk_w8
    go_wp2_with fail
    exact bodyPost_v rfl (res2 Tryz.results76 (resT rfl) (resT rfl)) (by repeat (first | with_reducible exact HK.out | with_reducible exact Kept.refl _ _ | with_reducible refine Kept.prev ?_ | with_reducible refine Kept.alloc' ?_ _ | with_reducible refine Kept.drew' ?_ | with_reducible refine Kept.setB ?_ _ _ _ (by omega) | with_reducible refine Kept.row' ?_ _ _ (by omega) | with_reducible refine Kept.map' ?_ _ _ (by omega)))
end Go.Proofs.YtgdjhhfbpalkdaaGreat
