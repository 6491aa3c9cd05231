/- The reference: all, called. -/
import Derived.Test.YtgdjhhfbpalkdaaGreatR2
import Derived.Deep.CutBlock
namespace Go.Proofs.YtgdjhhfbpalkdaaGreat
open Go.RowKit
/-- What the reference's Is tells of expressions to a depth. -/
def IsR (v : TabV) (t : Tab) (n : Nat) : Prop := ∀ w x, TabIn w v t → ExIn w n x → Calls Tryz.prog 9 #[.agg (v.cells t), .agg x.cells.toArray] w (RetV (.bool (isP t n x)) w)

set_option maxRecDepth 100000 in
set_option maxHeartbeats 2000000 in
theorem rall_any (w : World) (v : TabV) (t : Tab) (a : Option Addr) (c : Nat) (xs : List ExV) (n k : Nat) (ih : IsR v t n) (hT : TabIn w v t) (hm : xs.length ≤ 140737488355328) (hI : RowsAt ExV 9 ExV.cells w a xs) (hx : ∀ y, y ∈ xs → ExIn w n y) :
    Calls Tryz.prog 27 #[.agg (v.cells t), .slice a xs.length c, .int .i64 (k : Int)] w (RetV (.bool (allF (isP t n) xs k)) w) := by
  have HV : Hid (allF (isP t n) xs k = (decide (xs.length = k) && xs.all (isP t n))) := rfl
  have HS := Lib.hid (fun w' y (hk : Kept [] w w') (hy : y ∈ xs) => ih w' y (hT.kept hk) ((hx y hy).kept hk))
  have HI := Lib.hid hI
  unfold TabV.cells at *
  clear ih hT hI hx
  go_enter Tryz.func27, Tryz.ntmps27
  go_upto_block 0 with fail
  refine wp_gen' ?_
  intro w1 hw1
  haveI p_w1 : PrevWorld w1 w := ⟨by rw [hw1]; exact (by repeat (first | with_reducible exact HK.out | with_reducible exact Kept.refl _ _ | with_reducible refine Kept.prev ?_ | with_reducible refine Kept.alloc' ?_ _ | with_reducible refine Kept.drew' ?_ | with_reducible refine Kept.setB ?_ _ _ _ (by omega) | with_reducible refine Kept.row' ?_ _ _ (by omega) | with_reducible refine Kept.map' ?_ _ _ (by omega)))⟩
  haveI bx1 : BoxIs w1 w.heap.size 28 _ := by rw [hw1]; infer_instance
  have hz1 : w.heap.size ≤ w1.heap.size := Kept.size (X := []) (by repeat (first | with_reducible exact HK.out | with_reducible exact Kept.refl _ _ | with_reducible refine Kept.prev ?_ | with_reducible refine Kept.alloc' ?_ _ | with_reducible refine Kept.drew' ?_ | with_reducible refine Kept.setB ?_ _ _ _ (by omega) | with_reducible refine Kept.row' ?_ _ _ (by omega) | with_reducible refine Kept.map' ?_ _ _ (by omega)))
  clear hw1
  go_wp2_with fail
  go_loopw [7] (fun i wr => ∃ k : Nat, k ≤ xs.length ∧ i = .int .i64 k ∧ (xs.take k).all (isP t n) = true ∧ Kept [] w1 wr) (fun i _ => xs.length - (intOf i).toNat)
  case atStart => exact ⟨0, Nat.zero_le _, rfl, rfl, Kept.refl _ _⟩
  case round =>
    obtain ⟨j, hj, rfl, hn, hkr⟩ := hrel
    haveI p_wr : PrevWorld wr w1 := ⟨hkr⟩
    have HN := Lib.hid hn
    have HK := Lib.hid hkr
    clear hn hkr
    by_cases hlt : j < xs.length
    · obtain ⟨x, hxj⟩ : ∃ x, xs[j]? = some x := ⟨_, List.getElem?_eq_getElem hlt⟩
      have HX := Lib.hid hxj
      rcases HI.out with h0 | ⟨b, o, rfl, hcx⟩
      · rw [h0] at hlt; simp at hlt
      · haveI ie : ExAt wr b (o + j * 9) x := ⟨fun q u hu => (show Kept [] w wr from (by repeat (first | with_reducible exact HK.out | with_reducible exact Kept.refl _ _ | with_reducible refine Kept.prev ?_ | with_reducible refine Kept.alloc' ?_ _ | with_reducible refine Kept.drew' ?_ | with_reducible refine Kept.setB ?_ _ _ _ (by omega) | with_reducible refine Kept.row' ?_ _ _ (by omega) | with_reducible refine Kept.map' ?_ _ _ (by omega)))).cell (hcx j x hxj q u hu) (by simp)⟩
        clear hcx hxj
        have j2 : (j : Int) < (xs.length : Int) := by omega
        have HS2 := Lib.hid (fun w' (hk : Kept [] w w') => HS.out w' x hk (List.mem_of_getElem? HX.out))
        have HST : Hid ((xs.take (j + 1)).all (isP t n) = isP t n x) := by
          obtain ⟨hk', e⟩ := List.getElem?_eq_some_iff.1 HX.out
          rw [Hid, List.take_succ_eq_append_getElem hk', e, List.all_append, HN.out]
          simp
        have HA : Hid (isP t n x = false → xs.all (isP t n) = false) := fun h => by
          rw [List.all_eq_false]
          exact ⟨x, List.mem_of_getElem? HX.out, by simp [h]⟩
        obtain ⟨wo, rfl⟩ : ∃ wo : World, wo = wr := ⟨_, rfl⟩
        go_wp2_with fail
        refine wp_region_head 7 0 (fun _ => .cells #[] 0) (by kernel_rfl) (by kernel_rfl) (fun i o h1 h2 => by omega) (fun _ _ _ _ _ h => h) ?_; apply Exists.intro; refine ⟨fun U hU hN => ?_, ?_⟩; simp only [List.take_succ_cons, List.take_zero]
        · repeat (go_big_quiet_step (exact Calls.headV hU (HS2.out _ (Kept.trans (by repeat (first | with_reducible exact HK.out | with_reducible exact Kept.refl _ _ | with_reducible refine Kept.prev ?_ | with_reducible refine Kept.alloc' ?_ _ | with_reducible refine Kept.drew' ?_ | with_reducible refine Kept.setB ?_ _ _ _ (by omega) | with_reducible refine Kept.row' ?_ _ _ (by omega) | with_reducible refine Kept.map' ?_ _ _ (by omega))) (AfterU.prop _)))))
          refine wpQuiet_nil ?_
          exact rfl
        simp only [List.drop_succ_cons, List.drop_zero, List.take_zero]
        intro w4 hk4 _
        haveI p_w4 : PrevWorld w4 _ := ⟨hk4⟩
        clear HN HS2 ie
        cases hpx : isP t n x
        · rw [hpx] at HST
          have HA2 := Lib.hid (HA.out hpx)
          clear hpx HA
          have HW : Hid (allF (isP t n) xs k = false) := by rw [Hid, HV.out, HA2.out, Bool.and_false]
          go_wp2_with fail
          rw [HW.out]
          exact bodyPost_v rfl (res1 Tryz.results27 (resT rfl)) (by repeat (first | with_reducible exact HK.out | with_reducible exact Kept.refl _ _ | with_reducible refine Kept.prev ?_ | with_reducible refine Kept.alloc' ?_ _ | with_reducible refine Kept.drew' ?_ | with_reducible refine Kept.setB ?_ _ _ _ (by omega) | with_reducible refine Kept.row' ?_ _ _ (by omega) | with_reducible refine Kept.map' ?_ _ _ (by omega)))
        · rw [hpx] at HST
          clear hpx HA
          have HK4 := Lib.hid (HK.out.trans hk4)
          clear hk4
          go_wp2_with fail
          go_roundw
          case rel => exact ⟨j + 1, by omega, by go_num, HST.out, HK4.out⟩
          case measure => simp [intOf]; omega
    · obtain rfl : j = xs.length := by omega
      have HN2 : Hid (xs.all (isP t n) = true) := by have := HN.out; rw [List.take_length] at this; exact this
      have HW : Hid (allF (isP t n) xs k = ((xs.length : Int) == (k : Int))) := by
        rw [Hid, HV.out, HN2.out, Bool.and_true, Bool.eq_iff_iff, decide_eq_true_eq, beq_iff_eq]
        omega
      clear HN HV
      go_wp2_with fail
      rw [HW.out]
      exact bodyPost_v rfl (res1 Tryz.results27 (resT rfl)) (by repeat (first | with_reducible exact HK.out | with_reducible exact Kept.refl _ _ | with_reducible refine Kept.prev ?_ | with_reducible refine Kept.alloc' ?_ _ | with_reducible refine Kept.drew' ?_ | with_reducible refine Kept.setB ?_ _ _ _ (by omega) | with_reducible refine Kept.row' ?_ _ _ (by omega) | with_reducible refine Kept.map' ?_ _ _ (by omega)))

/-- Whether a prefix is an attribute with an argument. -/
def attrArg (t : Tab) (p : ExV) : Bool :=
  p.kind == 6 && (p.s.toList == [80, 111, 115] || p.s.toList == [86, 97, 108] || p.s.toList == [83, 117, 99, 99] || p.s.toList == [80, 114, 101, 100]) && decide (p.ls.length = 1) && (markP t (l0 p)).isSome
theorem shift_is (s : ByteArray) : (shiftP s).isSome = (s.toList == [80, 111, 115] || s.toList == [86, 97, 108] || s.toList == [83, 117, 99, 99] || s.toList == [80, 114, 101, 100]) := by
  rw [str_is, str_is, str_is, str_is]
  unfold shiftP sPos sVal sSucc sPred
  split
  · simp [*]
  split
  · simp [*]
  split
  · simp [*]
  split <;> simp [*]
theorem argued_arg {t : Tab} {x : ExV} (h : x.ls.length = 1) : (arguedP t x).isSome = attrArg t (l0 x) := by
  have e := list1 (d := default) h
  have h0 : l0 x = x.ls.getD 0 default := rfl
  rw [← h0] at e
  unfold arguedP attrArg
  rw [e, ← shift_is]
  simp only
  cases shiftP (l0 x).s with
  | none => simp
  | some s =>
    by_cases hk : (l0 x).kind = 6
    · simp only [hk, if_true]
      cases hl : (l0 x).ls with
      | nil => simp
      | cons q l => cases l with
        | nil =>
          have e2 : l0 (l0 x) = q := by
            unfold l0
            unfold l0 at hl
            rw [hl]
            rfl
          rw [e2]
          cases hm : markP t q <;> simp [hm]
        | cons _ _ => simp
    · simp [hk]
theorem called_yes {I : ExV → Bool} {t : Tab} {x : ExV} (h1 : x.ls.length = 1) (h2 : x.al.length = 1) : callF I t x = (I (a0 x) && (attrArg t (l0 x) || typedP (entP t x.ent) && (plainP t (entP t x.ent).sub).isSome)) := by
  rw [call_yes h1 h2, argued_ok h1, plainX_ok, argued_arg h1]
set_option maxRecDepth 100000 in
set_option maxHeartbeats 4000000 in
theorem rcalled_any (w : World) (v : TabV) (t : Tab) (x : ExV) (n : Nat) (ih : IsR v t n) (hT : TabIn w v t) (hx : ExIn w (n + 1) x) : Calls Tryz.prog 25 #[.agg (v.cells t), .agg x.cells.toArray] w (RetV (.bool (callF (isP t n) t x)) w) := by
  have HE := Lib.hid (fun w' (hk : Kept [] w w') => rentity_any w' v t x (hT.kept hk))
  have HP := Lib.hid (fun w' m (hk : Kept [] w w') => rplain_any w' v t m (hT.kept hk))
  have HM := Lib.hid (fun w' y (hk : Kept [] w w') => rmarked_any w' v t y (hT.kept hk))
  have HS := Lib.hid (fun w' (hk : Kept [] w w') y hy => ih w' y (hT.kept hk) hy)
  have HX := Lib.hid hx
  have q1 := hx.2.2.2.2.1
  have q2 := hx.2.2.2.2.2.1
  have HN1 := Lib.hid (fun h => call_no1 (I := isP t n) (t := t) (x := x) h)
  have HN2 := Lib.hid (fun h => call_no2 (I := isP t n) (t := t) (x := x) h)
  have HY := Lib.hid (fun h1 h2 => called_yes (I := isP t n) (t := t) (x := x) h1 h2)
  unfold TabV.cells at HE HP HM HS
  unfold TabV.cells
  clear hT hx ih
  by_cases k1 : x.ls.length = 1
  rotate_left
  · have HW := Lib.hid (HN1.out k1)
    have k12 : ((x.ls.length : Int) != 1) = true := by simp; omega
    clear HE HP HM HS HX HN1 HN2 HY k1
    go_enter Tryz.func25, Tryz.ntmps25
    go_wp2_with fail
    refine wp_region_head 20 0 (fun _ => .cells #[] 0) (by kernel_rfl) (by kernel_rfl) (fun i o h1 h2 => by omega) (fun _ _ _ _ _ h => h) ?_; apply Exists.intro; refine ⟨fun U hU hN => ?_, ?_⟩; simp only [List.take_succ_cons, List.take_zero]
    · repeat (go_big_quiet_step (fail))
      refine wpQuiet_nil ?_
      exact rfl
    simp only [List.drop_succ_cons, List.drop_zero, List.take_zero]
    intro w4 hk4 _
    haveI p_w4 : PrevWorld w4 _ := ⟨hk4⟩
    clear hk4
    go_wp2_with fail
    rw [HW.out]
    exact bodyPost_v rfl (res1 Tryz.results25 (resT rfl)) (by repeat (first | with_reducible exact HK.out | with_reducible exact Kept.refl _ _ | with_reducible refine Kept.prev ?_ | with_reducible refine Kept.alloc' ?_ _ | with_reducible refine Kept.drew' ?_ | with_reducible refine Kept.setB ?_ _ _ _ (by omega) | with_reducible refine Kept.row' ?_ _ _ (by omega) | with_reducible refine Kept.map' ?_ _ _ (by omega)))
  have k12 : ((x.ls.length : Int) != 1) = false := by simp; omega
  by_cases k2 : x.al.length = 1
  rotate_left
  · have HW := Lib.hid (HN2.out k2)
    have k22 : ((x.al.length : Int) != 1) = true := by simp; omega
    clear HE HP HM HS HX HN1 HN2 HY k1 k2
    go_enter Tryz.func25, Tryz.ntmps25
    go_wp2_with fail
    refine wp_region_head 20 0 (fun _ => .cells #[] 0) (by kernel_rfl) (by kernel_rfl) (fun i o h1 h2 => by omega) (fun _ _ _ _ _ h => h) ?_; apply Exists.intro; refine ⟨fun U hU hN => ?_, ?_⟩; simp only [List.take_succ_cons, List.take_zero]
    · repeat (go_big_quiet_step (fail))
      refine wpQuiet_nil ?_
      exact rfl
    simp only [List.drop_succ_cons, List.drop_zero, List.take_zero]
    intro w4 hk4 _
    haveI p_w4 : PrevWorld w4 _ := ⟨hk4⟩
    clear hk4
    go_wp2_with fail
    rw [HW.out]
    exact bodyPost_v rfl (res1 Tryz.results25 (resT rfl)) (by repeat (first | with_reducible exact HK.out | with_reducible exact Kept.refl _ _ | with_reducible refine Kept.prev ?_ | with_reducible refine Kept.alloc' ?_ _ | with_reducible refine Kept.drew' ?_ | with_reducible refine Kept.setB ?_ _ _ _ (by omega) | with_reducible refine Kept.row' ?_ _ _ (by omega) | with_reducible refine Kept.map' ?_ _ _ (by omega)))
  have k22 : ((x.al.length : Int) != 1) = false := by simp; omega
  have HW := Lib.hid (HY.out k1 k2)
  obtain ⟨b0, o0, ha, hat, hia⟩ := as_at HX.out (by omega)
  have HIA := Lib.hid hia
  obtain ⟨bp, op, hpa, hpat, hpi⟩ := ex_first HX.out (by omega)
  have HPI := Lib.hid hpi
  have HAT := Lib.hid hpat
  have l2 : (0 : Int) < (x.al.length : Int) := by omega
  have l3 : (0 : Int) < (x.ls.length : Int) := by omega
  clear HN1 HN2 HY HX k1 k2 hia hpi
  go_enter Tryz.func25, Tryz.ntmps25
  go_wp2_with fail
  refine wp_region_head 20 0 (fun _ => .cells #[] 0) (by kernel_rfl) (by kernel_rfl) (fun i o h1 h2 => by omega) (fun _ _ _ _ _ h => h) ?_; apply Exists.intro; refine ⟨fun U hU hN => ?_, ?_⟩; simp only [List.take_succ_cons, List.take_zero]
  · repeat (go_big_quiet_step (exact Calls.headV hU (HS.out _ (Kept.trans (by repeat (first | with_reducible exact HK.out | with_reducible exact Kept.refl _ _ | with_reducible refine Kept.prev ?_ | with_reducible refine Kept.alloc' ?_ _ | with_reducible refine Kept.drew' ?_ | with_reducible refine Kept.setB ?_ _ _ _ (by omega) | with_reducible refine Kept.row' ?_ _ _ (by omega) | with_reducible refine Kept.map' ?_ _ _ (by omega))) (AfterU.prop _)) _ (HIA.out.kept (Kept.trans (by repeat (first | with_reducible exact HK.out | with_reducible exact Kept.refl _ _ | with_reducible refine Kept.prev ?_ | with_reducible refine Kept.alloc' ?_ _ | with_reducible refine Kept.drew' ?_ | with_reducible refine Kept.setB ?_ _ _ _ (by omega) | with_reducible refine Kept.row' ?_ _ _ (by omega) | with_reducible refine Kept.map' ?_ _ _ (by omega))) (AfterU.prop _))))))
    refine wpQuiet_nil ?_
    exact rfl
  simp only [List.drop_succ_cons, List.drop_zero, List.take_zero]
  intro w4 hk4 _
  haveI p_w4 : PrevWorld w4 _ := ⟨hk4⟩
  clear hk4 hat HS HIA
  cases hi : isP t n (a0 x)
  · rw [hi] at HW
    clear HE HP HM
    go_wp2_with fail
    rw [HW.out]
    exact bodyPost_v rfl (res1 Tryz.results25 (resT rfl)) (by repeat (first | with_reducible exact HK.out | with_reducible exact Kept.refl _ _ | with_reducible refine Kept.prev ?_ | with_reducible refine Kept.alloc' ?_ _ | with_reducible refine Kept.drew' ?_ | with_reducible refine Kept.setB ?_ _ _ _ (by omega) | with_reducible refine Kept.row' ?_ _ _ (by omega) | with_reducible refine Kept.map' ?_ _ _ (by omega)))
  rw [hi] at HW
  have hz4 := (show Kept [] w w4 from (by repeat (first | with_reducible exact HK.out | with_reducible exact Kept.refl _ _ | with_reducible refine Kept.prev ?_ | with_reducible refine Kept.alloc' ?_ _ | with_reducible refine Kept.drew' ?_ | with_reducible refine Kept.setB ?_ _ _ _ (by omega) | with_reducible refine Kept.row' ?_ _ _ (by omega) | with_reducible refine Kept.map' ?_ _ _ (by omega)))).size
  have hp0 : 0 < n := by
    cases n with
    | zero => exact HPI.out.elim
    | succ n => omega
  obtain ⟨n, rfl⟩ : ∃ m, n = m + 1 := ⟨n - 1, by omega⟩
  have q3 := HPI.out.2.2.2.2.1
  generalize l0 x = p at *
  have HAG : Hid (attrArg t p = (p.kind == 6 && (p.s.toList == [80, 111, 115] || p.s.toList == [86, 97, 108] || p.s.toList == [83, 117, 99, 99] || p.s.toList == [80, 114, 101, 100]) && decide (p.ls.length = 1) && (markP t (l0 p)).isSome)) := rfl
  clear hpat
  haveI hpat := HAT.out
  go_upto_region 4 with fail
  go_cut [68] (fun v68 wc => v68 = .bool (attrArg t p) ∧ Kept [] w4 wc)
  case first =>
    clear HE HP HW
    by_cases k6 : p.kind = 6
    rotate_left
    · have k62 : (p.kind == 6) = false := by simp [k6]
      clear HM k6
      refine wp_region_head 37 0 (fun _ => .cells #[] 0) (by kernel_rfl) (by kernel_rfl) (fun i o h1 h2 => by omega) (fun _ _ _ _ _ h => h) ?_; apply Exists.intro; refine ⟨fun U hU hN => ?_, ?_⟩; simp only [List.take_succ_cons, List.take_zero]
      · repeat (go_big_quiet_step (fail))
        refine wpQuiet_nil ?_
        exact rfl
      simp only [List.drop_succ_cons, List.drop_zero, List.take_zero]
      intro w7 hk7 _
      have HK7 : Hid (Kept [] w4 w7) := Kept.trans (by repeat (first | with_reducible exact Kept.refl _ _ | with_reducible refine Kept.alloc' ?_ _)) hk7
      go_wp2_with fail
      go_meet
      exact ⟨by rw [HAG.out]; simp [*], HK7.out⟩
    have k62 : (p.kind == 6) = true := by simp [k6]
    clear k6
    cases s1 : (p.s.toList == [80, 111, 115])
    rotate_left
    ·
      by_cases kl : p.ls.length = 1
      rotate_left
      · have kl2 : ((p.ls.length : Int) == 1) = false := by simp; omega
        clear HM
        refine wp_region_head 37 0 (fun _ => .cells #[] 0) (by kernel_rfl) (by kernel_rfl) (fun i o h1 h2 => by omega) (fun _ _ _ _ _ h => h) ?_; apply Exists.intro; refine ⟨fun U hU hN => ?_, ?_⟩; simp only [List.take_succ_cons, List.take_zero]
        · repeat (go_big_quiet_step (fail))
          refine wpQuiet_nil ?_
          exact rfl
        simp only [List.drop_succ_cons, List.drop_zero, List.take_zero]
        intro w7 hk7 _
        have HK7 : Hid (Kept [] w4 w7) := Kept.trans (by repeat (first | with_reducible exact Kept.refl _ _ | with_reducible refine Kept.alloc' ?_ _)) hk7
        go_wp2_with fail
        go_meet
        exact ⟨by rw [HAG.out]; simp [*], HK7.out⟩
      obtain ⟨b1, o1, hla, hlat, _⟩ := ex_first HPI.out (by omega)
      have kl2 : ((p.ls.length : Int) == 1) = true := by simp; omega
      have kl3 : (0 : Int) < (p.ls.length : Int) := by omega
      generalize hq : l0 p = q at *
      have HM2 := Lib.hid (fun w' (hk : Kept [] w w') => HM.out w' q hk)
      clear HM
      generalize (markP t q).isSome = bq at *
      refine wp_region_head 37 0 (fun _ => .cells #[] 0) (by kernel_rfl) (by kernel_rfl) (fun i o h1 h2 => by omega) (fun _ _ _ _ _ h => h) ?_; apply Exists.intro; refine ⟨fun U hU hN => ?_, ?_⟩; simp only [List.take_succ_cons, List.take_zero]
      · repeat (go_big_quiet_step (exact Calls.headV hU (HM2.out _ (Kept.trans (by repeat (first | with_reducible exact HK.out | with_reducible exact Kept.refl _ _ | with_reducible refine Kept.prev ?_ | with_reducible refine Kept.alloc' ?_ _ | with_reducible refine Kept.drew' ?_ | with_reducible refine Kept.setB ?_ _ _ _ (by omega) | with_reducible refine Kept.row' ?_ _ _ (by omega) | with_reducible refine Kept.map' ?_ _ _ (by omega))) (AfterU.prop _)))))
        refine wpQuiet_nil ?_
        exact rfl
      simp only [List.drop_succ_cons, List.drop_zero, List.take_zero]
      intro w7 hk7 _
      have HK7 : Hid (Kept [] w4 w7) := Kept.trans (by repeat (first | with_reducible exact Kept.refl _ _ | with_reducible refine Kept.alloc' ?_ _)) hk7
      go_wp2_with fail
      go_meet
      exact ⟨by rw [HAG.out]; simp [*], HK7.out⟩
    cases s2 : (p.s.toList == [86, 97, 108])
    rotate_left
    ·
      by_cases kl : p.ls.length = 1
      rotate_left
      · have kl2 : ((p.ls.length : Int) == 1) = false := by simp; omega
        clear HM
        refine wp_region_head 37 0 (fun _ => .cells #[] 0) (by kernel_rfl) (by kernel_rfl) (fun i o h1 h2 => by omega) (fun _ _ _ _ _ h => h) ?_; apply Exists.intro; refine ⟨fun U hU hN => ?_, ?_⟩; simp only [List.take_succ_cons, List.take_zero]
        · repeat (go_big_quiet_step (fail))
          refine wpQuiet_nil ?_
          exact rfl
        simp only [List.drop_succ_cons, List.drop_zero, List.take_zero]
        intro w7 hk7 _
        have HK7 : Hid (Kept [] w4 w7) := Kept.trans (by repeat (first | with_reducible exact Kept.refl _ _ | with_reducible refine Kept.alloc' ?_ _)) hk7
        go_wp2_with fail
        go_meet
        exact ⟨by rw [HAG.out]; simp [*], HK7.out⟩
      obtain ⟨b1, o1, hla, hlat, _⟩ := ex_first HPI.out (by omega)
      have kl2 : ((p.ls.length : Int) == 1) = true := by simp; omega
      have kl3 : (0 : Int) < (p.ls.length : Int) := by omega
      generalize hq : l0 p = q at *
      have HM2 := Lib.hid (fun w' (hk : Kept [] w w') => HM.out w' q hk)
      clear HM
      generalize (markP t q).isSome = bq at *
      refine wp_region_head 37 0 (fun _ => .cells #[] 0) (by kernel_rfl) (by kernel_rfl) (fun i o h1 h2 => by omega) (fun _ _ _ _ _ h => h) ?_; apply Exists.intro; refine ⟨fun U hU hN => ?_, ?_⟩; simp only [List.take_succ_cons, List.take_zero]
      · repeat (go_big_quiet_step (exact Calls.headV hU (HM2.out _ (Kept.trans (by repeat (first | with_reducible exact HK.out | with_reducible exact Kept.refl _ _ | with_reducible refine Kept.prev ?_ | with_reducible refine Kept.alloc' ?_ _ | with_reducible refine Kept.drew' ?_ | with_reducible refine Kept.setB ?_ _ _ _ (by omega) | with_reducible refine Kept.row' ?_ _ _ (by omega) | with_reducible refine Kept.map' ?_ _ _ (by omega))) (AfterU.prop _)))))
        refine wpQuiet_nil ?_
        exact rfl
      simp only [List.drop_succ_cons, List.drop_zero, List.take_zero]
      intro w7 hk7 _
      have HK7 : Hid (Kept [] w4 w7) := Kept.trans (by repeat (first | with_reducible exact Kept.refl _ _ | with_reducible refine Kept.alloc' ?_ _)) hk7
      go_wp2_with fail
      go_meet
      exact ⟨by rw [HAG.out]; simp [*], HK7.out⟩
    cases s3 : (p.s.toList == [83, 117, 99, 99])
    rotate_left
    ·
      by_cases kl : p.ls.length = 1
      rotate_left
      · have kl2 : ((p.ls.length : Int) == 1) = false := by simp; omega
        clear HM
        refine wp_region_head 37 0 (fun _ => .cells #[] 0) (by kernel_rfl) (by kernel_rfl) (fun i o h1 h2 => by omega) (fun _ _ _ _ _ h => h) ?_; apply Exists.intro; refine ⟨fun U hU hN => ?_, ?_⟩; simp only [List.take_succ_cons, List.take_zero]
        · repeat (go_big_quiet_step (fail))
          refine wpQuiet_nil ?_
          exact rfl
        simp only [List.drop_succ_cons, List.drop_zero, List.take_zero]
        intro w7 hk7 _
        have HK7 : Hid (Kept [] w4 w7) := Kept.trans (by repeat (first | with_reducible exact Kept.refl _ _ | with_reducible refine Kept.alloc' ?_ _)) hk7
        go_wp2_with fail
        go_meet
        exact ⟨by rw [HAG.out]; simp [*], HK7.out⟩
      obtain ⟨b1, o1, hla, hlat, _⟩ := ex_first HPI.out (by omega)
      have kl2 : ((p.ls.length : Int) == 1) = true := by simp; omega
      have kl3 : (0 : Int) < (p.ls.length : Int) := by omega
      generalize hq : l0 p = q at *
      have HM2 := Lib.hid (fun w' (hk : Kept [] w w') => HM.out w' q hk)
      clear HM
      generalize (markP t q).isSome = bq at *
      refine wp_region_head 37 0 (fun _ => .cells #[] 0) (by kernel_rfl) (by kernel_rfl) (fun i o h1 h2 => by omega) (fun _ _ _ _ _ h => h) ?_; apply Exists.intro; refine ⟨fun U hU hN => ?_, ?_⟩; simp only [List.take_succ_cons, List.take_zero]
      · repeat (go_big_quiet_step (exact Calls.headV hU (HM2.out _ (Kept.trans (by repeat (first | with_reducible exact HK.out | with_reducible exact Kept.refl _ _ | with_reducible refine Kept.prev ?_ | with_reducible refine Kept.alloc' ?_ _ | with_reducible refine Kept.drew' ?_ | with_reducible refine Kept.setB ?_ _ _ _ (by omega) | with_reducible refine Kept.row' ?_ _ _ (by omega) | with_reducible refine Kept.map' ?_ _ _ (by omega))) (AfterU.prop _)))))
        refine wpQuiet_nil ?_
        exact rfl
      simp only [List.drop_succ_cons, List.drop_zero, List.take_zero]
      intro w7 hk7 _
      have HK7 : Hid (Kept [] w4 w7) := Kept.trans (by repeat (first | with_reducible exact Kept.refl _ _ | with_reducible refine Kept.alloc' ?_ _)) hk7
      go_wp2_with fail
      go_meet
      exact ⟨by rw [HAG.out]; simp [*], HK7.out⟩
    cases s4 : (p.s.toList == [80, 114, 101, 100])
    rotate_left
    ·
      by_cases kl : p.ls.length = 1
      rotate_left
      · have kl2 : ((p.ls.length : Int) == 1) = false := by simp; omega
        clear HM
        refine wp_region_head 37 0 (fun _ => .cells #[] 0) (by kernel_rfl) (by kernel_rfl) (fun i o h1 h2 => by omega) (fun _ _ _ _ _ h => h) ?_; apply Exists.intro; refine ⟨fun U hU hN => ?_, ?_⟩; simp only [List.take_succ_cons, List.take_zero]
        · repeat (go_big_quiet_step (fail))
          refine wpQuiet_nil ?_
          exact rfl
        simp only [List.drop_succ_cons, List.drop_zero, List.take_zero]
        intro w7 hk7 _
        have HK7 : Hid (Kept [] w4 w7) := Kept.trans (by repeat (first | with_reducible exact Kept.refl _ _ | with_reducible refine Kept.alloc' ?_ _)) hk7
        go_wp2_with fail
        go_meet
        exact ⟨by rw [HAG.out]; simp [*], HK7.out⟩
      obtain ⟨b1, o1, hla, hlat, _⟩ := ex_first HPI.out (by omega)
      have kl2 : ((p.ls.length : Int) == 1) = true := by simp; omega
      have kl3 : (0 : Int) < (p.ls.length : Int) := by omega
      generalize hq : l0 p = q at *
      have HM2 := Lib.hid (fun w' (hk : Kept [] w w') => HM.out w' q hk)
      clear HM
      generalize (markP t q).isSome = bq at *
      refine wp_region_head 37 0 (fun _ => .cells #[] 0) (by kernel_rfl) (by kernel_rfl) (fun i o h1 h2 => by omega) (fun _ _ _ _ _ h => h) ?_; apply Exists.intro; refine ⟨fun U hU hN => ?_, ?_⟩; simp only [List.take_succ_cons, List.take_zero]
      · repeat (go_big_quiet_step (exact Calls.headV hU (HM2.out _ (Kept.trans (by repeat (first | with_reducible exact HK.out | with_reducible exact Kept.refl _ _ | with_reducible refine Kept.prev ?_ | with_reducible refine Kept.alloc' ?_ _ | with_reducible refine Kept.drew' ?_ | with_reducible refine Kept.setB ?_ _ _ _ (by omega) | with_reducible refine Kept.row' ?_ _ _ (by omega) | with_reducible refine Kept.map' ?_ _ _ (by omega))) (AfterU.prop _)))))
        refine wpQuiet_nil ?_
        exact rfl
      simp only [List.drop_succ_cons, List.drop_zero, List.take_zero]
      intro w7 hk7 _
      have HK7 : Hid (Kept [] w4 w7) := Kept.trans (by repeat (first | with_reducible exact Kept.refl _ _ | with_reducible refine Kept.alloc' ?_ _)) hk7
      go_wp2_with fail
      go_meet
      exact ⟨by rw [HAG.out]; simp [*], HK7.out⟩
    clear HM
    refine wp_region_head 37 0 (fun _ => .cells #[] 0) (by kernel_rfl) (by kernel_rfl) (fun i o h1 h2 => by omega) (fun _ _ _ _ _ h => h) ?_; apply Exists.intro; refine ⟨fun U hU hN => ?_, ?_⟩; simp only [List.take_succ_cons, List.take_zero]
    · repeat (go_big_quiet_step (fail))
      refine wpQuiet_nil ?_
      exact rfl
    simp only [List.drop_succ_cons, List.drop_zero, List.take_zero]
    intro w7 hk7 _
    have HK7 : Hid (Kept [] w4 w7) := Kept.trans (by repeat (first | with_reducible exact Kept.refl _ _ | with_reducible refine Kept.alloc' ?_ _)) hk7
    go_wp2_with fail
    go_meet
    exact ⟨by rw [HAG.out]; simp [*], HK7.out⟩
  obtain ⟨rfl, hkc⟩ := hcut
  obtain ⟨w5, rfl⟩ : ∃ w5 : World, w5 = wc := ⟨_, rfl⟩
  haveI p_w5 : PrevWorld w5 w4 := ⟨hkc⟩
  clear HAG hkc HM
  cases hg : attrArg t p
  rotate_left
  · rw [hg] at HW
    clear HE HP
    go_wp2_with fail
    rw [HW.out]
    exact bodyPost_v rfl (res1 Tryz.results25 (resT rfl)) (by repeat (first | with_reducible exact HK.out | with_reducible exact Kept.refl _ _ | with_reducible refine Kept.prev ?_ | with_reducible refine Kept.alloc' ?_ _ | with_reducible refine Kept.drew' ?_ | with_reducible refine Kept.setB ?_ _ _ _ (by omega) | with_reducible refine Kept.row' ?_ _ _ (by omega) | with_reducible refine Kept.map' ?_ _ _ (by omega)))
  rw [hg] at HW
  have HV2 : Hid (typedP (entP t x.ent) = ((entP t x.ent).kind == 5 || (entP t x.ent).kind == 6)) := rfl
  have HZE := Lib.hid (fun h => ent_zero (t := t) (e := x.ent) h)
  unfold entV2 entA at HE
  generalize entP t x.ent = y at *
  go_wp2_with fail
  refine (HE.out _ (by repeat (first | with_reducible exact HK.out | with_reducible exact Kept.refl _ _ | with_reducible refine Kept.prev ?_ | with_reducible refine Kept.alloc' ?_ _ | with_reducible refine Kept.drew' ?_ | with_reducible refine Kept.setB ?_ _ _ _ (by omega) | with_reducible refine Kept.row' ?_ _ _ (by omega) | with_reducible refine Kept.map' ?_ _ _ (by omega)))).mono ?_; rintro e w6 ⟨rfl, hk_w6⟩; haveI p_w6 : PrevWorld w6 _ := ⟨hk_w6⟩; have hz_w6 : w.heap.size ≤ w6.heap.size := Kept.size (by repeat (first | with_reducible exact HK.out | with_reducible exact Kept.refl _ _ | with_reducible refine Kept.prev ?_ | with_reducible refine Kept.alloc' ?_ _ | with_reducible refine Kept.drew' ?_ | with_reducible refine Kept.setB ?_ _ _ _ (by omega) | with_reducible refine Kept.row' ?_ _ _ (by omega) | with_reducible refine Kept.map' ?_ _ _ (by omega))); clear hk_w6
  clear HE
  cases hen : entIn t x.ent
  · have HW2 := HW
    clear HW
    have HW : Hid (callF (isP t (n + 1)) t x = false) := by
      rw [Hid, HW2.out, HZE.out hen]
      simp [zeroE, typedP]
    clear HW2 hen HP HZE HV2
    go_wp2_with fail
    rw [HW.out]
    exact bodyPost_v rfl (res1 Tryz.results25 (resT rfl)) (by repeat (first | with_reducible exact HK.out | with_reducible exact Kept.refl _ _ | with_reducible refine Kept.prev ?_ | with_reducible refine Kept.alloc' ?_ _ | with_reducible refine Kept.drew' ?_ | with_reducible refine Kept.setB ?_ _ _ _ (by omega) | with_reducible refine Kept.row' ?_ _ _ (by omega) | with_reducible refine Kept.map' ?_ _ _ (by omega)))
  clear hen HZE
  by_cases t5 : y.kind = 5
  · rw [HV2.out] at HW
    have t5b : (y.kind == 5) = true := by simp [t5]
    rw [t5b] at HW
    go_wp2_with fail
    refine (HP.out _ _ (by repeat (first | with_reducible exact HK.out | with_reducible exact Kept.refl _ _ | with_reducible refine Kept.prev ?_ | with_reducible refine Kept.alloc' ?_ _ | with_reducible refine Kept.drew' ?_ | with_reducible refine Kept.setB ?_ _ _ _ (by omega) | with_reducible refine Kept.row' ?_ _ _ (by omega) | with_reducible refine Kept.map' ?_ _ _ (by omega)))).mono ?_; rintro e w7 ⟨rfl, hk_w7⟩; haveI p_w7 : PrevWorld w7 _ := ⟨hk_w7⟩; have hz_w7 : w.heap.size ≤ w7.heap.size := Kept.size (by repeat (first | with_reducible exact HK.out | with_reducible exact Kept.refl _ _ | with_reducible refine Kept.prev ?_ | with_reducible refine Kept.alloc' ?_ _ | with_reducible refine Kept.drew' ?_ | with_reducible refine Kept.setB ?_ _ _ _ (by omega) | with_reducible refine Kept.row' ?_ _ _ (by omega) | with_reducible refine Kept.map' ?_ _ _ (by omega))); clear hk_w7
    go_wp2_with fail
    rw [HW.out]
    exact bodyPost_v rfl (res1 Tryz.results25 (resT rfl)) (by repeat (first | with_reducible exact HK.out | with_reducible exact Kept.refl _ _ | with_reducible refine Kept.prev ?_ | with_reducible refine Kept.alloc' ?_ _ | with_reducible refine Kept.drew' ?_ | with_reducible refine Kept.setB ?_ _ _ _ (by omega) | with_reducible refine Kept.row' ?_ _ _ (by omega) | with_reducible refine Kept.map' ?_ _ _ (by omega)))
  have f5 : (y.kind == 5) = false := by simp [t5]
  by_cases t6 : y.kind = 6
  · rw [HV2.out] at HW
    have t6b : (y.kind == 6) = true := by simp [t6]
    rw [f5, t6b] at HW
    go_wp2_with fail
    refine (HP.out _ _ (by repeat (first | with_reducible exact HK.out | with_reducible exact Kept.refl _ _ | with_reducible refine Kept.prev ?_ | with_reducible refine Kept.alloc' ?_ _ | with_reducible refine Kept.drew' ?_ | with_reducible refine Kept.setB ?_ _ _ _ (by omega) | with_reducible refine Kept.row' ?_ _ _ (by omega) | with_reducible refine Kept.map' ?_ _ _ (by omega)))).mono ?_; rintro e w7 ⟨rfl, hk_w7⟩; haveI p_w7 : PrevWorld w7 _ := ⟨hk_w7⟩; have hz_w7 : w.heap.size ≤ w7.heap.size := Kept.size (by repeat (first | with_reducible exact HK.out | with_reducible exact Kept.refl _ _ | with_reducible refine Kept.prev ?_ | with_reducible refine Kept.alloc' ?_ _ | with_reducible refine Kept.drew' ?_ | with_reducible refine Kept.setB ?_ _ _ _ (by omega) | with_reducible refine Kept.row' ?_ _ _ (by omega) | with_reducible refine Kept.map' ?_ _ _ (by omega))); clear hk_w7
    go_wp2_with fail
    rw [HW.out]
    exact bodyPost_v rfl (res1 Tryz.results25 (resT rfl)) (by repeat (first | with_reducible exact HK.out | with_reducible exact Kept.refl _ _ | with_reducible refine Kept.prev ?_ | with_reducible refine Kept.alloc' ?_ _ | with_reducible refine Kept.drew' ?_ | with_reducible refine Kept.setB ?_ _ _ _ (by omega) | with_reducible refine Kept.row' ?_ _ _ (by omega) | with_reducible refine Kept.map' ?_ _ _ (by omega)))
  have f6 : (y.kind == 6) = false := by simp [t6]
  rw [HV2.out, f5, f6] at HW
  clear t5 t6
  go_wp2_with fail
  rw [HW.out]
  exact bodyPost_v rfl (res1 Tryz.results25 (resT rfl)) (by repeat (first | with_reducible exact HK.out | with_reducible exact Kept.refl _ _ | with_reducible refine Kept.prev ?_ | with_reducible refine Kept.alloc' ?_ _ | with_reducible refine Kept.drew' ?_ | with_reducible refine Kept.setB ?_ _ _ _ (by omega) | with_reducible refine Kept.row' ?_ _ _ (by omega) | with_reducible refine Kept.map' ?_ _ _ (by omega)))
end Go.Proofs.YtgdjhhfbpalkdaaGreat
