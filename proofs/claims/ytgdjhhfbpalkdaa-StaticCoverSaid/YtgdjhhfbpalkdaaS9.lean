/- call. -/
import Derived.Test.YtgdjhhfbpalkdaaS7
namespace Go.Proofs.Ytgdjhhfbpalkdaa
open Go.RowKit

theorem argued_ok {t : Tab} {x : ExV} (h : x.ls.length = 1) : (arguedX t x).2.2 = (arguedP t x).isSome := by
  unfold arguedX arguedP
  obtain ⟨p, hp⟩ : ∃ p, x.ls = [p] := by
    cases hx : x.ls with
    | nil => rw [hx] at h; cases h
    | cons p l => cases l with
      | nil => exact ⟨p, rfl⟩
      | cons _ _ => rw [hx] at h; simp at h
  have e : l0 x = p := by simp [l0, hp]
  rw [e, hp]
  simp only [shX_shift]
  cases hs : (shX p.s).2
  · simp
  · simp only [if_true]
    by_cases hk : p.kind = 6
    · simp only [hk, if_true, true_and]
      cases hl : p.ls with
      | nil => simp
      | cons q l => cases l with
        | nil =>
          have e2 : l0 p = q := by simp [l0, hl]
          simp only [e2, List.length_cons, List.length_nil, if_true]
          rw [markX_ok]
          cases markP t q <;> rfl
        | cons _ _ => simp
    · simp [hk]
theorem argued_is {t : Tab} {x : ExV} {s : Int × Bool} {a : Bd} (h : x.ls.length = 1) (ha : arguedP t x = some (s, a)) : arguedX t x = (s, a, true) := by
  unfold arguedX
  unfold arguedP at ha
  obtain ⟨p, hp⟩ : ∃ p, x.ls = [p] := by
    cases hx : x.ls with
    | nil => rw [hx] at h; cases h
    | cons p l => cases l with
      | nil => exact ⟨p, rfl⟩
      | cons _ _ => rw [hx] at h; simp at h
  have e : l0 x = p := by simp [l0, hp]
  rw [e]
  rw [hp] at ha
  simp only [shX_shift] at ha
  cases hs : (shX p.s).2
  · rw [hs] at ha; simp at ha
  · simp only [hs, if_true] at ha
    by_cases hk : p.kind = 6
    · simp only [hk, if_true] at ha
      cases hl : p.ls with
      | nil => simp [hl] at ha
      | cons q l => cases l with
        | nil =>
          have e2 : l0 p = q := by simp [l0, hl]
          simp only [hl] at ha
          rw [e2, if_pos ⟨hk, rfl, by simp⟩]
          cases hm : markP t q with
          | none => rw [hm] at ha; cases ha
          | some r =>
            obtain ⟨b, a'⟩ := r
            rw [hm] at ha
            simp only [Option.some.injEq, Prod.mk.injEq] at ha
            rw [markX_some hm, ha.1, ha.2]
        | cons _ _ => simp [hl] at ha
    · simp [hk] at ha
theorem call_no1 {I : ExV → Bool} {t : Tab} {x : ExV} (h : x.ls.length ≠ 1) : callF I t x = false := by
  unfold callF
  split
  · rename_i h1 _; rw [h1] at h; simp at h
  · rfl
theorem call_no2 {I : ExV → Bool} {t : Tab} {x : ExV} (h : x.al.length ≠ 1) : callF I t x = false := by
  unfold callF
  split
  · rename_i _ h1; rw [h1] at h; simp at h
  · rfl
theorem call_yes {I : ExV → Bool} {t : Tab} {x : ExV} (h1 : x.ls.length = 1) (h2 : x.al.length = 1) : callF I t x = (I (a0 x) && ((arguedX t x).2.2 || typedP (entP t x.ent) && (plainX t (entP t x.ent).sub).2.2)) := by
  rw [argued_ok h1, plainX_ok]
  unfold callF
  split
  · rename_i q a hq ha
    have : a0 x = a.2.2.2 := by simp [a0, ha]
    rw [this]
  · rename_i hno
    exfalso
    cases hx : x.ls with
    | nil => rw [hx] at h1; cases h1
    | cons p l => cases l with
      | cons _ _ => rw [hx] at h1; simp at h1
      | nil => cases hy : x.al with
        | nil => rw [hy] at h2; cases h2
        | cons a l => cases l with
          | nil => exact hno _ _ hx hy
          | cons _ _ => rw [hy] at h2; simp at h2

/-- What is tells of expressions to a depth. -/
def IsAt (v : TabV) (t : Tab) (n : Nat) : Prop := ∀ w x, TabIn w v t → ExIn w n x → Calls Try.prog 26 #[.agg (v.cells t), .agg x.cells.toArray] w (RetV (.bool (isP t n x)) w)

set_option maxRecDepth 100000 in
set_option maxHeartbeats 4000000 in
theorem call_any (w : World) (v : TabV) (t : Tab) (x : ExV) (n : Nat) (ih : IsAt v t n) (hT : TabIn w v t) (hx : ExIn w (n + 1) x) : Calls Try.prog 41 #[.agg (v.cells t), .agg x.cells.toArray] w (RetV (.bool (callF (isP t n) t x)) w) := by
  have HE := Lib.hid (fun w' (hk : Kept [] w w') => entity_any w' v t x (hT.kept hk))
  have HP := Lib.hid (fun w' m (hk : Kept [] w w') => plain_any w' v t m (hT.kept hk))
  have HG := Lib.hid (fun w' (hk : Kept [] w w') hl => argued_any w' v t x n (hT.kept hk) (hx.kept hk) hl)
  have HS := Lib.hid (fun w' (hk : Kept [] w w') y hy => ih w' y (hT.kept hk) hy)
  have HX := Lib.hid hx
  have q1 := hx.2.2.2.2.1
  have q2 := hx.2.2.2.2.2.1
  have HN1 := Lib.hid (fun h => call_no1 (I := isP t n) (t := t) (x := x) h)
  have HN2 := Lib.hid (fun h => call_no2 (I := isP t n) (t := t) (x := x) h)
  have HY := Lib.hid (fun h1 h2 => call_yes (I := isP t n) (t := t) (x := x) h1 h2)
  unfold TabV.cells at HE HP HG HS
  unfold TabV.cells
  clear hT hx ih
  by_cases k1 : x.ls.length = 1
  rotate_left
  · have HW := Lib.hid (HN1.out k1)
    have k12 : ((x.ls.length : Int) != 1) = true := by simp; omega
    clear HE HP HG HS HX HN1 HN2 HY k1
    go_enter Try.func41, Try.ntmps41
    go_wp2_with fail
    refine wp_region_head 20 0 (fun _ => .cells #[] 0) (by kernel_rfl) (by kernel_rfl) (fun i o h1 h2 => by omega) (fun _ _ _ _ _ h => h) ?_; apply Exists.intro; refine ⟨fun U hU hN => ?_, ?_⟩; simp only [List.take_succ_cons, List.take_zero]
    · repeat (go_big_quiet_step (fail))
      refine wpQuiet_nil ?_
      exact rfl
    simp only [List.drop_succ_cons, List.drop_zero, List.take_succ_cons, List.take_zero]
    intro w4 hk4 _
    haveI p_w4 : PrevWorld w4 _ := ⟨hk4⟩
    go_wp2_with fail
    rw [HW.out]
    exact bodyPost_v rfl (res1 Try.results41 (resT rfl)) (by repeat (first | with_reducible exact HK.out | with_reducible exact Kept.refl _ _ | with_reducible refine Kept.prev ?_ | with_reducible refine Kept.alloc' ?_ _ | with_reducible refine Kept.drew' ?_ | with_reducible refine Kept.setB ?_ _ _ _ (by omega) | with_reducible refine Kept.row' ?_ _ _ (by omega) | with_reducible refine Kept.map' ?_ _ _ (by omega)))
  have k12 : ((x.ls.length : Int) != 1) = false := by simp; omega
  by_cases k2 : x.al.length = 1
  rotate_left
  · have HW := Lib.hid (HN2.out k2)
    have k22 : ((x.al.length : Int) != 1) = true := by simp; omega
    clear HE HP HG HS HX HN1 HN2 HY k1 k2
    go_enter Try.func41, Try.ntmps41
    go_wp2_with fail
    refine wp_region_head 20 0 (fun _ => .cells #[] 0) (by kernel_rfl) (by kernel_rfl) (fun i o h1 h2 => by omega) (fun _ _ _ _ _ h => h) ?_; apply Exists.intro; refine ⟨fun U hU hN => ?_, ?_⟩; simp only [List.take_succ_cons, List.take_zero]
    · repeat (go_big_quiet_step (fail))
      refine wpQuiet_nil ?_
      exact rfl
    simp only [List.drop_succ_cons, List.drop_zero, List.take_succ_cons, List.take_zero]
    intro w4 hk4 _
    haveI p_w4 : PrevWorld w4 _ := ⟨hk4⟩
    go_wp2_with fail
    rw [HW.out]
    exact bodyPost_v rfl (res1 Try.results41 (resT rfl)) (by repeat (first | with_reducible exact HK.out | with_reducible exact Kept.refl _ _ | with_reducible refine Kept.prev ?_ | with_reducible refine Kept.alloc' ?_ _ | with_reducible refine Kept.drew' ?_ | with_reducible refine Kept.setB ?_ _ _ _ (by omega) | with_reducible refine Kept.row' ?_ _ _ (by omega) | with_reducible refine Kept.map' ?_ _ _ (by omega)))
  have k22 : ((x.al.length : Int) != 1) = false := by simp; omega
  have HW := Lib.hid (HY.out k1 k2)
  obtain ⟨b0, o0, ha, hat, hia⟩ := as_at HX.out (by omega)
  have HIA := Lib.hid hia
  have HG2 := Lib.hid (fun w' hk => HG.out w' hk (by omega))
  have l2 : (0 : Int) < (x.al.length : Int) := by omega
  clear HN1 HN2 HY HX HG k1 k2 hia
  go_enter Try.func41, Try.ntmps41
  go_wp2_with fail
  refine wp_region_head 20 0 (fun _ => .cells #[] 0) (by kernel_rfl) (by kernel_rfl) (fun i o h1 h2 => by omega) (fun _ _ _ _ _ h => h) ?_; apply Exists.intro; refine ⟨fun U hU hN => ?_, ?_⟩; simp only [List.take_succ_cons, List.take_zero]
  · repeat (go_big_quiet_step (exact Calls.headV hU (HS.out _ (Kept.trans (by repeat (first | with_reducible exact HK.out | with_reducible exact Kept.refl _ _ | with_reducible refine Kept.prev ?_ | with_reducible refine Kept.alloc' ?_ _ | with_reducible refine Kept.drew' ?_ | with_reducible refine Kept.setB ?_ _ _ _ (by omega) | with_reducible refine Kept.row' ?_ _ _ (by omega) | with_reducible refine Kept.map' ?_ _ _ (by omega))) (AfterU.prop _)) _ (HIA.out.kept (Kept.trans (by repeat (first | with_reducible exact HK.out | with_reducible exact Kept.refl _ _ | with_reducible refine Kept.prev ?_ | with_reducible refine Kept.alloc' ?_ _ | with_reducible refine Kept.drew' ?_ | with_reducible refine Kept.setB ?_ _ _ _ (by omega) | with_reducible refine Kept.row' ?_ _ _ (by omega) | with_reducible refine Kept.map' ?_ _ _ (by omega))) (AfterU.prop _))))))
    refine wpQuiet_nil ?_
    exact rfl
  simp only [List.drop_succ_cons, List.drop_zero, List.take_succ_cons, List.take_zero]
  intro w4 hk4 _
  haveI p_w4 : PrevWorld w4 _ := ⟨hk4⟩
  clear hk4 hat HS HIA
  cases hi : isP t n (a0 x)
  · rw [hi] at HW
    clear HE HP HG2
    go_wp2_with fail
    rw [HW.out]
    exact bodyPost_v rfl (res1 Try.results41 (resT rfl)) (by repeat (first | with_reducible exact HK.out | with_reducible exact Kept.refl _ _ | with_reducible refine Kept.prev ?_ | with_reducible refine Kept.alloc' ?_ _ | with_reducible refine Kept.drew' ?_ | with_reducible refine Kept.setB ?_ _ _ _ (by omega) | with_reducible refine Kept.row' ?_ _ _ (by omega) | with_reducible refine Kept.map' ?_ _ _ (by omega)))
  rw [hi] at HW
  unfold avV at HG2
  go_wp2_with fail
  refine (HG2.out _ (by repeat (first | with_reducible exact HK.out | with_reducible exact Kept.refl _ _ | with_reducible refine Kept.prev ?_ | with_reducible refine Kept.alloc' ?_ _ | with_reducible refine Kept.drew' ?_ | with_reducible refine Kept.setB ?_ _ _ _ (by omega) | with_reducible refine Kept.row' ?_ _ _ (by omega) | with_reducible refine Kept.map' ?_ _ _ (by omega)))).mono ?_; rintro e w5 ⟨rfl, hk_w5⟩; haveI p_w5 : PrevWorld w5 _ := ⟨hk_w5⟩; have hz_w5 : w.heap.size ≤ w5.heap.size := Kept.size (by repeat (first | with_reducible exact HK.out | with_reducible exact Kept.refl _ _ | with_reducible refine Kept.prev ?_ | with_reducible refine Kept.alloc' ?_ _ | with_reducible refine Kept.drew' ?_ | with_reducible refine Kept.setB ?_ _ _ _ (by omega) | with_reducible refine Kept.row' ?_ _ _ (by omega) | with_reducible refine Kept.map' ?_ _ _ (by omega))); clear hk_w5
  cases hg : (arguedX t x).2.2
  rotate_left
  · rw [hg] at HW
    clear HE HP HG2
    go_wp2_with fail
    rw [HW.out]
    exact bodyPost_v rfl (res1 Try.results41 (resT rfl)) (by repeat (first | with_reducible exact HK.out | with_reducible exact Kept.refl _ _ | with_reducible refine Kept.prev ?_ | with_reducible refine Kept.alloc' ?_ _ | with_reducible refine Kept.drew' ?_ | with_reducible refine Kept.setB ?_ _ _ _ (by omega) | with_reducible refine Kept.row' ?_ _ _ (by omega) | with_reducible refine Kept.map' ?_ _ _ (by omega)))
  rw [hg] at HW
  clear HG2
  unfold entA at HE
  go_wp2_with fail
  refine (HE.out _ (by repeat (first | with_reducible exact HK.out | with_reducible exact Kept.refl _ _ | with_reducible refine Kept.prev ?_ | with_reducible refine Kept.alloc' ?_ _ | with_reducible refine Kept.drew' ?_ | with_reducible refine Kept.setB ?_ _ _ _ (by omega) | with_reducible refine Kept.row' ?_ _ _ (by omega) | with_reducible refine Kept.map' ?_ _ _ (by omega)))).mono ?_; rintro e w6 ⟨rfl, hk_w6⟩; haveI p_w6 : PrevWorld w6 _ := ⟨hk_w6⟩; have hz_w6 : w.heap.size ≤ w6.heap.size := Kept.size (by repeat (first | with_reducible exact HK.out | with_reducible exact Kept.refl _ _ | with_reducible refine Kept.prev ?_ | with_reducible refine Kept.alloc' ?_ _ | with_reducible refine Kept.drew' ?_ | with_reducible refine Kept.setB ?_ _ _ _ (by omega) | with_reducible refine Kept.row' ?_ _ _ (by omega) | with_reducible refine Kept.map' ?_ _ _ (by omega))); clear hk_w6
  clear HE
  generalize entP t x.ent = y at *
  unfold pvV at HP
  go_wp2_with fail
  refine (HP.out _ _ (by repeat (first | with_reducible exact HK.out | with_reducible exact Kept.refl _ _ | with_reducible refine Kept.prev ?_ | with_reducible refine Kept.alloc' ?_ _ | with_reducible refine Kept.drew' ?_ | with_reducible refine Kept.setB ?_ _ _ _ (by omega) | with_reducible refine Kept.row' ?_ _ _ (by omega) | with_reducible refine Kept.map' ?_ _ _ (by omega)))).mono ?_; rintro e w7 ⟨rfl, hk_w7⟩; haveI p_w7 : PrevWorld w7 _ := ⟨hk_w7⟩; have hz_w7 : w.heap.size ≤ w7.heap.size := Kept.size (by repeat (first | with_reducible exact HK.out | with_reducible exact Kept.refl _ _ | with_reducible refine Kept.prev ?_ | with_reducible refine Kept.alloc' ?_ _ | with_reducible refine Kept.drew' ?_ | with_reducible refine Kept.setB ?_ _ _ _ (by omega) | with_reducible refine Kept.row' ?_ _ _ (by omega) | with_reducible refine Kept.map' ?_ _ _ (by omega))); clear hk_w7
  clear HP
  go_wp2_with fail
  refine (typed_any _ _).mono ?_; rintro e w8 ⟨rfl, hk_w8⟩; haveI p_w8 : PrevWorld w8 _ := ⟨hk_w8⟩; have hz_w8 : w.heap.size ≤ w8.heap.size := Kept.size (by repeat (first | with_reducible exact HK.out | with_reducible exact Kept.refl _ _ | with_reducible refine Kept.prev ?_ | with_reducible refine Kept.alloc' ?_ _ | with_reducible refine Kept.drew' ?_ | with_reducible refine Kept.setB ?_ _ _ _ (by omega) | with_reducible refine Kept.row' ?_ _ _ (by omega) | with_reducible refine Kept.map' ?_ _ _ (by omega))); clear hk_w8
  cases hy : typedP y
  · rw [hy] at HW
    go_wp2_with fail
    rw [HW.out]
    exact bodyPost_v rfl (res1 Try.results41 (resT rfl)) (by repeat (first | with_reducible exact HK.out | with_reducible exact Kept.refl _ _ | with_reducible refine Kept.prev ?_ | with_reducible refine Kept.alloc' ?_ _ | with_reducible refine Kept.drew' ?_ | with_reducible refine Kept.setB ?_ _ _ _ (by omega) | with_reducible refine Kept.row' ?_ _ _ (by omega) | with_reducible refine Kept.map' ?_ _ _ (by omega)))
  · rw [hy] at HW
    go_wp2_with fail
    rw [HW.out]
    exact bodyPost_v rfl (res1 Try.results41 (resT rfl)) (by repeat (first | with_reducible exact HK.out | with_reducible exact Kept.refl _ _ | with_reducible refine Kept.prev ?_ | with_reducible refine Kept.alloc' ?_ _ | with_reducible refine Kept.drew' ?_ | with_reducible refine Kept.setB ?_ _ _ _ (by omega) | with_reducible refine Kept.row' ?_ _ _ (by omega) | with_reducible refine Kept.map' ?_ _ _ (by omega)))
end Go.Proofs.Ytgdjhhfbpalkdaa
