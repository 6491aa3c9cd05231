/- attribute. is. is, by the kind of the expression. -/
import Derived.Test.YtgdjhhfbpalkdaaGreatS6
import Derived.Test.YtgdjhhfbpalkdaaGreatS9
import Derived.Test.YtgdjhhfbpalkdaaGreatV2
namespace Go.Proofs.YtgdjhhfbpalkdaaGreat
open Go.RowKit

def attrX (t : Tab) (x : ExV) : Bd × Bool :=
  if x.ls.length = 1 then
    if (indexX t (l0 x)).2 then ((indexX t (l0 x)).1, x.s.toList == [70, 105, 114, 115, 116] || x.s.toList == [76, 97, 115, 116] || x.s.toList == [76, 101, 110, 103, 116, 104])
    else ((markX t (l0 x)).1, (markX t (l0 x)).2.2 && (x.s.toList == [70, 105, 114, 115, 116] || x.s.toList == [76, 97, 115, 116]))
  else ((0, 0), false)
theorem attr_no {t : Tab} {x : ExV} (h : x.ls.length ≠ 1) : attrX t x = ((0, 0), false) := by unfold attrX; rw [if_neg h]
theorem attr_ix {t : Tab} {x : ExV} (h : x.ls.length = 1) (hi : (indexX t (l0 x)).2 = true) : attrX t x = ((indexX t (l0 x)).1, x.s.toList == [70, 105, 114, 115, 116] || x.s.toList == [76, 97, 115, 116] || x.s.toList == [76, 101, 110, 103, 116, 104]) := by unfold attrX; rw [if_pos h, if_pos hi]
theorem attr_mk {t : Tab} {x : ExV} (h : x.ls.length = 1) (hi : (indexX t (l0 x)).2 = false) : attrX t x = ((markX t (l0 x)).1, (markX t (l0 x)).2.2 && (x.s.toList == [70, 105, 114, 115, 116] || x.s.toList == [76, 97, 115, 116])) := by unfold attrX; rw [if_pos h, if_neg (by rw [hi]; simp)]

set_option maxRecDepth 100000 in
set_option maxHeartbeats 4000000 in
theorem attribute_any (w : World) (v : TabV) (t : Tab) (x : ExV) (n : Nat) (hT : TabIn w v t) (hx : ExIn w (n + 1) x) : Calls Tryz.prog 52 #[.agg (v.cells t), .agg x.cells.toArray] w (RetV (bvV (attrX t x)) w) := by
  have HI := Lib.hid (fun w' m (hk : Kept [] w w') => index_any w' v t m (hT.kept hk))
  have HP := Lib.hid (fun w' m (hk : Kept [] w w') => mark_any w' v t m (hT.kept hk))
  have HX := Lib.hid hx
  have q1 := hx.2.2.2.2.1
  have HNO := Lib.hid (fun h => attr_no (t := t) (x := x) h)
  have HIX := Lib.hid (fun h1 h2 => attr_ix (t := t) (x := x) h1 h2)
  have HMK := Lib.hid (fun h1 h2 => attr_mk (t := t) (x := x) h1 h2)
  unfold TabV.cells at HP HI
  unfold TabV.cells
  clear hT hx
  by_cases kl : x.ls.length = 1
  rotate_left
  · have HW : Hid (attrX t x = ((0, 0), false)) := HNO.out kl
    have kl2 : ((x.ls.length : Int) != 1) = true := by simp; omega
    clear HNO HIX HMK HP HI HX kl
    go_enter Tryz.func52, Tryz.ntmps52
    go_wp2_with fail
    rw [HW.out]
    exact bodyPost_v rfl (res2 Tryz.results52 (resC rfl inferInstance) (resT rfl)) (by repeat (first | with_reducible exact HK.out | with_reducible exact Kept.refl _ _ | with_reducible refine Kept.prev ?_ | with_reducible refine Kept.alloc' ?_ _ | with_reducible refine Kept.drew' ?_ | with_reducible refine Kept.setB ?_ _ _ _ (by omega) | with_reducible refine Kept.row' ?_ _ _ (by omega) | with_reducible refine Kept.map' ?_ _ _ (by omega)))
  obtain ⟨b0, o0, ha, hat, _⟩ := ex_first HX.out (by omega : 0 < x.ls.length)
  have kl2 : ((x.ls.length : Int) != 1) = false := by simp; omega
  have hl2 : (0 : Int) < (x.ls.length : Int) := by omega
  have HIX2 := Lib.hid (fun h => HIX.out kl h)
  have HMK2 := Lib.hid (fun h => HMK.out kl h)
  generalize l0 x = p at *
  clear HNO HIX HMK HX kl
  unfold bvV at HI
  go_enter Tryz.func52, Tryz.ntmps52
  go_wp2_with fail
  refine wp_region_head 9 1 (fun _ => .cells #[.int .i64 0, .int .i64 0] 43) (by kernel_rfl) (by kernel_rfl) (fun i o h1 h2 h3 => by obtain rfl : i = 9 := (by omega); all_goals (obtain rfl := Option.some.inj h3; exact alc_of rfl rfl Tryz.zeroBd)) (fun _ _ _ _ _ h => h) ?_; apply Exists.intro; refine ⟨fun U hU hN => ?_, ?_⟩; simp only [List.take_succ_cons, List.take_zero]
  · repeat (go_big_quiet_step (exact Calls.headV hU (HI.out _ _ (Kept.trans (by repeat (first | with_reducible exact HK.out | with_reducible exact Kept.refl _ _ | with_reducible refine Kept.prev ?_ | with_reducible refine Kept.alloc' ?_ _ | with_reducible refine Kept.drew' ?_ | with_reducible refine Kept.setB ?_ _ _ _ (by omega) | with_reducible refine Kept.row' ?_ _ _ (by omega) | with_reducible refine Kept.map' ?_ _ _ (by omega))) (AfterU.prop _)))))
    refine wpQuiet_nil ?_
    exact rfl
  simp only [List.drop_succ_cons, List.drop_zero, List.take_succ_cons, List.take_zero]
  intro B1 hB1 _ w4 hk4 hh
  haveI p_w4 : PrevWorld w4 _ := ⟨hk4⟩
  haveI bx1 : BoxIs w4 B1 43 #[.int .i64 0, .int .i64 0] := box_of hh (by simp)
  haveI g1 : BornAfter B1 _ := ⟨hB1⟩
  have hz1 : w.heap.size ≤ B1 := Nat.le_trans (Kept.size (X := []) (by repeat (first | with_reducible exact HK.out | with_reducible exact Kept.refl _ _ | with_reducible refine Kept.prev ?_ | with_reducible refine Kept.alloc' ?_ _ | with_reducible refine Kept.drew' ?_ | with_reducible refine Kept.setB ?_ _ _ _ (by omega) | with_reducible refine Kept.row' ?_ _ _ (by omega) | with_reducible refine Kept.map' ?_ _ _ (by omega)))) hB1
  clear hk4 hh HI
  cases hi : (indexX t p).2
  · have HW := Lib.hid (HMK2.out hi)
    clear HMK2 HIX2
    unfold pvV at HP
    go_wp2_with fail
    refine wp_gen' ?_
    intro w6 hw6
    haveI p_w6 : PrevWorld w6 _ := ⟨by rw [hw6]; exact Kept.setB (Kept.setB p_w4.kept _ _ _ hB1) _ _ _ hB1⟩
    haveI by1 : BoxIs w6 B1 _ _ := by rw [hw6]; infer_instance
    clear hw6 p_w4 bx1 hB1
    refine wp_region_head 10 2 (fun _ => .cells #[.int .i64 0, .int .i64 0] 43) (by kernel_rfl) (by kernel_rfl) (fun i o h1 h2 h3 => by obtain rfl | rfl : i = 10 ∨ i = 11 := (by omega); all_goals (obtain rfl := Option.some.inj h3; exact alc_of rfl rfl Tryz.zeroBd)) (fun _ _ _ _ _ h => h) ?_; apply Exists.intro; refine ⟨fun U hU hN => ?_, ?_⟩; simp only [List.take_succ_cons, List.take_zero]
    · repeat (go_big_quiet_step (exact Calls.headV hU (HP.out _ _ (Kept.trans (by repeat (first | with_reducible exact HK.out | with_reducible exact Kept.refl _ _ | with_reducible refine Kept.prev ?_ | with_reducible refine Kept.alloc' ?_ _ | with_reducible refine Kept.drew' ?_ | with_reducible refine Kept.setB ?_ _ _ _ (by omega) | with_reducible refine Kept.row' ?_ _ _ (by omega) | with_reducible refine Kept.map' ?_ _ _ (by omega))) (AfterU.prop _)))))
      refine wpQuiet_nil ?_
      exact rfl
    simp only [List.drop_succ_cons, List.drop_zero, List.take_succ_cons, List.take_zero]
    intro B2 hB2 _ B3 hB3 hne w5 hk5 hh
    haveI p_w5 : PrevWorld w5 _ := ⟨hk5⟩
    haveI bx2 : BoxIs w5 B2 43 #[.int .i64 0, .int .i64 0] := box_of hh (by simp)
    haveI bx3 : BoxIs w5 B3 43 #[.int .i64 0, .int .i64 0] := box_of hh (by simp)
    have hne2 := ne_of hne
    haveI ap1 : Apart B2 B3 := ⟨hne2⟩
    haveI ap2 : Apart B3 B2 := ⟨hne2.symm⟩
    haveI g2 : BornAfter B2 _ := ⟨hB2⟩
    have hz2 : w.heap.size ≤ B2 := Nat.le_trans (Kept.size (X := []) (by repeat (first | with_reducible exact HK.out | with_reducible exact Kept.refl _ _ | with_reducible refine Kept.prev ?_ | with_reducible refine Kept.alloc' ?_ _ | with_reducible refine Kept.drew' ?_ | with_reducible refine Kept.setB ?_ _ _ _ (by omega) | with_reducible refine Kept.row' ?_ _ _ (by omega) | with_reducible refine Kept.map' ?_ _ _ (by omega)))) hB2
    have hz3 : w.heap.size ≤ B3 := Nat.le_trans (Kept.size (X := []) (by repeat (first | with_reducible exact HK.out | with_reducible exact Kept.refl _ _ | with_reducible refine Kept.prev ?_ | with_reducible refine Kept.alloc' ?_ _ | with_reducible refine Kept.drew' ?_ | with_reducible refine Kept.setB ?_ _ _ _ (by omega) | with_reducible refine Kept.row' ?_ _ _ (by omega) | with_reducible refine Kept.map' ?_ _ _ (by omega)))) hB3
    haveI g3 : BornAfter B3 _ := ⟨hB3⟩
    clear hk5 hh hne HP
    go_wp2_with fail
    cases hm : (markX t p).2.2
    · rw [hm] at HW
      go_region
      go_wp2_with fail
      rw [HW.out]
      exact bodyPost_v rfl (res2 Tryz.results52 (resC rfl inferInstance) (resT rfl)) (by repeat (first | with_reducible exact HK.out | with_reducible exact Kept.refl _ _ | with_reducible refine Kept.prev ?_ | with_reducible refine Kept.alloc' ?_ _ | with_reducible refine Kept.drew' ?_ | with_reducible refine Kept.setB ?_ _ _ _ (by omega) | with_reducible refine Kept.row' ?_ _ _ (by omega) | with_reducible refine Kept.map' ?_ _ _ (by omega)))
    rw [hm] at HW
    cases s1 : (x.s.toList == [70, 105, 114, 115, 116])
    · rw [s1] at HW
      go_region
      go_wp2_with fail
      rw [HW.out]
      exact bodyPost_v rfl (res2 Tryz.results52 (resC rfl inferInstance) (resT rfl)) (by repeat (first | with_reducible exact HK.out | with_reducible exact Kept.refl _ _ | with_reducible refine Kept.prev ?_ | with_reducible refine Kept.alloc' ?_ _ | with_reducible refine Kept.drew' ?_ | with_reducible refine Kept.setB ?_ _ _ _ (by omega) | with_reducible refine Kept.row' ?_ _ _ (by omega) | with_reducible refine Kept.map' ?_ _ _ (by omega)))
    · rw [s1] at HW
      go_region
      go_wp2_with fail
      rw [HW.out]
      exact bodyPost_v rfl (res2 Tryz.results52 (resC rfl inferInstance) (resT rfl)) (by repeat (first | with_reducible exact HK.out | with_reducible exact Kept.refl _ _ | with_reducible refine Kept.prev ?_ | with_reducible refine Kept.alloc' ?_ _ | with_reducible refine Kept.drew' ?_ | with_reducible refine Kept.setB ?_ _ _ _ (by omega) | with_reducible refine Kept.row' ?_ _ _ (by omega) | with_reducible refine Kept.map' ?_ _ _ (by omega)))
  · have HW := Lib.hid (HIX2.out hi)
    clear HMK2 HIX2 HP
    go_wp2_with fail
    cases s1 : (x.s.toList == [70, 105, 114, 115, 116])
    · cases s2 : (x.s.toList == [76, 97, 115, 116])
      · rw [s1, s2] at HW
        go_region
        go_wp2_with fail
        rw [HW.out]
        exact bodyPost_v rfl (res2 Tryz.results52 (resC rfl inferInstance) (resT rfl)) (by repeat (first | with_reducible exact HK.out | with_reducible exact Kept.refl _ _ | with_reducible refine Kept.prev ?_ | with_reducible refine Kept.alloc' ?_ _ | with_reducible refine Kept.drew' ?_ | with_reducible refine Kept.setB ?_ _ _ _ (by omega) | with_reducible refine Kept.row' ?_ _ _ (by omega) | with_reducible refine Kept.map' ?_ _ _ (by omega)))
      · rw [s1, s2] at HW
        go_region
        go_wp2_with fail
        rw [HW.out]
        exact bodyPost_v rfl (res2 Tryz.results52 (resC rfl inferInstance) (resT rfl)) (by repeat (first | with_reducible exact HK.out | with_reducible exact Kept.refl _ _ | with_reducible refine Kept.prev ?_ | with_reducible refine Kept.alloc' ?_ _ | with_reducible refine Kept.drew' ?_ | with_reducible refine Kept.setB ?_ _ _ _ (by omega) | with_reducible refine Kept.row' ?_ _ _ (by omega) | with_reducible refine Kept.map' ?_ _ _ (by omega)))
    · rw [s1] at HW
      go_region
      go_wp2_with fail
      rw [HW.out]
      exact bodyPost_v rfl (res2 Tryz.results52 (resC rfl inferInstance) (resT rfl)) (by repeat (first | with_reducible exact HK.out | with_reducible exact Kept.refl _ _ | with_reducible refine Kept.prev ?_ | with_reducible refine Kept.alloc' ?_ _ | with_reducible refine Kept.drew' ?_ | with_reducible refine Kept.setB ?_ _ _ _ (by omega) | with_reducible refine Kept.row' ?_ _ _ (by omega) | with_reducible refine Kept.map' ?_ _ _ (by omega)))
end Go.Proofs.YtgdjhhfbpalkdaaGreat
namespace Go.Proofs.YtgdjhhfbpalkdaaGreat
open Go.RowKit

theorem list1 {α : Type} {l : List α} {d : α} (h : l.length = 1) : l = [l.getD 0 d] := by
  cases l with
  | nil => cases h
  | cons a l => cases l with
    | nil => rfl
    | cons _ _ => simp at h
theorem list2 {α : Type} {l : List α} {d : α} (h : l.length = 2) : l = [l.getD 0 d, l.getD 1 d] := by
  cases l with
  | nil => cases h
  | cons a l => cases l with
    | nil => simp at h
    | cons b l => cases l with
      | nil => rfl
      | cons _ _ => simp at h
theorem str_is (s : ByteArray) (l : List UInt8) : (s.toList == l) = decide (s = ⟨l.toArray⟩) := by
  rw [Bool.eq_iff_iff, decide_eq_true_eq, beq_iff_eq]
  constructor
  · intro h
    rw [← h, ByteArray.toList_eq]
  · rintro rfl
    rw [ByteArray.toList_eq]
theorem row_ty (t : Tab) (n : Int) : (tyP t n = none ∧ (rowO t n).1 = zeroT) ∨ ∃ y s, tyP t n = some (y, s) ∧ rowO t n = (y, s, true) := by
  unfold tyP rowO subO tyO
  by_cases h1 : n < 0 ∨ (t.subs.length : Int) ≤ n
  · left; simp [h1]
  · simp only [if_neg h1]
    by_cases h2 : (t.subs.getD n.toNat default).t < 0 ∨ (t.types.length : Int) ≤ (t.subs.getD n.toNat default).t
    · left; simp only [if_pos h2]; exact ⟨trivial, trivial⟩
    · right; simp only [if_neg h2]; exact ⟨_, _, rfl, rfl⟩
theorem index_is (t : Tab) (x : ExV) : ((indexX t x).2 = (indexP t x).isSome) ∧ ∀ b, indexP t x = some b → indexX t x = (b, true) := by
  unfold indexX indexP
  simp only
  by_cases hc : (namedP x && (typedP (entP t x.ent) || objP (entP t x.ent))) = true
  rotate_left
  · rw [if_neg hc, if_neg hc]; simp
  rw [if_pos hc, if_pos hc]
  rcases row_ty t (entP t x.ent).sub with ⟨h1, h2⟩ | ⟨y, s, h1, h2⟩
  · rw [h1, h2]; simp [zeroT]
  rw [h1, h2]
  simp only
  by_cases hk : y.kind = 4
  rotate_left
  · rw [if_neg hk, if_neg hk]; simp
  rw [if_pos hk, if_pos hk, plainX_ok]
  cases hp : plainP t y.index with
  | none => simp
  | some r =>
    obtain ⟨b, a⟩ := r
    rw [plainX_some hp]
    simp only [Option.isSome_some, Bool.true_and]
    by_cases hb : b.1 ≤ b.2
    · simp [hb]
    · simp [hb]
theorem str_first (s : ByteArray) : (s.toList == [70, 105, 114, 115, 116]) = decide (s = sFirst) := str_is s _
theorem str_last (s : ByteArray) : (s.toList == [76, 97, 115, 116]) = decide (s = sLast) := str_is s _
theorem str_len (s : ByteArray) : (s.toList == [76, 101, 110, 103, 116, 104]) = decide (s = sLength) := str_is s _
theorem attr_is (t : Tab) (x : ExV) : ((attrX t x).2 = (attrP t x).isSome) ∧ ∀ b, attrP t x = some b → attrX t x = (b, true) := by
  unfold attrX attrP
  simp only [str_first, str_last, str_len]
  by_cases hl : x.ls.length = 1
  rotate_left
  · rw [if_neg hl]
    split
    · rename_i y hy; rw [hy] at hl; simp at hl
    · simp
  rw [if_pos hl]
  have hx := list1 (d := default) hl
  have hy : l0 x = x.ls.getD 0 default := rfl
  rw [← hy] at hx
  generalize l0 x = y at *
  rw [hx]
  simp only
  obtain ⟨i1, i2⟩ := index_is t y
  cases hi : indexP t y with
  | some b =>
    rw [i2 b hi]
    simp only [if_true]
    by_cases h : x.s = sFirst ∨ x.s = sLast ∨ x.s = sLength
    · rw [if_pos h]; simp [h, or_assoc]
    · rw [if_neg h]
      simp only [not_or] at h
      simp [h]
  | none =>
    rw [hi] at i1
    rw [i1]
    simp only [Option.isSome_none, Bool.false_eq_true, if_false]
    rw [markX_ok]
    cases hm : markP t y with
    | none => simp
    | some r =>
      obtain ⟨b, a⟩ := r
      rw [markX_some hm]
      simp only [Option.isSome_some, Bool.true_and]
      by_cases h : x.s = sFirst ∨ x.s = sLast
      · rw [if_pos h]; simp [h]
      · rw [if_neg h]
        simp only [not_or] at h
        simp [h]
end Go.Proofs.YtgdjhhfbpalkdaaGreat
namespace Go.Proofs.YtgdjhhfbpalkdaaGreat
open Go.RowKit
section
variable (w : World) (v : TabV) (t : Tab) (x : ExV) (n : Nat)

set_option maxRecDepth 100000 in
set_option maxHeartbeats 1000000 in
theorem is_span (hT : TabIn w v t) (hs : (spanP t x.t).isSome = false) : Calls Tryz.prog 21 #[.agg (v.cells t), .agg x.cells.toArray] w (RetV (.bool (isF (isP t n) t x)) w) := by
  have HSP := Lib.hid (fun w' m (hk : Kept [] w w') => span_any w' v t m (hT.kept hk))
  unfold TabV.cells at HSP
  unfold bdV at HSP
  have HW : Hid (isF (isP t n) t x = false) := by rw [Hid, isF, hs]; rfl
  clear hT
  unfold TabV.cells
  go_enter Tryz.func21, Tryz.ntmps21
  go_wp2_with fail
  refine (HSP.out _ _ (by repeat (first | with_reducible exact HK.out | with_reducible exact Kept.refl _ _ | with_reducible refine Kept.prev ?_ | with_reducible refine Kept.alloc' ?_ _ | with_reducible refine Kept.drew' ?_ | with_reducible refine Kept.setB ?_ _ _ _ (by omega) | with_reducible refine Kept.row' ?_ _ _ (by omega) | with_reducible refine Kept.map' ?_ _ _ (by omega)))).mono ?_; rintro e w1 ⟨rfl, hk_w1⟩; haveI p_w1 : PrevWorld w1 _ := ⟨hk_w1⟩; have hz_w1 : w.heap.size ≤ w1.heap.size := Kept.size (by repeat (first | with_reducible exact HK.out | with_reducible exact Kept.refl _ _ | with_reducible refine Kept.prev ?_ | with_reducible refine Kept.alloc' ?_ _ | with_reducible refine Kept.drew' ?_ | with_reducible refine Kept.setB ?_ _ _ _ (by omega) | with_reducible refine Kept.row' ?_ _ _ (by omega) | with_reducible refine Kept.map' ?_ _ _ (by omega))); clear hk_w1
  clear HSP
  go_wp2_with fail
  rw [HW.out]
  exact bodyPost_v rfl (res1 Tryz.results21 (resT rfl)) (by repeat (first | with_reducible exact HK.out | with_reducible exact Kept.refl _ _ | with_reducible refine Kept.prev ?_ | with_reducible refine Kept.alloc' ?_ _ | with_reducible refine Kept.drew' ?_ | with_reducible refine Kept.setB ?_ _ _ _ (by omega) | with_reducible refine Kept.row' ?_ _ _ (by omega) | with_reducible refine Kept.map' ?_ _ _ (by omega)))

set_option maxRecDepth 100000 in
set_option maxHeartbeats 1000000 in
theorem is_int (hT : TabIn w v t) (hs : (spanP t x.t).isSome = true) (hk : x.kind = 1) : Calls Tryz.prog 21 #[.agg (v.cells t), .agg x.cells.toArray] w (RetV (.bool (isF (isP t n) t x)) w) := by
  have HSP := Lib.hid (fun w' m (hk : Kept [] w w') => span_any w' v t m (hT.kept hk))
  unfold TabV.cells at HSP
  unfold bdV at HSP
  have HW : Hid (isF (isP t n) t x = true) := by rw [Hid, isF, hs]; simp [hk]
  clear hT
  unfold TabV.cells
  go_enter Tryz.func21, Tryz.ntmps21
  go_wp2_with fail
  refine (HSP.out _ _ (by repeat (first | with_reducible exact HK.out | with_reducible exact Kept.refl _ _ | with_reducible refine Kept.prev ?_ | with_reducible refine Kept.alloc' ?_ _ | with_reducible refine Kept.drew' ?_ | with_reducible refine Kept.setB ?_ _ _ _ (by omega) | with_reducible refine Kept.row' ?_ _ _ (by omega) | with_reducible refine Kept.map' ?_ _ _ (by omega)))).mono ?_; rintro e w1 ⟨rfl, hk_w1⟩; haveI p_w1 : PrevWorld w1 _ := ⟨hk_w1⟩; have hz_w1 : w.heap.size ≤ w1.heap.size := Kept.size (by repeat (first | with_reducible exact HK.out | with_reducible exact Kept.refl _ _ | with_reducible refine Kept.prev ?_ | with_reducible refine Kept.alloc' ?_ _ | with_reducible refine Kept.drew' ?_ | with_reducible refine Kept.setB ?_ _ _ _ (by omega) | with_reducible refine Kept.row' ?_ _ _ (by omega) | with_reducible refine Kept.map' ?_ _ _ (by omega))); clear hk_w1
  clear HSP
  go_wp2_with fail
  rw [HW.out]
  exact bodyPost_v rfl (res1 Tryz.results21 (resT rfl)) (by repeat (first | with_reducible exact HK.out | with_reducible exact Kept.refl _ _ | with_reducible refine Kept.prev ?_ | with_reducible refine Kept.alloc' ?_ _ | with_reducible refine Kept.drew' ?_ | with_reducible refine Kept.setB ?_ _ _ _ (by omega) | with_reducible refine Kept.row' ?_ _ _ (by omega) | with_reducible refine Kept.map' ?_ _ _ (by omega)))

set_option maxRecDepth 100000 in
set_option maxHeartbeats 2000000 in
theorem is_name (hT : TabIn w v t) (hs : (spanP t x.t).isSome = true) (hk : x.kind = 3 ∨ x.kind = 4) : Calls Tryz.prog 21 #[.agg (v.cells t), .agg x.cells.toArray] w (RetV (.bool (isF (isP t n) t x)) w) := by
  have HSP := Lib.hid (fun w' m (hk : Kept [] w w') => span_any w' v t m (hT.kept hk))
  unfold TabV.cells at HSP
  unfold bdV at HSP
  have HE := Lib.hid (fun w' (hk : Kept [] w w') => entity_any w' v t x (hT.kept hk))
  have HW : Hid (isF (isP t n) t x = ((entP t x.ent).kind == 9 || (entP t x.ent).kind == 10 || (entP t x.ent).kind == 8 && (entP t x.ent).static)) := by
    rw [Hid, isF, hs, if_neg (by rcases hk with h | h <;> simp [h]), if_pos hk]; rfl
  clear hT
  unfold TabV.cells at HE
  unfold entA at HE
  unfold TabV.cells
  rcases hk with hk | hk
  all_goals
    go_enter Tryz.func21, Tryz.ntmps21
    go_wp2_with fail
    refine (HSP.out _ _ (by repeat (first | with_reducible exact HK.out | with_reducible exact Kept.refl _ _ | with_reducible refine Kept.prev ?_ | with_reducible refine Kept.alloc' ?_ _ | with_reducible refine Kept.drew' ?_ | with_reducible refine Kept.setB ?_ _ _ _ (by omega) | with_reducible refine Kept.row' ?_ _ _ (by omega) | with_reducible refine Kept.map' ?_ _ _ (by omega)))).mono ?_; rintro e w1 ⟨rfl, hk_w1⟩; haveI p_w1 : PrevWorld w1 _ := ⟨hk_w1⟩; have hz_w1 : w.heap.size ≤ w1.heap.size := Kept.size (by repeat (first | with_reducible exact HK.out | with_reducible exact Kept.refl _ _ | with_reducible refine Kept.prev ?_ | with_reducible refine Kept.alloc' ?_ _ | with_reducible refine Kept.drew' ?_ | with_reducible refine Kept.setB ?_ _ _ _ (by omega) | with_reducible refine Kept.row' ?_ _ _ (by omega) | with_reducible refine Kept.map' ?_ _ _ (by omega))); clear hk_w1
    clear HSP
    go_wp2_with fail
    refine (HE.out _ (by repeat (first | with_reducible exact HK.out | with_reducible exact Kept.refl _ _ | with_reducible refine Kept.prev ?_ | with_reducible refine Kept.alloc' ?_ _ | with_reducible refine Kept.drew' ?_ | with_reducible refine Kept.setB ?_ _ _ _ (by omega) | with_reducible refine Kept.row' ?_ _ _ (by omega) | with_reducible refine Kept.map' ?_ _ _ (by omega)))).mono ?_; rintro e w2 ⟨rfl, hk_w2⟩; haveI p_w2 : PrevWorld w2 _ := ⟨hk_w2⟩; have hz_w2 : w.heap.size ≤ w2.heap.size := Kept.size (by repeat (first | with_reducible exact HK.out | with_reducible exact Kept.refl _ _ | with_reducible refine Kept.prev ?_ | with_reducible refine Kept.alloc' ?_ _ | with_reducible refine Kept.drew' ?_ | with_reducible refine Kept.setB ?_ _ _ _ (by omega) | with_reducible refine Kept.row' ?_ _ _ (by omega) | with_reducible refine Kept.map' ?_ _ _ (by omega))); clear hk_w2
    clear HE
    generalize entP t x.ent = y at *
    cases e9 : (y.kind == 9)
    · cases e10 : (y.kind == 10)
      · cases e8 : (y.kind == 8)
        · rw [e9, e10, e8] at HW
          go_wp2_with fail
          rw [HW.out]
          exact bodyPost_v rfl (res1 Tryz.results21 (resT rfl)) (by repeat (first | with_reducible exact HK.out | with_reducible exact Kept.refl _ _ | with_reducible refine Kept.prev ?_ | with_reducible refine Kept.alloc' ?_ _ | with_reducible refine Kept.drew' ?_ | with_reducible refine Kept.setB ?_ _ _ _ (by omega) | with_reducible refine Kept.row' ?_ _ _ (by omega) | with_reducible refine Kept.map' ?_ _ _ (by omega)))
        · rw [e9, e10, e8] at HW
          go_wp2_with fail
          rw [HW.out]
          exact bodyPost_v rfl (res1 Tryz.results21 (resT rfl)) (by repeat (first | with_reducible exact HK.out | with_reducible exact Kept.refl _ _ | with_reducible refine Kept.prev ?_ | with_reducible refine Kept.alloc' ?_ _ | with_reducible refine Kept.drew' ?_ | with_reducible refine Kept.setB ?_ _ _ _ (by omega) | with_reducible refine Kept.row' ?_ _ _ (by omega) | with_reducible refine Kept.map' ?_ _ _ (by omega)))
      · rw [e9, e10] at HW
        go_wp2_with fail
        rw [HW.out]
        exact bodyPost_v rfl (res1 Tryz.results21 (resT rfl)) (by repeat (first | with_reducible exact HK.out | with_reducible exact Kept.refl _ _ | with_reducible refine Kept.prev ?_ | with_reducible refine Kept.alloc' ?_ _ | with_reducible refine Kept.drew' ?_ | with_reducible refine Kept.setB ?_ _ _ _ (by omega) | with_reducible refine Kept.row' ?_ _ _ (by omega) | with_reducible refine Kept.map' ?_ _ _ (by omega)))
    · rw [e9] at HW
      go_wp2_with fail
      rw [HW.out]
      exact bodyPost_v rfl (res1 Tryz.results21 (resT rfl)) (by repeat (first | with_reducible exact HK.out | with_reducible exact Kept.refl _ _ | with_reducible refine Kept.prev ?_ | with_reducible refine Kept.alloc' ?_ _ | with_reducible refine Kept.drew' ?_ | with_reducible refine Kept.setB ?_ _ _ _ (by omega) | with_reducible refine Kept.row' ?_ _ _ (by omega) | with_reducible refine Kept.map' ?_ _ _ (by omega)))

set_option maxRecDepth 100000 in
set_option maxHeartbeats 1000000 in
theorem is_attr (hT : TabIn w v t) (hx : ExIn w (n + 1) x) (hs : (spanP t x.t).isSome = true) (hk : x.kind = 6) : Calls Tryz.prog 21 #[.agg (v.cells t), .agg x.cells.toArray] w (RetV (.bool (isF (isP t n) t x)) w) := by
  have HSP := Lib.hid (fun w' m (hk : Kept [] w w') => span_any w' v t m (hT.kept hk))
  unfold TabV.cells at HSP
  unfold bdV at HSP
  have HA := Lib.hid (fun w' (hk : Kept [] w w') => attribute_any w' v t x n (hT.kept hk) (hx.kept hk))
  have HW : Hid (isF (isP t n) t x = (attrX t x).2) := by rw [Hid, isF, hs, (attr_is t x).1]; simp [hk]
  clear hT hx
  unfold TabV.cells at HA
  unfold bvV at HA
  unfold TabV.cells
  go_enter Tryz.func21, Tryz.ntmps21
  go_wp2_with fail
  refine (HSP.out _ _ (by repeat (first | with_reducible exact HK.out | with_reducible exact Kept.refl _ _ | with_reducible refine Kept.prev ?_ | with_reducible refine Kept.alloc' ?_ _ | with_reducible refine Kept.drew' ?_ | with_reducible refine Kept.setB ?_ _ _ _ (by omega) | with_reducible refine Kept.row' ?_ _ _ (by omega) | with_reducible refine Kept.map' ?_ _ _ (by omega)))).mono ?_; rintro e w1 ⟨rfl, hk_w1⟩; haveI p_w1 : PrevWorld w1 _ := ⟨hk_w1⟩; have hz_w1 : w.heap.size ≤ w1.heap.size := Kept.size (by repeat (first | with_reducible exact HK.out | with_reducible exact Kept.refl _ _ | with_reducible refine Kept.prev ?_ | with_reducible refine Kept.alloc' ?_ _ | with_reducible refine Kept.drew' ?_ | with_reducible refine Kept.setB ?_ _ _ _ (by omega) | with_reducible refine Kept.row' ?_ _ _ (by omega) | with_reducible refine Kept.map' ?_ _ _ (by omega))); clear hk_w1
  clear HSP
  go_wp2_with fail
  refine (HA.out _ (by repeat (first | with_reducible exact HK.out | with_reducible exact Kept.refl _ _ | with_reducible refine Kept.prev ?_ | with_reducible refine Kept.alloc' ?_ _ | with_reducible refine Kept.drew' ?_ | with_reducible refine Kept.setB ?_ _ _ _ (by omega) | with_reducible refine Kept.row' ?_ _ _ (by omega) | with_reducible refine Kept.map' ?_ _ _ (by omega)))).mono ?_; rintro e w2 ⟨rfl, hk_w2⟩; haveI p_w2 : PrevWorld w2 _ := ⟨hk_w2⟩; have hz_w2 : w.heap.size ≤ w2.heap.size := Kept.size (by repeat (first | with_reducible exact HK.out | with_reducible exact Kept.refl _ _ | with_reducible refine Kept.prev ?_ | with_reducible refine Kept.alloc' ?_ _ | with_reducible refine Kept.drew' ?_ | with_reducible refine Kept.setB ?_ _ _ _ (by omega) | with_reducible refine Kept.row' ?_ _ _ (by omega) | with_reducible refine Kept.map' ?_ _ _ (by omega))); clear hk_w2
  go_wp2_with fail
  rw [HW.out]
  exact bodyPost_v rfl (res1 Tryz.results21 (resT rfl)) (by repeat (first | with_reducible exact HK.out | with_reducible exact Kept.refl _ _ | with_reducible refine Kept.prev ?_ | with_reducible refine Kept.alloc' ?_ _ | with_reducible refine Kept.drew' ?_ | with_reducible refine Kept.setB ?_ _ _ _ (by omega) | with_reducible refine Kept.row' ?_ _ _ (by omega) | with_reducible refine Kept.map' ?_ _ _ (by omega)))

set_option maxRecDepth 100000 in
set_option maxHeartbeats 1000000 in
theorem is_call (ih : IsAt v t n) (hT : TabIn w v t) (hx : ExIn w (n + 1) x) (hs : (spanP t x.t).isSome = true) (hk : x.kind = 7) : Calls Tryz.prog 21 #[.agg (v.cells t), .agg x.cells.toArray] w (RetV (.bool (isF (isP t n) t x)) w) := by
  have HSP := Lib.hid (fun w' m (hk : Kept [] w w') => span_any w' v t m (hT.kept hk))
  unfold TabV.cells at HSP
  unfold bdV at HSP
  have HA := Lib.hid (fun w' (hk : Kept [] w w') => call_any w' v t x n ih (hT.kept hk) (hx.kept hk))
  have HW : Hid (isF (isP t n) t x = callF (isP t n) t x) := by rw [Hid, isF, hs]; simp [hk]
  clear hT hx ih
  unfold TabV.cells at HA
  unfold TabV.cells
  go_enter Tryz.func21, Tryz.ntmps21
  go_wp2_with fail
  refine (HSP.out _ _ (by repeat (first | with_reducible exact HK.out | with_reducible exact Kept.refl _ _ | with_reducible refine Kept.prev ?_ | with_reducible refine Kept.alloc' ?_ _ | with_reducible refine Kept.drew' ?_ | with_reducible refine Kept.setB ?_ _ _ _ (by omega) | with_reducible refine Kept.row' ?_ _ _ (by omega) | with_reducible refine Kept.map' ?_ _ _ (by omega)))).mono ?_; rintro e w1 ⟨rfl, hk_w1⟩; haveI p_w1 : PrevWorld w1 _ := ⟨hk_w1⟩; have hz_w1 : w.heap.size ≤ w1.heap.size := Kept.size (by repeat (first | with_reducible exact HK.out | with_reducible exact Kept.refl _ _ | with_reducible refine Kept.prev ?_ | with_reducible refine Kept.alloc' ?_ _ | with_reducible refine Kept.drew' ?_ | with_reducible refine Kept.setB ?_ _ _ _ (by omega) | with_reducible refine Kept.row' ?_ _ _ (by omega) | with_reducible refine Kept.map' ?_ _ _ (by omega))); clear hk_w1
  clear HSP
  go_wp2_with fail
  refine (HA.out _ (by repeat (first | with_reducible exact HK.out | with_reducible exact Kept.refl _ _ | with_reducible refine Kept.prev ?_ | with_reducible refine Kept.alloc' ?_ _ | with_reducible refine Kept.drew' ?_ | with_reducible refine Kept.setB ?_ _ _ _ (by omega) | with_reducible refine Kept.row' ?_ _ _ (by omega) | with_reducible refine Kept.map' ?_ _ _ (by omega)))).mono ?_; rintro e w2 ⟨rfl, hk_w2⟩; haveI p_w2 : PrevWorld w2 _ := ⟨hk_w2⟩; have hz_w2 : w.heap.size ≤ w2.heap.size := Kept.size (by repeat (first | with_reducible exact HK.out | with_reducible exact Kept.refl _ _ | with_reducible refine Kept.prev ?_ | with_reducible refine Kept.alloc' ?_ _ | with_reducible refine Kept.drew' ?_ | with_reducible refine Kept.setB ?_ _ _ _ (by omega) | with_reducible refine Kept.row' ?_ _ _ (by omega) | with_reducible refine Kept.map' ?_ _ _ (by omega))); clear hk_w2
  go_wp2_with fail
  rw [HW.out]
  exact bodyPost_v rfl (res1 Tryz.results21 (resT rfl)) (by repeat (first | with_reducible exact HK.out | with_reducible exact Kept.refl _ _ | with_reducible refine Kept.prev ?_ | with_reducible refine Kept.alloc' ?_ _ | with_reducible refine Kept.drew' ?_ | with_reducible refine Kept.setB ?_ _ _ _ (by omega) | with_reducible refine Kept.row' ?_ _ _ (by omega) | with_reducible refine Kept.map' ?_ _ _ (by omega)))

set_option maxRecDepth 100000 in
set_option maxHeartbeats 1000000 in
theorem is_if (ih : IsAt v t n) (hT : TabIn w v t) (hx : ExIn w (n + 1) x) (hs : (spanP t x.t).isSome = true) (hk : x.kind = 10) : Calls Tryz.prog 21 #[.agg (v.cells t), .agg x.cells.toArray] w (RetV (.bool (isF (isP t n) t x)) w) := by
  have HSP := Lib.hid (fun w' m (hk : Kept [] w w') => span_any w' v t m (hT.kept hk))
  unfold TabV.cells at HSP
  unfold bdV at HSP
  have HA := Lib.hid (fun w' (hk : Kept [] w w') => all_any w' v t x.la x.lc x.ls n 3 ih (hT.kept hk) hx.2.2.2.2.1 (hx.1.kept hk) (fun y hy => (hx.2.1 y hy).kept hk))
  have HW : Hid (isF (isP t n) t x = allF (isP t n) x.ls 3) := by rw [Hid, isF, hs]; simp [hk]
  clear hT hx ih
  unfold TabV.cells at HA
  unfold TabV.cells
  go_enter Tryz.func21, Tryz.ntmps21
  go_wp2_with fail
  refine (HSP.out _ _ (by repeat (first | with_reducible exact HK.out | with_reducible exact Kept.refl _ _ | with_reducible refine Kept.prev ?_ | with_reducible refine Kept.alloc' ?_ _ | with_reducible refine Kept.drew' ?_ | with_reducible refine Kept.setB ?_ _ _ _ (by omega) | with_reducible refine Kept.row' ?_ _ _ (by omega) | with_reducible refine Kept.map' ?_ _ _ (by omega)))).mono ?_; rintro e w1 ⟨rfl, hk_w1⟩; haveI p_w1 : PrevWorld w1 _ := ⟨hk_w1⟩; have hz_w1 : w.heap.size ≤ w1.heap.size := Kept.size (by repeat (first | with_reducible exact HK.out | with_reducible exact Kept.refl _ _ | with_reducible refine Kept.prev ?_ | with_reducible refine Kept.alloc' ?_ _ | with_reducible refine Kept.drew' ?_ | with_reducible refine Kept.setB ?_ _ _ _ (by omega) | with_reducible refine Kept.row' ?_ _ _ (by omega) | with_reducible refine Kept.map' ?_ _ _ (by omega))); clear hk_w1
  clear HSP
  go_wp2_with fail
  refine (HA.out _ (by repeat (first | with_reducible exact HK.out | with_reducible exact Kept.refl _ _ | with_reducible refine Kept.prev ?_ | with_reducible refine Kept.alloc' ?_ _ | with_reducible refine Kept.drew' ?_ | with_reducible refine Kept.setB ?_ _ _ _ (by omega) | with_reducible refine Kept.row' ?_ _ _ (by omega) | with_reducible refine Kept.map' ?_ _ _ (by omega)))).mono ?_; rintro e w2 ⟨rfl, hk_w2⟩; haveI p_w2 : PrevWorld w2 _ := ⟨hk_w2⟩; have hz_w2 : w.heap.size ≤ w2.heap.size := Kept.size (by repeat (first | with_reducible exact HK.out | with_reducible exact Kept.refl _ _ | with_reducible refine Kept.prev ?_ | with_reducible refine Kept.alloc' ?_ _ | with_reducible refine Kept.drew' ?_ | with_reducible refine Kept.setB ?_ _ _ _ (by omega) | with_reducible refine Kept.row' ?_ _ _ (by omega) | with_reducible refine Kept.map' ?_ _ _ (by omega))); clear hk_w2
  go_wp2_with fail
  rw [HW.out]
  exact bodyPost_v rfl (res1 Tryz.results21 (resT rfl)) (by repeat (first | with_reducible exact HK.out | with_reducible exact Kept.refl _ _ | with_reducible refine Kept.prev ?_ | with_reducible refine Kept.alloc' ?_ _ | with_reducible refine Kept.drew' ?_ | with_reducible refine Kept.setB ?_ _ _ _ (by omega) | with_reducible refine Kept.row' ?_ _ _ (by omega) | with_reducible refine Kept.map' ?_ _ _ (by omega)))
end
end Go.Proofs.YtgdjhhfbpalkdaaGreat
