/- member of three operands. Regions that draw their order: heads in any order that is named, then a tail in a named order. -/
import Derived.Test.YtgdjhhfbpalkdaaGreatV6
import Derived.Test.YtgdjhhfbpalkdaaGreatV1
namespace Go.Proofs.YtgdjhhfbpalkdaaGreat
open Go.RowKit

set_option maxRecDepth 100000 in
set_option maxHeartbeats 4000000 in
theorem member3_any (w : World) (v : TabV) (t : Tab) (x : ExV) (n : Nat) (ih : ValAt v t n) (hT : TabIn w v t) (hx : ExIn w (n + 1) x) (hl : x.ls.length = 3) (hI : isP t n (l0 x) = true) (hI1 : isP t n (l1 x) = true) (hI2 : isP t n (l2 x) = true) :
    Calls Tryz.prog 73 #[.agg (v.cells t), .agg x.cells.toArray] w (RetOB (memV (valP t n) t x) w) := by
  obtain ⟨b0, o0, ha, hat, hat1, hat2, hi0, hi1, hi2⟩ := ex_third hx (by omega)
  have HPP : Hid (∀ (a : Act) (w' : World), a.defers = [] → Kept [] w w' → bodyPost Tryz.prog Tryz.f73 (RetOB none w) (.panic failC) a w') := fun _ _ h1 h2 => bodyPost_bp h1 h2
  have HV := Lib.hid (fun w' (hk : Kept [] w w') => ih w' (l0 x) (hT.kept hk) (hi0.kept hk) hI)
  have HV1 := Lib.hid (fun w' (hk : Kept [] w w') => ih w' (l1 x) (hT.kept hk) (hi1.kept hk) hI1)
  have HV2 := Lib.hid (fun w' (hk : Kept [] w w') => ih w' (l2 x) (hT.kept hk) (hi2.kept hk) hI2)
  have HB1 := Lib.hid (fun z (h : valP t n (l1 x) = some z) => val_bd hT.ll h)
  have HB2 := Lib.hid (fun z (h : valP t n (l2 x) = some z) => val_bd hT.ll h)
  have HMK := Lib.hid (fun w' (hk : Kept [] w w') => mark_any w' v t (l1 x) (hT.kept hk))
  have HM : Hid (memV (valP t n) t x = match valP t n (l0 x) with | none => none | some z => match valP t n (l1 x) with | none => none | some lo => match valP t n (l2 x) with | none => none | some hi => some (memB z lo hi)) := by
    have h2 : ¬ x.ls.length = 2 := by omega
    rw [Hid, memV]
    cases valP t n (l0 x) with
    | none => rfl
    | some z =>
      simp only [if_neg h2]
      rfl
  have q1 := hx.2.2.2.2.1
  have hl2 : (0 : Int) < (x.ls.length : Int) := by omega
  have hl3 : (1 : Int) < (x.ls.length : Int) := by omega
  have hl5 : (2 : Int) < (x.ls.length : Int) := by omega
  have hl4 : ((x.ls.length : Int) == 3) = true := by simp; omega
  clear ih hT hx hl hI hi0 hi1 hI1 hI2 hi2
  unfold TabV.cells at *
  unfold pvV at HMK
  generalize valP t n (l0 x) = o at *
  generalize valP t n (l1 x) = o1 at *
  generalize valP t n (l2 x) = o2 at *
  generalize l0 x = y at *
  generalize l1 x = z at *
  generalize l2 x = zz at *
  generalize markX t z = mk at *
  go_enter Tryz.func73, Tryz.ntmps73
  go_wp2_with fail
  refine wp_region_head 5 0 (fun _ => .cells #[] 0) (by kernel_rfl) (by kernel_rfl) (fun i o h1 h2 => by omega) (fun _ _ _ _ _ h => h) ?_; apply Exists.intro; refine ⟨fun U hU hN => ?_, ?_⟩; simp only [List.take_succ_cons, List.take_zero]
  · repeat (go_big_quiet_step (fail))
    refine wpQuiet_nil ?_
    exact rfl
  simp only [List.drop_succ_cons, List.drop_zero, List.take_zero]
  intro w4 hk4 _
  haveI p_w4 : PrevWorld w4 _ := ⟨hk4⟩
  go_wp2_with fail
  cases o with
  | none =>
    have HW : Hid (memV (valP t n) t x = none) := HM.out
    refine (Calls.retP (HV.out _ (by repeat (first | with_reducible exact HK.out | with_reducible exact Kept.refl _ _ | with_reducible refine Kept.prev ?_ | with_reducible refine Kept.alloc' ?_ _ | with_reducible refine Kept.drew' ?_ | with_reducible refine Kept.setB ?_ _ _ _ (by omega) | with_reducible refine Kept.row' ?_ _ _ (by omega) | with_reducible refine Kept.map' ?_ _ _ (by omega)))) rfl).mono ?_; rintro e w5 ⟨rfl, hk_w5⟩; haveI p_w5 : PrevWorld w5 _ := ⟨hk_w5⟩; have hz_w5 : w.heap.size ≤ w5.heap.size := Kept.size (by repeat (first | with_reducible exact HK.out | with_reducible exact Kept.refl _ _ | with_reducible refine Kept.prev ?_ | with_reducible refine Kept.alloc' ?_ _ | with_reducible refine Kept.drew' ?_ | with_reducible refine Kept.setB ?_ _ _ _ (by omega) | with_reducible refine Kept.row' ?_ _ _ (by omega) | with_reducible refine Kept.map' ?_ _ _ (by omega))); clear hk_w5
    show bodyPost _ _ _ (.panic failC) _ _
    rw [HW.out]
    exact HPP.out _ _ rfl (by repeat (first | with_reducible exact HK.out | with_reducible exact Kept.refl _ _ | with_reducible refine Kept.prev ?_ | with_reducible refine Kept.alloc' ?_ _ | with_reducible refine Kept.drew' ?_ | with_reducible refine Kept.setB ?_ _ _ _ (by omega) | with_reducible refine Kept.row' ?_ _ _ (by omega) | with_reducible refine Kept.map' ?_ _ _ (by omega)))
  | some u =>
  refine (Calls.retV (HV.out _ (by repeat (first | with_reducible exact HK.out | with_reducible exact Kept.refl _ _ | with_reducible refine Kept.prev ?_ | with_reducible refine Kept.alloc' ?_ _ | with_reducible refine Kept.drew' ?_ | with_reducible refine Kept.setB ?_ _ _ _ (by omega) | with_reducible refine Kept.row' ?_ _ _ (by omega) | with_reducible refine Kept.map' ?_ _ _ (by omega)))) rfl).mono ?_; rintro e w5 ⟨rfl, hk_w5⟩; haveI p_w5 : PrevWorld w5 _ := ⟨hk_w5⟩; have hz_w5 : w.heap.size ≤ w5.heap.size := Kept.size (by repeat (first | with_reducible exact HK.out | with_reducible exact Kept.refl _ _ | with_reducible refine Kept.prev ?_ | with_reducible refine Kept.alloc' ?_ _ | with_reducible refine Kept.drew' ?_ | with_reducible refine Kept.setB ?_ _ _ _ (by omega) | with_reducible refine Kept.row' ?_ _ _ (by omega) | with_reducible refine Kept.map' ?_ _ _ (by omega))); clear hk_w5
  clear HV
  go_wp2_with fail
  refine wp_region_head 10 2 (fun _ => .cells #[.int .i64 0, .int .i64 0] 43) (by kernel_rfl) (by kernel_rfl) (fun i o h1 h2 h3 => by obtain rfl | rfl : i = 10 ∨ i = 11 := (by omega); all_goals (obtain rfl := Option.some.inj h3; exact alc_of rfl rfl Tryz.zeroBd)) (fun _ _ _ _ _ h => h) ?_; apply Exists.intro; refine ⟨fun U hU hN => ?_, ?_⟩; simp only [List.take_succ_cons, List.take_zero]
  · repeat (go_big_quiet_step (exact Calls.headV hU (HMK.out _ (Kept.trans (by repeat (first | with_reducible exact HK.out | with_reducible exact Kept.refl _ _ | with_reducible refine Kept.prev ?_ | with_reducible refine Kept.alloc' ?_ _ | with_reducible refine Kept.drew' ?_ | with_reducible refine Kept.setB ?_ _ _ _ (by omega) | with_reducible refine Kept.row' ?_ _ _ (by omega) | with_reducible refine Kept.map' ?_ _ _ (by omega))) (AfterU.prop _)))))
    refine wpQuiet_nil ?_
    exact rfl
  simp only [List.drop_succ_cons, List.drop_zero, List.take_succ_cons, List.take_zero]
  intro B2 hB2 _ B3 hB3 hne w6 hk6 hh
  haveI p_w6 : PrevWorld w6 _ := ⟨hk6⟩
  haveI bx2 : BoxIs w6 B2 43 #[.int .i64 0, .int .i64 0] := box_of hh (by simp)
  haveI bx3 : BoxIs w6 B3 43 #[.int .i64 0, .int .i64 0] := box_of hh (by simp)
  have hne2 := ne_of hne
  haveI ap1 : Apart B2 B3 := ⟨hne2⟩
  haveI ap2 : Apart B3 B2 := ⟨hne2.symm⟩
  haveI g2 : BornAfter B2 _ := ⟨hB2⟩
  haveI g3 : BornAfter B3 _ := ⟨hB3⟩
  have hz2 : w.heap.size ≤ B2 := Nat.le_trans (Kept.size (X := []) (by repeat (first | with_reducible exact HK.out | with_reducible exact Kept.refl _ _ | with_reducible refine Kept.prev ?_ | with_reducible refine Kept.alloc' ?_ _ | with_reducible refine Kept.drew' ?_ | with_reducible refine Kept.setB ?_ _ _ _ (by omega) | with_reducible refine Kept.row' ?_ _ _ (by omega) | with_reducible refine Kept.map' ?_ _ _ (by omega)))) hB2
  have hz3 : w.heap.size ≤ B3 := Nat.le_trans (Kept.size (X := []) (by repeat (first | with_reducible exact HK.out | with_reducible exact Kept.refl _ _ | with_reducible refine Kept.prev ?_ | with_reducible refine Kept.alloc' ?_ _ | with_reducible refine Kept.drew' ?_ | with_reducible refine Kept.setB ?_ _ _ _ (by omega) | with_reducible refine Kept.row' ?_ _ _ (by omega) | with_reducible refine Kept.map' ?_ _ _ (by omega)))) hB3
  clear hk6 hh hne HMK
  go_wp2_with fail
  refine wp_gen' ?_
  intro w7 hw7
  haveI p_w7 : PrevWorld w7 _ := ⟨by rw [hw7]; exact Kept.setB (Kept.setB (Kept.setB (Kept.setB p_w6.kept _ _ _ hB2) _ _ _ hB2) _ _ _ hB3) _ _ _ hB3⟩
  haveI by2 : BoxIs w7 B2 _ _ := by rw [hw7]; infer_instance
  clear hw7 p_w6 bx2 bx3
  refine wp_region_head 5 0 (fun _ => .cells #[] 0) (by kernel_rfl) (by kernel_rfl) (fun i o h1 h2 => by omega) (fun _ _ _ _ _ h => h) ?_; apply Exists.intro; refine ⟨fun U hU hN => ?_, ?_⟩; simp only [List.take_succ_cons, List.take_zero]
  · repeat (go_big_quiet_step (fail))
    refine wpQuiet_nil ?_
    exact rfl
  simp only [List.drop_succ_cons, List.drop_zero, List.take_zero]
  intro w8 hk8 _
  haveI p_w8 : PrevWorld w8 _ := ⟨hk8⟩
  clear hk8
  go_wp2_with fail
  cases o1 with
  | none =>
    have HW : Hid (memV (valP t n) t x = none) := HM.out
    refine (Calls.retP (HV1.out _ (by repeat (first | with_reducible exact HK.out | with_reducible exact Kept.refl _ _ | with_reducible refine Kept.prev ?_ | with_reducible refine Kept.alloc' ?_ _ | with_reducible refine Kept.drew' ?_ | with_reducible refine Kept.setB ?_ _ _ _ (by omega) | with_reducible refine Kept.row' ?_ _ _ (by omega) | with_reducible refine Kept.map' ?_ _ _ (by omega)))) rfl).mono ?_; rintro e w9 ⟨rfl, hk_w9⟩; haveI p_w9 : PrevWorld w9 _ := ⟨hk_w9⟩; have hz_w9 : w.heap.size ≤ w9.heap.size := Kept.size (by repeat (first | with_reducible exact HK.out | with_reducible exact Kept.refl _ _ | with_reducible refine Kept.prev ?_ | with_reducible refine Kept.alloc' ?_ _ | with_reducible refine Kept.drew' ?_ | with_reducible refine Kept.setB ?_ _ _ _ (by omega) | with_reducible refine Kept.row' ?_ _ _ (by omega) | with_reducible refine Kept.map' ?_ _ _ (by omega))); clear hk_w9
    show bodyPost _ _ _ (.panic failC) _ _
    rw [HW.out]
    exact HPP.out _ _ rfl (by repeat (first | with_reducible exact HK.out | with_reducible exact Kept.refl _ _ | with_reducible refine Kept.prev ?_ | with_reducible refine Kept.alloc' ?_ _ | with_reducible refine Kept.drew' ?_ | with_reducible refine Kept.setB ?_ _ _ _ (by omega) | with_reducible refine Kept.row' ?_ _ _ (by omega) | with_reducible refine Kept.map' ?_ _ _ (by omega)))
  | some lo =>
  obtain ⟨b1, b2⟩ := HB1.out lo rfl
  refine (Calls.retV (HV1.out _ (by repeat (first | with_reducible exact HK.out | with_reducible exact Kept.refl _ _ | with_reducible refine Kept.prev ?_ | with_reducible refine Kept.alloc' ?_ _ | with_reducible refine Kept.drew' ?_ | with_reducible refine Kept.setB ?_ _ _ _ (by omega) | with_reducible refine Kept.row' ?_ _ _ (by omega) | with_reducible refine Kept.map' ?_ _ _ (by omega)))) rfl).mono ?_; rintro e w9 ⟨rfl, hk_w9⟩; haveI p_w9 : PrevWorld w9 _ := ⟨hk_w9⟩; have hz_w9 : w.heap.size ≤ w9.heap.size := Kept.size (by repeat (first | with_reducible exact HK.out | with_reducible exact Kept.refl _ _ | with_reducible refine Kept.prev ?_ | with_reducible refine Kept.alloc' ?_ _ | with_reducible refine Kept.drew' ?_ | with_reducible refine Kept.setB ?_ _ _ _ (by omega) | with_reducible refine Kept.row' ?_ _ _ (by omega) | with_reducible refine Kept.map' ?_ _ _ (by omega))); clear hk_w9
  clear HV1 HB1
  go_wp2_with fail
  refine wp_gen' ?_
  intro w10 hw10
  haveI p_w10 : PrevWorld w10 _ := ⟨by rw [hw10]; exact Kept.setB (Kept.trans p_w7.kept (Kept.trans p_w8.kept p_w9.kept)) _ _ _ hB2⟩
  haveI bz2 : BoxIs w10 B2 _ _ := by rw [hw10]; infer_instance
  clear hw10 p_w7 by2
  refine wp_region_head 5 0 (fun _ => .cells #[] 0) (by kernel_rfl) (by kernel_rfl) (fun i o h1 h2 => by omega) (fun _ _ _ _ _ h => h) ?_; apply Exists.intro; refine ⟨fun U hU hN => ?_, ?_⟩; simp only [List.take_succ_cons, List.take_zero]
  · repeat (go_big_quiet_step (fail))
    refine wpQuiet_nil ?_
    exact rfl
  simp only [List.drop_succ_cons, List.drop_zero, List.take_zero]
  intro w11 hk11 _
  haveI p_w11 : PrevWorld w11 _ := ⟨hk11⟩
  clear hk11
  go_wp2_with fail
  cases o2 with
  | none =>
    have HW : Hid (memV (valP t n) t x = none) := HM.out
    refine (Calls.retP (HV2.out _ (by repeat (first | with_reducible exact HK.out | with_reducible exact Kept.refl _ _ | with_reducible refine Kept.prev ?_ | with_reducible refine Kept.alloc' ?_ _ | with_reducible refine Kept.drew' ?_ | with_reducible refine Kept.setB ?_ _ _ _ (by omega) | with_reducible refine Kept.row' ?_ _ _ (by omega) | with_reducible refine Kept.map' ?_ _ _ (by omega)))) rfl).mono ?_; rintro e w12 ⟨rfl, hk_w12⟩; haveI p_w12 : PrevWorld w12 _ := ⟨hk_w12⟩; have hz_w12 : w.heap.size ≤ w12.heap.size := Kept.size (by repeat (first | with_reducible exact HK.out | with_reducible exact Kept.refl _ _ | with_reducible refine Kept.prev ?_ | with_reducible refine Kept.alloc' ?_ _ | with_reducible refine Kept.drew' ?_ | with_reducible refine Kept.setB ?_ _ _ _ (by omega) | with_reducible refine Kept.row' ?_ _ _ (by omega) | with_reducible refine Kept.map' ?_ _ _ (by omega))); clear hk_w12
    show bodyPost _ _ _ (.panic failC) _ _
    rw [HW.out]
    exact HPP.out _ _ rfl (by repeat (first | with_reducible exact HK.out | with_reducible exact Kept.refl _ _ | with_reducible refine Kept.prev ?_ | with_reducible refine Kept.alloc' ?_ _ | with_reducible refine Kept.drew' ?_ | with_reducible refine Kept.setB ?_ _ _ _ (by omega) | with_reducible refine Kept.row' ?_ _ _ (by omega) | with_reducible refine Kept.map' ?_ _ _ (by omega)))
  | some hi =>
  have HW : Hid (memV (valP t n) t x = some (memB u lo hi)) := HM.out
  obtain ⟨b3, b4⟩ := HB2.out hi rfl
  refine (Calls.retV (HV2.out _ (by repeat (first | with_reducible exact HK.out | with_reducible exact Kept.refl _ _ | with_reducible refine Kept.prev ?_ | with_reducible refine Kept.alloc' ?_ _ | with_reducible refine Kept.drew' ?_ | with_reducible refine Kept.setB ?_ _ _ _ (by omega) | with_reducible refine Kept.row' ?_ _ _ (by omega) | with_reducible refine Kept.map' ?_ _ _ (by omega)))) rfl).mono ?_; rintro e w12 ⟨rfl, hk_w12⟩; haveI p_w12 : PrevWorld w12 _ := ⟨hk_w12⟩; have hz_w12 : w.heap.size ≤ w12.heap.size := Kept.size (by repeat (first | with_reducible exact HK.out | with_reducible exact Kept.refl _ _ | with_reducible refine Kept.prev ?_ | with_reducible refine Kept.alloc' ?_ _ | with_reducible refine Kept.drew' ?_ | with_reducible refine Kept.setB ?_ _ _ _ (by omega) | with_reducible refine Kept.row' ?_ _ _ (by omega) | with_reducible refine Kept.map' ?_ _ _ (by omega))); clear hk_w12
  clear HV2 HB2
  by_cases c1 : lo ≤ u
  · by_cases c2 : u ≤ hi
    · have HE : Hid (memB u lo hi = true) := by rw [Hid, memB]; simp [c1, c2]
      go_wp2_with fail
      rw [HW.out, HE.out]
      exact bodyPost_b rfl (res1 Tryz.results73 (resT rfl)) (by repeat (first | with_reducible exact HK.out | with_reducible exact Kept.refl _ _ | with_reducible refine Kept.prev ?_ | with_reducible refine Kept.alloc' ?_ _ | with_reducible refine Kept.drew' ?_ | with_reducible refine Kept.setB ?_ _ _ _ (by omega) | with_reducible refine Kept.row' ?_ _ _ (by omega) | with_reducible refine Kept.map' ?_ _ _ (by omega)))
    · have HE : Hid (memB u lo hi = false) := by rw [Hid, memB]; simp [c2]
      have c3 : decide (u ≤ hi) = false := by simp; omega
      go_wp2_with fail
      rw [HW.out, HE.out]
      exact bodyPost_b rfl (res1 Tryz.results73 (resT rfl)) (by repeat (first | with_reducible exact HK.out | with_reducible exact Kept.refl _ _ | with_reducible refine Kept.prev ?_ | with_reducible refine Kept.alloc' ?_ _ | with_reducible refine Kept.drew' ?_ | with_reducible refine Kept.setB ?_ _ _ _ (by omega) | with_reducible refine Kept.row' ?_ _ _ (by omega) | with_reducible refine Kept.map' ?_ _ _ (by omega)))
  · have HE : Hid (memB u lo hi = false) := by rw [Hid, memB]; simp [c1]
    go_wp2_with fail
    rw [HW.out, HE.out]
    exact bodyPost_b rfl (res1 Tryz.results73 (resT rfl)) (by repeat (first | with_reducible exact HK.out | with_reducible exact Kept.refl _ _ | with_reducible refine Kept.prev ?_ | with_reducible refine Kept.alloc' ?_ _ | with_reducible refine Kept.drew' ?_ | with_reducible refine Kept.setB ?_ _ _ _ (by omega) | with_reducible refine Kept.row' ?_ _ _ (by omega) | with_reducible refine Kept.map' ?_ _ _ (by omega)))
/-- member, of what is static. -/
theorem member_any (w : World) (v : TabV) (t : Tab) (x : ExV) (n : Nat) (ih : ValAt v t n) (hT : TabIn w v t) (hx : ExIn w (n + 1) x) (hI : inF (isP t n) t x = true) :
    Calls Tryz.prog 73 #[.agg (v.cells t), .agg x.cells.toArray] w (RetOB (memV (valP t n) t x) w) := by
  unfold inF at hI
  split at hI
  · rename_i y z hl
    simp only [Bool.and_eq_true] at hI
    have e0 : l0 x = y := by simp [l0, hl]
    have e1 : l1 x = z := by simp [l1, hl]
    cases hm : markP t z with
    | none => rw [hm] at hI; simp at hI
    | some r =>
      obtain ⟨b, a⟩ := r
      exact member2_any w v t x n ih hT hx (by rw [hl]; rfl) (by rw [e0]; exact hI.2) b a (by rw [e1]; exact hm)
  · simp only [allF, Bool.and_eq_true, decide_eq_true_eq, List.all_eq_true] at hI
    obtain ⟨h1, h2⟩ := hI
    have e := list3 (d := (default : ExV)) h1
    have m0 : l0 x ∈ x.ls := by rw [e]; simp [l0]
    have m1 : l1 x ∈ x.ls := by rw [e]; simp [l1]
    have m2 : l2 x ∈ x.ls := by rw [e]; simp [l2]
    exact member3_any w v t x n ih hT hx h1 (h2 _ m0) (h2 _ m1) (h2 _ m2)
end Go.Proofs.YtgdjhhfbpalkdaaGreat
namespace Go.Proofs.YtgdjhhfbpalkdaaGreat
open Go.RowKit

section
variable {P : Program} {md : Region.Mode} {ops : Array Oper} {Q : Exit → Act → World → Prop} {w0 : World} {hd : List Nat}
abbrev CT (w0 : World) : World → Prop := CU w0 (fun _ => True)

/-- Whatever order: heads (the numbers of a list), then the tail. -/
def AnyH (P : Program) (md : Region.Mode) (ops : Array Oper) (Q : Exit → Act → World → Prop) (w0 : World) (hd : List Nat) : Nat → Array Bool → Act → Prop
  | 0, done, a => Region.ready md ops done = [] ∧ ∀ w, CT w0 w → Q .normal a w
  | k + 1, done, a => (Region.ready md ops done = [] → ∀ w, CT w0 w → Q .normal a w) ∧
      ∀ i, i ∈ Region.ready md ops done → ∀ o, ops[i]? = some o →
        (i ∈ hd → ∃ v, Sure P ops w0 o v a ∧ AnyH P md ops Q w0 hd k (done.setIfInBounds i true) (a.put o.dst v)) ∧
        (i ∉ hd → ∀ w, CT w0 w → wpOp P ops Q i (wpAny P md ops Q k (done.setIfInBounds i true)) a w)

theorem AnyH.any : ∀ (k : Nat) (done : Array Bool) (a : Act) (w : World), CT w0 w → AnyH P md ops Q w0 hd k done a → wpAny P md ops Q k done a w
  | 0, _, _, w, hw, h => ⟨h.1, h.2 w hw⟩
  | k + 1, done, a, w, hw, h => ⟨fun h0 => h.1 h0 w hw, fun i hi => by
    obtain ⟨_, o, ho, _⟩ := mem_ready.1 hi
    obtain ⟨h1, h3⟩ := h.2 i hi o ho
    by_cases c1 : i ∈ hd
    · obtain ⟨v, hy, hk⟩ := h1 c1
      have hq : qOp P ops (CT w0) i (fun a' => AnyH P md ops Q w0 hd k (done.setIfInBounds i true) a') a := (hy _ (fun _ _ _ _ => trivial) ⟨w, hw⟩).qOp ho hk
      exact wpOp_of_qOp hw (fun a' w' hw' hk' => AnyH.any k _ a' w' hw' hk') hq
    · exact h3 c1 w hw⟩

/-- An operation waits for one, maybe by way of others. -/
def viaT (md : Region.Mode) (ops : Array Oper) : Nat → Nat → Nat → Bool
  | 0, t, i => Region.waitsFor md ops t i
  | f + 1, t, i => Region.waitsFor md ops t i || (List.range ops.size).any fun k => Region.waitsFor md ops t k && viaT md ops f k i
theorem viaT_undone {i : Nat} {done : Array Bool} (hc : Closed md ops done) (hun : done.getD i true = false) : ∀ (f t : Nat), viaT md ops f t i = true → done.getD t false = false := by
  have direct : ∀ t, Region.waitsFor md ops t i = true → done.getD t false = false := fun t h => by
    obtain ⟨o, ho, e, he, hb, hon⟩ := Region.waitsFor_spec h
    cases hl : done.getD t false with
    | false => rfl
    | true =>
      have h2 := hc.shut t o ho hl e he hb
      rw [hon, getD_both hun] at h2
      cases h2
  intro f
  induction f with
  | zero => exact direct
  | succ f ih =>
    intro t h
    simp only [viaT, Bool.or_eq_true] at h
    rcases h with h | h
    · exact direct t h
    · obtain ⟨k, _, hk⟩ := List.any_eq_true.1 h
      simp only [Bool.and_eq_true] at hk
      have h1 := ih k hk.2
      obtain ⟨o, ho, e, he, hb, hon⟩ := Region.waitsFor_spec hk.1
      cases hl : done.getD t false with
      | false => rfl
      | true =>
        have h2 := hc.shut t o ho hl e he hb
        rw [hon, h1] at h2
        cases h2
theorem viaT_ready {i : Nat} {done : Array Bool} (hc : Closed md ops done) (hun : done.getD i true = false) {f t : Nat} (h : viaT md ops f t i = true) : t ∉ Region.ready md ops done := fun hr => by
  obtain ⟨_, ot, hot, hall⟩ := mem_ready.1 hr
  have direct : ∀ k, Region.waitsFor md ops t k = true → done.getD k false = false → False := fun k h h1 => by
    obtain ⟨o, ho, e, he, hb, hon⟩ := Region.waitsFor_spec h
    have : o = ot := Option.some.inj (ho.symm.trans hot)
    subst this
    have h2 := hall e he hb
    rw [hon, h1] at h2
    cases h2
  cases f with
  | zero => exact direct i h (getD_both hun)
  | succ f =>
    simp only [viaT, Bool.or_eq_true] at h
    rcases h with h | h
    · exact direct i h (getD_both hun)
    · obtain ⟨k, _, hk⟩ := List.any_eq_true.1 h
      simp only [Bool.and_eq_true] at hk
      exact direct k hk.1 (viaT_undone hc hun f k hk.2)
/-- All but the heads wait for it. -/
def heldBy (md : Region.Mode) (ops : Array Oper) (hd : List Nat) (i : Nat) : Bool := (List.range ops.size).all fun t => hd.contains t || viaT md ops 4 t i
theorem heldBy_spec {i : Nat} {done : Array Bool} (h : heldBy md ops hd i = true) (hc : Closed md ops done) (hun : done.getD i true = false) : ∀ t, t ∉ hd → t ∉ Region.ready md ops done := fun t ht hr => by
  obtain ⟨_, ot, hot, _⟩ := mem_ready.1 hr
  have := List.all_eq_true.1 h t (List.mem_range.2 (Array.getElem?_eq_some_iff.1 hot).1)
  simp only [Bool.or_eq_true] at this
  rcases this with h1 | h1
  · exact ht (by simpa using h1)
  · exact viaT_ready hc hun h1 hr

theorem AnyH.first {i : Nat} {oi : Oper} {v : Value} (hi : ops[i]? = some oi) (hin : i ∈ hd) (hsel : ∀ (j : Nat) (o : Oper) cs b, ops[j]? = some o → o.op ≠ .select cs b)
    (hQ : ∀ c a w, Q (.panic c) (a.put oi.dst v) w → Q (.panic c) a w)
    (hfl : Floaty oi = true ∨ ∀ done, Closed md ops done → done.getD i true = false → ∀ t, t ∉ hd → t ∉ Region.ready md ops done) :
    ∀ (k : Nat) (done : Array Bool) (a : Act), Closed md ops done →
      (∀ j oj, ops[j]? = some oj → j ≠ i → done.getD j true = false → (∀ e ∈ oj.after, Region.binds md e = true → e.on ≠ i) → oi.apart ops oj = true) →
      i ∈ Region.ready md ops done → Sure P ops w0 oi v a →
      AnyH P md ops Q w0 hd k (done.setIfInBounds i true) (a.put oi.dst v) → AnyH P md ops Q w0 hd (k + 1) done a := by
  intro k
  induction k with
  | zero =>
    intro done a _ _ hr hy H
    refine ⟨fun h => by simp [h] at hr, fun j hj oj hoj => ?_⟩
    by_cases e : j = i
    · subst e
      rw [hi] at hoj
      cases hoj
      exact ⟨fun _ => ⟨v, hy, H⟩, fun c => absurd hin c⟩
    · have := ready_mono hj e
      simp [H.1] at this
  | succ k ih =>
    intro done a hcl hfree hr hy H
    refine ⟨fun h => by simp [h] at hr, fun j hj oj hoj => ?_⟩
    by_cases e : j = i
    · subst e
      rw [hi] at hoj
      cases hoj
      exact ⟨fun _ => ⟨v, hy, H⟩, fun c => absurd hin c⟩
    have hun := (mem_ready.1 hj).1
    have hap := hfree j oj hoj e hun (unlisted_ready hr hj hoj)
    obtain ⟨p1, p2, p3⟩ := Oper.apart_spec hap
    have hsi := fun cs b => hsel i oi cs b hi
    have hsj := fun cs b => hsel j oj cs b hoj
    have keep : ∀ u, Sure P ops w0 oi v (a.put oj.dst u) := fun u => hy.of_same (execOp_put oi hsi a oj.dst u p3) (wanted_put oi a oj.dst u p3)
    have hfree' : ∀ q oq, ops[q]? = some oq → q ≠ i → (done.setIfInBounds j true).getD q true = false → (∀ e ∈ oq.after, Region.binds md e = true → e.on ≠ i) → oi.apart ops oq = true := fun q oq hq hqi hqu hno => by
      refine hfree q oq hq hqi ?_ hno
      by_cases hjq : j = q
      · subst hjq; exact hun
      · rwa [getD_set_ne true hjq] at hqu
    have hr' := ready_mono hr (fun x => e x.symm)
    obtain ⟨h1, h3⟩ := H.2 j (ready_mono hj e) oj hoj
    refine ⟨fun c => ?_, fun c w hw => ?_⟩
    · obtain ⟨u, hu, hk⟩ := h1 c
      refine ⟨u, hu.of_same (execOp_put oj hsj a oi.dst v p1).symm (wanted_put oj a oi.dst v p1).symm, ih _ _ (hcl.set hj) hfree' hr' (keep u) ?_⟩
      rw [Array.setIfInBounds_comm _ _ e, ← Act.put_comm a v u p2]
      exact hk
    · rcases hfl with hfl | hfl
      · have hyy := hy.yields hfl
        have h4 := wpOp_put hoj hap hsi hsj hQ hyy (h3 c w hw)
        refine wpOp_mono (fun a' w' h5 => ?_) h4
        refine wpAny_first hi hsel hQ k _ a' w' hfree' hr' h5.1 ?_
        rw [Array.setIfInBounds_comm _ _ e]
        exact h5.2
      · exact (hfl done hcl (mem_ready.1 hr).1 j c hj).elim

def pick (l : List Oper) (is : List Nat) : List Oper := is.flatMap fun i => (l[i]?).toList
def seqL (md : Region.Mode) (ops : Array Oper) : List Nat → Array Bool → Bool
  | [], done => (Region.ready md ops done).isEmpty
  | i :: r, done => decide (Region.ready md ops done = [i]) && seqL md ops r (done.setIfInBounds i true)
theorem wpAny_of_seqL {l : List Oper} (hl : ops = l.toArray) : ∀ (ts : List Nat) (done : Array Bool) (a : Act) (w : World), (∀ i ∈ ts, i < l.length) →
    seqL md ops ts done = true → wpList P ops Q (pick l ts) a w → wpAny P md ops Q ts.length done a w
  | [], _, _, _, _, hB, h => ⟨by simpa [seqL] using hB, h⟩
  | i :: ts, done, a, w, hi, hB, h => by
    have hlt := hi i (by simp)
    have h0 : ops[i]? = some l[i] := by subst hl; simp [hlt]
    have hp : pick l (i :: ts) = l[i] :: pick l ts := by simp [pick, hlt]
    rw [hp] at h
    simp only [seqL, Bool.and_eq_true, decide_eq_true_eq] at hB
    refine ⟨fun h1 => (by rw [hB.1] at h1; cases h1), fun j hj => ?_⟩
    rw [hB.1] at hj
    have hik : j = i := by simpa using hj
    subst hik
    have hw : wpOp P ops Q j (wpList P ops Q (pick l ts)) a w := by unfold wpOp; simp only [h0]; exact h
    exact wpOp_mono (fun a' w' h' => wpAny_of_seqL hl ts _ a' w' (fun i h => hi i (List.mem_cons_of_mem _ h)) hB.2 h') hw

def lexH (md : Region.Mode) (ops : Array Oper) (hd ts : List Nat) : List Nat → Array Bool → Bool
  | [], done => seqL md ops ts done
  | k :: r, done => (Region.ready md ops done).contains k && Region.free md ops done k && (((ops[k]?).map Floaty).getD false || heldBy md ops hd k) && lexH md ops hd ts r (done.setIfInBounds k true)

theorem AnyH.heads {l : List Oper} (hl : ops = l.toArray) (hsel : Region.noSelect ops = true) (hQ : ∀ (d : Tmp) v c a w, Q (.panic c) (a.put (some d) v) w → Q (.panic c) a w) (ts : List Nat) (hts : ∀ i ∈ ts, i < l.length) (hdt : ∀ i ∈ ts, i ∉ hd) (A : Act) (hA : ∀ w', Kept [] w0 w' → wpList P ops Q (pick l ts) A w') :
    ∀ (hs : List Nat) (done : Array Bool) (a : Act), (∀ i ∈ hs, i < l.length) → (∀ i ∈ hs, i ∈ hd) →
      lexH md ops hd ts hs done = true → dstsB a.tmps.size (pick l hs) = true → Closed md ops done →
      (∀ U, UpC U → Nonempty (AfterU w0 U) → wpQuiet P ops (CU w0 U) (fun a' => a' = A) (pick l hs) a) → AnyH P md ops Q w0 hd (hs.length + ts.length) done a
  | [], done, a, _, _, hB, _, _, h => by
    obtain rfl : a = A := h (fun _ => True) (fun _ _ _ _ => trivial) ⟨⟨w0, Kept.refl _ _, trivial⟩⟩
    rw [List.length_nil, Nat.zero_add]
    simp only [lexH] at hB
    have h1 : ∀ w', CT w0 w' → wpAny P md ops Q ts.length done a w' := fun w' hw => wpAny_of_seqL hl ts done a w' hts hB (hA w' hw.kept)
    cases ts with
    | nil => exact ⟨by simpa [seqL] using hB, fun w hw => (h1 w hw).2⟩
    | cons i ts =>
      simp only [List.length_cons] at h1 ⊢
      simp only [seqL, Bool.and_eq_true, decide_eq_true_eq] at hB
      refine ⟨fun h0 w hw => (h1 w hw).1 h0, fun j hj o ho => ⟨fun c => ?_, fun _ w hw => (h1 w hw).2 j hj⟩⟩
      rw [hB.1] at hj
      obtain rfl : j = i := by simpa using hj
      exact absurd c (hdt j (by simp))
  | k :: hs, done, a, hi, hin, hB, hdst, hds, h => by
    have hlt := hi k (by simp)
    have h0 : ops[k]? = some l[k] := by subst hl; simp [hlt]
    have hp : pick l (k :: hs) = l[k] :: pick l hs := by simp [pick, hlt]
    rw [hp] at hdst h
    generalize l[k] = o at *
    simp only [lexH, Bool.and_eq_true, Bool.or_eq_true] at hB
    obtain ⟨⟨⟨hr, hf⟩, hw⟩, hB'⟩ := hB
    simp only [dstsB, Bool.and_eq_true] at hdst
    obtain ⟨hd1, hd2⟩ := hdst
    obtain ⟨d, hod, hds1, hds2⟩ : ∃ d, o.dst = some d ∧ d < a.tmps.size ∧ ∀ o', o' ∈ pick l hs → o'.dst ≠ some d := by
      split at hd1
      · rename_i d hod
        simp only [Bool.and_eq_true, decide_eq_true_eq, List.all_eq_true, bne_iff_ne] at hd1
        exact ⟨d, hod, hd1.1, hd1.2⟩
      · cases hd1
    have hone : ∀ U, UpC U → Nonempty (AfterU w0 U) → ∃ v, YieldsIn P ops (CU w0 U) o v a ∧ wpQuiet P ops (CU w0 U) (fun a' => a' = A) (pick l hs) (a.put o.dst v) ∧ some v = A.tmps[d]? := fun U hU hn => by
      have hq : qOp P ops (CU w0 U) k (wpQuiet P ops (CU w0 U) (fun a' => a' = A) (pick l hs)) a := by
        unfold qOp
        simp only [h0]
        exact h U hU hn
      obtain ⟨v, hy, hK⟩ := yieldsIn_of_qOp h0 hq
      refine ⟨v, hy, hK, ?_⟩
      rw [quiet_keeps _ _ hK d hds2, hod]
      simp [Act.put, hds1]
    obtain ⟨v, _, _, hv⟩ := hone (fun _ => True) (fun _ _ _ _ => trivial) ⟨⟨w0, Kept.refl _ _, trivial⟩⟩
    have hall : ∀ U, UpC U → Nonempty (AfterU w0 U) → YieldsIn P ops (CU w0 U) o v a ∧ wpQuiet P ops (CU w0 U) (fun a' => a' = A) (pick l hs) (a.put o.dst v) := fun U hU hn => by
      obtain ⟨u, h1, h2, h3⟩ := hone U hU hn
      have : u = v := by
        rw [← hv] at h3
        exact Option.some.inj h3
      subst this
      exact ⟨h1, h2⟩
    rw [show (k :: hs).length + ts.length = (hs.length + ts.length) + 1 by simp; omega]
    refine AnyH.first h0 (hin k (by simp)) (Region.noSelect_spec hsel) (fun c a w => by rw [hod]; exact hQ d v c a w) ?_ _ done a hds (Region.free_spec h0 hf) (by simpa using hr) (fun U hU ⟨w, hw⟩ => (hall U hU (by obtain ⟨z, _⟩ := hw; exact ⟨z⟩)).1) ?_
    · rcases hw with hw | hw
      · left
        rw [h0] at hw
        simpa using hw
      · exact .inr fun d hd hu => heldBy_spec hw hd hu
    · refine AnyH.heads hl hsel hQ ts hts hdt A hA hs _ _ (fun i h => hi i (List.mem_cons_of_mem _ h)) (fun i h => hin i (List.mem_cons_of_mem _ h)) hB' ?_ (hds.set (by simpa using hr)) (fun U hU hn => (hall U hU hn).2)
      rw [hod]
      simpa [Act.put] using hd2

def headH (l : List Oper) (hs ts : List Nat) (size : Nat) : Bool := Region.noSelect l.toArray && decide (hs.length + ts.length = l.length) && hs.all (fun i => decide (i < l.length)) && ts.all (fun i => decide (i < l.length)) && ts.all (fun i => !hs.contains i) &&
  lexH .any l.toArray hs ts hs (Array.replicate l.length false) && dstsB size (pick l hs)
/-- One walk: heads in an order that is named, then the tail. -/
theorem wp_region_heads {id : Nat} {a : Act} {w : World} {l : List Oper} (hs ts : List Nat) (hm : P.follows .mixedOrders = true) (hB : headH l hs ts a.tmps.size = true)
    (hQ : ∀ (d : Tmp) v c a w, Q (.panic c) (a.put (some d) v) w → Q (.panic c) a w)
    (h : ∃ A, (∀ U, UpC U → Nonempty (AfterU w U) → wpQuiet P l.toArray (fun w' => ∃ z : AfterU w U, w' = z.1) (fun a' => a' = A) (pick l hs) a) ∧ ∀ w', Kept [] w w' → wpList P l.toArray Q (pick l ts) A w') :
    (Code.region id l.toArray true).wp P Q a w := by
  obtain ⟨A, h1, h2⟩ := h
  simp only [headH, Bool.and_eq_true, decide_eq_true_eq, List.all_eq_true] at hB
  obtain ⟨⟨⟨⟨⟨⟨hs1, hlen⟩, hh⟩, ht⟩, hdt⟩, hx⟩, hd⟩ := hB
  have hsz : l.toArray.size = l.length := by simp
  refine wp_region_any hm ?_
  have key := AnyH.heads (P := P) (md := .any) (ops := l.toArray) (Q := Q) (w0 := w) (hd := hs) rfl hs1 hQ ts ht (fun i hi => by simpa using hdt i hi) A h2 hs (Array.replicate l.length false) a hh (fun _ h => h) hx hd (by simpa using Closed.none (md := .any) (ops := l.toArray)) h1
  have := AnyH.any (P := P) (md := .any) (ops := l.toArray) (Q := Q) (w0 := w) (hd := hs) _ _ a { w with drawn := w.drawn + 1 } (CU.mk ⟨rfl, rfl, rfl, Nat.le_refl _, fun _ _ _ => rfl⟩ trivial) key
  rw [hlen] at this
  rw [hsz]
  exact this
end
end Go.Proofs.YtgdjhhfbpalkdaaGreat
