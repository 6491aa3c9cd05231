/- raw as a whole; value. -/
import Derived.Test.YtgdjhhfbpalkdaaV12
namespace Go.Proofs.Ytgdjhhfbpalkdaa
open Go.RowKit

theorem raw_any (w : World) (v : TabV) (t : Tab) (x : ExV) (n : Nat) (ih : ValAt v t n) (hT : TabIn w v t) (hx : ExIn w (n + 1) x) (hI : isF (isP t n) t x = true) : RawIs w v t x n := by
  unfold isF at hI
  rw [Bool.and_eq_true] at hI
  obtain ⟨_, hI⟩ := hI
  by_cases k1 : x.kind = 1
  · exact raw_int w v t x n k1
  rw [if_neg k1] at hI
  by_cases k3 : x.kind = 3 ∨ x.kind = 4
  · exact raw_name w v t x n hT k3
  rw [if_neg k3] at hI
  by_cases k6 : x.kind = 6
  · rw [if_pos k6] at hI
    exact raw_attr w v t x n hT hx hI k6
  rw [if_neg k6] at hI
  by_cases k7 : x.kind = 7
  · rw [if_pos k7] at hI
    exact raw_call w v t x n ih hT hx hI k7
  rw [if_neg k7] at hI
  by_cases k8 : x.kind = 8
  · rw [if_pos k8] at hI
    exact raw_qual w v t x n ih hT hx hI k8
  rw [if_neg k8] at hI
  by_cases k10 : x.kind = 10
  · rw [if_pos k10] at hI
    exact raw_if w v t x n ih hT hx hI k10
  rw [if_neg k10] at hI
  by_cases k11 : x.kind = 11
  · rw [if_pos k11, Bool.and_eq_true] at hI
    exact raw_mono w v t x n ih hT hx hI.2 k11
  rw [if_neg k11] at hI
  by_cases k12 : x.kind = 12
  · rw [if_pos k12, Bool.and_eq_true, decide_eq_true_eq] at hI
    exact raw_two w v t x n ih hT hx hI.2 hI.1 k12
  rw [if_neg k12] at hI
  by_cases k13 : x.kind = 13
  · rw [if_pos (.inl k13)] at hI
    exact raw_in w v t x n ih hT hx hI k13
  by_cases k14 : x.kind = 14
  · rw [if_pos (.inr k14)] at hI
    exact raw_not w v t x n ih hT hx hI k14
  rw [if_neg (by rintro (h | h) <;> contradiction)] at hI
  cases hI
set_option maxRecDepth 100000 in
set_option maxHeartbeats 4000000 in
theorem value_any (w : World) (v : TabV) (t : Tab) (x : ExV) (n : Nat) (ih : ValAt v t n) (hT : TabIn w v t) (hx : ExIn w (n + 1) x) (hI : isF (isP t n) t x = true) :
    Calls Try.prog 25 #[.agg (v.cells t), .agg x.cells.toArray] w (RetO (valF (valP t n) t x) w) := by
  have HS := Lib.hid (fun w' (hk : Kept [] w w') => span_any w' v t x.t (hT.kept hk))
  have HR := Lib.hid (fun w' (hk : Kept [] w w') => raw_any w' v t x n ih (hT.kept hk) (hx.kept hk) hI)
  have hsp : (spanP t x.t).isSome = true := by
    unfold isF at hI
    rw [Bool.and_eq_true] at hI
    exact hI.1
  obtain ⟨b, hb⟩ := Option.isSome_iff_exists.1 hsp
  have HM : Hid (valF (valP t n) t x = match rawF (valP t n) t x with | none => none | some u => withinP u b) := by
    rw [Hid, valF, hb]
    cases rawF (valP t n) t x <;> rfl
  rw [hb] at HS
  clear hT hx hI ih hsp hb
  unfold RawIs at HR
  unfold TabV.cells at *
  unfold bdV at HS
  simp only [Option.getD_some, Option.isSome_some] at HS
  generalize rawF (valP t n) t x = o at *
  go_enter Try.func25, Try.ntmps25
  go_wp2_with fail
  refine (HS.out _ (by repeat (first | with_reducible exact HK.out | with_reducible exact Kept.refl _ _ | with_reducible refine Kept.prev ?_ | with_reducible refine Kept.alloc' ?_ _ | with_reducible refine Kept.drew' ?_ | with_reducible refine Kept.setB ?_ _ _ _ (by omega) | with_reducible refine Kept.row' ?_ _ _ (by omega) | with_reducible refine Kept.map' ?_ _ _ (by omega)))).mono ?_; rintro e w2 ⟨rfl, hk_w2⟩; haveI p_w2 : PrevWorld w2 _ := ⟨hk_w2⟩; have hz_w2 : w.heap.size ≤ w2.heap.size := Kept.size (by repeat (first | with_reducible exact HK.out | with_reducible exact Kept.refl _ _ | with_reducible refine Kept.prev ?_ | with_reducible refine Kept.alloc' ?_ _ | with_reducible refine Kept.drew' ?_ | with_reducible refine Kept.setB ?_ _ _ _ (by omega) | with_reducible refine Kept.row' ?_ _ _ (by omega) | with_reducible refine Kept.map' ?_ _ _ (by omega))); clear hk_w2
  clear HS
  cases o with
  | none =>
    have HW : Hid (valF (valP t n) t x = none) := HM.out
    go_wp2_with fail
    refine wp_region_stop [0,1,3] 2 (by kernel_rfl) (by kernel_rfl) (fun _ _ _ _ _ h => h) ?_; apply Exists.intro; refine ⟨fun U hU hN => ?_, ?_⟩; simp only [pick, List.flatMap_cons, List.flatMap_nil, List.getElem?_cons_zero, List.getElem?_cons_succ, Option.toList_some, List.cons_append, List.nil_append]
    · repeat (go_big_quiet_step (fail))
      refine wpQuiet_nil ?_
      exact rfl
    simp only [pick, List.flatMap_cons, List.flatMap_nil, List.getElem?_cons_zero, List.getElem?_cons_succ, Option.toList_some, List.cons_append, List.nil_append]
    intro w8 hk8
    haveI p_w8 : PrevWorld w8 _ := ⟨hk8⟩
    clear hk8
    go_wp2_with fail
    refine (Calls.retP (HR.out _ (by repeat (first | with_reducible exact HK.out | with_reducible exact Kept.refl _ _ | with_reducible refine Kept.prev ?_ | with_reducible refine Kept.alloc' ?_ _ | with_reducible refine Kept.drew' ?_ | with_reducible refine Kept.setB ?_ _ _ _ (by omega) | with_reducible refine Kept.row' ?_ _ _ (by omega) | with_reducible refine Kept.map' ?_ _ _ (by omega)))) rfl).mono ?_; rintro e w9 ⟨rfl, hk_w9⟩; haveI p_w9 : PrevWorld w9 _ := ⟨hk_w9⟩; have hz_w9 : w.heap.size ≤ w9.heap.size := Kept.size (by repeat (first | with_reducible exact HK.out | with_reducible exact Kept.refl _ _ | with_reducible refine Kept.prev ?_ | with_reducible refine Kept.alloc' ?_ _ | with_reducible refine Kept.drew' ?_ | with_reducible refine Kept.setB ?_ _ _ _ (by omega) | with_reducible refine Kept.row' ?_ _ _ (by omega) | with_reducible refine Kept.map' ?_ _ _ (by omega))); clear hk_w9
    simp only [OnlyP]
    show bodyPost Try.prog Try.f25 _ (.panic failC) _ _
    rw [HW.out]
    exact bodyPost_p rfl (by repeat (first | with_reducible exact HK.out | with_reducible exact Kept.refl _ _ | with_reducible refine Kept.prev ?_ | with_reducible refine Kept.alloc' ?_ _ | with_reducible refine Kept.drew' ?_ | with_reducible refine Kept.setB ?_ _ _ _ (by omega) | with_reducible refine Kept.row' ?_ _ _ (by omega) | with_reducible refine Kept.map' ?_ _ _ (by omega)))
  | some u =>
    have HW1 : Hid (valF (valP t n) t x = withinP u b) := HM.out
    go_wp2_with fail
    refine wp_region_heads [0,1,3,2] [4,5] (by kernel_rfl) (by kernel_rfl) (fun _ _ _ _ _ h => h) ?_; apply Exists.intro; refine ⟨fun U hU hN => ?_, ?_⟩; simp only [pick, List.flatMap_cons, List.flatMap_nil, List.getElem?_cons_zero, List.getElem?_cons_succ, Option.toList_some, List.cons_append, List.nil_append]
    · iterate 3 (go_big_quiet_step (fail))
      go_big_quiet_step (exact Calls.headV hU (Calls.retV (HR.out _ (Kept.trans (by repeat (first | with_reducible exact HK.out | with_reducible exact Kept.refl _ _ | with_reducible refine Kept.prev ?_ | with_reducible refine Kept.alloc' ?_ _ | with_reducible refine Kept.drew' ?_ | with_reducible refine Kept.setB ?_ _ _ _ (by omega) | with_reducible refine Kept.row' ?_ _ _ (by omega) | with_reducible refine Kept.map' ?_ _ _ (by omega))) (AfterU.prop _))) rfl))
      refine wpQuiet_nil ?_
      exact rfl
    simp only [pick, List.flatMap_cons, List.flatMap_nil, List.getElem?_cons_zero, List.getElem?_cons_succ, Option.toList_some, List.cons_append, List.nil_append]
    intro w8 hk8
    haveI p_w8 : PrevWorld w8 _ := ⟨hk8⟩
    clear hk8 HR HM
    go_wp2_with fail
    cases hq : withinP u b with
    | none =>
      have HW : Hid (valF (valP t n) t x = none) := by rw [Hid, HW1.out, hq]
      refine (Calls.retP (within_any _ _ b) hq).mono ?_; rintro e w10 ⟨rfl, hk_w10⟩; haveI p_w10 : PrevWorld w10 _ := ⟨hk_w10⟩; have hz_w10 : w.heap.size ≤ w10.heap.size := Kept.size (by repeat (first | with_reducible exact HK.out | with_reducible exact Kept.refl _ _ | with_reducible refine Kept.prev ?_ | with_reducible refine Kept.alloc' ?_ _ | with_reducible refine Kept.drew' ?_ | with_reducible refine Kept.setB ?_ _ _ _ (by omega) | with_reducible refine Kept.row' ?_ _ _ (by omega) | with_reducible refine Kept.map' ?_ _ _ (by omega))); clear hk_w10
      show bodyPost _ _ _ (.panic failC) _ _
      rw [HW.out]
      exact bodyPost_p rfl (by repeat (first | with_reducible exact HK.out | with_reducible exact Kept.refl _ _ | with_reducible refine Kept.prev ?_ | with_reducible refine Kept.alloc' ?_ _ | with_reducible refine Kept.drew' ?_ | with_reducible refine Kept.setB ?_ _ _ _ (by omega) | with_reducible refine Kept.row' ?_ _ _ (by omega) | with_reducible refine Kept.map' ?_ _ _ (by omega)))
    | some u' =>
      have HW : Hid (valF (valP t n) t x = some u') := by rw [Hid, HW1.out, hq]
      refine (Calls.retV (within_any _ _ b) hq).mono ?_; rintro e w10 ⟨rfl, hk_w10⟩; haveI p_w10 : PrevWorld w10 _ := ⟨hk_w10⟩; have hz_w10 : w.heap.size ≤ w10.heap.size := Kept.size (by repeat (first | with_reducible exact HK.out | with_reducible exact Kept.refl _ _ | with_reducible refine Kept.prev ?_ | with_reducible refine Kept.alloc' ?_ _ | with_reducible refine Kept.drew' ?_ | with_reducible refine Kept.setB ?_ _ _ _ (by omega) | with_reducible refine Kept.row' ?_ _ _ (by omega) | with_reducible refine Kept.map' ?_ _ _ (by omega))); clear hk_w10
      clear hq
      go_wp2_with fail
      rw [HW.out]
      exact bodyPost_o rfl (res1 Try.results25 (resT rfl)) (by repeat (first | with_reducible exact HK.out | with_reducible exact Kept.refl _ _ | with_reducible refine Kept.prev ?_ | with_reducible refine Kept.alloc' ?_ _ | with_reducible refine Kept.drew' ?_ | with_reducible refine Kept.setB ?_ _ _ _ (by omega) | with_reducible refine Kept.row' ?_ _ _ (by omega) | with_reducible refine Kept.map' ?_ _ _ (by omega)))
/-- value, of what is static: to every depth. -/
theorem val_any (v : TabV) (t : Tab) : ∀ n, ValAt v t n
  | 0 => fun _ _ _ hx _ => hx.elim
  | n + 1 => fun w x hT hx hI => value_any w v t x n (val_any v t n) hT hx hI
end Go.Proofs.Ytgdjhhfbpalkdaa
