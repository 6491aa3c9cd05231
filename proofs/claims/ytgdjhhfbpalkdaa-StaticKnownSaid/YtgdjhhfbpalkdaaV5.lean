/- Values: bounds; monadic. -/
import Derived.Test.YtgdjhhfbpalkdaaV4
import Derived.Test.YtgdjhhfbpalkdaaS13
namespace Go.Proofs.Ytgdjhhfbpalkdaa
open Go.RowKit

theorem span_bd {t : Tab} (hl : ∀ y, y ∈ t.types → y.lits.length ≤ 140737488355328) {ty : Int} {b : Bd} (h : spanP t ty = some b) : -4611686018427387904 ≤ b.1 ∧ b.2 ≤ 4611686018427387904 := by
  unfold spanP at h
  split at h
  · cases h
  · rename_i hc
    simp only at h
    have hy : (t.types.getD ty.toNat default).lits.length ≤ 140737488355328 := by
      have hlt : ty.toNat < t.types.length := by omega
      have e : t.types.getD ty.toNat default = t.types[ty.toNat] := by simp [List.getD_eq_getElem?_getD, hlt]
      rw [e]
      exact hl _ (List.getElem_mem hlt)
    generalize t.types.getD ty.toNat default = y at *
    split at h
    · injection h with h; subst h; simp
    split at h
    · cases h
    split at h
    · injection h with h; subst h; simp
    split at h
    · injection h with h; subst h; simp; omega
    · cases h
theorem within_bd {x : Int} {b : Bd} {z : Int} (h : withinP x b = some z) : z = x ∧ b.1 ≤ z ∧ z ≤ b.2 := by
  unfold withinP at h
  split at h
  · cases h
  · injection h with h; subst h; omega
theorem val_bd {t : Tab} (hl : ∀ y, y ∈ t.types → y.lits.length ≤ 140737488355328) {n : Nat} {x : ExV} {z : Int} (h : valP t n x = some z) : InB z := by
  cases n with
  | zero => cases h
  | succ n =>
    simp only [valP, valF] at h
    split at h
    · cases h
    · split at h
      · cases h
      · rename_i b hb
        have h1 := span_bd hl hb
        have h2 := within_bd h
        exact ⟨by omega, by omega⟩
/-- What value tells of expressions to a depth. -/
def ValAt (v : TabV) (t : Tab) (n : Nat) : Prop := ∀ w x, TabIn w v t → ExIn w n x → isP t n x = true → Calls Try.prog 25 #[.agg (v.cells t), .agg x.cells.toArray] w (RetO (valP t n x) w)
theorem Calls.retP {P : Program} {f : FuncId} {args : Array Value} {w : World} {o : Option Int} (h : Calls P f args w (RetO o w)) (ho : o = none) : Calls P f args w (RetP w) := by subst ho; exact h
theorem Calls.retV {P : Program} {f : FuncId} {args : Array Value} {w : World} {o : Option Int} {z : Int} (h : Calls P f args w (RetO o w)) (ho : o = some z) : Calls P f args w (RetV (.int .i64 z) w) := by subst ho; exact h

set_option maxRecDepth 100000 in
set_option maxHeartbeats 2000000 in
theorem monadic_any (w : World) (v : TabV) (t : Tab) (x : ExV) (n : Nat) (ih : ValAt v t n) (hT : TabIn w v t) (hx : ExIn w (n + 1) x) (hl : x.ls.length = 1) (hI : isP t n (l0 x) = true) :
    Calls Try.prog 56 #[.agg (v.cells t), .agg x.cells.toArray] w (RetO (monV (valP t n) x) w) := by
  obtain ⟨b0, o0, ha, hat, hi0⟩ := ex_first hx (by omega)
  have HV := Lib.hid (fun w' (hk : Kept [] w w') => ih w' (l0 x) (hT.kept hk) (hi0.kept hk) hI)
  have HB := Lib.hid (fun z (h : valP t n (l0 x) = some z) => val_bd hT.ll h)
  have HM : Hid (monV (valP t n) x = match valP t n (l0 x) with | none => none | some a => some (if x.oper = 19 then -a else if x.oper = 20 then absP a else if x.oper = 21 then truthP (a == 0) else a)) := rfl
  have q1 := hx.2.2.2.2.1
  have hl2 : (0 : Int) < (x.ls.length : Int) := by omega
  clear ih hT hx hl hI hi0
  generalize valP t n (l0 x) = o at *
  generalize l0 x = y at *
  unfold TabV.cells at *
  go_enter Try.func56, Try.ntmps56
  go_wp2_with fail
  refine wp_region_head 5 0 (fun _ => .cells #[] 0) (by kernel_rfl) (by kernel_rfl) (fun i o h1 h2 => by omega) (fun _ _ _ _ _ h => h) ?_; apply Exists.intro; refine ⟨fun U hU hN => ?_, ?_⟩; simp only [List.take_succ_cons, List.take_zero]
  · repeat (go_big_quiet_step (fail))
    refine wpQuiet_nil ?_
    exact rfl
  simp only [List.drop_succ_cons, List.drop_zero, List.take_succ_cons, List.take_zero]
  intro w4 hk4 _
  haveI p_w4 : PrevWorld w4 _ := ⟨hk4⟩
  go_wp2_with fail
  cases o with
  | none =>
    have HW : Hid (monV (valP t n) x = none) := HM.out
    refine (Calls.retP (HV.out _ (by repeat (first | with_reducible exact HK.out | with_reducible exact Kept.refl _ _ | with_reducible refine Kept.prev ?_ | with_reducible refine Kept.alloc' ?_ _ | with_reducible refine Kept.drew' ?_ | with_reducible refine Kept.setB ?_ _ _ _ (by omega) | with_reducible refine Kept.row' ?_ _ _ (by omega) | with_reducible refine Kept.map' ?_ _ _ (by omega)))) rfl).mono ?_; rintro e w5 ⟨rfl, hk_w5⟩; haveI p_w5 : PrevWorld w5 _ := ⟨hk_w5⟩; have hz_w5 : w.heap.size ≤ w5.heap.size := Kept.size (by repeat (first | with_reducible exact HK.out | with_reducible exact Kept.refl _ _ | with_reducible refine Kept.prev ?_ | with_reducible refine Kept.alloc' ?_ _ | with_reducible refine Kept.drew' ?_ | with_reducible refine Kept.setB ?_ _ _ _ (by omega) | with_reducible refine Kept.row' ?_ _ _ (by omega) | with_reducible refine Kept.map' ?_ _ _ (by omega))); clear hk_w5
    show bodyPost _ _ (RetO _ w) (.panic failC) _ _
    rw [HW.out]
    exact bodyPost_p rfl (by repeat (first | with_reducible exact HK.out | with_reducible exact Kept.refl _ _ | with_reducible refine Kept.prev ?_ | with_reducible refine Kept.alloc' ?_ _ | with_reducible refine Kept.drew' ?_ | with_reducible refine Kept.setB ?_ _ _ _ (by omega) | with_reducible refine Kept.row' ?_ _ _ (by omega) | with_reducible refine Kept.map' ?_ _ _ (by omega)))
  | some a =>
    have HW0 : Hid (monV (valP t n) x = some (if x.oper = 19 then -a else if x.oper = 20 then absP a else if x.oper = 21 then truthP (a == 0) else a)) := HM.out
    obtain ⟨a1, a2⟩ := HB.out a rfl
    refine (Calls.retV (HV.out _ (by repeat (first | with_reducible exact HK.out | with_reducible exact Kept.refl _ _ | with_reducible refine Kept.prev ?_ | with_reducible refine Kept.alloc' ?_ _ | with_reducible refine Kept.drew' ?_ | with_reducible refine Kept.setB ?_ _ _ _ (by omega) | with_reducible refine Kept.row' ?_ _ _ (by omega) | with_reducible refine Kept.map' ?_ _ _ (by omega)))) rfl).mono ?_; rintro e w5 ⟨rfl, hk_w5⟩; haveI p_w5 : PrevWorld w5 _ := ⟨hk_w5⟩; have hz_w5 : w.heap.size ≤ w5.heap.size := Kept.size (by repeat (first | with_reducible exact HK.out | with_reducible exact Kept.refl _ _ | with_reducible refine Kept.prev ?_ | with_reducible refine Kept.alloc' ?_ _ | with_reducible refine Kept.drew' ?_ | with_reducible refine Kept.setB ?_ _ _ _ (by omega) | with_reducible refine Kept.row' ?_ _ _ (by omega) | with_reducible refine Kept.map' ?_ _ _ (by omega))); clear hk_w5
    clear HV HM HB
    by_cases k19 : x.oper = 19
    · have HW : Hid (monV (valP t n) x = some (-a)) := by rw [Hid, HW0.out, if_pos k19]
      clear HW0
      go_wp2_with fail
      rw [HW.out]
      exact bodyPost_o rfl (res1 Try.results56 (resT rfl)) (by repeat (first | with_reducible exact HK.out | with_reducible exact Kept.refl _ _ | with_reducible refine Kept.prev ?_ | with_reducible refine Kept.alloc' ?_ _ | with_reducible refine Kept.drew' ?_ | with_reducible refine Kept.setB ?_ _ _ _ (by omega) | with_reducible refine Kept.row' ?_ _ _ (by omega) | with_reducible refine Kept.map' ?_ _ _ (by omega)))
    have e19 : (x.oper == 19) = false := by simp [k19]
    by_cases k20 : x.oper = 20
    · have HW : Hid (monV (valP t n) x = some (absP a)) := by rw [Hid, HW0.out, if_neg k19, if_pos k20]
      clear HW0 k19
      by_cases hneg : a < 0
      · have HA : Hid (absP a = -a) := by rw [Hid, absP, if_pos hneg]
        go_wp2_with fail
        rw [HW.out, HA.out]
        exact bodyPost_o rfl (res1 Try.results56 (resT rfl)) (by repeat (first | with_reducible exact HK.out | with_reducible exact Kept.refl _ _ | with_reducible refine Kept.prev ?_ | with_reducible refine Kept.alloc' ?_ _ | with_reducible refine Kept.drew' ?_ | with_reducible refine Kept.setB ?_ _ _ _ (by omega) | with_reducible refine Kept.row' ?_ _ _ (by omega) | with_reducible refine Kept.map' ?_ _ _ (by omega)))
      · have HA : Hid (absP a = a) := by rw [Hid, absP, if_neg hneg]
        have hpos : 0 ≤ a := by omega
        go_wp2_with fail
        rw [HW.out, HA.out]
        exact bodyPost_o rfl (res1 Try.results56 (resT rfl)) (by repeat (first | with_reducible exact HK.out | with_reducible exact Kept.refl _ _ | with_reducible refine Kept.prev ?_ | with_reducible refine Kept.alloc' ?_ _ | with_reducible refine Kept.drew' ?_ | with_reducible refine Kept.setB ?_ _ _ _ (by omega) | with_reducible refine Kept.row' ?_ _ _ (by omega) | with_reducible refine Kept.map' ?_ _ _ (by omega)))
    have e20 : (x.oper == 20) = false := by simp [k20]
    by_cases k21 : x.oper = 21
    · have HW : Hid (monV (valP t n) x = some (truthP (a == 0))) := by rw [Hid, HW0.out, if_neg k19, if_neg k20, if_pos k21]
      clear HW0 k19 k20
      go_wp2_with fail
      refine (truth_any _ _).mono ?_; rintro e w6 ⟨rfl, hk_w6⟩; haveI p_w6 : PrevWorld w6 _ := ⟨hk_w6⟩; have hz_w6 : w.heap.size ≤ w6.heap.size := Kept.size (by repeat (first | with_reducible exact HK.out | with_reducible exact Kept.refl _ _ | with_reducible refine Kept.prev ?_ | with_reducible refine Kept.alloc' ?_ _ | with_reducible refine Kept.drew' ?_ | with_reducible refine Kept.setB ?_ _ _ _ (by omega) | with_reducible refine Kept.row' ?_ _ _ (by omega) | with_reducible refine Kept.map' ?_ _ _ (by omega))); clear hk_w6
      go_wp2_with fail
      rw [HW.out]
      exact bodyPost_o rfl (res1 Try.results56 (resT rfl)) (by repeat (first | with_reducible exact HK.out | with_reducible exact Kept.refl _ _ | with_reducible refine Kept.prev ?_ | with_reducible refine Kept.alloc' ?_ _ | with_reducible refine Kept.drew' ?_ | with_reducible refine Kept.setB ?_ _ _ _ (by omega) | with_reducible refine Kept.row' ?_ _ _ (by omega) | with_reducible refine Kept.map' ?_ _ _ (by omega)))
    have HW : Hid (monV (valP t n) x = some a) := by rw [Hid, HW0.out, if_neg k19, if_neg k20, if_neg k21]
    have e21 : (x.oper == 21) = false := by simp [k21]
    clear HW0 k19 k20 k21
    go_wp2_with fail
    rw [HW.out]
    exact bodyPost_o rfl (res1 Try.results56 (resT rfl)) (by repeat (first | with_reducible exact HK.out | with_reducible exact Kept.refl _ _ | with_reducible refine Kept.prev ?_ | with_reducible refine Kept.alloc' ?_ _ | with_reducible refine Kept.drew' ?_ | with_reducible refine Kept.setB ?_ _ _ _ (by omega) | with_reducible refine Kept.row' ?_ _ _ (by omega) | with_reducible refine Kept.map' ?_ _ _ (by omega)))
end Go.Proofs.Ytgdjhhfbpalkdaa
