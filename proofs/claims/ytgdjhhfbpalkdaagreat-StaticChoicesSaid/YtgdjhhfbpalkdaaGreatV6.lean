/- Values: bounds; monadic. member. -/
import Derived.Test.YtgdjhhfbpalkdaaGreatV4
import Derived.Test.YtgdjhhfbpalkdaaGreatS13
namespace Go.Proofs.YtgdjhhfbpalkdaaGreat
open Go.RowKit

theorem span_bd {t : Tab} (hl : ∀ y, y ∈ t.types → y.lits.length ≤ 140737488355328) {ty : Int} {b : Bd} (h : spanP t ty = some b) : -4611686018427387904 ≤ b.1 ∧ b.2 ≤ 4611686018427387904 := by
  unfold spanP at h
  split at h
  · cases h
  · rename_i hc
    simp only at h
    have hy : (t.types.getD ty.toNat default).lits.length ≤ 140737488355328 := by
      have hlt : ty.toNat < t.types.length := by omega
      have e : t.types.getD ty.toNat default = t.types[ty.toNat] := by simp [List.getD_eq_getElem?_getD, hlt]
      rw [e]
      exact hl _ (List.getElem_mem hlt)
    generalize t.types.getD ty.toNat default = y at *
    split at h
    · injection h with h; subst h; simp
    split at h
    · cases h
    split at h
    · injection h with h; subst h; simp
    split at h
    · injection h with h; subst h; simp; omega
    · cases h
theorem within_bd {x : Int} {b : Bd} {z : Int} (h : withinP x b = some z) : z = x ∧ b.1 ≤ z ∧ z ≤ b.2 := by
  unfold withinP at h
  split at h
  · cases h
  · injection h with h; subst h; omega
theorem val_bd {t : Tab} (hl : ∀ y, y ∈ t.types → y.lits.length ≤ 140737488355328) {n : Nat} {x : ExV} {z : Int} (h : valP t n x = some z) : InB z := by
  cases n with
  | zero => cases h
  | succ n =>
    simp only [valP, valF] at h
    split at h
    · cases h
    · split at h
      · cases h
      · rename_i b hb
        have h1 := span_bd hl hb
        have h2 := within_bd h
        exact ⟨by omega, by omega⟩
/-- What value tells of expressions to a depth. -/
def ValAt (v : TabV) (t : Tab) (n : Nat) : Prop := ∀ w x, TabIn w v t → ExIn w n x → isP t n x = true → Calls Tryz.prog 19 #[.agg (v.cells t), .agg x.cells.toArray] w (RetO (valP t n x) w)
theorem Calls.retP {P : Program} {f : FuncId} {args : Array Value} {w : World} {o : Option Int} (h : Calls P f args w (RetO o w)) (ho : o = none) : Calls P f args w (RetP w) := by subst ho; exact h
theorem Calls.retV {P : Program} {f : FuncId} {args : Array Value} {w : World} {o : Option Int} {z : Int} (h : Calls P f args w (RetO o w)) (ho : o = some z) : Calls P f args w (RetV (.int .i64 z) w) := by subst ho; exact h

set_option maxRecDepth 100000 in
set_option maxHeartbeats 2000000 in
theorem monadic_any (w : World) (v : TabV) (t : Tab) (x : ExV) (n : Nat) (ih : ValAt v t n) (hT : TabIn w v t) (hx : ExIn w (n + 1) x) (hl : x.ls.length = 1) (hI : isP t n (l0 x) = true) :
    Calls Tryz.prog 74 #[.agg (v.cells t), .agg x.cells.toArray] w (RetO (monV (valP t n) x) w) := by
  obtain ⟨b0, o0, ha, hat, hi0⟩ := ex_first hx (by omega)
  have HV := Lib.hid (fun w' (hk : Kept [] w w') => ih w' (l0 x) (hT.kept hk) (hi0.kept hk) hI)
  have HB := Lib.hid (fun z (h : valP t n (l0 x) = some z) => val_bd hT.ll h)
  have HM : Hid (monV (valP t n) x = match valP t n (l0 x) with | none => none | some a => some (if x.oper = 19 then -a else if x.oper = 20 then absP a else if x.oper = 21 then truthP (a == 0) else a)) := rfl
  have q1 := hx.2.2.2.2.1
  have hl2 : (0 : Int) < (x.ls.length : Int) := by omega
  clear ih hT hx hl hI hi0
  generalize valP t n (l0 x) = o at *
  generalize l0 x = y at *
  unfold TabV.cells at *
  go_enter Tryz.func74, Tryz.ntmps74
  go_wp2_with fail
  refine wp_region_head 5 0 (fun _ => .cells #[] 0) (by kernel_rfl) (by kernel_rfl) (fun i o h1 h2 => by omega) (fun _ _ _ _ _ h => h) ?_; apply Exists.intro; refine ⟨fun U hU hN => ?_, ?_⟩; simp only [List.take_succ_cons, List.take_zero]
  · repeat (go_big_quiet_step (fail))
    refine wpQuiet_nil ?_
    exact rfl
  simp only [List.drop_succ_cons, List.drop_zero, List.take_zero]
  intro w4 hk4 _
  haveI p_w4 : PrevWorld w4 _ := ⟨hk4⟩
  go_wp2_with fail
  cases o with
  | none =>
    have HW : Hid (monV (valP t n) x = none) := HM.out
    refine (Calls.retP (HV.out _ (by repeat (first | with_reducible exact HK.out | with_reducible exact Kept.refl _ _ | with_reducible refine Kept.prev ?_ | with_reducible refine Kept.alloc' ?_ _ | with_reducible refine Kept.drew' ?_ | with_reducible refine Kept.setB ?_ _ _ _ (by omega) | with_reducible refine Kept.row' ?_ _ _ (by omega) | with_reducible refine Kept.map' ?_ _ _ (by omega)))) rfl).mono ?_; rintro e w5 ⟨rfl, hk_w5⟩; haveI p_w5 : PrevWorld w5 _ := ⟨hk_w5⟩; have hz_w5 : w.heap.size ≤ w5.heap.size := Kept.size (by repeat (first | with_reducible exact HK.out | with_reducible exact Kept.refl _ _ | with_reducible refine Kept.prev ?_ | with_reducible refine Kept.alloc' ?_ _ | with_reducible refine Kept.drew' ?_ | with_reducible refine Kept.setB ?_ _ _ _ (by omega) | with_reducible refine Kept.row' ?_ _ _ (by omega) | with_reducible refine Kept.map' ?_ _ _ (by omega))); clear hk_w5
    show bodyPost _ _ (RetO _ w) (.panic failC) _ _
    rw [HW.out]
    exact bodyPost_p rfl (by repeat (first | with_reducible exact HK.out | with_reducible exact Kept.refl _ _ | with_reducible refine Kept.prev ?_ | with_reducible refine Kept.alloc' ?_ _ | with_reducible refine Kept.drew' ?_ | with_reducible refine Kept.setB ?_ _ _ _ (by omega) | with_reducible refine Kept.row' ?_ _ _ (by omega) | with_reducible refine Kept.map' ?_ _ _ (by omega)))
  | some a =>
    have HW0 : Hid (monV (valP t n) x = some (if x.oper = 19 then -a else if x.oper = 20 then absP a else if x.oper = 21 then truthP (a == 0) else a)) := HM.out
    obtain ⟨a1, a2⟩ := HB.out a rfl
    refine (Calls.retV (HV.out _ (by repeat (first | with_reducible exact HK.out | with_reducible exact Kept.refl _ _ | with_reducible refine Kept.prev ?_ | with_reducible refine Kept.alloc' ?_ _ | with_reducible refine Kept.drew' ?_ | with_reducible refine Kept.setB ?_ _ _ _ (by omega) | with_reducible refine Kept.row' ?_ _ _ (by omega) | with_reducible refine Kept.map' ?_ _ _ (by omega)))) rfl).mono ?_; rintro e w5 ⟨rfl, hk_w5⟩; haveI p_w5 : PrevWorld w5 _ := ⟨hk_w5⟩; have hz_w5 : w.heap.size ≤ w5.heap.size := Kept.size (by repeat (first | with_reducible exact HK.out | with_reducible exact Kept.refl _ _ | with_reducible refine Kept.prev ?_ | with_reducible refine Kept.alloc' ?_ _ | with_reducible refine Kept.drew' ?_ | with_reducible refine Kept.setB ?_ _ _ _ (by omega) | with_reducible refine Kept.row' ?_ _ _ (by omega) | with_reducible refine Kept.map' ?_ _ _ (by omega))); clear hk_w5
    clear HV HM HB
    by_cases k19 : x.oper = 19
    · have HW : Hid (monV (valP t n) x = some (-a)) := by rw [Hid, HW0.out, if_pos k19]
      clear HW0
      go_wp2_with fail
      rw [HW.out]
      exact bodyPost_o rfl (res1 Tryz.results74 (resT rfl)) (by repeat (first | with_reducible exact HK.out | with_reducible exact Kept.refl _ _ | with_reducible refine Kept.prev ?_ | with_reducible refine Kept.alloc' ?_ _ | with_reducible refine Kept.drew' ?_ | with_reducible refine Kept.setB ?_ _ _ _ (by omega) | with_reducible refine Kept.row' ?_ _ _ (by omega) | with_reducible refine Kept.map' ?_ _ _ (by omega)))
    have e19 : (x.oper == 19) = false := by simp [k19]
    by_cases k20 : x.oper = 20
    · have HW : Hid (monV (valP t n) x = some (absP a)) := by rw [Hid, HW0.out, if_neg k19, if_pos k20]
      clear HW0 k19
      by_cases hneg : a < 0
      · have HA : Hid (absP a = -a) := by rw [Hid, absP, if_pos hneg]
        go_wp2_with fail
        rw [HW.out, HA.out]
        exact bodyPost_o rfl (res1 Tryz.results74 (resT rfl)) (by repeat (first | with_reducible exact HK.out | with_reducible exact Kept.refl _ _ | with_reducible refine Kept.prev ?_ | with_reducible refine Kept.alloc' ?_ _ | with_reducible refine Kept.drew' ?_ | with_reducible refine Kept.setB ?_ _ _ _ (by omega) | with_reducible refine Kept.row' ?_ _ _ (by omega) | with_reducible refine Kept.map' ?_ _ _ (by omega)))
      · have HA : Hid (absP a = a) := by rw [Hid, absP, if_neg hneg]
        have hpos : 0 ≤ a := by omega
        go_wp2_with fail
        rw [HW.out, HA.out]
        exact bodyPost_o rfl (res1 Tryz.results74 (resT rfl)) (by repeat (first | with_reducible exact HK.out | with_reducible exact Kept.refl _ _ | with_reducible refine Kept.prev ?_ | with_reducible refine Kept.alloc' ?_ _ | with_reducible refine Kept.drew' ?_ | with_reducible refine Kept.setB ?_ _ _ _ (by omega) | with_reducible refine Kept.row' ?_ _ _ (by omega) | with_reducible refine Kept.map' ?_ _ _ (by omega)))
    have e20 : (x.oper == 20) = false := by simp [k20]
    by_cases k21 : x.oper = 21
    · have HW : Hid (monV (valP t n) x = some (truthP (a == 0))) := by rw [Hid, HW0.out, if_neg k19, if_neg k20, if_pos k21]
      clear HW0 k19 k20
      go_wp2_with fail
      refine (truth_any _ _).mono ?_; rintro e w6 ⟨rfl, hk_w6⟩; haveI p_w6 : PrevWorld w6 _ := ⟨hk_w6⟩; have hz_w6 : w.heap.size ≤ w6.heap.size := Kept.size (by repeat (first | with_reducible exact HK.out | with_reducible exact Kept.refl _ _ | with_reducible refine Kept.prev ?_ | with_reducible refine Kept.alloc' ?_ _ | with_reducible refine Kept.drew' ?_ | with_reducible refine Kept.setB ?_ _ _ _ (by omega) | with_reducible refine Kept.row' ?_ _ _ (by omega) | with_reducible refine Kept.map' ?_ _ _ (by omega))); clear hk_w6
      go_wp2_with fail
      rw [HW.out]
      exact bodyPost_o rfl (res1 Tryz.results74 (resT rfl)) (by repeat (first | with_reducible exact HK.out | with_reducible exact Kept.refl _ _ | with_reducible refine Kept.prev ?_ | with_reducible refine Kept.alloc' ?_ _ | with_reducible refine Kept.drew' ?_ | with_reducible refine Kept.setB ?_ _ _ _ (by omega) | with_reducible refine Kept.row' ?_ _ _ (by omega) | with_reducible refine Kept.map' ?_ _ _ (by omega)))
    have HW : Hid (monV (valP t n) x = some a) := by rw [Hid, HW0.out, if_neg k19, if_neg k20, if_neg k21]
    have e21 : (x.oper == 21) = false := by simp [k21]
    clear HW0 k19 k20 k21
    go_wp2_with fail
    rw [HW.out]
    exact bodyPost_o rfl (res1 Tryz.results74 (resT rfl)) (by repeat (first | with_reducible exact HK.out | with_reducible exact Kept.refl _ _ | with_reducible refine Kept.prev ?_ | with_reducible refine Kept.alloc' ?_ _ | with_reducible refine Kept.drew' ?_ | with_reducible refine Kept.setB ?_ _ _ _ (by omega) | with_reducible refine Kept.row' ?_ _ _ (by omega) | with_reducible refine Kept.map' ?_ _ _ (by omega)))
end Go.Proofs.YtgdjhhfbpalkdaaGreat
namespace Go.Proofs.YtgdjhhfbpalkdaaGreat
open Go.RowKit
/-- A truth value, or the panic. -/
def RetOB (o : Option Bool) (w : World) (e : Ending) (w' : World) : Prop := match o with | some b => RetV (.bool b) w e w' | none => RetP w e w'
theorem bodyPost_bp {P : Program} {fn : Func} {a : Act} {w w' : World} (hd : a.defers = []) (hk : Kept [] w w') : bodyPost P fn (RetOB none w) (.panic failC) a w' := ⟨hd, rfl, hk⟩
theorem bodyPost_b {P : Program} {fn : Func} {b : Bool} {a : Act} {w w' : World} (hd : a.defers = []) (hr : (results fn a.tmps).run P w' = .ok (.bool b) w') (hk : Kept [] w w') : bodyPost P fn (RetOB (some b) w) .ret a w' :=
  bodyPost_ret hr hd ⟨rfl, hk⟩
theorem list3 {α : Type} {l : List α} {d : α} (h : l.length = 3) : l = [l.getD 0 d, l.getD 1 d, l.getD 2 d] := by
  cases l with
  | nil => cases h
  | cons a l => cases l with
    | nil => simp at h
    | cons b l => cases l with
      | nil => simp at h
      | cons c l => cases l with
        | nil => rfl
        | cons _ _ => simp at h
theorem ex_third {w : World} {n : Nat} {x : ExV} (h : ExIn w (n + 1) x) (hj : 2 < x.ls.length) : ∃ b o, x.la = some ⟨b, o, none⟩ ∧ ExAt w b o (l0 x) ∧ ExAt w b (o + 9) (l1 x) ∧ ExAt w b (o + 18) (l2 x) ∧ ExIn w n (l0 x) ∧ ExIn w n (l1 x) ∧ ExIn w n (l2 x) := by
  obtain ⟨b, o, h1, h2, h3, h4, h5⟩ := ex_second h (by omega)
  obtain ⟨b', o', h6, h7, h8⟩ := ex_at h hj
  rw [h1] at h6
  cases h6
  have e : o + 2 * 9 = o + 18 := by omega
  rw [e] at h7
  exact ⟨b, o, h1, h2, h3, h7, h4, h5, h8⟩
def memB (v lo hi : Int) : Bool := decide (lo ≤ v) && decide (v ≤ hi)

set_option maxRecDepth 100000 in
set_option maxHeartbeats 4000000 in
theorem member2_any (w : World) (v : TabV) (t : Tab) (x : ExV) (n : Nat) (ih : ValAt v t n) (hT : TabIn w v t) (hx : ExIn w (n + 1) x) (hl : x.ls.length = 2) (hI : isP t n (l0 x) = true) (b a : Bd) (hm : markP t (l1 x) = some (b, a)) :
    Calls Tryz.prog 73 #[.agg (v.cells t), .agg x.cells.toArray] w (RetOB (memV (valP t n) t x) w) := by
  obtain ⟨b0, o0, ha, hat, hat1, hi0, hi1⟩ := ex_second hx (by omega)
  have HPP : Hid (∀ (a : Act) (w' : World), a.defers = [] → Kept [] w w' → bodyPost Tryz.prog Tryz.f73 (RetOB none w) (.panic failC) a w') := fun _ _ h1 h2 => bodyPost_bp h1 h2
  have HV := Lib.hid (fun w' (hk : Kept [] w w') => ih w' (l0 x) (hT.kept hk) (hi0.kept hk) hI)
  have HMK := Lib.hid (fun w' (hk : Kept [] w w') => mark_any w' v t (l1 x) (hT.kept hk))
  have HM : Hid (memV (valP t n) t x = match valP t n (l0 x) with | none => none | some z => some (memB z b.1 b.2)) := by
    rw [Hid, memV]
    cases valP t n (l0 x) with
    | none => rfl
    | some z => simp only [hl, if_true, hm]; rfl
  have HX := Lib.hid (markX_some hm)
  have q1 := hx.2.2.2.2.1
  have hl2 : (0 : Int) < (x.ls.length : Int) := by omega
  have hl3 : (1 : Int) < (x.ls.length : Int) := by omega
  have hl4 : ((x.ls.length : Int) == 3) = false := by simp; omega
  clear ih hT hx hl hI hi0 hi1 hm
  unfold TabV.cells at *
  rw [HX.out] at HMK
  unfold pvV at HMK
  simp only at HMK
  generalize valP t n (l0 x) = o at *
  generalize l0 x = y at *
  generalize l1 x = z at *
  go_enter Tryz.func73, Tryz.ntmps73
  go_wp2_with fail
  refine wp_region_head 5 0 (fun _ => .cells #[] 0) (by kernel_rfl) (by kernel_rfl) (fun i o h1 h2 => by omega) (fun _ _ _ _ _ h => h) ?_; apply Exists.intro; refine ⟨fun U hU hN => ?_, ?_⟩; simp only [List.take_succ_cons, List.take_zero]
  · repeat (go_big_quiet_step (fail))
    refine wpQuiet_nil ?_
    exact rfl
  simp only [List.drop_succ_cons, List.drop_zero, List.take_zero]
  intro w4 hk4 _
  haveI p_w4 : PrevWorld w4 _ := ⟨hk4⟩
  go_wp2_with fail
  cases o with
  | none =>
    have HW : Hid (memV (valP t n) t x = none) := HM.out
    refine (Calls.retP (HV.out _ (by repeat (first | with_reducible exact HK.out | with_reducible exact Kept.refl _ _ | with_reducible refine Kept.prev ?_ | with_reducible refine Kept.alloc' ?_ _ | with_reducible refine Kept.drew' ?_ | with_reducible refine Kept.setB ?_ _ _ _ (by omega) | with_reducible refine Kept.row' ?_ _ _ (by omega) | with_reducible refine Kept.map' ?_ _ _ (by omega)))) rfl).mono ?_; rintro e w5 ⟨rfl, hk_w5⟩; haveI p_w5 : PrevWorld w5 _ := ⟨hk_w5⟩; have hz_w5 : w.heap.size ≤ w5.heap.size := Kept.size (by repeat (first | with_reducible exact HK.out | with_reducible exact Kept.refl _ _ | with_reducible refine Kept.prev ?_ | with_reducible refine Kept.alloc' ?_ _ | with_reducible refine Kept.drew' ?_ | with_reducible refine Kept.setB ?_ _ _ _ (by omega) | with_reducible refine Kept.row' ?_ _ _ (by omega) | with_reducible refine Kept.map' ?_ _ _ (by omega))); clear hk_w5
    show bodyPost _ _ _ (.panic failC) _ _
    rw [HW.out]
    exact HPP.out _ _ rfl (by repeat (first | with_reducible exact HK.out | with_reducible exact Kept.refl _ _ | with_reducible refine Kept.prev ?_ | with_reducible refine Kept.alloc' ?_ _ | with_reducible refine Kept.drew' ?_ | with_reducible refine Kept.setB ?_ _ _ _ (by omega) | with_reducible refine Kept.row' ?_ _ _ (by omega) | with_reducible refine Kept.map' ?_ _ _ (by omega)))
  | some u =>
    have HW : Hid (memV (valP t n) t x = some (memB u b.1 b.2)) := HM.out
    refine (Calls.retV (HV.out _ (by repeat (first | with_reducible exact HK.out | with_reducible exact Kept.refl _ _ | with_reducible refine Kept.prev ?_ | with_reducible refine Kept.alloc' ?_ _ | with_reducible refine Kept.drew' ?_ | with_reducible refine Kept.setB ?_ _ _ _ (by omega) | with_reducible refine Kept.row' ?_ _ _ (by omega) | with_reducible refine Kept.map' ?_ _ _ (by omega)))) rfl).mono ?_; rintro e w5 ⟨rfl, hk_w5⟩; haveI p_w5 : PrevWorld w5 _ := ⟨hk_w5⟩; have hz_w5 : w.heap.size ≤ w5.heap.size := Kept.size (by repeat (first | with_reducible exact HK.out | with_reducible exact Kept.refl _ _ | with_reducible refine Kept.prev ?_ | with_reducible refine Kept.alloc' ?_ _ | with_reducible refine Kept.drew' ?_ | with_reducible refine Kept.setB ?_ _ _ _ (by omega) | with_reducible refine Kept.row' ?_ _ _ (by omega) | with_reducible refine Kept.map' ?_ _ _ (by omega))); clear hk_w5
    clear HV HM
    go_wp2_with fail
    refine wp_region_head 10 2 (fun _ => .cells #[.int .i64 0, .int .i64 0] 43) (by kernel_rfl) (by kernel_rfl) (fun i o h1 h2 h3 => by obtain rfl | rfl : i = 10 ∨ i = 11 := (by omega); all_goals (obtain rfl := Option.some.inj h3; exact alc_of rfl rfl Tryz.zeroBd)) (fun _ _ _ _ _ h => h) ?_; apply Exists.intro; refine ⟨fun U hU hN => ?_, ?_⟩; simp only [List.take_succ_cons, List.take_zero]
    · repeat (go_big_quiet_step (exact Calls.headV hU (HMK.out _ (Kept.trans (by repeat (first | with_reducible exact HK.out | with_reducible exact Kept.refl _ _ | with_reducible refine Kept.prev ?_ | with_reducible refine Kept.alloc' ?_ _ | with_reducible refine Kept.drew' ?_ | with_reducible refine Kept.setB ?_ _ _ _ (by omega) | with_reducible refine Kept.row' ?_ _ _ (by omega) | with_reducible refine Kept.map' ?_ _ _ (by omega))) (AfterU.prop _)))))
      refine wpQuiet_nil ?_
      exact rfl
    simp only [List.drop_succ_cons, List.drop_zero, List.take_succ_cons, List.take_zero]
    intro B2 hB2 _ B3 hB3 hne w6 hk6 hh
    haveI p_w6 : PrevWorld w6 _ := ⟨hk6⟩
    haveI bx2 : BoxIs w6 B2 43 #[.int .i64 0, .int .i64 0] := box_of hh (by simp)
    haveI bx3 : BoxIs w6 B3 43 #[.int .i64 0, .int .i64 0] := box_of hh (by simp)
    have hne2 := ne_of hne
    haveI ap1 : Apart B2 B3 := ⟨hne2⟩
    haveI ap2 : Apart B3 B2 := ⟨hne2.symm⟩
    haveI g2 : BornAfter B2 _ := ⟨hB2⟩
    haveI g3 : BornAfter B3 _ := ⟨hB3⟩
    have hz2 : w.heap.size ≤ B2 := Nat.le_trans (Kept.size (X := []) (by repeat (first | with_reducible exact HK.out | with_reducible exact Kept.refl _ _ | with_reducible refine Kept.prev ?_ | with_reducible refine Kept.alloc' ?_ _ | with_reducible refine Kept.drew' ?_ | with_reducible refine Kept.setB ?_ _ _ _ (by omega) | with_reducible refine Kept.row' ?_ _ _ (by omega) | with_reducible refine Kept.map' ?_ _ _ (by omega)))) hB2
    have hz3 : w.heap.size ≤ B3 := Nat.le_trans (Kept.size (X := []) (by repeat (first | with_reducible exact HK.out | with_reducible exact Kept.refl _ _ | with_reducible refine Kept.prev ?_ | with_reducible refine Kept.alloc' ?_ _ | with_reducible refine Kept.drew' ?_ | with_reducible refine Kept.setB ?_ _ _ _ (by omega) | with_reducible refine Kept.row' ?_ _ _ (by omega) | with_reducible refine Kept.map' ?_ _ _ (by omega)))) hB3
    clear hk6 hh hne HMK
    by_cases c1 : b.1 ≤ u
    · by_cases c2 : u ≤ b.2
      · have HE : Hid (memB u b.1 b.2 = true) := by rw [Hid, memB]; simp [c1, c2]
        go_wp2_with fail
        rw [HW.out, HE.out]
        exact bodyPost_b rfl (res1 Tryz.results73 (resT rfl)) (by repeat (first | with_reducible exact HK.out | with_reducible exact Kept.refl _ _ | with_reducible refine Kept.prev ?_ | with_reducible refine Kept.alloc' ?_ _ | with_reducible refine Kept.drew' ?_ | with_reducible refine Kept.setB ?_ _ _ _ (by omega) | with_reducible refine Kept.row' ?_ _ _ (by omega) | with_reducible refine Kept.map' ?_ _ _ (by omega)))
      · have HE : Hid (memB u b.1 b.2 = false) := by rw [Hid, memB]; simp [c2]
        go_wp2_with fail
        rw [HW.out, HE.out]
        exact bodyPost_b rfl (res1 Tryz.results73 (resT rfl)) (by repeat (first | with_reducible exact HK.out | with_reducible exact Kept.refl _ _ | with_reducible refine Kept.prev ?_ | with_reducible refine Kept.alloc' ?_ _ | with_reducible refine Kept.drew' ?_ | with_reducible refine Kept.setB ?_ _ _ _ (by omega) | with_reducible refine Kept.row' ?_ _ _ (by omega) | with_reducible refine Kept.map' ?_ _ _ (by omega)))
    · have HE : Hid (memB u b.1 b.2 = false) := by rw [Hid, memB]; simp [c1]
      go_wp2_with fail
      rw [HW.out, HE.out]
      exact bodyPost_b rfl (res1 Tryz.results73 (resT rfl)) (by repeat (first | with_reducible exact HK.out | with_reducible exact Kept.refl _ _ | with_reducible refine Kept.prev ?_ | with_reducible refine Kept.alloc' ?_ _ | with_reducible refine Kept.drew' ?_ | with_reducible refine Kept.setB ?_ _ _ _ (by omega) | with_reducible refine Kept.row' ?_ _ _ (by omega) | with_reducible refine Kept.map' ?_ _ _ (by omega)))
end Go.Proofs.YtgdjhhfbpalkdaaGreat
