/- member. -/
import Derived.Test.YtgdjhhfbpalkdaaV5
namespace Go.Proofs.Ytgdjhhfbpalkdaa
open Go.RowKit
/-- A truth value, or the panic. -/
def RetOB (o : Option Bool) (w : World) (e : Ending) (w' : World) : Prop := match o with | some b => RetV (.bool b) w e w' | none => RetP w e w'
theorem bodyPost_bp {P : Program} {fn : Func} {a : Act} {w w' : World} (hd : a.defers = []) (hk : Kept [] w w') : bodyPost P fn (RetOB none w) (.panic failC) a w' := ⟨hd, rfl, hk⟩
theorem bodyPost_b {P : Program} {fn : Func} {b : Bool} {a : Act} {w w' : World} (hd : a.defers = []) (hr : (results fn a.tmps).run P w' = .ok (.bool b) w') (hk : Kept [] w w') : bodyPost P fn (RetOB (some b) w) .ret a w' :=
  bodyPost_ret hr hd ⟨rfl, hk⟩
theorem list3 {α : Type} {l : List α} {d : α} (h : l.length = 3) : l = [l.getD 0 d, l.getD 1 d, l.getD 2 d] := by
  cases l with
  | nil => cases h
  | cons a l => cases l with
    | nil => simp at h
    | cons b l => cases l with
      | nil => simp at h
      | cons c l => cases l with
        | nil => rfl
        | cons _ _ => simp at h
theorem ex_third {w : World} {n : Nat} {x : ExV} (h : ExIn w (n + 1) x) (hj : 2 < x.ls.length) : ∃ b o, x.la = some ⟨b, o, none⟩ ∧ ExAt w b o (l0 x) ∧ ExAt w b (o + 9) (l1 x) ∧ ExAt w b (o + 18) (l2 x) ∧ ExIn w n (l0 x) ∧ ExIn w n (l1 x) ∧ ExIn w n (l2 x) := by
  obtain ⟨b, o, h1, h2, h3, h4, h5⟩ := ex_second h (by omega)
  obtain ⟨b', o', h6, h7, h8⟩ := ex_at h hj
  rw [h1] at h6
  cases h6
  have e : o + 2 * 9 = o + 18 := by omega
  rw [e] at h7
  exact ⟨b, o, h1, h2, h3, h7, h4, h5, h8⟩
def memB (v lo hi : Int) : Bool := decide (lo ≤ v) && decide (v ≤ hi)

set_option maxRecDepth 100000 in
set_option maxHeartbeats 4000000 in
theorem member2_any (w : World) (v : TabV) (t : Tab) (x : ExV) (n : Nat) (ih : ValAt v t n) (hT : TabIn w v t) (hx : ExIn w (n + 1) x) (hl : x.ls.length = 2) (hI : isP t n (l0 x) = true) (b a : Bd) (hm : markP t (l1 x) = some (b, a)) :
    Calls Try.prog 55 #[.agg (v.cells t), .agg x.cells.toArray] w (RetOB (memV (valP t n) t x) w) := by
  obtain ⟨b0, o0, ha, hat, hat1, hi0, hi1⟩ := ex_second hx (by omega)
  have HPP : Hid (∀ (a : Act) (w' : World), a.defers = [] → Kept [] w w' → bodyPost Try.prog Try.f55 (RetOB none w) (.panic failC) a w') := fun _ _ h1 h2 => bodyPost_bp h1 h2
  have HV := Lib.hid (fun w' (hk : Kept [] w w') => ih w' (l0 x) (hT.kept hk) (hi0.kept hk) hI)
  have HMK := Lib.hid (fun w' (hk : Kept [] w w') => mark_any w' v t (l1 x) (hT.kept hk))
  have HM : Hid (memV (valP t n) t x = match valP t n (l0 x) with | none => none | some z => some (memB z b.1 b.2)) := by
    rw [Hid, memV]
    cases valP t n (l0 x) with
    | none => rfl
    | some z => simp only [hl, if_true, hm]; rfl
  have HX := Lib.hid (markX_some hm)
  have q1 := hx.2.2.2.2.1
  have hl2 : (0 : Int) < (x.ls.length : Int) := by omega
  have hl3 : (1 : Int) < (x.ls.length : Int) := by omega
  have hl4 : ((x.ls.length : Int) == 3) = false := by simp; omega
  clear ih hT hx hl hI hi0 hi1 hm
  unfold TabV.cells at *
  rw [HX.out] at HMK
  unfold pvV at HMK
  simp only at HMK
  generalize valP t n (l0 x) = o at *
  generalize l0 x = y at *
  generalize l1 x = z at *
  go_enter Try.func55, Try.ntmps55
  go_wp2_with fail
  refine wp_region_head 5 0 (fun _ => .cells #[] 0) (by kernel_rfl) (by kernel_rfl) (fun i o h1 h2 => by omega) (fun _ _ _ _ _ h => h) ?_; apply Exists.intro; refine ⟨fun U hU hN => ?_, ?_⟩; simp only [List.take_succ_cons, List.take_zero]
  · repeat (go_big_quiet_step (fail))
    refine wpQuiet_nil ?_
    exact rfl
  simp only [List.drop_succ_cons, List.drop_zero, List.take_succ_cons, List.take_zero]
  intro w4 hk4 _
  haveI p_w4 : PrevWorld w4 _ := ⟨hk4⟩
  go_wp2_with fail
  cases o with
  | none =>
    have HW : Hid (memV (valP t n) t x = none) := HM.out
    refine (Calls.retP (HV.out _ (by repeat (first | with_reducible exact HK.out | with_reducible exact Kept.refl _ _ | with_reducible refine Kept.prev ?_ | with_reducible refine Kept.alloc' ?_ _ | with_reducible refine Kept.drew' ?_ | with_reducible refine Kept.setB ?_ _ _ _ (by omega) | with_reducible refine Kept.row' ?_ _ _ (by omega) | with_reducible refine Kept.map' ?_ _ _ (by omega)))) rfl).mono ?_; rintro e w5 ⟨rfl, hk_w5⟩; haveI p_w5 : PrevWorld w5 _ := ⟨hk_w5⟩; have hz_w5 : w.heap.size ≤ w5.heap.size := Kept.size (by repeat (first | with_reducible exact HK.out | with_reducible exact Kept.refl _ _ | with_reducible refine Kept.prev ?_ | with_reducible refine Kept.alloc' ?_ _ | with_reducible refine Kept.drew' ?_ | with_reducible refine Kept.setB ?_ _ _ _ (by omega) | with_reducible refine Kept.row' ?_ _ _ (by omega) | with_reducible refine Kept.map' ?_ _ _ (by omega))); clear hk_w5
    show bodyPost _ _ _ (.panic failC) _ _
    rw [HW.out]
    exact HPP.out _ _ rfl (by repeat (first | with_reducible exact HK.out | with_reducible exact Kept.refl _ _ | with_reducible refine Kept.prev ?_ | with_reducible refine Kept.alloc' ?_ _ | with_reducible refine Kept.drew' ?_ | with_reducible refine Kept.setB ?_ _ _ _ (by omega) | with_reducible refine Kept.row' ?_ _ _ (by omega) | with_reducible refine Kept.map' ?_ _ _ (by omega)))
  | some u =>
    have HW : Hid (memV (valP t n) t x = some (memB u b.1 b.2)) := HM.out
    refine (Calls.retV (HV.out _ (by repeat (first | with_reducible exact HK.out | with_reducible exact Kept.refl _ _ | with_reducible refine Kept.prev ?_ | with_reducible refine Kept.alloc' ?_ _ | with_reducible refine Kept.drew' ?_ | with_reducible refine Kept.setB ?_ _ _ _ (by omega) | with_reducible refine Kept.row' ?_ _ _ (by omega) | with_reducible refine Kept.map' ?_ _ _ (by omega)))) rfl).mono ?_; rintro e w5 ⟨rfl, hk_w5⟩; haveI p_w5 : PrevWorld w5 _ := ⟨hk_w5⟩; have hz_w5 : w.heap.size ≤ w5.heap.size := Kept.size (by repeat (first | with_reducible exact HK.out | with_reducible exact Kept.refl _ _ | with_reducible refine Kept.prev ?_ | with_reducible refine Kept.alloc' ?_ _ | with_reducible refine Kept.drew' ?_ | with_reducible refine Kept.setB ?_ _ _ _ (by omega) | with_reducible refine Kept.row' ?_ _ _ (by omega) | with_reducible refine Kept.map' ?_ _ _ (by omega))); clear hk_w5
    clear HV HM
    go_wp2_with fail
    refine wp_region_head 10 2 (fun _ => .cells #[.int .i64 0, .int .i64 0] 55) (by kernel_rfl) (by kernel_rfl) (fun i o h1 h2 h3 => by obtain rfl | rfl : i = 10 ∨ i = 11 := (by omega); all_goals (obtain rfl := Option.some.inj h3; exact alc_of rfl rfl Try.zeroBd)) (fun _ _ _ _ _ h => h) ?_; apply Exists.intro; refine ⟨fun U hU hN => ?_, ?_⟩; simp only [List.take_succ_cons, List.take_zero]
    · repeat (go_big_quiet_step (exact Calls.headV hU (HMK.out _ (Kept.trans (by repeat (first | with_reducible exact HK.out | with_reducible exact Kept.refl _ _ | with_reducible refine Kept.prev ?_ | with_reducible refine Kept.alloc' ?_ _ | with_reducible refine Kept.drew' ?_ | with_reducible refine Kept.setB ?_ _ _ _ (by omega) | with_reducible refine Kept.row' ?_ _ _ (by omega) | with_reducible refine Kept.map' ?_ _ _ (by omega))) (AfterU.prop _)))))
      refine wpQuiet_nil ?_
      exact rfl
    simp only [List.drop_succ_cons, List.drop_zero, List.take_succ_cons, List.take_zero]
    intro B2 hB2 _ B3 hB3 hne w6 hk6 hh
    haveI p_w6 : PrevWorld w6 _ := ⟨hk6⟩
    haveI bx2 : BoxIs w6 B2 55 #[.int .i64 0, .int .i64 0] := box_of hh (by simp)
    haveI bx3 : BoxIs w6 B3 55 #[.int .i64 0, .int .i64 0] := box_of hh (by simp)
    have hne2 := ne_of hne
    haveI ap1 : Apart B2 B3 := ⟨hne2⟩
    haveI ap2 : Apart B3 B2 := ⟨hne2.symm⟩
    haveI g2 : BornAfter B2 _ := ⟨hB2⟩
    haveI g3 : BornAfter B3 _ := ⟨hB3⟩
    have hz2 : w.heap.size ≤ B2 := Nat.le_trans (Kept.size (X := []) (by repeat (first | with_reducible exact HK.out | with_reducible exact Kept.refl _ _ | with_reducible refine Kept.prev ?_ | with_reducible refine Kept.alloc' ?_ _ | with_reducible refine Kept.drew' ?_ | with_reducible refine Kept.setB ?_ _ _ _ (by omega) | with_reducible refine Kept.row' ?_ _ _ (by omega) | with_reducible refine Kept.map' ?_ _ _ (by omega)))) hB2
    have hz3 : w.heap.size ≤ B3 := Nat.le_trans (Kept.size (X := []) (by repeat (first | with_reducible exact HK.out | with_reducible exact Kept.refl _ _ | with_reducible refine Kept.prev ?_ | with_reducible refine Kept.alloc' ?_ _ | with_reducible refine Kept.drew' ?_ | with_reducible refine Kept.setB ?_ _ _ _ (by omega) | with_reducible refine Kept.row' ?_ _ _ (by omega) | with_reducible refine Kept.map' ?_ _ _ (by omega)))) hB3
    clear hk6 hh hne HMK
    by_cases c1 : b.1 ≤ u
    · by_cases c2 : u ≤ b.2
      · have HE : Hid (memB u b.1 b.2 = true) := by rw [Hid, memB]; simp [c1, c2]
        go_wp2_with fail
        rw [HW.out, HE.out]
        exact bodyPost_b rfl (res1 Try.results55 (resT rfl)) (by repeat (first | with_reducible exact HK.out | with_reducible exact Kept.refl _ _ | with_reducible refine Kept.prev ?_ | with_reducible refine Kept.alloc' ?_ _ | with_reducible refine Kept.drew' ?_ | with_reducible refine Kept.setB ?_ _ _ _ (by omega) | with_reducible refine Kept.row' ?_ _ _ (by omega) | with_reducible refine Kept.map' ?_ _ _ (by omega)))
      · have HE : Hid (memB u b.1 b.2 = false) := by rw [Hid, memB]; simp [c2]
        go_wp2_with fail
        rw [HW.out, HE.out]
        exact bodyPost_b rfl (res1 Try.results55 (resT rfl)) (by repeat (first | with_reducible exact HK.out | with_reducible exact Kept.refl _ _ | with_reducible refine Kept.prev ?_ | with_reducible refine Kept.alloc' ?_ _ | with_reducible refine Kept.drew' ?_ | with_reducible refine Kept.setB ?_ _ _ _ (by omega) | with_reducible refine Kept.row' ?_ _ _ (by omega) | with_reducible refine Kept.map' ?_ _ _ (by omega)))
    · have HE : Hid (memB u b.1 b.2 = false) := by rw [Hid, memB]; simp [c1]
      go_wp2_with fail
      rw [HW.out, HE.out]
      exact bodyPost_b rfl (res1 Try.results55 (resT rfl)) (by repeat (first | with_reducible exact HK.out | with_reducible exact Kept.refl _ _ | with_reducible refine Kept.prev ?_ | with_reducible refine Kept.alloc' ?_ _ | with_reducible refine Kept.drew' ?_ | with_reducible refine Kept.setB ?_ _ _ _ (by omega) | with_reducible refine Kept.row' ?_ _ _ (by omega) | with_reducible refine Kept.map' ?_ _ _ (by omega)))
end Go.Proofs.Ytgdjhhfbpalkdaa
