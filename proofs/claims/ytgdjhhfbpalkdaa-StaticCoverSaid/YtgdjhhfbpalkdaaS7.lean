/- entity, named, typed, mark. argued. -/
import Derived.Test.YtgdjhhfbpalkdaaS4
import Derived.Test.YtgdjhhfbpalkdaaK12
import Derived.Deep.DeepCutAuto
namespace Go.Proofs.Ytgdjhhfbpalkdaa
open Go.RowKit

def entA (x : EntV) : Value := .agg x.cells.toArray
theorem tab_ent {w : World} {v : TabV} {t : Tab} (hT : TabIn w v t) {n : Nat} (h : n < t.ents.length) :
    ∃ x b o, t.ents[n]? = some x ∧ v.ea = some ⟨b, o, none⟩ ∧ EntAt w b (o + n * 22) x ∧ (-9223372036854775808 ≤ x.value ∧ x.value ≤ 9223372036854775807) := by
  obtain ⟨x, hx⟩ : ∃ x, t.ents[n]? = some x := ⟨_, List.getElem?_eq_getElem h⟩
  obtain ⟨b, o, ha, hr⟩ := hT.es.some_ hx
  exact ⟨x, b, o, hx, ha, ⟨hr n x hx⟩, hT.eb x (List.mem_of_getElem? hx)⟩
theorem ent_out {t : Tab} {e : Int} (h : e < 0 ∨ (t.ents.length : Int) ≤ e) : entP t e = zeroE := by unfold entP; rw [if_pos h]
theorem ent_in {t : Tab} {n : Nat} {x : EntV} (h : t.ents[n]? = some x) : entP t (n : Int) = x := by
  have hl := (List.getElem?_eq_some_iff.1 h).1
  unfold entP
  rw [if_neg (by omega)]
  simp [List.getD_eq_getElem?_getD, h]

set_option maxRecDepth 100000 in
set_option maxHeartbeats 1000000 in
theorem entity_any (w : World) (v : TabV) (t : Tab) (x : ExV) (hT : TabIn w v t) : Calls Try.prog 39 #[.agg (v.cells t), .agg x.cells.toArray] w (RetV (entA (entP t x.ent)) w) := by
  have HT := Lib.hid hT
  have q1 := hT.el
  clear hT
  unfold TabV.cells
  generalize he : x.ent = e
  by_cases h0 : e < 0
  · have HR : Hid (entP t e = zeroE) := ent_out (.inl h0)
    go_enter Try.func39, Try.ntmps39
    go_wp2_with fail
    rw [HR.out]
    exact bodyPost_v rfl (res1 Try.results39 (resC rfl inferInstance)) (by repeat (first | with_reducible exact HK.out | with_reducible exact Kept.refl _ _ | with_reducible refine Kept.prev ?_ | with_reducible refine Kept.alloc' ?_ _ | with_reducible refine Kept.drew' ?_ | with_reducible refine Kept.setB ?_ _ _ _ (by omega) | with_reducible refine Kept.row' ?_ _ _ (by omega) | with_reducible refine Kept.map' ?_ _ _ (by omega)))
  obtain ⟨n, rfl⟩ := Int.eq_ofNat_of_zero_le (by omega : 0 ≤ e)
  by_cases h1 : t.ents.length ≤ n
  · have HR : Hid (entP t (n : Int) = zeroE) := ent_out (.inr (by omega))
    have h2 : (t.ents.length : Int) ≤ (n : Int) := by omega
    go_enter Try.func39, Try.ntmps39
    go_wp2_with fail
    rw [HR.out]
    exact bodyPost_v rfl (res1 Try.results39 (resC rfl inferInstance)) (by repeat (first | with_reducible exact HK.out | with_reducible exact Kept.refl _ _ | with_reducible refine Kept.prev ?_ | with_reducible refine Kept.alloc' ?_ _ | with_reducible refine Kept.drew' ?_ | with_reducible refine Kept.setB ?_ _ _ _ (by omega) | with_reducible refine Kept.row' ?_ _ _ (by omega) | with_reducible refine Kept.map' ?_ _ _ (by omega)))
  obtain ⟨y, b, o, hy, ha, hat, _⟩ := tab_ent HT.out (by omega : n < t.ents.length)
  have HR := Lib.hid (ent_in hy)
  have h2 : (n : Int) < (t.ents.length : Int) := by omega
  rw [ha]
  clear hy ha
  go_enter Try.func39, Try.ntmps39
  go_wp2_with fail
  rw [HR.out]
  exact bodyPost_v rfl (res1 Try.results39 (resC rfl inferInstance)) (by repeat (first | with_reducible exact HK.out | with_reducible exact Kept.refl _ _ | with_reducible refine Kept.prev ?_ | with_reducible refine Kept.alloc' ?_ _ | with_reducible refine Kept.drew' ?_ | with_reducible refine Kept.setB ?_ _ _ _ (by omega) | with_reducible refine Kept.row' ?_ _ _ (by omega) | with_reducible refine Kept.map' ?_ _ _ (by omega)))

set_option maxRecDepth 100000 in
set_option maxHeartbeats 1000000 in
theorem named_any (w : World) (x : ExV) : Calls Try.prog 49 #[.agg x.cells.toArray] w (RetV (.bool (namedP x)) w) := by
  have HV : Hid (namedP x = (x.kind == 3 || x.kind == 4)) := rfl
  cases e : (x.kind == 3)
  · rw [e] at HV
    go_enter Try.func49, Try.ntmps49
    go_wp2_with fail
    rw [HV.out]
    exact bodyPost_v rfl (res1 Try.results49 (resT rfl)) (by repeat (first | with_reducible exact HK.out | with_reducible exact Kept.refl _ _ | with_reducible refine Kept.prev ?_ | with_reducible refine Kept.alloc' ?_ _ | with_reducible refine Kept.drew' ?_ | with_reducible refine Kept.setB ?_ _ _ _ (by omega) | with_reducible refine Kept.row' ?_ _ _ (by omega) | with_reducible refine Kept.map' ?_ _ _ (by omega)))
  · rw [e] at HV
    go_enter Try.func49, Try.ntmps49
    go_wp2_with fail
    rw [HV.out]
    exact bodyPost_v rfl (res1 Try.results49 (resT rfl)) (by repeat (first | with_reducible exact HK.out | with_reducible exact Kept.refl _ _ | with_reducible refine Kept.prev ?_ | with_reducible refine Kept.alloc' ?_ _ | with_reducible refine Kept.drew' ?_ | with_reducible refine Kept.setB ?_ _ _ _ (by omega) | with_reducible refine Kept.row' ?_ _ _ (by omega) | with_reducible refine Kept.map' ?_ _ _ (by omega)))
set_option maxRecDepth 100000 in
set_option maxHeartbeats 1000000 in
theorem typed_any (w : World) (x : EntV) : Calls Try.prog 50 #[.agg x.cells.toArray] w (RetV (.bool (typedP x)) w) := by
  have HV : Hid (typedP x = (x.kind == 5 || x.kind == 6)) := rfl
  cases e : (x.kind == 5)
  · rw [e] at HV
    go_enter Try.func50, Try.ntmps50
    go_wp2_with fail
    rw [HV.out]
    exact bodyPost_v rfl (res1 Try.results50 (resT rfl)) (by repeat (first | with_reducible exact HK.out | with_reducible exact Kept.refl _ _ | with_reducible refine Kept.prev ?_ | with_reducible refine Kept.alloc' ?_ _ | with_reducible refine Kept.drew' ?_ | with_reducible refine Kept.setB ?_ _ _ _ (by omega) | with_reducible refine Kept.row' ?_ _ _ (by omega) | with_reducible refine Kept.map' ?_ _ _ (by omega)))
  · rw [e] at HV
    go_enter Try.func50, Try.ntmps50
    go_wp2_with fail
    rw [HV.out]
    exact bodyPost_v rfl (res1 Try.results50 (resT rfl)) (by repeat (first | with_reducible exact HK.out | with_reducible exact Kept.refl _ _ | with_reducible refine Kept.prev ?_ | with_reducible refine Kept.alloc' ?_ _ | with_reducible refine Kept.drew' ?_ | with_reducible refine Kept.setB ?_ _ _ _ (by omega) | with_reducible refine Kept.row' ?_ _ _ (by omega) | with_reducible refine Kept.map' ?_ _ _ (by omega)))

def markX (t : Tab) (x : ExV) : Bd × Bd × Bool := if namedP x && typedP (entP t x.ent) then plainX t (entP t x.ent).sub else ((0, 0), (0, 0), false)
theorem markX_ok (t : Tab) (x : ExV) : (markX t x).2.2 = (markP t x).isSome := by
  unfold markX markP
  split
  · exact plainX_ok _ _
  · rfl
theorem markX_some {t : Tab} {x : ExV} {b a : Bd} (h : markP t x = some (b, a)) : markX t x = (b, a, true) := by
  unfold markX markP at *
  split at h
  · rename_i hc
    rw [if_pos hc]
    exact plainX_some h
  · cases h

set_option maxRecDepth 100000 in
set_option maxHeartbeats 1000000 in
theorem mark_any (w : World) (v : TabV) (t : Tab) (x : ExV) (hT : TabIn w v t) : Calls Try.prog 42 #[.agg (v.cells t), .agg x.cells.toArray] w (RetV (pvV (markX t x)) w) := by
  have HC := Lib.hid (fun w' (hk : Kept [] w w') => entity_any w' v t x (hT.kept hk))
  have HP := Lib.hid (fun w' m (hk : Kept [] w w') => plain_any w' v t m (hT.kept hk))
  have HV : Hid (markX t x = if namedP x && typedP (entP t x.ent) then plainX t (entP t x.ent).sub else ((0, 0), (0, 0), false)) := rfl
  unfold TabV.cells at *
  clear hT
  go_enter Try.func42, Try.ntmps42
  go_wp2_with fail
  refine (HC.out _ (by repeat (first | with_reducible exact HK.out | with_reducible exact Kept.refl _ _ | with_reducible refine Kept.prev ?_ | with_reducible refine Kept.alloc' ?_ _ | with_reducible refine Kept.drew' ?_ | with_reducible refine Kept.setB ?_ _ _ _ (by omega) | with_reducible refine Kept.row' ?_ _ _ (by omega) | with_reducible refine Kept.map' ?_ _ _ (by omega)))).mono ?_; rintro e w1 ⟨rfl, hk_w1⟩; haveI p_w1 : PrevWorld w1 _ := ⟨hk_w1⟩; have hz_w1 : w.heap.size ≤ w1.heap.size := Kept.size (by repeat (first | with_reducible exact HK.out | with_reducible exact Kept.refl _ _ | with_reducible refine Kept.prev ?_ | with_reducible refine Kept.alloc' ?_ _ | with_reducible refine Kept.drew' ?_ | with_reducible refine Kept.setB ?_ _ _ _ (by omega) | with_reducible refine Kept.row' ?_ _ _ (by omega) | with_reducible refine Kept.map' ?_ _ _ (by omega))); clear hk_w1
  clear HC
  generalize entP t x.ent = y at *
  unfold entA
  go_wp2_with fail
  refine (named_any _ _).mono ?_; rintro e w2 ⟨rfl, hk_w2⟩; haveI p_w2 : PrevWorld w2 _ := ⟨hk_w2⟩; have hz_w2 : w.heap.size ≤ w2.heap.size := Kept.size (by repeat (first | with_reducible exact HK.out | with_reducible exact Kept.refl _ _ | with_reducible refine Kept.prev ?_ | with_reducible refine Kept.alloc' ?_ _ | with_reducible refine Kept.drew' ?_ | with_reducible refine Kept.setB ?_ _ _ _ (by omega) | with_reducible refine Kept.row' ?_ _ _ (by omega) | with_reducible refine Kept.map' ?_ _ _ (by omega))); clear hk_w2
  cases hn : namedP x
  · have HW : Hid (markX t x = ((0, 0), (0, 0), false)) := by rw [Hid, HV.out, hn]; rfl
    clear hn HV HP
    go_wp2_with fail
    go_region
    go_wp2_with fail
    rw [HW.out]
    exact bodyPost_v rfl (res3 Try.results42 (resC rfl inferInstance) (resC rfl inferInstance) (resT rfl)) (by repeat (first | with_reducible exact HK.out | with_reducible exact Kept.refl _ _ | with_reducible refine Kept.prev ?_ | with_reducible refine Kept.alloc' ?_ _ | with_reducible refine Kept.drew' ?_ | with_reducible refine Kept.setB ?_ _ _ _ (by omega) | with_reducible refine Kept.row' ?_ _ _ (by omega) | with_reducible refine Kept.map' ?_ _ _ (by omega)))
  rw [hn] at HV
  clear hn
  go_wp2_with fail
  refine (typed_any _ _).mono ?_; rintro e w3 ⟨rfl, hk_w3⟩; haveI p_w3 : PrevWorld w3 _ := ⟨hk_w3⟩; have hz_w3 : w.heap.size ≤ w3.heap.size := Kept.size (by repeat (first | with_reducible exact HK.out | with_reducible exact Kept.refl _ _ | with_reducible refine Kept.prev ?_ | with_reducible refine Kept.alloc' ?_ _ | with_reducible refine Kept.drew' ?_ | with_reducible refine Kept.setB ?_ _ _ _ (by omega) | with_reducible refine Kept.row' ?_ _ _ (by omega) | with_reducible refine Kept.map' ?_ _ _ (by omega))); clear hk_w3
  cases hn : typedP y
  · have HW : Hid (markX t x = ((0, 0), (0, 0), false)) := by rw [Hid, HV.out, hn]; rfl
    clear hn HV HP
    go_wp2_with fail
    go_region
    go_wp2_with fail
    rw [HW.out]
    exact bodyPost_v rfl (res3 Try.results42 (resC rfl inferInstance) (resC rfl inferInstance) (resT rfl)) (by repeat (first | with_reducible exact HK.out | with_reducible exact Kept.refl _ _ | with_reducible refine Kept.prev ?_ | with_reducible refine Kept.alloc' ?_ _ | with_reducible refine Kept.drew' ?_ | with_reducible refine Kept.setB ?_ _ _ _ (by omega) | with_reducible refine Kept.row' ?_ _ _ (by omega) | with_reducible refine Kept.map' ?_ _ _ (by omega)))
  have HW : Hid (markX t x = plainX t y.sub) := by rw [Hid, HV.out, hn]; rfl
  clear hn HV
  go_wp2_with fail
  refine (HP.out _ _ (by repeat (first | with_reducible exact HK.out | with_reducible exact Kept.refl _ _ | with_reducible refine Kept.prev ?_ | with_reducible refine Kept.alloc' ?_ _ | with_reducible refine Kept.drew' ?_ | with_reducible refine Kept.setB ?_ _ _ _ (by omega) | with_reducible refine Kept.row' ?_ _ _ (by omega) | with_reducible refine Kept.map' ?_ _ _ (by omega)))).mono ?_; rintro e w4 ⟨rfl, hk_w4⟩; haveI p_w4 : PrevWorld w4 _ := ⟨hk_w4⟩; have hz_w4 : w.heap.size ≤ w4.heap.size := Kept.size (by repeat (first | with_reducible exact HK.out | with_reducible exact Kept.refl _ _ | with_reducible refine Kept.prev ?_ | with_reducible refine Kept.alloc' ?_ _ | with_reducible refine Kept.drew' ?_ | with_reducible refine Kept.setB ?_ _ _ _ (by omega) | with_reducible refine Kept.row' ?_ _ _ (by omega) | with_reducible refine Kept.map' ?_ _ _ (by omega))); clear hk_w4
  unfold pvV
  generalize plainX t y.sub = r at *
  go_wp2_with fail
  rw [HW.out]
  exact bodyPost_v rfl (res3 Try.results42 (resC rfl inferInstance) (resC rfl inferInstance) (resT rfl)) (by repeat (first | with_reducible exact HK.out | with_reducible exact Kept.refl _ _ | with_reducible refine Kept.prev ?_ | with_reducible refine Kept.alloc' ?_ _ | with_reducible refine Kept.drew' ?_ | with_reducible refine Kept.setB ?_ _ _ _ (by omega) | with_reducible refine Kept.row' ?_ _ _ (by omega) | with_reducible refine Kept.map' ?_ _ _ (by omega)))
end Go.Proofs.Ytgdjhhfbpalkdaa
namespace Go.Proofs.Ytgdjhhfbpalkdaa
open Go.RowKit

def arguedX (t : Tab) (x : ExV) : (Int × Bool) × Bd × Bool :=
  if (l0 x).kind = 6 ∧ (shX (l0 x).s).2 = true ∧ (l0 x).ls.length = 1 then ((shX (l0 x).s).1, (markX t (l0 (l0 x))).2.1, (markX t (l0 (l0 x))).2.2)
  else ((shX (l0 x).s).1, (0, 0), false)
def avV (r : (Int × Bool) × Bd × Bool) : Value := .tuple #[.agg #[.int .i64 r.1.1, .bool r.1.2], .agg #[.int .i64 r.2.1.1, .int .i64 r.2.1.2], .bool r.2.2]
theorem argued_no {t : Tab} {x : ExV} (h : ¬ ((l0 x).kind = 6 ∧ (shX (l0 x).s).2 = true ∧ (l0 x).ls.length = 1)) : arguedX t x = ((shX (l0 x).s).1, (0, 0), false) := by
  unfold arguedX; rw [if_neg h]
theorem argued_yes {t : Tab} {x : ExV} (h1 : (l0 x).kind = 6) (h2 : (shX (l0 x).s).2 = true) (h3 : (l0 x).ls.length = 1) : arguedX t x = ((shX (l0 x).s).1, (markX t (l0 (l0 x))).2.1, (markX t (l0 (l0 x))).2.2) := by
  unfold arguedX; rw [if_pos ⟨h1, h2, h3⟩]
theorem ex_first {w : World} {n : Nat} {x : ExV} (h : ExIn w (n + 1) x) (hj : 0 < x.ls.length) : ∃ b o, x.la = some ⟨b, o, none⟩ ∧ ExAt w b o (l0 x) ∧ ExIn w n (l0 x) := by
  obtain ⟨b, o, h1, h2, h3⟩ := ex_at h hj
  have e : o + 0 * 9 = o := by omega
  rw [e] at h2
  exact ⟨b, o, h1, h2, h3⟩

set_option maxRecDepth 100000 in
set_option maxHeartbeats 4000000 in
theorem argued_any (w : World) (v : TabV) (t : Tab) (x : ExV) (n : Nat) (hT : TabIn w v t) (hx : ExIn w (n + 1) x) (hl : 0 < x.ls.length) : Calls Try.prog 52 #[.agg (v.cells t), .agg x.cells.toArray] w (RetV (avV (arguedX t x)) w) := by
  have HP := Lib.hid (fun w' m (hk : Kept [] w w') => mark_any w' v t m (hT.kept hk))
  obtain ⟨b0, o0, ha, hat, hp⟩ := ex_first hx hl
  have HX := Lib.hid hp
  have q1 := hx.2.2.2.2.1
  have q2 : (l0 x).ls.length ≤ 140737488355328 := by
    cases n with
    | zero => exact hp.elim
    | succ n => exact hp.2.2.2.2.1
  have HNO := Lib.hid (fun h => argued_no (t := t) (x := x) h)
  have HY := Lib.hid (fun h1 h2 h3 => argued_yes (t := t) (x := x) h1 h2 h3)
  unfold TabV.cells at HP
  unfold TabV.cells
  clear hT hx hp
  have hl2 : (0 : Int) < (x.ls.length : Int) := by omega
  generalize l0 x = p at *
  go_enter Try.func52, Try.ntmps52
  by_cases k6 : p.kind = 6
  rotate_left
  · have HW : Hid (arguedX t x = ((shX p.s).1, (0, 0), false)) := HNO.out (fun h => k6 h.1)
    have k62 : (p.kind != 6) = true := by simp [k6]
    clear HNO HY HP k6 HX
    go_wp2_with fail
    go_region
    go_wp2_with fail
    rw [HW.out]
    exact bodyPost_v rfl (res3 Try.results52 (resC rfl inferInstance) (resC rfl inferInstance) (resT rfl)) (by repeat (first | with_reducible exact HK.out | with_reducible exact Kept.refl _ _ | with_reducible refine Kept.prev ?_ | with_reducible refine Kept.alloc' ?_ _ | with_reducible refine Kept.drew' ?_ | with_reducible refine Kept.setB ?_ _ _ _ (by omega) | with_reducible refine Kept.row' ?_ _ _ (by omega) | with_reducible refine Kept.map' ?_ _ _ (by omega)))
  cases hok : (shX p.s).2
  · have HW : Hid (arguedX t x = ((shX p.s).1, (0, 0), false)) := HNO.out (fun h => by rw [hok] at h; exact absurd h.2.1 (by simp))
    clear HNO HY HP HX
    go_wp2_with fail
    go_region
    go_wp2_with fail
    rw [HW.out]
    exact bodyPost_v rfl (res3 Try.results52 (resC rfl inferInstance) (resC rfl inferInstance) (resT rfl)) (by repeat (first | with_reducible exact HK.out | with_reducible exact Kept.refl _ _ | with_reducible refine Kept.prev ?_ | with_reducible refine Kept.alloc' ?_ _ | with_reducible refine Kept.drew' ?_ | with_reducible refine Kept.setB ?_ _ _ _ (by omega) | with_reducible refine Kept.row' ?_ _ _ (by omega) | with_reducible refine Kept.map' ?_ _ _ (by omega)))
  by_cases kl : p.ls.length = 1
  rotate_left
  · have HW : Hid (arguedX t x = ((shX p.s).1, (0, 0), false)) := HNO.out (fun h => kl h.2.2)
    have kl2 : ((p.ls.length : Int) != 1) = true := by simp; omega
    clear HNO HY HP kl HX
    go_wp2_with fail
    go_region
    go_wp2_with fail
    rw [HW.out]
    exact bodyPost_v rfl (res3 Try.results52 (resC rfl inferInstance) (resC rfl inferInstance) (resT rfl)) (by repeat (first | with_reducible exact HK.out | with_reducible exact Kept.refl _ _ | with_reducible refine Kept.prev ?_ | with_reducible refine Kept.alloc' ?_ _ | with_reducible refine Kept.drew' ?_ | with_reducible refine Kept.setB ?_ _ _ _ (by omega) | with_reducible refine Kept.row' ?_ _ _ (by omega) | with_reducible refine Kept.map' ?_ _ _ (by omega)))
  have HW := Lib.hid (HY.out k6 hok kl)
  have hlp : 0 < p.ls.length := by omega
  obtain ⟨b1, o1, hpa, hpat⟩ : ∃ b o, p.la = some ⟨b, o, none⟩ ∧ ExAt w b o (l0 p) := by
    cases n with
    | zero => exact HX.out.elim
    | succ n =>
      obtain ⟨b, o, h1, h2, _⟩ := ex_first HX.out hlp
      exact ⟨b, o, h1, h2⟩
  have kl2 : ((p.ls.length : Int) != 1) = false := by simp; omega
  have hlp2 : (0 : Int) < (p.ls.length : Int) := by omega
  clear HNO HY kl HX
  go_wp2_with fail
  unfold pvV at HP
  refine wp_region_head 10 0 (fun _ => .cells #[] 0) (by kernel_rfl) (by kernel_rfl) (fun i o h1 h2 => by omega) (fun _ _ _ _ _ h => h) ?_; apply Exists.intro; refine ⟨fun U hU hN => ?_, ?_⟩; simp only [List.take_succ_cons, List.take_zero]
  · repeat (go_big_quiet_step (exact Calls.headV hU (HP.out _ _ (Kept.trans (by repeat (first | with_reducible exact HK.out | with_reducible exact Kept.refl _ _ | with_reducible refine Kept.prev ?_ | with_reducible refine Kept.alloc' ?_ _ | with_reducible refine Kept.drew' ?_ | with_reducible refine Kept.setB ?_ _ _ _ (by omega) | with_reducible refine Kept.row' ?_ _ _ (by omega) | with_reducible refine Kept.map' ?_ _ _ (by omega))) (AfterU.prop _)))))
    refine wpQuiet_nil ?_
    exact rfl
  simp only [List.drop_succ_cons, List.drop_zero, List.take_succ_cons, List.take_zero]
  intro w4 hk4 _
  haveI p_w4 : PrevWorld w4 _ := ⟨hk4⟩
  clear hk4 HP
  generalize markX t (l0 p) = r at *
  go_wp2_with fail
  go_region
  go_wp2_with fail
  rw [HW.out]
  exact bodyPost_v rfl (res3 Try.results52 (resC rfl inferInstance) (resC rfl inferInstance) (resT rfl)) (by repeat (first | with_reducible exact HK.out | with_reducible exact Kept.refl _ _ | with_reducible refine Kept.prev ?_ | with_reducible refine Kept.alloc' ?_ _ | with_reducible refine Kept.drew' ?_ | with_reducible refine Kept.setB ?_ _ _ _ (by omega) | with_reducible refine Kept.row' ?_ _ _ (by omega) | with_reducible refine Kept.map' ?_ _ _ (by omega)))
end Go.Proofs.Ytgdjhhfbpalkdaa
