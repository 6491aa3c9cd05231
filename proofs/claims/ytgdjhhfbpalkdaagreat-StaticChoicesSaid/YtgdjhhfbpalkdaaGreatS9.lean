/- entity, named, typed, mark. argued. call. -/
import Derived.Test.YtgdjhhfbpalkdaaGreatS4
import Derived.Test.YtgdjhhfbpalkdaaGreatV1
import Derived.Deep.DeepCutAuto
namespace Go.Proofs.YtgdjhhfbpalkdaaGreat
open Go.RowKit

def entA (x : EntV) : Value := .agg x.cells.toArray
theorem tab_ent {w : World} {v : TabV} {t : Tab} (hT : TabIn w v t) {n : Nat} (h : n < t.ents.length) :
    ∃ x b o, t.ents[n]? = some x ∧ v.ea = some ⟨b, o, none⟩ ∧ EntAt w b (o + n * 22) x ∧ (-9223372036854775808 ≤ x.value ∧ x.value ≤ 9223372036854775807) := by
  obtain ⟨x, hx⟩ : ∃ x, t.ents[n]? = some x := ⟨_, List.getElem?_eq_getElem h⟩
  obtain ⟨b, o, ha, hr⟩ := hT.es.some_ hx
  exact ⟨x, b, o, hx, ha, ⟨hr n x hx⟩, hT.eb x (List.mem_of_getElem? hx)⟩
theorem ent_out {t : Tab} {e : Int} (h : e < 0 ∨ (t.ents.length : Int) ≤ e) : entP t e = zeroE := by unfold entP; rw [if_pos h]
theorem ent_in {t : Tab} {n : Nat} {x : EntV} (h : t.ents[n]? = some x) : entP t (n : Int) = x := by
  have hl := (List.getElem?_eq_some_iff.1 h).1
  unfold entP
  rw [if_neg (by omega)]
  simp [List.getD_eq_getElem?_getD, h]

set_option maxRecDepth 100000 in
set_option maxHeartbeats 1000000 in
theorem entity_any (w : World) (v : TabV) (t : Tab) (x : ExV) (hT : TabIn w v t) : Calls Tryz.prog 51 #[.agg (v.cells t), .agg x.cells.toArray] w (RetV (entA (entP t x.ent)) w) := by
  have HT := Lib.hid hT
  have q1 := hT.el
  clear hT
  unfold TabV.cells
  generalize he : x.ent = e
  by_cases h0 : e < 0
  · have HR : Hid (entP t e = zeroE) := ent_out (.inl h0)
    go_enter Tryz.func51, Tryz.ntmps51
    go_wp2_with fail
    rw [HR.out]
    exact bodyPost_v rfl (res1 Tryz.results51 (resC rfl inferInstance)) (by repeat (first | with_reducible exact HK.out | with_reducible exact Kept.refl _ _ | with_reducible refine Kept.prev ?_ | with_reducible refine Kept.alloc' ?_ _ | with_reducible refine Kept.drew' ?_ | with_reducible refine Kept.setB ?_ _ _ _ (by omega) | with_reducible refine Kept.row' ?_ _ _ (by omega) | with_reducible refine Kept.map' ?_ _ _ (by omega)))
  obtain ⟨n, rfl⟩ := Int.eq_ofNat_of_zero_le (by omega : 0 ≤ e)
  by_cases h1 : t.ents.length ≤ n
  · have HR : Hid (entP t (n : Int) = zeroE) := ent_out (.inr (by omega))
    have h2 : (t.ents.length : Int) ≤ (n : Int) := by omega
    go_enter Tryz.func51, Tryz.ntmps51
    go_wp2_with fail
    rw [HR.out]
    exact bodyPost_v rfl (res1 Tryz.results51 (resC rfl inferInstance)) (by repeat (first | with_reducible exact HK.out | with_reducible exact Kept.refl _ _ | with_reducible refine Kept.prev ?_ | with_reducible refine Kept.alloc' ?_ _ | with_reducible refine Kept.drew' ?_ | with_reducible refine Kept.setB ?_ _ _ _ (by omega) | with_reducible refine Kept.row' ?_ _ _ (by omega) | with_reducible refine Kept.map' ?_ _ _ (by omega)))
  obtain ⟨y, b, o, hy, ha, hat, _⟩ := tab_ent HT.out (by omega : n < t.ents.length)
  have HR := Lib.hid (ent_in hy)
  have h2 : (n : Int) < (t.ents.length : Int) := by omega
  rw [ha]
  clear hy ha
  go_enter Tryz.func51, Tryz.ntmps51
  go_wp2_with fail
  rw [HR.out]
  exact bodyPost_v rfl (res1 Tryz.results51 (resC rfl inferInstance)) (by repeat (first | with_reducible exact HK.out | with_reducible exact Kept.refl _ _ | with_reducible refine Kept.prev ?_ | with_reducible refine Kept.alloc' ?_ _ | with_reducible refine Kept.drew' ?_ | with_reducible refine Kept.setB ?_ _ _ _ (by omega) | with_reducible refine Kept.row' ?_ _ _ (by omega) | with_reducible refine Kept.map' ?_ _ _ (by omega)))

set_option maxRecDepth 100000 in
set_option maxHeartbeats 1000000 in
theorem named_any (w : World) (x : ExV) : Calls Tryz.prog 62 #[.agg x.cells.toArray] w (RetV (.bool (namedP x)) w) := by
  have HV : Hid (namedP x = (x.kind == 3 || x.kind == 4)) := rfl
  cases e : (x.kind == 3)
  · rw [e] at HV
    go_enter Tryz.func62, Tryz.ntmps62
    go_wp2_with fail
    rw [HV.out]
    exact bodyPost_v rfl (res1 Tryz.results62 (resT rfl)) (by repeat (first | with_reducible exact HK.out | with_reducible exact Kept.refl _ _ | with_reducible refine Kept.prev ?_ | with_reducible refine Kept.alloc' ?_ _ | with_reducible refine Kept.drew' ?_ | with_reducible refine Kept.setB ?_ _ _ _ (by omega) | with_reducible refine Kept.row' ?_ _ _ (by omega) | with_reducible refine Kept.map' ?_ _ _ (by omega)))
  · rw [e] at HV
    go_enter Tryz.func62, Tryz.ntmps62
    go_wp2_with fail
    rw [HV.out]
    exact bodyPost_v rfl (res1 Tryz.results62 (resT rfl)) (by repeat (first | with_reducible exact HK.out | with_reducible exact Kept.refl _ _ | with_reducible refine Kept.prev ?_ | with_reducible refine Kept.alloc' ?_ _ | with_reducible refine Kept.drew' ?_ | with_reducible refine Kept.setB ?_ _ _ _ (by omega) | with_reducible refine Kept.row' ?_ _ _ (by omega) | with_reducible refine Kept.map' ?_ _ _ (by omega)))
set_option maxRecDepth 100000 in
set_option maxHeartbeats 1000000 in
theorem typed_any (w : World) (x : EntV) : Calls Tryz.prog 63 #[.agg x.cells.toArray] w (RetV (.bool (typedP x)) w) := by
  have HV : Hid (typedP x = (x.kind == 5 || x.kind == 6)) := rfl
  cases e : (x.kind == 5)
  · rw [e] at HV
    go_enter Tryz.func63, Tryz.ntmps63
    go_wp2_with fail
    rw [HV.out]
    exact bodyPost_v rfl (res1 Tryz.results63 (resT rfl)) (by repeat (first | with_reducible exact HK.out | with_reducible exact Kept.refl _ _ | with_reducible refine Kept.prev ?_ | with_reducible refine Kept.alloc' ?_ _ | with_reducible refine Kept.drew' ?_ | with_reducible refine Kept.setB ?_ _ _ _ (by omega) | with_reducible refine Kept.row' ?_ _ _ (by omega) | with_reducible refine Kept.map' ?_ _ _ (by omega)))
  · rw [e] at HV
    go_enter Tryz.func63, Tryz.ntmps63
    go_wp2_with fail
    rw [HV.out]
    exact bodyPost_v rfl (res1 Tryz.results63 (resT rfl)) (by repeat (first | with_reducible exact HK.out | with_reducible exact Kept.refl _ _ | with_reducible refine Kept.prev ?_ | with_reducible refine Kept.alloc' ?_ _ | with_reducible refine Kept.drew' ?_ | with_reducible refine Kept.setB ?_ _ _ _ (by omega) | with_reducible refine Kept.row' ?_ _ _ (by omega) | with_reducible refine Kept.map' ?_ _ _ (by omega)))

def markX (t : Tab) (x : ExV) : Bd × Bd × Bool := if namedP x && typedP (entP t x.ent) then plainX t (entP t x.ent).sub else ((0, 0), (0, 0), false)
theorem markX_ok (t : Tab) (x : ExV) : (markX t x).2.2 = (markP t x).isSome := by
  unfold markX markP
  split
  · exact plainX_ok _ _
  · rfl
theorem markX_some {t : Tab} {x : ExV} {b a : Bd} (h : markP t x = some (b, a)) : markX t x = (b, a, true) := by
  unfold markX markP at *
  split at h
  · rename_i hc
    rw [if_pos hc]
    exact plainX_some h
  · cases h

set_option maxRecDepth 100000 in
set_option maxHeartbeats 1000000 in
theorem mark_any (w : World) (v : TabV) (t : Tab) (x : ExV) (hT : TabIn w v t) : Calls Tryz.prog 54 #[.agg (v.cells t), .agg x.cells.toArray] w (RetV (pvV (markX t x)) w) := by
  have HC := Lib.hid (fun w' (hk : Kept [] w w') => entity_any w' v t x (hT.kept hk))
  have HP := Lib.hid (fun w' m (hk : Kept [] w w') => plain_any w' v t m (hT.kept hk))
  have HV : Hid (markX t x = if namedP x && typedP (entP t x.ent) then plainX t (entP t x.ent).sub else ((0, 0), (0, 0), false)) := rfl
  unfold TabV.cells at *
  clear hT
  go_enter Tryz.func54, Tryz.ntmps54
  go_wp2_with fail
  refine (HC.out _ (by repeat (first | with_reducible exact HK.out | with_reducible exact Kept.refl _ _ | with_reducible refine Kept.prev ?_ | with_reducible refine Kept.alloc' ?_ _ | with_reducible refine Kept.drew' ?_ | with_reducible refine Kept.setB ?_ _ _ _ (by omega) | with_reducible refine Kept.row' ?_ _ _ (by omega) | with_reducible refine Kept.map' ?_ _ _ (by omega)))).mono ?_; rintro e w1 ⟨rfl, hk_w1⟩; haveI p_w1 : PrevWorld w1 _ := ⟨hk_w1⟩; have hz_w1 : w.heap.size ≤ w1.heap.size := Kept.size (by repeat (first | with_reducible exact HK.out | with_reducible exact Kept.refl _ _ | with_reducible refine Kept.prev ?_ | with_reducible refine Kept.alloc' ?_ _ | with_reducible refine Kept.drew' ?_ | with_reducible refine Kept.setB ?_ _ _ _ (by omega) | with_reducible refine Kept.row' ?_ _ _ (by omega) | with_reducible refine Kept.map' ?_ _ _ (by omega))); clear hk_w1
  clear HC
  generalize entP t x.ent = y at *
  unfold entA
  go_wp2_with fail
  refine (named_any _ _).mono ?_; rintro e w2 ⟨rfl, hk_w2⟩; haveI p_w2 : PrevWorld w2 _ := ⟨hk_w2⟩; have hz_w2 : w.heap.size ≤ w2.heap.size := Kept.size (by repeat (first | with_reducible exact HK.out | with_reducible exact Kept.refl _ _ | with_reducible refine Kept.prev ?_ | with_reducible refine Kept.alloc' ?_ _ | with_reducible refine Kept.drew' ?_ | with_reducible refine Kept.setB ?_ _ _ _ (by omega) | with_reducible refine Kept.row' ?_ _ _ (by omega) | with_reducible refine Kept.map' ?_ _ _ (by omega))); clear hk_w2
  cases hn : namedP x
  · have HW : Hid (markX t x = ((0, 0), (0, 0), false)) := by rw [Hid, HV.out, hn]; rfl
    clear hn HV HP
    go_wp2_with fail
    go_region
    go_wp2_with fail
    rw [HW.out]
    exact bodyPost_v rfl (res3 Tryz.results54 (resC rfl inferInstance) (resC rfl inferInstance) (resT rfl)) (by repeat (first | with_reducible exact HK.out | with_reducible exact Kept.refl _ _ | with_reducible refine Kept.prev ?_ | with_reducible refine Kept.alloc' ?_ _ | with_reducible refine Kept.drew' ?_ | with_reducible refine Kept.setB ?_ _ _ _ (by omega) | with_reducible refine Kept.row' ?_ _ _ (by omega) | with_reducible refine Kept.map' ?_ _ _ (by omega)))
  rw [hn] at HV
  clear hn
  go_wp2_with fail
  refine (typed_any _ _).mono ?_; rintro e w3 ⟨rfl, hk_w3⟩; haveI p_w3 : PrevWorld w3 _ := ⟨hk_w3⟩; have hz_w3 : w.heap.size ≤ w3.heap.size := Kept.size (by repeat (first | with_reducible exact HK.out | with_reducible exact Kept.refl _ _ | with_reducible refine Kept.prev ?_ | with_reducible refine Kept.alloc' ?_ _ | with_reducible refine Kept.drew' ?_ | with_reducible refine Kept.setB ?_ _ _ _ (by omega) | with_reducible refine Kept.row' ?_ _ _ (by omega) | with_reducible refine Kept.map' ?_ _ _ (by omega))); clear hk_w3
  cases hn : typedP y
  · have HW : Hid (markX t x = ((0, 0), (0, 0), false)) := by rw [Hid, HV.out, hn]; rfl
    clear hn HV HP
    go_wp2_with fail
    go_region
    go_wp2_with fail
    rw [HW.out]
    exact bodyPost_v rfl (res3 Tryz.results54 (resC rfl inferInstance) (resC rfl inferInstance) (resT rfl)) (by repeat (first | with_reducible exact HK.out | with_reducible exact Kept.refl _ _ | with_reducible refine Kept.prev ?_ | with_reducible refine Kept.alloc' ?_ _ | with_reducible refine Kept.drew' ?_ | with_reducible refine Kept.setB ?_ _ _ _ (by omega) | with_reducible refine Kept.row' ?_ _ _ (by omega) | with_reducible refine Kept.map' ?_ _ _ (by omega)))
  have HW : Hid (markX t x = plainX t y.sub) := by rw [Hid, HV.out, hn]; rfl
  clear hn HV
  go_wp2_with fail
  refine (HP.out _ _ (by repeat (first | with_reducible exact HK.out | with_reducible exact Kept.refl _ _ | with_reducible refine Kept.prev ?_ | with_reducible refine Kept.alloc' ?_ _ | with_reducible refine Kept.drew' ?_ | with_reducible refine Kept.setB ?_ _ _ _ (by omega) | with_reducible refine Kept.row' ?_ _ _ (by omega) | with_reducible refine Kept.map' ?_ _ _ (by omega)))).mono ?_; rintro e w4 ⟨rfl, hk_w4⟩; haveI p_w4 : PrevWorld w4 _ := ⟨hk_w4⟩; have hz_w4 : w.heap.size ≤ w4.heap.size := Kept.size (by repeat (first | with_reducible exact HK.out | with_reducible exact Kept.refl _ _ | with_reducible refine Kept.prev ?_ | with_reducible refine Kept.alloc' ?_ _ | with_reducible refine Kept.drew' ?_ | with_reducible refine Kept.setB ?_ _ _ _ (by omega) | with_reducible refine Kept.row' ?_ _ _ (by omega) | with_reducible refine Kept.map' ?_ _ _ (by omega))); clear hk_w4
  unfold pvV
  generalize plainX t y.sub = r at *
  go_wp2_with fail
  rw [HW.out]
  exact bodyPost_v rfl (res3 Tryz.results54 (resC rfl inferInstance) (resC rfl inferInstance) (resT rfl)) (by repeat (first | with_reducible exact HK.out | with_reducible exact Kept.refl _ _ | with_reducible refine Kept.prev ?_ | with_reducible refine Kept.alloc' ?_ _ | with_reducible refine Kept.drew' ?_ | with_reducible refine Kept.setB ?_ _ _ _ (by omega) | with_reducible refine Kept.row' ?_ _ _ (by omega) | with_reducible refine Kept.map' ?_ _ _ (by omega)))
end Go.Proofs.YtgdjhhfbpalkdaaGreat
namespace Go.Proofs.YtgdjhhfbpalkdaaGreat
open Go.RowKit

def arguedX (t : Tab) (x : ExV) : (Int × Bool) × Bd × Bool :=
  if (l0 x).kind = 6 ∧ (shX (l0 x).s).2 = true ∧ (l0 x).ls.length = 1 then ((shX (l0 x).s).1, (markX t (l0 (l0 x))).2.1, (markX t (l0 (l0 x))).2.2)
  else ((shX (l0 x).s).1, (0, 0), false)
def avV (r : (Int × Bool) × Bd × Bool) : Value := .tuple #[.agg #[.int .i64 r.1.1, .bool r.1.2], .agg #[.int .i64 r.2.1.1, .int .i64 r.2.1.2], .bool r.2.2]
theorem argued_no {t : Tab} {x : ExV} (h : ¬ ((l0 x).kind = 6 ∧ (shX (l0 x).s).2 = true ∧ (l0 x).ls.length = 1)) : arguedX t x = ((shX (l0 x).s).1, (0, 0), false) := by
  unfold arguedX; rw [if_neg h]
theorem argued_yes {t : Tab} {x : ExV} (h1 : (l0 x).kind = 6) (h2 : (shX (l0 x).s).2 = true) (h3 : (l0 x).ls.length = 1) : arguedX t x = ((shX (l0 x).s).1, (markX t (l0 (l0 x))).2.1, (markX t (l0 (l0 x))).2.2) := by
  unfold arguedX; rw [if_pos ⟨h1, h2, h3⟩]
theorem ex_first {w : World} {n : Nat} {x : ExV} (h : ExIn w (n + 1) x) (hj : 0 < x.ls.length) : ∃ b o, x.la = some ⟨b, o, none⟩ ∧ ExAt w b o (l0 x) ∧ ExIn w n (l0 x) := by
  obtain ⟨b, o, h1, h2, h3⟩ := ex_at h hj
  have e : o + 0 * 9 = o := by omega
  rw [e] at h2
  exact ⟨b, o, h1, h2, h3⟩

set_option maxRecDepth 100000 in
set_option maxHeartbeats 4000000 in
theorem argued_any (w : World) (v : TabV) (t : Tab) (x : ExV) (n : Nat) (hT : TabIn w v t) (hx : ExIn w (n + 1) x) (hl : 0 < x.ls.length) : Calls Tryz.prog 70 #[.agg (v.cells t), .agg x.cells.toArray] w (RetV (avV (arguedX t x)) w) := by
  have HP := Lib.hid (fun w' m (hk : Kept [] w w') => mark_any w' v t m (hT.kept hk))
  obtain ⟨b0, o0, ha, hat, hp⟩ := ex_first hx hl
  have HX := Lib.hid hp
  have q1 := hx.2.2.2.2.1
  have q2 : (l0 x).ls.length ≤ 140737488355328 := by
    cases n with
    | zero => exact hp.elim
    | succ n => exact hp.2.2.2.2.1
  have HNO := Lib.hid (fun h => argued_no (t := t) (x := x) h)
  have HY := Lib.hid (fun h1 h2 h3 => argued_yes (t := t) (x := x) h1 h2 h3)
  unfold TabV.cells at HP
  unfold TabV.cells
  clear hT hx hp
  have hl2 : (0 : Int) < (x.ls.length : Int) := by omega
  generalize l0 x = p at *
  go_enter Tryz.func70, Tryz.ntmps70
  by_cases k6 : p.kind = 6
  rotate_left
  · have HW : Hid (arguedX t x = ((shX p.s).1, (0, 0), false)) := HNO.out (fun h => k6 h.1)
    have k62 : (p.kind != 6) = true := by simp [k6]
    clear HNO HY HP k6 HX
    go_wp2_with fail
    go_region
    go_wp2_with fail
    rw [HW.out]
    exact bodyPost_v rfl (res3 Tryz.results70 (resC rfl inferInstance) (resC rfl inferInstance) (resT rfl)) (by repeat (first | with_reducible exact HK.out | with_reducible exact Kept.refl _ _ | with_reducible refine Kept.prev ?_ | with_reducible refine Kept.alloc' ?_ _ | with_reducible refine Kept.drew' ?_ | with_reducible refine Kept.setB ?_ _ _ _ (by omega) | with_reducible refine Kept.row' ?_ _ _ (by omega) | with_reducible refine Kept.map' ?_ _ _ (by omega)))
  cases hok : (shX p.s).2
  · have HW : Hid (arguedX t x = ((shX p.s).1, (0, 0), false)) := HNO.out (fun h => by rw [hok] at h; exact absurd h.2.1 (by simp))
    clear HNO HY HP HX
    go_wp2_with fail
    go_region
    go_wp2_with fail
    rw [HW.out]
    exact bodyPost_v rfl (res3 Tryz.results70 (resC rfl inferInstance) (resC rfl inferInstance) (resT rfl)) (by repeat (first | with_reducible exact HK.out | with_reducible exact Kept.refl _ _ | with_reducible refine Kept.prev ?_ | with_reducible refine Kept.alloc' ?_ _ | with_reducible refine Kept.drew' ?_ | with_reducible refine Kept.setB ?_ _ _ _ (by omega) | with_reducible refine Kept.row' ?_ _ _ (by omega) | with_reducible refine Kept.map' ?_ _ _ (by omega)))
  by_cases kl : p.ls.length = 1
  rotate_left
  · have HW : Hid (arguedX t x = ((shX p.s).1, (0, 0), false)) := HNO.out (fun h => kl h.2.2)
    have kl2 : ((p.ls.length : Int) != 1) = true := by simp; omega
    clear HNO HY HP kl HX
    go_wp2_with fail
    go_region
    go_wp2_with fail
    rw [HW.out]
    exact bodyPost_v rfl (res3 Tryz.results70 (resC rfl inferInstance) (resC rfl inferInstance) (resT rfl)) (by repeat (first | with_reducible exact HK.out | with_reducible exact Kept.refl _ _ | with_reducible refine Kept.prev ?_ | with_reducible refine Kept.alloc' ?_ _ | with_reducible refine Kept.drew' ?_ | with_reducible refine Kept.setB ?_ _ _ _ (by omega) | with_reducible refine Kept.row' ?_ _ _ (by omega) | with_reducible refine Kept.map' ?_ _ _ (by omega)))
  have HW := Lib.hid (HY.out k6 hok kl)
  have hlp : 0 < p.ls.length := by omega
  obtain ⟨b1, o1, hpa, hpat⟩ : ∃ b o, p.la = some ⟨b, o, none⟩ ∧ ExAt w b o (l0 p) := by
    cases n with
    | zero => exact HX.out.elim
    | succ n =>
      obtain ⟨b, o, h1, h2, _⟩ := ex_first HX.out hlp
      exact ⟨b, o, h1, h2⟩
  have kl2 : ((p.ls.length : Int) != 1) = false := by simp; omega
  have hlp2 : (0 : Int) < (p.ls.length : Int) := by omega
  clear HNO HY kl HX
  go_wp2_with fail
  unfold pvV at HP
  refine wp_region_head 10 0 (fun _ => .cells #[] 0) (by kernel_rfl) (by kernel_rfl) (fun i o h1 h2 => by omega) (fun _ _ _ _ _ h => h) ?_; apply Exists.intro; refine ⟨fun U hU hN => ?_, ?_⟩; simp only [List.take_succ_cons, List.take_zero]
  · repeat (go_big_quiet_step (exact Calls.headV hU (HP.out _ _ (Kept.trans (by repeat (first | with_reducible exact HK.out | with_reducible exact Kept.refl _ _ | with_reducible refine Kept.prev ?_ | with_reducible refine Kept.alloc' ?_ _ | with_reducible refine Kept.drew' ?_ | with_reducible refine Kept.setB ?_ _ _ _ (by omega) | with_reducible refine Kept.row' ?_ _ _ (by omega) | with_reducible refine Kept.map' ?_ _ _ (by omega))) (AfterU.prop _)))))
    refine wpQuiet_nil ?_
    exact rfl
  simp only [List.drop_succ_cons, List.drop_zero, List.take_zero]
  intro w4 hk4 _
  haveI p_w4 : PrevWorld w4 _ := ⟨hk4⟩
  clear hk4 HP
  generalize markX t (l0 p) = r at *
  go_wp2_with fail
  go_region
  go_wp2_with fail
  rw [HW.out]
  exact bodyPost_v rfl (res3 Tryz.results70 (resC rfl inferInstance) (resC rfl inferInstance) (resT rfl)) (by repeat (first | with_reducible exact HK.out | with_reducible exact Kept.refl _ _ | with_reducible refine Kept.prev ?_ | with_reducible refine Kept.alloc' ?_ _ | with_reducible refine Kept.drew' ?_ | with_reducible refine Kept.setB ?_ _ _ _ (by omega) | with_reducible refine Kept.row' ?_ _ _ (by omega) | with_reducible refine Kept.map' ?_ _ _ (by omega)))
end Go.Proofs.YtgdjhhfbpalkdaaGreat
namespace Go.Proofs.YtgdjhhfbpalkdaaGreat
open Go.RowKit

theorem argued_ok {t : Tab} {x : ExV} (h : x.ls.length = 1) : (arguedX t x).2.2 = (arguedP t x).isSome := by
  unfold arguedX arguedP
  obtain ⟨p, hp⟩ : ∃ p, x.ls = [p] := by
    cases hx : x.ls with
    | nil => rw [hx] at h; cases h
    | cons p l => cases l with
      | nil => exact ⟨p, rfl⟩
      | cons _ _ => rw [hx] at h; simp at h
  have e : l0 x = p := by simp [l0, hp]
  rw [e, hp]
  simp only [shX_shift]
  cases hs : (shX p.s).2
  · simp
  · simp only [if_true]
    by_cases hk : p.kind = 6
    · simp only [hk, if_true, true_and]
      cases hl : p.ls with
      | nil => simp
      | cons q l => cases l with
        | nil =>
          have e2 : l0 p = q := by simp [l0, hl]
          simp only [e2, List.length_cons, List.length_nil, if_true]
          rw [markX_ok]
          cases markP t q <;> rfl
        | cons _ _ => simp
    · simp [hk]
theorem argued_is {t : Tab} {x : ExV} {s : Int × Bool} {a : Bd} (h : x.ls.length = 1) (ha : arguedP t x = some (s, a)) : arguedX t x = (s, a, true) := by
  unfold arguedX
  unfold arguedP at ha
  obtain ⟨p, hp⟩ : ∃ p, x.ls = [p] := by
    cases hx : x.ls with
    | nil => rw [hx] at h; cases h
    | cons p l => cases l with
      | nil => exact ⟨p, rfl⟩
      | cons _ _ => rw [hx] at h; simp at h
  have e : l0 x = p := by simp [l0, hp]
  rw [e]
  rw [hp] at ha
  simp only [shX_shift] at ha
  cases hs : (shX p.s).2
  · rw [hs] at ha; simp at ha
  · simp only [hs, if_true] at ha
    by_cases hk : p.kind = 6
    · simp only [hk, if_true] at ha
      cases hl : p.ls with
      | nil => simp [hl] at ha
      | cons q l => cases l with
        | nil =>
          have e2 : l0 p = q := by simp [l0, hl]
          simp only [hl] at ha
          rw [e2, if_pos ⟨hk, rfl, by simp⟩]
          cases hm : markP t q with
          | none => rw [hm] at ha; cases ha
          | some r =>
            obtain ⟨b, a'⟩ := r
            rw [hm] at ha
            simp only [Option.some.injEq, Prod.mk.injEq] at ha
            rw [markX_some hm, ha.1, ha.2]
        | cons _ _ => simp [hl] at ha
    · simp [hk] at ha
theorem call_no1 {I : ExV → Bool} {t : Tab} {x : ExV} (h : x.ls.length ≠ 1) : callF I t x = false := by
  unfold callF
  split
  · rename_i h1 _; rw [h1] at h; simp at h
  · rfl
theorem call_no2 {I : ExV → Bool} {t : Tab} {x : ExV} (h : x.al.length ≠ 1) : callF I t x = false := by
  unfold callF
  split
  · rename_i _ h1; rw [h1] at h; simp at h
  · rfl
theorem call_yes {I : ExV → Bool} {t : Tab} {x : ExV} (h1 : x.ls.length = 1) (h2 : x.al.length = 1) : callF I t x = (I (a0 x) && ((arguedX t x).2.2 || typedP (entP t x.ent) && (plainX t (entP t x.ent).sub).2.2)) := by
  rw [argued_ok h1, plainX_ok]
  unfold callF
  split
  · rename_i q a hq ha
    have : a0 x = a.2.2.2 := by simp [a0, ha]
    rw [this]
  · rename_i hno
    exfalso
    cases hx : x.ls with
    | nil => rw [hx] at h1; cases h1
    | cons p l => cases l with
      | cons _ _ => rw [hx] at h1; simp at h1
      | nil => cases hy : x.al with
        | nil => rw [hy] at h2; cases h2
        | cons a l => cases l with
          | nil => exact hno _ _ hx hy
          | cons _ _ => rw [hy] at h2; simp at h2

/-- What is tells of expressions to a depth. -/
def IsAt (v : TabV) (t : Tab) (n : Nat) : Prop := ∀ w x, TabIn w v t → ExIn w n x → Calls Tryz.prog 21 #[.agg (v.cells t), .agg x.cells.toArray] w (RetV (.bool (isP t n x)) w)

set_option maxRecDepth 100000 in
set_option maxHeartbeats 4000000 in
theorem call_any (w : World) (v : TabV) (t : Tab) (x : ExV) (n : Nat) (ih : IsAt v t n) (hT : TabIn w v t) (hx : ExIn w (n + 1) x) : Calls Tryz.prog 53 #[.agg (v.cells t), .agg x.cells.toArray] w (RetV (.bool (callF (isP t n) t x)) w) := by
  have HE := Lib.hid (fun w' (hk : Kept [] w w') => entity_any w' v t x (hT.kept hk))
  have HP := Lib.hid (fun w' m (hk : Kept [] w w') => plain_any w' v t m (hT.kept hk))
  have HG := Lib.hid (fun w' (hk : Kept [] w w') hl => argued_any w' v t x n (hT.kept hk) (hx.kept hk) hl)
  have HS := Lib.hid (fun w' (hk : Kept [] w w') y hy => ih w' y (hT.kept hk) hy)
  have HX := Lib.hid hx
  have q1 := hx.2.2.2.2.1
  have q2 := hx.2.2.2.2.2.1
  have HN1 := Lib.hid (fun h => call_no1 (I := isP t n) (t := t) (x := x) h)
  have HN2 := Lib.hid (fun h => call_no2 (I := isP t n) (t := t) (x := x) h)
  have HY := Lib.hid (fun h1 h2 => call_yes (I := isP t n) (t := t) (x := x) h1 h2)
  unfold TabV.cells at HE HP HG HS
  unfold TabV.cells
  clear hT hx ih
  by_cases k1 : x.ls.length = 1
  rotate_left
  · have HW := Lib.hid (HN1.out k1)
    have k12 : ((x.ls.length : Int) != 1) = true := by simp; omega
    clear HE HP HG HS HX HN1 HN2 HY k1
    go_enter Tryz.func53, Tryz.ntmps53
    go_wp2_with fail
    refine wp_region_head 20 0 (fun _ => .cells #[] 0) (by kernel_rfl) (by kernel_rfl) (fun i o h1 h2 => by omega) (fun _ _ _ _ _ h => h) ?_; apply Exists.intro; refine ⟨fun U hU hN => ?_, ?_⟩; simp only [List.take_succ_cons, List.take_zero]
    · repeat (go_big_quiet_step (fail))
      refine wpQuiet_nil ?_
      exact rfl
    simp only [List.drop_succ_cons, List.drop_zero, List.take_zero]
    intro w4 hk4 _
    haveI p_w4 : PrevWorld w4 _ := ⟨hk4⟩
    go_wp2_with fail
    rw [HW.out]
    exact bodyPost_v rfl (res1 Tryz.results53 (resT rfl)) (by repeat (first | with_reducible exact HK.out | with_reducible exact Kept.refl _ _ | with_reducible refine Kept.prev ?_ | with_reducible refine Kept.alloc' ?_ _ | with_reducible refine Kept.drew' ?_ | with_reducible refine Kept.setB ?_ _ _ _ (by omega) | with_reducible refine Kept.row' ?_ _ _ (by omega) | with_reducible refine Kept.map' ?_ _ _ (by omega)))
  have k12 : ((x.ls.length : Int) != 1) = false := by simp; omega
  by_cases k2 : x.al.length = 1
  rotate_left
  · have HW := Lib.hid (HN2.out k2)
    have k22 : ((x.al.length : Int) != 1) = true := by simp; omega
    clear HE HP HG HS HX HN1 HN2 HY k1 k2
    go_enter Tryz.func53, Tryz.ntmps53
    go_wp2_with fail
    refine wp_region_head 20 0 (fun _ => .cells #[] 0) (by kernel_rfl) (by kernel_rfl) (fun i o h1 h2 => by omega) (fun _ _ _ _ _ h => h) ?_; apply Exists.intro; refine ⟨fun U hU hN => ?_, ?_⟩; simp only [List.take_succ_cons, List.take_zero]
    · repeat (go_big_quiet_step (fail))
      refine wpQuiet_nil ?_
      exact rfl
    simp only [List.drop_succ_cons, List.drop_zero, List.take_zero]
    intro w4 hk4 _
    haveI p_w4 : PrevWorld w4 _ := ⟨hk4⟩
    go_wp2_with fail
    rw [HW.out]
    exact bodyPost_v rfl (res1 Tryz.results53 (resT rfl)) (by repeat (first | with_reducible exact HK.out | with_reducible exact Kept.refl _ _ | with_reducible refine Kept.prev ?_ | with_reducible refine Kept.alloc' ?_ _ | with_reducible refine Kept.drew' ?_ | with_reducible refine Kept.setB ?_ _ _ _ (by omega) | with_reducible refine Kept.row' ?_ _ _ (by omega) | with_reducible refine Kept.map' ?_ _ _ (by omega)))
  have k22 : ((x.al.length : Int) != 1) = false := by simp; omega
  have HW := Lib.hid (HY.out k1 k2)
  obtain ⟨b0, o0, ha, hat, hia⟩ := as_at HX.out (by omega)
  have HIA := Lib.hid hia
  have HG2 := Lib.hid (fun w' hk => HG.out w' hk (by omega))
  have l2 : (0 : Int) < (x.al.length : Int) := by omega
  clear HN1 HN2 HY HX HG k1 k2 hia
  go_enter Tryz.func53, Tryz.ntmps53
  go_wp2_with fail
  refine wp_region_head 20 0 (fun _ => .cells #[] 0) (by kernel_rfl) (by kernel_rfl) (fun i o h1 h2 => by omega) (fun _ _ _ _ _ h => h) ?_; apply Exists.intro; refine ⟨fun U hU hN => ?_, ?_⟩; simp only [List.take_succ_cons, List.take_zero]
  · repeat (go_big_quiet_step (exact Calls.headV hU (HS.out _ (Kept.trans (by repeat (first | with_reducible exact HK.out | with_reducible exact Kept.refl _ _ | with_reducible refine Kept.prev ?_ | with_reducible refine Kept.alloc' ?_ _ | with_reducible refine Kept.drew' ?_ | with_reducible refine Kept.setB ?_ _ _ _ (by omega) | with_reducible refine Kept.row' ?_ _ _ (by omega) | with_reducible refine Kept.map' ?_ _ _ (by omega))) (AfterU.prop _)) _ (HIA.out.kept (Kept.trans (by repeat (first | with_reducible exact HK.out | with_reducible exact Kept.refl _ _ | with_reducible refine Kept.prev ?_ | with_reducible refine Kept.alloc' ?_ _ | with_reducible refine Kept.drew' ?_ | with_reducible refine Kept.setB ?_ _ _ _ (by omega) | with_reducible refine Kept.row' ?_ _ _ (by omega) | with_reducible refine Kept.map' ?_ _ _ (by omega))) (AfterU.prop _))))))
    refine wpQuiet_nil ?_
    exact rfl
  simp only [List.drop_succ_cons, List.drop_zero, List.take_zero]
  intro w4 hk4 _
  haveI p_w4 : PrevWorld w4 _ := ⟨hk4⟩
  clear hk4 hat HS HIA
  cases hi : isP t n (a0 x)
  · rw [hi] at HW
    clear HE HP HG2
    go_wp2_with fail
    rw [HW.out]
    exact bodyPost_v rfl (res1 Tryz.results53 (resT rfl)) (by repeat (first | with_reducible exact HK.out | with_reducible exact Kept.refl _ _ | with_reducible refine Kept.prev ?_ | with_reducible refine Kept.alloc' ?_ _ | with_reducible refine Kept.drew' ?_ | with_reducible refine Kept.setB ?_ _ _ _ (by omega) | with_reducible refine Kept.row' ?_ _ _ (by omega) | with_reducible refine Kept.map' ?_ _ _ (by omega)))
  rw [hi] at HW
  unfold avV at HG2
  go_wp2_with fail
  refine (HG2.out _ (by repeat (first | with_reducible exact HK.out | with_reducible exact Kept.refl _ _ | with_reducible refine Kept.prev ?_ | with_reducible refine Kept.alloc' ?_ _ | with_reducible refine Kept.drew' ?_ | with_reducible refine Kept.setB ?_ _ _ _ (by omega) | with_reducible refine Kept.row' ?_ _ _ (by omega) | with_reducible refine Kept.map' ?_ _ _ (by omega)))).mono ?_; rintro e w5 ⟨rfl, hk_w5⟩; haveI p_w5 : PrevWorld w5 _ := ⟨hk_w5⟩; have hz_w5 : w.heap.size ≤ w5.heap.size := Kept.size (by repeat (first | with_reducible exact HK.out | with_reducible exact Kept.refl _ _ | with_reducible refine Kept.prev ?_ | with_reducible refine Kept.alloc' ?_ _ | with_reducible refine Kept.drew' ?_ | with_reducible refine Kept.setB ?_ _ _ _ (by omega) | with_reducible refine Kept.row' ?_ _ _ (by omega) | with_reducible refine Kept.map' ?_ _ _ (by omega))); clear hk_w5
  cases hg : (arguedX t x).2.2
  rotate_left
  · rw [hg] at HW
    clear HE HP HG2
    go_wp2_with fail
    rw [HW.out]
    exact bodyPost_v rfl (res1 Tryz.results53 (resT rfl)) (by repeat (first | with_reducible exact HK.out | with_reducible exact Kept.refl _ _ | with_reducible refine Kept.prev ?_ | with_reducible refine Kept.alloc' ?_ _ | with_reducible refine Kept.drew' ?_ | with_reducible refine Kept.setB ?_ _ _ _ (by omega) | with_reducible refine Kept.row' ?_ _ _ (by omega) | with_reducible refine Kept.map' ?_ _ _ (by omega)))
  rw [hg] at HW
  clear HG2
  unfold entA at HE
  go_wp2_with fail
  refine (HE.out _ (by repeat (first | with_reducible exact HK.out | with_reducible exact Kept.refl _ _ | with_reducible refine Kept.prev ?_ | with_reducible refine Kept.alloc' ?_ _ | with_reducible refine Kept.drew' ?_ | with_reducible refine Kept.setB ?_ _ _ _ (by omega) | with_reducible refine Kept.row' ?_ _ _ (by omega) | with_reducible refine Kept.map' ?_ _ _ (by omega)))).mono ?_; rintro e w6 ⟨rfl, hk_w6⟩; haveI p_w6 : PrevWorld w6 _ := ⟨hk_w6⟩; have hz_w6 : w.heap.size ≤ w6.heap.size := Kept.size (by repeat (first | with_reducible exact HK.out | with_reducible exact Kept.refl _ _ | with_reducible refine Kept.prev ?_ | with_reducible refine Kept.alloc' ?_ _ | with_reducible refine Kept.drew' ?_ | with_reducible refine Kept.setB ?_ _ _ _ (by omega) | with_reducible refine Kept.row' ?_ _ _ (by omega) | with_reducible refine Kept.map' ?_ _ _ (by omega))); clear hk_w6
  clear HE
  generalize entP t x.ent = y at *
  unfold pvV at HP
  go_wp2_with fail
  refine (HP.out _ _ (by repeat (first | with_reducible exact HK.out | with_reducible exact Kept.refl _ _ | with_reducible refine Kept.prev ?_ | with_reducible refine Kept.alloc' ?_ _ | with_reducible refine Kept.drew' ?_ | with_reducible refine Kept.setB ?_ _ _ _ (by omega) | with_reducible refine Kept.row' ?_ _ _ (by omega) | with_reducible refine Kept.map' ?_ _ _ (by omega)))).mono ?_; rintro e w7 ⟨rfl, hk_w7⟩; haveI p_w7 : PrevWorld w7 _ := ⟨hk_w7⟩; have hz_w7 : w.heap.size ≤ w7.heap.size := Kept.size (by repeat (first | with_reducible exact HK.out | with_reducible exact Kept.refl _ _ | with_reducible refine Kept.prev ?_ | with_reducible refine Kept.alloc' ?_ _ | with_reducible refine Kept.drew' ?_ | with_reducible refine Kept.setB ?_ _ _ _ (by omega) | with_reducible refine Kept.row' ?_ _ _ (by omega) | with_reducible refine Kept.map' ?_ _ _ (by omega))); clear hk_w7
  clear HP
  go_wp2_with fail
  refine (typed_any _ _).mono ?_; rintro e w8 ⟨rfl, hk_w8⟩; haveI p_w8 : PrevWorld w8 _ := ⟨hk_w8⟩; have hz_w8 : w.heap.size ≤ w8.heap.size := Kept.size (by repeat (first | with_reducible exact HK.out | with_reducible exact Kept.refl _ _ | with_reducible refine Kept.prev ?_ | with_reducible refine Kept.alloc' ?_ _ | with_reducible refine Kept.drew' ?_ | with_reducible refine Kept.setB ?_ _ _ _ (by omega) | with_reducible refine Kept.row' ?_ _ _ (by omega) | with_reducible refine Kept.map' ?_ _ _ (by omega))); clear hk_w8
  cases hy : typedP y
  · rw [hy] at HW
    go_wp2_with fail
    rw [HW.out]
    exact bodyPost_v rfl (res1 Tryz.results53 (resT rfl)) (by repeat (first | with_reducible exact HK.out | with_reducible exact Kept.refl _ _ | with_reducible refine Kept.prev ?_ | with_reducible refine Kept.alloc' ?_ _ | with_reducible refine Kept.drew' ?_ | with_reducible refine Kept.setB ?_ _ _ _ (by omega) | with_reducible refine Kept.row' ?_ _ _ (by omega) | with_reducible refine Kept.map' ?_ _ _ (by omega)))
  · rw [hy] at HW
    go_wp2_with fail
    rw [HW.out]
    exact bodyPost_v rfl (res1 Tryz.results53 (resT rfl)) (by repeat (first | with_reducible exact HK.out | with_reducible exact Kept.refl _ _ | with_reducible refine Kept.prev ?_ | with_reducible refine Kept.alloc' ?_ _ | with_reducible refine Kept.drew' ?_ | with_reducible refine Kept.setB ?_ _ _ _ (by omega) | with_reducible refine Kept.row' ?_ _ _ (by omega) | with_reducible refine Kept.map' ?_ _ _ (by omega)))
end Go.Proofs.YtgdjhhfbpalkdaaGreat
