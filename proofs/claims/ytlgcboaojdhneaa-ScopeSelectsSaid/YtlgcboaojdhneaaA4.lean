/- profile, homographs. -/
import Derived.Test.YtlgcboaojdhneaaA3
import Derived.Shelf.Abstract
namespace Go.Proofs.Ytlgcboaojdhneaa
open Go.RowKit

/-- An entity that is handed over: its parameters lie in memory. -/
structure EntIn (w : World) (x : EntV) : Prop where
  ps : RowsAt ParamV 13 ParamV.cells w x.pa x.params
  ok : x.Ok
theorem EntIn.kept {w w' : World} {x : EntV} (h : EntIn w x) (hk : Kept [] w w') : EntIn w' x := ⟨h.ps.kept hk, h.ok⟩
theorem zeroE_in (w : World) : EntIn w zeroE := ⟨.inl rfl, by constructor <;> first | (simp [zeroE]; done) | (simp [zeroE, ByteArray.size]; done)⟩
theorem TabIn.ent {w : World} {v : TabV} {t : Tab} (h : TabIn w v t) {x : EntV} (hx : x ∈ t.ents) : EntIn w x := ⟨h.ps x hx, h.ok x hx⟩
theorem TabIn.row {w : World} {v : TabV} {t : Tab} (h : TabIn w v t) (e : Int) : EntIn w (rowE t e) := by
  unfold rowE rowR
  split
  · exact zeroE_in w
  · cases hx : t.ents[e.toNat]? with
    | none => exact zeroE_in w
    | some x => exact h.ent (List.mem_of_getElem? hx)

def profR (t : Tab) (a b : EntV) : Bool := a.t == b.t && parEq (samePar t) a.params b.params
def homR (t : Tab) (a b : EntV) : Bool := (a.name.toList == b.name.toList) && (!ovl a || !ovl b || profR t a b)

theorem enters85 : ∀ args w, (callFunc 85 args).run Try.prog w = .ok (.enter 85 args) w := Go.Proofs.enters_of Try.func85 (by kernel_rfl) rfl

set_option maxRecDepth 100000 in
set_option maxHeartbeats 1000000 in
theorem profile_any (w : World) (v : TabV) (t : Tab) (a b : EntV) (hT : TabIn w v t) (ha : EntIn w a) (hb : EntIn w b) :
    Calls Try.prog 65 #[.agg (v.cells t), .agg a.cells.toArray, .agg b.cells.toArray] w (RetB (profR t a b) w) := by
  have HT := Lib.hid hT
  have HA := Lib.hid ha
  have HB := Lib.hid hb
  have HR : Hid (profR t a b = (a.t == b.t && parEq (samePar t) a.params b.params)) := rfl
  have a1 := ha.ok.p1
  have a2 := ha.ok.p2
  have b1 := hb.ok.p1
  have b2 := hb.ok.p2
  clear hT ha hb
  have k1 : ∀ W, Kept [] ((((w.alloc (.cells (v.cells t) 74)).alloc (.cells a.cells.toArray 43)).alloc (.cells b.cells.toArray 43))) W → ViewBox W w.heap.size v t ∧ (W.cell? ⟨w.heap.size + 1, 4, none⟩ = some (.int .i64 a.t) ∧ W.cell? ⟨w.heap.size + 1, 6, none⟩ = some (.slice a.pa a.params.length a.pc)) ∧ (W.cell? ⟨w.heap.size + 2, 4, none⟩ = some (.int .i64 b.t) ∧ W.cell? ⟨w.heap.size + 2, 6, none⟩ = some (.slice b.pa b.params.length b.pc)) := fun W hk =>
    have q0 := obj_old (o := .cells b.cells.toArray 43) (obj_old (W := w.alloc (.cells (v.cells t) 74)) (o := .cells a.cells.toArray 43) (obj_new rfl) (by simp)) (by simp; omega)
    have q1 := obj_old (W := (w.alloc (.cells (v.cells t) 74)).alloc (.cells a.cells.toArray 43)) (o := .cells b.cells.toArray 43) (obj_new (k := w.heap.size + 1) (by simp)) (by simp)
    have q2 := obj_new (W := (w.alloc (.cells (v.cells t) 74)).alloc (.cells a.cells.toArray 43)) (o := .cells b.cells.toArray 43) (k := w.heap.size + 2) (by simp)
    ⟨hk.obj q0 (by simp), ⟨ent_cell (x := a) (hk.obj q1 (by simp)) 4 rfl, ent_cell (x := a) (hk.obj q1 (by simp)) 6 rfl⟩, ⟨ent_cell (x := b) (hk.obj q2 (by simp)) 4 rfl, ent_cell (x := b) (hk.obj q2 (by simp)) 6 rfl⟩⟩
  have K1 := Lib.hid k1
  clear k1
  go_enter Try.func65, Try.ntmps65
  go_upto_region 1 with (fail)
  refine wp_gen' ?_
  intro w0 hw0
  rw [← hw0] at K1
  have HK0 : Hid (Kept [] w w0) := by rw [Hid, hw0]; exact ((Kept.alloc _ _ _).trans (Kept.alloc _ _ _)).trans (Kept.alloc _ _ _)
  obtain ⟨hvb, ⟨c1, c2⟩, c3, c4⟩ := K1.out w0 (Kept.refl _ _)
  have HVB := Lib.hid hvb
  clear hw0 K1 hvb
  cases hq : (a.t == b.t)
  · rw [hq] at HR
    go_wp2_with fail
    go_ret
    exact ⟨by rw [HR.out]; rfl, HK0.out⟩
  · rw [hq] at HR
    have HC := Lib.hid (equalFunc_any w0 a.pa b.pa a.pc b.pc a.params b.params a1 a2 b1 b2 (HA.out.kept HK0.out).ps (HB.out.kept HK0.out).ps 85 #[.pointer (some ⟨w.heap.size, 0, none⟩)] (samePar t) enters85 (fun W x y hk => profile1_any W w.heap.size v t x y (HVB.out.kept hk) (HT.out.kept (HK0.out.trans hk))))
    go_wp2_with fail
    refine HC.out.mono ?_
    rintro e w1 ⟨rfl, hk1⟩
    have HK1 := Lib.hid (HK0.out.trans hk1)
    clear hk1 c1 c2 c3 c4
    go_wp2_with fail
    go_ret
    exact ⟨by rw [HR.out]; rfl, HK1.out⟩

set_option maxRecDepth 100000 in
set_option maxHeartbeats 2000000 in
theorem homographs_any (w : World) (v : TabV) (t : Tab) (a b : EntV) (hT : TabIn w v t) (ha : EntIn w a) (hb : EntIn w b) :
    Calls Try.prog 48 #[.agg (v.cells t), .agg a.cells.toArray, .agg b.cells.toArray] w (RetB (homR t a b) w) := by
  have HT := Lib.hid hT
  have HA := Lib.hid ha
  have HB := Lib.hid hb
  have HR : Hid (homR t a b = ((a.name.toList == b.name.toList) && (!ovl a || !ovl b || profR t a b))) := rfl
  clear hT ha hb
  go_enter Try.func48, Try.ntmps48
  go_upto_region 1 with (fail)
  refine wp_gen' ?_
  intro w0 hw0
  have HK0 : Hid (Kept [] w w0) := by rw [Hid, hw0]; exact ((Kept.alloc _ _ _).trans (Kept.alloc _ _ _)).trans (Kept.alloc _ _ _)
  have q0 : w0.heap[w.heap.size]? = some (.cells (v.cells t) 74 (0, 0)) := by rw [hw0]; exact obj_old (obj_old (obj_new rfl) (by simp)) (by simp; omega)
  have q1 : w0.heap[w.heap.size + 1]? = some (.cells a.cells.toArray 43 (0, 0)) := by rw [hw0]; exact obj_old (obj_new (by simp)) (by simp)
  have q2 : w0.heap[w.heap.size + 2]? = some (.cells b.cells.toArray 43 (0, 0)) := by rw [hw0]; exact obj_new (by simp)
  have c1 := ent_cell (x := a) q1 1 rfl
  have c2 := ent_cell (x := b) q2 1 rfl
  have HVB : Hid (ViewBox w0 w.heap.size v t) := q0
  have HRA : Hid (∀ W, Kept [] w0 W → W.rangeAt (w.heap.size + 1) 0 a.cells) := fun W hk => EntV.range (hk.obj q1 (by simp))
  have HRB : Hid (∀ W, Kept [] w0 W → W.rangeAt (w.heap.size + 2) 0 b.cells) := fun W hk => EntV.range (hk.obj q2 (by simp))
  have HRV : Hid (∀ W, Kept [] w0 W → W.rangeAt w.heap.size 0 (v.cells t).toList) := fun W hk j u hu => by
    rw [Nat.zero_add, cell_of_row _ _ _ _ _ _ (hk.obj q0 (by simp))]
    simpa using hu
  have hkc : Kept [] w0 w0 := Kept.refl _ _
  clear hw0 q0 q1 q2
  cases hN : (a.name.toList == b.name.toList)
  · rw [hN] at HR
    go_wp2_with fail
    go_ret
    exact ⟨by rw [HR.out]; rfl, HK0.out⟩
  · rw [hN] at HR
    cases hA : ovl a
    · rw [hA] at HR
      go_wp2_with (first
        | (refine wpList_load_g 43 (.tmp 4) rfl rfl (w.heap.size + 1) 0 rfl a.cells _ (HRA.out _ hkc) Try.underlying43 rfl (Try.info43 a) ?_)
        | (go_at_call 76; refine (overloadable_any _ a).mono ?_; rintro e w4 ⟨rfl, hk4⟩; replace hkc := hkc.trans hk4; clear hk4))
      go_ret
      exact ⟨by rw [HR.out]; rfl, HK0.out.trans hkc⟩
    · rw [hA] at HR
      cases hB : ovl b
      · rw [hB] at HR
        go_wp2_with (first
          | (refine wpList_load_g 43 (.tmp 4) rfl rfl (w.heap.size + 1) 0 rfl a.cells _ (HRA.out _ hkc) Try.underlying43 rfl (Try.info43 a) ?_)
          | (refine wpList_load_g 43 (.tmp 5) rfl rfl (w.heap.size + 1 + 1) 0 rfl b.cells _ (HRB.out _ hkc) Try.underlying43 rfl (Try.info43 b) ?_)
          | (go_at_call 76; refine (overloadable_any _ _).mono ?_; rintro e w4 ⟨rfl, hk4⟩; replace hkc := hkc.trans hk4; clear hk4))
        go_ret
        exact ⟨by rw [HR.out]; rfl, HK0.out.trans hkc⟩
      · rw [hB] at HR
        go_wp2_with (first
          | (refine wpList_load_g 43 (.tmp 4) rfl rfl (w.heap.size + 1) 0 rfl a.cells _ (HRA.out _ hkc) Try.underlying43 rfl (Try.info43 a) ?_)
          | (refine wpList_load_g 43 (.tmp 5) rfl rfl (w.heap.size + 1 + 1) 0 rfl b.cells _ (HRB.out _ hkc) Try.underlying43 rfl (Try.info43 b) ?_)
          | (refine wpList_load_g 74 (.tmp 3) rfl rfl w.heap.size 0 rfl (v.cells t).toList _ (HRV.out _ hkc) Try.underlying74 rfl (Try.info74 v t) ?_)
          | (go_at_call 76; refine (overloadable_any _ _).mono ?_; rintro e w4 ⟨rfl, hk4⟩; replace hkc := hkc.trans hk4; clear hk4)
          | (go_at_call 65; refine (profile_any _ v t a b (HT.out.kept (HK0.out.trans hkc)) (HA.out.kept (HK0.out.trans hkc)) (HB.out.kept (HK0.out.trans hkc))).mono ?_; rintro e w4 ⟨rfl, hk4⟩; replace hkc := hkc.trans hk4; clear hk4))
        go_ret
        exact ⟨by rw [HR.out]; rfl, HK0.out.trans hkc⟩
end Go.Proofs.Ytlgcboaojdhneaa
