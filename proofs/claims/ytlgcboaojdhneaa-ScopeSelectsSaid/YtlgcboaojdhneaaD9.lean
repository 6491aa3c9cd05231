/- Full, and the reference's. -/
import Derived.Test.YtlgcboaojdhneaaC5
import Derived.Test.YtlgcboaojdhneaaK4
namespace Go.Proofs.Ytlgcboaojdhneaa
open Go.RowKit

/-- The types of a table. -/
structure TypIn (w : World) (v : TabV) (t : Tab) : Prop where
  ts : RowsAt TyV 18 TyV.cells w v.ta t.types
  tl : t.types.length ≤ v.tc
  tm : v.tc ≤ 9223372036854775807
theorem TypIn.kept {w w' : World} {v : TabV} {t : Tab} (h : TypIn w v t) (hk : Kept [] w w') : TypIn w' v t := ⟨h.ts.kept hk, h.tl, h.tm⟩
def tyR (t : Tab) (e : Int) : Option TyV := if e < 0 then none else t.types[e.toNat]?
def fullB (t : Tab) (h : WhV) (y : TyV) : Bool := y.priv == -1 || (decide (y.full ≤ h.after) && insideR t h.region y.priv)
def fullR (t : Tab) (h : WhV) (e : Int) : Bool := match tyR t e with
  | none => false
  | some y => fullB t h y
theorem ty_cell {W : World} {b : Nat} {x : TyV} (h : W.heap[b]? = some (.cells x.cells.toArray 71 (0, 0))) (j : Nat) {u : Value} (hu : x.cells[j]? = some u) : W.cell? ⟨b, j, none⟩ = some u := by
  rw [cell_of_row _ _ _ _ _ _ h]
  simpa using hu


set_option maxRecDepth 100000 in
set_option maxHeartbeats 4000000 in
theorem full_any (w : World) (v : TabV) (t : Tab) (h : WhV) (e : Int) (hT : TabIn w v t) (hY : TypIn w v t) (hs : t.ents.length ≤ 100000) :
    Calls Try.prog 24 #[.agg (v.cells t), .agg h.cells.toArray, .int .i64 e] w (RetB (fullR t h e) w) := by
  have HT := Lib.hid hT
  have HY := Lib.hid hY
  have HSZ := Lib.hid hs
  have q1 := hY.tl
  have q2 := hY.tm
  clear hT hY hs
  unfold TabV.cells WhV.cells
  go_enter Try.func24, Try.ntmps24
  go_upto_region 1 with (fail)
  refine wp_gen' ?_
  intro w0 hw0
  have HK0 : Hid (Kept [] w w0) := by rw [Hid, hw0]; exact (Kept.alloc _ _ _).trans (Kept.alloc _ _ _)
  have b0 : w0.heap[w.heap.size]? = some (.cells (v.cells t) 28 (0, 0)) := by rw [hw0]; exact obj_old (obj_new rfl) (by simp)
  have b1 : w0.heap[w.heap.size + 1]? = some (.cells h.cells.toArray 31 (0, 0)) := by rw [hw0]; exact obj_new (by simp)
  have HB0 := Lib.hid b0
  have HB1 := Lib.hid b1
  have v0 : w0.cell? ⟨w.heap.size, 0, none⟩ = some (.slice v.ta t.types.length v.tc) := (cell_of_row _ _ _ _ _ _ b0).trans rfl
  clear hw0 b0 b1
  by_cases h0 : e < 0
  · have HR : Hid (fullR t h e = false) := by simp [Hid, fullR, tyR, h0]
    go_wp2_with fail
    go_ret
    exact ⟨by rw [HR.out]; rfl, HK0.out⟩
  · obtain ⟨n, rfl⟩ := Int.eq_ofNat_of_zero_le (by omega : 0 ≤ e)
    by_cases h1 : n < t.types.length
    · obtain ⟨y, hy⟩ : ∃ y, t.types[n]? = some y := ⟨_, List.getElem?_eq_getElem h1⟩
      have HR : Hid (fullR t h (n : Int) = fullB t h y) := by
        rw [Hid, fullR, tyR, if_neg (by omega)]
        simp [hy]
      have HFB : Hid (fullB t h y = (y.priv == -1 || (decide (y.full ≤ h.after) && insideR t h.region y.priv))) := rfl
      rw [HFB.out] at HR
      obtain ⟨b, o, hta, hr⟩ := (HY.out.ts.kept HK0.out).some_ hy
      haveI : TyAt w0 b (o + n * 18) y := ⟨hr n y hy⟩
      rw [hta] at v0
      clear hr hy hta HFB
      go_upto_region 4 with (fail)
      refine wp_gen' ?_
      intro w1 hw1
      have hk1 : Kept [] w0 w1 := by rw [hw1]; exact Kept.alloc _ _ _
      have by1 : w1.heap[w0.heap.size]? = some (.cells y.cells.toArray 71 (0, 0)) := by rw [hw1]; exact heap_alloc_new _ _
      have HK1 := Lib.hid hk1
      have HY1 := Lib.hid by1
      have t15 := ty_cell (x := y) by1 15 rfl
      have t16 := ty_cell (x := y) by1 16 rfl
      have HB01 := Lib.hid (hk1.obj HB0.out (by simp))
      have HB11 := Lib.hid (hk1.obj HB1.out (by simp))
      have u0 : w1.cell? ⟨w.heap.size + 1, 0, none⟩ = some (.int .i64 h.region) := (cell_of_row _ _ _ _ _ _ HB11.out).trans rfl
      have u1 : w1.cell? ⟨w.heap.size + 1, 1, none⟩ = some (.int .i64 h.after) := (cell_of_row _ _ _ _ _ _ HB11.out).trans rfl
      generalize w0.heap.size = Y at *
      clear hw1 hk1 by1 v0
      have c0 : ∀ j, w1.cell? ⟨w.heap.size, j, none⟩ = (v.cells t)[j]? := fun j => cell_of_row _ _ _ _ _ _ HB01.out
      have v0 : w1.cell? ⟨w.heap.size, 0, none⟩ = some (.slice v.ta t.types.length v.tc) := c0 0
      have v1 : w1.cell? ⟨w.heap.size, 1, none⟩ = some (.slice v.sa t.subs.length v.sc) := c0 1
      have v2 : w1.cell? ⟨w.heap.size, 2, none⟩ = some (.slice v.ea t.ents.length v.ec) := c0 2
      have v3 : w1.cell? ⟨w.heap.size, 3, none⟩ = some (.slice v.ga v.gn v.gc) := c0 3
      have v4 : w1.cell? ⟨w.heap.size, 4, none⟩ = some (.slice v.ia v.im v.ic) := c0 4
      clear c0
      have HCI := Lib.hid (inside_any _ v t h.region y.priv (HT.out.kept (HK0.out.trans HK1.out)))
      unfold TabV.cells at HCI
      cases hp : (y.priv == -1)
      · rw [hp] at HR
        cases hf : decide (y.full ≤ h.after)
        · rw [hf] at HR
          go_wp2_with fail
          go_ret
          exact ⟨by rw [HR.out]; rfl, HK0.out.trans HK1.out⟩
        · rw [hf] at HR
          go_wp2_with (go_at_call 17; refine HCI.out.mono ?_; rintro e w5 ⟨rfl, hk5⟩; have HK5 := Lib.hid hk5; have t15 := ty_cell (x := y) (hk5.obj HY1.out (by simp)) 15 rfl; have t16 := ty_cell (x := y) (hk5.obj HY1.out (by simp)) 16 rfl; have u1 : w5.cell? ⟨w.heap.size + 1, 1, none⟩ = some (.int .i64 h.after) := (cell_of_row _ _ _ _ _ _ (hk5.obj HB11.out (by simp))).trans rfl; clear hk5)
          go_ret
          exact ⟨by rw [HR.out]; rfl, HK0.out.trans (HK1.out.trans HK5.out)⟩
      · rw [hp] at HR
        have hp' : y.priv = -1 := by simpa using hp
        have HR2 : Hid (fullR t h (n : Int) = true) := by rw [Hid, HR.out]; rfl
        rw [hp'] at t15
        clear HCI hp hp'
        go_wp2_with fail
        go_ret
        exact ⟨by rw [HR2.out]; rfl, HK0.out.trans HK1.out⟩
    · have HR : Hid (fullR t h (n : Int) = false) := by
        rw [Hid, fullR, tyR, if_neg (by omega)]
        rw [List.getElem?_eq_none (by simp; omega)]
      go_wp2_with fail
      go_ret
      exact ⟨by rw [HR.out]; rfl, HK0.out⟩

set_option maxRecDepth 100000 in
set_option maxHeartbeats 4000000 in
theorem fullRef_any (w : World) (v : TabV) (t : Tab) (h : WhV) (e : Int) (hT : TabIn w v t) (hY : TypIn w v t) (hs : t.ents.length ≤ 100000) :
    Calls Try.prog 25 #[.agg (v.cells t), .agg h.cells.toArray, .int .i64 e] w (RetB (fullR t h e) w) := by
  have HT := Lib.hid hT
  have HY := Lib.hid hY
  have HSZ := Lib.hid hs
  have q1 := hY.tl
  have q2 := hY.tm
  clear hT hY hs
  unfold TabV.cells WhV.cells
  go_enter Try.func25, Try.ntmps25
  go_upto_region 1 with (fail)
  refine wp_gen' ?_
  intro w0 hw0
  have HK0 : Hid (Kept [] w w0) := by rw [Hid, hw0]; exact (Kept.alloc _ _ _).trans (Kept.alloc _ _ _)
  have b0 : w0.heap[w.heap.size]? = some (.cells (v.cells t) 28 (0, 0)) := by rw [hw0]; exact obj_old (obj_new rfl) (by simp)
  have b1 : w0.heap[w.heap.size + 1]? = some (.cells h.cells.toArray 31 (0, 0)) := by rw [hw0]; exact obj_new (by simp)
  have HB0 := Lib.hid b0
  have HB1 := Lib.hid b1
  have v0 : w0.cell? ⟨w.heap.size, 0, none⟩ = some (.slice v.ta t.types.length v.tc) := (cell_of_row _ _ _ _ _ _ b0).trans rfl
  clear hw0 b0 b1
  by_cases h0 : e < 0
  · have HR : Hid (fullR t h e = false) := by simp [Hid, fullR, tyR, h0]
    go_wp2_with fail
    go_ret
    exact ⟨by rw [HR.out]; rfl, HK0.out⟩
  · obtain ⟨n, rfl⟩ := Int.eq_ofNat_of_zero_le (by omega : 0 ≤ e)
    by_cases h1 : n < t.types.length
    · obtain ⟨y, hy⟩ : ∃ y, t.types[n]? = some y := ⟨_, List.getElem?_eq_getElem h1⟩
      have HR : Hid (fullR t h (n : Int) = fullB t h y) := by
        rw [Hid, fullR, tyR, if_neg (by omega)]
        simp [hy]
      have HFB : Hid (fullB t h y = (y.priv == -1 || (decide (y.full ≤ h.after) && insideR t h.region y.priv))) := rfl
      rw [HFB.out] at HR
      obtain ⟨b, o, hta, hr⟩ := (HY.out.ts.kept HK0.out).some_ hy
      haveI : TyAt w0 b (o + n * 18) y := ⟨hr n y hy⟩
      rw [hta] at v0
      clear hr hy hta HFB
      go_upto_region 4 with (fail)
      refine wp_gen' ?_
      intro w1 hw1
      have hk1 : Kept [] w0 w1 := by rw [hw1]; exact Kept.alloc _ _ _
      have by1 : w1.heap[w0.heap.size]? = some (.cells y.cells.toArray 71 (0, 0)) := by rw [hw1]; exact heap_alloc_new _ _
      have HK1 := Lib.hid hk1
      have HY1 := Lib.hid by1
      have t15 := ty_cell (x := y) by1 15 rfl
      have t16 := ty_cell (x := y) by1 16 rfl
      have HB01 := Lib.hid (hk1.obj HB0.out (by simp))
      have HB11 := Lib.hid (hk1.obj HB1.out (by simp))
      have u0 : w1.cell? ⟨w.heap.size + 1, 0, none⟩ = some (.int .i64 h.region) := (cell_of_row _ _ _ _ _ _ HB11.out).trans rfl
      have u1 : w1.cell? ⟨w.heap.size + 1, 1, none⟩ = some (.int .i64 h.after) := (cell_of_row _ _ _ _ _ _ HB11.out).trans rfl
      generalize w0.heap.size = Y at *
      clear hw1 hk1 by1 v0
      have c0 : ∀ j, w1.cell? ⟨w.heap.size, j, none⟩ = (v.cells t)[j]? := fun j => cell_of_row _ _ _ _ _ _ HB01.out
      have v0 : w1.cell? ⟨w.heap.size, 0, none⟩ = some (.slice v.ta t.types.length v.tc) := c0 0
      have v1 : w1.cell? ⟨w.heap.size, 1, none⟩ = some (.slice v.sa t.subs.length v.sc) := c0 1
      have v2 : w1.cell? ⟨w.heap.size, 2, none⟩ = some (.slice v.ea t.ents.length v.ec) := c0 2
      have v3 : w1.cell? ⟨w.heap.size, 3, none⟩ = some (.slice v.ga v.gn v.gc) := c0 3
      have v4 : w1.cell? ⟨w.heap.size, 4, none⟩ = some (.slice v.ia v.im v.ic) := c0 4
      clear c0
      have HCI := Lib.hid (insideRef_any _ v t h.region y.priv (HT.out.kept (HK0.out.trans HK1.out)) HSZ.out)
      unfold TabV.cells at HCI
      cases hp : (y.priv == -1)
      · rw [hp] at HR
        cases hi : insideR t h.region y.priv
        · rw [hi] at HR HCI
          go_wp2_with (go_at_call 32; refine HCI.out.mono ?_; rintro e w5 ⟨rfl, hk5⟩; have HK5 := Lib.hid hk5; have t15 := ty_cell (x := y) (hk5.obj HY1.out (by simp)) 15 rfl; have t16 := ty_cell (x := y) (hk5.obj HY1.out (by simp)) 16 rfl; have u1 : w5.cell? ⟨w.heap.size + 1, 1, none⟩ = some (.int .i64 h.after) := (cell_of_row _ _ _ _ _ _ (hk5.obj HB11.out (by simp))).trans rfl; clear hk5)
          go_ret
          exact ⟨by rw [HR.out]; simp, HK0.out.trans (HK1.out.trans HK5.out)⟩
        · rw [hi] at HR HCI
          cases hf : decide (y.full ≤ h.after)
          · rw [hf] at HR
            go_wp2_with (go_at_call 32; refine HCI.out.mono ?_; rintro e w5 ⟨rfl, hk5⟩; have HK5 := Lib.hid hk5; have t15 := ty_cell (x := y) (hk5.obj HY1.out (by simp)) 15 rfl; have t16 := ty_cell (x := y) (hk5.obj HY1.out (by simp)) 16 rfl; have u1 : w5.cell? ⟨w.heap.size + 1, 1, none⟩ = some (.int .i64 h.after) := (cell_of_row _ _ _ _ _ _ (hk5.obj HB11.out (by simp))).trans rfl; clear hk5)
            go_ret
            exact ⟨by rw [HR.out]; simp, HK0.out.trans (HK1.out.trans HK5.out)⟩
          · rw [hf] at HR
            go_wp2_with (go_at_call 32; refine HCI.out.mono ?_; rintro e w5 ⟨rfl, hk5⟩; have HK5 := Lib.hid hk5; have t15 := ty_cell (x := y) (hk5.obj HY1.out (by simp)) 15 rfl; have t16 := ty_cell (x := y) (hk5.obj HY1.out (by simp)) 16 rfl; have u1 : w5.cell? ⟨w.heap.size + 1, 1, none⟩ = some (.int .i64 h.after) := (cell_of_row _ _ _ _ _ _ (hk5.obj HB11.out (by simp))).trans rfl; clear hk5)
            go_ret
            exact ⟨by rw [HR.out]; simp, HK0.out.trans (HK1.out.trans HK5.out)⟩
      · rw [hp] at HR
        have hp' : y.priv = -1 := by simpa using hp
        have HR2 : Hid (fullR t h (n : Int) = true) := by rw [Hid, HR.out]; rfl
        rw [hp'] at t15
        clear HCI hp hp'
        go_wp2_with fail
        go_ret
        exact ⟨by rw [HR2.out]; rfl, HK0.out.trans HK1.out⟩
    · have HR : Hid (fullR t h (n : Int) = false) := by
        rw [Hid, fullR, tyR, if_neg (by omega)]
        rw [List.getElem?_eq_none (by simp; omega)]
      go_wp2_with fail
      go_ret
      exact ⟨by rw [HR.out]; rfl, HK0.out⟩
end Go.Proofs.Ytlgcboaojdhneaa
