/- Full, and the reference's. cut, cutWhere. -/
import Derived.Test.YtlgcboaojdhneaaC5
import Derived.Test.YtlgcboaojdhneaaK4
import Derived.BigRegion
namespace Go.Proofs.Ytlgcboaojdhneaa
open Go.RowKit

/-- The types of a table. -/
structure TypIn (w : World) (v : TabV) (t : Tab) : Prop where
  ts : RowsAt TyV 18 TyV.cells w v.ta t.types
  tl : t.types.length ≤ v.tc
  tm : v.tc ≤ 9223372036854775807
theorem TypIn.kept {w w' : World} {v : TabV} {t : Tab} (h : TypIn w v t) (hk : Kept [] w w') : TypIn w' v t := ⟨h.ts.kept hk, h.tl, h.tm⟩
def tyR (t : Tab) (e : Int) : Option TyV := if e < 0 then none else t.types[e.toNat]?
def fullB (t : Tab) (h : WhV) (y : TyV) : Bool := y.priv == -1 || (decide (y.full ≤ h.after) && insideR t h.region y.priv)
def fullR (t : Tab) (h : WhV) (e : Int) : Bool := match tyR t e with
  | none => false
  | some y => fullB t h y
theorem ty_cell {W : World} {b : Nat} {x : TyV} (h : W.heap[b]? = some (.cells x.cells.toArray 71 (0, 0))) (j : Nat) {u : Value} (hu : x.cells[j]? = some u) : W.cell? ⟨b, j, none⟩ = some u := by
  rw [cell_of_row _ _ _ _ _ _ h]
  simpa using hu


set_option maxRecDepth 100000 in
set_option maxHeartbeats 4000000 in
theorem full_any (w : World) (v : TabV) (t : Tab) (h : WhV) (e : Int) (hT : TabIn w v t) (hY : TypIn w v t) (hs : t.ents.length ≤ 100000) :
    Calls Try.prog 24 #[.agg (v.cells t), .agg h.cells.toArray, .int .i64 e] w (RetB (fullR t h e) w) := by
  have HT := Lib.hid hT
  have HY := Lib.hid hY
  have HSZ := Lib.hid hs
  have q1 := hY.tl
  have q2 := hY.tm
  clear hT hY hs
  unfold TabV.cells WhV.cells
  go_enter Try.func24, Try.ntmps24
  go_upto_region 1 with (fail)
  refine wp_gen' ?_
  intro w0 hw0
  have HK0 : Hid (Kept [] w w0) := by rw [Hid, hw0]; exact (Kept.alloc _ _ _).trans (Kept.alloc _ _ _)
  have b0 : w0.heap[w.heap.size]? = some (.cells (v.cells t) 28 (0, 0)) := by rw [hw0]; exact obj_old (obj_new rfl) (by simp)
  have b1 : w0.heap[w.heap.size + 1]? = some (.cells h.cells.toArray 31 (0, 0)) := by rw [hw0]; exact obj_new (by simp)
  have HB0 := Lib.hid b0
  have HB1 := Lib.hid b1
  have v0 : w0.cell? ⟨w.heap.size, 0, none⟩ = some (.slice v.ta t.types.length v.tc) := (cell_of_row _ _ _ _ _ _ b0).trans rfl
  clear hw0 b0 b1
  by_cases h0 : e < 0
  · have HR : Hid (fullR t h e = false) := by simp [Hid, fullR, tyR, h0]
    go_wp2_with fail
    go_ret
    exact ⟨by rw [HR.out]; rfl, HK0.out⟩
  · obtain ⟨n, rfl⟩ := Int.eq_ofNat_of_zero_le (by omega : 0 ≤ e)
    by_cases h1 : n < t.types.length
    · obtain ⟨y, hy⟩ : ∃ y, t.types[n]? = some y := ⟨_, List.getElem?_eq_getElem h1⟩
      have HR : Hid (fullR t h (n : Int) = fullB t h y) := by
        rw [Hid, fullR, tyR, if_neg (by omega)]
        simp [hy]
      have HFB : Hid (fullB t h y = (y.priv == -1 || (decide (y.full ≤ h.after) && insideR t h.region y.priv))) := rfl
      rw [HFB.out] at HR
      obtain ⟨b, o, hta, hr⟩ := (HY.out.ts.kept HK0.out).some_ hy
      haveI : TyAt w0 b (o + n * 18) y := ⟨hr n y hy⟩
      rw [hta] at v0
      clear hr hy hta HFB
      go_upto_region 4 with (fail)
      refine wp_gen' ?_
      intro w1 hw1
      have hk1 : Kept [] w0 w1 := by rw [hw1]; exact Kept.alloc _ _ _
      have by1 : w1.heap[w0.heap.size]? = some (.cells y.cells.toArray 71 (0, 0)) := by rw [hw1]; exact heap_alloc_new _ _
      have HK1 := Lib.hid hk1
      have HY1 := Lib.hid by1
      have t15 := ty_cell (x := y) by1 15 rfl
      have t16 := ty_cell (x := y) by1 16 rfl
      have HB01 := Lib.hid (hk1.obj HB0.out (by simp))
      have HB11 := Lib.hid (hk1.obj HB1.out (by simp))
      have u0 : w1.cell? ⟨w.heap.size + 1, 0, none⟩ = some (.int .i64 h.region) := (cell_of_row _ _ _ _ _ _ HB11.out).trans rfl
      have u1 : w1.cell? ⟨w.heap.size + 1, 1, none⟩ = some (.int .i64 h.after) := (cell_of_row _ _ _ _ _ _ HB11.out).trans rfl
      generalize w0.heap.size = Y at *
      clear hw1 hk1 by1 v0
      have c0 : ∀ j, w1.cell? ⟨w.heap.size, j, none⟩ = (v.cells t)[j]? := fun j => cell_of_row _ _ _ _ _ _ HB01.out
      have v0 : w1.cell? ⟨w.heap.size, 0, none⟩ = some (.slice v.ta t.types.length v.tc) := c0 0
      have v1 : w1.cell? ⟨w.heap.size, 1, none⟩ = some (.slice v.sa t.subs.length v.sc) := c0 1
      have v2 : w1.cell? ⟨w.heap.size, 2, none⟩ = some (.slice v.ea t.ents.length v.ec) := c0 2
      have v3 : w1.cell? ⟨w.heap.size, 3, none⟩ = some (.slice v.ga v.gn v.gc) := c0 3
      have v4 : w1.cell? ⟨w.heap.size, 4, none⟩ = some (.slice v.ia v.im v.ic) := c0 4
      clear c0
      have HCI := Lib.hid (inside_any _ v t h.region y.priv (HT.out.kept (HK0.out.trans HK1.out)))
      unfold TabV.cells at HCI
      cases hp : (y.priv == -1)
      · rw [hp] at HR
        cases hf : decide (y.full ≤ h.after)
        · rw [hf] at HR
          go_wp2_with fail
          go_ret
          exact ⟨by rw [HR.out]; rfl, HK0.out.trans HK1.out⟩
        · rw [hf] at HR
          go_wp2_with (go_at_call 17; refine HCI.out.mono ?_; rintro e w5 ⟨rfl, hk5⟩; have HK5 := Lib.hid hk5; have t15 := ty_cell (x := y) (hk5.obj HY1.out (by simp)) 15 rfl; have t16 := ty_cell (x := y) (hk5.obj HY1.out (by simp)) 16 rfl; have u1 : w5.cell? ⟨w.heap.size + 1, 1, none⟩ = some (.int .i64 h.after) := (cell_of_row _ _ _ _ _ _ (hk5.obj HB11.out (by simp))).trans rfl; clear hk5)
          go_ret
          exact ⟨by rw [HR.out]; rfl, HK0.out.trans (HK1.out.trans HK5.out)⟩
      · rw [hp] at HR
        have hp' : y.priv = -1 := by simpa using hp
        have HR2 : Hid (fullR t h (n : Int) = true) := by rw [Hid, HR.out]; rfl
        rw [hp'] at t15
        clear HCI hp hp'
        go_wp2_with fail
        go_ret
        exact ⟨by rw [HR2.out]; rfl, HK0.out.trans HK1.out⟩
    · have HR : Hid (fullR t h (n : Int) = false) := by
        rw [Hid, fullR, tyR, if_neg (by omega)]
        rw [List.getElem?_eq_none (by simp; omega)]
      go_wp2_with fail
      go_ret
      exact ⟨by rw [HR.out]; rfl, HK0.out⟩

set_option maxRecDepth 100000 in
set_option maxHeartbeats 4000000 in
theorem fullRef_any (w : World) (v : TabV) (t : Tab) (h : WhV) (e : Int) (hT : TabIn w v t) (hY : TypIn w v t) (hs : t.ents.length ≤ 100000) :
    Calls Try.prog 25 #[.agg (v.cells t), .agg h.cells.toArray, .int .i64 e] w (RetB (fullR t h e) w) := by
  have HT := Lib.hid hT
  have HY := Lib.hid hY
  have HSZ := Lib.hid hs
  have q1 := hY.tl
  have q2 := hY.tm
  clear hT hY hs
  unfold TabV.cells WhV.cells
  go_enter Try.func25, Try.ntmps25
  go_upto_region 1 with (fail)
  refine wp_gen' ?_
  intro w0 hw0
  have HK0 : Hid (Kept [] w w0) := by rw [Hid, hw0]; exact (Kept.alloc _ _ _).trans (Kept.alloc _ _ _)
  have b0 : w0.heap[w.heap.size]? = some (.cells (v.cells t) 28 (0, 0)) := by rw [hw0]; exact obj_old (obj_new rfl) (by simp)
  have b1 : w0.heap[w.heap.size + 1]? = some (.cells h.cells.toArray 31 (0, 0)) := by rw [hw0]; exact obj_new (by simp)
  have HB0 := Lib.hid b0
  have HB1 := Lib.hid b1
  have v0 : w0.cell? ⟨w.heap.size, 0, none⟩ = some (.slice v.ta t.types.length v.tc) := (cell_of_row _ _ _ _ _ _ b0).trans rfl
  clear hw0 b0 b1
  by_cases h0 : e < 0
  · have HR : Hid (fullR t h e = false) := by simp [Hid, fullR, tyR, h0]
    go_wp2_with fail
    go_ret
    exact ⟨by rw [HR.out]; rfl, HK0.out⟩
  · obtain ⟨n, rfl⟩ := Int.eq_ofNat_of_zero_le (by omega : 0 ≤ e)
    by_cases h1 : n < t.types.length
    · obtain ⟨y, hy⟩ : ∃ y, t.types[n]? = some y := ⟨_, List.getElem?_eq_getElem h1⟩
      have HR : Hid (fullR t h (n : Int) = fullB t h y) := by
        rw [Hid, fullR, tyR, if_neg (by omega)]
        simp [hy]
      have HFB : Hid (fullB t h y = (y.priv == -1 || (decide (y.full ≤ h.after) && insideR t h.region y.priv))) := rfl
      rw [HFB.out] at HR
      obtain ⟨b, o, hta, hr⟩ := (HY.out.ts.kept HK0.out).some_ hy
      haveI : TyAt w0 b (o + n * 18) y := ⟨hr n y hy⟩
      rw [hta] at v0
      clear hr hy hta HFB
      go_upto_region 4 with (fail)
      refine wp_gen' ?_
      intro w1 hw1
      have hk1 : Kept [] w0 w1 := by rw [hw1]; exact Kept.alloc _ _ _
      have by1 : w1.heap[w0.heap.size]? = some (.cells y.cells.toArray 71 (0, 0)) := by rw [hw1]; exact heap_alloc_new _ _
      have HK1 := Lib.hid hk1
      have HY1 := Lib.hid by1
      have t15 := ty_cell (x := y) by1 15 rfl
      have t16 := ty_cell (x := y) by1 16 rfl
      have HB01 := Lib.hid (hk1.obj HB0.out (by simp))
      have HB11 := Lib.hid (hk1.obj HB1.out (by simp))
      have u0 : w1.cell? ⟨w.heap.size + 1, 0, none⟩ = some (.int .i64 h.region) := (cell_of_row _ _ _ _ _ _ HB11.out).trans rfl
      have u1 : w1.cell? ⟨w.heap.size + 1, 1, none⟩ = some (.int .i64 h.after) := (cell_of_row _ _ _ _ _ _ HB11.out).trans rfl
      generalize w0.heap.size = Y at *
      clear hw1 hk1 by1 v0
      have c0 : ∀ j, w1.cell? ⟨w.heap.size, j, none⟩ = (v.cells t)[j]? := fun j => cell_of_row _ _ _ _ _ _ HB01.out
      have v0 : w1.cell? ⟨w.heap.size, 0, none⟩ = some (.slice v.ta t.types.length v.tc) := c0 0
      have v1 : w1.cell? ⟨w.heap.size, 1, none⟩ = some (.slice v.sa t.subs.length v.sc) := c0 1
      have v2 : w1.cell? ⟨w.heap.size, 2, none⟩ = some (.slice v.ea t.ents.length v.ec) := c0 2
      have v3 : w1.cell? ⟨w.heap.size, 3, none⟩ = some (.slice v.ga v.gn v.gc) := c0 3
      have v4 : w1.cell? ⟨w.heap.size, 4, none⟩ = some (.slice v.ia v.im v.ic) := c0 4
      clear c0
      have HCI := Lib.hid (insideRef_any _ v t h.region y.priv (HT.out.kept (HK0.out.trans HK1.out)) HSZ.out)
      unfold TabV.cells at HCI
      cases hp : (y.priv == -1)
      · rw [hp] at HR
        cases hi : insideR t h.region y.priv
        · rw [hi] at HR HCI
          go_wp2_with (go_at_call 32; refine HCI.out.mono ?_; rintro e w5 ⟨rfl, hk5⟩; have HK5 := Lib.hid hk5; have t15 := ty_cell (x := y) (hk5.obj HY1.out (by simp)) 15 rfl; have t16 := ty_cell (x := y) (hk5.obj HY1.out (by simp)) 16 rfl; have u1 : w5.cell? ⟨w.heap.size + 1, 1, none⟩ = some (.int .i64 h.after) := (cell_of_row _ _ _ _ _ _ (hk5.obj HB11.out (by simp))).trans rfl; clear hk5)
          go_ret
          exact ⟨by rw [HR.out]; simp, HK0.out.trans (HK1.out.trans HK5.out)⟩
        · rw [hi] at HR HCI
          cases hf : decide (y.full ≤ h.after)
          · rw [hf] at HR
            go_wp2_with (go_at_call 32; refine HCI.out.mono ?_; rintro e w5 ⟨rfl, hk5⟩; have HK5 := Lib.hid hk5; have t15 := ty_cell (x := y) (hk5.obj HY1.out (by simp)) 15 rfl; have t16 := ty_cell (x := y) (hk5.obj HY1.out (by simp)) 16 rfl; have u1 : w5.cell? ⟨w.heap.size + 1, 1, none⟩ = some (.int .i64 h.after) := (cell_of_row _ _ _ _ _ _ (hk5.obj HB11.out (by simp))).trans rfl; clear hk5)
            go_ret
            exact ⟨by rw [HR.out]; simp, HK0.out.trans (HK1.out.trans HK5.out)⟩
          · rw [hf] at HR
            go_wp2_with (go_at_call 32; refine HCI.out.mono ?_; rintro e w5 ⟨rfl, hk5⟩; have HK5 := Lib.hid hk5; have t15 := ty_cell (x := y) (hk5.obj HY1.out (by simp)) 15 rfl; have t16 := ty_cell (x := y) (hk5.obj HY1.out (by simp)) 16 rfl; have u1 : w5.cell? ⟨w.heap.size + 1, 1, none⟩ = some (.int .i64 h.after) := (cell_of_row _ _ _ _ _ _ (hk5.obj HB11.out (by simp))).trans rfl; clear hk5)
            go_ret
            exact ⟨by rw [HR.out]; simp, HK0.out.trans (HK1.out.trans HK5.out)⟩
      · rw [hp] at HR
        have hp' : y.priv = -1 := by simpa using hp
        have HR2 : Hid (fullR t h (n : Int) = true) := by rw [Hid, HR.out]; rfl
        rw [hp'] at t15
        clear HCI hp hp'
        go_wp2_with fail
        go_ret
        exact ⟨by rw [HR2.out]; rfl, HK0.out.trans HK1.out⟩
    · have HR : Hid (fullR t h (n : Int) = false) := by
        rw [Hid, fullR, tyR, if_neg (by omega)]
        rw [List.getElem?_eq_none (by simp; omega)]
      go_wp2_with fail
      go_ret
      exact ⟨by rw [HR.out]; rfl, HK0.out⟩
end Go.Proofs.Ytlgcboaojdhneaa
namespace Go.Proofs.Ytlgcboaojdhneaa
open Go.RowKit

def cutT (t : Tab) : Tab := { t with ents := t.ents.take 120 }
theorem RowsAt.take {α : Type} {k : Nat} {cells : α → List Value} {w : World} {A : Option Addr} {l : List α} (h : RowsAt α k cells w A l) (n : Nat) : RowsAt α k cells w A (l.take n) := by
  rcases h with rfl | ⟨b, o, e, hc⟩
  · exact .inl (by simp)
  · refine .inr ⟨b, o, e, fun j r hr => hc j r ?_⟩
    rw [List.getElem?_take] at hr
    split at hr
    · exact hr
    · cases hr
theorem TabIn.cut {w : World} {v : TabV} {t : Tab} (h : TabIn w v t) : TabIn w v (cutT t) :=
  ⟨h.es.take 120, fun x hx => h.ps x (List.mem_of_mem_take hx), fun x hx => h.ok x (List.mem_of_mem_take hx), h.ss, by have := h.el; simp [cutT, List.length_take]; omega, h.em, h.e0, h.sl, h.sm⟩
def RetT (v : TabV) (t : Tab) (w : World) (e : Ending) (w' : World) : Prop := e = .returned (.agg (v.cells t)) ∧ Kept [] w w'
theorem results10_of {w : World} {B : Nat} {c : Array Value} {tmps : Array Value} (h4 : tmps.getD 2 undef = .pointer (some ⟨B, 0, none⟩)) (hc : c.size = 5) (hr : w.rangeAt B 0 c.toList) :
    (results Try.f10 tmps).run Try.prog w = .ok (.agg c) w := by
  simp only [Array.getD_eq_getD_getElem?] at h4
  have hi : (Try.prog.info? 28).map (·.size) = some c.toList.length := by
    rw [Array.length_toList, hc]
    exact Try.size28
  simp [results, Try.results10, h4, asAddr, Sem.run_bind, run_loadVar_mid w B 0 28 c.toList _ hr Try.underlying28 rfl hi]

set_option maxRecDepth 100000 in
set_option maxHeartbeats 4000000 in
theorem cut_any (w : World) (v : TabV) (t : Tab) (hT : TabIn w v t) :
    Calls Try.prog 10 #[.agg (v.cells t)] w (RetT v (cutT t) w) := by
  have q1 := hT.el
  have q2 := hT.em
  have q0 := hT.e0
  have hE : Hid (v.ea = none ∨ ∃ a, v.ea = some a) := by
    cases v.ea with
    | none => exact .inl rfl
    | some a => exact .inr ⟨a, rfl⟩
  clear hT
  have HV : Hid (v.cells (cutT t) = #[.slice v.ta t.types.length v.tc, .slice v.sa t.subs.length v.sc, .slice v.ea (t.ents.take 120).length v.ec, .slice v.ga v.gn v.gc, .slice v.ia v.im v.ic]) := rfl
  unfold TabV.cells
  go_enter Try.func10, Try.ntmps10
  have hmin : (min (t.ents.length : Int) 120).toNat = (t.ents.take 120).length := by rw [List.length_take]; omega
  have HMIN := Lib.hid hmin
  clear hmin
  have HE2 : Hid (∀ W (c : Array Value), c = v.cells (cutT t) → Kept [] w W → RetT v (cutT t) w (.returned (.agg c)) W) := fun W c hc hk => ⟨by rw [hc], hk⟩
  rcases hE.out with hn | ⟨a, ha⟩
  · have h0 : v.ec = 0 := q0 hn
    have h1 : t.ents.length = 0 := by omega
    have HC : Hid (#[.slice v.ta t.types.length v.tc, .slice v.sa t.subs.length v.sc, .slice none (min (0 : Int) 120).toNat 0, .slice v.ga v.gn v.gc, .slice v.ia v.im v.ic] = v.cells (cutT t)) := by
      have h2 : (t.ents.take 120).length = 0 := by rw [List.length_take]; omega
      rw [Hid, HV.out, hn, h0, h2]
      rfl
    rw [hn, h0, h1]
    clear q0 q1 q2 hn h0 h1
    go_wp2_with fail
    refine bodyPost_ret (results10_of (c := #[.slice v.ta t.types.length v.tc, .slice v.sa t.subs.length v.sc, .slice none (min (0 : Int) 120).toNat 0, .slice v.ga v.gn v.gc, .slice v.ia v.im v.ic]) rfl rfl ?_) rfl (HE2.out _ _ HC.out ((Kept.alloc _ _ _).trans (Kept.alloc _ _ _)))
    intro j u hu
    rw [Nat.zero_add, cell_of_row _ _ _ _ _ _ (obj_new (by simp))]
    simpa using hu
  · have HC : Hid (#[.slice v.ta t.types.length v.tc, .slice v.sa t.subs.length v.sc, .slice (some a) (min (t.ents.length : Int) 120).toNat v.ec, .slice v.ga v.gn v.gc, .slice v.ia v.im v.ic] = v.cells (cutT t)) := by
      rw [Hid, HV.out, ha, HMIN.out]
    rw [ha]
    clear q0 ha
    go_wp2_with fail
    refine bodyPost_ret (results10_of (c := #[.slice v.ta t.types.length v.tc, .slice v.sa t.subs.length v.sc, .slice (some a) (min (t.ents.length : Int) 120).toNat v.ec, .slice v.ga v.gn v.gc, .slice v.ia v.im v.ic]) rfl rfl ?_) rfl (HE2.out _ _ HC.out ((Kept.alloc _ _ _).trans (Kept.alloc _ _ _)))
    intro j u hu
    rw [Nat.zero_add, cell_of_row _ _ _ _ _ _ (obj_new (by simp))]
    simpa using hu

theorem cell_drew (W : World) (p : Addr) : W.drew.cell? p = W.cell? p := by simp
def cutH (h : WhV) : WhV := { h with units := h.units.take 20, uses := h.uses.take 20 }
theorem IntsIn.take {w : World} {A : Option Addr} {l : List Int} (h : IntsIn w A l) (n : Nat) : IntsIn w A (l.take n) := by
  rcases h with rfl | ⟨b, o, e, hc⟩
  · exact .inl (by simp)
  · refine .inr ⟨b, o, e, fun j r hr => hc j r ?_⟩
    rw [List.getElem?_take] at hr
    split at hr
    · exact hr
    · cases hr
theorem WhIn.cut {w : World} {h : WhV} (hh : WhIn w h) : WhIn w (cutH h) :=
  ⟨hh.u.take 20, by have := hh.u1; simp [cutH, List.length_take]; omega, hh.u2, hh.s.take 20, by have := hh.s1; simp [cutH, List.length_take]; omega, hh.s2⟩
def RetH (h : WhV) (w : World) (e : Ending) (w' : World) : Prop := e = .returned (.agg h.cells.toArray) ∧ Kept [] w w'
theorem results11_of {w : World} {B : Nat} {c : Array Value} {tmps : Array Value} (h4 : tmps.getD 2 undef = .pointer (some ⟨B, 0, none⟩)) (hc : c.size = 4) (hr : w.rangeAt B 0 c.toList) :
    (results Try.f11 tmps).run Try.prog w = .ok (.agg c) w := by
  simp only [Array.getD_eq_getD_getElem?] at h4
  have hi : (Try.prog.info? 31).map (·.size) = some c.toList.length := by
    rw [Array.length_toList, hc]
    show _ = some 4
    kernel_rfl
  simp [results, Try.results11, h4, asAddr, Sem.run_bind, run_loadVar_mid w B 0 31 c.toList _ hr Try.underlying31 rfl hi]

set_option maxRecDepth 100000 in
set_option maxHeartbeats 4000000 in
theorem cutWhere_any (w : World) (h : WhV) (hH : WhIn w h) (hu : h.ua = none → h.uc = 0) (hs : h.sa = none → h.sc = 0) :
    Calls Try.prog 11 #[.agg h.cells.toArray] w (RetH (cutH h) w) := by
  have u1 := hH.u1
  have u2 := hH.u2
  have s1 := hH.s1
  have s2 := hH.s2
  have HV : Hid ((cutH h).cells.toArray = #[.int .i64 h.region, .int .i64 h.after, .slice h.ua (h.units.take 20).length h.uc, .slice h.sa (h.uses.take 20).length h.sc]) := rfl
  have HU : Hid ((h.ua = none ∧ h.uc = 0 ∧ h.units.length = 0) ∨ ∃ a, h.ua = some a) := by
    cases e : h.ua with
    | none => exact .inl ⟨rfl, hu e, by have := hu e; omega⟩
    | some a => exact .inr ⟨a, rfl⟩
  have HS : Hid ((h.sa = none ∧ h.sc = 0 ∧ h.uses.length = 0) ∨ ∃ a, h.sa = some a) := by
    cases e : h.sa with
    | none => exact .inl ⟨rfl, hs e, by have := hs e; omega⟩
    | some a => exact .inr ⟨a, rfl⟩
  clear hH hu hs
  unfold WhV.cells
  go_enter Try.func11, Try.ntmps11
  have HE2 : Hid (∀ W (c : Array Value), c = (cutH h).cells.toArray → Kept [] w W → RetH (cutH h) w (.returned (.agg c)) W) := fun W c hc hk => ⟨by rw [hc], hk⟩
  rcases HU.out with ⟨hn, h0, h1⟩ | ⟨a, ha⟩
  · rcases HS.out with ⟨hn', h0', h1'⟩ | ⟨a', ha'⟩
    · have HC : Hid (#[.int .i64 h.region, .int .i64 h.after, .slice none (min (0 : Int) 20).toNat 0, .slice none (min (0 : Int) 20).toNat 0] = (cutH h).cells.toArray) := by
        have e1 : (h.units.take 20).length = 0 := by rw [List.length_take]; omega
        have e2 : (h.uses.take 20).length = 0 := by rw [List.length_take]; omega
        rw [Hid, HV.out, e1, e2, hn, h0, hn', h0']
        rfl
      rw [hn, h0, h1, hn', h0', h1']
      clear u1 u2 s1 s2 hn h0 h1 hn' h0' h1'
      go_upto_region 1 with (fail)
      go_region
      go_wp2_with fail
      refine bodyPost_ret (results11_of (c := #[.int .i64 h.region, .int .i64 h.after, .slice none (min (0 : Int) 20).toNat 0, .slice none (min (0 : Int) 20).toNat 0]) rfl rfl ?_) rfl (HE2.out _ _ HC.out ?_)
      · intro j u hu
        rw [Nat.zero_add, cell_drew, cell_of_row _ _ _ _ _ _ (obj_new (by simp))]
        simpa using hu
      · exact ((Kept.alloc _ _ _).trans (Kept.alloc _ _ _)).trans (Kept.drew _ _)
    · have HC : Hid (#[.int .i64 h.region, .int .i64 h.after, .slice none (min (0 : Int) 20).toNat 0, .slice (some a') (min (h.uses.length : Int) 20).toNat h.sc] = (cutH h).cells.toArray) := by
        have e1 : (h.units.take 20).length = 0 := by rw [List.length_take]; omega
        have e2 : (h.uses.take 20).length = (min (h.uses.length : Int) 20).toNat := by rw [List.length_take]; omega
        rw [Hid, HV.out, e1, e2, hn, h0, ha']
        rfl
      rw [hn, h0, h1, ha']
      clear u1 u2 hn h0 h1 ha'
      go_upto_region 1 with (fail)
      go_region
      go_wp2_with fail
      refine bodyPost_ret (results11_of (c := #[.int .i64 h.region, .int .i64 h.after, .slice none (min (0 : Int) 20).toNat 0, .slice (some a') (min (h.uses.length : Int) 20).toNat h.sc]) rfl rfl ?_) rfl (HE2.out _ _ HC.out ?_)
      · intro j u hu
        rw [Nat.zero_add, cell_drew, cell_of_row _ _ _ _ _ _ (obj_new (by simp))]
        simpa using hu
      · exact ((Kept.alloc _ _ _).trans (Kept.alloc _ _ _)).trans (Kept.drew _ _)
  · rcases HS.out with ⟨hn', h0', h1'⟩ | ⟨a', ha'⟩
    · have HC : Hid (#[.int .i64 h.region, .int .i64 h.after, .slice (some a) (min (h.units.length : Int) 20).toNat h.uc, .slice none (min (0 : Int) 20).toNat 0] = (cutH h).cells.toArray) := by
        have e1 : (h.units.take 20).length = (min (h.units.length : Int) 20).toNat := by rw [List.length_take]; omega
        have e2 : (h.uses.take 20).length = 0 := by rw [List.length_take]; omega
        rw [Hid, HV.out, e1, e2, ha, hn', h0']
        rfl
      rw [ha, hn', h0', h1']
      clear ha s1 s2 hn' h0' h1'
      go_upto_region 1 with (fail)
      go_region
      go_wp2_with fail
      refine bodyPost_ret (results11_of (c := #[.int .i64 h.region, .int .i64 h.after, .slice (some a) (min (h.units.length : Int) 20).toNat h.uc, .slice none (min (0 : Int) 20).toNat 0]) rfl rfl ?_) rfl (HE2.out _ _ HC.out ?_)
      · intro j u hu
        rw [Nat.zero_add, cell_drew, cell_of_row _ _ _ _ _ _ (obj_new (by simp))]
        simpa using hu
      · exact ((Kept.alloc _ _ _).trans (Kept.alloc _ _ _)).trans (Kept.drew _ _)
    · have HC : Hid (#[.int .i64 h.region, .int .i64 h.after, .slice (some a) (min (h.units.length : Int) 20).toNat h.uc, .slice (some a') (min (h.uses.length : Int) 20).toNat h.sc] = (cutH h).cells.toArray) := by
        have e1 : (h.units.take 20).length = (min (h.units.length : Int) 20).toNat := by rw [List.length_take]; omega
        have e2 : (h.uses.take 20).length = (min (h.uses.length : Int) 20).toNat := by rw [List.length_take]; omega
        rw [Hid, HV.out, e1, e2, ha, ha']
      rw [ha, ha']
      clear ha ha'
      go_upto_region 1 with (fail)
      go_region
      go_wp2_with fail
      refine bodyPost_ret (results11_of (c := #[.int .i64 h.region, .int .i64 h.after, .slice (some a) (min (h.units.length : Int) 20).toNat h.uc, .slice (some a') (min (h.uses.length : Int) 20).toNat h.sc]) rfl rfl ?_) rfl (HE2.out _ _ HC.out ?_)
      · intro j u hu
        rw [Nat.zero_add, cell_drew, cell_of_row _ _ _ _ _ _ (obj_new (by simp))]
        simpa using hu
      · exact ((Kept.alloc _ _ _).trans (Kept.alloc _ _ _)).trans (Kept.drew _ _)
end Go.Proofs.Ytlgcboaojdhneaa
