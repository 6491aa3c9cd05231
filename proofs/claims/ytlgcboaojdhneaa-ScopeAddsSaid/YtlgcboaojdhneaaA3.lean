/- overloadable, typed, profile. profile, homographs. -/
import Derived.Test.YtlgcboaojdhneaaA1
import Derived.Deep.RegionHeld3
import Derived.Shelf.Abstract
namespace Go.Proofs.Ytlgcboaojdhneaa
open Go.RowKit

def ovl (x : EntV) : Bool := x.kind == 3 || x.kind == 4 || x.kind == 14 || x.kind == 10
def typedR (t : Tab) (s : Int) : Int := if s < 0 then -1 else ((t.subs[s.toNat]?).map SubtV.t).getD (-1)

theorem ent_cell {W : World} {b : Nat} {x : EntV} (h : W.heap[b]? = some (.cells x.cells.toArray 43 (0, 0))) (j : Nat) {u : Value} (hu : x.cells[j]? = some u) : W.cell? ⟨b, j, none⟩ = some u := by
  rw [cell_of_row _ _ _ _ _ _ h]
  simpa using hu

set_option maxRecDepth 100000 in
set_option maxHeartbeats 1000000 in
theorem overloadable_any (w : World) (x : EntV) : Calls Try.prog 76 #[.agg x.cells.toArray] w (RetB (ovl x) w) := by
  have c0 : (w.alloc (.cells x.cells.toArray 43)).cell? ⟨w.heap.size, 0, none⟩ = some (.int .u8 x.kind) := ent_cell (heap_alloc_new _ _) 0 rfl
  have HO : Hid (ovl x = (x.kind == 3 || x.kind == 4 || x.kind == 14 || x.kind == 10)) := rfl
  cases h1 : (x.kind == 3)
  · cases h2 : (x.kind == 4)
    · cases h3 : (x.kind == 14)
      · cases h4 : (x.kind == 10)
        · rw [h1, h2, h3, h4] at HO
          go_enter Try.func76, Try.ntmps76
          go_wp2_with fail
          go_ret
          exact ⟨by rw [HO.out]; rfl, Kept.alloc _ _ _⟩
        · rw [h1, h2, h3, h4] at HO
          go_enter Try.func76, Try.ntmps76
          go_wp2_with fail
          go_ret
          exact ⟨by rw [HO.out]; rfl, Kept.alloc _ _ _⟩
      · rw [h1, h2, h3] at HO
        go_enter Try.func76, Try.ntmps76
        go_wp2_with fail
        go_ret
        exact ⟨by rw [HO.out]; rfl, Kept.alloc _ _ _⟩
    · rw [h1, h2] at HO
      go_enter Try.func76, Try.ntmps76
      go_wp2_with fail
      go_ret
      exact ⟨by rw [HO.out]; rfl, Kept.alloc _ _ _⟩
  · rw [h1] at HO
    go_enter Try.func76, Try.ntmps76
    go_wp2_with fail
    go_ret
    exact ⟨by rw [HO.out]; rfl, Kept.alloc _ _ _⟩

def RetI (n : Int) (w : World) (e : Ending) (w' : World) : Prop := e = .returned (.int .i64 n) ∧ Kept [] w w'

set_option maxRecDepth 100000 in
set_option maxHeartbeats 1000000 in
theorem typed_any (w : World) (v : TabV) (t : Tab) (s : Int) (hT : TabIn w v t) : Calls Try.prog 86 #[.agg (v.cells t), .int .i64 s] w (RetI (typedR t s) w) := by
  have HT := Lib.hid hT
  have q1 := hT.sl
  have q2 := hT.sm
  clear hT
  unfold TabV.cells
  go_enter Try.func86, Try.ntmps86
  by_cases h0 : s < 0
  · have HR : Hid (typedR t s = -1) := by simp [Hid, typedR, h0]
    go_wp2_with fail
    go_ret
    rw [HR.out]
    exact ⟨rfl, Kept.alloc _ _ _⟩
  · obtain ⟨n, rfl⟩ := Int.eq_ofNat_of_zero_le (by omega : 0 ≤ s)
    by_cases h1 : n < t.subs.length
    · obtain ⟨x, hx⟩ : ∃ x, t.subs[n]? = some x := ⟨_, List.getElem?_eq_getElem h1⟩
      have HR : Hid (typedR t (n : Int) = x.t) := by
        rw [Hid, typedR, if_neg (by omega)]
        simp [hx]
      obtain ⟨b, o, ha, hr⟩ := HT.out.ss.some_ hx
      have c0 : w.cell? ⟨b, o + n * 3, none⟩ = some (.int .i64 x.t) := hr n x hx 0 _ rfl
      have c1 : ∀ ob, (w.alloc ob).cell? ⟨b, o + n * 3, none⟩ = some (.int .i64 x.t) := fun ob => (Kept.alloc [] w ob).cell c0 (by simp)
      rw [ha]
      clear hr hx ha c0
      go_wp2_with fail
      go_ret
      rw [HR.out]
      exact ⟨rfl, Kept.alloc _ _ _⟩
    · have HR : Hid (typedR t (n : Int) = -1) := by
        rw [Hid, typedR, if_neg (by omega)]
        rw [List.getElem?_eq_none (by simp; omega)]; rfl
      go_wp2_with fail
      go_ret
      rw [HR.out]
      exact ⟨rfl, Kept.alloc _ _ _⟩

/-- The box of a view. -/
def ViewBox (w : World) (B : Nat) (v : TabV) (t : Tab) : Prop := w.heap[B]? = some (.cells (v.cells t) 74 (0, 0))
theorem ViewBox.cells {w : World} {B : Nat} {v : TabV} {t : Tab} (h : ViewBox w B v t) : w.cell? ⟨B, 0, none⟩ = some (.slice v.ta t.types.length v.tc) ∧ w.cell? ⟨B, 1, none⟩ = some (.slice v.sa t.subs.length v.sc) ∧ w.cell? ⟨B, 2, none⟩ = some (.slice v.ea t.ents.length v.ec) ∧ w.cell? ⟨B, 3, none⟩ = some (.slice v.ga v.gn v.gc) ∧ w.cell? ⟨B, 4, none⟩ = some (.slice v.ia v.im v.ic) := by
  have hc : ∀ j, w.cell? ⟨B, j, none⟩ = (v.cells t)[j]? := fun j => cell_of_row _ _ _ _ _ _ h
  exact ⟨hc 0, hc 1, hc 2, hc 3, hc 4⟩
theorem ViewBox.kept {w w' : World} {B : Nat} {v : TabV} {t : Tab} (h : ViewBox w B v t) (hk : Kept [] w w') : ViewBox w' B v t := hk.obj h (by simp)

theorem param_cell {W : World} {b : Nat} {x : ParamV} (h : W.heap[b]? = some (.cells x.cells.toArray 107 (0, 0))) (j : Nat) {u : Value} (hu : x.cells[j]? = some u) : W.cell? ⟨b, j, none⟩ = some u := by
  rw [cell_of_row _ _ _ _ _ _ h]
  simpa using hu

def samePar (t : Tab) (x y : ParamV) : Bool := typedR t x.sub == typedR t y.sub
set_option maxRecDepth 100000 in
set_option maxHeartbeats 1000000 in
theorem profile1_any (w : World) (B : Nat) (v : TabV) (t : Tab) (x y : ParamV) (hB : ViewBox w B v t) (hT : TabIn w v t) :
    Calls Try.prog 85 #[.agg x.cells.toArray, .agg y.cells.toArray, .pointer (some ⟨B, 0, none⟩)] w (RetB (samePar t x y) w) := by
  have HT := Lib.hid hT
  have hl : B < w.heap.size := (Array.getElem?_eq_some_iff.1 hB).1
  have HB := Lib.hid hB
  clear hT hB
  go_enter Try.func85, Try.ntmps85
  go_wp2_with fail
  refine wp_gen' ?_
  intro w2 hw2
  have hk : Kept [] w w2 := by rw [hw2]; exact (Kept.alloc _ _ _).trans (Kept.alloc _ _ _)
  have k0 : w2.cell? ⟨w.heap.size, 2, none⟩ = some (.int .i64 x.sub) := by
    rw [hw2]
    exact param_cell (x := x) (obj_old (obj_new rfl) (by simp)) 2 rfl
  have k1 : w2.cell? ⟨w.heap.size + 1, 2, none⟩ = some (.int .i64 y.sub) := by
    rw [hw2]
    exact param_cell (x := y) (obj_new (by simp)) 2 rfl
  obtain ⟨c0, c1, c2, c3, c4⟩ := (HB.out.kept hk).cells
  have HK := Lib.hid hk
  have HT2 := Lib.hid (HT.out.kept hk)
  have HSP : Hid (samePar t x y = (typedR t x.sub == typedR t y.sub)) := rfl
  have KP : Hid (∀ wx, Kept [] w2 wx → (fun wx => wx.cell? ⟨w.heap.size, 2, none⟩ = some (.int .i64 x.sub) ∧ wx.cell? ⟨w.heap.size + 1, 2, none⟩ = some (.int .i64 y.sub) ∧ wx.cell? ⟨B, 0, none⟩ = some (.slice v.ta t.types.length v.tc) ∧ wx.cell? ⟨B, 1, none⟩ = some (.slice v.sa t.subs.length v.sc) ∧ wx.cell? ⟨B, 2, none⟩ = some (.slice v.ea t.ents.length v.ec) ∧ wx.cell? ⟨B, 3, none⟩ = some (.slice v.ga v.gn v.gc) ∧ wx.cell? ⟨B, 4, none⟩ = some (.slice v.ia v.im v.ic) ∧ Kept [] w2 wx) wx) := fun wx h => ⟨h.cell k0 (by simp), h.cell k1 (by simp), h.cell c0 (by simp), h.cell c1 (by simp), h.cell c2 (by simp), h.cell c3 (by simp), h.cell c4 (by simp), h⟩
  clear hw2 hk HT HB
  go_region_held3 (fun wx => wx.cell? ⟨w.heap.size, 2, none⟩ = some (.int .i64 x.sub) ∧ wx.cell? ⟨w.heap.size + 1, 2, none⟩ = some (.int .i64 y.sub) ∧ wx.cell? ⟨B, 0, none⟩ = some (.slice v.ta t.types.length v.tc) ∧ wx.cell? ⟨B, 1, none⟩ = some (.slice v.sa t.subs.length v.sc) ∧ wx.cell? ⟨B, 2, none⟩ = some (.slice v.ea t.ents.length v.ec) ∧ wx.cell? ⟨B, 3, none⟩ = some (.slice v.ga v.gn v.gc) ∧ wx.cell? ⟨B, 4, none⟩ = some (.slice v.ia v.im v.ic) ∧ Kept [] w2 wx)
    (first | exact KP.out _ HKX2.out | exact KP.out _ HKX.out | exact KP.out _ (HKX2.out.trans (Kept.drew _ _)) | exact KP.out _ (HKX.out.trans (Kept.drew _ _)) | exact KP.out _ (Kept.drew _ _) | exact KP.out _ (Kept.refl _ _))
    ((go_at_call 86
      have hkx := (‹_ ∧ _ ∧ _ ∧ _ ∧ _ ∧ _ ∧ _ ∧ Kept [] w2 _›).2.2.2.2.2.2.2
      refine (typed_any _ v t _ (HT2.out.kept hkx)).mono ?_
      rintro e w5 ⟨rfl, hk5⟩
      have HKX := Lib.hid (hkx.trans hk5)
      clear hkx hk5))
  all_goals
    go_wp2_with fail
    go_ret
    exact ⟨by rw [HSP.out]; rfl, HK.out.trans HKX.out⟩

/-- EqualFunc at parameters, over any test. -/
def parEq (p : ParamV → ParamV → Bool) : List ParamV → List ParamV → Bool
  | [], [] => true
  | x :: xs, y :: ys => p x y && parEq p xs ys
  | _, _ => false
theorem parEq_len {p : ParamV → ParamV → Bool} : ∀ {xs ys : List ParamV}, xs.length ≠ ys.length → parEq p xs ys = false
  | [], [], h => absurd rfl h
  | x :: xs, y :: ys, h => by rw [parEq, parEq_len (by simpa using h)]; simp
  | [], _ :: _, _ => rfl
  | _ :: _, [], _ => rfl
theorem parEq_no {p : ParamV → ParamV → Bool} : ∀ {xs ys : List ParamV} (k : Nat) {x y : ParamV}, xs[k]? = some x → ys[k]? = some y → p x y = false → parEq p xs ys = false
  | [], _, _, _, _, h, _, _ => by simp at h
  | _ :: _, [], _, _, _, _, h, _ => by simp at h
  | a :: xs, b :: ys, 0, x, y, hx, hy, h => by
    simp at hx hy; subst hx hy; rw [parEq, h]; rfl
  | a :: xs, b :: ys, k + 1, x, y, hx, hy, h => by
    rw [parEq, parEq_no k (by simpa using hx) (by simpa using hy) h]; simp
theorem parEq_yes {p : ParamV → ParamV → Bool} : ∀ {xs ys : List ParamV}, xs.length = ys.length → (∀ (k : Nat) x y, xs[k]? = some x → ys[k]? = some y → p x y = true) → parEq p xs ys = true
  | [], [], _, _ => rfl
  | [], _ :: _, h, _ => by simp at h
  | _ :: _, [], h, _ => by simp at h
  | x :: xs, y :: ys, hl, h => by
    rw [parEq, h 0 x y rfl rfl, parEq_yes (by simpa using hl) (fun k a b ha hb => h (k + 1) a b (by simpa using ha) (by simpa using hb))]; rfl

theorem Try.info107' (x : ParamV) : (Try.prog.info? 107).map (·.size) = some x.cells.length := Try.info107 x
@[go_sem] theorem Try.store107 (x : ParamV) (w : World) (k : Nat) (hk : k = w.heap.size) : Sem.run Try.prog (storeCells ⟨k, 0, none⟩ x.cells)
    (w.alloc (.cells #[.string ⟨#[]⟩, .int .u8 0, .int .i64 0, .int .u8 0, .int .u8 0, .int .i64 0, .string ⟨#[]⟩, .slice none 0 0, .slice none 0 0, .int .i64 0, .int .i64 0, .int .i64 0, .int .i64 0] 107)) = .ok () (w.alloc (.cells x.cells.toArray 107)) := by
  subst hk
  exact run_storeCells_new w 107 _ x.cells.toArray (by simpa using Try.info107 x) (by simp [ParamV.cells]) x.one
theorem ParamV.range {w : World} {b : Nat} {x : ParamV} (h : w.heap[b]? = some (.cells x.cells.toArray 107 (0, 0))) : w.rangeAt b 0 x.cells := fun j u hu => by
  rw [Nat.zero_add, cell_of_row _ _ _ _ _ _ h]
  simpa using hu

set_option maxRecDepth 100000 in
set_option maxHeartbeats 1000000 in
theorem equalFunc_any (w : World) (a a' : Option Addr) (c c' : Nat) (xs ys : List ParamV) (hc : xs.length ≤ c) (hm : c ≤ 9223372036854775807) (hc' : ys.length ≤ c') (hm' : c' ≤ 9223372036854775807) (hx : RowsAt ParamV 13 ParamV.cells w a xs) (hy : RowsAt ParamV 13 ParamV.cells w a' ys)
    (K : Nat) (caps : Array Value) (p : ParamV → ParamV → Bool) (eg : ∀ args w, (callFunc K args).run Try.prog w = .ok (.enter K args) w)
    (hp : ∀ W (x y : ParamV), Kept [] w W → Calls Try.prog K (#[.agg x.cells.toArray, .agg y.cells.toArray] ++ caps) W (RetB (p x y) W)) :
    Calls Try.prog 84 #[.slice a xs.length c, .slice a' ys.length c', .func (.func K) #[] caps] w (RetB (parEq p xs ys) w) := by
  have HX := Lib.hid hx
  have HY := Lib.hid hy
  have HP := Lib.hid hp
  clear hx hy hp
  by_cases hl : xs.length = ys.length
  · have hne : ((xs.length : Int) != (ys.length : Int)) = false := by rw [hl]; simp
    have HL := Lib.hid hl
    have hl1 : xs.length ≤ ys.length := by omega
    clear hl
    go_enter Try.func84, Try.ntmps84
    go_wp2_with fail
    go_loopw [17] (fun i wr => ∃ k : Nat, k ≤ xs.length ∧ i = .int .i64 k ∧ (∀ (j : Nat) x y, j < k → xs[j]? = some x → ys[j]? = some y → p x y = true) ∧ Kept [] w wr) (fun i _ => xs.length - (intOf i).toNat)
    case atStart => exact ⟨0, Nat.zero_le _, rfl, fun j x y h => by omega, Kept.refl _ _⟩
    case round =>
      obtain ⟨k, hk, rfl, hn, hkr⟩ := hrel
      have HN := Lib.hid hn
      have HK := Lib.hid hkr
      clear hn hkr
      obtain ⟨wo, rfl⟩ : ∃ wo : World, wo = wr := ⟨_, rfl⟩
      by_cases hlt : k < xs.length
      · obtain ⟨x, hx⟩ : ∃ x, xs[k]? = some x := ⟨_, List.getElem?_eq_getElem hlt⟩
        obtain ⟨y, hy⟩ : ∃ y, ys[k]? = some y := ⟨_, List.getElem?_eq_getElem (by omega)⟩
        obtain ⟨b, o, rfl, hr⟩ := (HX.out.kept HK.out).some_ hx
        obtain ⟨b', o', rfl, hr'⟩ := (HY.out.kept HK.out).some_ hy
        have HRX := Lib.hid (hr k x hx)
        have HRY := Lib.hid (hr' k y hy)
        have HXK := Lib.hid hx
        have HYK := Lib.hid hy
        clear hr hr' hx hy
        go_wp2_with (first
          | (refine wpList_load_mid rfl 107 (.tmp 20) rfl b (o + k * 13) rfl x.cells _ HRX.out Try.underlying107 rfl (Try.info107 x) ?_)
          | (refine wpList_load_mid rfl 107 (.tmp 24) rfl b' (o' + k * 13) rfl y.cells _ (World.rangeAt_alloc HRY.out _) Try.underlying107 rfl (Try.info107 y) ?_)
          | (refine wpList_load_mid rfl 107 (.tmp 8) rfl wo.heap.size 0 rfl x.cells _ (ParamV.range (obj_old (obj_new rfl) (by simp))) Try.underlying107 rfl (Try.info107 x) ?_)
          | (refine wpList_load_mid rfl 107 (.tmp 9) rfl (wo.heap.size + 1) 0 rfl y.cells _ (ParamV.range (obj_new (by simp))) Try.underlying107 rfl (Try.info107 y) ?_))
        refine (HP.out _ x y (HK.out.trans ((Kept.alloc _ _ _).trans (Kept.alloc _ _ _)))).mono ?_
        rintro e w2 ⟨rfl, hk2⟩
        have HK2 := Lib.hid (HK.out.trans (((Kept.alloc _ _ _).trans (Kept.alloc _ _ _)).trans hk2))
        clear hk2
        cases hpx : p x y
        · have HR := Lib.hid (parEq_no k HXK.out HYK.out hpx)
          clear hpx
          go_wp2_with fail
          go_ret
          exact ⟨by rw [HR.out]; rfl, HK2.out⟩
        · have HN2 : Hid (∀ (j : Nat) x y, j < k + 1 → xs[j]? = some x → ys[j]? = some y → p x y = true) := fun j a b hj ha hb => by
            by_cases e : j = k
            · subst e
              rw [HXK.out] at ha; rw [HYK.out] at hb
              injection ha with ha; injection hb with hb
              subst ha hb; exact hpx
            · exact HN.out j a b (by omega) ha hb
          clear hpx
          go_wp2_with fail
          go_roundw
          case rel => exact ⟨k + 1, by omega, by go_num, HN2.out, HK2.out⟩
          case measure => simp [intOf]; omega
      · obtain rfl : k = xs.length := by omega
        have HR := Lib.hid (parEq_yes HL.out (fun j x y hx hy => HN.out j x y (List.getElem?_eq_some_iff.1 hx).1 hx hy))
        go_wp2_with fail
        go_ret
        exact ⟨by rw [HR.out]; rfl, HK.out⟩
  · have HR := Lib.hid (parEq_len (p := p) hl)
    go_enter Try.func84, Try.ntmps84
    go_wp2_with fail
    go_ret
    exact ⟨by rw [HR.out]; rfl, Kept.refl _ _⟩
end Go.Proofs.Ytlgcboaojdhneaa
namespace Go.Proofs.Ytlgcboaojdhneaa
open Go.RowKit

/-- An entity that is handed over: its parameters lie in memory. -/
structure EntIn (w : World) (x : EntV) : Prop where
  ps : RowsAt ParamV 13 ParamV.cells w x.pa x.params
  ok : x.Ok
theorem EntIn.kept {w w' : World} {x : EntV} (h : EntIn w x) (hk : Kept [] w w') : EntIn w' x := ⟨h.ps.kept hk, h.ok⟩
theorem zeroE_in (w : World) : EntIn w zeroE := ⟨.inl rfl, by constructor <;> first | (simp [zeroE]; done) | (simp [zeroE, ByteArray.size]; done)⟩
theorem TabIn.ent {w : World} {v : TabV} {t : Tab} (h : TabIn w v t) {x : EntV} (hx : x ∈ t.ents) : EntIn w x := ⟨h.ps x hx, h.ok x hx⟩
theorem TabIn.row {w : World} {v : TabV} {t : Tab} (h : TabIn w v t) (e : Int) : EntIn w (rowE t e) := by
  unfold rowE rowR
  split
  · exact zeroE_in w
  · cases hx : t.ents[e.toNat]? with
    | none => exact zeroE_in w
    | some x => exact h.ent (List.mem_of_getElem? hx)

def profR (t : Tab) (a b : EntV) : Bool := a.t == b.t && parEq (samePar t) a.params b.params
def homR (t : Tab) (a b : EntV) : Bool := (a.name.toList == b.name.toList) && (!ovl a || !ovl b || profR t a b)

theorem enters85 : ∀ args w, (callFunc 85 args).run Try.prog w = .ok (.enter 85 args) w := Go.Proofs.enters_of Try.func85 (by kernel_rfl) rfl

set_option maxRecDepth 100000 in
set_option maxHeartbeats 1000000 in
theorem profile_any (w : World) (v : TabV) (t : Tab) (a b : EntV) (hT : TabIn w v t) (ha : EntIn w a) (hb : EntIn w b) :
    Calls Try.prog 65 #[.agg (v.cells t), .agg a.cells.toArray, .agg b.cells.toArray] w (RetB (profR t a b) w) := by
  have HT := Lib.hid hT
  have HA := Lib.hid ha
  have HB := Lib.hid hb
  have HR : Hid (profR t a b = (a.t == b.t && parEq (samePar t) a.params b.params)) := rfl
  have a1 := ha.ok.p1
  have a2 := ha.ok.p2
  have b1 := hb.ok.p1
  have b2 := hb.ok.p2
  clear hT ha hb
  have k1 : ∀ W, Kept [] ((((w.alloc (.cells (v.cells t) 74)).alloc (.cells a.cells.toArray 43)).alloc (.cells b.cells.toArray 43))) W → ViewBox W w.heap.size v t ∧ (W.cell? ⟨w.heap.size + 1, 4, none⟩ = some (.int .i64 a.t) ∧ W.cell? ⟨w.heap.size + 1, 6, none⟩ = some (.slice a.pa a.params.length a.pc)) ∧ (W.cell? ⟨w.heap.size + 2, 4, none⟩ = some (.int .i64 b.t) ∧ W.cell? ⟨w.heap.size + 2, 6, none⟩ = some (.slice b.pa b.params.length b.pc)) := fun W hk =>
    have q0 := obj_old (o := .cells b.cells.toArray 43) (obj_old (W := w.alloc (.cells (v.cells t) 74)) (o := .cells a.cells.toArray 43) (obj_new rfl) (by simp)) (by simp; omega)
    have q1 := obj_old (W := (w.alloc (.cells (v.cells t) 74)).alloc (.cells a.cells.toArray 43)) (o := .cells b.cells.toArray 43) (obj_new (k := w.heap.size + 1) (by simp)) (by simp)
    have q2 := obj_new (W := (w.alloc (.cells (v.cells t) 74)).alloc (.cells a.cells.toArray 43)) (o := .cells b.cells.toArray 43) (k := w.heap.size + 2) (by simp)
    ⟨hk.obj q0 (by simp), ⟨ent_cell (x := a) (hk.obj q1 (by simp)) 4 rfl, ent_cell (x := a) (hk.obj q1 (by simp)) 6 rfl⟩, ⟨ent_cell (x := b) (hk.obj q2 (by simp)) 4 rfl, ent_cell (x := b) (hk.obj q2 (by simp)) 6 rfl⟩⟩
  have K1 := Lib.hid k1
  clear k1
  go_enter Try.func65, Try.ntmps65
  go_upto_region 1 with (fail)
  refine wp_gen' ?_
  intro w0 hw0
  rw [← hw0] at K1
  have HK0 : Hid (Kept [] w w0) := by rw [Hid, hw0]; exact ((Kept.alloc _ _ _).trans (Kept.alloc _ _ _)).trans (Kept.alloc _ _ _)
  obtain ⟨hvb, ⟨c1, c2⟩, c3, c4⟩ := K1.out w0 (Kept.refl _ _)
  have HVB := Lib.hid hvb
  clear hw0 K1 hvb
  cases hq : (a.t == b.t)
  · rw [hq] at HR
    go_wp2_with fail
    go_ret
    exact ⟨by rw [HR.out]; rfl, HK0.out⟩
  · rw [hq] at HR
    have HC := Lib.hid (equalFunc_any w0 a.pa b.pa a.pc b.pc a.params b.params a1 a2 b1 b2 (HA.out.kept HK0.out).ps (HB.out.kept HK0.out).ps 85 #[.pointer (some ⟨w.heap.size, 0, none⟩)] (samePar t) enters85 (fun W x y hk => profile1_any W w.heap.size v t x y (HVB.out.kept hk) (HT.out.kept (HK0.out.trans hk))))
    go_wp2_with fail
    refine HC.out.mono ?_
    rintro e w1 ⟨rfl, hk1⟩
    have HK1 := Lib.hid (HK0.out.trans hk1)
    clear hk1 c1 c2 c3 c4
    go_wp2_with fail
    go_ret
    exact ⟨by rw [HR.out]; rfl, HK1.out⟩

set_option maxRecDepth 100000 in
set_option maxHeartbeats 2000000 in
theorem homographs_any (w : World) (v : TabV) (t : Tab) (a b : EntV) (hT : TabIn w v t) (ha : EntIn w a) (hb : EntIn w b) :
    Calls Try.prog 48 #[.agg (v.cells t), .agg a.cells.toArray, .agg b.cells.toArray] w (RetB (homR t a b) w) := by
  have HT := Lib.hid hT
  have HA := Lib.hid ha
  have HB := Lib.hid hb
  have HR : Hid (homR t a b = ((a.name.toList == b.name.toList) && (!ovl a || !ovl b || profR t a b))) := rfl
  clear hT ha hb
  go_enter Try.func48, Try.ntmps48
  go_upto_region 1 with (fail)
  refine wp_gen' ?_
  intro w0 hw0
  have HK0 : Hid (Kept [] w w0) := by rw [Hid, hw0]; exact ((Kept.alloc _ _ _).trans (Kept.alloc _ _ _)).trans (Kept.alloc _ _ _)
  have q0 : w0.heap[w.heap.size]? = some (.cells (v.cells t) 74 (0, 0)) := by rw [hw0]; exact obj_old (obj_old (obj_new rfl) (by simp)) (by simp; omega)
  have q1 : w0.heap[w.heap.size + 1]? = some (.cells a.cells.toArray 43 (0, 0)) := by rw [hw0]; exact obj_old (obj_new (by simp)) (by simp)
  have q2 : w0.heap[w.heap.size + 2]? = some (.cells b.cells.toArray 43 (0, 0)) := by rw [hw0]; exact obj_new (by simp)
  have c1 := ent_cell (x := a) q1 1 rfl
  have c2 := ent_cell (x := b) q2 1 rfl
  have HVB : Hid (ViewBox w0 w.heap.size v t) := q0
  have HRA : Hid (∀ W, Kept [] w0 W → W.rangeAt (w.heap.size + 1) 0 a.cells) := fun W hk => EntV.range (hk.obj q1 (by simp))
  have HRB : Hid (∀ W, Kept [] w0 W → W.rangeAt (w.heap.size + 2) 0 b.cells) := fun W hk => EntV.range (hk.obj q2 (by simp))
  have HRV : Hid (∀ W, Kept [] w0 W → W.rangeAt w.heap.size 0 (v.cells t).toList) := fun W hk j u hu => by
    rw [Nat.zero_add, cell_of_row _ _ _ _ _ _ (hk.obj q0 (by simp))]
    simpa using hu
  have hkc : Kept [] w0 w0 := Kept.refl _ _
  clear hw0 q0 q1 q2
  cases hN : (a.name.toList == b.name.toList)
  · rw [hN] at HR
    go_wp2_with fail
    go_ret
    exact ⟨by rw [HR.out]; rfl, HK0.out⟩
  · rw [hN] at HR
    cases hA : ovl a
    · rw [hA] at HR
      go_wp2_with (first
        | (refine wpList_load_g 43 (.tmp 4) rfl rfl (w.heap.size + 1) 0 rfl a.cells _ (HRA.out _ hkc) Try.underlying43 rfl (Try.info43 a) ?_)
        | (go_at_call 76; refine (overloadable_any _ a).mono ?_; rintro e w4 ⟨rfl, hk4⟩; replace hkc := hkc.trans hk4; clear hk4))
      go_ret
      exact ⟨by rw [HR.out]; rfl, HK0.out.trans hkc⟩
    · rw [hA] at HR
      cases hB : ovl b
      · rw [hB] at HR
        go_wp2_with (first
          | (refine wpList_load_g 43 (.tmp 4) rfl rfl (w.heap.size + 1) 0 rfl a.cells _ (HRA.out _ hkc) Try.underlying43 rfl (Try.info43 a) ?_)
          | (refine wpList_load_g 43 (.tmp 5) rfl rfl (w.heap.size + 1 + 1) 0 rfl b.cells _ (HRB.out _ hkc) Try.underlying43 rfl (Try.info43 b) ?_)
          | (go_at_call 76; refine (overloadable_any _ _).mono ?_; rintro e w4 ⟨rfl, hk4⟩; replace hkc := hkc.trans hk4; clear hk4))
        go_ret
        exact ⟨by rw [HR.out]; rfl, HK0.out.trans hkc⟩
      · rw [hB] at HR
        go_wp2_with (first
          | (refine wpList_load_g 43 (.tmp 4) rfl rfl (w.heap.size + 1) 0 rfl a.cells _ (HRA.out _ hkc) Try.underlying43 rfl (Try.info43 a) ?_)
          | (refine wpList_load_g 43 (.tmp 5) rfl rfl (w.heap.size + 1 + 1) 0 rfl b.cells _ (HRB.out _ hkc) Try.underlying43 rfl (Try.info43 b) ?_)
          | (refine wpList_load_g 74 (.tmp 3) rfl rfl w.heap.size 0 rfl (v.cells t).toList _ (HRV.out _ hkc) Try.underlying74 rfl (Try.info74 v t) ?_)
          | (go_at_call 76; refine (overloadable_any _ _).mono ?_; rintro e w4 ⟨rfl, hk4⟩; replace hkc := hkc.trans hk4; clear hk4)
          | (go_at_call 65; refine (profile_any _ v t a b (HT.out.kept (HK0.out.trans hkc)) (HA.out.kept (HK0.out.trans hkc)) (HB.out.kept (HK0.out.trans hkc))).mono ?_; rintro e w4 ⟨rfl, hk4⟩; replace hkc := hkc.trans hk4; clear hk4))
        go_ret
        exact ⟨by rw [HR.out]; rfl, HK0.out.trans hkc⟩
end Go.Proofs.Ytlgcboaojdhneaa
