/- Small functions of the reference: Overloadable, is, typeOf, Nothing; predefined. The reference's profiles. -/
import Derived.Test.YtlgcboaojdhneaaA3
import Derived.Test.YtlgcboaojdhneaaK2
namespace Go.Proofs.Ytlgcboaojdhneaa
open Go.RowKit

set_option maxRecDepth 100000 in
set_option maxHeartbeats 1000000 in
theorem ovlRef_any (w : World) (x : EntV) : Calls Try.prog 20 #[.agg x.cells.toArray] w (RetB (ovl x) w) := by
  have c0 : (w.alloc (.cells x.cells.toArray 43)).cell? ⟨w.heap.size, 0, none⟩ = some (.int .u8 x.kind) := ent_cell (heap_alloc_new _ _) 0 rfl
  have HO : Hid (ovl x = (x.kind == 3 || x.kind == 4 || x.kind == 14 || x.kind == 10)) := rfl
  cases h1 : (x.kind == 3)
  · cases h2 : (x.kind == 4)
    · cases h3 : (x.kind == 14)
      · cases h4 : (x.kind == 10)
        · rw [h1, h2, h3, h4] at HO
          go_enter Try.func20, Try.ntmps20
          go_wp2_with fail
          go_ret
          exact ⟨by rw [HO.out]; rfl, Kept.alloc _ _ _⟩
        · rw [h1, h2, h3, h4] at HO
          go_enter Try.func20, Try.ntmps20
          go_wp2_with fail
          go_ret
          exact ⟨by rw [HO.out]; rfl, Kept.alloc _ _ _⟩
      · rw [h1, h2, h3] at HO
        go_enter Try.func20, Try.ntmps20
        go_wp2_with fail
        go_ret
        exact ⟨by rw [HO.out]; rfl, Kept.alloc _ _ _⟩
    · rw [h1, h2] at HO
      go_enter Try.func20, Try.ntmps20
      go_wp2_with fail
      go_ret
      exact ⟨by rw [HO.out]; rfl, Kept.alloc _ _ _⟩
  · rw [h1] at HO
    go_enter Try.func20, Try.ntmps20
    go_wp2_with fail
    go_ret
    exact ⟨by rw [HO.out]; rfl, Kept.alloc _ _ _⟩

theorem row_some {t : Tab} {n : Nat} {x : EntV} (hx : t.ents[n]? = some x) : rowR t (n : Int) = some x ∧ rowE t (n : Int) = x := by
  have h : rowR t (n : Int) = some x := by
    unfold rowR
    rw [if_neg (by omega)]
    simpa using hx
  exact ⟨h, by unfold rowE; rw [h]; rfl⟩
theorem row_past {t : Tab} {n : Nat} (h : ¬ n < t.ents.length) : rowR t (n : Int) = none := by
  unfold rowR
  rw [if_neg (by omega)]
  simp; omega

set_option maxRecDepth 100000 in
set_option maxHeartbeats 1000000 in
theorem is_any (w : World) (v : TabV) (t : Tab) (e : Int) : Calls Try.prog 66 #[.agg (v.cells t), .int .i64 e] w (RetB (rowR t e).isSome w) := by
  unfold TabV.cells
  by_cases h0 : 0 ≤ e
  · obtain ⟨n, rfl⟩ := Int.eq_ofNat_of_zero_le h0
    by_cases h1 : n < t.ents.length
    · have HR : Hid ((rowR t (n : Int)).isSome = true) := by
        obtain ⟨x, hx⟩ : ∃ x, t.ents[n]? = some x := ⟨_, List.getElem?_eq_getElem h1⟩
        rw [Hid, (row_some hx).1]; rfl
      go_enter Try.func66, Try.ntmps66
      go_wp2_with fail
      go_ret
      exact ⟨by rw [HR.out]; try rfl, Kept.alloc _ _ _⟩
    · have HR : Hid ((rowR t (n : Int)).isSome = false) := by rw [Hid, row_past h1]; rfl
      go_enter Try.func66, Try.ntmps66
      go_wp2_with fail
      go_ret
      exact ⟨by rw [HR.out]; try rfl, Kept.alloc _ _ _⟩
  · have HR : Hid ((rowR t e).isSome = false) := by
      unfold rowR
      rw [Hid, if_pos (by omega)]; rfl
    go_enter Try.func66, Try.ntmps66
    go_wp2_with fail
    go_ret
    exact ⟨by rw [HR.out]; try rfl, Kept.alloc _ _ _⟩

set_option maxRecDepth 100000 in
set_option maxHeartbeats 1000000 in
theorem typeOf_any (w : World) (v : TabV) (t : Tab) (s : Int) (hT : TabIn w v t) : Calls Try.prog 87 #[.agg (v.cells t), .int .i64 s] w (RetI (typedR t s) w) := by
  have HT := Lib.hid hT
  have q1 := hT.sl
  have q2 := hT.sm
  clear hT
  unfold TabV.cells
  go_enter Try.func87, Try.ntmps87
  by_cases h0 : s < 0
  · have HR : Hid (typedR t s = -1) := by simp [Hid, typedR, h0]
    go_wp2_with fail
    go_ret
    rw [HR.out]
    exact ⟨rfl, Kept.alloc _ _ _⟩
  · obtain ⟨n, rfl⟩ := Int.eq_ofNat_of_zero_le (by omega : 0 ≤ s)
    by_cases h1 : n < t.subs.length
    · obtain ⟨x, hx⟩ : ∃ x, t.subs[n]? = some x := ⟨_, List.getElem?_eq_getElem h1⟩
      have HR : Hid (typedR t (n : Int) = x.t) := by
        rw [Hid, typedR, if_neg (by omega)]
        simp [hx]
      obtain ⟨b, o, ha, hr⟩ := HT.out.ss.some_ hx
      have c0 : w.cell? ⟨b, o + n * 3, none⟩ = some (.int .i64 x.t) := hr n x hx 0 _ rfl
      have c1 : ∀ ob, (w.alloc ob).cell? ⟨b, o + n * 3, none⟩ = some (.int .i64 x.t) := fun ob => (Kept.alloc [] w ob).cell c0 (by simp)
      rw [ha]
      clear hr hx ha c0
      go_wp2_with fail
      go_ret
      rw [HR.out]
      exact ⟨rfl, Kept.alloc _ _ _⟩
    · have HR : Hid (typedR t (n : Int) = -1) := by
        rw [Hid, typedR, if_neg (by omega)]
        rw [List.getElem?_eq_none (by simp; omega)]; rfl
      go_wp2_with fail
      go_ret
      rw [HR.out]
      exact ⟨rfl, Kept.alloc _ _ _⟩

/-- An entity of Standard with a kind and a name. -/
def nothingE (k : Int) (n : ByteArray) : EntV := { zeroE with kind := k, name := n, t := -1, sub := -1, of_ := -1, body := true, final := -1, unit := -1 }
def RetEn (x : EntV) (w : World) (e : Ending) (w' : World) : Prop := e = .returned (.agg x.cells.toArray) ∧ Kept [] w w'
theorem results37_of {w : World} {B : Nat} {x : EntV} {tmps : Array Value} (h4 : tmps.getD 4 undef = .pointer (some ⟨B, 0, none⟩)) (hr : w.rangeAt B 0 x.cells) :
    (results Try.f37 tmps).run Try.prog w = .ok (.agg x.cells.toArray) w := by
  simp only [Array.getD_eq_getD_getElem?] at h4
  simp [results, Try.results37, h4, asAddr, Sem.run_bind, run_loadVar_mid w B 0 43 x.cells _ hr Try.underlying43 rfl (Try.info43 x)]
theorem results62_of {w : World} {B : Nat} {x : EntV} {tmps : Array Value} (h4 : tmps.getD 4 undef = .pointer (some ⟨B, 0, none⟩)) (hr : w.rangeAt B 0 x.cells) :
    (results Try.f62 tmps).run Try.prog w = .ok (.agg x.cells.toArray) w := by
  simp only [Array.getD_eq_getD_getElem?] at h4
  simp [results, Try.results62, h4, asAddr, Sem.run_bind, run_loadVar_mid w B 0 43 x.cells _ hr Try.underlying43 rfl (Try.info43 x)]

set_option maxRecDepth 100000 in
set_option maxHeartbeats 1000000 in
theorem nothing_any (w : World) (k : Int) (n : ByteArray) : Calls Try.prog 37 #[.int .u8 k, .string n] w (RetEn (nothingE k n) w) := by
  go_enter Try.func37, Try.ntmps37
  go_wp2_with (refine wpList_store_new rfl 43 (.tmp 4) (.tmp 7) rfl _ (nothingE k n).cells.toArray w.heap.size rfl rfl rfl (Try.info43 _) rfl (EntV.one _) ?_)
  refine bodyPost_ret (results37_of (x := nothingE k n) rfl (EntV.range (obj_new (o := .cells (nothingE k n).cells.toArray 43) rfl))) rfl ?_
  exact ⟨rfl, Kept.alloc _ _ _⟩

set_option maxRecDepth 100000 in
set_option maxHeartbeats 1000000 in
theorem predefined_any (w : World) (k : Int) (n : ByteArray) : Calls Try.prog 62 #[.int .u8 k, .string n] w (RetEn (nothingE k n) w) := by
  go_enter Try.func62, Try.ntmps62
  go_wp2_with (refine wpList_store_new rfl 43 (.tmp 4) (.tmp 7) rfl _ (nothingE k n).cells.toArray w.heap.size rfl rfl rfl (Try.info43 _) rfl (EntV.one _) ?_)
  refine bodyPost_ret (results62_of (x := nothingE k n) rfl (EntV.range (obj_new (o := .cells (nothingE k n).cells.toArray 43) rfl))) rfl ?_
  exact ⟨rfl, Kept.alloc _ _ _⟩
end Go.Proofs.Ytlgcboaojdhneaa
namespace Go.Proofs.Ytlgcboaojdhneaa
open Go.RowKit

theorem Calls.after_i {P : Program} {f : FuncId} {args : Array Value} {w : World} {z : After w} {n : Int} (h : Calls P f args z.1 (RetI n z.1)) : Calls P f args z.1 fun e w'' => e = .returned (.int .i64 n) ∧ ∃ z' : After w, w'' = z'.1 :=
  h.mono fun _ w' ⟨he, hk⟩ => ⟨he, ⟨w', z.2.trans hk⟩, rfl⟩

set_option maxRecDepth 100000 in
set_option maxHeartbeats 4000000 in
theorem profiles_any (w : World) (v : TabV) (t : Tab) (a b : EntV) (hT : TabIn w v t) (ha : EntIn w a) (hb : EntIn w b) :
    Calls Try.prog 67 #[.agg (v.cells t), .agg a.cells.toArray, .agg b.cells.toArray] w (RetB (profR t a b) w) := by
  have HT := Lib.hid hT
  have HA := Lib.hid ha
  have HB := Lib.hid hb
  have HR : Hid (profR t a b = (a.t == b.t && parEq (samePar t) a.params b.params)) := rfl
  have a1 := ha.ok.p1
  have a2 := ha.ok.p2
  have b1 := hb.ok.p1
  have b2 := hb.ok.p2
  clear hT ha hb
  have k1 : ∀ W, Kept [] ((((w.alloc (.cells (v.cells t) 28)).alloc (.cells a.cells.toArray 43)).alloc (.cells b.cells.toArray 43))) W → W.heap[w.heap.size]? = some (.cells (v.cells t) 28 (0, 0)) ∧ (W.cell? ⟨w.heap.size + 1, 4, none⟩ = some (.int .i64 a.t) ∧ W.cell? ⟨w.heap.size + 1, 6, none⟩ = some (.slice a.pa a.params.length a.pc)) ∧ (W.cell? ⟨w.heap.size + 2, 4, none⟩ = some (.int .i64 b.t) ∧ W.cell? ⟨w.heap.size + 2, 6, none⟩ = some (.slice b.pa b.params.length b.pc)) := fun W hk =>
    have q0 := obj_old (o := .cells b.cells.toArray 43) (obj_old (W := w.alloc (.cells (v.cells t) 28)) (o := .cells a.cells.toArray 43) (obj_new rfl) (by simp)) (by simp; omega)
    have q1 := obj_old (W := (w.alloc (.cells (v.cells t) 28)).alloc (.cells a.cells.toArray 43)) (o := .cells b.cells.toArray 43) (obj_new (k := w.heap.size + 1) (by simp)) (by simp)
    have q2 := obj_new (W := (w.alloc (.cells (v.cells t) 28)).alloc (.cells a.cells.toArray 43)) (o := .cells b.cells.toArray 43) (k := w.heap.size + 2) (by simp)
    ⟨hk.obj q0 (by simp), ⟨ent_cell (x := a) (hk.obj q1 (by simp)) 4 rfl, ent_cell (x := a) (hk.obj q1 (by simp)) 6 rfl⟩, ⟨ent_cell (x := b) (hk.obj q2 (by simp)) 4 rfl, ent_cell (x := b) (hk.obj q2 (by simp)) 6 rfl⟩⟩
  have K1 := Lib.hid k1
  clear k1
  unfold TabV.cells at *
  go_enter Try.func67, Try.ntmps67
  go_upto_region 1 with (fail)
  refine wp_gen' ?_
  intro w0 hw0
  rw [← hw0] at K1
  have HK0 : Hid (Kept [] w w0) := by rw [Hid, hw0]; exact ((Kept.alloc _ _ _).trans (Kept.alloc _ _ _)).trans (Kept.alloc _ _ _)
  obtain ⟨_, ⟨c1, c2⟩, c3, c4⟩ := K1.out w0 (Kept.refl _ _)
  clear hw0
  cases hq : (a.t == b.t)
  · rw [hq] at HR
    have hq' : (a.t != b.t) = true := by simp [bne, hq]
    go_wp2_with fail
    go_ret
    exact ⟨by rw [HR.out]; rfl, HK0.out⟩
  · rw [hq] at HR
    have hq' : (a.t != b.t) = false := by simp [bne, hq]
    by_cases hl : a.params.length = b.params.length
    · have HL := Lib.hid hl
      have hne : ((a.params.length : Int) != (b.params.length : Int)) = false := by rw [hl]; simp
      have hl1 : a.params.length ≤ b.params.length := by omega
      clear hl
      go_wp2_with fail
      clear c1 c2 c3 c4
      go_loopw [7] (fun i wr => ∃ k : Nat, k ≤ a.params.length ∧ i = .int .i64 k ∧ (∀ (j : Nat) x y, j < k → a.params[j]? = some x → b.params[j]? = some y → samePar t x y = true) ∧ Kept [] w0 wr) (fun i _ => a.params.length - (intOf i).toNat)
      case atStart => exact ⟨0, Nat.zero_le _, rfl, fun j x y h => by omega, Kept.refl _ _⟩
      case round =>
        obtain ⟨k, hk, rfl, hn, hkr⟩ := hrel
        have HN := Lib.hid hn
        have HK := Lib.hid hkr
        clear hn hkr
        obtain ⟨wo, rfl⟩ : ∃ wo : World, wo = wr := ⟨_, rfl⟩
        obtain ⟨hbx, ⟨c1, c2⟩, c3, c4⟩ := K1.out wo HK.out
        have HBX := Lib.hid hbx
        clear hbx
        by_cases hlt : k < a.params.length
        · obtain ⟨x, hx⟩ : ∃ x, a.params[k]? = some x := ⟨_, List.getElem?_eq_getElem hlt⟩
          obtain ⟨y, hy⟩ : ∃ y, b.params[k]? = some y := ⟨_, List.getElem?_eq_getElem (by omega)⟩
          obtain ⟨bx, ox, hax, hr⟩ := (HA.out.ps.kept (HK0.out.trans HK.out)).some_ hx
          obtain ⟨by', oy, hay, hr'⟩ := (HB.out.ps.kept (HK0.out.trans HK.out)).some_ hy
          have HXK := Lib.hid hx
          have HYK := Lib.hid hy
          have rx : wo.cell? ⟨bx, ox + k * 13 + 2, none⟩ = some (.int .i64 x.sub) := hr k x hx 2 _ rfl
          have ry : wo.cell? ⟨by', oy + k * 13 + 2, none⟩ = some (.int .i64 y.sub) := hr' k y hy 2 _ rfl
          have j1 : (0 : Int) ≤ (k : Int) := by omega
          have j2 : (k : Int) < (a.params.length : Int) := by omega
          have j3 : (k : Int) < (b.params.length : Int) := by omega
          rw [hax] at c2
          rw [hay] at c4
          go_upto_region 6 with (fail)
          have g2 := After.cell c2
          have g4 := After.cell c4
          have gx := After.cell rx
          have gy := After.cell ry
          have v0 : ∀ z : After wo, z.1.cell? ⟨w.heap.size, 0, none⟩ = some (.slice v.ta t.types.length v.tc) := After.cell ((cell_of_row _ _ _ _ _ _ HBX.out).trans rfl)
          have v1 : ∀ z : After wo, z.1.cell? ⟨w.heap.size, 1, none⟩ = some (.slice v.sa t.subs.length v.sc) := After.cell ((cell_of_row _ _ _ _ _ _ HBX.out).trans rfl)
          have v2 : ∀ z : After wo, z.1.cell? ⟨w.heap.size, 2, none⟩ = some (.slice v.ea t.ents.length v.ec) := After.cell ((cell_of_row _ _ _ _ _ _ HBX.out).trans rfl)
          have v3 : ∀ z : After wo, z.1.cell? ⟨w.heap.size, 3, none⟩ = some (.slice v.ga v.gn v.gc) := After.cell ((cell_of_row _ _ _ _ _ _ HBX.out).trans rfl)
          have v4 : ∀ z : After wo, z.1.cell? ⟨w.heap.size, 4, none⟩ = some (.slice v.ia v.im v.ic) := After.cell ((cell_of_row _ _ _ _ _ _ HBX.out).trans rfl)
          have HCX : Hid (∀ (q : Int) (z : After wo), Calls Try.prog 87 #[.agg #[.slice v.ta t.types.length v.tc, .slice v.sa t.subs.length v.sc, .slice v.ea t.ents.length v.ec, .slice v.ga v.gn v.gc, .slice v.ia v.im v.ic], .int .i64 q] z.1 (RetI (typedR t q) z.1)) := fun q z => typeOf_any z.1 v t q (HT.out.kept (HK0.out.trans (HK.out.trans z.2)))
          clear hr hr' hx hy hax hay c1 c2 c3 c4 rx ry
          cases hpx : (typedR t x.sub == typedR t y.sub)
          · have HE := Lib.hid (parEq_no (p := samePar t) k HXK.out HYK.out hpx)
            have hne' : (typedR t x.sub != typedR t y.sub) = true := by simp [bne, hpx]
            clear hpx
            refine wp_region_after (by kernel_rfl) (by kernel_rfl) ?_
            repeat (go_big_quiet_step (exact Calls.after_i (HCX.out _ _)))
            refine wpQuiet_nil ?_
            rintro w' ⟨z, rfl⟩
            obtain ⟨w1, hk1⟩ := z
            go_wp2_with fail
            go_ret
            exact ⟨by rw [HR.out, HE.out]; rfl, HK0.out.trans (HK.out.trans hk1)⟩
          · have HN2 : Hid (∀ (j : Nat) x y, j < k + 1 → a.params[j]? = some x → b.params[j]? = some y → samePar t x y = true) := fun j a' b' hj ha hb => by
              by_cases e : j = k
              · subst e
                rw [HXK.out] at ha; rw [HYK.out] at hb
                injection ha with ha; injection hb with hb
                subst ha hb; exact hpx
              · exact HN.out j a' b' (by omega) ha hb
            have hne' : (typedR t x.sub != typedR t y.sub) = false := by simp [bne, hpx]
            clear hpx
            refine wp_region_after (by kernel_rfl) (by kernel_rfl) ?_
            repeat (go_big_quiet_step (exact Calls.after_i (HCX.out _ _)))
            refine wpQuiet_nil ?_
            rintro w' ⟨z, rfl⟩
            obtain ⟨w1, hk1⟩ := z
            have HK1 := Lib.hid (HK.out.trans hk1)
            go_wp2_with fail
            go_roundw
            case rel => exact ⟨k + 1, by omega, by go_num, HN2.out, HK1.out⟩
            case measure => simp [intOf]; omega
        · obtain rfl : k = a.params.length := by omega
          have HE := Lib.hid (parEq_yes HL.out (fun j x y hx hy => HN.out j x y (List.getElem?_eq_some_iff.1 hx).1 hx hy))
          go_wp2_with fail
          go_ret
          exact ⟨by rw [HR.out, HE.out]; rfl, HK0.out.trans HK.out⟩
    · have hne : ((a.params.length : Int) != (b.params.length : Int)) = true := by simp; omega
      have HE := Lib.hid (parEq_len (p := samePar t) hl)
      clear hl
      go_wp2_with fail
      go_ret
      exact ⟨by rw [HR.out, HE.out]; rfl, HK0.out⟩
end Go.Proofs.Ytlgcboaojdhneaa
