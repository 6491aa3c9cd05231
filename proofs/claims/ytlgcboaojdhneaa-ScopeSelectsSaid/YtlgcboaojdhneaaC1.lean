/- Small functions of the reference: Overloadable, is, typeOf, Nothing; predefined. -/
import Derived.Test.YtlgcboaojdhneaaA4
namespace Go.Proofs.Ytlgcboaojdhneaa
open Go.RowKit

set_option maxRecDepth 100000 in
set_option maxHeartbeats 1000000 in
theorem ovlRef_any (w : World) (x : EntV) : Calls Try.prog 20 #[.agg x.cells.toArray] w (RetB (ovl x) w) := by
  have c0 : (w.alloc (.cells x.cells.toArray 43)).cell? ⟨w.heap.size, 0, none⟩ = some (.int .u8 x.kind) := ent_cell (heap_alloc_new _ _) 0 rfl
  have HO : Hid (ovl x = (x.kind == 3 || x.kind == 4 || x.kind == 14 || x.kind == 10)) := rfl
  cases h1 : (x.kind == 3)
  · cases h2 : (x.kind == 4)
    · cases h3 : (x.kind == 14)
      · cases h4 : (x.kind == 10)
        · rw [h1, h2, h3, h4] at HO
          go_enter Try.func20, Try.ntmps20
          go_wp2_with fail
          go_ret
          exact ⟨by rw [HO.out]; rfl, Kept.alloc _ _ _⟩
        · rw [h1, h2, h3, h4] at HO
          go_enter Try.func20, Try.ntmps20
          go_wp2_with fail
          go_ret
          exact ⟨by rw [HO.out]; rfl, Kept.alloc _ _ _⟩
      · rw [h1, h2, h3] at HO
        go_enter Try.func20, Try.ntmps20
        go_wp2_with fail
        go_ret
        exact ⟨by rw [HO.out]; rfl, Kept.alloc _ _ _⟩
    · rw [h1, h2] at HO
      go_enter Try.func20, Try.ntmps20
      go_wp2_with fail
      go_ret
      exact ⟨by rw [HO.out]; rfl, Kept.alloc _ _ _⟩
  · rw [h1] at HO
    go_enter Try.func20, Try.ntmps20
    go_wp2_with fail
    go_ret
    exact ⟨by rw [HO.out]; rfl, Kept.alloc _ _ _⟩

theorem row_some {t : Tab} {n : Nat} {x : EntV} (hx : t.ents[n]? = some x) : rowR t (n : Int) = some x ∧ rowE t (n : Int) = x := by
  have h : rowR t (n : Int) = some x := by
    unfold rowR
    rw [if_neg (by omega)]
    simpa using hx
  exact ⟨h, by unfold rowE; rw [h]; rfl⟩
theorem row_past {t : Tab} {n : Nat} (h : ¬ n < t.ents.length) : rowR t (n : Int) = none := by
  unfold rowR
  rw [if_neg (by omega)]
  simp; omega

set_option maxRecDepth 100000 in
set_option maxHeartbeats 1000000 in
theorem is_any (w : World) (v : TabV) (t : Tab) (e : Int) : Calls Try.prog 66 #[.agg (v.cells t), .int .i64 e] w (RetB (rowR t e).isSome w) := by
  unfold TabV.cells
  by_cases h0 : 0 ≤ e
  · obtain ⟨n, rfl⟩ := Int.eq_ofNat_of_zero_le h0
    by_cases h1 : n < t.ents.length
    · have HR : Hid ((rowR t (n : Int)).isSome = true) := by
        obtain ⟨x, hx⟩ : ∃ x, t.ents[n]? = some x := ⟨_, List.getElem?_eq_getElem h1⟩
        rw [Hid, (row_some hx).1]; rfl
      go_enter Try.func66, Try.ntmps66
      go_wp2_with fail
      go_ret
      exact ⟨by rw [HR.out]; try rfl, Kept.alloc _ _ _⟩
    · have HR : Hid ((rowR t (n : Int)).isSome = false) := by rw [Hid, row_past h1]; rfl
      go_enter Try.func66, Try.ntmps66
      go_wp2_with fail
      go_ret
      exact ⟨by rw [HR.out]; try rfl, Kept.alloc _ _ _⟩
  · have HR : Hid ((rowR t e).isSome = false) := by
      unfold rowR
      rw [Hid, if_pos (by omega)]; rfl
    go_enter Try.func66, Try.ntmps66
    go_wp2_with fail
    go_ret
    exact ⟨by rw [HR.out]; try rfl, Kept.alloc _ _ _⟩

set_option maxRecDepth 100000 in
set_option maxHeartbeats 1000000 in
theorem typeOf_any (w : World) (v : TabV) (t : Tab) (s : Int) (hT : TabIn w v t) : Calls Try.prog 87 #[.agg (v.cells t), .int .i64 s] w (RetI (typedR t s) w) := by
  have HT := Lib.hid hT
  have q1 := hT.sl
  have q2 := hT.sm
  clear hT
  unfold TabV.cells
  go_enter Try.func87, Try.ntmps87
  by_cases h0 : s < 0
  · have HR : Hid (typedR t s = -1) := by simp [Hid, typedR, h0]
    go_wp2_with fail
    go_ret
    rw [HR.out]
    exact ⟨rfl, Kept.alloc _ _ _⟩
  · obtain ⟨n, rfl⟩ := Int.eq_ofNat_of_zero_le (by omega : 0 ≤ s)
    by_cases h1 : n < t.subs.length
    · obtain ⟨x, hx⟩ : ∃ x, t.subs[n]? = some x := ⟨_, List.getElem?_eq_getElem h1⟩
      have HR : Hid (typedR t (n : Int) = x.t) := by
        rw [Hid, typedR, if_neg (by omega)]
        simp [hx]
      obtain ⟨b, o, ha, hr⟩ := HT.out.ss.some_ hx
      have c0 : w.cell? ⟨b, o + n * 3, none⟩ = some (.int .i64 x.t) := hr n x hx 0 _ rfl
      have c1 : ∀ ob, (w.alloc ob).cell? ⟨b, o + n * 3, none⟩ = some (.int .i64 x.t) := fun ob => (Kept.alloc [] w ob).cell c0 (by simp)
      rw [ha]
      clear hr hx ha c0
      go_wp2_with fail
      go_ret
      rw [HR.out]
      exact ⟨rfl, Kept.alloc _ _ _⟩
    · have HR : Hid (typedR t (n : Int) = -1) := by
        rw [Hid, typedR, if_neg (by omega)]
        rw [List.getElem?_eq_none (by simp; omega)]; rfl
      go_wp2_with fail
      go_ret
      rw [HR.out]
      exact ⟨rfl, Kept.alloc _ _ _⟩

/-- An entity of Standard with a kind and a name. -/
def nothingE (k : Int) (n : ByteArray) : EntV := { zeroE with kind := k, name := n, t := -1, sub := -1, of_ := -1, body := true, final := -1, unit := -1 }
def RetEn (x : EntV) (w : World) (e : Ending) (w' : World) : Prop := e = .returned (.agg x.cells.toArray) ∧ Kept [] w w'
theorem results37_of {w : World} {B : Nat} {x : EntV} {tmps : Array Value} (h4 : tmps.getD 4 undef = .pointer (some ⟨B, 0, none⟩)) (hr : w.rangeAt B 0 x.cells) :
    (results Try.f37 tmps).run Try.prog w = .ok (.agg x.cells.toArray) w := by
  simp only [Array.getD_eq_getD_getElem?] at h4
  simp [results, Try.results37, h4, asAddr, Sem.run_bind, run_loadVar_mid w B 0 43 x.cells _ hr Try.underlying43 rfl (Try.info43 x)]
theorem results62_of {w : World} {B : Nat} {x : EntV} {tmps : Array Value} (h4 : tmps.getD 4 undef = .pointer (some ⟨B, 0, none⟩)) (hr : w.rangeAt B 0 x.cells) :
    (results Try.f62 tmps).run Try.prog w = .ok (.agg x.cells.toArray) w := by
  simp only [Array.getD_eq_getD_getElem?] at h4
  simp [results, Try.results62, h4, asAddr, Sem.run_bind, run_loadVar_mid w B 0 43 x.cells _ hr Try.underlying43 rfl (Try.info43 x)]

set_option maxRecDepth 100000 in
set_option maxHeartbeats 1000000 in
theorem nothing_any (w : World) (k : Int) (n : ByteArray) : Calls Try.prog 37 #[.int .u8 k, .string n] w (RetEn (nothingE k n) w) := by
  go_enter Try.func37, Try.ntmps37
  go_wp2_with (refine wpList_store_new rfl 43 (.tmp 4) (.tmp 7) rfl _ (nothingE k n).cells.toArray w.heap.size rfl rfl rfl (Try.info43 _) rfl (EntV.one _) ?_)
  refine bodyPost_ret (results37_of (x := nothingE k n) rfl (EntV.range (obj_new (o := .cells (nothingE k n).cells.toArray 43) rfl))) rfl ?_
  exact ⟨rfl, Kept.alloc _ _ _⟩

set_option maxRecDepth 100000 in
set_option maxHeartbeats 1000000 in
theorem predefined_any (w : World) (k : Int) (n : ByteArray) : Calls Try.prog 62 #[.int .u8 k, .string n] w (RetEn (nothingE k n) w) := by
  go_enter Try.func62, Try.ntmps62
  go_wp2_with (refine wpList_store_new rfl 43 (.tmp 4) (.tmp 7) rfl _ (nothingE k n).cells.toArray w.heap.size rfl rfl rfl (Try.info43 _) rfl (EntV.one _) ?_)
  refine bodyPost_ret (results62_of (x := nothingE k n) rfl (EntV.range (obj_new (o := .cells (nothingE k n).cells.toArray 43) rfl))) rfl ?_
  exact ⟨rfl, Kept.alloc _ _ _⟩
end Go.Proofs.Ytlgcboaojdhneaa
