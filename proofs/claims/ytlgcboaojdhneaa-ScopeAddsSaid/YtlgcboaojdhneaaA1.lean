/- row, overloadable, typed. kept, over any test. -/
import Derived.Test.YtlgcboaojdhneaaK1
import Derived.Deep.DeepCutAuto
import Derived.Deep.CutBlock
import Derived.Laws.EntriesVeiled
import Derived.Deep.QuietTactic
import Derived.BigQuiet
import Derived.StillTailTactics
import Derived.Deep.LoopGhost
import Derived.WalkSmall
namespace Go.Proofs.Ytlgcboaojdhneaa
open Go.RowKit

def rowR (t : Tab) (e : Int) : Option EntV := if e < 0 then none else t.ents[e.toNat]?
def rowE (t : Tab) (e : Int) : EntV := (rowR t e).getD zeroE
/-- A row, and whether it exists. -/
def RetRow (x : EntV) (b : Bool) (w : World) (e : Ending) (w' : World) : Prop := e = .returned (.tuple #[.agg x.cells.toArray, .bool b]) ∧ Kept [] w w'

theorem EntV.range {w : World} {b : Nat} {x : EntV} (h : w.heap[b]? = some (.cells x.cells.toArray 43 (0, 0))) : w.rangeAt b 0 x.cells := fun j u hu => by
  rw [Nat.zero_add, cell_of_row _ _ _ _ _ _ h]
  simpa using hu

theorem results39_of {w : World} {B : Nat} {x : EntV} {b : Bool} {tmps : Array Value} (h4 : tmps.getD 4 undef = .pointer (some ⟨B, 0, none⟩)) (h5 : tmps.getD 5 undef = .bool b) (hr : w.rangeAt B 0 x.cells) :
    (results Try.f39 tmps).run Try.prog w = .ok (.tuple #[.agg x.cells.toArray, .bool b]) w := by
  simp only [Array.getD_eq_getD_getElem?] at h4 h5
  simp [results, Try.results39, h4, h5, asAddr, Sem.run_bind, run_loadVar_mid w B 0 43 x.cells _ hr Try.underlying43 rfl (Try.info43 x)]

set_option maxRecDepth 100000 in
set_option maxHeartbeats 1000000 in
theorem row_any (w : World) (v : TabV) (t : Tab) (e : Int) (hT : TabIn w v t) :
    Calls Try.prog 39 #[.agg (v.cells t), .int .i64 e] w (RetRow (rowE t e) (rowR t e).isSome w) := by
  unfold rowE
  have HT := Lib.hid hT
  have q1 := hT.el
  have q2 := hT.em
  clear hT
  unfold TabV.cells
  go_enter Try.func39, Try.ntmps39
  by_cases h0 : e < 0
  · have HR : Hid (rowR t e = none) := by simp [Hid, rowR, h0]
    go_wp2_with (refine wpList_store_new rfl 43 (.tmp 4) (.tmp 16) rfl _ zeroE.cells.toArray (w.heap.size + 1) rfl (by simp) rfl (Try.info43 _) rfl (EntV.one _) ?_)
    refine bodyPost_ret (results39_of (x := zeroE) rfl rfl (EntV.range (obj_new (o := .cells zeroE.cells.toArray 43) (by simp)))) rfl ?_
    rw [HR.out]
    exact ⟨rfl, (Kept.alloc _ _ _).trans (Kept.alloc _ _ _)⟩
  · obtain ⟨n, rfl⟩ := Int.eq_ofNat_of_zero_le (by omega : 0 ≤ e)
    by_cases h1 : n < t.ents.length
    · obtain ⟨x, hx⟩ : ∃ x, t.ents[n]? = some x := ⟨_, List.getElem?_eq_getElem h1⟩
      have HR : Hid (rowR t (n : Int) = some x) := by
        rw [Hid, rowR, if_neg (by omega)]
        simpa using hx
      obtain ⟨b, o, ha, hr⟩ := HT.out.es.some_ hx
      have HROW := Lib.hid (hr n x hx)
      rw [ha]
      clear hr hx ha
      go_wp2_with (refine wpList_load_mid rfl 43 (.tmp 21) rfl b (o + n * 22) rfl x.cells _ (World.rangeAt_alloc (World.rangeAt_alloc HROW.out _) _) Try.underlying43 rfl (Try.info43 x) ?_)
      refine bodyPost_ret (results39_of (x := x) rfl rfl (EntV.range (obj_new (by simp)))) rfl ?_
      rw [HR.out]
      exact ⟨rfl, (Kept.alloc _ _ _).trans (Kept.alloc _ _ _)⟩
    · have HR : Hid (rowR t (n : Int) = none) := by
        rw [Hid, rowR, if_neg (by omega)]
        simp; omega
      go_wp2_with (refine wpList_store_new rfl 43 (.tmp 4) (.tmp 16) rfl _ zeroE.cells.toArray (w.heap.size + 1) rfl (by simp) rfl (Try.info43 _) rfl (EntV.one _) ?_)
      refine bodyPost_ret (results39_of (x := zeroE) rfl rfl (EntV.range (obj_new (o := .cells zeroE.cells.toArray 43) (by simp)))) rfl ?_
      rw [HR.out]
      exact ⟨rfl, (Kept.alloc _ _ _).trans (Kept.alloc _ _ _)⟩
end Go.Proofs.Ytlgcboaojdhneaa
namespace Go.Proofs.Ytlgcboaojdhneaa
open Go.RowKit

theorem int_info : (Try.prog.info? 3).map (fun i => (i.zero, i.size, i.bytes)) = some (some (.int .i64 0), 1, 8) := by kernel_rfl

set_option maxRecDepth 100000 in
set_option maxHeartbeats 1000000 in
theorem kept_any (w : World) (a : Option Addr) (c : Nat) (xs : List Int) (hc : xs.length ≤ c) (hm : c ≤ 9223372036854775807) (hI : IntsIn w a xs) (hl : xs.length ≤ 100000) (K : Nat) (caps : Array Value) (p : Int → Bool) (eg : ∀ args w, (callFunc K args).run Try.prog w = .ok (.enter K args) w)
    (hp : ∀ W x, Kept [] w W → x ∈ xs → Calls Try.prog K (#[.int .i64 x] ++ caps) W (RetB (p x) W)) :
    Calls Try.prog 41 #[.slice a xs.length c, .func (.func K) #[] caps] w fun e w' => ∃ v, e = .returned v ∧ w'.ownsRow w.heap.size 3 1 v (xs.filter p).length ((xs.filter p).map (Value.int .i64)) ∧ Kept [] w w' := by
  have HI := Lib.hid hI
  have HP := Lib.hid hp
  clear hI hp
  obtain ⟨i0, hi, hz0, hz1, hz2⟩ := info_parts int_info
  go_enter Try.func41, Try.ntmps41
  go_wp2_with fail
  go_loopw [5, 10] (fun v i wr => ∃ k : Nat, k ≤ xs.length ∧ i = .int .i64 k ∧ wr.ownsRow w.heap.size 3 1 v ((xs.take k).filter p).length (((xs.take k).filter p).map (Value.int .i64)) ∧ Kept [] w wr) (fun _ i _ => xs.length - (intOf i).toNat)
  case atStart => exact ⟨0, Nat.zero_le _, rfl, World.ownsRow_nil _ _ _ _, Kept.refl _ _⟩
  case round =>
    obtain ⟨k, hk, rfl, ho, hkr⟩ := hrel
    obtain ⟨A5, c5, rfl⟩ := own_shape ho
    have HO := Lib.hid ho
    have HK := Lib.hid hkr
    clear ho hkr
    obtain ⟨wo, rfl⟩ : ∃ wo : World, wo = wr := ⟨_, rfl⟩
    by_cases hlt : k < xs.length
    · obtain ⟨x, hx⟩ : ∃ x, xs[k]? = some x := ⟨_, List.getElem?_eq_getElem hlt⟩
      have HX := Lib.hid hx
      rcases HI.out with h0 | ⟨b, o, rfl, hcx⟩
      · rw [h0] at hlt; simp at hlt
      · have qx := HK.out.cell (hcx k x hx) (by simp)
        clear hcx hx
        go_wp2_with fail
        refine (HP.out _ _ HK.out (List.mem_of_getElem? HX.out)).mono ?_
        rintro e w2 ⟨rfl, hk2⟩
        have HK2 := Lib.hid (HK.out.trans hk2)
        have HO2 := Lib.hid (own_keep HO.out hk2 (by simp))
        have HS : Hid ((xs.take (k + 1)).filter p = (xs.take k).filter p ++ (if p x then [x] else [])) := by
          obtain ⟨hk', e⟩ := List.getElem?_eq_some_iff.1 HX.out
          rw [Hid, List.take_succ_eq_append_getElem hk', e, List.filter_append]
          cases hp : p x <;> simp [List.filter, hp]
        have hfl : ((xs.take k).filter p).length ≤ xs.length := Nat.le_trans (List.length_filter_le _ _) (by simp; omega)
        have hz := HK2.out.size
        clear hk2 HO HK qx
        cases hpx : p x
        · rw [hpx] at HS
          clear hpx
          go_wp2_with fail
          go_roundw
          case rel => exact ⟨k + 1, by omega, by go_num, by rw [HS.out]; simpa using HO2.out, HK2.out⟩
          case measure => simp [intOf]; omega
        · rw [hpx] at HS
          clear hpx
          generalize (xs.take k).filter p = rs at *
          have hA : rs.length + 1 ≤ maxLen := by unfold maxLen; omega
          have hB : (rs.length + 1) * 8 ≤ 140737488355328 := by omega
          have hC : w.heap.size ≤ (w2.alloc (.cells #[.int .i64 x] 3)).heap.size := by simp; omega
          go_wp2_with (at_builtin; refine wpList_append_own _ rfl _ _ 29 rfl w.heap.size 3 i0 (.int .i64 0) 1 8 Try.underlying29 hi hz0 hz1 hz2 rfl (by decide) (.slice A5 rs.length c5) rs.length (rs.map (Value.int .i64)) rfl (HO2.out.alloc _) ⟨w2.heap.size, 0, none⟩ 1 1 [.int .i64 x] rfl rfl (cell_one_new _ _ _) (one_int _ _) hA hB hC ?_; intro vb wb hob hgb _; have HOB := Lib.hid hob; have HKB := Lib.hid ((HK2.out.trans (Kept.alloc _ _ _)).grown hgb (fun q hq => own_at HO2.out q hq)); clear hob hgb)
          go_roundw
          case rel => exact ⟨k + 1, by omega, by go_num, by rw [HS.out]; simpa using HOB.out, HKB.out⟩
          case measure => simp [intOf]; omega
    · obtain rfl : k = xs.length := by omega
      have HO2 := Lib.hid (by have := HO.out; rw [List.take_length] at this; exact this)
      rw [List.take_length]
      clear HO
      go_wp2_with fail
      go_ret
      exact ⟨_, rfl, HO2.out, HK.out⟩

theorem enters (K : Nat) (args : Array Value) (w : World) (h : ∀ args w, (callFunc K args).run Try.prog w = .ok (.enter K args) w) : (callFunc K args).run Try.prog w = .ok (.enter K args) w := h args w
def RetIdx (b : Bool) (w : World) (e : Ending) (w' : World) : Prop := ∃ i : Int, e = .returned (.int .i64 i) ∧ decide (0 ≤ i) = b ∧ Kept [] w w'

set_option maxRecDepth 100000 in
set_option maxHeartbeats 1000000 in
theorem index_any (w : World) (a : Option Addr) (c : Nat) (xs : List Int) (hc : xs.length ≤ c) (hm : c ≤ 9223372036854775807) (hI : IntsIn w a xs) (K : Nat) (caps : Array Value) (p : Int → Bool) (eg : ∀ args w, (callFunc K args).run Try.prog w = .ok (.enter K args) w)
    (hp : ∀ W x, Kept [] w W → x ∈ xs → Calls Try.prog K (#[.int .i64 x] ++ caps) W (RetB (p x) W)) :
    Calls Try.prog 90 #[.slice a xs.length c, .func (.func K) #[] caps] w (RetIdx (xs.any p) w) := by
  have HI := Lib.hid hI
  have HP := Lib.hid hp
  clear hI hp
  go_enter Try.func90, Try.ntmps90
  go_wp2_with fail
  go_loopw [8] (fun i wr => ∃ k : Nat, k ≤ xs.length ∧ i = .int .i64 k ∧ (xs.take k).any p = false ∧ Kept [] w wr) (fun i _ => xs.length - (intOf i).toNat)
  case atStart => exact ⟨0, Nat.zero_le _, rfl, rfl, Kept.refl _ _⟩
  case round =>
    obtain ⟨k, hk, rfl, hn, hkr⟩ := hrel
    have HN := Lib.hid hn
    have HK := Lib.hid hkr
    clear hn hkr
    obtain ⟨wo, rfl⟩ : ∃ wo : World, wo = wr := ⟨_, rfl⟩
    by_cases hlt : k < xs.length
    · obtain ⟨x, hx⟩ : ∃ x, xs[k]? = some x := ⟨_, List.getElem?_eq_getElem hlt⟩
      have HX := Lib.hid hx
      rcases HI.out with h0 | ⟨b, o, rfl, hcx⟩
      · rw [h0] at hlt; simp at hlt
      · have qx := HK.out.cell (hcx k x hx) (by simp)
        clear hcx hx
        go_wp2_with fail
        refine (HP.out _ _ HK.out (List.mem_of_getElem? HX.out)).mono ?_
        rintro e w2 ⟨rfl, hk2⟩
        have HK2 := Lib.hid (HK.out.trans hk2)
        have HS : Hid ((xs.take (k + 1)).any p = p x) := by
          obtain ⟨hk', e⟩ := List.getElem?_eq_some_iff.1 HX.out
          rw [Hid, List.take_succ_eq_append_getElem hk', e, List.any_append, HN.out]
          simp
        have HA : Hid (p x = true → xs.any p = true) := fun h => List.any_eq_true.2 ⟨x, List.mem_of_getElem? HX.out, h⟩
        clear hk2 HK qx
        cases hpx : p x
        · rw [hpx] at HS
          clear hpx HA
          go_wp2_with fail
          go_roundw
          case rel => exact ⟨k + 1, by omega, by go_num, HS.out, HK2.out⟩
          case measure => simp [intOf]; omega
        · have HA2 := Lib.hid (HA.out hpx)
          clear hpx HA HS
          go_wp2_with fail
          go_ret
          exact ⟨_, rfl, by rw [HA2.out]; simp, HK2.out⟩
    · obtain rfl : k = xs.length := by omega
      have HN2 := Lib.hid (by have := HN.out; rw [List.take_length] at this; exact this)
      clear HN
      go_wp2_with fail
      go_ret
      exact ⟨_, rfl, by rw [HN2.out]; simp, HK.out⟩

set_option maxHeartbeats 1000000 in
theorem contains_any (w : World) (a : Option Addr) (c : Nat) (xs : List Int) (hc : xs.length ≤ c) (hm : c ≤ 9223372036854775807) (hI : IntsIn w a xs) (K : Nat) (caps : Array Value) (p : Int → Bool) (eg : ∀ args w, (callFunc K args).run Try.prog w = .ok (.enter K args) w)
    (hp : ∀ W x, Kept [] w W → x ∈ xs → Calls Try.prog K (#[.int .i64 x] ++ caps) W (RetB (p x) W)) :
    Calls Try.prog 74 #[.slice a xs.length c, .func (.func K) #[] caps] w (RetB (xs.any p) w) := by
  have HC := Lib.hid (index_any w a c xs hc hm hI K caps p eg hp)
  clear hp hI eg
  go_enter Try.func74, Try.ntmps74
  go_wp2_with fail
  refine HC.out.mono ?_
  rintro e w2 ⟨i, rfl, hi, hk⟩
  have HI := Lib.hid hi
  have HK := Lib.hid hk
  clear hi hk HC
  go_wp2_with fail
  go_ret
  rw [HI.out]
  exact ⟨rfl, HK.out⟩
end Go.Proofs.Ytlgcboaojdhneaa
