/- The reference's Strings and Words: two equal lists. The reference's Comps: two equal lists. -/
import Derived.Test.YtlgcboaojdhneaaK6
namespace Go.Proofs.Ytlgcboaojdhneaa
open Go.RowKit

/-- A row of strings. -/
def StrsIn (w : World) (A : Option Addr) (xs : List ByteArray) : Prop := xs = [] ∨ ∃ b o, A = some ⟨b, o, none⟩ ∧ ∀ (j : Nat) (s : ByteArray), xs[j]? = some s → w.cell? ⟨b, o + j, none⟩ = some (.string s)
theorem StrsIn.kept {w w' : World} {A : Option Addr} {xs : List ByteArray} (h : StrsIn w A xs) (hk : Kept [] w w') : StrsIn w' A xs := by
  rcases h with h | ⟨b, o, e, hc⟩
  · exact .inl h
  · exact .inr ⟨b, o, e, fun j s hs => hk.cell (hc j s hs) (by simp)⟩

set_option maxRecDepth 100000 in
set_option maxHeartbeats 1000000 in
theorem strings_any (w : World) (a b : Option Addr) (c d : Nat) (xs : List ByteArray) (hc : xs.length ≤ c) (hm : c ≤ 9223372036854775807) (hI : StrsIn w a xs) (hc' : xs.length ≤ d) (hm' : d ≤ 9223372036854775807) (hI' : StrsIn w b xs) :
    Calls Try.prog 82 #[.slice a xs.length c, .slice b xs.length d] w (RetB true w) := by
  have HCA := Lib.hid hI
  have HCB := Lib.hid hI'
  clear hI hI'
  go_enter Try.func82, Try.ntmps82
  go_wp2_with fail
  go_loopw [5] (fun i wr => ∃ k : Nat, k ≤ xs.length ∧ i = .int .i64 k ∧ Kept [] w wr) (fun i _ => xs.length - (intOf i).toNat)
  case atStart => exact ⟨0, Nat.zero_le _, rfl, Kept.refl _ _⟩
  case round =>
    obtain ⟨k, hk, rfl, hkr⟩ := hrel
    have HKR := Lib.hid hkr
    clear hkr
    by_cases hlt : k < xs.length
    · obtain ⟨x, hx⟩ : ∃ x, xs[k]? = some x := ⟨_, List.getElem?_eq_getElem hlt⟩
      rcases HCA.out with hn | ⟨b1, o1, rfl, hc1⟩
      · rw [hn] at hlt; simp at hlt
      rcases HCB.out with hn | ⟨b2, o2, rfl, hc2⟩
      · rw [hn] at hx; simp at hx
      have c1 := HKR.out.cell (hc1 k x hx) (by simp)
      have c2 := HKR.out.cell (hc2 k x hx) (by simp)
      clear hx hc1 hc2
      go_upto_region 6 with (fail)
      go_quiet (fail)
      go_wp2_with fail
      go_roundw
      case rel => exact ⟨k + 1, by omega, by go_num, HKR.out.trans (Kept.drewN _ _ _)⟩
      case measure => simp [intOf]; omega
    · go_wp2_with fail
      go_ret
      exact ⟨rfl, HKR.out⟩

set_option maxRecDepth 100000 in
set_option maxHeartbeats 1000000 in
theorem words_any (w : World) (a b : Option Addr) (c d : Nat) (xs : List Int) (hc : xs.length ≤ c) (hm : c ≤ 9223372036854775807) (hI : IntsIn w a xs) (hc' : xs.length ≤ d) (hm' : d ≤ 9223372036854775807) (hI' : IntsIn w b xs) :
    Calls Try.prog 102 #[.slice a xs.length c, .slice b xs.length d] w (RetB true w) := by
  have HCA := Lib.hid hI
  have HCB := Lib.hid hI'
  clear hI hI'
  go_enter Try.func102, Try.ntmps102
  go_wp2_with fail
  go_loopw [5] (fun i wr => ∃ k : Nat, k ≤ xs.length ∧ i = .int .i64 k ∧ Kept [] w wr) (fun i _ => xs.length - (intOf i).toNat)
  case atStart => exact ⟨0, Nat.zero_le _, rfl, Kept.refl _ _⟩
  case round =>
    obtain ⟨k, hk, rfl, hkr⟩ := hrel
    have HKR := Lib.hid hkr
    clear hkr
    by_cases hlt : k < xs.length
    · obtain ⟨x, hx⟩ : ∃ x, xs[k]? = some x := ⟨_, List.getElem?_eq_getElem hlt⟩
      rcases HCA.out with hn | ⟨b1, o1, rfl, hc1⟩
      · rw [hn] at hlt; simp at hlt
      rcases HCB.out with hn | ⟨b2, o2, rfl, hc2⟩
      · rw [hn] at hx; simp at hx
      have c1 := HKR.out.cell (hc1 k x hx) (by simp)
      have c2 := HKR.out.cell (hc2 k x hx) (by simp)
      clear hx hc1 hc2
      go_upto_region 6 with (fail)
      go_quiet (fail)
      go_wp2_with fail
      go_roundw
      case rel => exact ⟨k + 1, by omega, by go_num, HKR.out.trans (Kept.drewN _ _ _)⟩
      case measure => simp [intOf]; omega
    · go_wp2_with fail
      go_ret
      exact ⟨rfl, HKR.out⟩
end Go.Proofs.Ytlgcboaojdhneaa
namespace Go.Proofs.Ytlgcboaojdhneaa
open Go.RowKit

@[go_sem] theorem CompV.len (x : CompV) : x.cells.length = 6 := rfl
/-- A component's values. -/
structure CompIn (w : World) (x : CompV) : Prop where
  ws : IntsIn w x.wa x.whens
  w1 : x.whens.length ≤ x.wc
  w2 : x.wc ≤ 9223372036854775807
theorem CompIn.kept {w w' : World} {x : CompV} (h : CompIn w x) (hk : Kept [] w w') : CompIn w' x := ⟨h.ws.kept hk, h.w1, h.w2⟩
theorem CompV.at_ {w : World} {b o : Nat} {x : CompV} (h : w.rangeAt b o x.cells) : w.cell? ⟨b, o, none⟩ = some (.string x.name) ∧ w.cell? ⟨b, o + 1, none⟩ = some (.int .i64 x.sub) ∧ w.cell? ⟨b, o + 2, none⟩ = some (.bool x.has) ∧ w.cell? ⟨b, o + 3, none⟩ = some (.int .i64 x.deflt) ∧ w.cell? ⟨b, o + 4, none⟩ = some (.bool x.variant) ∧ w.cell? ⟨b, o + 5, none⟩ = some (.slice x.wa x.whens.length x.wc) :=
  ⟨h 0 _ rfl, h 1 _ rfl, h 2 _ rfl, h 3 _ rfl, h 4 _ rfl, h 5 _ rfl⟩

set_option maxRecDepth 100000 in
set_option maxHeartbeats 2000000 in
theorem comps_any (w : World) (a b : Option Addr) (c d : Nat) (xs : List CompV) (hc : xs.length ≤ c) (hm : c ≤ 9223372036854775807) (hI : RowsAt CompV 6 CompV.cells w a xs) (hc' : xs.length ≤ d) (hm' : d ≤ 9223372036854775807) (hI' : RowsAt CompV 6 CompV.cells w b xs) (hx : ∀ x, x ∈ xs → CompIn w x) :
    Calls Try.prog 83 #[.slice a xs.length c, .slice b xs.length d] w (RetB true w) := by
  have HCA := Lib.hid hI
  have HCB := Lib.hid hI'
  have HXS := Lib.hid hx
  clear hI hI' hx
  go_enter Try.func83, Try.ntmps83
  go_wp2_with fail
  go_loopw [5] (fun i wr => ∃ k : Nat, k ≤ xs.length ∧ i = .int .i64 k ∧ Kept [] w wr) (fun i _ => xs.length - (intOf i).toNat)
  case atStart => exact ⟨0, Nat.zero_le _, rfl, Kept.refl _ _⟩
  case round =>
    obtain ⟨k, hk, rfl, hkr⟩ := hrel
    have HKR := Lib.hid hkr
    clear hkr
    obtain ⟨wo, rfl⟩ : ∃ wo : World, wo = wr := ⟨_, rfl⟩
    by_cases hlt : k < xs.length
    · obtain ⟨x, hx⟩ : ∃ x, xs[k]? = some x := ⟨_, List.getElem?_eq_getElem hlt⟩
      have HX := Lib.hid (HXS.out x (List.mem_of_getElem? hx))
      rcases HCA.out with hn | ⟨b1, o1, rfl, hc1⟩
      · rw [hn] at hlt; simp at hlt
      rcases HCB.out with hn | ⟨b2, o2, rfl, hc2⟩
      · rw [hn] at hx; simp at hx
      have HR1 : Hid (∀ W, Kept [] w W → W.rangeAt b1 (o1 + k * 6) x.cells) := fun W hk j u hu => hk.cell (hc1 k x hx j u hu) (by simp)
      have HR2 : Hid (∀ W, Kept [] w W → W.rangeAt b2 (o2 + k * 6) x.cells) := fun W hk j u hu => hk.cell (hc2 k x hx j u hu) (by simp)
      clear hx hc1 hc2
      obtain ⟨c0, c1, c2, c3, c4, c5⟩ := CompV.at_ (HR1.out _ HKR.out)
      go_upto_region 7 with (fail)
      refine wp_gen' ?_
      intro w1 hw1
      have HK1 : Hid (Kept [] w w1) := by rw [Hid, hw1]; exact HKR.out.trans (Kept.alloc _ _ _)
      have HX1 : Hid (w1.heap[wo.heap.size]? = some (.cells x.cells.toArray 141 (0, 0))) := by rw [Hid, hw1]; exact heap_alloc_new _ _
      generalize wo.heap.size = XB at *
      clear hw1 c0 c1 c2 c3 c4 c5
      obtain ⟨c0, c1, c2, c3, c4, c5⟩ := CompV.at_ (HR2.out _ HK1.out)
      go_upto_region 8 with (fail)
      refine wp_gen' ?_
      intro w2 hw2
      have HK2 : Hid (Kept [] w w2) := by rw [Hid, hw2]; exact HK1.out.trans (Kept.alloc _ _ _)
      have HX2 : Hid (w2.heap[XB]? = some (.cells x.cells.toArray 141 (0, 0))) := by rw [Hid, hw2]; exact (Kept.alloc [] _ _).obj HX1.out (by simp)
      have HY2 : Hid (w2.heap[w1.heap.size]? = some (.cells x.cells.toArray 141 (0, 0))) := by rw [Hid, hw2]; exact heap_alloc_new _ _
      generalize w1.heap.size = YB at *
      clear hw2 c0 c1 c2 c3 c4 c5 HX1 HR1 HR2
      have cx : ∀ j, w2.cell? ⟨XB, j, none⟩ = x.cells.toArray[j]? := fun j => cell_of_row _ _ _ _ _ _ HX2.out
      have cy : ∀ j, w2.cell? ⟨YB, j, none⟩ = x.cells.toArray[j]? := fun j => cell_of_row _ _ _ _ _ _ HY2.out
      have x0 : w2.cell? ⟨XB, 0, none⟩ = some (.string x.name) := cx 0
      have x1 : w2.cell? ⟨XB, 1, none⟩ = some (.int .i64 x.sub) := cx 1
      have x2 : w2.cell? ⟨XB, 2, none⟩ = some (.bool x.has) := cx 2
      have x3 : w2.cell? ⟨XB, 3, none⟩ = some (.int .i64 x.deflt) := cx 3
      have x4 : w2.cell? ⟨XB, 4, none⟩ = some (.bool x.variant) := cx 4
      have x5 : w2.cell? ⟨XB, 5, none⟩ = some (.slice x.wa x.whens.length x.wc) := cx 5
      have y0 : w2.cell? ⟨YB, 0, none⟩ = some (.string x.name) := cy 0
      have y1 : w2.cell? ⟨YB, 1, none⟩ = some (.int .i64 x.sub) := cy 1
      have y2 : w2.cell? ⟨YB, 2, none⟩ = some (.bool x.has) := cy 2
      have y3 : w2.cell? ⟨YB, 3, none⟩ = some (.int .i64 x.deflt) := cy 3
      have y4 : w2.cell? ⟨YB, 4, none⟩ = some (.bool x.variant) := cy 4
      have y5 : w2.cell? ⟨YB, 5, none⟩ = some (.slice x.wa x.whens.length x.wc) := cy 5
      have HC := Lib.hid (words_any w2 x.wa x.wa x.wc x.wc x.whens HX.out.w1 HX.out.w2 (HX.out.ws.kept HK2.out) HX.out.w1 HX.out.w2 (HX.out.ws.kept HK2.out))
      clear cx cy
      go_wp2_with (go_at_call 102; refine HC.out.mono ?_; rintro e w3 ⟨rfl, hk3⟩; have HK3 := Lib.hid (HK2.out.trans hk3); clear hk3)
      go_roundw
      case rel => exact ⟨k + 1, by omega, by go_num, HK3.out⟩
      case measure => simp [intOf]; omega
    · go_wp2_with fail
      go_ret
      exact ⟨rfl, HKR.out⟩
end Go.Proofs.Ytlgcboaojdhneaa
