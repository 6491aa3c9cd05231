/- tidy. -/
import Derived.Test.YtlgcboaojdhneaaK6
import Derived.Test.YtlgcboaojdhneaaP2
namespace Go.Proofs.Ytlgcboaojdhneaa
open Go.RowKit

def TidyTo (t : Tab) (k : Nat) : Prop := ∀ a b : Nat, b < a → a < k → (rowE t a).owner = (rowE t b).owner → homI t a b = false
def TidyRow (t : Tab) (k j : Nat) : Prop := ∀ b : Nat, b < j → (rowE t k).owner = (rowE t b).owner → homI t k b = false
theorem TidyTo.step {t : Tab} {k : Nat} (h : TidyTo t k) (hr : TidyRow t k k) : TidyTo t (k + 1) := fun a b hb ha ho => by
  rcases Nat.lt_or_ge a k with h1 | h1
  · exact h a b hb h1 ho
  · obtain rfl : a = k := by omega
    exact hr b hb ho
theorem TidyRow.step {t : Tab} {k j : Nat} (h : TidyRow t k j) (hj : (rowE t k).owner = (rowE t j).owner → homI t k j = false) : TidyRow t k (j + 1) := fun b hb ho => by
  rcases Nat.lt_or_ge b j with h1 | h1
  · exact h b h1 ho
  · obtain rfl : b = j := by omega
    exact hj ho
def RetTidy (t : Tab) (w : World) (e : Ending) (w' : World) : Prop := ∃ b, e = .returned (.bool b) ∧ (b = true → Tidy t) ∧ Kept [] w w'

set_option maxRecDepth 100000 in
set_option maxHeartbeats 4000000 in
theorem tidy_any (w : World) (v : TabV) (t : Tab) (hT : TabIn w v t) (hs : t.ents.length ≤ 100000) :
    Calls Try.prog 18 #[.agg (v.cells t)] w (RetTidy t w) := by
  have HT := Lib.hid hT
  have q1 := hT.el
  have q2 := hT.em
  clear hT
  unfold TabV.cells
  go_enter Try.func18, Try.ntmps18
  go_upto_region 1 with (fail)
  refine wp_gen' ?_
  intro w0 hw0
  have HK0 : Hid (Kept [] w w0) := by rw [Hid, hw0]; exact Kept.alloc _ _ _
  have HB : Hid (TabBox w0 w.heap.size v t) := ⟨by rw [hw0]; exact heap_alloc_new _ _, HT.out.kept HK0.out⟩
  clear hw0
  obtain ⟨d0, d1, d2, d3, d4⟩ := HB.out.cells
  go_wp2_with fail
  clear d0 d1 d2 d3 d4
  go_loopw [8] (fun i wr => ∃ k : Nat, k ≤ t.ents.length ∧ i = .int .i64 k ∧ Kept [] w0 wr ∧ TidyTo t k) (fun i _ => t.ents.length - (intOf i).toNat)
  case atStart => exact ⟨0, Nat.zero_le _, rfl, Kept.refl _ _, fun a b _ h => by omega⟩
  case round =>
    obtain ⟨k, hk, rfl, hkr, hti⟩ := hrel
    have HKR := Lib.hid hkr
    have HTI := Lib.hid hti
    clear hkr hti
    obtain ⟨wo, rfl⟩ : ∃ wo : World, wo = wr := ⟨_, rfl⟩
    by_cases hlt : k < t.ents.length
    · obtain ⟨x, hx⟩ : ∃ x, t.ents[k]? = some x := ⟨_, List.getElem?_eq_getElem hlt⟩
      have HX := Lib.hid hx
      clear hx
      go_wp2_with fail
      go_loopw [4] (fun i wr => ∃ j : Nat, j ≤ k ∧ i = .int .i64 j ∧ Kept [] w0 wr ∧ TidyRow t k j) (fun i _ => k - (intOf i).toNat)
      case atStart => exact ⟨0, Nat.zero_le _, rfl, HKR.out, fun b h => by omega⟩
      case round =>
        obtain ⟨j, hj, rfl, hkr, hrow⟩ := hrel
        have HKJ := Lib.hid hkr
        have HTR := Lib.hid hrow
        clear hkr hrow
        obtain ⟨wi, rfl⟩ : ∃ wi : World, wi = wr := ⟨_, rfl⟩
        by_cases hjt : j < k
        · obtain ⟨y, hy⟩ : ∃ y, t.ents[j]? = some y := ⟨_, List.getElem?_eq_getElem (by omega)⟩
          have hjl : j < t.ents.length := by omega
          obtain ⟨b, o, hea, hr⟩ := (HB.out.kept HKJ.out).tab.es.some_ HX.out
          have x2 : wi.cell? ⟨b, o + k * 22 + 2, none⟩ = some (.int .i64 x.owner) := hr k x HX.out 2 _ rfl
          have y2 : wi.cell? ⟨b, o + j * 22 + 2, none⟩ = some (.int .i64 y.owner) := hr j y hy 2 _ rfl
          have HXY : Hid ((rowE t k).owner = x.owner ∧ (rowE t j).owner = y.owner) := ⟨by rw [(row_some HX.out).2], by rw [(row_some hy).2]⟩
          obtain ⟨d0, d1, d2, d3, d4⟩ := (HB.out.kept HKJ.out).cells
          have HC := Lib.hid (fun z : After wi => homographsI_any z.1 v t k j ((HB.out.kept HKJ.out).tab.kept z.2))
          unfold TabV.cells at HC
          rw [hea] at d2 HC
          clear hr hy hea
          replace d0 := After.cell d0
          replace d1 := After.cell d1
          replace d2 := After.cell d2
          replace d3 := After.cell d3
          replace d4 := After.cell d4
          replace x2 := After.cell x2
          replace y2 := After.cell y2
          cases e : (x.owner == y.owner)
          · have HNE : Hid (TidyRow t k (j + 1)) := HTR.out.step (fun he => by
              rw [HXY.out.1, HXY.out.2] at he
              rw [he] at e
              simp at e)
            go_upto_region 7 with (fail)
            refine wp_region_after (by kernel_rfl) (by kernel_rfl) ?_
            repeat (go_big_quiet_step (exact Calls.after_b (HC.out _)))
            refine wpQuiet_nil ?_
            rintro w6 ⟨z6, rfl⟩
            obtain ⟨w6, hk6⟩ := z6
            dsimp only
            have HK6 := Lib.hid (HKJ.out.trans hk6)
            clear hk6 d0 d1 d2 d3 d4 x2 y2
            go_wp2_with fail
            go_roundw
            case rel => exact ⟨j + 1, by omega, by go_num, HK6.out, HNE.out⟩
            case measure => simp [intOf]; omega
          · go_upto_region 7 with (fail)
            refine wp_region_after (by kernel_rfl) (by kernel_rfl) ?_
            repeat (go_big_quiet_step (exact Calls.after_b (HC.out _)))
            refine wpQuiet_nil ?_
            rintro w6 ⟨z6, rfl⟩
            obtain ⟨w6, hk6⟩ := z6
            dsimp only
            have HK6 := Lib.hid (HKJ.out.trans hk6)
            clear hk6 d0 d1 d2 d3 d4 x2 y2 HC
            cases hh : homI t k j
            · have HNE : Hid (TidyRow t k (j + 1)) := HTR.out.step (fun _ => hh)
              go_wp2_with fail
              go_roundw
              case rel => exact ⟨j + 1, by omega, by go_num, HK6.out, HNE.out⟩
              case measure => simp [intOf]; omega
            · go_wp2_with fail
              go_ret
              exact ⟨false, rfl, (fun h => by cases h), HK0.out.trans HK6.out⟩
        · obtain rfl : j = k := by omega
          go_wp2_with fail
          go_roundw
          case rel => exact ⟨j + 1, by omega, by go_num, HKJ.out, HTI.out.step HTR.out⟩
          case measure => simp [intOf]; omega
    · obtain rfl : k = t.ents.length := by omega
      go_wp2_with fail
      go_ret
      exact ⟨true, rfl, fun _ => HTI.out, HK0.out.trans HKR.out⟩
end Go.Proofs.Ytlgcboaojdhneaa
