/- ScopePairs' walk. -/
import Derived.Test.YtlgcboaojdhneaaK6
namespace Go.Proofs.Ytlgcboaojdhneaa
open Go.RowKit

set_option maxRecDepth 100000 in
set_option maxHeartbeats 4000000 in
theorem pairs_any (w : World) (v : TabV) (t0 : Tab) (a b : Int) (hT : TabIn w v t0) (_ : TypIn w v t0) (_ : ∀ x, x ∈ t0.ents → (Lit.int .i64 x.owner).wf = true) :
    Calls Try.prog 7 #[.agg (v.cells t0), .int .i64 a, .int .i64 b] w (RetB true w) := by
  have HT := Lib.hid hT
  have HV0 : Hid (v.cells t0 = #[.slice v.ta t0.types.length v.tc, .slice v.sa t0.subs.length v.sc, .slice v.ea t0.ents.length v.ec, .slice v.ga v.gn v.gc, .slice v.ia v.im v.ic]) := rfl
  clear hT
  rw [HV0.out]
  go_enter Try.func7, Try.ntmps7
  go_upto_region 1 with (fail)
  refine wp_gen' ?_
  intro w0 hw0
  have HK0 : Hid (Kept [] w w0) := by rw [Hid, hw0]; exact Kept.alloc _ _ _
  have HB0 : Hid (w0.heap[w.heap.size]? = some (.cells (v.cells t0) 28 (0, 0))) := by rw [Hid, hw0]; exact heap_alloc_new _ _
  clear hw0
  have c0 : ∀ j, w0.cell? ⟨w.heap.size, j, none⟩ = (v.cells t0)[j]? := fun j => cell_of_row _ _ _ _ _ _ HB0.out
  have d0 : w0.cell? ⟨w.heap.size, 0, none⟩ = some (.slice v.ta t0.types.length v.tc) := c0 0
  have d1 : w0.cell? ⟨w.heap.size, 1, none⟩ = some (.slice v.sa t0.subs.length v.sc) := c0 1
  have d2 : w0.cell? ⟨w.heap.size, 2, none⟩ = some (.slice v.ea t0.ents.length v.ec) := c0 2
  have d3 : w0.cell? ⟨w.heap.size, 3, none⟩ = some (.slice v.ga v.gn v.gc) := c0 3
  have d4 : w0.cell? ⟨w.heap.size, 4, none⟩ = some (.slice v.ia v.im v.ic) := c0 4
  clear c0
  have HC := Lib.hid (cut_any w0 v t0 (HT.out.kept HK0.out))
  rw [HV0.out] at HC
  go_upto_region 2 with (first
    | (go_at_call 10
       refine HC.out.mono ?_
       rintro e w1 ⟨rfl, hk1⟩
       have HK1 := Lib.hid hk1
       clear hk1)
    | (guard_hyp HK1
       fail_if_success guard_hyp HB2
       refine wpList_store_row rfl 28 (.tmp 3) (.tmp 13) rfl w.heap.size _ (v.cells (cutT t0)) rfl (HK1.out.obj HB0.out (by simp)) rfl (Try.info28 v _) rfl (tab_one _ _) ?_
       intro w2 hb2 hk2
       have HB2 := Lib.hid hb2
       have HK2 := Lib.hid hk2
       clear hb2 hk2))
  clear d0 d1 d2 d3 d4 HC
  have HKZ : Hid (Kept [] w w2) := (HK0.out.trans HK1.out).above HK2.out (by simp)
  have HTB : Hid (TabBox w2 w.heap.size v (cutT t0)) := ⟨HB2.out, HT.out.cut.kept HKZ.out⟩
  have hlen : (cutT t0).ents.length ≤ 120 := by simp [cutT, List.length_take]; omega
  have HSZ : Hid ((cutT t0).ents.length ≤ 100000) := by rw [Hid]; omega
  generalize cutT t0 = t at *
  clear HB0 HB2 HK0 HK1 HK2
  have HLEN := Lib.hid hlen
  obtain ⟨d0, d1, d2, d3, d4⟩ := HTB.out.cells
  go_upto_region 3 with (fail)
  obtain ⟨N, hN⟩ : ∃ N : Int, N = min (t.ents.length : Int) 30 := ⟨_, rfl⟩
  have hN0 : 0 ≤ N := by omega
  have hN1 : N ≤ 30 := by omega
  rw [← hN]
  clear hN hlen d0 d1 d2 d3 d4
  go_wp2_with fail
  go_loopw [8] (fun i wr => ∃ k : Int, -1 ≤ k ∧ k ≤ N + 1 ∧ i = .int .i64 k ∧ Kept [] w2 wr) (fun i _ => (N + 1 - intOf i).toNat)
  case atStart => exact ⟨-1, by omega, by omega, rfl, Kept.refl _ _⟩
  case round =>
    obtain ⟨k, hk0, hk1, rfl, hkr⟩ := hrel
    have HKR := Lib.hid hkr
    clear hkr
    obtain ⟨wo, rfl⟩ : ∃ wo : World, wo = wr := ⟨_, rfl⟩
    by_cases hlt : k ≤ N
    · go_wp2_with fail
      go_loopw [9] (fun i wr => ∃ j : Int, -1 ≤ j ∧ j ≤ N + 1 ∧ i = .int .i64 j ∧ Kept [] w2 wr) (fun i _ => (N + 1 - intOf i).toNat)
      case atStart => exact ⟨-1, by omega, by omega, rfl, HKR.out⟩
      case round =>
        obtain ⟨j, hj0, hj1, rfl, hkr⟩ := hrel
        have HKJ := Lib.hid hkr
        clear hkr HKR
        obtain ⟨wi, rfl⟩ : ∃ wi : World, wi = wr := ⟨_, rfl⟩
        by_cases hjt : j ≤ N
        · have HTJ : Hid (TabBox wi w.heap.size v t) := HTB.out.kept HKJ.out
          have AA : Hid (∀ x y : Int, ∀ z : After wi, Calls Try.prog 17 #[.agg (v.cells t), .int .i64 x, .int .i64 y] z.1 (RetB (insideR t x y) z.1) ∧ Calls Try.prog 32 #[.agg (v.cells t), .int .i64 x, .int .i64 y] z.1 (RetB (insideR t x y) z.1) ∧ Calls Try.prog 33 #[.agg (v.cells t), .int .i64 x, .int .i64 y] z.1 (RetB (profI t x y) z.1) ∧ Calls Try.prog 34 #[.agg (v.cells t), .int .i64 x, .int .i64 y] z.1 (RetB (profI t x y) z.1) ∧ Calls Try.prog 19 #[.agg (v.cells t), .int .i64 x, .int .i64 y] z.1 (RetB (homI t x y) z.1) ∧ Calls Try.prog 35 #[.agg (v.cells t), .int .i64 x, .int .i64 y] z.1 (RetB (homI t x y) z.1) ∧ Calls Try.prog 12 #[.agg (v.cells t), .int .i64 x] z.1 (RetI (baseR t x) z.1) ∧ Calls Try.prog 36 #[.agg (v.cells t), .int .i64 x] z.1 (RetI (baseR t x) z.1)) := fun x y z => by
            have hT := (HTJ.out.kept z.2).tab
            exact ⟨inside_any _ v t x y hT, insideRef_any _ v t x y hT HSZ.out, profileI_any _ v t x y hT, profileRef_any _ v t x y hT, homographsI_any _ v t x y hT, homographsIRef_any _ v t x y hT, base_any _ v t x hT, baseRef_any _ v t x hT⟩
          unfold TabV.cells at AA
          obtain ⟨d0, d1, d2, d3, d4⟩ := HTJ.out.cells
          replace d0 := After.cell d0
          replace d1 := After.cell d1
          replace d2 := After.cell d2
          replace d3 := After.cell d3
          replace d4 := After.cell d4
          rcases (by omega : (k < 0 ∧ j < 0) ∨ (k < 0 ∧ ¬ j < 0) ∨ (¬ k < 0 ∧ j < 0) ∨ (¬ k < 0 ∧ ¬ j < 0)) with ⟨e1, e2⟩ | ⟨e1, e2⟩ | ⟨e1, e2⟩ | ⟨e1, e2⟩
          · skip
            go_upto_region 14 with (fail)
            refine wp_region_after (by kernel_rfl) (by kernel_rfl) ?_
            iterate 3 (go_big_quiet_step (fail))
            go_big_quiet_step (exact Calls.after_b (AA.out a b _).1)
            iterate 3 (go_big_quiet_step (fail))
            go_big_quiet_step (exact Calls.after_b (AA.out a b _).2.1)
            iterate 5 (go_big_quiet_step (fail))
            go_big_quiet_step (exact Calls.after_b (AA.out a b _).2.2.1)
            iterate 3 (go_big_quiet_step (fail))
            go_big_quiet_step (exact Calls.after_b (AA.out a b _).2.2.2.1)
            iterate 6 (go_big_quiet_step (fail))
            go_big_quiet_step (exact Calls.after_b (AA.out a b _).2.2.2.2.1)
            iterate 3 (go_big_quiet_step (fail))
            go_big_quiet_step (exact Calls.after_b (AA.out a b _).2.2.2.2.2.1)
            iterate 2 (go_big_quiet_step (fail))
            refine wpQuiet_nil ?_
            rintro w5 ⟨z5, rfl⟩
            obtain ⟨w5, hk5⟩ := z5
            dsimp only
            have HK5 := Lib.hid hk5
            have HTJ5 : Hid (TabBox w5 w.heap.size v t) := HTJ.out.kept hk5
            clear hk5 d0 d1 d2 d3 d4
            have AB : Hid (∀ z : After w5, Calls Try.prog 12 #[.agg (v.cells t), .int .i64 a] z.1 (RetI (baseR t a) z.1) ∧ Calls Try.prog 36 #[.agg (v.cells t), .int .i64 a] z.1 (RetI (baseR t a) z.1)) := fun z => ⟨base_any _ v t a (HTJ5.out.kept z.2).tab, baseRef_any _ v t a (HTJ5.out.kept z.2).tab⟩
            unfold TabV.cells at AB
            obtain ⟨d0, d1, d2, d3, d4⟩ := HTJ5.out.cells
            replace d0 := After.cell d0
            replace d1 := After.cell d1
            replace d2 := After.cell d2
            replace d3 := After.cell d3
            replace d4 := After.cell d4
            go_upto_region 16 with (fail)
            refine wp_region_after (by kernel_rfl) (by kernel_rfl) ?_
            iterate 2 (go_big_quiet_step (fail))
            go_big_quiet_step (exact Calls.after_i (AB.out _).1)
            iterate 2 (go_big_quiet_step (fail))
            go_big_quiet_step (exact Calls.after_i (AB.out _).2)
            iterate 1 (go_big_quiet_step (fail))
            refine wpQuiet_nil ?_
            rintro w6 ⟨z6, rfl⟩
            obtain ⟨w6, hk6⟩ := z6
            dsimp only
            have HK6 := Lib.hid hk6
            clear hk6 d0 d1 d2 d3 d4
            go_wp2_with fail
            go_roundw
            case rel => exact ⟨j + 1, by omega, by omega, by go_num, HKJ.out.trans (HK5.out.trans HK6.out)⟩
            case measure => simp [intOf]; omega
          · skip
            go_upto_region 14 with (fail)
            refine wp_region_after (by kernel_rfl) (by kernel_rfl) ?_
            iterate 3 (go_big_quiet_step (fail))
            go_big_quiet_step (exact Calls.after_b (AA.out a j _).1)
            iterate 3 (go_big_quiet_step (fail))
            go_big_quiet_step (exact Calls.after_b (AA.out a j _).2.1)
            iterate 5 (go_big_quiet_step (fail))
            go_big_quiet_step (exact Calls.after_b (AA.out a j _).2.2.1)
            iterate 3 (go_big_quiet_step (fail))
            go_big_quiet_step (exact Calls.after_b (AA.out a j _).2.2.2.1)
            iterate 6 (go_big_quiet_step (fail))
            go_big_quiet_step (exact Calls.after_b (AA.out a j _).2.2.2.2.1)
            iterate 3 (go_big_quiet_step (fail))
            go_big_quiet_step (exact Calls.after_b (AA.out a j _).2.2.2.2.2.1)
            iterate 2 (go_big_quiet_step (fail))
            refine wpQuiet_nil ?_
            rintro w5 ⟨z5, rfl⟩
            obtain ⟨w5, hk5⟩ := z5
            dsimp only
            have HK5 := Lib.hid hk5
            have HTJ5 : Hid (TabBox w5 w.heap.size v t) := HTJ.out.kept hk5
            clear hk5 d0 d1 d2 d3 d4
            have AB : Hid (∀ z : After w5, Calls Try.prog 12 #[.agg (v.cells t), .int .i64 a] z.1 (RetI (baseR t a) z.1) ∧ Calls Try.prog 36 #[.agg (v.cells t), .int .i64 a] z.1 (RetI (baseR t a) z.1)) := fun z => ⟨base_any _ v t a (HTJ5.out.kept z.2).tab, baseRef_any _ v t a (HTJ5.out.kept z.2).tab⟩
            unfold TabV.cells at AB
            obtain ⟨d0, d1, d2, d3, d4⟩ := HTJ5.out.cells
            replace d0 := After.cell d0
            replace d1 := After.cell d1
            replace d2 := After.cell d2
            replace d3 := After.cell d3
            replace d4 := After.cell d4
            go_upto_region 16 with (fail)
            refine wp_region_after (by kernel_rfl) (by kernel_rfl) ?_
            iterate 2 (go_big_quiet_step (fail))
            go_big_quiet_step (exact Calls.after_i (AB.out _).1)
            iterate 2 (go_big_quiet_step (fail))
            go_big_quiet_step (exact Calls.after_i (AB.out _).2)
            iterate 1 (go_big_quiet_step (fail))
            refine wpQuiet_nil ?_
            rintro w6 ⟨z6, rfl⟩
            obtain ⟨w6, hk6⟩ := z6
            dsimp only
            have HK6 := Lib.hid hk6
            clear hk6 d0 d1 d2 d3 d4
            go_wp2_with fail
            go_roundw
            case rel => exact ⟨j + 1, by omega, by omega, by go_num, HKJ.out.trans (HK5.out.trans HK6.out)⟩
            case measure => simp [intOf]; omega
          · skip
            go_upto_region 14 with (fail)
            refine wp_region_after (by kernel_rfl) (by kernel_rfl) ?_
            iterate 3 (go_big_quiet_step (fail))
            go_big_quiet_step (exact Calls.after_b (AA.out k b _).1)
            iterate 3 (go_big_quiet_step (fail))
            go_big_quiet_step (exact Calls.after_b (AA.out k b _).2.1)
            iterate 5 (go_big_quiet_step (fail))
            go_big_quiet_step (exact Calls.after_b (AA.out k b _).2.2.1)
            iterate 3 (go_big_quiet_step (fail))
            go_big_quiet_step (exact Calls.after_b (AA.out k b _).2.2.2.1)
            iterate 6 (go_big_quiet_step (fail))
            go_big_quiet_step (exact Calls.after_b (AA.out k b _).2.2.2.2.1)
            iterate 3 (go_big_quiet_step (fail))
            go_big_quiet_step (exact Calls.after_b (AA.out k b _).2.2.2.2.2.1)
            iterate 2 (go_big_quiet_step (fail))
            refine wpQuiet_nil ?_
            rintro w5 ⟨z5, rfl⟩
            obtain ⟨w5, hk5⟩ := z5
            dsimp only
            have HK5 := Lib.hid hk5
            have HTJ5 : Hid (TabBox w5 w.heap.size v t) := HTJ.out.kept hk5
            clear hk5 d0 d1 d2 d3 d4
            have AB : Hid (∀ z : After w5, Calls Try.prog 12 #[.agg (v.cells t), .int .i64 k] z.1 (RetI (baseR t k) z.1) ∧ Calls Try.prog 36 #[.agg (v.cells t), .int .i64 k] z.1 (RetI (baseR t k) z.1)) := fun z => ⟨base_any _ v t k (HTJ5.out.kept z.2).tab, baseRef_any _ v t k (HTJ5.out.kept z.2).tab⟩
            unfold TabV.cells at AB
            obtain ⟨d0, d1, d2, d3, d4⟩ := HTJ5.out.cells
            replace d0 := After.cell d0
            replace d1 := After.cell d1
            replace d2 := After.cell d2
            replace d3 := After.cell d3
            replace d4 := After.cell d4
            go_upto_region 16 with (fail)
            refine wp_region_after (by kernel_rfl) (by kernel_rfl) ?_
            iterate 2 (go_big_quiet_step (fail))
            go_big_quiet_step (exact Calls.after_i (AB.out _).1)
            iterate 2 (go_big_quiet_step (fail))
            go_big_quiet_step (exact Calls.after_i (AB.out _).2)
            iterate 1 (go_big_quiet_step (fail))
            refine wpQuiet_nil ?_
            rintro w6 ⟨z6, rfl⟩
            obtain ⟨w6, hk6⟩ := z6
            dsimp only
            have HK6 := Lib.hid hk6
            clear hk6 d0 d1 d2 d3 d4
            go_wp2_with fail
            go_roundw
            case rel => exact ⟨j + 1, by omega, by omega, by go_num, HKJ.out.trans (HK5.out.trans HK6.out)⟩
            case measure => simp [intOf]; omega
          · skip
            go_upto_region 14 with (fail)
            refine wp_region_after (by kernel_rfl) (by kernel_rfl) ?_
            iterate 3 (go_big_quiet_step (fail))
            go_big_quiet_step (exact Calls.after_b (AA.out k j _).1)
            iterate 3 (go_big_quiet_step (fail))
            go_big_quiet_step (exact Calls.after_b (AA.out k j _).2.1)
            iterate 5 (go_big_quiet_step (fail))
            go_big_quiet_step (exact Calls.after_b (AA.out k j _).2.2.1)
            iterate 3 (go_big_quiet_step (fail))
            go_big_quiet_step (exact Calls.after_b (AA.out k j _).2.2.2.1)
            iterate 6 (go_big_quiet_step (fail))
            go_big_quiet_step (exact Calls.after_b (AA.out k j _).2.2.2.2.1)
            iterate 3 (go_big_quiet_step (fail))
            go_big_quiet_step (exact Calls.after_b (AA.out k j _).2.2.2.2.2.1)
            iterate 2 (go_big_quiet_step (fail))
            refine wpQuiet_nil ?_
            rintro w5 ⟨z5, rfl⟩
            obtain ⟨w5, hk5⟩ := z5
            dsimp only
            have HK5 := Lib.hid hk5
            have HTJ5 : Hid (TabBox w5 w.heap.size v t) := HTJ.out.kept hk5
            clear hk5 d0 d1 d2 d3 d4
            have AB : Hid (∀ z : After w5, Calls Try.prog 12 #[.agg (v.cells t), .int .i64 k] z.1 (RetI (baseR t k) z.1) ∧ Calls Try.prog 36 #[.agg (v.cells t), .int .i64 k] z.1 (RetI (baseR t k) z.1)) := fun z => ⟨base_any _ v t k (HTJ5.out.kept z.2).tab, baseRef_any _ v t k (HTJ5.out.kept z.2).tab⟩
            unfold TabV.cells at AB
            obtain ⟨d0, d1, d2, d3, d4⟩ := HTJ5.out.cells
            replace d0 := After.cell d0
            replace d1 := After.cell d1
            replace d2 := After.cell d2
            replace d3 := After.cell d3
            replace d4 := After.cell d4
            go_upto_region 16 with (fail)
            refine wp_region_after (by kernel_rfl) (by kernel_rfl) ?_
            iterate 2 (go_big_quiet_step (fail))
            go_big_quiet_step (exact Calls.after_i (AB.out _).1)
            iterate 2 (go_big_quiet_step (fail))
            go_big_quiet_step (exact Calls.after_i (AB.out _).2)
            iterate 1 (go_big_quiet_step (fail))
            refine wpQuiet_nil ?_
            rintro w6 ⟨z6, rfl⟩
            obtain ⟨w6, hk6⟩ := z6
            dsimp only
            have HK6 := Lib.hid hk6
            clear hk6 d0 d1 d2 d3 d4
            go_wp2_with fail
            go_roundw
            case rel => exact ⟨j + 1, by omega, by omega, by go_num, HKJ.out.trans (HK5.out.trans HK6.out)⟩
            case measure => simp [intOf]; omega
        · go_wp2_with fail
          go_roundw
          case rel => exact ⟨k + 1, by omega, by omega, by go_num, HKJ.out⟩
          case measure => simp [intOf]; omega
    · go_wp2_with (go_at_call 14; refine (works_any _).mono ?_; rintro e w7 ⟨rfl, hk7⟩; have HK7 := Lib.hid hk7; clear hk7)
      go_ret
      exact ⟨rfl, HKZ.out.trans (HKR.out.trans HK7.out)⟩
end Go.Proofs.Ytlgcboaojdhneaa