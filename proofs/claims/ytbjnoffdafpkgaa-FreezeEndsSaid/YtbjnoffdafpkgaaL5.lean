/- checks; head. -/
import Derived.Test.YtbjnoffdafpkgaaL4
namespace Go.Proofs.Ytbjnoffdafpkgaa
open Go.RowKit

def checksB (l : List EvV) (at' want : Int) (N : Nat) : Bool := (checkR (sampleT N) l).1 == at' && (checkR (sampleT N) l).2 == want

set_option maxRecDepth 100000 in
set_option maxHeartbeats 1000000 in
theorem checks_any (a : Option Addr) (c : Nat) (l : List EvV) (at' want : Int) (w : World) (hl : EvsIn w a l) (hlen : l.length ≤ 100000) (hwf : ∀ x, x ∈ l → x.wf) :
    Calls Try.prog 19 #[.int .i64 at', .int .i64 want, .slice a l.length c] w (RetB (checksB l at' want w.heap.size) w) := by
  have HL := Lib.hid hl
  have HWF := Lib.hid hwf
  clear hl hwf
  have HB : Hid (checksB l at' want w.heap.size = ((checkR (sampleT w.heap.size) l).1 == at' && (checkR (sampleT w.heap.size) l).2 == want)) := rfl
  go_enter Try.func19, Try.ntmps19
  go_wp2_with fail
  refine (sample_any w).mono ?_
  rintro e w1 ⟨rfl, hT, hk1⟩
  have HT := Lib.hid hT
  have HK1 := Lib.hid hk1
  clear hT hk1
  go_wp2_with fail
  refine (check_any _ _ a c l w1 HT.out (sample_small _).1 (sample_small _).2 (HL.out.kept HK1.out) hlen HWF.out).mono ?_
  rintro e w2 ⟨i, er, s, rfl, hk2, hend⟩
  obtain ⟨h1, h2, _⟩ := ends_ref (sample_small _).2 HWF.out hend
  have HK2 := Lib.hid (HK1.out.trans hk2)
  rw [← h1, ← h2] at HB
  clear hk2 hend h1 h2
  cases hq : (i == at')
  · rw [hq] at HB
    go_wp2_with fail
    go_ret
    rw [HB.out]
    exact ⟨rfl, HK2.out⟩
  · rw [hq] at HB
    go_wp2_with fail
    go_ret
    refine ⟨?_, HK2.out⟩
    rw [HB.out]
    rfl

theorem evs_of_block {W : World} {b : Nat} {l : List EvV} (h : W.heap[b]? = some (.cells (l.map EvV.cells).flatten.toArray 45 (0, 0))) : EvsIn W (some ⟨b, 0, none⟩) l :=
  .inr ⟨b, 0, rfl, fun j x hx => range_of_block h (fun r hr => by obtain ⟨x, _, rfl⟩ := List.mem_map.1 hr; rfl) (by rw [List.getElem?_map, hx]; rfl)⟩

theorem ints_of_block {W : World} {b c : Nat} {l : List Int} (h : W.heap[b]? = some (.cells (l.map (Value.int .i64)).toArray 3 (0, 0))) (hl : l.length ≤ 9223372036854775807) : IntsAt W (.slice (some ⟨b, 0, none⟩) l.length c) l :=
  .inr ⟨b, 0, c, rfl, hl, fun j hj => by
    rw [cell_of_row _ _ _ _ _ _ h, Nat.zero_add]
    simp [List.getD, hj]⟩

set_option maxHeartbeats 400000 in
theorem ev_any' (w : World) (k a b : Int) : Calls Try.prog 18 #[.int .u8 k, .int .i64 a, .int .i64 b] w fun e w' => e = .returned (.agg #[.int .u8 k, .int .i64 a, .int .i64 b]) ∧ w' = w.alloc (.cells #[.int .u8 k, .int .i64 a, .int .i64 b] 45) := ev_any w k a b

theorem ck1 (N : Nat) : checksB [⟨2, 3, 0⟩, ⟨1, 4, 0⟩, ⟨3, 3, 0⟩, ⟨4, 4, 0⟩, ⟨9, 0, 0⟩] 0 0 N = true := by unfold checksB; rw [(sample_checks N).1]; rfl
theorem ck1w : ∀ x : EvV, x ∈ ([⟨2, 3, 0⟩, ⟨1, 4, 0⟩, ⟨3, 3, 0⟩, ⟨4, 4, 0⟩, ⟨9, 0, 0⟩] : List EvV) → x.wf := by
  intro x hx
  simp only [List.mem_cons, List.not_mem_nil, or_false] at hx
  rcases hx with rfl | rfl | rfl | rfl | rfl <;> exact ⟨by decide, by decide⟩
theorem ck2 (N : Nat) : checksB [⟨2, 3, 0⟩, ⟨1, 4, 0⟩, ⟨4, 4, 0⟩] 2 110 N = true := by unfold checksB; rw [(sample_checks N).2.1]; rfl
theorem ck2w : ∀ x : EvV, x ∈ ([⟨2, 3, 0⟩, ⟨1, 4, 0⟩, ⟨4, 4, 0⟩] : List EvV) → x.wf := by
  intro x hx
  simp only [List.mem_cons, List.not_mem_nil, or_false] at hx
  rcases hx with rfl | rfl | rfl <;> exact ⟨by decide, by decide⟩
theorem ck3 (N : Nat) : checksB [⟨2, 3, 0⟩, ⟨5, 3, 9⟩, ⟨7, 0, 9⟩] 2 110 N = true := by unfold checksB; rw [(sample_checks N).2.2.1]; rfl
theorem ck3w : ∀ x : EvV, x ∈ ([⟨2, 3, 0⟩, ⟨5, 3, 9⟩, ⟨7, 0, 9⟩] : List EvV) → x.wf := by
  intro x hx
  simp only [List.mem_cons, List.not_mem_nil, or_false] at hx
  rcases hx with rfl | rfl | rfl <;> exact ⟨by decide, by decide⟩
theorem ck4 (N : Nat) : checksB [⟨2, 3, 0⟩, ⟨8, 0, 0⟩, ⟨3, 3, 0⟩] 1 110 N = true := by unfold checksB; rw [(sample_checks N).2.2.2.1]; rfl
theorem ck4w : ∀ x : EvV, x ∈ ([⟨2, 3, 0⟩, ⟨8, 0, 0⟩, ⟨3, 3, 0⟩] : List EvV) → x.wf := by
  intro x hx
  simp only [List.mem_cons, List.not_mem_nil, or_false] at hx
  rcases hx with rfl | rfl | rfl <;> exact ⟨by decide, by decide⟩
theorem ck5 (N : Nat) : checksB [⟨9, 0, 0⟩, ⟨1, 6, 0⟩] 1 2 N = true := by unfold checksB; rw [(sample_checks N).2.2.2.2.1]; rfl
theorem ck5w : ∀ x : EvV, x ∈ ([⟨9, 0, 0⟩, ⟨1, 6, 0⟩] : List EvV) → x.wf := by
  intro x hx
  simp only [List.mem_cons, List.not_mem_nil, or_false] at hx
  rcases hx with rfl | rfl <;> exact ⟨by decide, by decide⟩
theorem ck6 (N : Nat) : checksB [⟨4, 3, 0⟩, ⟨1, 3, 0⟩] 1 110 N = true := by unfold checksB; rw [(sample_checks N).2.2.2.2.2.1]; rfl
theorem ck6w : ∀ x : EvV, x ∈ ([⟨4, 3, 0⟩, ⟨1, 3, 0⟩] : List EvV) → x.wf := by
  intro x hx
  simp only [List.mem_cons, List.not_mem_nil, or_false] at hx
  rcases hx with rfl | rfl <;> exact ⟨by decide, by decide⟩

set_option maxRecDepth 100000 in
set_option maxHeartbeats 4000000 in
theorem head_any (w : World) : Calls Try.prog 8 #[] w (RetB true w) := by
  go_enter Try.func8, Try.ntmps8
  go_wp2_with fail
  refine (sample_any w).mono ?_
  rintro e w1 ⟨rfl, hT, hk1⟩
  have HT := Lib.hid hT
  have HK1 := Lib.hid hk1
  clear hT hk1
  have hcells : (sampleV w.heap.size).cells (sampleT w.heap.size) = #[.slice (some ⟨w.heap.size + 2, 0, none⟩) 6 6, .slice (some ⟨w.heap.size + 3, 0, none⟩) 6 6, .slice none 0 0, .slice none 0 0, .slice none 0 0] := rfl
  rw [hcells]
  have HCELLS := Lib.hid hcells
  clear hcells
  go_upto_region 3 with (go_at_call 18; refine (ev_any' _ _ _ _).mono ?_; rintro e w' ⟨rfl, rfl⟩)
  refine wp_gen ?_
  intro w2 hw2
  simp only [Nat.add_assoc, Nat.reduceAdd]
  have hk12 : Kept [] w1 w2 := by
    rw [hw2]
    exact ((((((Kept.alloc _ _ _).trans (Kept.alloc _ _ _)).trans (Kept.alloc _ _ _)).trans (Kept.alloc _ _ _)).trans (Kept.alloc _ _ _)).trans (Kept.alloc _ _ _)).trans (Kept.alloc _ _ _)
  have t2 : w2.heap[w1.heap.size]? = some (.cells #[.slice (some ⟨w.heap.size + 2, 0, none⟩) 6 6, .slice (some ⟨w.heap.size + 3, 0, none⟩) 6 6, .slice none 0 0, .slice none 0 0, .slice none 0 0] 28 (0, 0)) := by
    rw [hw2]
    exact obj_old (obj_old (obj_old (obj_old (obj_old (obj_old (obj_new rfl) (by simp)) (by simp; omega)) (by simp; omega)) (by simp; omega)) (by simp; omega)) (by simp; omega)
  have e2 : w2.heap[w1.heap.size + 6]? = some (.cells (([⟨2, 3, 0⟩, ⟨1, 4, 0⟩, ⟨3, 3, 0⟩, ⟨4, 4, 0⟩, ⟨9, 0, 0⟩] : List EvV).map EvV.cells).flatten.toArray 45 (0, 0)) := by
    rw [hw2]
    exact obj_new (by simp)
  have HK2 := Lib.hid (HK1.out.trans hk12)
  have HT2 := Lib.hid (HT.out.kept (hk12.toBelow (Nat.le_refl _) (by simp)))
  have HTB2 := Lib.hid t2
  have HE2 := Lib.hid e2
  clear hw2 hk12 t2 e2
  go_wp2_with fail
  refine (checks_any (some ⟨w1.heap.size + 6, 0, none⟩) 5 [⟨2, 3, 0⟩, ⟨1, 4, 0⟩, ⟨3, 3, 0⟩, ⟨4, 4, 0⟩, ⟨9, 0, 0⟩] 0 0 w2 (evs_of_block HE2.out) (by decide) ck1w).mono ?_
  rintro e w3 ⟨rfl, hk3⟩
  rw [ck1]
  have HK3 := Lib.hid hk3
  clear hk3
  have HKK3 := Lib.hid HK3.out
  go_wp2_with (go_at_call 18; refine (ev_any' _ _ _ _).mono ?_; rintro e w' ⟨rfl, rfl⟩)
  refine (checks_any (some ⟨w3.heap.size + 3, 0, none⟩) 3 [⟨2, 3, 0⟩, ⟨1, 4, 0⟩, ⟨4, 4, 0⟩] 2 110 _ (evs_of_block (obj_new (by simp))) (by decide) ck2w).mono ?_
  rintro e w4 ⟨rfl, hk4⟩
  rw [ck2]
  have HKK4 : Hid (Kept [] w2 w4) := HKK3.out.trans (((((Kept.alloc _ _ _).trans (Kept.alloc _ _ _)).trans (Kept.alloc _ _ _)).trans (Kept.alloc _ _ _)).trans hk4)
  clear hk4
  go_wp2_with (go_at_call 18; refine (ev_any' _ _ _ _).mono ?_; rintro e w' ⟨rfl, rfl⟩)
  refine (checks_any (some ⟨w4.heap.size + 3, 0, none⟩) 3 [⟨2, 3, 0⟩, ⟨5, 3, 9⟩, ⟨7, 0, 9⟩] 2 110 _ (evs_of_block (obj_new (by simp))) (by decide) ck3w).mono ?_
  rintro e w5 ⟨rfl, hk5⟩
  rw [ck3]
  have HKK5 : Hid (Kept [] w2 w5) := HKK4.out.trans (((((Kept.alloc _ _ _).trans (Kept.alloc _ _ _)).trans (Kept.alloc _ _ _)).trans (Kept.alloc _ _ _)).trans hk5)
  clear hk5
  go_wp2_with (go_at_call 18; refine (ev_any' _ _ _ _).mono ?_; rintro e w' ⟨rfl, rfl⟩)
  refine (checks_any (some ⟨w5.heap.size + 3, 0, none⟩) 3 [⟨2, 3, 0⟩, ⟨8, 0, 0⟩, ⟨3, 3, 0⟩] 1 110 _ (evs_of_block (obj_new (by simp))) (by decide) ck4w).mono ?_
  rintro e w6 ⟨rfl, hk6⟩
  rw [ck4]
  have HKK6 : Hid (Kept [] w2 w6) := HKK5.out.trans (((((Kept.alloc _ _ _).trans (Kept.alloc _ _ _)).trans (Kept.alloc _ _ _)).trans (Kept.alloc _ _ _)).trans hk6)
  clear hk6
  go_wp2_with (go_at_call 18; refine (ev_any' _ _ _ _).mono ?_; rintro e w' ⟨rfl, rfl⟩)
  refine (checks_any (some ⟨w6.heap.size + 2, 0, none⟩) 2 [⟨9, 0, 0⟩, ⟨1, 6, 0⟩] 1 2 _ (evs_of_block (obj_new (by simp))) (by decide) ck5w).mono ?_
  rintro e w7 ⟨rfl, hk7⟩
  rw [ck5]
  have HKK7 : Hid (Kept [] w2 w7) := HKK6.out.trans ((((Kept.alloc _ _ _).trans (Kept.alloc _ _ _)).trans (Kept.alloc _ _ _)).trans hk7)
  clear hk7
  have tb7 := HKK7.out.obj HTB2.out (by simp)
  have r0 := fun j => cell_of_row _ _ j _ _ _ tb7
  have r00 : w7.cell? ⟨w1.heap.size, 0, none⟩ = some (.slice (some ⟨w.heap.size + 2, 0, none⟩) 6 6) := r0 0
  have r01 : w7.cell? ⟨w1.heap.size, 1, none⟩ = some (.slice (some ⟨w.heap.size + 3, 0, none⟩) 6 6) := r0 1
  have r02 : w7.cell? ⟨w1.heap.size, 2, none⟩ = some (.slice none 0 0) := r0 2
  have r03 : w7.cell? ⟨w1.heap.size, 3, none⟩ = some (.slice none 0 0) := r0 3
  have r04 : w7.cell? ⟨w1.heap.size, 4, none⟩ = some (.slice none 0 0) := r0 4
  clear r0 tb7
  have HT7 := Lib.hid (HT2.out.kept (HKK7.out.toBelow (Nat.le_refl _) (by simp)))
  go_wp2_with fail
  rw [← HCELLS.out]
  refine (parts_any w7 _ _ 5 HT7.out (sample_small _).1).mono ?_
  rintro e w8 ⟨pv, rfl, ho8, hb8⟩
  rw [(sample_checks w.heap.size).2.2.2.2.2.2.2] at ho8
  have HO8 := Lib.hid ho8
  have HK78 : Hid (Kept [] w7 w8) := Kept.of_below hb8
  clear ho8 hb8 r00 r01 r02 r03 r04
  go_wp2_with fail
  refine (sameInts_any _ pv _ [1, 4] [1, 4] (IntsAt.of_owns (HO8.out.alloc _)) (ints_of_block (l := [1, 4]) (obj_new rfl) (by decide))).mono ?_
  rintro e w9 ⟨rfl, hk9⟩
  have HKK9 : Hid (Kept [] w2 w9) := (HKK7.out.trans HK78.out).trans ((Kept.alloc _ _ _).trans hk9)
  clear hk9
  rw [show sameI [1, 4] [1, 4] = true from rfl]
  have tb9 := HKK9.out.obj HTB2.out (by simp)
  have r0 := fun j => cell_of_row _ _ j _ _ _ tb9
  have r00 : w9.cell? ⟨w1.heap.size, 0, none⟩ = some (.slice (some ⟨w.heap.size + 2, 0, none⟩) 6 6) := r0 0
  have r01 : w9.cell? ⟨w1.heap.size, 1, none⟩ = some (.slice (some ⟨w.heap.size + 3, 0, none⟩) 6 6) := r0 1
  have r02 : w9.cell? ⟨w1.heap.size, 2, none⟩ = some (.slice none 0 0) := r0 2
  have r03 : w9.cell? ⟨w1.heap.size, 3, none⟩ = some (.slice none 0 0) := r0 3
  have r04 : w9.cell? ⟨w1.heap.size, 4, none⟩ = some (.slice none 0 0) := r0 4
  clear r0 tb9
  have HT9 := Lib.hid (HT2.out.kept (HKK9.out.toBelow (Nat.le_refl _) (by simp)))
  have HE9 := Lib.hid (evs_of_block (HKK9.out.obj HE2.out (by simp)))
  go_wp2_with fail
  rw [← HCELLS.out]
  refine (frozen_any _ _ (some ⟨w1.heap.size + 6, 0, none⟩) 5 [⟨2, 3, 0⟩, ⟨1, 4, 0⟩, ⟨3, 3, 0⟩, ⟨4, 4, 0⟩, ⟨9, 0, 0⟩] w9 HT9.out (sample_small _).1 (sample_small _).2 HE9.out (by decide) ck1w).mono ?_
  rintro e wa ⟨ai, er, sa, hend, fv, rfl, hoa, hba⟩
  rw [(ends_ref (sample_small _).2 ck1w hend).2.2, (sample_checks w.heap.size).2.2.2.2.2.2.1] at hoa
  have HOA := Lib.hid hoa
  have HK9a : Hid (Kept [] w9 wa) := Kept.of_below hba
  clear hoa hba r00 r01 r02 r03 r04 hend
  go_wp2_with fail
  refine (sameInts_any _ fv _ [1, 3, 4] [1, 3, 4] (IntsAt.of_owns (HOA.out.alloc _)) (ints_of_block (l := [1, 3, 4]) (obj_new rfl) (by decide))).mono ?_
  rintro e wb ⟨rfl, hkb⟩
  have HKKb : Hid (Kept [] w2 wb) := (HKK9.out.trans HK9a.out).trans ((Kept.alloc _ _ _).trans hkb)
  clear hkb
  rw [show sameI [1, 3, 4] [1, 3, 4] = true from rfl]
  go_wp2_with (go_at_call 18; refine (ev_any' _ _ _ _).mono ?_; rintro e w' ⟨rfl, rfl⟩)
  refine (checks_any (some ⟨wb.heap.size + 2, 0, none⟩) 2 [⟨4, 3, 0⟩, ⟨1, 3, 0⟩] 1 110 _ (evs_of_block (obj_new (by simp))) (by decide) ck6w).mono ?_
  rintro e wc ⟨rfl, hkc⟩
  rw [ck6]
  have HKKc : Hid (Kept [] w2 wc) := HKKb.out.trans ((((Kept.alloc _ _ _).trans (Kept.alloc _ _ _)).trans (Kept.alloc _ _ _)).trans hkc)
  clear hkc
  go_wp2_with fail
  go_ret
  exact ⟨rfl, HK2.out.trans HKKc.out⟩
#print axioms head_any
end Go.Proofs.Ytbjnoffdafpkgaa
