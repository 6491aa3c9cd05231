/- The events: constants. -/
import Derived.Test.YtbjnoffdafpkgaaG2
namespace Go.Proofs.Ytbjnoffdafpkgaa
open Go.RowKit

set_option maxRecDepth 100000 in
set_option maxHeartbeats 1000000 in
theorem deferred_any (v : TabV) (t : Tab) (B S dB cB fB kB n : Nat) (s : PS) (x : EvV) (w : World) (hE : SAt v t B S dB cB fB kB n s w) (hx : x.wf) (hn : n ≤ 1000000000) :
    Calls Try.prog 38 #[.pointer (some ⟨S, 0, none⟩), x.val] w (EPost v t B S dB cB fB kB n (deferredF s x) w) := by
  have hwx := hx.2
  have hk1 : Kept [] w (w.alloc (.cells #[.int .u8 x.kind, .int .i64 x.ty, .int .i64 x.num] 45)) := Kept.alloc _ _ _
  have HE1 := Lib.hid (hE.kept hk1)
  have HK1 := Lib.hid hk1
  clear hE hk1 hx
  unfold EvV.val
  go_enter Try.func38, Try.ntmps38
  go_upto_region 1 with (fail)
  refine wp_gen ?_
  intro w1 hw1
  rw [← hw1] at HE1 HK1
  have c0 : w1.cell? ⟨w.heap.size, 1, none⟩ = some (.int .i64 x.ty) := by rw [hw1]; go_simp
  have c00 : w1.cell? ⟨w.heap.size, 2, none⟩ = some (.int .i64 x.num) := by rw [hw1]; go_simp
  clear hw1
  have c1 := HE1.out.st.con
  have hlk : ∀ W : World, W.heap[kB]? = w1.heap[kB]? → (Instr.lookup 65 (.map (some kB)) (.int .i64 x.num) true).run Try.prog W = .ok (.tuple #[encC ((s.con x.num).getD (0, false)), .bool (s.con x.num).isSome]) W := fun W hW => cm_look (HE1.out.cons.block hW) hwx
  simp only [encC] at hlk
  have hkl := HE1.out.cons.lt
  have l1 := hlk w1.drew rfl
  have l2 := fun o => hlk (w1.alloc o).drew (Below.heap_alloc _ _ _ hkl)
  clear hlk
  have z1 : w.heap.size < w1.heap.size := World.block_lt_of_cell? w1 _ c0
  have z2 : S < w1.heap.size := World.block_lt_of_cell? w1 _ c1
  obtain ⟨ca, cb, hcd⟩ : ∃ ca cb, (s.con x.num).getD (0, false) = (ca, cb) := ⟨_, _, rfl⟩
  rw [hcd] at l1 l2
  have HCD := Lib.hid hcd
  clear hcd
  cases hc : (s.con x.num).isSome
  · have HX : Hid (deferredF s x = (true, { s with con := updM s.con x.num (x.ty, false) })) := by simp [Hid, deferredF, hc]
    simp only [hc] at l1 l2
    clear hc
    go_region
    go_upto_region 4 with (fail)
    refine wp_gen ?_
    intro w2 hw2
    have hk12 : Kept [] w1 w2 := by rw [hw2]; exact (Kept.alloc _ _ _).trans (Kept.drew _ _)
    have c3 := hk12.cell c0 (by simp)
    have c30 := hk12.cell c00 (by simp)
    have d0 : w2.cell? ⟨w1.heap.size, 0, none⟩ = some (.int .i64 ca) := by rw [hw2]; go_simp
    have d1 : w2.cell? ⟨w1.heap.size, 1, none⟩ = some (.bool cb) := by rw [hw2]; go_simp
    have HE2 := Lib.hid (HE1.out.kept hk12)
    have HK2 := Lib.hid (HK1.out.trans hk12)
    clear hw2 hk12 c0 c00 c1 l1 l2
    have c2 := HE2.out.st.con
    obtain ⟨w3, hup, hm3, hg3, hz3⟩ := cm_update (w := w2.drew) (HE2.out.cons.block rfl) (by unfold maxLen; omega) hwx (x.ty, false)
    simp only [encC] at hup
    have HE3 := Lib.hid ((HE2.out.kept (Kept.drew _ _)).setCon hg3 hm3 (by omega))
    have HK3 : Hid (Kept [kB] w w3) := ((HK2.out.mono (by simp)).trans (Kept.drew _ _)).trans (Kept.of_grown hg3 (fun q hq _ => by injection hq with hq; simp [hq]))
    clear hm3 hg3 hz3
    go_still_tail 9, (by kernel_rfl)
    change wpList _ _ _ _ _ w2.drew
    go_wp2_with fail
    go_ret
    rw [HX.out]
    exact EPost.of HE3.out (by omega) HK3.out (by simp)
  · have HX : Hid (deferredF s x = (false, s)) := by simp [Hid, deferredF, hc]
    simp only [hc] at l1 l2
    clear hc
    go_region
    go_wp2_with fail
    go_ret
    rw [HX.out]
    exact EPost.of (HE1.out.kept ((Kept.alloc _ _ _).trans (Kept.drew _ _))) (by omega) (HK1.out.trans ((Kept.alloc _ _ _).trans (Kept.drew _ _))) (by simp)

def useF (s : PS) (x : EvV) : Bool × PS := (!(s.con x.num).isSome || ((s.con x.num).getD (0, false)).2, s)

set_option maxRecDepth 100000 in
set_option maxHeartbeats 1000000 in
theorem use_any (v : TabV) (t : Tab) (B S dB cB fB kB n : Nat) (s : PS) (x : EvV) (w : World) (hE : SAt v t B S dB cB fB kB n s w) (hx : x.wf) (hn : n ≤ 1000000000) :
    Calls Try.prog 40 #[.pointer (some ⟨S, 0, none⟩), x.val] w (EPost v t B S dB cB fB kB n (useF s x) w) := by
  have hwx := hx.2
  have hk1 : Kept [] w (w.alloc (.cells #[.int .u8 x.kind, .int .i64 x.ty, .int .i64 x.num] 45)) := Kept.alloc _ _ _
  have HE1 := Lib.hid (hE.kept hk1)
  have HK1 := Lib.hid hk1
  clear hE hk1 hx
  unfold EvV.val
  go_enter Try.func40, Try.ntmps40
  go_upto_region 1 with (fail)
  refine wp_gen ?_
  intro w1 hw1
  rw [← hw1] at HE1 HK1
  have c0 : w1.cell? ⟨w.heap.size, 1, none⟩ = some (.int .i64 x.ty) := by rw [hw1]; go_simp
  have c00 : w1.cell? ⟨w.heap.size, 2, none⟩ = some (.int .i64 x.num) := by rw [hw1]; go_simp
  clear hw1
  have c1 := HE1.out.st.con
  have hlk : ∀ W : World, W.heap[kB]? = w1.heap[kB]? → (Instr.lookup 65 (.map (some kB)) (.int .i64 x.num) true).run Try.prog W = .ok (.tuple #[encC ((s.con x.num).getD (0, false)), .bool (s.con x.num).isSome]) W := fun W hW => cm_look (HE1.out.cons.block hW) hwx
  simp only [encC] at hlk
  have hkl := HE1.out.cons.lt
  have l1 := hlk w1.drew rfl
  have l2 := fun o => hlk (w1.alloc o).drew (Below.heap_alloc _ _ _ hkl)
  clear hlk
  have z1 : w.heap.size < w1.heap.size := World.block_lt_of_cell? w1 _ c0
  have z2 : S < w1.heap.size := World.block_lt_of_cell? w1 _ c1
  obtain ⟨ca, cb, hcd⟩ : ∃ ca cb, (s.con x.num).getD (0, false) = (ca, cb) := ⟨_, _, rfl⟩
  rw [hcd] at l1 l2
  have HCD := Lib.hid hcd
  clear hcd
  cases hc : (s.con x.num).isSome
  · have HX : Hid (useF s x = (true, s)) := by simp [Hid, useF, hc]
    simp only [hc] at l1 l2
    clear hc
    go_region
    go_wp2_with fail
    go_ret
    rw [HX.out]
    exact EPost.of (HE1.out.kept ((Kept.alloc _ _ _).trans (Kept.drew _ _))) (by omega) (HK1.out.trans ((Kept.alloc _ _ _).trans (Kept.drew _ _))) (by simp)
  · have HX : Hid (useF s x = (cb, s)) := by simp [Hid, useF, hc, HCD.out]
    simp only [hc] at l1 l2
    clear hc
    go_region
    go_upto_region 2 with (fail)
    refine wp_gen ?_
    intro w2 hw2
    have hk12 : Kept [] w1 w2 := by rw [hw2]; exact (Kept.alloc _ _ _).trans (Kept.drew _ _)
    have c3 := hk12.cell c0 (by simp)
    have c30 := hk12.cell c00 (by simp)
    have d0 : w2.cell? ⟨w1.heap.size, 0, none⟩ = some (.int .i64 ca) := by rw [hw2]; go_simp
    have d1 : w2.cell? ⟨w1.heap.size, 1, none⟩ = some (.bool cb) := by rw [hw2]; go_simp
    have HE2 := Lib.hid (HE1.out.kept hk12)
    have HK2 := Lib.hid (HK1.out.trans hk12)
    clear hw2 hk12 c0 c00 c1 l1 l2
    go_wp2_with fail
    go_ret
    rw [HX.out]
    exact EPost.of HE2.out (by omega) HK2.out (by simp)

def completedF (t : Tab) (s : PS) (x : EvV) : Bool × PS :=
  if !(s.con x.num).isSome || ((s.con x.num).getD (0, false)).2 then (false, s)
  else if (meetAll t (okM s.dec s.com) [((s.con x.num).getD (0, false)).1]).2 then
    (true, { s with frz := frzF s.frz (meetAll t (okM s.dec s.com) [((s.con x.num).getD (0, false)).1]), con := updM s.con x.num (((s.con x.num).getD (0, false)).1, true) })
  else (false, { s with frz := frzF s.frz (meetAll t (okM s.dec s.com) [((s.con x.num).getD (0, false)).1]) })

set_option maxRecDepth 100000 in
set_option maxHeartbeats 1000000 in
theorem completed_any (v : TabV) (t : Tab) (B S dB cB fB kB n : Nat) (s : PS) (x : EvV) (w : World) (hE : SAt v t B S dB cB fB kB n s w) (hx : x.wf) (hn : n ≤ 1000000000) (hcon : ∀ y c, s.con y = some c → exI t.types.length c.1 = true) :
    Calls Try.prog 39 #[.pointer (some ⟨S, 0, none⟩), x.val] w (EPost v t B S dB cB fB kB n (completedF t s x) w) := by
  have hwx := hx.2
  have hk1 : Kept [] w (w.alloc (.cells #[.int .u8 x.kind, .int .i64 x.ty, .int .i64 x.num] 45)) := Kept.alloc _ _ _
  have HE1 := Lib.hid (hE.kept hk1)
  have HK1 := Lib.hid hk1
  clear hE hk1 hx
  unfold EvV.val
  go_enter Try.func39, Try.ntmps39
  go_upto_region 1 with (fail)
  refine wp_gen ?_
  intro w1 hw1
  rw [← hw1] at HE1 HK1
  have c0 : w1.cell? ⟨w.heap.size, 1, none⟩ = some (.int .i64 x.ty) := by rw [hw1]; go_simp
  have c00 : w1.cell? ⟨w.heap.size, 2, none⟩ = some (.int .i64 x.num) := by rw [hw1]; go_simp
  clear hw1
  have c1 := HE1.out.st.con
  have hlk : ∀ W : World, W.heap[kB]? = w1.heap[kB]? → (Instr.lookup 65 (.map (some kB)) (.int .i64 x.num) true).run Try.prog W = .ok (.tuple #[encC ((s.con x.num).getD (0, false)), .bool (s.con x.num).isSome]) W := fun W hW => cm_look (HE1.out.cons.block hW) hwx
  simp only [encC] at hlk
  have hkl := HE1.out.cons.lt
  have l1 := hlk w1.drew rfl
  have l2 := fun o => hlk (w1.alloc o).drew (Below.heap_alloc _ _ _ hkl)
  clear hlk
  have z1 : w.heap.size < w1.heap.size := World.block_lt_of_cell? w1 _ c0
  have z2 : S < w1.heap.size := World.block_lt_of_cell? w1 _ c1
  obtain ⟨ca, cb, hcd⟩ : ∃ ca cb, (s.con x.num).getD (0, false) = (ca, cb) := ⟨_, _, rfl⟩
  rw [hcd] at l1 l2
  have HCD := Lib.hid hcd
  clear hcd
  have HCON := Lib.hid hcon
  clear hcon
  cases hc : (s.con x.num).isSome
  · have HX : Hid (completedF t s x = (false, s)) := by simp [Hid, completedF, hc]
    simp only [hc] at l1 l2
    clear hc
    go_region
    go_wp2_with fail
    go_ret
    rw [HX.out]
    exact EPost.of (HE1.out.kept ((Kept.alloc _ _ _).trans (Kept.drew _ _))) (by omega) (HK1.out.trans ((Kept.alloc _ _ _).trans (Kept.drew _ _))) (by simp)
  · have HEX : Hid (exI t.types.length ca = true) := by
      cases hq : s.con x.num with
      | none => rw [hq] at hc; cases hc
      | some c =>
        have h1 := HCON.out _ _ hq
        have h2 := HCD.out
        rw [hq] at h2
        simp at h2
        rw [h2] at h1
        exact h1
    have HSOME := Lib.hid hc
    simp only [hc] at l1 l2
    clear hc
    go_region
    go_upto_region 2 with (fail)
    refine wp_gen ?_
    intro w2 hw2
    have hk12 : Kept [] w1 w2 := by rw [hw2]; exact (Kept.alloc _ _ _).trans (Kept.drew _ _)
    have c3 := hk12.cell c0 (by simp)
    have c30 := hk12.cell c00 (by simp)
    have d0 : w2.cell? ⟨w1.heap.size, 0, none⟩ = some (.int .i64 ca) := by rw [hw2]; go_simp
    have d1 : w2.cell? ⟨w1.heap.size, 1, none⟩ = some (.bool cb) := by rw [hw2]; go_simp
    have HE2 := Lib.hid (HE1.out.kept hk12)
    have HK2 := Lib.hid (HK1.out.trans hk12)
    clear hw2 hk12 c0 c00 c1 l1 l2
    cases cb
    · go_wp2_with fail
      have hk3 : Kept [] w2 (w2.alloc (.cells #[.int .i64 ca] 3)) := Kept.alloc _ _ _
      have HE3 := Lib.hid (HE2.out.kept hk3)
      refine (freeze_any v t B S dB cB fB kB n n n s.dec s.com s.frz _ _ [ca] HE3.out.env (IntsAt.one ?_) (fun y hy => by simp at hy; subst hy; exact HEX.out) hn).mono ?_
      · go_simp
      rintro e w4 ⟨rfl, hf4, hk4⟩
      have hlen := meetAll_len (t := t) (ok := okM s.dec s.com) (ls := [ca]) (fun y hy => by simp at hy; subst hy; exact HEX.out) HE2.out.num
      have HE4 := Lib.hid (HE3.out.setFrz hk4 hf4 (by omega))
      have hk24 : Kept [fB] w2 w4 := (hk3.mono (by simp)).trans hk4
      have c4 := hk24.cell c30 (by have := cell_not_map c30 HE2.out.froz; simpa using this)
      have d4 := hk24.cell d0 (by have := cell_not_map d0 HE2.out.froz; simpa using this)
      have HK4 : Hid (Kept [fB] w w4) := (HK2.out.mono (by simp)).trans hk24
      clear hk3 hk24 hf4 hk4 c3 c30 d0 d1
      cases hr : (meetAll t (okM s.dec s.com) [ca]).2
      · have HX : Hid (completedF t s x = (false, { s with frz := frzF s.frz (meetAll t (okM s.dec s.com) [ca]) })) := by simp [Hid, completedF, HSOME.out, HCD.out, hr]
        clear hr
        go_wp2_with fail
        go_ret
        rw [HX.out]
        exact EPost.of HE4.out (by omega) HK4.out (by simp)
      · have HX : Hid (completedF t s x = (true, { s with frz := frzF s.frz (meetAll t (okM s.dec s.com) [ca]), con := updM s.con x.num (ca, true) })) := by simp [Hid, completedF, HSOME.out, HCD.out, hr]
        clear hr
        have c5 := HE4.out.st.con
        obtain ⟨w5, hup, hm5, hg5, hz5⟩ := cm_update (w := w4.drew) (HE4.out.cons.block rfl) (by unfold maxLen; omega) hwx (ca, true)
        simp only [encC] at hup
        have HE5 := Lib.hid ((HE4.out.kept (Kept.drew _ _)).setCon hg5 hm5 (by omega))
        have HK5 : Hid (Kept [fB, kB] w w5) := ((HK4.out.mono (by simp)).trans (Kept.drew _ _)).trans (Kept.of_grown hg5 (fun q hq _ => by injection hq with hq; simp [hq]))
        clear hm5 hg5 hz5
        go_upto_region 4 with (fail)
        go_still_tail 9, (by kernel_rfl)
        change wpList _ _ _ _ _ w4.drew
        go_wp2_with fail
        go_ret
        rw [HX.out]
        exact EPost.of HE5.out (by omega) HK5.out (by simp)
    · have HX : Hid (completedF t s x = (false, s)) := by simp [Hid, completedF, HCD.out]
      go_wp2_with fail
      go_ret
      rw [HX.out]
      exact EPost.of HE2.out (by omega) HK2.out (by simp)
#print axioms deferred_any
#print axioms use_any
#print axioms completed_any
end Go.Proofs.Ytbjnoffdafpkgaa
