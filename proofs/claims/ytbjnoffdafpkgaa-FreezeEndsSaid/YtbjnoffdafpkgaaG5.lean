/- Which events exist; the state at first. -/
import Derived.Test.YtbjnoffdafpkgaaG4
namespace Go.Proofs.Ytbjnoffdafpkgaa
open Go.RowKit

/-- Does an event exist? -/
def existsF (n : Nat) (x : EvV) : Bool :=
  if x.kind == 1 || x.kind == 2 || x.kind == 3 || x.kind == 4 then exI n x.ty
  else if x.kind == 5 then exI n x.ty && decide (0 ≤ x.num)
  else if x.kind == 6 || x.kind == 7 then decide (0 ≤ x.num)
  else (x.kind == 8 || x.kind == 9)

def RetB (b : Bool) (w : World) (e : Ending) (w' : World) : Prop := e = .returned (.bool b) ∧ Kept [] w w'

set_option maxRecDepth 100000 in
set_option maxHeartbeats 1000000 in
theorem exists_any (S n tc : Nat) (ta : Option Addr) (x : EvV) (w : World) (hS : w.cell? ⟨S, 0, none⟩ = some (.slice ta n tc)) (hn : n ≤ 9223372036854775807) :
    Calls Try.prog 34 #[.pointer (some ⟨S, 0, none⟩), x.val] w (RetB (existsF n x) w) := by
  unfold EvV.val
  have hk1 : Kept [] w (w.alloc (.cells #[.int .u8 x.kind, .int .i64 x.ty, .int .i64 x.num] 45)) := Kept.alloc _ _ _
  have HK1 := Lib.hid hk1
  clear hk1
  go_enter Try.func34, Try.ntmps34
  go_upto_region 1 with (fail)
  refine wp_gen ?_
  intro w1 hw1
  rw [← hw1] at HK1
  have c0 : w1.cell? ⟨w.heap.size, 0, none⟩ = some (.int .u8 x.kind) := by rw [hw1]; go_simp
  have c1 : w1.cell? ⟨w.heap.size, 1, none⟩ = some (.int .i64 x.ty) := by rw [hw1]; go_simp
  have c2 : w1.cell? ⟨w.heap.size, 2, none⟩ = some (.int .i64 x.num) := by rw [hw1]; go_simp
  have c3 : w1.cell? ⟨S, 0, none⟩ = some (.slice ta n tc) := HK1.out.cell hS (by simp)
  clear hw1 hS
  go_cut [5] (fun s5 wc => s5 = .bool (exI n x.ty) ∧ ∃ q, wc = w1.drewN q)
  case first =>
    by_cases h0 : 0 ≤ x.ty
    · by_cases h1 : x.ty < n
      · have HF : Hid (exI n x.ty = true) := by simp [Hid, exI, h0, h1]
        go_quiet (fail)
        go_wp2_with fail
        go_meet
        exact ⟨by rw [HF.out], _, rfl⟩
      · have HF : Hid (exI n x.ty = false) := by simp [Hid, exI, h1]
        go_quiet (fail)
        go_wp2_with fail
        go_meet
        exact ⟨by rw [HF.out], _, rfl⟩
    · have HF : Hid (exI n x.ty = false) := by simp [Hid, exI, h0]
      have hd : decide (0 ≤ x.ty) = false := by simpa using h0
      go_quiet (fail)
      go_wp2_with fail
      go_meet
      exact ⟨by rw [HF.out], _, rfl⟩
  case rest =>
    obtain ⟨rfl, q, rfl⟩ := hcut
    have HFIN : ∀ b, existsF n x = b → Hid (RetB (existsF n x) w (.returned (.bool b)) (w1.drewN q)) := fun b hb => ⟨by rw [hb], HK1.out.trans (Kept.drewN _ _ _)⟩
    have HFIN' := Lib.hid HFIN
    clear HFIN
    have HEX : Hid (existsF n x = if x.kind == 1 || x.kind == 2 || x.kind == 3 || x.kind == 4 then exI n x.ty else if x.kind == 5 then exI n x.ty && decide (0 ≤ x.num) else if x.kind == 6 || x.kind == 7 then decide (0 ≤ x.num) else (x.kind == 8 || x.kind == 9)) := rfl
    generalize existsF n x = ex at *
    generalize exI n x.ty = ty at *
    cases h1 : (x.kind == 1)
    · cases h2 : (x.kind == 2)
      · cases h3 : (x.kind == 3)
        · cases h4 : (x.kind == 4)
          · cases h5 : (x.kind == 5)
            · cases h6 : (x.kind == 6)
              · cases h7 : (x.kind == 7)
                · cases h8 : (x.kind == 8)
                  · cases h9 : (x.kind == 9)
                    · have HF : Hid (ex = false) := by rw [Hid, HEX.out, h1, h2, h3, h4, h5, h6, h7, h8, h9]; rfl
                      go_wp2_with fail
                      go_ret
                      exact (HFIN'.out _ HF.out).out
                    · have HF : Hid (ex = true) := by rw [Hid, HEX.out, h1, h2, h3, h4, h5, h6, h7, h8, h9]; rfl
                      go_wp2_with fail
                      go_ret
                      exact (HFIN'.out _ HF.out).out
                  · have HF : Hid (ex = true) := by rw [Hid, HEX.out, h1, h2, h3, h4, h5, h6, h7, h8]; rfl
                    go_wp2_with fail
                    go_ret
                    exact (HFIN'.out _ HF.out).out
                · have HF : Hid (ex = decide (0 ≤ x.num)) := by rw [Hid, HEX.out, h1, h2, h3, h4, h5, h6, h7]; rfl
                  go_wp2_with fail
                  go_ret
                  exact (HFIN'.out _ HF.out).out
              · have HF : Hid (ex = decide (0 ≤ x.num)) := by rw [Hid, HEX.out, h1, h2, h3, h4, h5, h6]; rfl
                go_wp2_with fail
                go_ret
                exact (HFIN'.out _ HF.out).out
            · cases ty
              · have HF : Hid (ex = false) := by rw [Hid, HEX.out, h1, h2, h3, h4, h5]; rfl
                go_wp2_with fail
                go_ret
                exact (HFIN'.out _ HF.out).out
              · have HF : Hid (ex = decide (0 ≤ x.num)) := by rw [Hid, HEX.out, h1, h2, h3, h4, h5]; rfl
                go_wp2_with fail
                go_ret
                exact (HFIN'.out _ HF.out).out
          · have HF : Hid (ex = ty) := by rw [Hid, HEX.out, h1, h2, h3, h4]; rfl
            go_wp2_with fail
            go_ret
            exact (HFIN'.out _ HF.out).out
        · have HF : Hid (ex = ty) := by rw [Hid, HEX.out, h1, h2, h3]; rfl
          go_wp2_with fail
          go_ret
          exact (HFIN'.out _ HF.out).out
      · have HF : Hid (ex = ty) := by rw [Hid, HEX.out, h1, h2]; rfl
        go_wp2_with fail
        go_ret
        exact (HFIN'.out _ HF.out).out
    · have HF : Hid (ex = ty) := by rw [Hid, HEX.out, h1]; rfl
      go_wp2_with fail
      go_ret
      exact (HFIN'.out _ HF.out).out
#print axioms exists_any
end Go.Proofs.Ytbjnoffdafpkgaa
