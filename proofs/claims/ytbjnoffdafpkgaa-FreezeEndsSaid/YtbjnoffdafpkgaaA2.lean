/- The closures of Parts. -/
import Derived.Test.YtbjnoffdafpkgaaA1
import Derived.BigQuiet
import Derived.Deep.QuietTactic
import Derived.Deep.RegionHeld3
import Derived.StillTailTactics
namespace Go.Proofs.Ytbjnoffdafpkgaa
open Go.RowKit

def exI (n : Nat) (x : Int) : Bool := decide (0 ≤ x) && decide (x < n)

set_option maxHeartbeats 400000 in
theorem parts1_any (w : World) (B n c : Nat) (a : Option Addr) (x : Int) (hn : n ≤ 9223372036854775807) (hc : w.cell? ⟨B, 0, none⟩ = some (.slice a n c)) :
    Calls Try.prog 24 #[.int .i64 x, .pointer (some ⟨B, 0, none⟩)] w fun e w' => e = .returned (.bool (exI n x)) ∧ w = w' := by
  by_cases h0 : 0 ≤ x
  · by_cases h1 : x < n
    · have HF : Hid (exI n x = true) := by simp [Hid, exI, h0, h1]
      go_enter Try.func24, Try.ntmps24
      go_wp2
      go_ret
      exact ⟨by rw [HF.out]; rfl, rfl⟩
    · have HF : Hid (exI n x = false) := by simp [Hid, exI, h1]
      go_enter Try.func24, Try.ntmps24
      go_wp2
      go_ret
      exact ⟨by rw [HF.out]; rfl, rfl⟩
  · have HF : Hid (exI n x = false) := by simp [Hid, exI, h0]
    go_enter Try.func24, Try.ntmps24
    go_wp2
    go_ret
    exact ⟨by rw [HF.out]; rfl, rfl⟩
#print axioms parts1_any
end Go.Proofs.Ytbjnoffdafpkgaa
