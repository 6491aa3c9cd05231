/- A slice of int that is read. -/
import Derived.Test.YtbjnoffdafpkgaaRows
import Derived.WalkKit
import Derived.WalkSpells
import Derived.WalkLawsBesides
import Derived.Lib.Hide
namespace Go.Proofs.Ytbjnoffdafpkgaa
open Go.RowKit

def IntsAt (w : World) (v : Value) (xs : List Int) : Prop :=
  (xs = [] ∧ ∃ a c, v = .slice a 0 c) ∨ (∃ b off c, v = .slice (some ⟨b, off, none⟩) xs.length c ∧ xs.length ≤ 9223372036854775807 ∧ ∀ j, j < xs.length → w.cell? ⟨b, off + j, none⟩ = some (.int .i64 (xs.getD j 0)))

def hasI (xs : List Int) (n : Int) : Bool := xs.contains n

theorem contains_take_succ (xs : List Int) (k : Nat) (n : Int) (h : k < xs.length) : hasI (xs.take (k + 1)) n = (hasI (xs.take k) n || (xs.getD k 0 == n)) := by
  unfold hasI
  rw [List.take_succ_eq_append_getElem h, Bool.eq_iff_iff]
  simp only [List.contains_iff_mem, List.mem_append, List.mem_singleton, Bool.or_eq_true, beq_iff_eq, List.getD, List.getElem?_eq_getElem h, Option.getD_some]
  exact or_congr_right eq_comm

theorem contains_take_all (xs : List Int) (k : Nat) (n : Int) (h : hasI (xs.take k) n = true) : hasI xs n = true := by
  unfold hasI at *
  rw [List.contains_iff_mem] at *
  exact List.mem_of_mem_take h

set_option maxHeartbeats 400000 in
theorem in_any (w : World) (v : Value) (xs : List Int) (n : Int) (hv : IntsAt w v xs) :
    Calls Try.prog 16 #[v, .int .i64 n] w fun e w' => e = .returned (.bool (hasI xs n)) ∧ w = w' := by
  rcases hv with ⟨rfl, a, c, rfl⟩ | ⟨b, off, c, rfl, hm, hc⟩
  · go_enter Try.func16, Try.ntmps16
    go_wp2
    go_loop [5] (fun i => i = .int .i64 0) (fun _ => 0)
    case atStart => rfl
    case round =>
      subst hrel
      go_wp2
      go_ret
      exact ⟨rfl, rfl⟩
  · go_enter Try.func16, Try.ntmps16
    go_wp2
    go_loop [5] (fun i => ∃ k : Nat, k ≤ xs.length ∧ i = .int .i64 k ∧ hasI (xs.take k) n = false) (fun i => xs.length - (intOf i).toNat)
    case atStart => exact ⟨0, Nat.zero_le _, rfl, rfl⟩
    case round =>
      obtain ⟨k, hk, rfl, hno⟩ := hrel
      by_cases hlt : k < xs.length
      · have hcell := hc k hlt
        have HT := Lib.hid (contains_take_succ xs k n hlt)
        have HN := Lib.hid hno
        clear hno hc
        generalize xs.getD k 0 = x at *
        cases hx : (x == n)
        · have HF : Hid (hasI (xs.take (k + 1)) n = false) := by rw [Hid, HT.out, HN.out, hx]; rfl
          go_wp2
          go_round
          case rel => exact ⟨k + 1, by omega, by go_num, HF.out⟩
          case measure => simp [intOf]; omega
        · have HF : Hid (hasI xs n = true) := contains_take_all xs (k + 1) n (by rw [HT.out, HN.out, hx]; rfl)
          go_wp2
          go_ret
          exact ⟨by rw [HF.out]; rfl, rfl⟩
      · have HF : Hid (hasI xs n = false) := by rw [Hid, ← hno, List.take_of_length_le (by omega)]
        clear hno
        go_wp2
        go_ret
        exact ⟨by rw [HF.out]; rfl, rfl⟩
#print axioms in_any
end Go.Proofs.Ytbjnoffdafpkgaa
