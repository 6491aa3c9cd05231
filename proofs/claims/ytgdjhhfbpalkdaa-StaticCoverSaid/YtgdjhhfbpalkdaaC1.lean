/- The comparison of bounds. What a sort of bounds leaves. -/
import Derived.Test.YtgdjhhfbpalkdaaV18
namespace Go.Proofs.Ytgdjhhfbpalkdaa
open Go.RowKit Go.Sort
set_option maxRecDepth 100000 in
set_option maxHeartbeats 1000000 in
theorem nanX (w : World) (a : Int) : Calls Try.prog 47 #[.int .i64 a] w (fun e w' => e = .returned (.bool false) ∧ w' = w) := by
  go_enter Try.func47, Try.ntmps47
  go_wp2_with fail
  exact bodyPost_ret (res1 Try.results47 (resT rfl)) rfl ⟨rfl, rfl⟩
set_option maxRecDepth 100000 in
set_option maxHeartbeats 1000000 in
theorem cmpX (w : World) (a b : Int) : Calls Try.prog 32 #[.int .i64 a, .int .i64 b] w (fun e w' => e = .returned (.int .i64 (cmpP a b)) ∧ w' = w) := by
  have HZ : Hid (cmpP a b = if a < b then -1 else if b < a then 1 else 0) := rfl
  generalize cmpP a b = z at *
  by_cases c1 : a < b
  · have HW : Hid (z = -1) := by rw [Hid, HZ.out, if_pos c1]
    clear HZ
    go_enter Try.func32, Try.ntmps32
    go_wp2_with fail
    refine (nanX _ _).mono ?_
    rintro e w' ⟨rfl, hw⟩
    subst hw
    go_wp2_with fail
    refine (nanX _ _).mono ?_
    rintro e w' ⟨rfl, hw⟩
    subst hw
    go_wp2_with fail
    rw [HW.out]
    exact bodyPost_ret (res1 Try.results32 (resT rfl)) rfl ⟨rfl, rfl⟩
  by_cases c2 : b < a
  · have HW : Hid (z = 1) := by rw [Hid, HZ.out, if_neg c1, if_pos c2]
    have c3 : decide (a < b) = false := by simp; omega
    clear HZ c1
    go_enter Try.func32, Try.ntmps32
    go_wp2_with fail
    refine (nanX _ _).mono ?_
    rintro e w' ⟨rfl, hw⟩
    subst hw
    go_wp2_with fail
    refine (nanX _ _).mono ?_
    rintro e w' ⟨rfl, hw⟩
    subst hw
    go_wp2_with fail
    rw [HW.out]
    exact bodyPost_ret (res1 Try.results32 (resT rfl)) rfl ⟨rfl, rfl⟩
  · have HW : Hid (z = 0) := by rw [Hid, HZ.out, if_neg c1, if_neg c2]
    have c3 : decide (a < b) = false := by simp; omega
    have c4 : decide (b < a) = false := by simp; omega
    clear HZ c1 c2
    go_enter Try.func32, Try.ntmps32
    go_wp2_with fail
    refine (nanX _ _).mono ?_
    rintro e w' ⟨rfl, hw⟩
    subst hw
    go_wp2_with fail
    refine (nanX _ _).mono ?_
    rintro e w' ⟨rfl, hw⟩
    subst hw
    go_wp2_with fail
    rw [HW.out]
    exact bodyPost_ret (res1 Try.results32 (resT rfl)) rfl ⟨rfl, rfl⟩
theorem grow_two (w : World) (a b : Obj) : (w.alloc a).alloc b = grow (w.drewN 0) #[a, b] := by
  show (w.alloc a).alloc b = grow w #[a, b]
  rw [alloc_eq_grow, alloc_eq_grow, grow_grow]
  rfl
set_option maxRecDepth 100000 in
set_option maxHeartbeats 1000000 in
theorem less_any (w : World) (a b : Bd) : Calls Try.prog 31 #[.agg #[.int .i64 a.1, .int .i64 a.2], .agg #[.int .i64 b.1, .int .i64 b.2]] w (fun e w' => e = .returned (.int .i64 (cmpP a.1 b.1)) ∧ ∃ q os', w' = grow (w.drewN q) os') := by
  go_enter Try.func31, Try.ntmps31
  go_wp2_with fail
  refine (cmpX _ _ _).mono ?_
  rintro e w' ⟨rfl, hw⟩
  subst hw
  go_wp2_with fail
  refine bodyPost_ret (res1 Try.results31 (resT rfl)) rfl ⟨rfl, 0, #[.cells #[.int .i64 a.1, .int .i64 a.2] 55, .cells #[.int .i64 b.1, .int .i64 b.2] 55], ?_⟩
  exact grow_two _ _ _
end Go.Proofs.Ytgdjhhfbpalkdaa
namespace Go.Proofs.Ytgdjhhfbpalkdaa
open Go.RowKit Go.Sort
/-- What the sort leaves. -/
def RetSort (A : Option Addr) (base : Nat) (l : List Bd) (w : World) (e : Ending) (w' : World) : Prop :=
  e = .returned (.tuple #[]) ∧ ∃ s : List Bd, s.Perm l ∧ s.Pairwise (fun a b => a.1 ≤ b.1) ∧ RowsAt Bd 2 bdC w' A s ∧ ∀ W, Kept [] W w → W.heap.size ≤ base → Kept [] W w'
def SortAll : Prop := ∀ (w : World) (A : Option Addr) (c n base : Nat) (l : List Bd), w.ownsRow base 55 2 (.slice A n c) n (bdsC l) → l.length = n → n ≤ 1000000 →
    Calls Try.prog 30 #[.slice A n c, .func (.func 31) #[] #[]] w (RetSort A base l w)
end Go.Proofs.Ytgdjhhfbpalkdaa
