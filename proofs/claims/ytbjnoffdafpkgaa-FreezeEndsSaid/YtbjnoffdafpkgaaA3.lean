/- The closures of Parts. -/
import Derived.Test.YtbjnoffdafpkgaaA2
import Derived.OwnWalk
namespace Go.Proofs.Ytbjnoffdafpkgaa
open Go.RowKit

theorem Try.info3 : (Try.prog.info? 3).map (fun i => (i.zero, i.size, i.bytes)) = some (some (.int .i64 0), 1, 8) := by kernel_rfl

/-- Below block B all but block L is as it was. -/
structure But (B L : Nat) (w w' : World) : Prop where
  os : w'.os = w.os
  tape : w'.tape = w.tape
  output : w'.output = w.output
  size : w.heap.size ≤ w'.heap.size
  block : ∀ k, k < B → k ≠ L → w'.heap[k]? = w.heap[k]?

theorem But.refl (B L : Nat) (w : World) : But B L w w := ⟨rfl, rfl, rfl, Nat.le_refl _, fun _ _ _ => rfl⟩
theorem But.trans {B L : Nat} {a b c : World} (h : But B L a b) (k : But B L b c) : But B L a c :=
  ⟨k.os.trans h.os, k.tape.trans h.tape, k.output.trans h.output, Nat.le_trans h.size k.size, fun i hi hl => (k.block i hi hl).trans (h.block i hi hl)⟩
theorem But.cell {B L : Nat} {w w' : World} (h : But B L w w') {p : Addr} (hp : p.block < B) (hl : p.block ≠ L) : w'.cell? p = w.cell? p := World.cell?_of_block (h.block _ hp hl)
theorem But.below {B L : Nat} {w w' : World} (h : But B L w w') : Below L w w' → True := fun _ => trivial

/-- A variable in block L that holds a slice of the call's own. -/
def PList (w : World) (base L : Nat) (xs : List Int) : Prop :=
  ∃ lv, w.heap[L]? = some (.cells #[lv] 38 (0, 0)) ∧ w.ownsRow base 3 1 lv xs.length (xs.map (Value.int .i64)) ∧ L < base ∧ base ≤ w.heap.size ∧ xs.length ≤ 1099511627776

def Fits (base L n : Nat) (ty : Int) (w : World) (B E T : Nat) (xs : List Int) : Prop :=
  ∃ a c, w.cell? ⟨B, 0, none⟩ = some (.slice a n c) ∧ w.cell? ⟨E, 0, none⟩ = some (.func (.func 24) #[] #[.pointer (some ⟨B, 0, none⟩)]) ∧ w.cell? ⟨T, 0, none⟩ = some (.int .i64 ty) ∧ n ≤ 9223372036854775807 ∧ B < base ∧ B ≠ L ∧ E < base ∧ E ≠ L ∧ T < base ∧ T ≠ L ∧ PList w base L xs

def addI (n : Nat) (ty x : Int) (xs : List Int) : List Int := if exI n x && (x != ty) then xs ++ [x] else xs

def Left2 (base L : Nat) (xs : List Int) (w : World) (e : Ending) (w' : World) : Prop := e = .returned (.tuple #[]) ∧ PList w' base L xs ∧ But base L w w'

set_option maxHeartbeats 400000 in
theorem parts2_no (w : World) (base L n B E T : Nat) (ty x : Int) (xs : List Int) (h : Fits base L n ty w B E T xs) (hx : (exI n x && (x != ty)) = false) :
    Calls Try.prog 25 #[.int .i64 x, .pointer (some ⟨E, 0, none⟩), .pointer (some ⟨T, 0, none⟩), .pointer (some ⟨L, 0, none⟩)] w (Left2 base L xs w) := by
  obtain ⟨a, c, hB, hE, hT, hn, b1, b2, e1, e2, t1, t2, hL⟩ := h
  have HL := Lib.hid hL
  clear hL
  cases h1 : exI n x
  · go_enter Try.func25, Try.ntmps25
    go_wp2_with ((with_reducible refine (parts1_any _ B n c a x hn (by assumption)).mono ?_); rintro e w1 ⟨rfl, rfl⟩)
    go_end0
    exact ⟨rfl, HL.out, But.refl _ _ _⟩
  · have h2 : (x != ty) = false := by simpa [h1] using hx
    go_enter Try.func25, Try.ntmps25
    go_wp2_with ((with_reducible refine (parts1_any _ B n c a x hn (by assumption)).mono ?_); rintro e w1 ⟨rfl, rfl⟩)
    go_end0
    exact ⟨rfl, HL.out, But.refl _ _ _⟩
#print axioms parts2_no
end Go.Proofs.Ytbjnoffdafpkgaa
