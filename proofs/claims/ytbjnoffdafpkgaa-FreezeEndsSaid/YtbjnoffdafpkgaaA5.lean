/- The closures of Parts. -/
import Derived.Test.YtbjnoffdafpkgaaA4
namespace Go.Proofs.Ytbjnoffdafpkgaa
open Go.RowKit

/-- The subtypes' types, behind the table's second field in block B. -/
def SubsAt (w : World) (B : Nat) (subs : List Int) : Prop :=
  ∃ sa sc, w.cell? ⟨B, 1, none⟩ = some (.slice sa subs.length sc) ∧ subs.length ≤ 9223372036854775807 ∧ ∀ s, s < subs.length → ∃ sb so, sa = some ⟨sb, so, none⟩ ∧ w.cell? ⟨sb, so + s * 3, none⟩ = some (.int .i64 (subs.getD s 0))

def subI (n : Nat) (ty : Int) (subs : List Int) (s : Int) (xs : List Int) : List Int := if exI subs.length s then addI n ty (subs.getD s.toNat 0) xs else xs

set_option maxRecDepth 100000 in
set_option maxHeartbeats 400000 in
theorem parts3_any (w : World) (base L n B E T A : Nat) (ty s : Int) (xs subs : List Int) (h : Fits base L n ty w B E T xs) (hs : xs.length < 1099511627776) (hS : SubsAt w B subs)
    (hA : w.cell? ⟨A, 0, none⟩ = some (.func (.func 25) #[] #[.pointer (some ⟨E, 0, none⟩), .pointer (some ⟨T, 0, none⟩), .pointer (some ⟨L, 0, none⟩)])) :
    Calls Try.prog 26 #[.int .i64 s, .pointer (some ⟨B, 0, none⟩), .pointer (some ⟨A, 0, none⟩)] w (Left2 base L (subI n ty subs s xs) w) := by
  obtain ⟨sa, sc, hs1, hs2, hs3⟩ := hS
  have HF := Lib.hid h
  have hPL : PList w base L xs := by obtain ⟨_, _, _, _, _, _, _, _, _, _, _, _, hp⟩ := h; exact hp
  have HP := Lib.hid hPL
  clear h hPL
  by_cases h0 : 0 ≤ s
  · by_cases h1 : s < subs.length
    · obtain ⟨k, rfl⟩ := Int.eq_ofNat_of_zero_le h0
      have hk : k < subs.length := by omega
      have HX : Hid (subI n ty subs k xs = addI n ty (subs.getD k 0) xs) := by simp [Hid, subI, exI, h1]
      obtain ⟨sb, so, rfl, hcell⟩ := hs3 k hk
      clear hs3
      generalize subs.getD k 0 = x at *
      go_enter Try.func26, Try.ntmps26
      go_wp2_with fail
      go_still_tail 7, (by kernel_rfl)
      change wpList _ _ _ _ _ w.drew
      have HF2 : Hid (Fits base L n ty w.drew B E T xs) := HF.out
      go_wp2_with (with_reducible refine (parts2_any _ base L n B E T ty x xs HF2.out hs).mono ?_)
      rintro e w1 ⟨rfl, hp1, hb1⟩
      go_wp2
      go_end0
      exact ⟨rfl, by rw [HX.out]; exact hp1, ⟨hb1.os, hb1.tape, hb1.output, hb1.size, hb1.block⟩⟩
    · have HX : Hid (subI n ty subs s xs = xs) := by simp [Hid, subI, exI, h1]
      clear hs3
      go_enter Try.func26, Try.ntmps26
      go_wp2
      go_end0
      exact ⟨rfl, by rw [HX.out]; exact HP.out, But.refl _ _ _⟩
  · have HX : Hid (subI n ty subs s xs = xs) := by simp [Hid, subI, exI, h0]
    clear hs3
    go_enter Try.func26, Try.ntmps26
    go_wp2
    go_end0
    exact ⟨rfl, by rw [HX.out]; exact HP.out, But.refl _ _ _⟩
#print axioms parts3_any
end Go.Proofs.Ytbjnoffdafpkgaa
