/- Needs; the comparison of places. -/
import Derived.Test.YtoaklikkepkhfaaE4
import Derived.Test.YtoaklikkepkhfaaP6
namespace Go.Proofs.Ytoaklikkepkhfaa
open Go.RowKit

set_option maxRecDepth 100000 in
set_option maxHeartbeats 2000000 in
theorem needsTop_any (w : World) (ua : Option Addr) (uc : Nat) (l : List UnitV) (sa : Option Addr) (sc : Nat) (subs : List SubV) (u : Int) (hE : Env w ua uc l sa sc subs) (hb : Room l subs) :
    Calls Try.prog 9 #[.slice ua l.length uc, .slice sa subs.length sc, .int .i64 u] w (RetTwo (NeedsRes l subs u) w) := by
  have HE := Lib.hid hE
  have HBD := Lib.hid hb
  have b1 := hE.ul
  have b2 := hE.um
  clear hE hb
  go_enter Try.func9, Try.ntmps9
  go_wp2_with fail
  refine (valid_any w ua uc l sa sc subs HE.out).mono ?_
  rintro e w1 ⟨rfl, hk1⟩
  have HK1 := Lib.hid hk1
  clear hk1
  cases hm : mayR l subs
  · have HR : Hid (NeedsRes l subs u [] 2) := .inl ⟨hm, rfl, rfl⟩
    clear hm
    go_wp2_with fail
    go_ret2
    exact ⟨_, _, _, rfl, HR.out, IntsC.nil _, HK1.out⟩
  · have HM := Lib.hid (may_of hm)
    have HMB := Lib.hid hm
    clear hm
    by_cases h0 : 0 ≤ u
    · by_cases h1 : u < l.length
      · obtain ⟨un, rfl⟩ := Int.eq_ofNat_of_zero_le h0
        have hul : un < l.length := by omega
        obtain ⟨x, hx⟩ : ∃ x, l[un]? = some x := ⟨_, List.getElem?_eq_getElem hul⟩
        have HIN : Hid (inR l.length (un : Int) = true) := inR_iff.2 ⟨h0, h1⟩
        have HX := Lib.hid hx
        clear hx
        go_wp2_with fail
        refine (needs_any w1 ua uc l sa sc subs un x (HE.out.kept HK1.out) HX.out HM.out HBD.out).mono ?_
        rintro e w2 ⟨v, xs, rfl, hnl, hi, hk2, _⟩
        have HR : Hid (NeedsRes l subs (un : Int) xs 0) := .inr (.inr ⟨HMB.out, HIN.out, by simpa using hnl, rfl⟩)
        have HI := Lib.hid hi
        have HK2 := Lib.hid hk2
        clear hnl hi hk2
        go_wp2_with fail
        go_ret2
        exact ⟨_, _, _, rfl, HR.out, HI.out, HK1.out.trans HK2.out⟩
      · have HR : Hid (NeedsRes l subs u [] 4) := .inr (.inl ⟨HMB.out, by simp [inR, h1], rfl, rfl⟩)
        go_wp2_with fail
        go_ret2
        exact ⟨_, _, _, rfl, HR.out, IntsC.nil _, HK1.out⟩
    · have HR : Hid (NeedsRes l subs u [] 4) := .inr (.inl ⟨HMB.out, by simp [inR, h0], rfl, rfl⟩)
      go_wp2_with fail
      go_ret2
      exact ⟨_, _, _, rfl, HR.out, IntsC.nil _, HK1.out⟩

set_option maxHeartbeats 400000 in
theorem isNaNs_any (w : World) (a : ByteArray) : Calls Try.prog 45 #[.string a] w fun e w' => e = .returned (.bool false) ∧ w = w' := by
  go_enter Try.func45, Try.ntmps45
  go_wp2_with fail
  go_ret
  exact ⟨by simp, rfl⟩
set_option maxHeartbeats 400000 in
theorem cmpS_any (w : World) (a b : ByteArray) : Calls Try.prog 26 #[.string a, .string b] w fun e w' => e = .returned (.int .i64 (cmpS a.toList b.toList)) ∧ w = w' := by
  have HS : Hid (cmpS a.toList b.toList = if Op.bytesLess a.toList b.toList then -1 else if (!(Op.bytesLess a.toList b.toList || a.toList == b.toList)) then 1 else 0) := rfl
  go_enter Try.func26, Try.ntmps26
  cases h1 : Op.bytesLess a.toList b.toList
  · cases h2 : (a.toList == b.toList)
    · have HF : Hid (cmpS a.toList b.toList = 1) := by rw [Hid, HS.out, h1, h2]; rfl
      clear HS
      go_wp2_with (go_at_call 45; refine (isNaNs_any _ _).mono ?_; rintro e w' ⟨rfl, rfl⟩)
      go_ret
      rw [HF.out]
      exact ⟨rfl, rfl⟩
    · have HF : Hid (cmpS a.toList b.toList = 0) := by rw [Hid, HS.out, h1, h2]; rfl
      clear HS
      go_wp2_with (go_at_call 45; refine (isNaNs_any _ _).mono ?_; rintro e w' ⟨rfl, rfl⟩)
      go_ret
      rw [HF.out]
      exact ⟨rfl, rfl⟩
  · have HF : Hid (cmpS a.toList b.toList = -1) := by rw [Hid, HS.out, h1]; rfl
    clear HS
    go_wp2_with (go_at_call 45; refine (isNaNs_any _ _).mono ?_; rintro e w' ⟨rfl, rfl⟩)
    go_ret
    rw [HF.out]
    exact ⟨rfl, rfl⟩
set_option maxHeartbeats 400000 in
theorem rank_any (w : World) (b : Bool) : Calls Try.prog 22 #[.bool b] w fun e w' => e = .returned (.int .i64 (rankI b)) ∧ w = w' := by
  cases b
  all_goals
    go_enter Try.func22, Try.ntmps22
    go_wp2_with fail
    go_ret
    exact ⟨rfl, rfl⟩
theorem cmpI_any (w : World) (a b : Int) : Calls Try.prog 27 #[.int .i64 a, .int .i64 b] w fun e w' => e = .returned (.int .i64 (cmpZ a b)) ∧ w = w' := by
  refine (Try.cmp_Compare_int a b w).mono ?_
  rintro e w' ⟨rfl, rfl⟩
  exact ⟨by unfold cmpZ Lib.compareInt; rfl, rfl⟩
end Go.Proofs.Ytoaklikkepkhfaa
