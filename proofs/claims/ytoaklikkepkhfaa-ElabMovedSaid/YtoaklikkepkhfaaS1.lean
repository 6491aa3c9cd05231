/- in, SameInts, within. -/
import Derived.Test.YtoaklikkepkhfaaRows
import Derived.Test.YtoaklikkepkhfaaK1
import Derived.Test.YtoaklikkepkhfaaP5
import Derived.BigQuiet
import Derived.Deep.QuietTactic
import Derived.Deep.DeepCutAuto
import Derived.Deep.CutBlock
import Derived.StillTailTactics
namespace Go.Proofs.Ytoaklikkepkhfaa
open Go.RowKit

def IntsAt (w : World) (v : Value) (xs : List Int) : Prop :=
  (xs = [] ∧ ∃ a c, v = .slice a 0 c) ∨ (∃ b off c, v = .slice (some ⟨b, off, none⟩) xs.length c ∧ xs.length ≤ 9223372036854775807 ∧ ∀ j, j < xs.length → w.cell? ⟨b, off + j, none⟩ = some (.int .i64 (xs.getD j 0)))

def hasI (xs : List Int) (n : Int) : Bool := xs.contains n

theorem contains_take_succ (xs : List Int) (k : Nat) (n : Int) (h : k < xs.length) : hasI (xs.take (k + 1)) n = (hasI (xs.take k) n || (xs.getD k 0 == n)) := by
  unfold hasI
  rw [List.take_succ_eq_append_getElem h, Bool.eq_iff_iff]
  simp only [List.contains_iff_mem, List.mem_append, List.mem_singleton, Bool.or_eq_true, beq_iff_eq, List.getD, List.getElem?_eq_getElem h, Option.getD_some]
  exact or_congr_right eq_comm

theorem contains_take_all (xs : List Int) (k : Nat) (n : Int) (h : hasI (xs.take k) n = true) : hasI xs n = true := by
  unfold hasI at *
  rw [List.contains_iff_mem] at *
  exact List.mem_of_mem_take h

theorem IntsAt.shape {w : World} {v : Value} {xs : List Int} (h : IntsAt w v xs) : ∃ a c, v = .slice a xs.length c ∧ xs.length ≤ 9223372036854775807 ∧ (xs = [] ∨ ∃ b off, a = some ⟨b, off, none⟩ ∧ ∀ j x, xs[j]? = some x → w.cell? ⟨b, off + j, none⟩ = some (.int .i64 x)) := by
  rcases h with ⟨rfl, a, c, rfl⟩ | ⟨b, off, c, rfl, hm, hc⟩
  · exact ⟨a, c, rfl, by simp, .inl rfl⟩
  · refine ⟨_, c, rfl, hm, .inr ⟨b, off, rfl, fun j x hx => ?_⟩⟩
    obtain ⟨hj, rfl⟩ := List.getElem?_eq_some_iff.1 hx
    rw [hc j hj]
    simp [List.getD, hj]
theorem IntsC.ints {w : World} {v : Value} {xs : List Int} (h : IntsC w v xs) : IntsAt w v xs := by
  obtain ⟨a, c, rfl, h1, h2, _, h3⟩ := h
  rcases h3 with rfl | ⟨b, off, rfl, hc⟩
  · exact .inl ⟨rfl, a, c, rfl⟩
  · exact .inr ⟨b, off, c, rfl, by omega, fun j hj => by rw [hc j xs[j] (List.getElem?_eq_getElem hj)]; simp [List.getD, hj]⟩
set_option maxHeartbeats 400000 in
theorem in_any (w : World) (v : Value) (xs : List Int) (n : Int) (hv : IntsAt w v xs) :
    Calls Try.prog 15 #[v, .int .i64 n] w fun e w' => e = .returned (.bool (hasI xs n)) ∧ w = w' := by
  rcases hv with ⟨rfl, a, c, rfl⟩ | ⟨b, off, c, rfl, hm, hc⟩
  · go_enter Try.func15, Try.ntmps15
    go_wp2
    go_loop [5] (fun i => i = .int .i64 0) (fun _ => 0)
    case atStart => rfl
    case round =>
      subst hrel
      go_wp2
      go_ret
      exact ⟨rfl, rfl⟩
  · go_enter Try.func15, Try.ntmps15
    go_wp2
    go_loop [5] (fun i => ∃ k : Nat, k ≤ xs.length ∧ i = .int .i64 k ∧ hasI (xs.take k) n = false) (fun i => xs.length - (intOf i).toNat)
    case atStart => exact ⟨0, Nat.zero_le _, rfl, rfl⟩
    case round =>
      obtain ⟨k, hk, rfl, hno⟩ := hrel
      by_cases hlt : k < xs.length
      · have hcell := hc k hlt
        have HT := Lib.hid (contains_take_succ xs k n hlt)
        have HN := Lib.hid hno
        clear hno hc
        generalize xs.getD k 0 = x at *
        cases hx : (x == n)
        · have HF : Hid (hasI (xs.take (k + 1)) n = false) := by rw [Hid, HT.out, HN.out, hx]; rfl
          go_wp2
          go_round
          case rel => exact ⟨k + 1, by omega, by go_num, HF.out⟩
          case measure => simp [intOf]; omega
        · have HF : Hid (hasI xs n = true) := contains_take_all xs (k + 1) n (by rw [HT.out, HN.out, hx]; rfl)
          go_wp2
          go_ret
          exact ⟨by rw [HF.out]; rfl, rfl⟩
      · have HF : Hid (hasI xs n = false) := by rw [Hid, ← hno, List.take_of_length_le (by omega)]
        clear hno
        go_wp2
        go_ret
        exact ⟨by rw [HF.out]; rfl, rfl⟩
def sameI (xs ys : List Int) : Bool := xs == ys

theorem sameI_take {xs ys : List Int} {k : Nat} {x y : Int} (hl : xs.length = ys.length) (h : xs.take k = ys.take k) (hx : xs[k]? = some x) (hy : ys[k]? = some y) (he : x = y) : xs.take (k + 1) = ys.take (k + 1) := by
  obtain ⟨h1, rfl⟩ := List.getElem?_eq_some_iff.1 hx
  obtain ⟨h2, rfl⟩ := List.getElem?_eq_some_iff.1 hy
  rw [List.take_succ_eq_append_getElem h1, List.take_succ_eq_append_getElem h2, h, he]

set_option maxRecDepth 100000 in
set_option maxHeartbeats 1000000 in
theorem sameInts_any (w : World) (a b : Value) (xs ys : List Int) (ha : IntsAt w a xs) (hb : IntsAt w b ys) : Calls Try.prog 13 #[a, b] w (RetB (sameI xs ys) w) := by
  obtain ⟨aa, ac, rfl, hla, hca⟩ := ha.shape
  obtain ⟨ba, bc, rfl, hlb, hcb⟩ := hb.shape
  clear ha hb
  have HCA := Lib.hid hca
  have HCB := Lib.hid hcb
  clear hca hcb
  by_cases hl : xs.length = ys.length
  · have hlb' : ((xs.length : Int) != (ys.length : Int)) = false := by simp [hl]
    have HL := Lib.hid hl
    by_cases h0 : xs.length = 0
    · have HS : Hid (sameI xs ys = true) := by
        have e1 := List.eq_nil_of_length_eq_zero h0
        have e2 := List.eq_nil_of_length_eq_zero (hl.symm.trans h0)
        subst e1 e2
        rfl
      have h0' : xs.length ≤ 0 := by omega
      have h1' : ys.length ≤ 0 := by omega
      clear h0 hl
      go_enter Try.func13, Try.ntmps13
      go_wp2_with fail
      go_loopw [5] (fun i wr => i = .int .i64 0 ∧ wr = w) (fun _ _ => 0)
      case atStart => exact ⟨rfl, rfl⟩
      case round =>
        obtain ⟨rfl, rfl⟩ := hrel
        go_wp2_with fail
        go_ret
        rw [HS.out]
        exact ⟨rfl, Kept.refl _ _⟩
    · rcases HCA.out with hn | ⟨b1, o1, rfl, hc1⟩
      · subst hn; simp at h0
      rcases HCB.out with hn | ⟨b2, o2, rfl, hc2⟩
      · subst hn; simp at hl; simp [hl] at h0
      have H1 := Lib.hid hc1
      have H2 := Lib.hid hc2
      clear hc1 hc2 hl h0
      go_enter Try.func13, Try.ntmps13
      go_wp2_with fail
      go_loopw [5] (fun i wr => ∃ k : Nat, k ≤ xs.length ∧ i = .int .i64 k ∧ xs.take k = ys.take k ∧ Kept [] w wr) (fun i _ => xs.length - (intOf i).toNat)
      case atStart => exact ⟨0, Nat.zero_le _, rfl, by simp, Kept.refl _ _⟩
      case round =>
        obtain ⟨k, hk, rfl, htk, hkr⟩ := hrel
        have HTK := Lib.hid htk
        have HKR := Lib.hid hkr
        clear htk hkr
        by_cases hlt : k < xs.length
        · obtain ⟨x, hx⟩ : ∃ x, xs[k]? = some x := ⟨_, List.getElem?_eq_getElem hlt⟩
          obtain ⟨y, hy⟩ : ∃ y, ys[k]? = some y := ⟨_, List.getElem?_eq_getElem (by have := HL.out; omega)⟩
          have c1 := HKR.out.cell (H1.out k x hx) (by simp)
          have c2 := HKR.out.cell (H2.out k y hy) (by simp)
          have hlt2 : k < ys.length := by have := HL.out; omega
          have HX := Lib.hid hx
          have HY := Lib.hid hy
          clear hx hy
          cases hxy : (x != y)
          · have HT := Lib.hid (sameI_take HL.out HTK.out HX.out HY.out (by simpa using hxy))
            go_upto_region 6 with (fail)
            go_quiet (fail)
            go_wp2_with fail
            go_roundw
            case rel => exact ⟨k + 1, by omega, by go_num, HT.out, HKR.out.trans (Kept.drewN _ _ _)⟩
            case measure => simp [intOf]; omega
          · have HS : Hid (sameI xs ys = false) := by
              unfold sameI
              rw [Hid, beq_eq_false_iff_ne]
              intro e
              subst e
              have := HX.out
              rw [HY.out] at this
              injection this with this
              subst this
              simp at hxy
            go_upto_region 6 with (fail)
            go_quiet (fail)
            go_wp2_with fail
            go_ret
            rw [HS.out]
            exact ⟨rfl, HKR.out.trans (Kept.drewN _ _ _)⟩
        · have HS : Hid (sameI xs ys = true) := by
            have h1 := HTK.out
            rw [List.take_of_length_le (by omega), List.take_of_length_le (by have := HL.out; omega)] at h1
            unfold sameI
            rw [Hid, h1]
            simp
          go_wp2_with fail
          go_ret
          rw [HS.out]
          exact ⟨rfl, HKR.out⟩
  · have HS : Hid (sameI xs ys = false) := by
      unfold sameI
      rw [Hid, beq_eq_false_iff_ne]
      intro e
      exact hl (by rw [e])
    have hlb' : ((xs.length : Int) != (ys.length : Int)) = true := by
      rw [bne_iff_ne]
      omega
    clear hl
    go_enter Try.func13, Try.ntmps13
    go_wp2_with fail
    go_ret
    rw [HS.out]
    exact ⟨rfl, Kept.refl _ _⟩


/- within -/
theorem withinR_zero (n : Nat) (xs : List Int) : withinR n (xs.take 0) = true := by simp [withinR]
theorem withinR_succ {n : Nat} {xs : List Int} {k : Nat} {x : Int} (hx : xs[k]? = some x) : withinR n (xs.take (k + 1)) = (withinR n (xs.take k) && inR n x) := by
  obtain ⟨h, rfl⟩ := List.getElem?_eq_some_iff.1 hx
  unfold withinR
  rw [List.take_succ_eq_append_getElem h, List.all_append]
  simp
theorem withinR_no {n : Nat} {xs : List Int} {k : Nat} {x : Int} (hx : xs[k]? = some x) (h : inR n x = false) : withinR n xs = false := by
  cases hw : withinR n xs
  · rfl
  · have := List.all_eq_true.1 hw x (List.mem_of_getElem? hx)
    rw [h] at this; cases this

set_option maxHeartbeats 400000 in
theorem within_any (w : World) (v : Value) (xs : List Int) (n : Nat) (hn : n ≤ 9223372036854775807) (hv : IntsC w v xs) :
    Calls Try.prog 31 #[v, .int .i64 n] w fun e w' => e = .returned (.bool (withinR n xs)) ∧ w = w' := by
  obtain ⟨a, c, rfl, hl, hm, h0, hc⟩ := hv
  rcases hc with rfl | ⟨b, o, rfl, hc⟩
  · go_enter Try.func31, Try.ntmps31
    go_wp2_with fail
    go_loop [5] (fun i => i = .int .i64 0) (fun _ => 0)
    case atStart => rfl
    case round =>
      subst hrel
      go_wp2_with fail
      go_ret
      exact ⟨rfl, rfl⟩
  · have HC := Lib.hid hc
    clear hc
    go_enter Try.func31, Try.ntmps31
    go_wp2_with fail
    go_loop [5] (fun i => ∃ k : Nat, k ≤ xs.length ∧ i = .int .i64 k ∧ withinR n (xs.take k) = true) (fun i => xs.length - (intOf i).toNat)
    case atStart => exact ⟨0, Nat.zero_le _, rfl, withinR_zero _ _⟩
    case round =>
      obtain ⟨k, hk, rfl, hno⟩ := hrel
      have HN := Lib.hid hno
      clear hno
      by_cases hlt : k < xs.length
      · obtain ⟨x, hx⟩ : ∃ x, xs[k]? = some x := ⟨_, List.getElem?_eq_getElem hlt⟩
        have q := HC.out k x hx
        have HX := Lib.hid hx
        clear hx
        by_cases g0 : 0 ≤ x
        · by_cases g1 : x < n
          · have HS : Hid (withinR n (xs.take (k + 1)) = true) := by rw [Hid, withinR_succ HX.out, HN.out, inR_iff.2 ⟨g0, g1⟩]; rfl
            go_wp2_with fail
            go_round
            case rel => exact ⟨k + 1, by omega, by go_num, HS.out⟩
            case measure => simp [intOf]; omega
          · have HF : Hid (withinR n xs = false) := withinR_no HX.out (by simp [inR, g1])
            go_wp2_with fail
            go_ret
            rw [HF.out]
            exact ⟨rfl, rfl⟩
        · have HF : Hid (withinR n xs = false) := withinR_no HX.out (by simp [inR, g0])
          go_wp2_with fail
          go_ret
          rw [HF.out]
          exact ⟨rfl, rfl⟩
      · have HF : Hid (withinR n xs = true) := by rw [Hid, ← HN.out, List.take_of_length_le (by omega)]
        go_wp2_with fail
        go_ret
        rw [HF.out]
        exact ⟨rfl, rfl⟩
end Go.Proofs.Ytoaklikkepkhfaa
