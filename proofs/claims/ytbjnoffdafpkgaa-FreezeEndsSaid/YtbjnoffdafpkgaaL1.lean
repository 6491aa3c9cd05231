/- SameInts, ev. -/
import Derived.Test.YtbjnoffdafpkgaaP7
namespace Go.Proofs.Ytbjnoffdafpkgaa
open Go.RowKit

def sameI (xs ys : List Int) : Bool := xs == ys

theorem sameI_take {xs ys : List Int} {k : Nat} {x y : Int} (hl : xs.length = ys.length) (h : xs.take k = ys.take k) (hx : xs[k]? = some x) (hy : ys[k]? = some y) (he : x = y) : xs.take (k + 1) = ys.take (k + 1) := by
  obtain ⟨h1, rfl⟩ := List.getElem?_eq_some_iff.1 hx
  obtain ⟨h2, rfl⟩ := List.getElem?_eq_some_iff.1 hy
  rw [List.take_succ_eq_append_getElem h1, List.take_succ_eq_append_getElem h2, h, he]

set_option maxRecDepth 100000 in
set_option maxHeartbeats 1000000 in
theorem sameInts_any (w : World) (a b : Value) (xs ys : List Int) (ha : IntsAt w a xs) (hb : IntsAt w b ys) : Calls Try.prog 11 #[a, b] w (RetB (sameI xs ys) w) := by
  obtain ⟨aa, ac, rfl, hla, hca⟩ := ha.shape
  obtain ⟨ba, bc, rfl, hlb, hcb⟩ := hb.shape
  clear ha hb
  have HCA := Lib.hid hca
  have HCB := Lib.hid hcb
  clear hca hcb
  by_cases hl : xs.length = ys.length
  · have hlb' : ((xs.length : Int) != (ys.length : Int)) = false := by simp [hl]
    have HL := Lib.hid hl
    by_cases h0 : xs.length = 0
    · have HS : Hid (sameI xs ys = true) := by
        have e1 := List.eq_nil_of_length_eq_zero h0
        have e2 := List.eq_nil_of_length_eq_zero (hl.symm.trans h0)
        subst e1 e2
        rfl
      have h0' : xs.length ≤ 0 := by omega
      have h1' : ys.length ≤ 0 := by omega
      clear h0 hl
      go_enter Try.func11, Try.ntmps11
      go_wp2_with fail
      go_loopw [5] (fun i wr => i = .int .i64 0 ∧ wr = w) (fun _ _ => 0)
      case atStart => exact ⟨rfl, rfl⟩
      case round =>
        obtain ⟨rfl, rfl⟩ := hrel
        go_wp2_with fail
        go_ret
        rw [HS.out]
        exact ⟨rfl, Kept.refl _ _⟩
    · rcases HCA.out with hn | ⟨b1, o1, rfl, hc1⟩
      · subst hn; simp at h0
      rcases HCB.out with hn | ⟨b2, o2, rfl, hc2⟩
      · subst hn; simp at hl; simp [hl] at h0
      have H1 := Lib.hid hc1
      have H2 := Lib.hid hc2
      clear hc1 hc2 hl h0
      go_enter Try.func11, Try.ntmps11
      go_wp2_with fail
      go_loopw [5] (fun i wr => ∃ k : Nat, k ≤ xs.length ∧ i = .int .i64 k ∧ xs.take k = ys.take k ∧ Kept [] w wr) (fun i _ => xs.length - (intOf i).toNat)
      case atStart => exact ⟨0, Nat.zero_le _, rfl, by simp, Kept.refl _ _⟩
      case round =>
        obtain ⟨k, hk, rfl, htk, hkr⟩ := hrel
        have HTK := Lib.hid htk
        have HKR := Lib.hid hkr
        clear htk hkr
        by_cases hlt : k < xs.length
        · obtain ⟨x, hx⟩ : ∃ x, xs[k]? = some x := ⟨_, List.getElem?_eq_getElem hlt⟩
          obtain ⟨y, hy⟩ : ∃ y, ys[k]? = some y := ⟨_, List.getElem?_eq_getElem (by have := HL.out; omega)⟩
          have c1 := HKR.out.cell (H1.out k x hx) (by simp)
          have c2 := HKR.out.cell (H2.out k y hy) (by simp)
          have hlt2 : k < ys.length := by have := HL.out; omega
          have HX := Lib.hid hx
          have HY := Lib.hid hy
          clear hx hy
          cases hxy : (x != y)
          · have HT := Lib.hid (sameI_take HL.out HTK.out HX.out HY.out (by simpa using hxy))
            go_upto_region 6 with (fail)
            go_quiet (fail)
            go_wp2_with fail
            go_roundw
            case rel => exact ⟨k + 1, by omega, by go_num, HT.out, HKR.out.trans (Kept.drewN _ _ _)⟩
            case measure => simp [intOf]; omega
          · have HS : Hid (sameI xs ys = false) := by
              unfold sameI
              rw [Hid, beq_eq_false_iff_ne]
              intro e
              subst e
              have := HX.out
              rw [HY.out] at this
              injection this with this
              subst this
              simp at hxy
            go_upto_region 6 with (fail)
            go_quiet (fail)
            go_wp2_with fail
            go_ret
            rw [HS.out]
            exact ⟨rfl, HKR.out.trans (Kept.drewN _ _ _)⟩
        · have HS : Hid (sameI xs ys = true) := by
            have h1 := HTK.out
            rw [List.take_of_length_le (by omega), List.take_of_length_le (by have := HL.out; omega)] at h1
            unfold sameI
            rw [Hid, h1]
            simp
          go_wp2_with fail
          go_ret
          rw [HS.out]
          exact ⟨rfl, HKR.out⟩
  · have HS : Hid (sameI xs ys = false) := by
      unfold sameI
      rw [Hid, beq_eq_false_iff_ne]
      intro e
      exact hl (by rw [e])
    have hlb' : ((xs.length : Int) != (ys.length : Int)) = true := by
      rw [bne_iff_ne]
      omega
    clear hl
    go_enter Try.func11, Try.ntmps11
    go_wp2_with fail
    go_ret
    rw [HS.out]
    exact ⟨rfl, Kept.refl _ _⟩

set_option maxHeartbeats 400000 in
theorem ev_any (w : World) (k a b : Int) : Calls Try.prog 18 #[.int .u8 k, .int .i64 a, .int .i64 b] w fun e w' => e = .returned (EvV.val ⟨k, a, b⟩) ∧ w' = w.alloc (.cells #[.int .u8 k, .int .i64 a, .int .i64 b] 45) := by
  go_enter Try.func18, Try.ntmps18
  go_wp2_with fail
  refine bodyPost_ret (v := .agg #[.int .u8 k, .int .i64 a, .int .i64 b]) (by simp [results, Try.results18, go_sem]) rfl ?_
  exact ⟨rfl, rfl⟩
#print axioms sameInts_any
end Go.Proofs.Ytbjnoffdafpkgaa
