/- great. -/
import Derived.Test.YtoaklikkepkhfaaL3
import Derived.IntWalk
namespace Go.Proofs.Ytoaklikkepkhfaa
open Go.RowKit

set_option maxRecDepth 100000 in
set_option maxHeartbeats 2000000 in
theorem great_any (w : World) (ua : Option Addr) (uc : Nat) (l : List UnitV) (sa : Option Addr) (sc : Nat) (subs : List SubV) (hE : Env w ua uc l sa sc subs) :
    Calls Try.prog 7 #[.slice ua l.length uc, .slice sa subs.length sc] w (RetGreat l subs w) := by
  have HE := Lib.hid hE
  have q1 := hE.ul
  have q2 := hE.um
  have q3 := hE.sl
  have q4 := hE.sm
  clear hE
  go_enter Try.func7, Try.ntmps7
  go_upto_block 0 with (fail)
  go_cut [5] (fun v5 wc => ∃ s : Nat, v5 = .int .i64 s ∧ s ≤ 100000000000000000 ∧ (l.length ≤ 40 → s = sumU l l.length) ∧ Kept [] w wc)
  case first =>
    rcases HE.out.us.split with h0 | ⟨b, o, rfl, hr⟩
    · have HL : Hid (l = []) := List.eq_nil_of_length_eq_zero (Nat.le_zero.1 h0)
      go_wp2_with fail
      go_loopw [5, 6] (fun v i wr => v = .int .i64 0 ∧ i = .int .i64 0 ∧ wr = w) (fun _ _ _ => 0)
      case atStart => exact ⟨rfl, rfl, rfl⟩
      case round =>
        obtain ⟨rfl, rfl, rfl⟩ := hrel
        go_wp2_with fail
        go_meet
        exact ⟨0, rfl, by omega, fun _ => by rw [HL.out]; rfl, Kept.refl _ _⟩
    · have HR := Lib.hid hr
      clear hr
      go_wp2_with fail
      go_loopw [5, 6] (fun v i wr => ∃ k : Nat, k ≤ l.length ∧ k ≤ 50 ∧ i = .int .i64 k ∧ v = .int .i64 (sumU l k) ∧ sumU l k ≤ k * 1000000000000000 ∧ Kept [] w wr) (fun _ i _ => l.length - (intOf i).toNat)
      case atStart => exact ⟨0, Nat.zero_le _, by omega, rfl, rfl, by simp [sumU], Kept.refl _ _⟩
      case round =>
        obtain ⟨k, hk, hk5, rfl, rfl, hsum, hkr⟩ := hrel
        have HKR := Lib.hid hkr
        clear hkr
        by_cases hlt : k < l.length
        · by_cases h50 : k < 50
          · obtain ⟨x, hx⟩ : ∃ x, l[k]? = some x := ⟨_, List.getElem?_eq_getElem hlt⟩
            obtain ⟨x0, x1, x2, x3⟩ := unit_cells (HR.out k x hx)
            replace x0 := HKR.out.cell x0 (by simp)
            replace x2 := HKR.out.cell x2 (by simp)
            replace x3 := HKR.out.cell x3 (by simp)
            have ok := HE.out.uok x (List.mem_of_getElem? hx)
            have o1 := ok.n4
            have o2 := ok.c4
            have o3 := ok.s4
            have HS := Lib.hid (sumU_succ hx)
            clear hx x1 ok
            generalize sumU l k = s at *
            go_upto_region 5 with (fail)
            go_quiet (fail)
            go_wp2_with fail
            have HN : Hid (((s : Int) + x.needs.length + x.calls.length + (x.name.size : Int) / 10) = ((sumU l (k + 1) : Nat) : Int)) := by
              rw [Hid, HS.out]; unfold cntU; omega
            have HB : Hid (sumU l (k + 1) ≤ (k + 1) * 1000000000000000) := by
              rw [Hid, HS.out]; unfold cntU; omega
            go_roundw
            case rel => exact ⟨k + 1, by omega, by omega, by go_num, by rw [HN.out], HB.out, HKR.out.trans (Kept.drewN _ _ _)⟩
            case measure => simp [intOf]; omega
          · have HB : Hid (¬ l.length ≤ 40) := by rw [Hid]; omega
            go_wp2_with fail
            go_meet
            exact ⟨_, rfl, by omega, fun h => absurd h HB.out, HKR.out⟩
        · have HB : Hid (k = l.length) := by rw [Hid]; omega
          go_wp2_with fail
          go_meet
          exact ⟨_, rfl, by omega, fun h => by rw [HB.out], HKR.out⟩
  case rest =>
    obtain ⟨s, rfl, hs, hsu, hkc⟩ := hcut
    obtain ⟨w2, rfl⟩ : ∃ w2 : World, w2 = wc := ⟨_, rfl⟩
    have HSU := Lib.hid hsu
    have HK2 := Lib.hid hkc
    clear hsu hkc
    go_upto_block 2 with (fail)
    go_cut [5] (fun v5 wc => ∃ s' : Nat, v5 = .int .i64 s' ∧ (subs.length ≤ 80 → s' = s + sumS subs subs.length) ∧ Kept [] w2 wc)
    case first =>
      rcases (HE.out.kept HK2.out).ss.split with h0 | ⟨b, o, rfl, hr⟩
      · have HL : Hid (subs = []) := List.eq_nil_of_length_eq_zero (Nat.le_zero.1 h0)
        go_wp2_with fail
        go_loopw [5, 7] (fun v i wr => v = .int .i64 s ∧ i = .int .i64 0 ∧ wr = w2) (fun _ _ _ => 0)
        case atStart => exact ⟨rfl, rfl, rfl⟩
        case round =>
          obtain ⟨rfl, rfl, rfl⟩ := hrel
          go_wp2_with fail
          go_meet
          exact ⟨s, rfl, fun _ => by rw [HL.out]; rfl, Kept.refl _ _⟩
      · have HR := Lib.hid hr
        clear hr
        go_wp2_with fail
        go_loopw [5, 7] (fun v i wr => ∃ k s' : Nat, k ≤ subs.length ∧ k ≤ 100 ∧ i = .int .i64 k ∧ v = .int .i64 s' ∧ s' ≤ 100000000000000000 + k * 1000000000000000 ∧ s' = s + sumS subs k ∧ wr = w2) (fun _ i _ => subs.length - (intOf i).toNat)
        case atStart => exact ⟨0, s, Nat.zero_le _, by omega, rfl, rfl, by omega, by simp [sumS], rfl⟩
        case round =>
          obtain ⟨k, s', hk, hk5, rfl, rfl, hsum, hse, rfl⟩ := hrel
          have HSE := Lib.hid hse
          clear hse
          by_cases hlt : k < subs.length
          · by_cases h50 : k < 100
            · obtain ⟨x, hx⟩ : ∃ x, subs[k]? = some x := ⟨_, List.getElem?_eq_getElem hlt⟩
              obtain ⟨x0, x1⟩ := sub_cells (HR.out k x hx)
              have o2 := (HE.out.sok x (List.mem_of_getElem? hx)).c4
              have HS := Lib.hid (sumS_succ hx)
              clear hx x0
              go_wp2_with fail
              have HN : Hid (s' + x.calls.length = s + sumS subs (k + 1)) := by rw [Hid, HS.out, HSE.out]; omega
              go_roundw
              case rel => exact ⟨k + 1, s' + x.calls.length, by omega, by omega, by go_num, by go_num, by omega, HN.out, trivial⟩
              case measure => simp [intOf]; omega
            · have HB : Hid (¬ subs.length ≤ 80) := by rw [Hid]; omega
              go_wp2_with fail
              go_meet
              exact ⟨_, rfl, fun h => absurd h HB.out, Kept.refl _ _⟩
          · have HB : Hid (k = subs.length) := by rw [Hid]; omega
            go_wp2_with fail
            go_meet
            exact ⟨_, rfl, fun h => by rw [HSE.out, HB.out], Kept.refl _ _⟩
    case rest =>
      obtain ⟨s', rfl, hs', hkc⟩ := hcut
      obtain ⟨w3, rfl⟩ : ∃ w3 : World, w3 = wc := ⟨_, rfl⟩
      have HS' := Lib.hid hs'
      have HK3 := Lib.hid hkc
      clear hs' hkc
      by_cases hA : l.length ≤ 40
      · by_cases hB : subs.length ≤ 80
        · by_cases hC : s' ≤ 2000
          · have HF : Hid (SmallE l subs) := small_of hA hB (by have h1 := HSU.out hA; have h2 := HS'.out hB; omega)
            go_wp2_with fail
            go_ret
            exact ⟨_, rfl, fun _ => HF.out, HK2.out.trans HK3.out⟩
          · go_wp2_with fail
            go_ret
            exact ⟨true, (by first | (simp; done) | (simp; omega)), (fun h => by cases h), HK2.out.trans HK3.out⟩
        · go_wp2_with fail
          go_ret
          exact ⟨true, (by first | (simp; done) | (simp; omega)), (fun h => by cases h), HK2.out.trans HK3.out⟩
      · go_wp2_with fail
        go_ret
        exact ⟨true, (by first | (simp; done) | (simp; omega)), (fun h => by cases h), HK2.out.trans HK3.out⟩
end Go.Proofs.Ytoaklikkepkhfaa
