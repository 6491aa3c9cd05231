/- May of the reference. -/
import Derived.Test.YtoaklikkepkhfaaS1
namespace Go.Proofs.Ytoaklikkepkhfaa
open Go.RowKit

theorem all_zero {α : Type} (p : α → Bool) (l : List α) : (l.take 0).all p = true := by simp
theorem all_succ {α : Type} {p : α → Bool} {l : List α} {k : Nat} {x : α} (hx : l[k]? = some x) : (l.take (k + 1)).all p = ((l.take k).all p && p x) := by
  obtain ⟨h, rfl⟩ := List.getElem?_eq_some_iff.1 hx
  rw [List.take_succ_eq_append_getElem h, List.all_append]
  simp
theorem all_no {α : Type} {p : α → Bool} {l : List α} {k : Nat} {x : α} (hx : l[k]? = some x) (h : p x = false) : l.all p = false := by
  cases hw : l.all p
  · rfl
  · have := List.all_eq_true.1 hw x (List.mem_of_getElem? hx)
    rw [h] at this; cases this
def allUp {α : Type} (p : α → Bool) (l : List α) (k : Nat) : Bool := (l.take k).all p

theorem Env.needs {w : World} {ua : Option Addr} {uc : Nat} {l : List UnitV} {sa : Option Addr} {sc : Nat} {subs : List SubV} (h : Env w ua uc l sa sc subs) {k : Nat} {x : UnitV} (hx : l[k]? = some x) : IntsC w (.slice x.na x.needs.length x.nc) x.needs :=
  have hm := List.mem_of_getElem? hx
  (h.un x hm).c (h.uok x hm).n1 (h.uok x hm).n2 (h.uok x hm).n3
theorem Env.calls {w : World} {ua : Option Addr} {uc : Nat} {l : List UnitV} {sa : Option Addr} {sc : Nat} {subs : List SubV} (h : Env w ua uc l sa sc subs) {k : Nat} {x : UnitV} (hx : l[k]? = some x) : IntsC w (.slice x.ca x.calls.length x.cc) x.calls :=
  have hm := List.mem_of_getElem? hx
  (h.uk x hm).c (h.uok x hm).c1 (h.uok x hm).c2 (h.uok x hm).c3
theorem Env.scalls {w : World} {ua : Option Addr} {uc : Nat} {l : List UnitV} {sa : Option Addr} {sc : Nat} {subs : List SubV} (h : Env w ua uc l sa sc subs) {k : Nat} {x : SubV} (hx : subs[k]? = some x) : IntsC w (.slice x.ca x.calls.length x.cc) x.calls :=
  have hm := List.mem_of_getElem? hx
  (h.sk x hm).c (h.sok x hm).c1 (h.sok x hm).c2 (h.sok x hm).c3

set_option maxRecDepth 100000 in
set_option maxHeartbeats 4000000 in
theorem may_any (w : World) (ua : Option Addr) (uc : Nat) (l : List UnitV) (sa : Option Addr) (sc : Nat) (subs : List SubV) (hE : Env w ua uc l sa sc subs) :
    Calls Try.prog 14 #[.slice ua l.length uc, .slice sa subs.length sc] w (RetB (mayR l subs) w) := by
  have HE := Lib.hid hE
  have b1 := hE.ul
  have b2 := hE.um
  have b3 := hE.sl
  have b4 := hE.sm
  clear hE
  by_cases hA : l.length ≤ 256
  · by_cases hB : subs.length ≤ 4096
    · have HM : Hid (mayR l subs = (l.all (unitOk l.length subs.length) && subs.all (subOk l.length subs.length))) := by rw [Hid]; unfold mayR; simp [hA, hB]
      go_enter Try.func14, Try.ntmps14
      go_upto_block 0 with (fail)
      go_cut [] (fun wc => l.all (unitOk l.length subs.length) = true ∧ wc = w)
      case first =>
        rcases HE.out.us.split with h0 | ⟨b, o, rfl, hr⟩
        · have HL : Hid (l.all (unitOk l.length subs.length) = true) := by
            have := List.eq_nil_of_length_eq_zero (Nat.le_zero.1 h0)
            rw [Hid, this]; rfl
          go_wp2_with fail
          go_loopw [5] (fun i wr => i = .int .i64 0 ∧ wr = w) (fun _ _ => 0)
          case atStart => exact ⟨rfl, rfl⟩
          case round =>
            obtain ⟨rfl, rfl⟩ := hrel
            go_wp2_with fail
            go_meet
            exact ⟨HL.out, rfl⟩
        · have HR := Lib.hid hr
          clear hr
          go_wp2_with fail
          go_loopw [5] (fun i wr => ∃ k : Nat, k ≤ l.length ∧ i = .int .i64 k ∧ allUp (unitOk l.length subs.length) l k = true ∧ wr = w) (fun i _ => l.length - (intOf i).toNat)
          case atStart => exact ⟨0, Nat.zero_le _, rfl, all_zero _ _, rfl⟩
          case round =>
            obtain ⟨k, hk, rfl, hall, rfl⟩ := hrel
            have HALL := Lib.hid hall
            clear hall
            by_cases hlt : k < l.length
            · obtain ⟨x, hx⟩ : ∃ x, l[k]? = some x := ⟨_, List.getElem?_eq_getElem hlt⟩
              obtain ⟨x0, x1, x2, x3⟩ := unit_cells (HR.out k x hx)
              have HX := Lib.hid hx
              clear hx
              go_wp2_with fail
              refine (within_any wr _ x.needs l.length (by omega) (HE.out.needs HX.out)).mono ?_
              rintro e w1 ⟨rfl, rfl⟩
              cases hw1 : withinR l.length x.needs
              · have HF : Hid (mayR l subs = false) := by rw [Hid, HM.out, all_no HX.out (by unfold unitOk; rw [hw1]; rfl)]; rfl
                clear hw1
                go_wp2_with fail
                go_ret
                rw [HF.out]
                exact ⟨rfl, Kept.refl _ _⟩
              · have HW1 := Lib.hid hw1
                clear hw1
                go_wp2_with fail
                refine (within_any wr _ x.calls subs.length (by omega) (HE.out.calls HX.out)).mono ?_
                rintro e w1 ⟨rfl, rfl⟩
                cases hw1 : withinR subs.length x.calls
                · have HF : Hid (mayR l subs = false) := by rw [Hid, HM.out, all_no HX.out (by unfold unitOk; rw [hw1, Bool.and_false])]; rfl
                  clear hw1
                  go_wp2_with fail
                  go_ret
                  rw [HF.out]
                  exact ⟨rfl, Kept.refl _ _⟩
                · have HS : Hid (allUp (unitOk l.length subs.length) l (k + 1) = true) := by
                    have h1 := HALL.out
                    unfold allUp at h1
                    rw [Hid, allUp, all_succ HX.out, h1]
                    unfold unitOk
                    rw [HW1.out, hw1]; rfl
                  clear hw1
                  go_wp2_with fail
                  go_roundw
                  case rel => exact ⟨k + 1, by omega, by go_num, HS.out, trivial⟩
                  case measure => simp [intOf]; omega
            · have HF : Hid (l.all (unitOk l.length subs.length) = true) := by
                have h1 := HALL.out
                unfold allUp at h1
                rw [List.take_of_length_le (by omega)] at h1
                exact h1
              go_wp2_with fail
              go_meet
              exact ⟨HF.out, rfl⟩
      case rest =>
        obtain ⟨hL, rfl⟩ := hcut
        obtain ⟨wz, rfl⟩ : ∃ wz : World, wz = wc := ⟨_, rfl⟩
        have HM2 : Hid (mayR l subs = subs.all (subOk l.length subs.length)) := by rw [Hid, HM.out, hL]; rfl
        clear hL HM
        rcases HE.out.ss.split with h0 | ⟨b, o, rfl, hr⟩
        · have HL : Hid (mayR l subs = true) := by
            have := List.eq_nil_of_length_eq_zero (Nat.le_zero.1 h0)
            rw [Hid, HM2.out, this]; rfl
          go_wp2_with fail
          go_loopw [6] (fun i wr => i = .int .i64 0 ∧ wr = wz) (fun _ _ => 0)
          case atStart => exact ⟨rfl, rfl⟩
          case round =>
            obtain ⟨rfl, rfl⟩ := hrel
            go_wp2_with fail
            go_ret
            rw [HL.out]
            exact ⟨rfl, Kept.refl _ _⟩
        · have HR := Lib.hid hr
          clear hr
          go_wp2_with fail
          go_loopw [6] (fun i wr => ∃ k : Nat, k ≤ subs.length ∧ i = .int .i64 k ∧ allUp (subOk l.length subs.length) subs k = true ∧ Kept [] wz wr) (fun i _ => subs.length - (intOf i).toNat)
          case atStart => exact ⟨0, Nat.zero_le _, rfl, all_zero _ _, Kept.refl _ _⟩
          case round =>
            obtain ⟨k, hk, rfl, hall, hkr⟩ := hrel
            have HALL := Lib.hid hall
            have HKR := Lib.hid hkr
            clear hall hkr
            by_cases hlt : k < subs.length
            · obtain ⟨x, hx⟩ : ∃ x, subs[k]? = some x := ⟨_, List.getElem?_eq_getElem hlt⟩
              obtain ⟨x0, x1⟩ := sub_cells (HR.out k x hx)
              replace x0 := HKR.out.cell x0 (by simp)
              have X1 := Lib.hid x1
              replace x1 := HKR.out.cell x1 (by simp)
              have HX := Lib.hid hx
              clear hx
              go_wp2_with fail
              refine (within_any _ _ [x.unit] l.length (by omega) (IntsC.of_block (l := [x.unit]) (obj_new rfl) (by simp))).mono ?_
              rintro e w2 ⟨rfl, hw2⟩
              have HKA : Hid (Kept [] wz w2) := by rw [← hw2]; exact HKR.out.trans (Kept.alloc _ _ _)
              have hu : withinR l.length [x.unit] = inR l.length x.unit := by simp [withinR]
              rw [hu]
              clear hu hw2 x0 x1
              have x1 := HKA.out.cell X1.out (by simp)
              cases hw1 : inR l.length x.unit
              · have HF : Hid (mayR l subs = false) := by rw [Hid, HM2.out, all_no HX.out (by unfold subOk; rw [hw1]; rfl)]
                clear hw1
                go_wp2_with fail
                go_ret
                rw [HF.out]
                exact ⟨rfl, HKA.out⟩
              · have HW1 := Lib.hid hw1
                clear hw1
                go_wp2_with fail
                refine (within_any _ _ x.calls subs.length (by omega) ((HE.out.scalls HX.out).kept HKA.out)).mono ?_
                rintro e w1 ⟨rfl, rfl⟩
                cases hw1 : withinR subs.length x.calls
                · have HF : Hid (mayR l subs = false) := by rw [Hid, HM2.out, all_no HX.out (by unfold subOk; rw [hw1, Bool.and_false])]
                  clear hw1
                  go_wp2_with fail
                  go_ret
                  rw [HF.out]
                  exact ⟨rfl, HKA.out⟩
                · have HS : Hid (allUp (subOk l.length subs.length) subs (k + 1) = true) := by
                    have h1 := HALL.out
                    unfold allUp at h1
                    rw [Hid, allUp, all_succ HX.out, h1]
                    unfold subOk
                    rw [HW1.out, hw1]; rfl
                  clear hw1
                  go_wp2_with fail
                  go_roundw
                  case rel => exact ⟨k + 1, by omega, by go_num, HS.out, HKA.out⟩
                  case measure => simp [intOf]; omega
            · have HF : Hid (mayR l subs = true) := by
                have h1 := HALL.out
                unfold allUp at h1
                rw [List.take_of_length_le (by omega)] at h1
                rw [Hid, HM2.out, h1]
              go_wp2_with fail
              go_ret
              rw [HF.out]
              exact ⟨rfl, HKR.out⟩
    · have HF : Hid (mayR l subs = false) := by rw [Hid]; unfold mayR; simp [hB]
      go_enter Try.func14, Try.ntmps14
      go_wp2_with fail
      go_ret
      rw [HF.out]
      exact ⟨rfl, Kept.refl _ _⟩
  · have HF : Hid (mayR l subs = false) := by rw [Hid]; unfold mayR; simp [hA]
    go_enter Try.func14, Try.ntmps14
    go_wp2_with fail
    go_ret
    rw [HF.out]
    exact ⟨rfl, Kept.refl _ _⟩
end Go.Proofs.Ytoaklikkepkhfaa
