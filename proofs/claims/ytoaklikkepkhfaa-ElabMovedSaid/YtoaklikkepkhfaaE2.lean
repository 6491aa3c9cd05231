/- valid, joined. -/
import Derived.Test.YtoaklikkepkhfaaE1
import Derived.Laws.EntriesVeiled
namespace Go.Proofs.Ytoaklikkepkhfaa
open Go.RowKit Go.Shelf

set_option maxHeartbeats 1000000 in
theorem sub_gives (W : World) (b1 b2 B1 B2 n m : Nat) (x : SubV) (hv : VEnv W b1 b2 B1 B2 n m) (h2 : IntsC W (.slice x.ca x.calls.length x.cc) x.calls) :
    Calls Try.prog 37 #[.agg #[.int .i64 x.unit, .slice x.ca x.calls.length x.cc], .pointer (some ⟨b1, 0, none⟩), .pointer (some ⟨b2, 0, none⟩)] W (RetB (!subOk n m x) W) := by
  have HV := Lib.hid hv
  have H2 := Lib.hid h2
  clear hv h2
  go_enter Try.func37, Try.ntmps37
  go_upto_region 1 with (fail)
  refine wp_gen' ?_
  intro w1 hw1
  have hk1 : Kept [] W w1 := by rw [hw1]; exact Kept.alloc _ _ _
  have hbox : w1.heap[W.heap.size]? = some (.cells #[.int .i64 x.unit, .slice x.ca x.calls.length x.cc] 42 (0, 0)) := by rw [hw1]; exact heap_alloc_new _ _
  have HK1 := Lib.hid hk1
  have c0 : w1.cell? ⟨W.heap.size, 0, none⟩ = some (.int .i64 x.unit) := by rw [cell_of_row _ _ _ _ _ _ hbox]; rfl
  have c1 : w1.cell? ⟨W.heap.size, 1, none⟩ = some (.slice x.ca x.calls.length x.cc) := by rw [cell_of_row _ _ _ _ _ _ hbox]; rfl
  have v1 := (HV.out.kept hk1).u
  have v2 := (HV.out.kept hk1).s
  clear hw1 hbox hk1
  go_wp2_with fail
  refine (out_gives B1 n x.unit w1 (HV.out.kept HK1.out).n).mono ?_
  rintro e w2 ⟨rfl, rfl⟩
  cases hw : inR n x.unit
  · have HF : Hid ((!subOk n m x) = true) := by rw [Hid]; unfold subOk; rw [hw]; rfl
    clear hw
    go_wp2_with fail
    go_ret
    rw [HF.out]
    exact ⟨rfl, HK1.out⟩
  · have HF : Hid ((!subOk n m x) = !withinR m x.calls) := by rw [Hid]; unfold subOk; rw [hw]; rfl
    clear hw
    go_wp2_with fail
    refine (contains_out w1 _ x.calls B2 m (H2.out.kept HK1.out) (HV.out.kept HK1.out).m).mono ?_
    rintro e w3 ⟨rfl, hk3⟩
    have HK3 := Lib.hid (HK1.out.trans hk3)
    clear hk3
    rw [← HF.out]
    go_wp2_with fail
    go_ret
    exact ⟨rfl, HK3.out⟩


/-- The index of the first that fails, or -1. -/
def IdxOk (a : Bool) (z : Int) : Prop := (a = true ∧ z = -1) ∨ (a = false ∧ 0 ≤ z)
theorem IdxOk.none : IdxOk true (-1) := .inl ⟨rfl, rfl⟩
theorem IdxOk.some (k : Nat) : IdxOk false (k : Int) := .inr ⟨rfl, by omega⟩
theorem IdxOk.ge {a : Bool} {z : Int} (h : IdxOk a z) : (!a) = decide (0 ≤ z) := by
  rcases h with ⟨rfl, rfl⟩ | ⟨rfl, h⟩
  · rfl
  · simp [h]

set_option maxRecDepth 100000 in
set_option maxHeartbeats 1000000 in
theorem index_units (w : World) (ua : Option Addr) (uc : Nat) (l : List UnitV) (sa : Option Addr) (sc : Nat) (subs : List SubV) (b1 b2 B1 B2 n m : Nat) (hE : Env w ua uc l sa sc subs) (hv : VEnv w b1 b2 B1 B2 n m) :
    Calls Try.prog 48 #[.slice ua l.length uc, .func (.func 35) #[] #[.pointer (some ⟨b1, 0, none⟩), .pointer (some ⟨b2, 0, none⟩)]] w fun e w' => ∃ z : Int, e = .returned (.int .i64 z) ∧ IdxOk (l.all (unitOk n m)) z ∧ Kept [] w w' := by
  have HE := Lib.hid hE
  have HV := Lib.hid hv
  have q1 := hE.ul
  have q2 := hE.um
  have q3 := hE.sl
  have q4 := hE.sm
  clear hE hv
  rcases HE.out.us.split with h0 | ⟨b, o, rfl, hr⟩
  · have HL : Hid (IdxOk (l.all (unitOk n m)) (-1)) := by
      have := List.eq_nil_of_length_eq_zero (Nat.le_zero.1 h0)
      rw [Hid, this]; exact IdxOk.none
    go_enter Try.func48, Try.ntmps48
    go_wp2_with fail
    go_loopw [8] (fun i wr => i = .int .i64 0 ∧ wr = w) (fun _ _ => 0)
    case atStart => exact ⟨rfl, rfl⟩
    case round =>
      obtain ⟨rfl, rfl⟩ := hrel
      go_wp2_with fail
      go_ret
      exact ⟨_, rfl, HL.out, Kept.refl _ _⟩
  · have HR := Lib.hid hr
    clear hr
    go_enter Try.func48, Try.ntmps48
    go_wp2_with fail
    go_loopw [8] (fun i wr => ∃ k : Nat, k ≤ l.length ∧ i = .int .i64 k ∧ allUp (unitOk n m) l k = true ∧ Kept [] w wr) (fun i _ => l.length - (intOf i).toNat)
    case atStart => exact ⟨0, Nat.zero_le _, rfl, all_zero _ _, Kept.refl _ _⟩
    case round =>
      obtain ⟨k, hk, rfl, hall, hkr⟩ := hrel
      have HALL := Lib.hid hall
      have HKR := Lib.hid hkr
      clear hall hkr
      by_cases hlt : k < l.length
      · obtain ⟨x, hx⟩ : ∃ x, l[k]? = some x := ⟨_, List.getElem?_eq_getElem hlt⟩
        obtain ⟨x0, x1, x2, x3⟩ := unit_cells (HR.out k x hx)
        replace x0 := HKR.out.cell x0 (by simp)
        replace x1 := HKR.out.cell x1 (by simp)
        replace x2 := HKR.out.cell x2 (by simp)
        replace x3 := HKR.out.cell x3 (by simp)
        have HX := Lib.hid hx
        clear hx
        go_wp2_with fail
        refine (unit_gives _ b1 b2 B1 B2 n m x (HV.out.kept HKR.out) ((HE.out.needs HX.out).kept HKR.out) ((HE.out.calls HX.out).kept HKR.out)).mono ?_
        rintro e w2 ⟨rfl, hk2⟩
        have HK2 := Lib.hid (HKR.out.trans hk2)
        clear hk2 x0 x1 x2 x3
        cases hw : unitOk n m x
        · have HF : Hid (IdxOk (l.all (unitOk n m)) k) := by rw [Hid, all_no HX.out hw]; exact IdxOk.some k
          clear hw
          go_wp2_with fail
          go_ret
          exact ⟨_, rfl, HF.out, HK2.out⟩
        · have HS : Hid (allUp (unitOk n m) l (k + 1) = true) := by
            have h1 := HALL.out
            unfold allUp at h1
            rw [Hid, allUp, all_succ HX.out, h1, hw]; rfl
          clear hw
          go_wp2_with fail
          go_roundw
          case rel => exact ⟨k + 1, by omega, by go_num, HS.out, HK2.out⟩
          case measure => simp [intOf]; omega
      · have HF : Hid (IdxOk (l.all (unitOk n m)) (-1)) := by
          have h1 := HALL.out
          unfold allUp at h1
          rw [List.take_of_length_le (by omega)] at h1
          rw [Hid, h1]; exact IdxOk.none
        go_wp2_with fail
        go_ret
        exact ⟨_, rfl, HF.out, HKR.out⟩

set_option maxHeartbeats 1000000 in
theorem contains_units (w : World) (ua : Option Addr) (uc : Nat) (l : List UnitV) (sa : Option Addr) (sc : Nat) (subs : List SubV) (b1 b2 B1 B2 n m : Nat) (hE : Env w ua uc l sa sc subs) (hv : VEnv w b1 b2 B1 B2 n m) :
    Calls Try.prog 34 #[.slice ua l.length uc, .func (.func 35) #[] #[.pointer (some ⟨b1, 0, none⟩), .pointer (some ⟨b2, 0, none⟩)]] w (RetB (!l.all (unitOk n m)) w) := by
  have HE := Lib.hid hE
  have HV := Lib.hid hv
  clear hE hv
  go_enter Try.func34, Try.ntmps34
  go_wp2_with fail
  refine (index_units w ua uc l sa sc subs b1 b2 B1 B2 n m HE.out HV.out).mono ?_
  rintro e w2 ⟨z, rfl, hz, hk2⟩
  have HK2 := Lib.hid hk2
  have HZ := Lib.hid hz.ge
  clear hk2 hz
  generalize l.all (unitOk n m) = al at *
  go_wp2_with fail
  go_ret
  exact ⟨by rw [HZ.out]; rfl, HK2.out⟩

set_option maxRecDepth 100000 in
set_option maxHeartbeats 1000000 in
theorem index_subs (w : World) (ua : Option Addr) (uc : Nat) (l : List UnitV) (sa : Option Addr) (sc : Nat) (subs : List SubV) (b1 b2 B1 B2 n m : Nat) (hE : Env w ua uc l sa sc subs) (hv : VEnv w b1 b2 B1 B2 n m) :
    Calls Try.prog 49 #[.slice sa subs.length sc, .func (.func 37) #[] #[.pointer (some ⟨b1, 0, none⟩), .pointer (some ⟨b2, 0, none⟩)]] w fun e w' => ∃ z : Int, e = .returned (.int .i64 z) ∧ IdxOk (subs.all (subOk n m)) z ∧ Kept [] w w' := by
  have HE := Lib.hid hE
  have HV := Lib.hid hv
  have q1 := hE.ul
  have q2 := hE.um
  have q3 := hE.sl
  have q4 := hE.sm
  clear hE hv
  rcases HE.out.ss.split with h0 | ⟨b, o, rfl, hr⟩
  · have HL : Hid (IdxOk (subs.all (subOk n m)) (-1)) := by
      have := List.eq_nil_of_length_eq_zero (Nat.le_zero.1 h0)
      rw [Hid, this]; exact IdxOk.none
    go_enter Try.func49, Try.ntmps49
    go_wp2_with fail
    go_loopw [8] (fun i wr => i = .int .i64 0 ∧ wr = w) (fun _ _ => 0)
    case atStart => exact ⟨rfl, rfl⟩
    case round =>
      obtain ⟨rfl, rfl⟩ := hrel
      go_wp2_with fail
      go_ret
      exact ⟨_, rfl, HL.out, Kept.refl _ _⟩
  · have HR := Lib.hid hr
    clear hr
    go_enter Try.func49, Try.ntmps49
    go_wp2_with fail
    go_loopw [8] (fun i wr => ∃ k : Nat, k ≤ subs.length ∧ i = .int .i64 k ∧ allUp (subOk n m) subs k = true ∧ Kept [] w wr) (fun i _ => subs.length - (intOf i).toNat)
    case atStart => exact ⟨0, Nat.zero_le _, rfl, all_zero _ _, Kept.refl _ _⟩
    case round =>
      obtain ⟨k, hk, rfl, hall, hkr⟩ := hrel
      have HALL := Lib.hid hall
      have HKR := Lib.hid hkr
      clear hall hkr
      by_cases hlt : k < subs.length
      · obtain ⟨x, hx⟩ : ∃ x, subs[k]? = some x := ⟨_, List.getElem?_eq_getElem hlt⟩
        obtain ⟨x0, x1⟩ := sub_cells (HR.out k x hx)
        replace x0 := HKR.out.cell x0 (by simp)
        replace x1 := HKR.out.cell x1 (by simp)
        have HX := Lib.hid hx
        clear hx
        go_wp2_with fail
        refine (sub_gives _ b1 b2 B1 B2 n m x (HV.out.kept HKR.out) ((HE.out.scalls HX.out).kept HKR.out)).mono ?_
        rintro e w2 ⟨rfl, hk2⟩
        have HK2 := Lib.hid (HKR.out.trans hk2)
        clear hk2 x0 x1
        cases hw : subOk n m x
        · have HF : Hid (IdxOk (subs.all (subOk n m)) k) := by rw [Hid, all_no HX.out hw]; exact IdxOk.some k
          clear hw
          go_wp2_with fail
          go_ret
          exact ⟨_, rfl, HF.out, HK2.out⟩
        · have HS : Hid (allUp (subOk n m) subs (k + 1) = true) := by
            have h1 := HALL.out
            unfold allUp at h1
            rw [Hid, allUp, all_succ HX.out, h1, hw]; rfl
          clear hw
          go_wp2_with fail
          go_roundw
          case rel => exact ⟨k + 1, by omega, by go_num, HS.out, HK2.out⟩
          case measure => simp [intOf]; omega
      · have HF : Hid (IdxOk (subs.all (subOk n m)) (-1)) := by
          have h1 := HALL.out
          unfold allUp at h1
          rw [List.take_of_length_le (by omega)] at h1
          rw [Hid, h1]; exact IdxOk.none
        go_wp2_with fail
        go_ret
        exact ⟨_, rfl, HF.out, HKR.out⟩

set_option maxHeartbeats 1000000 in
theorem contains_subs (w : World) (ua : Option Addr) (uc : Nat) (l : List UnitV) (sa : Option Addr) (sc : Nat) (subs : List SubV) (b1 b2 B1 B2 n m : Nat) (hE : Env w ua uc l sa sc subs) (hv : VEnv w b1 b2 B1 B2 n m) :
    Calls Try.prog 36 #[.slice sa subs.length sc, .func (.func 37) #[] #[.pointer (some ⟨b1, 0, none⟩), .pointer (some ⟨b2, 0, none⟩)]] w (RetB (!subs.all (subOk n m)) w) := by
  have HE := Lib.hid hE
  have HV := Lib.hid hv
  clear hE hv
  go_enter Try.func36, Try.ntmps36
  go_wp2_with fail
  refine (index_subs w ua uc l sa sc subs b1 b2 B1 B2 n m HE.out HV.out).mono ?_
  rintro e w2 ⟨z, rfl, hz, hk2⟩
  have HK2 := Lib.hid hk2
  have HZ := Lib.hid hz.ge
  clear hk2 hz
  generalize subs.all (subOk n m) = al at *
  go_wp2_with fail
  go_ret
  exact ⟨by rw [HZ.out]; rfl, HK2.out⟩

set_option maxRecDepth 100000 in
set_option maxHeartbeats 2000000 in
theorem valid_any (w : World) (ua : Option Addr) (uc : Nat) (l : List UnitV) (sa : Option Addr) (sc : Nat) (subs : List SubV) (hE : Env w ua uc l sa sc subs) :
    Calls Try.prog 19 #[.slice ua l.length uc, .slice sa subs.length sc] w (RetB (mayR l subs) w) := by
  have HE := Lib.hid hE
  have q1 := hE.ul
  have q2 := hE.um
  have q3 := hE.sl
  have q4 := hE.sm
  clear hE
  go_enter Try.func19, Try.ntmps19
  go_upto_region 3 with (go_at_call 32; refine (outside_any _ _).mono ?_; rintro e w' ⟨rfl, rfl⟩)
  refine wp_gen' ?_
  intro w1 hw1
  have hk1 : Kept [] w w1 := by rw [hw1]; exact (((Kept.alloc _ _ _).trans (Kept.alloc _ _ _)).trans (Kept.alloc _ _ _)).trans (Kept.alloc _ _ _)
  have HV : Hid (VEnv w1 (w.heap.size + 1 + 1) (w.heap.size + 1 + 1 + 1) w.heap.size (w.heap.size + 1) l.length subs.length) := by
    rw [hw1]
    exact ⟨(cell_of_row _ _ _ _ _ _ (obj_old (obj_new (by simp)) (by simp))).trans rfl, (cell_of_row _ _ _ _ _ _ (obj_new (by simp))).trans rfl,
      (cell_of_row _ _ _ _ _ _ (obj_old (obj_old (obj_old (obj_new rfl) (by simp)) (by first | (simp; done) | (simp; omega))) (by first | (simp; done) | (simp; omega)))).trans rfl,
      (cell_of_row _ _ _ _ _ _ (obj_old (obj_old (obj_new (by simp)) (by simp)) (by first | (simp; done) | (simp; omega)))).trans rfl⟩
  have HK1 := Lib.hid hk1
  clear hk1 hw1
  by_cases hA : l.length ≤ 256
  · by_cases hB : subs.length ≤ 4096
    · have HM : Hid (mayR l subs = (l.all (unitOk l.length subs.length) && subs.all (subOk l.length subs.length))) := by rw [Hid]; unfold mayR; simp [hA, hB]
      go_wp2_with fail
      refine (contains_units w1 ua uc l sa sc subs _ _ _ _ l.length subs.length (HE.out.kept HK1.out) HV.out).mono ?_
      rintro e w2 ⟨rfl, hk2⟩
      have HK2 := Lib.hid hk2
      clear hk2
      cases hu : l.all (unitOk l.length subs.length)
      · have HF : Hid (mayR l subs = false) := by rw [Hid, HM.out, hu]; rfl
        clear hu
        go_wp2_with fail
        go_ret
        rw [HF.out]
        exact ⟨rfl, HK1.out.trans HK2.out⟩
      · have HF : Hid (mayR l subs = subs.all (subOk l.length subs.length)) := by rw [Hid, HM.out, hu]; rfl
        clear hu
        go_wp2_with fail
        refine (contains_subs w2 ua uc l sa sc subs _ _ _ _ l.length subs.length (HE.out.kept (HK1.out.trans HK2.out)) (HV.out.kept HK2.out)).mono ?_
        rintro e w3 ⟨rfl, hk3⟩
        have HK3 := Lib.hid hk3
        clear hk3
        generalize subs.all (subOk l.length subs.length) = sb at *
        cases sb
        all_goals
          go_wp2_with fail
          go_ret
          exact ⟨by rw [HF.out]; rfl, (HK1.out.trans HK2.out).trans HK3.out⟩
    · have HF : Hid (mayR l subs = false) := by rw [Hid]; unfold mayR; simp [hB]
      go_wp2_with fail
      go_ret
      rw [HF.out]
      exact ⟨rfl, HK1.out⟩
  · have HF : Hid (mayR l subs = false) := by rw [Hid]; unfold mayR; simp [hA]
    go_wp2_with fail
    go_ret
    rw [HF.out]
    exact ⟨rfl, HK1.out⟩
end Go.Proofs.Ytoaklikkepkhfaa
