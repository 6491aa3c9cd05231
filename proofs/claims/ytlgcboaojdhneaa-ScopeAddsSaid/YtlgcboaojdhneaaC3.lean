/- The reference's In, Same, homographs. -/
import Derived.Test.YtlgcboaojdhneaaC1
import Derived.Test.YtlgcboaojdhneaaB4
namespace Go.Proofs.Ytlgcboaojdhneaa
open Go.RowKit

set_option maxRecDepth 100000 in
set_option maxHeartbeats 1000000 in
theorem in_any (w : World) (a : Option Addr) (c : Nat) (xs : List Int) (n : Int) (hc : xs.length ≤ c) (hm : c ≤ 9223372036854775807) (hI : IntsIn w a xs) :
    Calls Try.prog 15 #[.slice a xs.length c, .int .i64 n] w (RetB (hasI xs n) w) := by
  have HI := Lib.hid hI
  clear hI
  go_enter Try.func15, Try.ntmps15
  go_wp2_with fail
  go_loopw [5] (fun i wr => ∃ k : Nat, k ≤ xs.length ∧ i = .int .i64 k ∧ hasI (xs.take k) n = false ∧ wr = w) (fun i _ => xs.length - (intOf i).toNat)
  case atStart => exact ⟨0, Nat.zero_le _, rfl, rfl, rfl⟩
  case round =>
    obtain ⟨k, hk, rfl, hn, rfl⟩ := hrel
    have HN := Lib.hid hn
    clear hn
    by_cases hlt : k < xs.length
    · obtain ⟨x, hx⟩ : ∃ x, xs[k]? = some x := ⟨_, List.getElem?_eq_getElem hlt⟩
      have HS : Hid (hasI (xs.take (k + 1)) n = (x == n)) := by
        rw [Hid, hasI_take hx, HN.out, Bool.false_or, Bool.eq_iff_iff, beq_iff_eq, beq_iff_eq]
        exact eq_comm
      have HG : Hid ((x == n) = true → hasI xs n = true) := fun h => hasI_get hx (by rw [beq_iff_eq] at h ⊢; exact h.symm)
      rcases HI.out with h0 | ⟨b, o, rfl, hcx⟩
      · rw [h0] at hlt; simp at hlt
      · have qx := hcx k x hx
        clear hcx hx
        cases hq : (x == n)
        · rw [hq] at HS
          clear HG
          go_wp2_with fail
          go_roundw
          case rel => exact ⟨k + 1, by omega, by go_num, HS.out, trivial⟩
          case measure => simp [intOf]; omega
        · have HG2 := Lib.hid (HG.out hq)
          clear HG HS
          go_wp2_with fail
          go_ret
          exact ⟨by rw [HG2.out]; try rfl, Kept.refl _ _⟩
    · obtain rfl : k = xs.length := by omega
      have HN2 := Lib.hid (by have := HN.out; rw [List.take_length] at this; exact this)
      clear HN
      go_wp2_with fail
      go_ret
      exact ⟨by rw [HN2.out]; try rfl, Kept.refl _ _⟩

def sameI (xs ys : List Int) : Bool := xs == ys
theorem sameI_take {xs ys : List Int} {k : Nat} {x y : Int} (h : xs.take k = ys.take k) (hx : xs[k]? = some x) (hy : ys[k]? = some y) (he : x = y) : xs.take (k + 1) = ys.take (k + 1) := by
  obtain ⟨h1, rfl⟩ := List.getElem?_eq_some_iff.1 hx
  obtain ⟨h2, rfl⟩ := List.getElem?_eq_some_iff.1 hy
  rw [List.take_succ_eq_append_getElem h1, List.take_succ_eq_append_getElem h2, h, he]

set_option maxRecDepth 100000 in
set_option maxHeartbeats 1000000 in
theorem same_any (w : World) (a b : Option Addr) (c d : Nat) (xs ys : List Int) (hc : xs.length ≤ c) (hm : c ≤ 9223372036854775807) (hI : IntsIn w a xs) (hc' : ys.length ≤ d) (hm' : d ≤ 9223372036854775807) (hI' : IntsIn w b ys) :
    Calls Try.prog 21 #[.slice a xs.length c, .slice b ys.length d] w (RetB (sameI xs ys) w) := by
  have HCA := Lib.hid hI
  have HCB := Lib.hid hI'
  clear hI hI'
  by_cases hl : xs.length = ys.length
  · have hlb' : ((xs.length : Int) != (ys.length : Int)) = false := by simp [hl]
    have HL := Lib.hid hl
    clear hl
    go_enter Try.func21, Try.ntmps21
    go_wp2_with fail
    go_loopw [5] (fun i wr => ∃ k : Nat, k ≤ xs.length ∧ i = .int .i64 k ∧ xs.take k = ys.take k ∧ Kept [] w wr) (fun i _ => xs.length - (intOf i).toNat)
    case atStart => exact ⟨0, Nat.zero_le _, rfl, by simp, Kept.refl _ _⟩
    case round =>
      obtain ⟨k, hk, rfl, htk, hkr⟩ := hrel
      have HTK := Lib.hid htk
      have HKR := Lib.hid hkr
      clear htk hkr
      by_cases hlt : k < xs.length
      · obtain ⟨x, hx⟩ : ∃ x, xs[k]? = some x := ⟨_, List.getElem?_eq_getElem hlt⟩
        obtain ⟨y, hy⟩ : ∃ y, ys[k]? = some y := ⟨_, List.getElem?_eq_getElem (by have := HL.out; omega)⟩
        rcases HCA.out with hn | ⟨b1, o1, rfl, hc1⟩
        · rw [hn] at hlt; simp at hlt
        rcases HCB.out with hn | ⟨b2, o2, rfl, hc2⟩
        · rw [hn] at hy; simp at hy
        have c1 := HKR.out.cell (hc1 k x hx) (by simp)
        have c2 := HKR.out.cell (hc2 k y hy) (by simp)
        have hlt2 : k < ys.length := by have := HL.out; omega
        have HX := Lib.hid hx
        have HY := Lib.hid hy
        clear hx hy hc1 hc2
        cases hxy : (x != y)
        · have HT := Lib.hid (sameI_take HTK.out HX.out HY.out (by simpa using hxy))
          go_upto_region 6 with (fail)
          go_quiet (fail)
          go_wp2_with fail
          go_roundw
          case rel => exact ⟨k + 1, by omega, by go_num, HT.out, HKR.out.trans (Kept.drewN _ _ _)⟩
          case measure => simp [intOf]; omega
        · have HS : Hid (sameI xs ys = false) := by
            unfold sameI
            rw [Hid, beq_eq_false_iff_ne]
            intro e
            subst e
            have := HX.out
            rw [HY.out] at this
            injection this with this
            subst this
            simp at hxy
          go_upto_region 6 with (fail)
          go_quiet (fail)
          go_wp2_with fail
          go_ret
          rw [HS.out]
          exact ⟨rfl, HKR.out.trans (Kept.drewN _ _ _)⟩
      · have HS : Hid (sameI xs ys = true) := by
          have h1 := HTK.out
          rw [List.take_of_length_le (by omega), List.take_of_length_le (by have := HL.out; omega)] at h1
          unfold sameI
          rw [Hid, h1]
          simp
        go_wp2_with fail
        go_ret
        rw [HS.out]
        exact ⟨rfl, HKR.out⟩
  · have hlb' : ((xs.length : Int) != (ys.length : Int)) = true := by simp; omega
    have HS : Hid (sameI xs ys = false) := by
      unfold sameI
      rw [Hid, beq_eq_false_iff_ne]
      intro e
      exact hl (by rw [e])
    clear hl
    go_enter Try.func21, Try.ntmps21
    go_wp2_with fail
    go_ret
    rw [HS.out]
    exact ⟨rfl, Kept.refl _ _⟩

set_option maxRecDepth 100000 in
set_option maxHeartbeats 2000000 in
theorem homographsRef_any (w : World) (v : TabV) (t : Tab) (a b : EntV) (hT : TabIn w v t) (ha : EntIn w a) (hb : EntIn w b) :
    Calls Try.prog 57 #[.agg (v.cells t), .agg a.cells.toArray, .agg b.cells.toArray] w (RetB (homR t a b) w) := by
  have HT := Lib.hid hT
  have HA := Lib.hid ha
  have HB := Lib.hid hb
  have HR : Hid (homR t a b = ((a.name.toList == b.name.toList) && (!ovl a || !ovl b || profR t a b))) := rfl
  clear hT ha hb
  go_enter Try.func57, Try.ntmps57
  go_upto_region 1 with (fail)
  refine wp_gen' ?_
  intro w0 hw0
  have HK0 : Hid (Kept [] w w0) := by rw [Hid, hw0]; exact ((Kept.alloc _ _ _).trans (Kept.alloc _ _ _)).trans (Kept.alloc _ _ _)
  have q0 : w0.heap[w.heap.size]? = some (.cells (v.cells t) 28 (0, 0)) := by rw [hw0]; exact obj_old (obj_old (obj_new rfl) (by simp)) (by simp; omega)
  have q1 : w0.heap[w.heap.size + 1]? = some (.cells a.cells.toArray 43 (0, 0)) := by rw [hw0]; exact obj_old (obj_new (by simp)) (by simp)
  have q2 : w0.heap[w.heap.size + 2]? = some (.cells b.cells.toArray 43 (0, 0)) := by rw [hw0]; exact obj_new (by simp)
  have c1 := ent_cell (x := a) q1 1 rfl
  have c2 := ent_cell (x := b) q2 1 rfl
  have HRA : Hid (∀ W, Kept [] w0 W → W.rangeAt (w.heap.size + 1) 0 a.cells) := fun W hk => EntV.range (hk.obj q1 (by simp))
  have HRB : Hid (∀ W, Kept [] w0 W → W.rangeAt (w.heap.size + 2) 0 b.cells) := fun W hk => EntV.range (hk.obj q2 (by simp))
  have HRV : Hid (∀ W, Kept [] w0 W → W.rangeAt w.heap.size 0 (v.cells t).toList) := fun W hk j u hu => by
    rw [Nat.zero_add, cell_of_row _ _ _ _ _ _ (hk.obj q0 (by simp))]
    simpa using hu
  have hkc : Kept [] w0 w0 := Kept.refl _ _
  clear hw0 q0 q1 q2
  cases hN : (a.name.toList == b.name.toList)
  · rw [hN] at HR
    go_wp2_with fail
    go_ret
    exact ⟨by rw [HR.out]; rfl, HK0.out⟩
  · rw [hN] at HR
    cases hA : ovl a
    · rw [hA] at HR
      go_wp2_with (first
        | (refine wpList_load_g 43 (.tmp 4) rfl rfl (w.heap.size + 1) 0 rfl a.cells _ (HRA.out _ hkc) Try.underlying43 rfl (Try.info43 a) ?_)
        | (go_at_call 20; refine (ovlRef_any _ a).mono ?_; rintro e w4 ⟨rfl, hk4⟩; replace hkc := hkc.trans hk4; clear hk4))
      go_ret
      exact ⟨by rw [HR.out]; rfl, HK0.out.trans hkc⟩
    · rw [hA] at HR
      cases hB : ovl b
      · rw [hB] at HR
        go_wp2_with (first
          | (refine wpList_load_g 43 (.tmp 4) rfl rfl (w.heap.size + 1) 0 rfl a.cells _ (HRA.out _ hkc) Try.underlying43 rfl (Try.info43 a) ?_)
          | (refine wpList_load_g 43 (.tmp 5) rfl rfl (w.heap.size + 1 + 1) 0 rfl b.cells _ (HRB.out _ hkc) Try.underlying43 rfl (Try.info43 b) ?_)
          | (go_at_call 20; refine (ovlRef_any _ _).mono ?_; rintro e w4 ⟨rfl, hk4⟩; replace hkc := hkc.trans hk4; clear hk4))
        go_ret
        exact ⟨by rw [HR.out]; rfl, HK0.out.trans hkc⟩
      · rw [hB] at HR
        go_wp2_with (first
          | (refine wpList_load_g 43 (.tmp 4) rfl rfl (w.heap.size + 1) 0 rfl a.cells _ (HRA.out _ hkc) Try.underlying43 rfl (Try.info43 a) ?_)
          | (refine wpList_load_g 43 (.tmp 5) rfl rfl (w.heap.size + 1 + 1) 0 rfl b.cells _ (HRB.out _ hkc) Try.underlying43 rfl (Try.info43 b) ?_)
          | (refine wpList_load_g 28 (.tmp 3) rfl rfl w.heap.size 0 rfl (v.cells t).toList _ (HRV.out _ hkc) Try.underlying28 rfl (Try.info28 v t) ?_)
          | (go_at_call 20; refine (ovlRef_any _ _).mono ?_; rintro e w4 ⟨rfl, hk4⟩; replace hkc := hkc.trans hk4; clear hk4)
          | (go_at_call 67; refine (profiles_any _ v t a b (HT.out.kept (HK0.out.trans hkc)) (HA.out.kept (HK0.out.trans hkc)) (HB.out.kept (HK0.out.trans hkc))).mono ?_; rintro e w4 ⟨rfl, hk4⟩; replace hkc := hkc.trans hk4; clear hk4))
        go_ret
        exact ⟨by rw [HR.out]; rfl, HK0.out.trans hkc⟩
end Go.Proofs.Ytlgcboaojdhneaa
