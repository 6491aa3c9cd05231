/- moved: numbers at their other places. -/
import Derived.Test.YtoaklikkepkhfaaP9
namespace Go.Proofs.Ytoaklikkepkhfaa
open Go.RowKit

set_option maxRecDepth 100000 in
set_option maxHeartbeats 2000000 in
theorem moved_any (w : World) (na : Option Addr) (nc : Nat) (xs : List Int) (T n : Nat) (hI : IntsIn w na xs) (hc : xs.length ≤ nc) (hm : nc ≤ 9223372036854775807)
    (hT : ∀ k : Nat, k < n → w.cell? ⟨T, k, none⟩ = some (.int .i64 (oppI n k))) (hr : ∀ x, x ∈ xs → 0 ≤ x ∧ x < n) (hl : xs.length ≤ 100000) (hn : n ≤ 100000) :
    Calls Try.prog 17 #[.slice na xs.length nc, .slice (some ⟨T, 0, none⟩) n n] w fun e w' => ∃ v, e = .returned v ∧ w'.ownsRow w.heap.size 3 1 v xs.length ((xs.map (oppI n)).map (Value.int .i64)) ∧ Kept [] w w' := by
  have HI := Lib.hid hI
  have HT := Lib.hid hT
  have HR := Lib.hid hr
  clear hI hT hr
  obtain ⟨i0, hi, hz0, hz1, hz2⟩ := info_parts int_info
  go_enter Try.func17, Try.ntmps17
  go_wp2_with fail
  go_loopw [5, 6] (fun v i wr => ∃ k : Nat, k ≤ xs.length ∧ i = .int .i64 k ∧ wr.ownsRow w.heap.size 3 1 v k (((xs.take k).map (oppI n)).map (Value.int .i64)) ∧ Kept [] w wr) (fun _ i _ => xs.length - (intOf i).toNat)
  case atStart => exact ⟨0, Nat.zero_le _, rfl, World.ownsRow_nil _ _ _ _, Kept.refl _ _⟩
  case round =>
    obtain ⟨k, hk, rfl, ho, hkr⟩ := hrel
    obtain ⟨A5, c5, rfl⟩ := own_shape ho
    have HO := Lib.hid ho
    have HK := Lib.hid hkr
    have hz := hkr.size
    clear ho hkr
    obtain ⟨wo, rfl⟩ : ∃ wo : World, wo = wr := ⟨_, rfl⟩
    by_cases hlt : k < xs.length
    · obtain ⟨x, hx⟩ : ∃ x, xs[k]? = some x := ⟨_, List.getElem?_eq_getElem hlt⟩
      obtain ⟨x0, x1⟩ := HR.out x (List.mem_of_getElem? hx)
      obtain ⟨m, rfl⟩ := Int.eq_ofNat_of_zero_le x0
      rcases HI.out with h0 | ⟨b, o, rfl, hcx⟩
      · rw [h0] at hlt; simp at hlt
      · have qx := HK.out.cell (hcx k m hx) (by simp)
        have qt := HK.out.cell (HT.out m (by omega)) (by simp)
        have HTK : Hid (((xs.take (k + 1)).map (oppI n)).map (Value.int .i64) = ((xs.take k).map (oppI n)).map (Value.int .i64) ++ [.int .i64 (oppI n m)]) := by
          obtain ⟨hk', e⟩ := List.getElem?_eq_some_iff.1 hx
          rw [Hid, List.take_succ_eq_append_getElem hk', e]
          simp
        clear hcx hx
        generalize oppI n (m : Int) = y at *
        have hA : k + 1 ≤ maxLen := by unfold maxLen; omega
        have hB : (k + 1) * 8 ≤ 140737488355328 := by omega
        have hC : w.heap.size ≤ (wo.alloc (.cells #[.int .i64 y] 3)).heap.size := by simp; omega
        go_wp2_with (at_builtin; refine wpList_append_own _ rfl _ _ 26 rfl w.heap.size 3 i0 (.int .i64 0) 1 8 Try.underlying26 hi hz0 hz1 hz2 rfl (by decide) (.slice A5 k c5) k (((xs.take k).map (oppI n)).map (Value.int .i64)) rfl (HO.out.alloc _) ⟨wo.heap.size, 0, none⟩ 1 1 [.int .i64 y] rfl rfl (cell_one_new _ _ _) (one_int _ _) hA hB hC ?_; intro vb wb hob hgb _; have HOB := Lib.hid hob; have HGB := Lib.hid hgb; clear hob hgb)
        have HKB : Hid (Kept [] w wb) := (HK.out.trans (Kept.alloc _ _ _)).grown HGB.out (fun q hq => own_at HO.out q hq)
        go_roundw
        case rel => exact ⟨k + 1, by omega, by go_num, by rw [HTK.out]; exact HOB.out, HKB.out⟩
        case measure => simp [intOf]; omega
    · obtain rfl : k = xs.length := by omega
      have HO2 := Lib.hid (by have := HO.out; rw [List.take_length] at this; exact this)
      go_wp2_with fail
      go_ret
      exact ⟨_, rfl, HO2.out, HK.out⟩
end Go.Proofs.Ytoaklikkepkhfaa
