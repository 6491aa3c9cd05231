/- The law ElabLarge, walked. -/
import Derived.Test.YtoaklikkepkhfaaP7
namespace Go.Proofs.Ytoaklikkepkhfaa
open Go.RowKit

theorem and_three (a : Int) (h0 : 0 ≤ a) (h1 : a ≤ 255) : ∃ i : Nat, i ≤ 3 ∧ bits BinOp.and IntKind.u8 a 3 = (i : Int) := by
  obtain ⟨n, rfl⟩ := Int.eq_ofNat_of_zero_le h0
  have hn : n < 256 := by omega
  have key : ∀ n : Nat, n < 256 → bits BinOp.and IntKind.u8 (n : Int) 3 = ((n % 4 : Nat) : Int) := by decide +kernel
  exact ⟨n % 4, by omega, key n hn⟩

theorem unit_info : (Try.prog.info? 44).map (fun i => (i.zero, i.size, i.bytes)) = some (some (.agg #[.string ⟨#[]⟩, .bool false, .slice none 0 0, .slice none 0 0]), 4, 72) := by kernel_rfl
theorem sub_info : (Try.prog.info? 42).map (fun i => (i.zero, i.size, i.bytes)) = some (some (.agg #[.int .i64 0, .slice none 0 0]), 2, 32) := by kernel_rfl

set_option maxRecDepth 100000 in
set_option maxHeartbeats 2000000 in
theorem elabLarge_any (w : World) (a b : Int) (a0 : 0 ≤ a) (a1 : a ≤ 255) (b0 : 0 ≤ b) (b1 : b ≤ 255) :
    Calls Try.prog 4 #[.int .u8 a, .int .u8 b] w (RetB true w) := by
  obtain ⟨i, hi3, hbi⟩ := and_three a a0 a1
  obtain ⟨j, hj3, hbj⟩ := and_three b b0 b1
  obtain ⟨iu, hu, hu0, hu1, hu2⟩ := info_parts unit_info
  obtain ⟨is, hs, hs0, hs1, hs2⟩ := info_parts sub_info
  have hmbu : iu.bytes * (254 + i) ≤ 281474976710656 := by rw [hu2]; omega
  have hmbs : is.bytes * (4094 + j) ≤ 281474976710656 := by rw [hs2]; omega
  have hml : (254 + i) ≤ maxLen := by unfold maxLen; omega
  have hml2 : (4094 + j) ≤ maxLen := by unfold maxLen; omega
  go_enter Try.func4, Try.ntmps4
  go_upto_region 2 with (at_make; refine wpList_make_full _ rfl _ _ 22 rfl w.heap.size 44 iu _ 4 Try.underlying22 hu hu0 hu1 .i64 .i64 (254 + i) (254 + i) (254 + i) rfl rfl (by omega) (by omega) hmbu hml (Nat.le_refl _) ?_; intro w1 hown1 hgr1)
  have hk1 : Kept [] w w1 := Kept.of_grown hgr1 (fun _ h => by cases h)
  have HU1 := Lib.hid (zU_env hown1 (by simp))
  have HK1 := Lib.hid hk1
  clear hown1 hgr1 hk1 hmbu hml
  obtain ⟨n, hn, hn1, hn2⟩ : ∃ n, 254 + i = n ∧ 254 ≤ n ∧ n ≤ 257 := ⟨_, rfl, by omega, by omega⟩
  rw [hn] at HU1
  rw [hn]
  generalize hA : w.heap.size = A at *
  clear hA
  go_upto_region 3 with (at_make; refine wpList_make_full _ rfl _ _ 23 rfl w1.heap.size 42 is _ 2 Try.underlying23 hs hs0 hs1 .i64 .i64 (4094 + j) (4094 + j) (4094 + j) rfl rfl (by omega) (by omega) hmbs hml2 (Nat.le_refl _) ?_; intro w2 hown2 hgr2)
  have hk2 : Kept [] w1 w2 := Kept.of_grown hgr2 (fun _ h => by cases h)
  have HS2 := Lib.hid (zS_env hown2 (by simp))
  have HU2 := Lib.hid (HU1.out.kept hk2)
  have HK2 := Lib.hid (HK1.out.trans hk2)
  clear hown2 hgr2 hk2 hmbs hml2
  obtain ⟨m, hm, hm1, hm2⟩ : ∃ m, 4094 + j = m ∧ 4094 ≤ m ∧ m ≤ 4097 := ⟨_, rfl, by omega, by omega⟩
  rw [hm] at HS2
  rw [hm]
  generalize hB : w1.heap.size = B at *
  clear hB
  clear hm hn hbi hbj hu hu0 hu1 hu2 hs hs0 hs1 hs2 hi3 hj3
  have HCA := Lib.hid (order_any w2 (some ⟨A, 0, none⟩) n (zU n) (some ⟨B, 0, none⟩) m (zS m) (HU2.out.env HS2.out) (room_zero (by omega) (by omega)))
  rw [zU_len, zS_len] at HCA
  go_wp2_with fail
  refine HCA.out.mono ?_
  rintro e w3 ⟨v, xs, er, rfl, hres, hi, hk3⟩
  have HRES := Lib.hid hres
  have HI := Lib.hid hi
  have HK3 := Lib.hid (HK2.out.trans hk3)
  clear hres hi hk3
  by_cases hc : n ≤ 256 ∧ m ≤ 4096
  · obtain ⟨hc1, hc2⟩ := hc
    obtain ⟨rfl, rfl⟩ := order_zero_ok (by omega) hc1 hc2 HRES.out
    obtain ⟨av, cv, rfl, hl1, hl2, hl3, hcells⟩ := HI.out
    have hlen : (natsI (List.range n)).length = n := by simp [natsI]
    rw [hlen] at hl1
    rw [hlen]
    obtain ⟨b, off, rfl, hcl⟩ : ∃ b off, av = some ⟨b, off, none⟩ ∧ ∀ k : Nat, k < n → w3.cell? ⟨b, off + k, none⟩ = some (.int .i64 (k : Int)) := by
      rcases hcells with h | ⟨b, off, h, hcl⟩
      · rw [h] at hlen; simp at hlen; omega
      · exact ⟨b, off, h, fun k hk => hcl k k (by simp [natsI, hk])⟩
    have HCL := Lib.hid hcl
    clear hcells hl1 hl2 hl3 hlen HI HRES hcl HCA
    go_wp2_with fail
    go_loopw [9] (fun i wr => ∃ k : Nat, k ≤ n ∧ i = .int .i64 k ∧ wr = w3) (fun i _ => n - (intOf i).toNat)
    case atStart => exact ⟨0, Nat.zero_le _, rfl, rfl⟩
    case round =>
      obtain ⟨k, hk, rfl, rfl⟩ := hrel
      by_cases hlt : k < n
      · have hck := HCL.out k hlt
        go_wp2_with fail
        go_roundw
        case rel => exact ⟨k + 1, by omega, by go_num, trivial⟩
        case measure => simp [intOf]; omega
      · go_wp2_with fail
        refine (head_any _).mono ?_
        rintro e w8 ⟨rfl, hk8⟩
        have HK8 := Lib.hid hk8
        clear hk8
        go_wp2_with fail
        go_ret
        exact ⟨rfl, HK3.out.trans HK8.out⟩
  · obtain ⟨rfl, rfl⟩ := order_zero_no (by omega) hc HRES.out
    obtain ⟨av, cv, rfl, _⟩ := HI.out
    clear HI HRES HCA
    by_cases hc1 : n ≤ 256
    · have hc2 : 4096 < m := by omega
      go_wp2_with fail
      refine (head_any _).mono ?_
      rintro e w8 ⟨rfl, hk8⟩
      have HK8 := Lib.hid hk8
      clear hk8
      go_wp2_with fail
      go_ret
      exact ⟨rfl, HK3.out.trans HK8.out⟩
    · go_wp2_with fail
      refine (head_any _).mono ?_
      rintro e w8 ⟨rfl, hk8⟩
      have HK8 := Lib.hid hk8
      clear hk8
      go_wp2_with fail
      go_ret
      exact ⟨rfl, HK3.out.trans HK8.out⟩
end Go.Proofs.Ytoaklikkepkhfaa
