/- The examples. -/
import Derived.Test.YtgdjhhfbpalkdaaGreatL5
namespace Go.Proofs.YtgdjhhfbpalkdaaGreat
open Go.RowKit
theorem no_q {w : World} : ∀ q ∈ ([] : List Nat), q < w.heap.size := fun q hq => by cases hq
theorem num_k (w : World) (n t : Int) (d : Nat) (h : -9223372036854775808 ≤ n ∧ n ≤ 9223372036854775807) : ExK [] w (d + 1) (numX n t) := .nil (num_in _ _ _ _ h)
theorem name_k (w : World) (e t : Int) (d : Nat) : ExK [] w (d + 1) (nameX e t) := .nil (name_in _ _ _ _)
theorem ev_cover1 (a b : Option Addr) (A1 A2 l1 l2 : Option Addr) (c1 c2 k1 k2 : Nat) : ∀ q, CovIs (someT a b) 1 2 [⟨A1, c1, [⟨1, l1, k1, [nameX 2 3]⟩]⟩, ⟨A2, c2, [⟨1, l2, k2, [nameX 1 3]⟩]⟩] q → q = 72 := by
  intro q h
  obtain ⟨s, hp, _, rfl⟩ := cov_ok h (all_two (by kernel_rfl) (by kernel_rfl))
  rcases perm_two (show s.Perm [(0, 0), (0, 1)] from hp) with rfl | rfl
  · kernel_rfl
  · kernel_rfl
theorem ev_cover2 (a b : Option Addr) (A1 A2 l1 l2 : Option Addr) (c1 c2 k1 k2 : Nat) : ∀ q, CovIs (someT a b) 1 2 [⟨A1, c1, [⟨1, l1, k1, [nameX 2 3]⟩]⟩, ⟨A2, c2, [⟨3, l2, k2, []⟩]⟩] q → q = 0 := by
  intro q h
  obtain ⟨s, hp, _, rfl⟩ := cov_ok h (all_two (by kernel_rfl) (by kernel_rfl))
  rcases perm_one (show s.Perm [(0, 0)] from hp) with rfl
  kernel_rfl
theorem ev_cover3 (a b : Option Addr) (A1 A2 l1 l2 : Option Addr) (c1 c2 k1 k2 : Nat) : ∀ q, CovIs (someT a b) 1 2 [⟨A1, c1, [⟨1, l1, k1, [nameX 2 3]⟩]⟩, ⟨A2, c2, [⟨1, l2, k2, [nameX 4 3]⟩]⟩] q → q = 72 := by
  intro q h
  obtain ⟨s, hp, _, rfl⟩ := cov_ok h (all_two (by kernel_rfl) (by kernel_rfl))
  rcases perm_two (show s.Perm [(0, 0), (2, 2)] from hp) with rfl | rfl
  · kernel_rfl
  · kernel_rfl
set_option maxRecDepth 100000 in
set_option maxHeartbeats 8000000 in
theorem works_any (w : World) : Calls Tryz.prog 10 #[] w (RetV (.bool true) w) := by
  go_enter Tryz.func10, Tryz.ntmps10
  go_wp2_with fail
  refine (name_any _ _ _).mono ?_; rintro e w2 ⟨rfl, hk_w2⟩; haveI p_w2 : PrevWorld w2 _ := ⟨hk_w2⟩; have hz_w2 : w.heap.size ≤ w2.heap.size := Kept.size (by repeat (first | with_reducible exact HK.out | with_reducible exact Kept.refl _ _ | with_reducible refine Kept.prev ?_ | with_reducible refine Kept.alloc' ?_ _ | with_reducible refine Kept.drew' ?_ | with_reducible refine Kept.setB ?_ _ _ _ (by omega) | with_reducible refine Kept.row' ?_ _ _ (by omega) | with_reducible refine Kept.map' ?_ _ _ (by omega))); clear hk_w2
  go_wp2_with fail
  refine (name_any _ _ _).mono ?_; rintro e w3 ⟨rfl, hk_w3⟩; haveI p_w3 : PrevWorld w3 _ := ⟨hk_w3⟩; have hz_w3 : w.heap.size ≤ w3.heap.size := Kept.size (by repeat (first | with_reducible exact HK.out | with_reducible exact Kept.refl _ _ | with_reducible refine Kept.prev ?_ | with_reducible refine Kept.alloc' ?_ _ | with_reducible refine Kept.drew' ?_ | with_reducible refine Kept.setB ?_ _ _ _ (by omega) | with_reducible refine Kept.row' ?_ _ _ (by omega) | with_reducible refine Kept.map' ?_ _ _ (by omega))); clear hk_w3
  go_wp2_with fail
  refine (number_any _ _ _).mono ?_; rintro e w4 ⟨rfl, hk_w4⟩; haveI p_w4 : PrevWorld w4 _ := ⟨hk_w4⟩; have hz_w4 : w.heap.size ≤ w4.heap.size := Kept.size (by repeat (first | with_reducible exact HK.out | with_reducible exact Kept.refl _ _ | with_reducible refine Kept.prev ?_ | with_reducible refine Kept.alloc' ?_ _ | with_reducible refine Kept.drew' ?_ | with_reducible refine Kept.setB ?_ _ _ _ (by omega) | with_reducible refine Kept.row' ?_ _ _ (by omega) | with_reducible refine Kept.map' ?_ _ _ (by omega))); clear hk_w4
  go_wp2_with fail
  refine (number_any _ _ _).mono ?_; rintro e w5 ⟨rfl, hk_w5⟩; haveI p_w5 : PrevWorld w5 _ := ⟨hk_w5⟩; have hz_w5 : w.heap.size ≤ w5.heap.size := Kept.size (by repeat (first | with_reducible exact HK.out | with_reducible exact Kept.refl _ _ | with_reducible refine Kept.prev ?_ | with_reducible refine Kept.alloc' ?_ _ | with_reducible refine Kept.drew' ?_ | with_reducible refine Kept.setB ?_ _ _ _ (by omega) | with_reducible refine Kept.row' ?_ _ _ (by omega) | with_reducible refine Kept.map' ?_ _ _ (by omega))); clear hk_w5
  go_wp2_with fail
  refine (two_any [] _ 4 (numX 1 1) (numX 0 1) 1 1 no_q (num_k _ _ _ _ (by decide)) (num_k _ _ _ _ (by decide))).mono ?_
  rintro e w6 ⟨_, rfl, ⟨B6, rfl⟩, i6, hk6⟩
  haveI p_w6 : PrevWorld w6 _ := ⟨hk6⟩
  go_wp2_with fail
  refine (number_any _ _ _).mono ?_; rintro e w7 ⟨rfl, hk_w7⟩; haveI p_w7 : PrevWorld w7 _ := ⟨hk_w7⟩; have hz_w7 : w.heap.size ≤ w7.heap.size := Kept.size (by repeat (first | with_reducible exact HK.out | with_reducible exact Kept.refl _ _ | with_reducible refine Kept.prev ?_ | with_reducible refine Kept.alloc' ?_ _ | with_reducible refine Kept.drew' ?_ | with_reducible refine Kept.setB ?_ _ _ _ (by omega) | with_reducible refine Kept.row' ?_ _ _ (by omega) | with_reducible refine Kept.map' ?_ _ _ (by omega))); clear hk_w7
  go_wp2_with fail
  refine (two_any [] _ 7 _ (numX 1 1) 2 2 no_q (i6.kept (by repeat (first | with_reducible exact HK.out | with_reducible exact Kept.refl _ _ | with_reducible refine Kept.prev ?_ | with_reducible refine Kept.alloc' ?_ _ | with_reducible refine Kept.drew' ?_ | with_reducible refine Kept.setB ?_ _ _ _ (by omega) | with_reducible refine Kept.row' ?_ _ _ (by omega) | with_reducible refine Kept.map' ?_ _ _ (by omega)))) (num_k _ _ _ _ (by decide))).mono ?_
  rintro e w8 ⟨_, rfl, ⟨B8, rfl⟩, i8, hk8⟩
  haveI p_w8 : PrevWorld w8 _ := ⟨hk8⟩
  have HF := Lib.hid (fun w' (hk : Kept [] w8 w') => i8.kept hk)
  clear hk6 hk8 i6 i8
  go_wp2_with fail
  refine wp_region_each [⟨16, [], .eq (.agg (nameX 5 1).cells.toArray)⟩, ⟨17, [], .eq (.agg (numX 2 1).cells.toArray)⟩, ⟨18, [16, 17], .ex [] 2 (fun x => ∃ B, x = twoX B 3 (nameX 5 1) (numX 2 1) 1)⟩, ⟨19, [18], .eq (.bool true)⟩, ⟨20, [19], .eq (.bool true)⟩, ⟨21, [20], .eq (.agg (numX 2147483647 1).cells.toArray)⟩, ⟨22, [20], .eq (.agg (nameX 5 1).cells.toArray)⟩, ⟨23, [21, 22, 20], .ex [] 2 (fun x => ∃ B, x = twoX B 1 (numX 2147483647 1) (nameX 5 1) 1)⟩, ⟨24, [23, 20], .eq (.bool true)⟩, ⟨25, [20, 24], .eq (.bool true)⟩, ⟨26, [25], .eq (.bool true)⟩, ⟨27, [26], .eq (.agg (nameX 5 1).cells.toArray)⟩, ⟨28, [26], .eq (.agg (numX 1 1).cells.toArray)⟩, ⟨29, [27, 28, 26], .ex [] 2 (fun x => ∃ B, x = twoX B 11 (nameX 5 1) (numX 1 1) 2)⟩, ⟨30, [26], .eq (.agg (twoX B8 7 (twoX B6 4 (numX 1 1) (numX 0 1) 1) (numX 1 1) 2).cells.toArray)⟩, ⟨31, [29, 30, 26], .ex [] 4 (fun x => ∃ B C, x = twoX B 17 (twoX C 11 (nameX 5 1) (numX 1 1) 2) (twoX B8 7 (twoX B6 4 (numX 1 1) (numX 0 1) 1) (numX 1 1) 2) 2)⟩, ⟨32, [31, 26], .eq (.bool true)⟩, ⟨33, [26, 32], .eq (.bool true)⟩, ⟨4, [33], .eq (.bool true)⟩] (by kernel_rfl) (by kernel_rfl) ?_
  apply Exists.intro
  refine ⟨fun vs => ?_, ?_⟩
  · simp only [List.map_cons, List.map_nil, puts, Act.put, List.setIfInBounds_toArray, List.set_cons_zero, List.set_cons_succ]
    exact rfl
  refine ⟨⟨fun vs w10 hk hg => ?_, fun vs w10 hk hg => ?_, fun vs w10 hk hg => ?_, fun vs w10 hk hg => ?_, fun vs w10 hk hg => ?_, fun vs w10 hk hg => ?_, fun vs w10 hk hg => ?_, fun vs w10 hk hg => ?_, fun vs w10 hk hg => ?_, fun vs w10 hk hg => ?_, fun vs w10 hk hg => ?_, fun vs w10 hk hg => ?_, fun vs w10 hk hg => ?_, fun vs w10 hk hg => ?_, fun vs w10 hk hg => ?_, fun vs w10 hk hg => ?_, fun vs w10 hk hg => ?_, fun vs w10 hk hg => ?_, fun vs w10 hk hg => ?_, trivial⟩, fun vs w10 hk hg => ?_⟩
  all_goals
    haveI p_w10 : PrevWorld w10 _ := ⟨hk⟩
    have hz_w10 := hk.size
    clear hk
    (try simp only [given, allGiven, look, SP.eq_p, SP.ex_p, Nat.reduceEqDiff, reduceIte, and_true] at hg)
    (try simp only [SP.tab_p, SP.row_p, SP.box_p] at hg)
  · clear hg
    go_wp2_with fail
    exact ⟨(by repeat (first | with_reducible exact HK.out | with_reducible exact Kept.refl _ _ | with_reducible refine Kept.prev ?_ | with_reducible refine Kept.alloc' ?_ _ | with_reducible refine Kept.drew' ?_ | with_reducible refine Kept.setB ?_ _ _ _ (by omega) | with_reducible refine Kept.row' ?_ _ _ (by omega) | with_reducible refine Kept.map' ?_ _ _ (by omega))), rfl, rfl⟩
  · clear hg
    go_wp2_with fail
    refine (number_any _ _ _).mono ?_
    rintro e w9 ⟨rfl, hk9⟩
    go_wp2_with fail
    exact ⟨hk9, rfl, rfl⟩
  · obtain ⟨e16, e17⟩ := hg
    (try simp only [e16, e17])
    go_wp2_with fail
    refine (two_any [] _ 3 (nameX 5 1) (numX 2 1) 1 1 no_q (name_k _ _ _ _) (num_k _ _ _ _ (by decide))).mono ?_
    rintro e w9 ⟨x, rfl, hp, hi, hk9⟩
    go_wp2_with fail
    exact ⟨hk9, rfl, x, rfl, hp, hi⟩
  · obtain ⟨x18, e18, ⟨B18, rfl⟩, i18⟩ := hg
    go_wp2_with fail
    refine (gives_true _ _ 2 6 0 i18.in (fun a b => by kernel_rfl)).mono ?_
    rintro e w9 ⟨rfl, hk9⟩
    go_wp2_with fail
    exact ⟨hk9, rfl, rfl⟩
  · obtain e19 := hg
    (try simp only [e19])
    go_wp2_with fail
    exact ⟨(by repeat (first | with_reducible exact HK.out | with_reducible exact Kept.refl _ _ | with_reducible refine Kept.prev ?_ | with_reducible refine Kept.alloc' ?_ _ | with_reducible refine Kept.drew' ?_ | with_reducible refine Kept.setB ?_ _ _ _ (by omega) | with_reducible refine Kept.row' ?_ _ _ (by omega) | with_reducible refine Kept.map' ?_ _ _ (by omega))), rfl, rfl⟩
  · obtain e20 := hg
    (try simp only [e20])
    go_wp2_with fail
    refine (number_any _ _ _).mono ?_
    rintro e w9 ⟨rfl, hk9⟩
    go_wp2_with fail
    exact ⟨hk9, rfl, rfl⟩
  · obtain e20 := hg
    (try simp only [e20])
    go_wp2_with fail
    exact ⟨(by repeat (first | with_reducible exact HK.out | with_reducible exact Kept.refl _ _ | with_reducible refine Kept.prev ?_ | with_reducible refine Kept.alloc' ?_ _ | with_reducible refine Kept.drew' ?_ | with_reducible refine Kept.setB ?_ _ _ _ (by omega) | with_reducible refine Kept.row' ?_ _ _ (by omega) | with_reducible refine Kept.map' ?_ _ _ (by omega))), rfl, rfl⟩
  · obtain ⟨e21, e22, e20⟩ := hg
    (try simp only [e21, e22, e20])
    go_wp2_with fail
    refine (two_any [] _ 1 (numX 2147483647 1) (nameX 5 1) 1 1 no_q (num_k _ _ _ _ (by decide)) (name_k _ _ _ _)).mono ?_
    rintro e w9 ⟨x, rfl, hp, hi, hk9⟩
    go_wp2_with fail
    exact ⟨hk9, rfl, x, rfl, hp, hi⟩
  · obtain ⟨⟨x23, e23, ⟨B23, rfl⟩, i23⟩, e20⟩ := hg
    (try simp only [e20])
    go_wp2_with fail
    refine (gives_true _ _ 2 0 71 i23.in (fun a b => by kernel_rfl)).mono ?_
    rintro e w9 ⟨rfl, hk9⟩
    go_wp2_with fail
    exact ⟨hk9, rfl, rfl⟩
  · obtain ⟨e20, e24⟩ := hg
    (try simp only [e20, e24])
    go_wp2_with fail
    exact ⟨(by repeat (first | with_reducible exact HK.out | with_reducible exact Kept.refl _ _ | with_reducible refine Kept.prev ?_ | with_reducible refine Kept.alloc' ?_ _ | with_reducible refine Kept.drew' ?_ | with_reducible refine Kept.setB ?_ _ _ _ (by omega) | with_reducible refine Kept.row' ?_ _ _ (by omega) | with_reducible refine Kept.map' ?_ _ _ (by omega))), rfl, rfl⟩
  · obtain e25 := hg
    (try simp only [e25])
    go_wp2_with fail
    exact ⟨(by repeat (first | with_reducible exact HK.out | with_reducible exact Kept.refl _ _ | with_reducible refine Kept.prev ?_ | with_reducible refine Kept.alloc' ?_ _ | with_reducible refine Kept.drew' ?_ | with_reducible refine Kept.setB ?_ _ _ _ (by omega) | with_reducible refine Kept.row' ?_ _ _ (by omega) | with_reducible refine Kept.map' ?_ _ _ (by omega))), rfl, rfl⟩
  · obtain e26 := hg
    (try simp only [e26])
    go_wp2_with fail
    exact ⟨(by repeat (first | with_reducible exact HK.out | with_reducible exact Kept.refl _ _ | with_reducible refine Kept.prev ?_ | with_reducible refine Kept.alloc' ?_ _ | with_reducible refine Kept.drew' ?_ | with_reducible refine Kept.setB ?_ _ _ _ (by omega) | with_reducible refine Kept.row' ?_ _ _ (by omega) | with_reducible refine Kept.map' ?_ _ _ (by omega))), rfl, rfl⟩
  · obtain e26 := hg
    (try simp only [e26])
    go_wp2_with fail
    refine (number_any _ _ _).mono ?_
    rintro e w9 ⟨rfl, hk9⟩
    go_wp2_with fail
    exact ⟨hk9, rfl, rfl⟩
  · obtain ⟨e27, e28, e26⟩ := hg
    (try simp only [e27, e28, e26])
    go_wp2_with fail
    refine (two_any [] _ 11 (nameX 5 1) (numX 1 1) 2 1 no_q (name_k _ _ _ _) (num_k _ _ _ _ (by decide))).mono ?_
    rintro e w9 ⟨x, rfl, hp, hi, hk9⟩
    go_wp2_with fail
    exact ⟨hk9, rfl, x, rfl, hp, hi⟩
  · obtain e26 := hg
    (try simp only [e26])
    go_wp2_with fail
    exact ⟨(by repeat (first | with_reducible exact HK.out | with_reducible exact Kept.refl _ _ | with_reducible refine Kept.prev ?_ | with_reducible refine Kept.alloc' ?_ _ | with_reducible refine Kept.drew' ?_ | with_reducible refine Kept.setB ?_ _ _ _ (by omega) | with_reducible refine Kept.row' ?_ _ _ (by omega) | with_reducible refine Kept.map' ?_ _ _ (by omega))), rfl, rfl⟩
  · obtain ⟨⟨x29, e29, ⟨B29, rfl⟩, i29⟩, e30, e26⟩ := hg
    (try simp only [e30, e26])
    go_wp2_with fail
    refine (two_any [] _ 17 _ _ 2 3 no_q (i29.mono (by omega)) (HF.out _ (by repeat (first | with_reducible exact HK.out | with_reducible exact Kept.refl _ _ | with_reducible refine Kept.prev ?_ | with_reducible refine Kept.alloc' ?_ _ | with_reducible refine Kept.drew' ?_ | with_reducible refine Kept.setB ?_ _ _ _ (by omega) | with_reducible refine Kept.row' ?_ _ _ (by omega) | with_reducible refine Kept.map' ?_ _ _ (by omega))))).mono ?_
    rintro e w9 ⟨x, rfl, ⟨B, rfl⟩, hi, hk9⟩
    go_wp2_with fail
    exact ⟨hk9, rfl, _, rfl, ⟨B, B29, rfl⟩, hi⟩
  · obtain ⟨⟨x31, e31, ⟨B31, C31, rfl⟩, i31⟩, e26⟩ := hg
    (try simp only [e26])
    go_wp2_with fail
    refine (gives_true _ _ 4 1 0 i31.in (fun a b => by kernel_rfl)).mono ?_
    rintro e w9 ⟨rfl, hk9⟩
    go_wp2_with fail
    exact ⟨hk9, rfl, rfl⟩
  · obtain ⟨e26, e32⟩ := hg
    (try simp only [e26, e32])
    go_wp2_with fail
    exact ⟨(by repeat (first | with_reducible exact HK.out | with_reducible exact Kept.refl _ _ | with_reducible refine Kept.prev ?_ | with_reducible refine Kept.alloc' ?_ _ | with_reducible refine Kept.drew' ?_ | with_reducible refine Kept.setB ?_ _ _ _ (by omega) | with_reducible refine Kept.row' ?_ _ _ (by omega) | with_reducible refine Kept.map' ?_ _ _ (by omega))), rfl, rfl⟩
  · obtain e33 := hg
    (try simp only [e33])
    go_wp2_with fail
    exact ⟨(by repeat (first | with_reducible exact HK.out | with_reducible exact Kept.refl _ _ | with_reducible refine Kept.prev ?_ | with_reducible refine Kept.alloc' ?_ _ | with_reducible refine Kept.drew' ?_ | with_reducible refine Kept.setB ?_ _ _ _ (by omega) | with_reducible refine Kept.row' ?_ _ _ (by omega) | with_reducible refine Kept.map' ?_ _ _ (by omega))), rfl, rfl⟩
  obtain ⟨-, -, -, -, -, -, -, -, -, -, -, -, -, -, -, -, -, -, e4⟩ := hg
  refine wpList_nil ?_
  clear HF
  simp only [e4]
  clear e4
  go_wp2_with fail
  refine (calls_any [] _ _ _ (nameX 2 3) _ 1 no_q (name_k _ _ _ _)).mono ?_
  rintro e w11 ⟨_, rfl, ⟨B1, B2, B3, rfl⟩, i11, hk11⟩
  haveI p_w11 : PrevWorld w11 _ := ⟨hk11⟩
  clear hk11
  go_wp2_with fail
  refine (gives_true _ _ 4 1 0 i11.in (fun a b => by kernel_rfl)).mono ?_; rintro e w12 ⟨rfl, hk_w12⟩; haveI p_w12 : PrevWorld w12 _ := ⟨hk_w12⟩; have hz_w12 : w.heap.size ≤ w12.heap.size := Kept.size (by repeat (first | with_reducible exact HK.out | with_reducible exact Kept.refl _ _ | with_reducible refine Kept.prev ?_ | with_reducible refine Kept.alloc' ?_ _ | with_reducible refine Kept.drew' ?_ | with_reducible refine Kept.setB ?_ _ _ _ (by omega) | with_reducible refine Kept.row' ?_ _ _ (by omega) | with_reducible refine Kept.map' ?_ _ _ (by omega))); clear hk_w12
  clear i11
  go_wp2_with fail
  refine (name_any _ _ _).mono ?_; rintro e w13 ⟨rfl, hk_w13⟩; haveI p_w13 : PrevWorld w13 _ := ⟨hk_w13⟩; have hz_w13 : w.heap.size ≤ w13.heap.size := Kept.size (by repeat (first | with_reducible exact HK.out | with_reducible exact Kept.refl _ _ | with_reducible refine Kept.prev ?_ | with_reducible refine Kept.alloc' ?_ _ | with_reducible refine Kept.drew' ?_ | with_reducible refine Kept.setB ?_ _ _ _ (by omega) | with_reducible refine Kept.row' ?_ _ _ (by omega) | with_reducible refine Kept.map' ?_ _ _ (by omega))); clear hk_w13
  go_wp2_with fail
  refine (calls_any [] _ _ _ (nameX 4 3) _ 1 no_q (name_k _ _ _ _)).mono ?_
  rintro e w14 ⟨_, rfl, ⟨B4, B5, B9, rfl⟩, i14, hk14⟩
  haveI p_w14 : PrevWorld w14 _ := ⟨hk14⟩
  clear hk14
  go_wp2_with fail
  refine (gives_true _ _ 4 0 71 i14.in (fun a b => by kernel_rfl)).mono ?_; rintro e w15 ⟨rfl, hk_w15⟩; haveI p_w15 : PrevWorld w15 _ := ⟨hk_w15⟩; have hz_w15 : w.heap.size ≤ w15.heap.size := Kept.size (by repeat (first | with_reducible exact HK.out | with_reducible exact Kept.refl _ _ | with_reducible refine Kept.prev ?_ | with_reducible refine Kept.alloc' ?_ _ | with_reducible refine Kept.drew' ?_ | with_reducible refine Kept.setB ?_ _ _ _ (by omega) | with_reducible refine Kept.row' ?_ _ _ (by omega) | with_reducible refine Kept.map' ?_ _ _ (by omega))); clear hk_w15
  clear i14
  go_wp2_with fail
  refine (attr_any [] _ _ _ _ no_q).mono ?_
  rintro e w16 ⟨_, rfl, ⟨B10, rfl⟩, i16, hk16⟩
  haveI p_w16 : PrevWorld w16 _ := ⟨hk16⟩
  clear hk16
  go_wp2_with fail
  refine (gives_true _ _ 2 1 0 i16.in (fun a b => by kernel_rfl)).mono ?_; rintro e w17 ⟨rfl, hk_w17⟩; haveI p_w17 : PrevWorld w17 _ := ⟨hk_w17⟩; have hz_w17 : w.heap.size ≤ w17.heap.size := Kept.size (by repeat (first | with_reducible exact HK.out | with_reducible exact Kept.refl _ _ | with_reducible refine Kept.prev ?_ | with_reducible refine Kept.alloc' ?_ _ | with_reducible refine Kept.drew' ?_ | with_reducible refine Kept.setB ?_ _ _ _ (by omega) | with_reducible refine Kept.row' ?_ _ _ (by omega) | with_reducible refine Kept.map' ?_ _ _ (by omega))); clear hk_w17
  clear i16
  go_wp2_with fail
  refine (some_any _).mono ?_
  rintro e w18 ⟨A, B, C, a, b, rfl, hT, hk18⟩
  haveI p_w18 : PrevWorld w18 _ := ⟨hk18⟩
  have HT := Lib.hid (fun w' (hk : Kept [] w18 w') => hT.kept hk)
  clear hk18 hT
  unfold TabV.cells
  go_wp2_with fail
  refine (choose_any _ _ _ (nameX 2 3) 1 (name_in _ _ _ _)).mono ?_
  rintro e w19 ⟨A7, c7, l7, k7, rfl, hr7, hc7, hk19⟩
  haveI p_w19 : PrevWorld w19 _ := ⟨hk19⟩
  have H7 := Lib.hid (fun w' (hk : Kept [] w19 w') => (chs_one (c := c7) hr7 hc7).kept hk)
  clear hk19 hr7 hc7
  go_wp2_with fail
  refine wp_gen' ?_
  intro w20 hw20
  haveI p_w20 : PrevWorld w20 w19 := ⟨by rw [hw20]; exact (by repeat (first | with_reducible exact HK.out | with_reducible exact Kept.refl _ _ | with_reducible refine Kept.prev ?_ | with_reducible refine Kept.alloc' ?_ _ | with_reducible refine Kept.drew' ?_ | with_reducible refine Kept.setB ?_ _ _ _ (by omega) | with_reducible refine Kept.row' ?_ _ _ (by omega) | with_reducible refine Kept.map' ?_ _ _ (by omega)))⟩
  have HL := Lib.hid (fun w' (hk : Kept [] w20 w') => (show ListsAt w20 1 (w19.heap.size + 1) [⟨A7, c7, [⟨1, l7, k7, [nameX 2 3]⟩]⟩, ⟨some ⟨w19.heap.size, 0, none⟩, 1, [⟨3, none, 0, []⟩]⟩] from
    ⟨by rw [hw20]; exact box_at _ _, all_two (H7.out _ (by repeat (first | with_reducible exact HK.out | with_reducible exact Kept.refl _ _ | with_reducible refine Kept.prev ?_ | with_reducible refine Kept.alloc' ?_ _ | with_reducible refine Kept.drew' ?_ | with_reducible refine Kept.setB ?_ _ _ _ (by omega) | with_reducible refine Kept.row' ?_ _ _ (by omega) | with_reducible refine Kept.map' ?_ _ _ (by omega)))) ⟨rows_block (by rw [hw20]; exact box_at _ _) (fun _ => rfl), all_one ⟨.inl rfl, fun y hy => (by cases hy), by simp⟩⟩⟩).kept hk)
  clear hw20 H7
  refine wp_region_each [⟨53, [], .eq (.agg ((someV A B C).cells (someT a b)))⟩, ⟨54, [], .eq (.agg (nameX 2 3).cells.toArray)⟩, ⟨55, [54], .exs [] 1 (fun l => l = [nameX 2 3])⟩, ⟨56, [55], .chl 1 (fun l => ∃ la lc, l = [⟨1, la, lc, [nameX 2 3]⟩])⟩, ⟨57, [], .eq (.agg (nameX 1 3).cells.toArray)⟩, ⟨58, [57], .exs [] 1 (fun l => l = [nameX 1 3])⟩, ⟨59, [58], .chl 1 (fun l => ∃ la lc, l = [⟨1, la, lc, [nameX 1 3]⟩])⟩, ⟨60, [56, 59], .lists 1 (fun l => ∃ la lc lb ld, l = [[⟨1, la, lc, [nameX 2 3]⟩], [⟨1, lb, ld, [nameX 1 3]⟩]])⟩, ⟨61, [53, 60], .eq (.int .i64 72)⟩, ⟨62, [61], .eq (.bool true)⟩, ⟨63, [62], .eq (.bool true)⟩, ⟨64, [63], .eq (.agg ((someV A B C).cells (someT a b)))⟩, ⟨65, [63], .eq (.slice (some ⟨w19.heap.size + 1, 0, none⟩) 2 2)⟩, ⟨66, [64, 65, 63], .eq (.int .i64 0)⟩, ⟨67, [66, 63], .eq (.bool true)⟩, ⟨68, [63, 67], .eq (.bool true)⟩, ⟨69, [68], .eq (.bool true)⟩, ⟨70, [69], .eq (.agg ((someV A B C).cells (someT a b)))⟩, ⟨71, [69], .eq (.agg (nameX 2 3).cells.toArray)⟩, ⟨72, [71, 69], .exs [] 1 (fun l => l = [nameX 2 3])⟩, ⟨73, [72, 69], .chl 1 (fun l => ∃ la lc, l = [⟨1, la, lc, [nameX 2 3]⟩])⟩, ⟨74, [69], .eq (.agg (nameX 4 3).cells.toArray)⟩, ⟨75, [74, 69], .exs [] 1 (fun l => l = [nameX 4 3])⟩, ⟨76, [75, 69], .chl 1 (fun l => ∃ la lc, l = [⟨1, la, lc, [nameX 4 3]⟩])⟩, ⟨77, [73, 76, 69], .lists 1 (fun l => ∃ la lc lb ld, l = [[⟨1, la, lc, [nameX 2 3]⟩], [⟨1, lb, ld, [nameX 4 3]⟩]])⟩, ⟨78, [70, 77, 69], .eq (.int .i64 72)⟩, ⟨79, [78, 69], .eq (.bool true)⟩, ⟨80, [69, 79], .eq (.bool true)⟩, ⟨8, [80], .eq (.bool true)⟩] (by kernel_rfl) (by kernel_rfl) ?_
  apply Exists.intro
  refine ⟨fun vs => ?_, ?_⟩
  · simp only [List.map_cons, List.map_nil, puts, Act.put, List.setIfInBounds_toArray, List.set_cons_zero, List.set_cons_succ]
    exact rfl
  refine ⟨⟨fun vs w21 hk hg => ?_, fun vs w21 hk hg => ?_, fun vs w21 hk hg => ?_, fun vs w21 hk hg => ?_, fun vs w21 hk hg => ?_, fun vs w21 hk hg => ?_, fun vs w21 hk hg => ?_, fun vs w21 hk hg => ?_, fun vs w21 hk hg => ?_, fun vs w21 hk hg => ?_, fun vs w21 hk hg => ?_, fun vs w21 hk hg => ?_, fun vs w21 hk hg => ?_, fun vs w21 hk hg => ?_, fun vs w21 hk hg => ?_, fun vs w21 hk hg => ?_, fun vs w21 hk hg => ?_, fun vs w21 hk hg => ?_, fun vs w21 hk hg => ?_, fun vs w21 hk hg => ?_, fun vs w21 hk hg => ?_, fun vs w21 hk hg => ?_, fun vs w21 hk hg => ?_, fun vs w21 hk hg => ?_, fun vs w21 hk hg => ?_, fun vs w21 hk hg => ?_, fun vs w21 hk hg => ?_, fun vs w21 hk hg => ?_, fun vs w21 hk hg => ?_, trivial⟩, fun vs w21 hk hg => ?_⟩
  all_goals
    haveI p_w21 : PrevWorld w21 _ := ⟨hk⟩
    have hz_w21 := hk.size
    clear hk
    (try simp only [given, allGiven, look, SP.eq_p, SP.exs_p, Nat.reduceEqDiff, reduceIte, and_true] at hg)
    (try simp only [SP.tab_p, SP.row_p, SP.box_p] at hg)
  · clear hg
    go_wp2_with fail
    exact ⟨(by repeat (first | with_reducible exact HK.out | with_reducible exact Kept.refl _ _ | with_reducible refine Kept.prev ?_ | with_reducible refine Kept.alloc' ?_ _ | with_reducible refine Kept.drew' ?_ | with_reducible refine Kept.setB ?_ _ _ _ (by omega) | with_reducible refine Kept.row' ?_ _ _ (by omega) | with_reducible refine Kept.map' ?_ _ _ (by omega))), rfl, rfl⟩
  · clear hg
    go_wp2_with fail
    exact ⟨(by repeat (first | with_reducible exact HK.out | with_reducible exact Kept.refl _ _ | with_reducible refine Kept.prev ?_ | with_reducible refine Kept.alloc' ?_ _ | with_reducible refine Kept.drew' ?_ | with_reducible refine Kept.setB ?_ _ _ _ (by omega) | with_reducible refine Kept.row' ?_ _ _ (by omega) | with_reducible refine Kept.map' ?_ _ _ (by omega))), rfl, rfl⟩
  · obtain e54 := hg
    (try simp only [e54])
    go_wp2_with fail
    exact ⟨(by repeat (first | with_reducible exact HK.out | with_reducible exact Kept.refl _ _ | with_reducible refine Kept.prev ?_ | with_reducible refine Kept.alloc' ?_ _ | with_reducible refine Kept.drew' ?_ | with_reducible refine Kept.setB ?_ _ _ _ (by omega) | with_reducible refine Kept.row' ?_ _ _ (by omega) | with_reducible refine Kept.map' ?_ _ _ (by omega))), rfl, _, [nameX 2 3], rfl, rfl, box_at _ _, (fun h => by cases h), all_one (name_k _ _ _ _)⟩
  · obtain ⟨C55, _, e55, rfl, h55, _, i55⟩ := hg
    haveI x55 := exat_of h55
    go_wp2_with fail
    refine (choose_any _ C55 _ (nameX 2 3) 1 (name_in _ _ _ _)).mono ?_
    rintro e w9 ⟨a9, c9, la, lc, rfl, hr9, hc9, hk9⟩
    go_wp2_with fail
    exact ⟨hk9, rfl, ⟨a9, c9, [⟨1, la, lc, [nameX 2 3]⟩]⟩, rfl, ⟨_, _, rfl⟩, chs_one hr9 hc9⟩
  · clear hg
    go_wp2_with fail
    refine (name_any _ _ _).mono ?_
    rintro e w9 ⟨rfl, hk9⟩
    go_wp2_with fail
    exact ⟨hk9, rfl, rfl⟩
  · obtain e57 := hg
    (try simp only [e57])
    go_wp2_with fail
    exact ⟨(by repeat (first | with_reducible exact HK.out | with_reducible exact Kept.refl _ _ | with_reducible refine Kept.prev ?_ | with_reducible refine Kept.alloc' ?_ _ | with_reducible refine Kept.drew' ?_ | with_reducible refine Kept.setB ?_ _ _ _ (by omega) | with_reducible refine Kept.row' ?_ _ _ (by omega) | with_reducible refine Kept.map' ?_ _ _ (by omega))), rfl, _, [nameX 1 3], rfl, rfl, box_at _ _, (fun h => by cases h), all_one (name_k _ _ _ _)⟩
  · obtain ⟨C58, _, e58, rfl, h58, _, i58⟩ := hg
    haveI x58 := exat_of h58
    go_wp2_with fail
    refine (choose_any _ C58 _ (nameX 1 3) 1 (name_in _ _ _ _)).mono ?_
    rintro e w9 ⟨a9, c9, la, lc, rfl, hr9, hc9, hk9⟩
    go_wp2_with fail
    exact ⟨hk9, rfl, ⟨a9, c9, [⟨1, la, lc, [nameX 1 3]⟩]⟩, rfl, ⟨_, _, rfl⟩, chs_one hr9 hc9⟩
  · obtain ⟨⟨⟨a56, c56, _⟩, e56, ⟨la56, lc56, rfl⟩, h56⟩, ⟨⟨a59, c59, _⟩, e59, ⟨la59, lc59, rfl⟩, h59⟩⟩ := hg
    go_wp2_with fail
    exact ⟨(by repeat (first | with_reducible exact HK.out | with_reducible exact Kept.refl _ _ | with_reducible refine Kept.prev ?_ | with_reducible refine Kept.alloc' ?_ _ | with_reducible refine Kept.drew' ?_ | with_reducible refine Kept.setB ?_ _ _ _ (by omega) | with_reducible refine Kept.row' ?_ _ _ (by omega) | with_reducible refine Kept.map' ?_ _ _ (by omega))), rfl, _, [⟨a56, c56, _⟩, ⟨a59, c59, _⟩], rfl, ⟨_, _, _, _, rfl⟩, box_at _ _, all_two (h56.kept (by repeat (first | with_reducible exact HK.out | with_reducible exact Kept.refl _ _ | with_reducible refine Kept.prev ?_ | with_reducible refine Kept.alloc' ?_ _ | with_reducible refine Kept.drew' ?_ | with_reducible refine Kept.setB ?_ _ _ _ (by omega) | with_reducible refine Kept.row' ?_ _ _ (by omega) | with_reducible refine Kept.map' ?_ _ _ (by omega)))) (h59.kept (by repeat (first | with_reducible exact HK.out | with_reducible exact Kept.refl _ _ | with_reducible refine Kept.prev ?_ | with_reducible refine Kept.alloc' ?_ _ | with_reducible refine Kept.drew' ?_ | with_reducible refine Kept.setB ?_ _ _ _ (by omega) | with_reducible refine Kept.row' ?_ _ _ (by omega) | with_reducible refine Kept.map' ?_ _ _ (by omega))))⟩
  · obtain ⟨e53, ⟨D60, ls60, e60, ⟨la60, lc60, lb60, ld60, hp60⟩, h60⟩⟩ := hg
    (try simp only [e53])
    obtain ⟨A1, k1, A2, k2, rfl⟩ := map_two hp60
    go_wp2_with fail
    refine (cover_val _ (someV A B C) (someT a b) 2 D60 _ 1 72 (HT.out _ (by repeat (first | with_reducible exact HK.out | with_reducible exact Kept.refl _ _ | with_reducible refine Kept.prev ?_ | with_reducible refine Kept.alloc' ?_ _ | with_reducible refine Kept.drew' ?_ | with_reducible refine Kept.setB ?_ _ _ _ (by omega) | with_reducible refine Kept.row' ?_ _ _ (by omega) | with_reducible refine Kept.map' ?_ _ _ (by omega)))) h60 (by simp) (all_two (by simp) (by simp)) (ev_cover1 _ _ _ _ _ _ _ _ _ _)).mono ?_
    rintro e w9 ⟨rfl, hk9⟩
    go_wp2_with fail
    exact ⟨hk9, rfl, rfl⟩
  · obtain e61 := hg
    (try simp only [e61])
    go_wp2_with fail
    exact ⟨(by repeat (first | with_reducible exact HK.out | with_reducible exact Kept.refl _ _ | with_reducible refine Kept.prev ?_ | with_reducible refine Kept.alloc' ?_ _ | with_reducible refine Kept.drew' ?_ | with_reducible refine Kept.setB ?_ _ _ _ (by omega) | with_reducible refine Kept.row' ?_ _ _ (by omega) | with_reducible refine Kept.map' ?_ _ _ (by omega))), rfl, rfl⟩
  · obtain e62 := hg
    (try simp only [e62])
    go_wp2_with fail
    exact ⟨(by repeat (first | with_reducible exact HK.out | with_reducible exact Kept.refl _ _ | with_reducible refine Kept.prev ?_ | with_reducible refine Kept.alloc' ?_ _ | with_reducible refine Kept.drew' ?_ | with_reducible refine Kept.setB ?_ _ _ _ (by omega) | with_reducible refine Kept.row' ?_ _ _ (by omega) | with_reducible refine Kept.map' ?_ _ _ (by omega))), rfl, rfl⟩
  · obtain e63 := hg
    (try simp only [e63])
    go_wp2_with fail
    exact ⟨(by repeat (first | with_reducible exact HK.out | with_reducible exact Kept.refl _ _ | with_reducible refine Kept.prev ?_ | with_reducible refine Kept.alloc' ?_ _ | with_reducible refine Kept.drew' ?_ | with_reducible refine Kept.setB ?_ _ _ _ (by omega) | with_reducible refine Kept.row' ?_ _ _ (by omega) | with_reducible refine Kept.map' ?_ _ _ (by omega))), rfl, rfl⟩
  · obtain e63 := hg
    (try simp only [e63])
    go_wp2_with fail
    exact ⟨(by repeat (first | with_reducible exact HK.out | with_reducible exact Kept.refl _ _ | with_reducible refine Kept.prev ?_ | with_reducible refine Kept.alloc' ?_ _ | with_reducible refine Kept.drew' ?_ | with_reducible refine Kept.setB ?_ _ _ _ (by omega) | with_reducible refine Kept.row' ?_ _ _ (by omega) | with_reducible refine Kept.map' ?_ _ _ (by omega))), rfl, rfl⟩
  · obtain ⟨e64, e65, e63⟩ := hg
    (try simp only [e64, e65, e63])
    go_wp2_with fail
    refine (cover_val _ (someV A B C) (someT a b) 2 (w19.heap.size + 1) [⟨A7, c7, [⟨1, l7, k7, [nameX 2 3]⟩]⟩, ⟨some ⟨w19.heap.size, 0, none⟩, 1, [⟨3, none, 0, []⟩]⟩] 1 0 (HT.out _ (by repeat (first | with_reducible exact HK.out | with_reducible exact Kept.refl _ _ | with_reducible refine Kept.prev ?_ | with_reducible refine Kept.alloc' ?_ _ | with_reducible refine Kept.drew' ?_ | with_reducible refine Kept.setB ?_ _ _ _ (by omega) | with_reducible refine Kept.row' ?_ _ _ (by omega) | with_reducible refine Kept.map' ?_ _ _ (by omega)))) (HL.out _ (by repeat (first | with_reducible exact HK.out | with_reducible exact Kept.refl _ _ | with_reducible refine Kept.prev ?_ | with_reducible refine Kept.alloc' ?_ _ | with_reducible refine Kept.drew' ?_ | with_reducible refine Kept.setB ?_ _ _ _ (by omega) | with_reducible refine Kept.row' ?_ _ _ (by omega) | with_reducible refine Kept.map' ?_ _ _ (by omega)))) (by simp) (all_two (by simp) (by simp)) (ev_cover2 _ _ _ _ _ _ _ _ _ _)).mono ?_
    rintro e w9 ⟨rfl, hk9⟩
    go_wp2_with fail
    exact ⟨hk9, rfl, rfl⟩
  · obtain ⟨e66, e63⟩ := hg
    (try simp only [e66, e63])
    go_wp2_with fail
    exact ⟨(by repeat (first | with_reducible exact HK.out | with_reducible exact Kept.refl _ _ | with_reducible refine Kept.prev ?_ | with_reducible refine Kept.alloc' ?_ _ | with_reducible refine Kept.drew' ?_ | with_reducible refine Kept.setB ?_ _ _ _ (by omega) | with_reducible refine Kept.row' ?_ _ _ (by omega) | with_reducible refine Kept.map' ?_ _ _ (by omega))), rfl, rfl⟩
  · obtain ⟨e63, e67⟩ := hg
    (try simp only [e63, e67])
    go_wp2_with fail
    exact ⟨(by repeat (first | with_reducible exact HK.out | with_reducible exact Kept.refl _ _ | with_reducible refine Kept.prev ?_ | with_reducible refine Kept.alloc' ?_ _ | with_reducible refine Kept.drew' ?_ | with_reducible refine Kept.setB ?_ _ _ _ (by omega) | with_reducible refine Kept.row' ?_ _ _ (by omega) | with_reducible refine Kept.map' ?_ _ _ (by omega))), rfl, rfl⟩
  · obtain e68 := hg
    (try simp only [e68])
    go_wp2_with fail
    exact ⟨(by repeat (first | with_reducible exact HK.out | with_reducible exact Kept.refl _ _ | with_reducible refine Kept.prev ?_ | with_reducible refine Kept.alloc' ?_ _ | with_reducible refine Kept.drew' ?_ | with_reducible refine Kept.setB ?_ _ _ _ (by omega) | with_reducible refine Kept.row' ?_ _ _ (by omega) | with_reducible refine Kept.map' ?_ _ _ (by omega))), rfl, rfl⟩
  · obtain e69 := hg
    (try simp only [e69])
    go_wp2_with fail
    exact ⟨(by repeat (first | with_reducible exact HK.out | with_reducible exact Kept.refl _ _ | with_reducible refine Kept.prev ?_ | with_reducible refine Kept.alloc' ?_ _ | with_reducible refine Kept.drew' ?_ | with_reducible refine Kept.setB ?_ _ _ _ (by omega) | with_reducible refine Kept.row' ?_ _ _ (by omega) | with_reducible refine Kept.map' ?_ _ _ (by omega))), rfl, rfl⟩
  · obtain e69 := hg
    (try simp only [e69])
    go_wp2_with fail
    exact ⟨(by repeat (first | with_reducible exact HK.out | with_reducible exact Kept.refl _ _ | with_reducible refine Kept.prev ?_ | with_reducible refine Kept.alloc' ?_ _ | with_reducible refine Kept.drew' ?_ | with_reducible refine Kept.setB ?_ _ _ _ (by omega) | with_reducible refine Kept.row' ?_ _ _ (by omega) | with_reducible refine Kept.map' ?_ _ _ (by omega))), rfl, rfl⟩
  · obtain ⟨e71, e69⟩ := hg
    (try simp only [e71, e69])
    go_wp2_with fail
    exact ⟨(by repeat (first | with_reducible exact HK.out | with_reducible exact Kept.refl _ _ | with_reducible refine Kept.prev ?_ | with_reducible refine Kept.alloc' ?_ _ | with_reducible refine Kept.drew' ?_ | with_reducible refine Kept.setB ?_ _ _ _ (by omega) | with_reducible refine Kept.row' ?_ _ _ (by omega) | with_reducible refine Kept.map' ?_ _ _ (by omega))), rfl, _, [nameX 2 3], rfl, rfl, box_at _ _, (fun h => by cases h), all_one (name_k _ _ _ _)⟩
  · obtain ⟨⟨C72, _, e72, rfl, h72, _, i72⟩, e69⟩ := hg
    (try simp only [e69])
    haveI x72 := exat_of h72
    go_wp2_with fail
    refine (choose_any _ C72 _ (nameX 2 3) 1 (name_in _ _ _ _)).mono ?_
    rintro e w9 ⟨a9, c9, la, lc, rfl, hr9, hc9, hk9⟩
    go_wp2_with fail
    exact ⟨hk9, rfl, ⟨a9, c9, [⟨1, la, lc, [nameX 2 3]⟩]⟩, rfl, ⟨_, _, rfl⟩, chs_one hr9 hc9⟩
  · obtain e69 := hg
    (try simp only [e69])
    go_wp2_with fail
    refine (name_any _ _ _).mono ?_
    rintro e w9 ⟨rfl, hk9⟩
    go_wp2_with fail
    exact ⟨hk9, rfl, rfl⟩
  · obtain ⟨e74, e69⟩ := hg
    (try simp only [e74, e69])
    go_wp2_with fail
    exact ⟨(by repeat (first | with_reducible exact HK.out | with_reducible exact Kept.refl _ _ | with_reducible refine Kept.prev ?_ | with_reducible refine Kept.alloc' ?_ _ | with_reducible refine Kept.drew' ?_ | with_reducible refine Kept.setB ?_ _ _ _ (by omega) | with_reducible refine Kept.row' ?_ _ _ (by omega) | with_reducible refine Kept.map' ?_ _ _ (by omega))), rfl, _, [nameX 4 3], rfl, rfl, box_at _ _, (fun h => by cases h), all_one (name_k _ _ _ _)⟩
  · obtain ⟨⟨C75, _, e75, rfl, h75, _, i75⟩, e69⟩ := hg
    (try simp only [e69])
    haveI x75 := exat_of h75
    go_wp2_with fail
    refine (choose_any _ C75 _ (nameX 4 3) 1 (name_in _ _ _ _)).mono ?_
    rintro e w9 ⟨a9, c9, la, lc, rfl, hr9, hc9, hk9⟩
    go_wp2_with fail
    exact ⟨hk9, rfl, ⟨a9, c9, [⟨1, la, lc, [nameX 4 3]⟩]⟩, rfl, ⟨_, _, rfl⟩, chs_one hr9 hc9⟩
  · obtain ⟨⟨⟨a73, c73, _⟩, e73, ⟨la73, lc73, rfl⟩, h73⟩, ⟨⟨a76, c76, _⟩, e76, ⟨la76, lc76, rfl⟩, h76⟩, e69⟩ := hg
    (try simp only [e69])
    go_wp2_with fail
    exact ⟨(by repeat (first | with_reducible exact HK.out | with_reducible exact Kept.refl _ _ | with_reducible refine Kept.prev ?_ | with_reducible refine Kept.alloc' ?_ _ | with_reducible refine Kept.drew' ?_ | with_reducible refine Kept.setB ?_ _ _ _ (by omega) | with_reducible refine Kept.row' ?_ _ _ (by omega) | with_reducible refine Kept.map' ?_ _ _ (by omega))), rfl, _, [⟨a73, c73, _⟩, ⟨a76, c76, _⟩], rfl, ⟨_, _, _, _, rfl⟩, box_at _ _, all_two (h73.kept (by repeat (first | with_reducible exact HK.out | with_reducible exact Kept.refl _ _ | with_reducible refine Kept.prev ?_ | with_reducible refine Kept.alloc' ?_ _ | with_reducible refine Kept.drew' ?_ | with_reducible refine Kept.setB ?_ _ _ _ (by omega) | with_reducible refine Kept.row' ?_ _ _ (by omega) | with_reducible refine Kept.map' ?_ _ _ (by omega)))) (h76.kept (by repeat (first | with_reducible exact HK.out | with_reducible exact Kept.refl _ _ | with_reducible refine Kept.prev ?_ | with_reducible refine Kept.alloc' ?_ _ | with_reducible refine Kept.drew' ?_ | with_reducible refine Kept.setB ?_ _ _ _ (by omega) | with_reducible refine Kept.row' ?_ _ _ (by omega) | with_reducible refine Kept.map' ?_ _ _ (by omega))))⟩
  · obtain ⟨e70, ⟨D77, ls77, e77, ⟨la77, lc77, lb77, ld77, hp77⟩, h77⟩, e69⟩ := hg
    (try simp only [e70, e69])
    obtain ⟨A1, k1, A2, k2, rfl⟩ := map_two hp77
    go_wp2_with fail
    refine (cover_val _ (someV A B C) (someT a b) 2 D77 _ 1 72 (HT.out _ (by repeat (first | with_reducible exact HK.out | with_reducible exact Kept.refl _ _ | with_reducible refine Kept.prev ?_ | with_reducible refine Kept.alloc' ?_ _ | with_reducible refine Kept.drew' ?_ | with_reducible refine Kept.setB ?_ _ _ _ (by omega) | with_reducible refine Kept.row' ?_ _ _ (by omega) | with_reducible refine Kept.map' ?_ _ _ (by omega)))) h77 (by simp) (all_two (by simp) (by simp)) (ev_cover3 _ _ _ _ _ _ _ _ _ _)).mono ?_
    rintro e w9 ⟨rfl, hk9⟩
    go_wp2_with fail
    exact ⟨hk9, rfl, rfl⟩
  · obtain ⟨e78, e69⟩ := hg
    (try simp only [e78, e69])
    go_wp2_with fail
    exact ⟨(by repeat (first | with_reducible exact HK.out | with_reducible exact Kept.refl _ _ | with_reducible refine Kept.prev ?_ | with_reducible refine Kept.alloc' ?_ _ | with_reducible refine Kept.drew' ?_ | with_reducible refine Kept.setB ?_ _ _ _ (by omega) | with_reducible refine Kept.row' ?_ _ _ (by omega) | with_reducible refine Kept.map' ?_ _ _ (by omega))), rfl, rfl⟩
  · obtain ⟨e69, e79⟩ := hg
    (try simp only [e69, e79])
    go_wp2_with fail
    exact ⟨(by repeat (first | with_reducible exact HK.out | with_reducible exact Kept.refl _ _ | with_reducible refine Kept.prev ?_ | with_reducible refine Kept.alloc' ?_ _ | with_reducible refine Kept.drew' ?_ | with_reducible refine Kept.setB ?_ _ _ _ (by omega) | with_reducible refine Kept.row' ?_ _ _ (by omega) | with_reducible refine Kept.map' ?_ _ _ (by omega))), rfl, rfl⟩
  · obtain e80 := hg
    (try simp only [e80])
    go_wp2_with fail
    exact ⟨(by repeat (first | with_reducible exact HK.out | with_reducible exact Kept.refl _ _ | with_reducible refine Kept.prev ?_ | with_reducible refine Kept.alloc' ?_ _ | with_reducible refine Kept.drew' ?_ | with_reducible refine Kept.setB ?_ _ _ _ (by omega) | with_reducible refine Kept.row' ?_ _ _ (by omega) | with_reducible refine Kept.map' ?_ _ _ (by omega))), rfl, rfl⟩
  obtain ⟨-, -, -, -, -, -, -, -, -, -, -, -, -, -, -, -, -, -, -, -, -, -, -, -, -, -, -, -, e8⟩ := hg
  refine wpList_nil ?_
  simp only [e8]
  clear e8 HL
  go_wp2_with fail
  refine wp_region_each [⟨81, [], .eq (.bool true)⟩, ⟨82, [81], .eq (.bool true)⟩, ⟨83, [82], .eq (.bool true)⟩, ⟨84, [82, 83], .eq (.bool true)⟩, ⟨85, [84], .eq (.bool true)⟩, ⟨86, [85], .eq (.bool true)⟩, ⟨87, [85, 86], .eq (.bool true)⟩, ⟨88, [87], .eq (.bool true)⟩, ⟨89, [88], .eq (.agg ((someV A B C).cells (someT a b)))⟩, ⟨90, [88], .eq (.agg (nameX 6 1).cells.toArray)⟩, ⟨91, [89, 90, 88], .eq (.bool false)⟩, ⟨92, [91, 88], .eq (.bool true)⟩, ⟨93, [88, 92], .eq (.bool true)⟩, ⟨0, [93], .eq (.bool true)⟩] (by kernel_rfl) (by kernel_rfl) ?_
  apply Exists.intro
  refine ⟨fun vs => ?_, ?_⟩
  · simp only [List.map_cons, List.map_nil, puts, Act.put, List.setIfInBounds_toArray, List.set_cons_zero, List.set_cons_succ]
    exact rfl
  refine ⟨⟨fun vs w22 hk hg => ?_, fun vs w22 hk hg => ?_, fun vs w22 hk hg => ?_, fun vs w22 hk hg => ?_, fun vs w22 hk hg => ?_, fun vs w22 hk hg => ?_, fun vs w22 hk hg => ?_, fun vs w22 hk hg => ?_, fun vs w22 hk hg => ?_, fun vs w22 hk hg => ?_, fun vs w22 hk hg => ?_, fun vs w22 hk hg => ?_, fun vs w22 hk hg => ?_, fun vs w22 hk hg => ?_, trivial⟩, fun vs w22 hk hg => ?_⟩
  all_goals
    haveI p_w22 : PrevWorld w22 _ := ⟨hk⟩
    have hz_w22 := hk.size
    clear hk
    (try simp only [given, allGiven, look, SP.eq_p, Nat.reduceEqDiff, reduceIte, and_true] at hg)
    (try simp only [SP.tab_p, SP.row_p, SP.box_p] at hg)
  · clear hg
    go_wp2_with fail
    exact ⟨(by repeat (first | with_reducible exact HK.out | with_reducible exact Kept.refl _ _ | with_reducible refine Kept.prev ?_ | with_reducible refine Kept.alloc' ?_ _ | with_reducible refine Kept.drew' ?_ | with_reducible refine Kept.setB ?_ _ _ _ (by omega) | with_reducible refine Kept.row' ?_ _ _ (by omega) | with_reducible refine Kept.map' ?_ _ _ (by omega))), rfl, rfl⟩
  · obtain e81 := hg
    (try simp only [e81])
    go_wp2_with fail
    exact ⟨(by repeat (first | with_reducible exact HK.out | with_reducible exact Kept.refl _ _ | with_reducible refine Kept.prev ?_ | with_reducible refine Kept.alloc' ?_ _ | with_reducible refine Kept.drew' ?_ | with_reducible refine Kept.setB ?_ _ _ _ (by omega) | with_reducible refine Kept.row' ?_ _ _ (by omega) | with_reducible refine Kept.map' ?_ _ _ (by omega))), rfl, rfl⟩
  · obtain e82 := hg
    (try simp only [e82])
    go_wp2_with fail
    exact ⟨(by repeat (first | with_reducible exact HK.out | with_reducible exact Kept.refl _ _ | with_reducible refine Kept.prev ?_ | with_reducible refine Kept.alloc' ?_ _ | with_reducible refine Kept.drew' ?_ | with_reducible refine Kept.setB ?_ _ _ _ (by omega) | with_reducible refine Kept.row' ?_ _ _ (by omega) | with_reducible refine Kept.map' ?_ _ _ (by omega))), rfl, rfl⟩
  · obtain ⟨e82, e83⟩ := hg
    (try simp only [e82, e83])
    go_wp2_with fail
    exact ⟨(by repeat (first | with_reducible exact HK.out | with_reducible exact Kept.refl _ _ | with_reducible refine Kept.prev ?_ | with_reducible refine Kept.alloc' ?_ _ | with_reducible refine Kept.drew' ?_ | with_reducible refine Kept.setB ?_ _ _ _ (by omega) | with_reducible refine Kept.row' ?_ _ _ (by omega) | with_reducible refine Kept.map' ?_ _ _ (by omega))), rfl, rfl⟩
  · obtain e84 := hg
    (try simp only [e84])
    go_wp2_with fail
    exact ⟨(by repeat (first | with_reducible exact HK.out | with_reducible exact Kept.refl _ _ | with_reducible refine Kept.prev ?_ | with_reducible refine Kept.alloc' ?_ _ | with_reducible refine Kept.drew' ?_ | with_reducible refine Kept.setB ?_ _ _ _ (by omega) | with_reducible refine Kept.row' ?_ _ _ (by omega) | with_reducible refine Kept.map' ?_ _ _ (by omega))), rfl, rfl⟩
  · obtain e85 := hg
    (try simp only [e85])
    go_wp2_with fail
    exact ⟨(by repeat (first | with_reducible exact HK.out | with_reducible exact Kept.refl _ _ | with_reducible refine Kept.prev ?_ | with_reducible refine Kept.alloc' ?_ _ | with_reducible refine Kept.drew' ?_ | with_reducible refine Kept.setB ?_ _ _ _ (by omega) | with_reducible refine Kept.row' ?_ _ _ (by omega) | with_reducible refine Kept.map' ?_ _ _ (by omega))), rfl, rfl⟩
  · obtain ⟨e85, e86⟩ := hg
    (try simp only [e85, e86])
    go_wp2_with fail
    exact ⟨(by repeat (first | with_reducible exact HK.out | with_reducible exact Kept.refl _ _ | with_reducible refine Kept.prev ?_ | with_reducible refine Kept.alloc' ?_ _ | with_reducible refine Kept.drew' ?_ | with_reducible refine Kept.setB ?_ _ _ _ (by omega) | with_reducible refine Kept.row' ?_ _ _ (by omega) | with_reducible refine Kept.map' ?_ _ _ (by omega))), rfl, rfl⟩
  · obtain e87 := hg
    (try simp only [e87])
    go_wp2_with fail
    exact ⟨(by repeat (first | with_reducible exact HK.out | with_reducible exact Kept.refl _ _ | with_reducible refine Kept.prev ?_ | with_reducible refine Kept.alloc' ?_ _ | with_reducible refine Kept.drew' ?_ | with_reducible refine Kept.setB ?_ _ _ _ (by omega) | with_reducible refine Kept.row' ?_ _ _ (by omega) | with_reducible refine Kept.map' ?_ _ _ (by omega))), rfl, rfl⟩
  · obtain e88 := hg
    (try simp only [e88])
    go_wp2_with fail
    exact ⟨(by repeat (first | with_reducible exact HK.out | with_reducible exact Kept.refl _ _ | with_reducible refine Kept.prev ?_ | with_reducible refine Kept.alloc' ?_ _ | with_reducible refine Kept.drew' ?_ | with_reducible refine Kept.setB ?_ _ _ _ (by omega) | with_reducible refine Kept.row' ?_ _ _ (by omega) | with_reducible refine Kept.map' ?_ _ _ (by omega))), rfl, rfl⟩
  · obtain e88 := hg
    (try simp only [e88])
    go_wp2_with fail
    refine (name_any _ _ _).mono ?_
    rintro e w9 ⟨rfl, hk9⟩
    go_wp2_with fail
    exact ⟨hk9, rfl, rfl⟩
  · obtain ⟨e89, e90, e88⟩ := hg
    (try simp only [e89, e90, e88])
    go_wp2_with fail
    refine (Is_any _ (someV A B C) (someT a b) (nameX 6 1) 1 (HT.out _ (by repeat (first | with_reducible exact HK.out | with_reducible exact Kept.refl _ _ | with_reducible refine Kept.prev ?_ | with_reducible refine Kept.alloc' ?_ _ | with_reducible refine Kept.drew' ?_ | with_reducible refine Kept.setB ?_ _ _ _ (by omega) | with_reducible refine Kept.row' ?_ _ _ (by omega) | with_reducible refine Kept.map' ?_ _ _ (by omega)))) (name_in _ _ _ _)).mono ?_
    rintro e w9 ⟨rfl, hk9⟩
    go_wp2_with fail
    exact ⟨hk9, rfl, rfl⟩
  · obtain ⟨e91, e88⟩ := hg
    (try simp only [e91, e88])
    go_wp2_with fail
    exact ⟨(by repeat (first | with_reducible exact HK.out | with_reducible exact Kept.refl _ _ | with_reducible refine Kept.prev ?_ | with_reducible refine Kept.alloc' ?_ _ | with_reducible refine Kept.drew' ?_ | with_reducible refine Kept.setB ?_ _ _ _ (by omega) | with_reducible refine Kept.row' ?_ _ _ (by omega) | with_reducible refine Kept.map' ?_ _ _ (by omega))), rfl, rfl⟩
  · obtain ⟨e88, e92⟩ := hg
    (try simp only [e88, e92])
    go_wp2_with fail
    exact ⟨(by repeat (first | with_reducible exact HK.out | with_reducible exact Kept.refl _ _ | with_reducible refine Kept.prev ?_ | with_reducible refine Kept.alloc' ?_ _ | with_reducible refine Kept.drew' ?_ | with_reducible refine Kept.setB ?_ _ _ _ (by omega) | with_reducible refine Kept.row' ?_ _ _ (by omega) | with_reducible refine Kept.map' ?_ _ _ (by omega))), rfl, rfl⟩
  · obtain e93 := hg
    (try simp only [e93])
    go_wp2_with fail
    exact ⟨(by repeat (first | with_reducible exact HK.out | with_reducible exact Kept.refl _ _ | with_reducible refine Kept.prev ?_ | with_reducible refine Kept.alloc' ?_ _ | with_reducible refine Kept.drew' ?_ | with_reducible refine Kept.setB ?_ _ _ _ (by omega) | with_reducible refine Kept.row' ?_ _ _ (by omega) | with_reducible refine Kept.map' ?_ _ _ (by omega))), rfl, rfl⟩
  obtain ⟨-, -, -, -, -, -, -, -, -, -, -, -, -, e0⟩ := hg
  refine wpList_nil ?_
  simp only [e0]
  clear e0 HT
  go_wp2_with fail
  exact bodyPost_v rfl (res1 Tryz.results10 (resT rfl)) (by repeat (first | with_reducible exact HK.out | with_reducible exact Kept.refl _ _ | with_reducible refine Kept.prev ?_ | with_reducible refine Kept.alloc' ?_ _ | with_reducible refine Kept.drew' ?_ | with_reducible refine Kept.setB ?_ _ _ _ (by omega) | with_reducible refine Kept.row' ?_ _ _ (by omega) | with_reducible refine Kept.map' ?_ _ _ (by omega)))
end Go.Proofs.YtgdjhhfbpalkdaaGreat
