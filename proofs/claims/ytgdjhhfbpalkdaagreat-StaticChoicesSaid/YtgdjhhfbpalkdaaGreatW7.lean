/- The walk of StaticChoices. -/
import Derived.Test.YtgdjhhfbpalkdaaGreatR12
import Derived.Test.YtgdjhhfbpalkdaaGreatK22
import Derived.Deep.AppendLies
import Derived.Deep.CutBlock
namespace Go.Proofs.YtgdjhhfbpalkdaaGreat
open Go.RowKit
theorem cover_ref (w : World) (v : TabV) (t : Tab) (sub : Int) (a : Option Addr) (c : Nat) (ls : List ChL) (n : Nat) (hT : TabIn w v t) (hR : RowsAt ChL 1 ChL.cells w a ls) (hA : ∀ y, y ∈ ls → RowsAt ChV 2 ChV.cells w y.a y.l ∧ (∀ z, z ∈ y.l → ChIn w n z) ∧ y.l.length ≤ 1000) (hl : ls.length ≤ 1000) :
    Calls Tryz.prog 16 #[.agg (v.cells t), .int .i64 sub, .slice a ls.length c] w (RetV (.int .i64 (refCover t n sub ls)) w) := by
  refine (Cover_any w v t sub a c ls n hT hR hA hl).mono ?_
  rintro e w' ⟨r, rfl, hc, hk⟩
  rw [cov_same (fun lo hi h => ⟨(range_64 hT.sb h).1.1, (range_64 hT.sb h).2.2⟩) hc]
  exact ⟨rfl, hk⟩
set_option maxRecDepth 100000 in
set_option maxHeartbeats 8000000 in
theorem choices_walk (w : World) (v : TabV) (t : Tab) (sub : Int) (la : Option Addr) (lc : Nat) (ls : List ChL) (n : Nat) (hT : TabIn w v t) (hR : RowsAt ChL 1 ChL.cells w la ls) (hA : ∀ x, x ∈ ls → ChLIn w n x) (hl : ls.length ≤ 140737488355328) :
    Calls Tryz.prog 5 #[.agg (v.cells t), .int .i64 sub, .slice la ls.length lc] w (RetV (.bool true) w) := by
  have HT := Lib.hid (fun w' (hk : Kept [] w w') => hT.kept hk)
  have HR := Lib.hid hR
  have HA := Lib.hid hA
  clear hT hR hA
  obtain ⟨ib, ib0, ib1, ib2, ib3⟩ := Tryz.cl_parts
  obtain ⟨K, hK⟩ : ∃ K, K = cutK ls := ⟨_, rfl⟩
  have HK := Lib.hid hK
  have HKL : Hid (K.length = min 20 ls.length) := by rw [Hid, hK]; exact cutK_len ls
  clear hK
  have hk20 : K.length ≤ 20 := by rw [HKL.out]; omega
  unfold TabV.cells
  go_enter Tryz.func5, Tryz.ntmps5
  go_upto_block 0 with fail
  refine wp_gen' ?_
  intro w1 hw1
  haveI p_w1 : PrevWorld w1 w := ⟨by rw [hw1]; exact (by repeat (first | with_reducible exact HK.out | with_reducible exact Kept.refl _ _ | with_reducible refine Kept.prev ?_ | with_reducible refine Kept.alloc' ?_ _ | with_reducible refine Kept.drew' ?_ | with_reducible refine Kept.setB ?_ _ _ _ (by omega) | with_reducible refine Kept.row' ?_ _ _ (by omega) | with_reducible refine Kept.map' ?_ _ _ (by omega)))⟩
  haveI bx1 : BoxIs w1 w.heap.size 28 _ := by rw [hw1]; infer_instance
  have hz1 : w.heap.size ≤ w1.heap.size := Kept.size (X := []) (by repeat (first | with_reducible exact HK.out | with_reducible exact Kept.refl _ _ | with_reducible refine Kept.prev ?_ | with_reducible refine Kept.alloc' ?_ _ | with_reducible refine Kept.drew' ?_ | with_reducible refine Kept.setB ?_ _ _ _ (by omega) | with_reducible refine Kept.row' ?_ _ _ (by omega) | with_reducible refine Kept.map' ?_ _ _ (by omega)))
  clear hw1
  generalize w.heap.size = P3 at *
  go_cut [7] (fun v7 wc => ∃ A7 c7, v7 = .slice A7 K.length c7 ∧ RowsAt ChL 1 ChL.cells wc A7 K ∧ Kept [] w1 wc)
  case first =>
   go_wp2_with fail
   go_loopw [7, 8] (fun v7 i wr => CutL K w1 v7 i wr) (fun _ i _ => 20 - (intOf i).toNat)
   case atStart => exact ⟨0, Nat.zero_le _, rfl, World.ownsRow_nil _ _ _ _, Kept.refl _ _⟩
   case round =>
     obtain ⟨k, hk, rfl, hown, hkr⟩ := hrel
     obtain ⟨A7, c7, rfl⟩ := own_shape hown
     have HOWN := Lib.hid hown
     have hkz := hkr.size
     haveI p_wr : PrevWorld wr w1 := ⟨hkr⟩
     have HKR := Lib.hid hkr
     clear hown hkr
     by_cases hlt : k < K.length
     · have hm := HKL.out
       have j1 : (0 : Int) ≤ (k : Int) := by omega
       have j2 : (k : Int) < (ls.length : Int) := by omega
       have j3 : (k : Int) < 20 := by omega
       have j5 : k < ls.length := by omega
       obtain ⟨y, hy⟩ : ∃ y, ls[k]? = some y := ⟨_, List.getElem?_eq_getElem j5⟩
       obtain ⟨b, of, rfl, hr⟩ := HR.out.some_ hy
       have hyin := HA.out y (List.mem_of_getElem? hy)
       have y0 : wr.cell? ⟨b, of + k, none⟩ = some (.slice y.a y.l.length y.c) := (show Kept [] w wr from (by repeat (first | with_reducible exact HK.out | with_reducible exact Kept.refl _ _ | with_reducible refine Kept.prev ?_ | with_reducible refine Kept.alloc' ?_ _ | with_reducible refine Kept.drew' ?_ | with_reducible refine Kept.setB ?_ _ _ _ (by omega) | with_reducible refine Kept.row' ?_ _ _ (by omega) | with_reducible refine Kept.map' ?_ _ _ (by omega)))).cell (by simpa using hr k y hy 0 _ rfl) (by simp)
       have j4 : min (y.l.length : Int) 20 ≤ (y.c : Int) := by have := hyin.cap; omega
       have j6 : 0 ≤ min (y.l.length : Int) 20 := by omega
       have HST : Hid (clsC (K.take (k + 1)) = clsC (K.take k) ++ [.slice y.a (min (y.l.length : Int) 20).toNat y.c]) := by
         have h1 : K[k]? = some (cutC y) := by rw [HK.out]; exact cutK_get hy (by omega)
         rw [Hid, take_snoc h1, clsC_snoc]
         have e : (cutC y).l.length = (min (y.l.length : Int) 20).toNat := by simp [cutC]; omega
         rw [e]
         rfl
       clear hm hr hy hyin
       go_upto_region 5 with fail
       refine wp_region_deep [⟨26, [], .eq (.slice A7 k c7)⟩, ⟨27, [], .eq (.slice (some ⟨b, of, none⟩) ls.length lc)⟩, ⟨28, [], .eq (.int .i64 (k : Int))⟩, ⟨29, [27, 28], .eq (.pointer (some ⟨b, of + k, none⟩))⟩, ⟨30, [29], .eq (.slice y.a y.l.length y.c)⟩, ⟨31, [], .eq (.slice (some ⟨b, of, none⟩) ls.length lc)⟩, ⟨32, [], .eq (.int .i64 (k : Int))⟩, ⟨33, [31, 32], .eq (.pointer (some ⟨b, of + k, none⟩))⟩, ⟨34, [33], .eq (.slice y.a y.l.length y.c)⟩, ⟨35, [34], .eq (.int .i64 (y.l.length : Int))⟩, ⟨36, [35], .eq (.int .i64 (min (y.l.length : Int) 20))⟩, ⟨37, [30, 36], .eq (.slice y.a (min (y.l.length : Int) 20).toNat y.c)⟩, ⟨38, [37], .row 1 50 #[.slice y.a (min (y.l.length : Int) 20).toNat y.c]⟩] (by kernel_rfl) (by kernel_rfl) ?_
       apply Exists.intro
       refine ⟨fun vs => ?_, ?_⟩
       · simp only [List.map_cons, List.map_nil, puts, Act.put, List.setIfInBounds_toArray, List.set_cons_zero, List.set_cons_succ]
         exact rfl
       refine ⟨⟨fun vs w3 hk hg => ?_, fun vs w3 hk hg => ?_, fun vs w3 hk hg => ?_, fun vs w3 hk hg => ?_, fun vs w3 hk hg => ?_, fun vs w3 hk hg => ?_, fun vs w3 hk hg => ?_, fun vs w3 hk hg => ?_, fun vs w3 hk hg => ?_, fun vs w3 hk hg => ?_, fun vs w3 hk hg => ?_, fun vs w3 hk hg => ?_, fun vs w3 hk hg => ?_, trivial⟩, fun vs w3 hk hg => ?_⟩
       all_goals
         haveI p_w3 : PrevWorld w3 _ := ⟨hk⟩
         have hz_w3 := hk.size
         clear hk
         (try simp only [given, allGiven, look, SP.eq_p, SP.ex_p, SP.exs_p, SP.asl_p, Nat.reduceEqDiff, reduceIte, and_true] at hg)
         skip
       · clear hg
         go_wp2_with fail
         exact ⟨(by repeat (first | with_reducible exact HK.out | with_reducible exact Kept.refl _ _ | with_reducible refine Kept.prev ?_ | with_reducible refine Kept.alloc' ?_ _ | with_reducible refine Kept.drew' ?_ | with_reducible refine Kept.setB ?_ _ _ _ (by omega) | with_reducible refine Kept.row' ?_ _ _ (by omega) | with_reducible refine Kept.map' ?_ _ _ (by omega))), rfl, rfl⟩
       · clear hg
         go_wp2_with fail
         exact ⟨(by repeat (first | with_reducible exact HK.out | with_reducible exact Kept.refl _ _ | with_reducible refine Kept.prev ?_ | with_reducible refine Kept.alloc' ?_ _ | with_reducible refine Kept.drew' ?_ | with_reducible refine Kept.setB ?_ _ _ _ (by omega) | with_reducible refine Kept.row' ?_ _ _ (by omega) | with_reducible refine Kept.map' ?_ _ _ (by omega))), rfl, rfl⟩
       · clear hg
         go_wp2_with fail
         exact ⟨(by repeat (first | with_reducible exact HK.out | with_reducible exact Kept.refl _ _ | with_reducible refine Kept.prev ?_ | with_reducible refine Kept.alloc' ?_ _ | with_reducible refine Kept.drew' ?_ | with_reducible refine Kept.setB ?_ _ _ _ (by omega) | with_reducible refine Kept.row' ?_ _ _ (by omega) | with_reducible refine Kept.map' ?_ _ _ (by omega))), rfl, rfl⟩
       · obtain ⟨e27, e28⟩ := hg
         (try simp only [e27, e28])
         go_wp2_with fail
         exact ⟨(by repeat (first | with_reducible exact HK.out | with_reducible exact Kept.refl _ _ | with_reducible refine Kept.prev ?_ | with_reducible refine Kept.alloc' ?_ _ | with_reducible refine Kept.drew' ?_ | with_reducible refine Kept.setB ?_ _ _ _ (by omega) | with_reducible refine Kept.row' ?_ _ _ (by omega) | with_reducible refine Kept.map' ?_ _ _ (by omega))), rfl, rfl⟩
       · obtain e29 := hg
         (try simp only [e29])
         have yz := (show Kept [] wr w3 from (by repeat (first | with_reducible exact HK.out | with_reducible exact Kept.refl _ _ | with_reducible refine Kept.prev ?_ | with_reducible refine Kept.alloc' ?_ _ | with_reducible refine Kept.drew' ?_ | with_reducible refine Kept.setB ?_ _ _ _ (by omega) | with_reducible refine Kept.row' ?_ _ _ (by omega) | with_reducible refine Kept.map' ?_ _ _ (by omega)))).cell y0 (by simp)
         go_wp2_with fail
         exact ⟨(by repeat (first | with_reducible exact HK.out | with_reducible exact Kept.refl _ _ | with_reducible refine Kept.prev ?_ | with_reducible refine Kept.alloc' ?_ _ | with_reducible refine Kept.drew' ?_ | with_reducible refine Kept.setB ?_ _ _ _ (by omega) | with_reducible refine Kept.row' ?_ _ _ (by omega) | with_reducible refine Kept.map' ?_ _ _ (by omega))), rfl, rfl⟩
       · clear hg
         go_wp2_with fail
         exact ⟨(by repeat (first | with_reducible exact HK.out | with_reducible exact Kept.refl _ _ | with_reducible refine Kept.prev ?_ | with_reducible refine Kept.alloc' ?_ _ | with_reducible refine Kept.drew' ?_ | with_reducible refine Kept.setB ?_ _ _ _ (by omega) | with_reducible refine Kept.row' ?_ _ _ (by omega) | with_reducible refine Kept.map' ?_ _ _ (by omega))), rfl, rfl⟩
       · clear hg
         go_wp2_with fail
         exact ⟨(by repeat (first | with_reducible exact HK.out | with_reducible exact Kept.refl _ _ | with_reducible refine Kept.prev ?_ | with_reducible refine Kept.alloc' ?_ _ | with_reducible refine Kept.drew' ?_ | with_reducible refine Kept.setB ?_ _ _ _ (by omega) | with_reducible refine Kept.row' ?_ _ _ (by omega) | with_reducible refine Kept.map' ?_ _ _ (by omega))), rfl, rfl⟩
       · obtain ⟨e31, e32⟩ := hg
         (try simp only [e31, e32])
         go_wp2_with fail
         exact ⟨(by repeat (first | with_reducible exact HK.out | with_reducible exact Kept.refl _ _ | with_reducible refine Kept.prev ?_ | with_reducible refine Kept.alloc' ?_ _ | with_reducible refine Kept.drew' ?_ | with_reducible refine Kept.setB ?_ _ _ _ (by omega) | with_reducible refine Kept.row' ?_ _ _ (by omega) | with_reducible refine Kept.map' ?_ _ _ (by omega))), rfl, rfl⟩
       · obtain e33 := hg
         (try simp only [e33])
         have yz := (show Kept [] wr w3 from (by repeat (first | with_reducible exact HK.out | with_reducible exact Kept.refl _ _ | with_reducible refine Kept.prev ?_ | with_reducible refine Kept.alloc' ?_ _ | with_reducible refine Kept.drew' ?_ | with_reducible refine Kept.setB ?_ _ _ _ (by omega) | with_reducible refine Kept.row' ?_ _ _ (by omega) | with_reducible refine Kept.map' ?_ _ _ (by omega)))).cell y0 (by simp)
         go_wp2_with fail
         exact ⟨(by repeat (first | with_reducible exact HK.out | with_reducible exact Kept.refl _ _ | with_reducible refine Kept.prev ?_ | with_reducible refine Kept.alloc' ?_ _ | with_reducible refine Kept.drew' ?_ | with_reducible refine Kept.setB ?_ _ _ _ (by omega) | with_reducible refine Kept.row' ?_ _ _ (by omega) | with_reducible refine Kept.map' ?_ _ _ (by omega))), rfl, rfl⟩
       · obtain e34 := hg
         (try simp only [e34])
         go_wp2_with fail
         exact ⟨(by repeat (first | with_reducible exact HK.out | with_reducible exact Kept.refl _ _ | with_reducible refine Kept.prev ?_ | with_reducible refine Kept.alloc' ?_ _ | with_reducible refine Kept.drew' ?_ | with_reducible refine Kept.setB ?_ _ _ _ (by omega) | with_reducible refine Kept.row' ?_ _ _ (by omega) | with_reducible refine Kept.map' ?_ _ _ (by omega))), rfl, rfl⟩
       · obtain e35 := hg
         (try simp only [e35])
         go_wp2_with fail
         exact ⟨(by repeat (first | with_reducible exact HK.out | with_reducible exact Kept.refl _ _ | with_reducible refine Kept.prev ?_ | with_reducible refine Kept.alloc' ?_ _ | with_reducible refine Kept.drew' ?_ | with_reducible refine Kept.setB ?_ _ _ _ (by omega) | with_reducible refine Kept.row' ?_ _ _ (by omega) | with_reducible refine Kept.map' ?_ _ _ (by omega))), rfl, rfl⟩
       · obtain ⟨e30, e36⟩ := hg
         (try simp only [e30, e36])
         go_wp2_with fail
         exact ⟨(by repeat (first | with_reducible exact HK.out | with_reducible exact Kept.refl _ _ | with_reducible refine Kept.prev ?_ | with_reducible refine Kept.alloc' ?_ _ | with_reducible refine Kept.drew' ?_ | with_reducible refine Kept.setB ?_ _ _ _ (by omega) | with_reducible refine Kept.row' ?_ _ _ (by omega) | with_reducible refine Kept.map' ?_ _ _ (by omega))), rfl, rfl⟩
       · obtain e37 := hg
         (try simp only [e37])
         go_wp2_with fail
         exact ⟨(by repeat (first | with_reducible exact HK.out | with_reducible exact Kept.refl _ _ | with_reducible refine Kept.prev ?_ | with_reducible refine Kept.alloc' ?_ _ | with_reducible refine Kept.drew' ?_ | with_reducible refine Kept.setB ?_ _ _ _ (by omega) | with_reducible refine Kept.row' ?_ _ _ (by omega) | with_reducible refine Kept.map' ?_ _ _ (by omega))), rfl, _, rfl, box_at _ _⟩
       obtain ⟨e26, -, -, -, -, -, -, -, -, -, -, -, ⟨C38, e38, h38⟩⟩ := hg
       simp only [e26, e38]
       have HOW := Lib.hid (own_keep HOWN.out (show Kept [] wr w3 from (by repeat (first | with_reducible exact HK.out | with_reducible exact Kept.refl _ _ | with_reducible refine Kept.prev ?_ | with_reducible refine Kept.alloc' ?_ _ | with_reducible refine Kept.drew' ?_ | with_reducible refine Kept.setB ?_ _ _ _ (by omega) | with_reducible refine Kept.row' ?_ _ _ (by omega) | with_reducible refine Kept.map' ?_ _ _ (by omega)))) (by simp))
       have hz3 : w1.heap.size ≤ w3.heap.size := Kept.size (X := []) (by repeat (first | with_reducible exact HK.out | with_reducible exact Kept.refl _ _ | with_reducible refine Kept.prev ?_ | with_reducible refine Kept.alloc' ?_ _ | with_reducible refine Kept.drew' ?_ | with_reducible refine Kept.setB ?_ _ _ _ (by omega) | with_reducible refine Kept.row' ?_ _ _ (by omega) | with_reducible refine Kept.map' ?_ _ _ (by omega)))
       have HK3 := Lib.hid (show Kept [] w1 w3 from (by repeat (first | with_reducible exact HK.out | with_reducible exact Kept.refl _ _ | with_reducible refine Kept.prev ?_ | with_reducible refine Kept.alloc' ?_ _ | with_reducible refine Kept.drew' ?_ | with_reducible refine Kept.setB ?_ _ _ _ (by omega) | with_reducible refine Kept.row' ?_ _ _ (by omega) | with_reducible refine Kept.map' ?_ _ _ (by omega))))
       have H38 := Lib.hid h38
       clear h38 e26 e38
       have hA : k + 1 ≤ maxLen := by unfold maxLen; omega
       have hB : (k + 1) * 24 ≤ 140737488355328 := by omega
       show wpList _ _ _ [_, _] _ _
       go_wp2_with (at_builtin; refine wpList_append_own _ rfl _ _ 49 rfl w1.heap.size 50 ib (.slice none 0 0) 1 24 Tryz.underlying49 ib0 ib1 ib2 ib3 rfl (by decide) (.slice A7 k c7) k (clsC (K.take k)) rfl HOW.out ⟨C38, 0, none⟩ 1 1 [.slice y.a (min (y.l.length : Int) 20).toNat y.c] rfl rfl (World.news_of_block (cs := #[.slice y.a (min (y.l.length : Int) 20).toNat y.c]) (t := 50) (fr := (0, 0)) H38.out) (by simp [Value.oneCell']) hA hB hz3 ?_; intro v' w4 ho4 hg4 _; have HO4 := Lib.hid ho4; have HG4 := Lib.hid hg4; clear ho4 hg4)
       have HROW : Hid (w4.ownsRow w1.heap.size 50 1 v' (k + 1) (clsC (K.take (k + 1)))) := by
         rw [Hid, HST.out]
         exact HO4.out
       have HK4 : Hid (Kept [] w1 w4) := HK3.out.grown HG4.out (fun q hq => own_at HOWN.out q hq)
       go_roundw
       case rel => exact ⟨k + 1, by omega, by go_num, HROW.out, HK4.out⟩
       case measure => simp [intOf]; omega
     · obtain rfl : k = K.length := by omega
       have hm := HKL.out
       have hrow : ∃ A c, Value.slice A7 K.length c7 = .slice A K.length c ∧ RowsAt ChL 1 ChL.cells wr A K := by
         have ho := HOWN.out
         rw [List.take_length] at ho
         obtain ⟨A, c', e', h1, h2, h3, hrows⟩ := rows_own (α := ChL) (m := 1) (cells := ChL.cells) (l := K) ho (fun _ => rfl) rfl
         exact ⟨A, c', e', hrows⟩
       have HROW := Lib.hid hrow
       clear hrow HOWN hlt hk
       by_cases h20 : ls.length ≤ 20
       · have e : K.length = ls.length := by omega
         have e1 : decide ((K.length : Int) < (ls.length : Int)) = false := by simp [e]
         have e3 : ls.length ≤ K.length := by omega
         have e4 : (ls.length : Int) ≤ (K.length : Int) := by omega
         clear hm e
         go_wp2_with fail
         go_meet
         obtain ⟨A, c', e', hr⟩ := HROW.out
         exact ⟨A, c', e', hr, HKR.out⟩
       · have e1 : (K.length : Int) < (ls.length : Int) := by omega
         have e2 : decide ((K.length : Int) < 20) = false := by simp; omega
         have e3 : K.length < ls.length := by omega
         have e4 : (20 : Int) ≤ (K.length : Int) := by omega
         clear hm
         go_wp2_with fail
         go_meet
         obtain ⟨A, c', e', hr⟩ := HROW.out
         exact ⟨A, c', e', hr, HKR.out⟩
  obtain ⟨A7, c7, rfl, hrows, hkc⟩ := hcut
  obtain ⟨w4, rfl⟩ : ∃ w4 : World, w4 = wc := ⟨_, rfl⟩
  haveI p_w4 : PrevWorld w4 w1 := ⟨hkc⟩
  have HROW := Lib.hid (fun w' (hk : Kept [] w4 w') => hrows.kept hk)
  have HAK := Lib.hid (fun w' (hk : Kept [] w w') (y : ChL) (hy : y ∈ K) => show RowsAt ChV 2 ChV.cells w' y.a y.l ∧ (∀ z, z ∈ y.l → ChIn w' n z) ∧ y.l.length ≤ 1000 from by
    obtain ⟨x, hx, rfl⟩ := cutK_mem (HK.out ▸ hy)
    obtain ⟨h1, h2, h3⟩ := cut_in (HA.out x hx)
    exact ⟨h1.kept hk, fun z hz => (h2 z hz).kept hk, by omega⟩)
  have HCV := Lib.hid (fun w' (hk : Kept [] w w') (hk2 : Kept [] w4 w') => cover_ref w' v t sub A7 c7 K n (HT.out w' hk) (HROW.out w' hk2) (HAK.out w' hk) (by omega))
  have HRCV := Lib.hid (fun w' (hk : Kept [] w w') (hk2 : Kept [] w4 w') => rCover_any w' v t sub A7 c7 K n (HT.out w' hk) (HROW.out w' hk2) (HAK.out w' hk) (by omega))
  have HCH := Lib.hid (fun w' (hk : Kept [] w w') (y : ChL) (hy : y ∈ K) => choices_val w' v t sub y n (HT.out w' hk) (HAK.out w' hk y hy))
  have HRCH := Lib.hid (fun w' (hk : Kept [] w w') (y : ChL) (hy : y ∈ K) => rchoices_val w' v t sub y n (HT.out w' hk) (HAK.out w' hk y hy))
  have HLEN := Lib.hid (fun (y : ChL) (hy : y ∈ K) => (HAK.out w (Kept.refl _ _) y hy).2.2)
  have HWK := Lib.hid (fun w' => works_any w')
  clear hrows hkc HR HA HK HKL hl ib0 ib1 ib2 ib3 HAK HT
  unfold TabV.cells at *
  go_wp2_with fail
  have hz4 := (show Kept [] w w4 from (by repeat (first | with_reducible exact HK.out | with_reducible exact Kept.refl _ _ | with_reducible refine Kept.prev ?_ | with_reducible refine Kept.alloc' ?_ _ | with_reducible refine Kept.drew' ?_ | with_reducible refine Kept.setB ?_ _ _ _ (by omega) | with_reducible refine Kept.row' ?_ _ _ (by omega) | with_reducible refine Kept.map' ?_ _ _ (by omega)))).size
  go_loopw [42] (fun i wr => ∃ j : Nat, j ≤ K.length ∧ i = .int .i64 j ∧ Kept [] w4 wr) (fun i _ => K.length - (intOf i).toNat)
  case atStart => exact ⟨0, Nat.zero_le _, rfl, Kept.refl _ _⟩
  case round =>
    obtain ⟨j, hj, rfl, hkr⟩ := hrel
    haveI p_wr : PrevWorld wr w4 := ⟨hkr⟩
    have hkz := hkr.size
    clear hkr
    by_cases hlt : j < K.length
    · obtain ⟨y, hy⟩ : ∃ y, K[j]? = some y := ⟨_, List.getElem?_eq_getElem hlt⟩
      have hym := List.mem_of_getElem? hy
      obtain ⟨b, of, ha, hr⟩ := (HROW.out w4 (Kept.refl _ _)).some_ hy
      subst ha
      have y0 : wr.cell? ⟨b, of + j, none⟩ = some (.slice y.a y.l.length y.c) := (show Kept [] w4 wr from (by repeat (first | with_reducible exact HK.out | with_reducible exact Kept.refl _ _ | with_reducible refine Kept.prev ?_ | with_reducible refine Kept.alloc' ?_ _ | with_reducible refine Kept.drew' ?_ | with_reducible refine Kept.setB ?_ _ _ _ (by omega) | with_reducible refine Kept.row' ?_ _ _ (by omega) | with_reducible refine Kept.map' ?_ _ _ (by omega)))).cell (by simpa using hr j y hy 0 _ rfl) (by simp)
      have HCY := Lib.hid (fun w' (hk : Kept [] w w') => HCH.out w' hk y hym)
      have HRCY := Lib.hid (fun w' (hk : Kept [] w w') => HRCH.out w' hk y hym)
      have hbl := chB_len (t := t) (n := n) (sub := sub) (HLEN.out y hym)
      have j1 : (0 : Int) ≤ (j : Int) := by omega
      have j2 : (j : Int) < (K.length : Int) := by omega
      clear hr hy hym HCH HRCH HLEN HROW HCV HRCV
      generalize chB t n sub y.l = bs at *
      generalize chO t n sub y.l = bo at *
      generalize chE t n sub y.l = be at *
      go_upto_region 9 with fail
      refine wp_region_each [⟨46, [], .eq (.agg (v.cells t))⟩, ⟨47, [], .eq (.int .i64 sub)⟩, ⟨48, [], .eq (.slice (some ⟨b, of, none⟩) K.length c7)⟩, ⟨49, [], .eq (.int .i64 (j : Int))⟩, ⟨50, [48, 49], .eq (.pointer (some ⟨b, of + j, none⟩))⟩, ⟨51, [50], .eq (.slice y.a y.l.length y.c)⟩, ⟨52, [46, 47, 51], .bt bs bo be⟩, ⟨45, [52], .bt bs bo be⟩, ⟨53, [45], .bl bs⟩, ⟨54, [45], .eq (.bool bo)⟩, ⟨55, [45], .eq (.int .i64 be)⟩, ⟨10, [53], .bl bs⟩, ⟨11, [54], .eq (.bool bo)⟩, ⟨12, [55], .eq (.int .i64 be)⟩] (by kernel_rfl) (by kernel_rfl) ?_
      apply Exists.intro
      refine ⟨fun vs => ?_, ?_⟩
      · simp only [List.map_cons, List.map_nil, puts, Act.put, List.setIfInBounds_toArray, List.set_cons_zero, List.set_cons_succ]
        exact rfl
      refine ⟨⟨fun vs w9 hk hg => ?_, fun vs w9 hk hg => ?_, fun vs w9 hk hg => ?_, fun vs w9 hk hg => ?_, fun vs w9 hk hg => ?_, fun vs w9 hk hg => ?_, fun vs w9 hk hg => ?_, fun vs w9 hk hg => ?_, fun vs w9 hk hg => ?_, fun vs w9 hk hg => ?_, fun vs w9 hk hg => ?_, fun vs w9 hk hg => ?_, fun vs w9 hk hg => ?_, fun vs w9 hk hg => ?_, trivial⟩, fun vs w9 hk hg => ?_⟩
      all_goals
        haveI p_w9 : PrevWorld w9 _ := ⟨hk⟩
        have hz_w9 := hk.size
        clear hk
        (try simp only [given, allGiven, look, SP.eq_p, SP.ex_p, SP.exs_p, SP.asl_p, Nat.reduceEqDiff, reduceIte, and_true] at hg)
        skip
      · clear hg
        go_wp2_with fail
        exact ⟨(by repeat (first | with_reducible exact HK.out | with_reducible exact Kept.refl _ _ | with_reducible refine Kept.prev ?_ | with_reducible refine Kept.alloc' ?_ _ | with_reducible refine Kept.drew' ?_ | with_reducible refine Kept.setB ?_ _ _ _ (by omega) | with_reducible refine Kept.row' ?_ _ _ (by omega) | with_reducible refine Kept.map' ?_ _ _ (by omega))), rfl, rfl⟩
      · clear hg
        go_wp2_with fail
        exact ⟨(by repeat (first | with_reducible exact HK.out | with_reducible exact Kept.refl _ _ | with_reducible refine Kept.prev ?_ | with_reducible refine Kept.alloc' ?_ _ | with_reducible refine Kept.drew' ?_ | with_reducible refine Kept.setB ?_ _ _ _ (by omega) | with_reducible refine Kept.row' ?_ _ _ (by omega) | with_reducible refine Kept.map' ?_ _ _ (by omega))), rfl, rfl⟩
      · clear hg
        go_wp2_with fail
        exact ⟨(by repeat (first | with_reducible exact HK.out | with_reducible exact Kept.refl _ _ | with_reducible refine Kept.prev ?_ | with_reducible refine Kept.alloc' ?_ _ | with_reducible refine Kept.drew' ?_ | with_reducible refine Kept.setB ?_ _ _ _ (by omega) | with_reducible refine Kept.row' ?_ _ _ (by omega) | with_reducible refine Kept.map' ?_ _ _ (by omega))), rfl, rfl⟩
      · clear hg
        go_wp2_with fail
        exact ⟨(by repeat (first | with_reducible exact HK.out | with_reducible exact Kept.refl _ _ | with_reducible refine Kept.prev ?_ | with_reducible refine Kept.alloc' ?_ _ | with_reducible refine Kept.drew' ?_ | with_reducible refine Kept.setB ?_ _ _ _ (by omega) | with_reducible refine Kept.row' ?_ _ _ (by omega) | with_reducible refine Kept.map' ?_ _ _ (by omega))), rfl, rfl⟩
      · obtain ⟨e48, e49⟩ := hg
        (try simp only [e48, e49])
        go_wp2_with fail
        exact ⟨(by repeat (first | with_reducible exact HK.out | with_reducible exact Kept.refl _ _ | with_reducible refine Kept.prev ?_ | with_reducible refine Kept.alloc' ?_ _ | with_reducible refine Kept.drew' ?_ | with_reducible refine Kept.setB ?_ _ _ _ (by omega) | with_reducible refine Kept.row' ?_ _ _ (by omega) | with_reducible refine Kept.map' ?_ _ _ (by omega))), rfl, rfl⟩
      · obtain e50 := hg
        (try simp only [e50])
        have yz := (show Kept [] wr w9 from (by repeat (first | with_reducible exact HK.out | with_reducible exact Kept.refl _ _ | with_reducible refine Kept.prev ?_ | with_reducible refine Kept.alloc' ?_ _ | with_reducible refine Kept.drew' ?_ | with_reducible refine Kept.setB ?_ _ _ _ (by omega) | with_reducible refine Kept.row' ?_ _ _ (by omega) | with_reducible refine Kept.map' ?_ _ _ (by omega)))).cell y0 (by simp)
        go_wp2_with fail
        exact ⟨(by repeat (first | with_reducible exact HK.out | with_reducible exact Kept.refl _ _ | with_reducible refine Kept.prev ?_ | with_reducible refine Kept.alloc' ?_ _ | with_reducible refine Kept.drew' ?_ | with_reducible refine Kept.setB ?_ _ _ _ (by omega) | with_reducible refine Kept.row' ?_ _ _ (by omega) | with_reducible refine Kept.map' ?_ _ _ (by omega))), rfl, rfl⟩
      · obtain ⟨e46, e47, e51⟩ := hg
        (try simp only [e46, e47, e51])
        go_wp2_with fail
        refine (HCY.out _ (by repeat (first | with_reducible exact HK.out | with_reducible exact Kept.refl _ _ | with_reducible refine Kept.prev ?_ | with_reducible refine Kept.alloc' ?_ _ | with_reducible refine Kept.drew' ?_ | with_reducible refine Kept.setB ?_ _ _ _ (by omega) | with_reducible refine Kept.row' ?_ _ _ (by omega) | with_reducible refine Kept.map' ?_ _ _ (by omega)))).mono ?_
        rintro e w10 ⟨A, c, rfl, hr, hk10⟩
        go_wp2_with fail
        exact ⟨hk10, rfl, A, c, rfl, hr⟩
      · obtain ⟨A52, c52, e52, h52⟩ := hg
        go_wp2_with fail
        exact ⟨(by repeat (first | with_reducible exact HK.out | with_reducible exact Kept.refl _ _ | with_reducible refine Kept.prev ?_ | with_reducible refine Kept.alloc' ?_ _ | with_reducible refine Kept.drew' ?_ | with_reducible refine Kept.setB ?_ _ _ _ (by omega) | with_reducible refine Kept.row' ?_ _ _ (by omega) | with_reducible refine Kept.map' ?_ _ _ (by omega))), rfl, A52, c52, rfl, h52⟩
      · obtain ⟨A45, c45, e45, h45⟩ := hg
        go_wp2_with fail
        exact ⟨(by repeat (first | with_reducible exact HK.out | with_reducible exact Kept.refl _ _ | with_reducible refine Kept.prev ?_ | with_reducible refine Kept.alloc' ?_ _ | with_reducible refine Kept.drew' ?_ | with_reducible refine Kept.setB ?_ _ _ _ (by omega) | with_reducible refine Kept.row' ?_ _ _ (by omega) | with_reducible refine Kept.map' ?_ _ _ (by omega))), rfl, A45, c45, rfl, h45⟩
      · obtain ⟨A45, c45, e45, h45⟩ := hg
        go_wp2_with fail
        exact ⟨(by repeat (first | with_reducible exact HK.out | with_reducible exact Kept.refl _ _ | with_reducible refine Kept.prev ?_ | with_reducible refine Kept.alloc' ?_ _ | with_reducible refine Kept.drew' ?_ | with_reducible refine Kept.setB ?_ _ _ _ (by omega) | with_reducible refine Kept.row' ?_ _ _ (by omega) | with_reducible refine Kept.map' ?_ _ _ (by omega))), rfl, rfl⟩
      · obtain ⟨A45, c45, e45, h45⟩ := hg
        go_wp2_with fail
        exact ⟨(by repeat (first | with_reducible exact HK.out | with_reducible exact Kept.refl _ _ | with_reducible refine Kept.prev ?_ | with_reducible refine Kept.alloc' ?_ _ | with_reducible refine Kept.drew' ?_ | with_reducible refine Kept.setB ?_ _ _ _ (by omega) | with_reducible refine Kept.row' ?_ _ _ (by omega) | with_reducible refine Kept.map' ?_ _ _ (by omega))), rfl, rfl⟩
      · obtain ⟨A53, c53, e53, h53⟩ := hg
        go_wp2_with fail
        exact ⟨(by repeat (first | with_reducible exact HK.out | with_reducible exact Kept.refl _ _ | with_reducible refine Kept.prev ?_ | with_reducible refine Kept.alloc' ?_ _ | with_reducible refine Kept.drew' ?_ | with_reducible refine Kept.setB ?_ _ _ _ (by omega) | with_reducible refine Kept.row' ?_ _ _ (by omega) | with_reducible refine Kept.map' ?_ _ _ (by omega))), rfl, A53, c53, rfl, h53⟩
      · obtain e54 := hg
        (try simp only [e54])
        go_wp2_with fail
        exact ⟨(by repeat (first | with_reducible exact HK.out | with_reducible exact Kept.refl _ _ | with_reducible refine Kept.prev ?_ | with_reducible refine Kept.alloc' ?_ _ | with_reducible refine Kept.drew' ?_ | with_reducible refine Kept.setB ?_ _ _ _ (by omega) | with_reducible refine Kept.row' ?_ _ _ (by omega) | with_reducible refine Kept.map' ?_ _ _ (by omega))), rfl, rfl⟩
      · obtain e55 := hg
        (try simp only [e55])
        go_wp2_with fail
        exact ⟨(by repeat (first | with_reducible exact HK.out | with_reducible exact Kept.refl _ _ | with_reducible refine Kept.prev ?_ | with_reducible refine Kept.alloc' ?_ _ | with_reducible refine Kept.drew' ?_ | with_reducible refine Kept.setB ?_ _ _ _ (by omega) | with_reducible refine Kept.row' ?_ _ _ (by omega) | with_reducible refine Kept.map' ?_ _ _ (by omega))), rfl, rfl⟩
      obtain ⟨-, -, -, -, -, -, -, -, -, -, -, ⟨A10, c10, e10, h10⟩, e11, e12⟩ := hg
      refine wpList_nil ?_
      simp only [e10, e11, e12]
      clear e10 e11 e12 HCY
      have H10 := Lib.hid h10
      clear h10
      have y9 : w9.cell? ⟨b, of + j, none⟩ = some (.slice y.a y.l.length y.c) := (show Kept [] wr w9 from (by repeat (first | with_reducible exact HK.out | with_reducible exact Kept.refl _ _ | with_reducible refine Kept.prev ?_ | with_reducible refine Kept.alloc' ?_ _ | with_reducible refine Kept.drew' ?_ | with_reducible refine Kept.setB ?_ _ _ _ (by omega) | with_reducible refine Kept.row' ?_ _ _ (by omega) | with_reducible refine Kept.map' ?_ _ _ (by omega)))).cell y0 (by simp)
      clear y0
      go_upto_region 10 with fail
      refine wp_region_each [⟨57, [], .eq (.agg (v.cells t))⟩, ⟨58, [], .eq (.int .i64 sub)⟩, ⟨59, [], .eq (.slice (some ⟨b, of, none⟩) K.length c7)⟩, ⟨60, [], .eq (.int .i64 (j : Int))⟩, ⟨61, [59, 60], .eq (.pointer (some ⟨b, of + j, none⟩))⟩, ⟨62, [61], .eq (.slice y.a y.l.length y.c)⟩, ⟨63, [57, 58, 62], .bt bs bo be⟩, ⟨56, [63], .bt bs bo be⟩, ⟨64, [56], .bl bs⟩, ⟨65, [56], .eq (.bool bo)⟩, ⟨66, [56], .eq (.int .i64 be)⟩, ⟨13, [64], .bl bs⟩, ⟨14, [65], .eq (.bool bo)⟩, ⟨15, [66], .eq (.int .i64 be)⟩] (by kernel_rfl) (by kernel_rfl) ?_
      apply Exists.intro
      refine ⟨fun vs => ?_, ?_⟩
      · simp only [List.map_cons, List.map_nil, puts, Act.put, List.setIfInBounds_toArray, List.set_cons_zero, List.set_cons_succ]
        exact rfl
      refine ⟨⟨fun vs w11 hk hg => ?_, fun vs w11 hk hg => ?_, fun vs w11 hk hg => ?_, fun vs w11 hk hg => ?_, fun vs w11 hk hg => ?_, fun vs w11 hk hg => ?_, fun vs w11 hk hg => ?_, fun vs w11 hk hg => ?_, fun vs w11 hk hg => ?_, fun vs w11 hk hg => ?_, fun vs w11 hk hg => ?_, fun vs w11 hk hg => ?_, fun vs w11 hk hg => ?_, fun vs w11 hk hg => ?_, trivial⟩, fun vs w11 hk hg => ?_⟩
      all_goals
        haveI p_w11 : PrevWorld w11 _ := ⟨hk⟩
        have hz_w11 := hk.size
        clear hk
        (try simp only [given, allGiven, look, SP.eq_p, SP.ex_p, SP.exs_p, SP.asl_p, Nat.reduceEqDiff, reduceIte, and_true] at hg)
        skip
      · clear hg
        go_wp2_with fail
        exact ⟨(by repeat (first | with_reducible exact HK.out | with_reducible exact Kept.refl _ _ | with_reducible refine Kept.prev ?_ | with_reducible refine Kept.alloc' ?_ _ | with_reducible refine Kept.drew' ?_ | with_reducible refine Kept.setB ?_ _ _ _ (by omega) | with_reducible refine Kept.row' ?_ _ _ (by omega) | with_reducible refine Kept.map' ?_ _ _ (by omega))), rfl, rfl⟩
      · clear hg
        go_wp2_with fail
        exact ⟨(by repeat (first | with_reducible exact HK.out | with_reducible exact Kept.refl _ _ | with_reducible refine Kept.prev ?_ | with_reducible refine Kept.alloc' ?_ _ | with_reducible refine Kept.drew' ?_ | with_reducible refine Kept.setB ?_ _ _ _ (by omega) | with_reducible refine Kept.row' ?_ _ _ (by omega) | with_reducible refine Kept.map' ?_ _ _ (by omega))), rfl, rfl⟩
      · clear hg
        go_wp2_with fail
        exact ⟨(by repeat (first | with_reducible exact HK.out | with_reducible exact Kept.refl _ _ | with_reducible refine Kept.prev ?_ | with_reducible refine Kept.alloc' ?_ _ | with_reducible refine Kept.drew' ?_ | with_reducible refine Kept.setB ?_ _ _ _ (by omega) | with_reducible refine Kept.row' ?_ _ _ (by omega) | with_reducible refine Kept.map' ?_ _ _ (by omega))), rfl, rfl⟩
      · clear hg
        go_wp2_with fail
        exact ⟨(by repeat (first | with_reducible exact HK.out | with_reducible exact Kept.refl _ _ | with_reducible refine Kept.prev ?_ | with_reducible refine Kept.alloc' ?_ _ | with_reducible refine Kept.drew' ?_ | with_reducible refine Kept.setB ?_ _ _ _ (by omega) | with_reducible refine Kept.row' ?_ _ _ (by omega) | with_reducible refine Kept.map' ?_ _ _ (by omega))), rfl, rfl⟩
      · obtain ⟨e59, e60⟩ := hg
        (try simp only [e59, e60])
        go_wp2_with fail
        exact ⟨(by repeat (first | with_reducible exact HK.out | with_reducible exact Kept.refl _ _ | with_reducible refine Kept.prev ?_ | with_reducible refine Kept.alloc' ?_ _ | with_reducible refine Kept.drew' ?_ | with_reducible refine Kept.setB ?_ _ _ _ (by omega) | with_reducible refine Kept.row' ?_ _ _ (by omega) | with_reducible refine Kept.map' ?_ _ _ (by omega))), rfl, rfl⟩
      · obtain e61 := hg
        (try simp only [e61])
        have yz := (show Kept [] w9 w11 from (by repeat (first | with_reducible exact HK.out | with_reducible exact Kept.refl _ _ | with_reducible refine Kept.prev ?_ | with_reducible refine Kept.alloc' ?_ _ | with_reducible refine Kept.drew' ?_ | with_reducible refine Kept.setB ?_ _ _ _ (by omega) | with_reducible refine Kept.row' ?_ _ _ (by omega) | with_reducible refine Kept.map' ?_ _ _ (by omega)))).cell y9 (by simp)
        go_wp2_with fail
        exact ⟨(by repeat (first | with_reducible exact HK.out | with_reducible exact Kept.refl _ _ | with_reducible refine Kept.prev ?_ | with_reducible refine Kept.alloc' ?_ _ | with_reducible refine Kept.drew' ?_ | with_reducible refine Kept.setB ?_ _ _ _ (by omega) | with_reducible refine Kept.row' ?_ _ _ (by omega) | with_reducible refine Kept.map' ?_ _ _ (by omega))), rfl, rfl⟩
      · obtain ⟨e57, e58, e62⟩ := hg
        (try simp only [e57, e58, e62])
        go_wp2_with fail
        refine (HRCY.out _ (by repeat (first | with_reducible exact HK.out | with_reducible exact Kept.refl _ _ | with_reducible refine Kept.prev ?_ | with_reducible refine Kept.alloc' ?_ _ | with_reducible refine Kept.drew' ?_ | with_reducible refine Kept.setB ?_ _ _ _ (by omega) | with_reducible refine Kept.row' ?_ _ _ (by omega) | with_reducible refine Kept.map' ?_ _ _ (by omega)))).mono ?_
        rintro e w12 ⟨A, c, rfl, hr, hk12⟩
        go_wp2_with fail
        exact ⟨hk12, rfl, A, c, rfl, hr⟩
      · obtain ⟨A63, c63, e63, h63⟩ := hg
        go_wp2_with fail
        exact ⟨(by repeat (first | with_reducible exact HK.out | with_reducible exact Kept.refl _ _ | with_reducible refine Kept.prev ?_ | with_reducible refine Kept.alloc' ?_ _ | with_reducible refine Kept.drew' ?_ | with_reducible refine Kept.setB ?_ _ _ _ (by omega) | with_reducible refine Kept.row' ?_ _ _ (by omega) | with_reducible refine Kept.map' ?_ _ _ (by omega))), rfl, A63, c63, rfl, h63⟩
      · obtain ⟨A56, c56, e56, h56⟩ := hg
        go_wp2_with fail
        exact ⟨(by repeat (first | with_reducible exact HK.out | with_reducible exact Kept.refl _ _ | with_reducible refine Kept.prev ?_ | with_reducible refine Kept.alloc' ?_ _ | with_reducible refine Kept.drew' ?_ | with_reducible refine Kept.setB ?_ _ _ _ (by omega) | with_reducible refine Kept.row' ?_ _ _ (by omega) | with_reducible refine Kept.map' ?_ _ _ (by omega))), rfl, A56, c56, rfl, h56⟩
      · obtain ⟨A56, c56, e56, h56⟩ := hg
        go_wp2_with fail
        exact ⟨(by repeat (first | with_reducible exact HK.out | with_reducible exact Kept.refl _ _ | with_reducible refine Kept.prev ?_ | with_reducible refine Kept.alloc' ?_ _ | with_reducible refine Kept.drew' ?_ | with_reducible refine Kept.setB ?_ _ _ _ (by omega) | with_reducible refine Kept.row' ?_ _ _ (by omega) | with_reducible refine Kept.map' ?_ _ _ (by omega))), rfl, rfl⟩
      · obtain ⟨A56, c56, e56, h56⟩ := hg
        go_wp2_with fail
        exact ⟨(by repeat (first | with_reducible exact HK.out | with_reducible exact Kept.refl _ _ | with_reducible refine Kept.prev ?_ | with_reducible refine Kept.alloc' ?_ _ | with_reducible refine Kept.drew' ?_ | with_reducible refine Kept.setB ?_ _ _ _ (by omega) | with_reducible refine Kept.row' ?_ _ _ (by omega) | with_reducible refine Kept.map' ?_ _ _ (by omega))), rfl, rfl⟩
      · obtain ⟨A64, c64, e64, h64⟩ := hg
        go_wp2_with fail
        exact ⟨(by repeat (first | with_reducible exact HK.out | with_reducible exact Kept.refl _ _ | with_reducible refine Kept.prev ?_ | with_reducible refine Kept.alloc' ?_ _ | with_reducible refine Kept.drew' ?_ | with_reducible refine Kept.setB ?_ _ _ _ (by omega) | with_reducible refine Kept.row' ?_ _ _ (by omega) | with_reducible refine Kept.map' ?_ _ _ (by omega))), rfl, A64, c64, rfl, h64⟩
      · obtain e65 := hg
        (try simp only [e65])
        go_wp2_with fail
        exact ⟨(by repeat (first | with_reducible exact HK.out | with_reducible exact Kept.refl _ _ | with_reducible refine Kept.prev ?_ | with_reducible refine Kept.alloc' ?_ _ | with_reducible refine Kept.drew' ?_ | with_reducible refine Kept.setB ?_ _ _ _ (by omega) | with_reducible refine Kept.row' ?_ _ _ (by omega) | with_reducible refine Kept.map' ?_ _ _ (by omega))), rfl, rfl⟩
      · obtain e66 := hg
        (try simp only [e66])
        go_wp2_with fail
        exact ⟨(by repeat (first | with_reducible exact HK.out | with_reducible exact Kept.refl _ _ | with_reducible refine Kept.prev ?_ | with_reducible refine Kept.alloc' ?_ _ | with_reducible refine Kept.drew' ?_ | with_reducible refine Kept.setB ?_ _ _ _ (by omega) | with_reducible refine Kept.row' ?_ _ _ (by omega) | with_reducible refine Kept.map' ?_ _ _ (by omega))), rfl, rfl⟩
      obtain ⟨-, -, -, -, -, -, -, -, -, -, -, ⟨A13, c13, e13, h13⟩, e14, e15⟩ := hg
      refine wpList_nil ?_
      simp only [e13, e14, e15]
      clear e13 e14 e15 HRCY
      have H13 := Lib.hid h13
      clear h13
      have HSM : Hid (∀ w', Kept [] w11 w' → Calls Tryz.prog 15 #[.slice A10 bs.length c10, .slice A13 bs.length c13] w' (RetV (.bool true) w')) := fun w' hk => by
        have h := same_any w' A10 A13 c10 c13 bs bs (by omega) ((H10.out.kept (show Kept [] w9 w11 from (by repeat (first | with_reducible exact HK.out | with_reducible exact Kept.refl _ _ | with_reducible refine Kept.prev ?_ | with_reducible refine Kept.alloc' ?_ _ | with_reducible refine Kept.drew' ?_ | with_reducible refine Kept.setB ?_ _ _ _ (by omega) | with_reducible refine Kept.row' ?_ _ _ (by omega) | with_reducible refine Kept.map' ?_ _ _ (by omega))))).kept hk) (by omega) (H13.out.kept hk)
        rw [decide_eq_true rfl] at h
        exact h
      clear H10 H13
      go_wp2_with fail
      refine (HSM.out _ (by repeat (first | with_reducible exact HK.out | with_reducible exact Kept.refl _ _ | with_reducible refine Kept.prev ?_ | with_reducible refine Kept.alloc' ?_ _ | with_reducible refine Kept.drew' ?_ | with_reducible refine Kept.setB ?_ _ _ _ (by omega) | with_reducible refine Kept.row' ?_ _ _ (by omega) | with_reducible refine Kept.map' ?_ _ _ (by omega)))).mono ?_; rintro e w13 ⟨rfl, hk_w13⟩; haveI p_w13 : PrevWorld w13 _ := ⟨hk_w13⟩; have hz_w13 : w.heap.size ≤ w13.heap.size := Kept.size (by repeat (first | with_reducible exact HK.out | with_reducible exact Kept.refl _ _ | with_reducible refine Kept.prev ?_ | with_reducible refine Kept.alloc' ?_ _ | with_reducible refine Kept.drew' ?_ | with_reducible refine Kept.setB ?_ _ _ _ (by omega) | with_reducible refine Kept.row' ?_ _ _ (by omega) | with_reducible refine Kept.map' ?_ _ _ (by omega))); clear hk_w13
      go_wp2_with fail
      go_roundw
      case rel => exact ⟨j + 1, by omega, by go_num, (by repeat (first | with_reducible exact HK.out | with_reducible exact Kept.refl _ _ | with_reducible refine Kept.prev ?_ | with_reducible refine Kept.alloc' ?_ _ | with_reducible refine Kept.drew' ?_ | with_reducible refine Kept.setB ?_ _ _ _ (by omega) | with_reducible refine Kept.row' ?_ _ _ (by omega) | with_reducible refine Kept.map' ?_ _ _ (by omega)))⟩
      case measure => simp [intOf]; omega
    · obtain rfl : j = K.length := by omega
      have HCV2 := Lib.hid (fun w' (hk : Kept [] w w') (hk2 : Kept [] w4 w') => HCV.out w' hk hk2)
      have HRCV2 := Lib.hid (fun w' (hk : Kept [] w w') (hk2 : Kept [] w4 w') => HRCV.out w' hk hk2)
      clear HCV HRCV HCH HRCH HLEN HROW hlt
      generalize refCover t n sub K = q at *
      go_wp2_with fail
      refine wp_region_head 13 0 (fun _ => .cells #[] 0) (by kernel_rfl) (by kernel_rfl) (fun i o h1 h2 => by omega) (fun _ _ _ _ _ h => h) ?_; apply Exists.intro; refine ⟨fun U hU hN => ?_, ?_⟩; simp only [List.take_succ_cons, List.take_zero]
      · iterate 4 (go_big_quiet_step (exact Calls.headV hU (HCV2.out _ (Kept.trans (by repeat (first | with_reducible exact HK.out | with_reducible exact Kept.refl _ _ | with_reducible refine Kept.prev ?_ | with_reducible refine Kept.alloc' ?_ _ | with_reducible refine Kept.drew' ?_ | with_reducible refine Kept.setB ?_ _ _ _ (by omega) | with_reducible refine Kept.row' ?_ _ _ (by omega) | with_reducible refine Kept.map' ?_ _ _ (by omega))) (AfterU.prop _)) (Kept.trans (by repeat (first | with_reducible exact HK.out | with_reducible exact Kept.refl _ _ | with_reducible refine Kept.prev ?_ | with_reducible refine Kept.alloc' ?_ _ | with_reducible refine Kept.drew' ?_ | with_reducible refine Kept.setB ?_ _ _ _ (by omega) | with_reducible refine Kept.row' ?_ _ _ (by omega) | with_reducible refine Kept.map' ?_ _ _ (by omega))) (AfterU.prop _)))))
        iterate 4 (go_big_quiet_step (exact Calls.headV hU (HRCV2.out _ (Kept.trans (by repeat (first | with_reducible exact HK.out | with_reducible exact Kept.refl _ _ | with_reducible refine Kept.prev ?_ | with_reducible refine Kept.alloc' ?_ _ | with_reducible refine Kept.drew' ?_ | with_reducible refine Kept.setB ?_ _ _ _ (by omega) | with_reducible refine Kept.row' ?_ _ _ (by omega) | with_reducible refine Kept.map' ?_ _ _ (by omega))) (AfterU.prop _)) (Kept.trans (by repeat (first | with_reducible exact HK.out | with_reducible exact Kept.refl _ _ | with_reducible refine Kept.prev ?_ | with_reducible refine Kept.alloc' ?_ _ | with_reducible refine Kept.drew' ?_ | with_reducible refine Kept.setB ?_ _ _ _ (by omega) | with_reducible refine Kept.row' ?_ _ _ (by omega) | with_reducible refine Kept.map' ?_ _ _ (by omega))) (AfterU.prop _)))))
        repeat (go_big_quiet_step (exact Calls.headV hU (HWK.out _)))
        refine wpQuiet_nil ?_
        exact rfl
      simp only [List.drop_succ_cons, List.drop_zero, List.take_succ_cons, List.take_zero]
      intro w15 hk15 _
      haveI p_w15 : PrevWorld w15 _ := ⟨hk15⟩
      clear hk15
      go_wp2_with fail
      exact bodyPost_v rfl (res1 Tryz.results5 (resT rfl)) (by repeat (first | with_reducible exact HK.out | with_reducible exact Kept.refl _ _ | with_reducible refine Kept.prev ?_ | with_reducible refine Kept.alloc' ?_ _ | with_reducible refine Kept.drew' ?_ | with_reducible refine Kept.setB ?_ _ _ _ (by omega) | with_reducible refine Kept.row' ?_ _ _ (by omega) | with_reducible refine Kept.map' ?_ _ _ (by omega)))
end Go.Proofs.YtgdjhhfbpalkdaaGreat
