/- The walk of StaticCover. -/
import Derived.Test.YtgdjhhfbpalkdaaK22
import Derived.Deep.AppendLies
import Derived.Deep.CutBlock
namespace Go.Proofs.Ytgdjhhfbpalkdaa
open Go.RowKit
set_option maxRecDepth 100000 in
set_option maxHeartbeats 8000000 in
theorem cover_walk (w : World) (v : TabV) (t : Tab) (sub : Int) (la : Option Addr) (lc : Nat) (ls : List ChL) (n : Nat) (hT : TabIn w v t) (hR : RowsAt ChL 1 ChL.cells w la ls) (hA : ∀ x, x ∈ ls → ChLIn w n x) (hl : ls.length ≤ 140737488355328) :
    Calls Try.prog 5 #[.agg (v.cells t), .int .i64 sub, .slice la ls.length lc] w (RetV (.bool true) w) := by
  have HT := Lib.hid (fun w' (hk : Kept [] w w') => hT.kept hk)
  have HR := Lib.hid hR
  have HA := Lib.hid hA
  clear hT hR hA
  obtain ⟨ib, ib0, ib1, ib2, ib3⟩ := Try.cl_parts
  obtain ⟨K, hK⟩ : ∃ K, K = cutK ls := ⟨_, rfl⟩
  have HK := Lib.hid hK
  have HKL : Hid (K.length = min 20 ls.length) := by rw [Hid, hK]; exact cutK_len ls
  clear hK
  have hk20 : K.length ≤ 20 := by rw [HKL.out]; omega
  unfold TabV.cells
  go_enter Try.func5, Try.ntmps5
  go_upto_block 0 with fail
  refine wp_gen' ?_
  intro w1 hw1
  haveI p_w1 : PrevWorld w1 w := ⟨by rw [hw1]; exact (by repeat (first | with_reducible exact HK.out | with_reducible exact Kept.refl _ _ | with_reducible refine Kept.prev ?_ | with_reducible refine Kept.alloc' ?_ _ | with_reducible refine Kept.drew' ?_ | with_reducible refine Kept.setB ?_ _ _ _ (by omega) | with_reducible refine Kept.row' ?_ _ _ (by omega) | with_reducible refine Kept.map' ?_ _ _ (by omega)))⟩
  haveI bx1 : BoxIs w1 w.heap.size 28 _ := by rw [hw1]; infer_instance
  have hz1 : w.heap.size ≤ w1.heap.size := Kept.size (X := []) (by repeat (first | with_reducible exact HK.out | with_reducible exact Kept.refl _ _ | with_reducible refine Kept.prev ?_ | with_reducible refine Kept.alloc' ?_ _ | with_reducible refine Kept.drew' ?_ | with_reducible refine Kept.setB ?_ _ _ _ (by omega) | with_reducible refine Kept.row' ?_ _ _ (by omega) | with_reducible refine Kept.map' ?_ _ _ (by omega)))
  clear hw1
  generalize w.heap.size = P3 at *
  go_cut [7] (fun v7 wc => ∃ A7 c7, v7 = .slice A7 K.length c7 ∧ RowsAt ChL 1 ChL.cells wc A7 K ∧ Kept [] w1 wc)
  case first =>
   go_wp2_with fail
   go_loopw [7, 8] (fun v7 i wr => CutL K w1 v7 i wr) (fun _ i _ => 20 - (intOf i).toNat)
   case atStart => exact ⟨0, Nat.zero_le _, rfl, World.ownsRow_nil _ _ _ _, Kept.refl _ _⟩
   case round =>
     obtain ⟨k, hk, rfl, hown, hkr⟩ := hrel
     obtain ⟨A7, c7, rfl⟩ := own_shape hown
     have HOWN := Lib.hid hown
     have hkz := hkr.size
     haveI p_wr : PrevWorld wr w1 := ⟨hkr⟩
     have HKR := Lib.hid hkr
     clear hown hkr
     by_cases hlt : k < K.length
     · have hm := HKL.out
       have j1 : (0 : Int) ≤ (k : Int) := by omega
       have j2 : (k : Int) < (ls.length : Int) := by omega
       have j3 : (k : Int) < 20 := by omega
       have j5 : k < ls.length := by omega
       obtain ⟨y, hy⟩ : ∃ y, ls[k]? = some y := ⟨_, List.getElem?_eq_getElem j5⟩
       obtain ⟨b, of, rfl, hr⟩ := HR.out.some_ hy
       have hyin := HA.out y (List.mem_of_getElem? hy)
       have y0 : wr.cell? ⟨b, of + k, none⟩ = some (.slice y.a y.l.length y.c) := (show Kept [] w wr from (by repeat (first | with_reducible exact HK.out | with_reducible exact Kept.refl _ _ | with_reducible refine Kept.prev ?_ | with_reducible refine Kept.alloc' ?_ _ | with_reducible refine Kept.drew' ?_ | with_reducible refine Kept.setB ?_ _ _ _ (by omega) | with_reducible refine Kept.row' ?_ _ _ (by omega) | with_reducible refine Kept.map' ?_ _ _ (by omega)))).cell (by simpa using hr k y hy 0 _ rfl) (by simp)
       have j4 : min (y.l.length : Int) 20 ≤ (y.c : Int) := by have := hyin.cap; omega
       have j6 : 0 ≤ min (y.l.length : Int) 20 := by omega
       have HST : Hid (clsC (K.take (k + 1)) = clsC (K.take k) ++ [.slice y.a (min (y.l.length : Int) 20).toNat y.c]) := by
         have h1 : K[k]? = some (cutC y) := by rw [HK.out]; exact cutK_get hy (by omega)
         rw [Hid, take_snoc h1, clsC_snoc]
         have e : (cutC y).l.length = (min (y.l.length : Int) 20).toNat := by simp [cutC]; omega
         rw [e]
         rfl
       clear hm hr hy hyin
       go_upto_region 5 with fail
       refine wp_region_deep [⟨37, [], .eq (.slice A7 k c7)⟩, ⟨38, [], .eq (.slice (some ⟨b, of, none⟩) ls.length lc)⟩, ⟨39, [], .eq (.int .i64 (k : Int))⟩, ⟨40, [38, 39], .eq (.pointer (some ⟨b, of + k, none⟩))⟩, ⟨41, [40], .eq (.slice y.a y.l.length y.c)⟩, ⟨42, [], .eq (.slice (some ⟨b, of, none⟩) ls.length lc)⟩, ⟨43, [], .eq (.int .i64 (k : Int))⟩, ⟨44, [42, 43], .eq (.pointer (some ⟨b, of + k, none⟩))⟩, ⟨45, [44], .eq (.slice y.a y.l.length y.c)⟩, ⟨46, [45], .eq (.int .i64 (y.l.length : Int))⟩, ⟨47, [46], .eq (.int .i64 (min (y.l.length : Int) 20))⟩, ⟨48, [41, 47], .eq (.slice y.a (min (y.l.length : Int) 20).toNat y.c)⟩, ⟨49, [48], .row 1 49 #[.slice y.a (min (y.l.length : Int) 20).toNat y.c]⟩] (by kernel_rfl) (by kernel_rfl) ?_
       apply Exists.intro
       refine ⟨fun vs => ?_, ?_⟩
       · simp only [List.map_cons, List.map_nil, puts, Act.put, List.setIfInBounds_toArray, List.set_cons_zero, List.set_cons_succ]
         exact rfl
       refine ⟨⟨fun vs w3 hk hg => ?_, fun vs w3 hk hg => ?_, fun vs w3 hk hg => ?_, fun vs w3 hk hg => ?_, fun vs w3 hk hg => ?_, fun vs w3 hk hg => ?_, fun vs w3 hk hg => ?_, fun vs w3 hk hg => ?_, fun vs w3 hk hg => ?_, fun vs w3 hk hg => ?_, fun vs w3 hk hg => ?_, fun vs w3 hk hg => ?_, fun vs w3 hk hg => ?_, trivial⟩, fun vs w3 hk hg => ?_⟩
       all_goals
         haveI p_w3 : PrevWorld w3 _ := ⟨hk⟩
         have hz_w3 := hk.size
         clear hk
         (try simp only [given, allGiven, look, SP.eq_p, SP.ex_p, SP.exs_p, SP.asl_p, Nat.reduceEqDiff, reduceIte, and_true] at hg)
         (try simp only [SP.tab_p, SP.row_p, SP.box_p] at hg)
       · clear hg
         go_wp2_with fail
         exact ⟨(by repeat (first | with_reducible exact HK.out | with_reducible exact Kept.refl _ _ | with_reducible refine Kept.prev ?_ | with_reducible refine Kept.alloc' ?_ _ | with_reducible refine Kept.drew' ?_ | with_reducible refine Kept.setB ?_ _ _ _ (by omega) | with_reducible refine Kept.row' ?_ _ _ (by omega) | with_reducible refine Kept.map' ?_ _ _ (by omega))), rfl, rfl⟩
       · clear hg
         go_wp2_with fail
         exact ⟨(by repeat (first | with_reducible exact HK.out | with_reducible exact Kept.refl _ _ | with_reducible refine Kept.prev ?_ | with_reducible refine Kept.alloc' ?_ _ | with_reducible refine Kept.drew' ?_ | with_reducible refine Kept.setB ?_ _ _ _ (by omega) | with_reducible refine Kept.row' ?_ _ _ (by omega) | with_reducible refine Kept.map' ?_ _ _ (by omega))), rfl, rfl⟩
       · clear hg
         go_wp2_with fail
         exact ⟨(by repeat (first | with_reducible exact HK.out | with_reducible exact Kept.refl _ _ | with_reducible refine Kept.prev ?_ | with_reducible refine Kept.alloc' ?_ _ | with_reducible refine Kept.drew' ?_ | with_reducible refine Kept.setB ?_ _ _ _ (by omega) | with_reducible refine Kept.row' ?_ _ _ (by omega) | with_reducible refine Kept.map' ?_ _ _ (by omega))), rfl, rfl⟩
       · obtain ⟨e38, e39⟩ := hg
         (try simp only [e38, e39])
         go_wp2_with fail
         exact ⟨(by repeat (first | with_reducible exact HK.out | with_reducible exact Kept.refl _ _ | with_reducible refine Kept.prev ?_ | with_reducible refine Kept.alloc' ?_ _ | with_reducible refine Kept.drew' ?_ | with_reducible refine Kept.setB ?_ _ _ _ (by omega) | with_reducible refine Kept.row' ?_ _ _ (by omega) | with_reducible refine Kept.map' ?_ _ _ (by omega))), rfl, rfl⟩
       · obtain e40 := hg
         (try simp only [e40])
         have yz := (show Kept [] wr w3 from (by repeat (first | with_reducible exact HK.out | with_reducible exact Kept.refl _ _ | with_reducible refine Kept.prev ?_ | with_reducible refine Kept.alloc' ?_ _ | with_reducible refine Kept.drew' ?_ | with_reducible refine Kept.setB ?_ _ _ _ (by omega) | with_reducible refine Kept.row' ?_ _ _ (by omega) | with_reducible refine Kept.map' ?_ _ _ (by omega)))).cell y0 (by simp)
         go_wp2_with fail
         exact ⟨(by repeat (first | with_reducible exact HK.out | with_reducible exact Kept.refl _ _ | with_reducible refine Kept.prev ?_ | with_reducible refine Kept.alloc' ?_ _ | with_reducible refine Kept.drew' ?_ | with_reducible refine Kept.setB ?_ _ _ _ (by omega) | with_reducible refine Kept.row' ?_ _ _ (by omega) | with_reducible refine Kept.map' ?_ _ _ (by omega))), rfl, rfl⟩
       · clear hg
         go_wp2_with fail
         exact ⟨(by repeat (first | with_reducible exact HK.out | with_reducible exact Kept.refl _ _ | with_reducible refine Kept.prev ?_ | with_reducible refine Kept.alloc' ?_ _ | with_reducible refine Kept.drew' ?_ | with_reducible refine Kept.setB ?_ _ _ _ (by omega) | with_reducible refine Kept.row' ?_ _ _ (by omega) | with_reducible refine Kept.map' ?_ _ _ (by omega))), rfl, rfl⟩
       · clear hg
         go_wp2_with fail
         exact ⟨(by repeat (first | with_reducible exact HK.out | with_reducible exact Kept.refl _ _ | with_reducible refine Kept.prev ?_ | with_reducible refine Kept.alloc' ?_ _ | with_reducible refine Kept.drew' ?_ | with_reducible refine Kept.setB ?_ _ _ _ (by omega) | with_reducible refine Kept.row' ?_ _ _ (by omega) | with_reducible refine Kept.map' ?_ _ _ (by omega))), rfl, rfl⟩
       · obtain ⟨e42, e43⟩ := hg
         (try simp only [e42, e43])
         go_wp2_with fail
         exact ⟨(by repeat (first | with_reducible exact HK.out | with_reducible exact Kept.refl _ _ | with_reducible refine Kept.prev ?_ | with_reducible refine Kept.alloc' ?_ _ | with_reducible refine Kept.drew' ?_ | with_reducible refine Kept.setB ?_ _ _ _ (by omega) | with_reducible refine Kept.row' ?_ _ _ (by omega) | with_reducible refine Kept.map' ?_ _ _ (by omega))), rfl, rfl⟩
       · obtain e44 := hg
         (try simp only [e44])
         have yz := (show Kept [] wr w3 from (by repeat (first | with_reducible exact HK.out | with_reducible exact Kept.refl _ _ | with_reducible refine Kept.prev ?_ | with_reducible refine Kept.alloc' ?_ _ | with_reducible refine Kept.drew' ?_ | with_reducible refine Kept.setB ?_ _ _ _ (by omega) | with_reducible refine Kept.row' ?_ _ _ (by omega) | with_reducible refine Kept.map' ?_ _ _ (by omega)))).cell y0 (by simp)
         go_wp2_with fail
         exact ⟨(by repeat (first | with_reducible exact HK.out | with_reducible exact Kept.refl _ _ | with_reducible refine Kept.prev ?_ | with_reducible refine Kept.alloc' ?_ _ | with_reducible refine Kept.drew' ?_ | with_reducible refine Kept.setB ?_ _ _ _ (by omega) | with_reducible refine Kept.row' ?_ _ _ (by omega) | with_reducible refine Kept.map' ?_ _ _ (by omega))), rfl, rfl⟩
       · obtain e45 := hg
         (try simp only [e45])
         go_wp2_with fail
         exact ⟨(by repeat (first | with_reducible exact HK.out | with_reducible exact Kept.refl _ _ | with_reducible refine Kept.prev ?_ | with_reducible refine Kept.alloc' ?_ _ | with_reducible refine Kept.drew' ?_ | with_reducible refine Kept.setB ?_ _ _ _ (by omega) | with_reducible refine Kept.row' ?_ _ _ (by omega) | with_reducible refine Kept.map' ?_ _ _ (by omega))), rfl, rfl⟩
       · obtain e46 := hg
         (try simp only [e46])
         go_wp2_with fail
         exact ⟨(by repeat (first | with_reducible exact HK.out | with_reducible exact Kept.refl _ _ | with_reducible refine Kept.prev ?_ | with_reducible refine Kept.alloc' ?_ _ | with_reducible refine Kept.drew' ?_ | with_reducible refine Kept.setB ?_ _ _ _ (by omega) | with_reducible refine Kept.row' ?_ _ _ (by omega) | with_reducible refine Kept.map' ?_ _ _ (by omega))), rfl, rfl⟩
       · obtain ⟨e41, e47⟩ := hg
         (try simp only [e41, e47])
         go_wp2_with fail
         exact ⟨(by repeat (first | with_reducible exact HK.out | with_reducible exact Kept.refl _ _ | with_reducible refine Kept.prev ?_ | with_reducible refine Kept.alloc' ?_ _ | with_reducible refine Kept.drew' ?_ | with_reducible refine Kept.setB ?_ _ _ _ (by omega) | with_reducible refine Kept.row' ?_ _ _ (by omega) | with_reducible refine Kept.map' ?_ _ _ (by omega))), rfl, rfl⟩
       · obtain e48 := hg
         (try simp only [e48])
         go_wp2_with fail
         exact ⟨(by repeat (first | with_reducible exact HK.out | with_reducible exact Kept.refl _ _ | with_reducible refine Kept.prev ?_ | with_reducible refine Kept.alloc' ?_ _ | with_reducible refine Kept.drew' ?_ | with_reducible refine Kept.setB ?_ _ _ _ (by omega) | with_reducible refine Kept.row' ?_ _ _ (by omega) | with_reducible refine Kept.map' ?_ _ _ (by omega))), rfl, _, rfl, box_at _ _⟩
       obtain ⟨e37, -, -, -, -, -, -, -, -, -, -, -, ⟨C49, e49, h49⟩⟩ := hg
       simp only [e37, e49]
       have HOW := Lib.hid (own_keep HOWN.out (show Kept [] wr w3 from (by repeat (first | with_reducible exact HK.out | with_reducible exact Kept.refl _ _ | with_reducible refine Kept.prev ?_ | with_reducible refine Kept.alloc' ?_ _ | with_reducible refine Kept.drew' ?_ | with_reducible refine Kept.setB ?_ _ _ _ (by omega) | with_reducible refine Kept.row' ?_ _ _ (by omega) | with_reducible refine Kept.map' ?_ _ _ (by omega)))) (by simp))
       have hz3 : w1.heap.size ≤ w3.heap.size := Kept.size (X := []) (by repeat (first | with_reducible exact HK.out | with_reducible exact Kept.refl _ _ | with_reducible refine Kept.prev ?_ | with_reducible refine Kept.alloc' ?_ _ | with_reducible refine Kept.drew' ?_ | with_reducible refine Kept.setB ?_ _ _ _ (by omega) | with_reducible refine Kept.row' ?_ _ _ (by omega) | with_reducible refine Kept.map' ?_ _ _ (by omega)))
       have HK3 := Lib.hid (show Kept [] w1 w3 from (by repeat (first | with_reducible exact HK.out | with_reducible exact Kept.refl _ _ | with_reducible refine Kept.prev ?_ | with_reducible refine Kept.alloc' ?_ _ | with_reducible refine Kept.drew' ?_ | with_reducible refine Kept.setB ?_ _ _ _ (by omega) | with_reducible refine Kept.row' ?_ _ _ (by omega) | with_reducible refine Kept.map' ?_ _ _ (by omega))))
       have H49 := Lib.hid h49
       clear h49 e37 e49
       have hA : k + 1 ≤ maxLen := by unfold maxLen; omega
       have hB : (k + 1) * 24 ≤ 140737488355328 := by omega
       show wpList _ _ _ [_, _] _ _
       go_wp2_with (at_builtin; refine wpList_append_own _ rfl _ _ 48 rfl w1.heap.size 49 ib (.slice none 0 0) 1 24 Try.underlying48 ib0 ib1 ib2 ib3 rfl (by decide) (.slice A7 k c7) k (clsC (K.take k)) rfl HOW.out ⟨C49, 0, none⟩ 1 1 [.slice y.a (min (y.l.length : Int) 20).toNat y.c] rfl rfl (World.news_of_block (cs := #[.slice y.a (min (y.l.length : Int) 20).toNat y.c]) (t := 49) (fr := (0, 0)) H49.out) (by simp [Value.oneCell']) hA hB hz3 ?_; intro v' w4 ho4 hg4 _; have HO4 := Lib.hid ho4; have HG4 := Lib.hid hg4; clear ho4 hg4)
       have HROW : Hid (w4.ownsRow w1.heap.size 49 1 v' (k + 1) (clsC (K.take (k + 1)))) := by
         rw [Hid, HST.out]
         exact HO4.out
       have HK4 : Hid (Kept [] w1 w4) := HK3.out.grown HG4.out (fun q hq => own_at HOWN.out q hq)
       go_roundw
       case rel => exact ⟨k + 1, by omega, by go_num, HROW.out, HK4.out⟩
       case measure => simp [intOf]; omega
     · obtain rfl : k = K.length := by omega
       have hm := HKL.out
       have hrow : ∃ A c, Value.slice A7 K.length c7 = .slice A K.length c ∧ RowsAt ChL 1 ChL.cells wr A K := by
         have ho := HOWN.out
         rw [List.take_length] at ho
         obtain ⟨A, c', e', h1, h2, h3, hrows⟩ := rows_own (α := ChL) (m := 1) (cells := ChL.cells) (l := K) ho (fun _ => rfl) rfl
         exact ⟨A, c', e', hrows⟩
       have HROW := Lib.hid hrow
       clear hrow HOWN hlt hk
       by_cases h20 : ls.length ≤ 20
       · have e : K.length = ls.length := by omega
         have e1 : decide ((K.length : Int) < (ls.length : Int)) = false := by simp [e]
         have e3 : ls.length ≤ K.length := by omega
         have e4 : (ls.length : Int) ≤ (K.length : Int) := by omega
         clear hm e
         go_wp2_with fail
         go_meet
         obtain ⟨A, c', e', hr⟩ := HROW.out
         exact ⟨A, c', e', hr, HKR.out⟩
       · have e1 : (K.length : Int) < (ls.length : Int) := by omega
         have e2 : decide ((K.length : Int) < 20) = false := by simp; omega
         have e3 : K.length < ls.length := by omega
         have e4 : (20 : Int) ≤ (K.length : Int) := by omega
         clear hm
         go_wp2_with fail
         go_meet
         obtain ⟨A, c', e', hr⟩ := HROW.out
         exact ⟨A, c', e', hr, HKR.out⟩
  obtain ⟨A7, c7, rfl, hrows, hkc⟩ := hcut
  obtain ⟨w4, rfl⟩ : ∃ w4 : World, w4 = wc := ⟨_, rfl⟩
  haveI p_w4 : PrevWorld w4 w1 := ⟨hkc⟩
  have HROW := Lib.hid (fun w' (hk : Kept [] w4 w') => hrows.kept hk)
  have HAK := Lib.hid (fun w' (hk : Kept [] w w') (y : ChL) (hy : y ∈ K) => show RowsAt ChV 2 ChV.cells w' y.a y.l ∧ (∀ z, z ∈ y.l → ChIn w' n z) ∧ y.l.length ≤ 1000 from by
    obtain ⟨x, hx, rfl⟩ := cutK_mem (HK.out ▸ hy)
    obtain ⟨h1, h2, h3⟩ := cut_in (HA.out x hx)
    exact ⟨h1.kept hk, fun z hz => (h2 z hz).kept hk, by omega⟩)
  have HRR := Lib.hid (fun w' (hk : Kept [] w w') => rrange_any w' v t sub (HT.out w' hk))
  have HCV := Lib.hid (fun w' (hk : Kept [] w w') (hk2 : Kept [] w4 w') => Cover_any w' v t sub A7 c7 K n (HT.out w' hk) (HROW.out w' hk2) (HAK.out w' hk) (by omega))
  have HCH := Lib.hid (fun w' (hk : Kept [] w w') (y : ChL) (hy : y ∈ K) => choices_val w' v t sub y n (HT.out w' hk) (HAK.out w' hk y hy))
  have HLEN := Lib.hid (fun (y : ChL) (hy : y ∈ K) => (HAK.out w (Kept.refl _ _) y hy).2.2)
  clear hrows hkc HR HA HK HKL hl ib0 ib1 ib2 ib3 HAK HT
  unfold TabV.cells at *
  unfold bd3V at HRR
  go_wp2_with fail
  cases ho : rangeP t sub with
  | none =>
    rw [ho] at HRR
    clear ho
    refine (HRR.out _ (by repeat (first | with_reducible exact HK.out | with_reducible exact Kept.refl _ _ | with_reducible refine Kept.prev ?_ | with_reducible refine Kept.alloc' ?_ _ | with_reducible refine Kept.drew' ?_ | with_reducible refine Kept.setB ?_ _ _ _ (by omega) | with_reducible refine Kept.row' ?_ _ _ (by omega) | with_reducible refine Kept.map' ?_ _ _ (by omega)))).mono ?_; rintro e w5 ⟨rfl, hk_w5⟩; haveI p_w5 : PrevWorld w5 _ := ⟨hk_w5⟩; have hz_w5 : w.heap.size ≤ w5.heap.size := Kept.size (by repeat (first | with_reducible exact HK.out | with_reducible exact Kept.refl _ _ | with_reducible refine Kept.prev ?_ | with_reducible refine Kept.alloc' ?_ _ | with_reducible refine Kept.drew' ?_ | with_reducible refine Kept.setB ?_ _ _ _ (by omega) | with_reducible refine Kept.row' ?_ _ _ (by omega) | with_reducible refine Kept.map' ?_ _ _ (by omega))); clear hk_w5
    go_wp2_with fail
    refine (HCV.out _ (by repeat (first | with_reducible exact HK.out | with_reducible exact Kept.refl _ _ | with_reducible refine Kept.prev ?_ | with_reducible refine Kept.alloc' ?_ _ | with_reducible refine Kept.drew' ?_ | with_reducible refine Kept.setB ?_ _ _ _ (by omega) | with_reducible refine Kept.row' ?_ _ _ (by omega) | with_reducible refine Kept.map' ?_ _ _ (by omega))) (by repeat (first | with_reducible exact HK.out | with_reducible exact Kept.refl _ _ | with_reducible refine Kept.prev ?_ | with_reducible refine Kept.alloc' ?_ _ | with_reducible refine Kept.drew' ?_ | with_reducible refine Kept.setB ?_ _ _ _ (by omega) | with_reducible refine Kept.row' ?_ _ _ (by omega) | with_reducible refine Kept.map' ?_ _ _ (by omega)))).mono ?_
    rintro e w6 ⟨r, rfl, _, hk6⟩
    haveI p_w6 : PrevWorld w6 _ := ⟨hk6⟩
    clear hk6
    go_wp2_with fail
    refine (works_any _).mono ?_; rintro e w7 ⟨rfl, hk_w7⟩; haveI p_w7 : PrevWorld w7 _ := ⟨hk_w7⟩; have hz_w7 : w.heap.size ≤ w7.heap.size := Kept.size (by repeat (first | with_reducible exact HK.out | with_reducible exact Kept.refl _ _ | with_reducible refine Kept.prev ?_ | with_reducible refine Kept.alloc' ?_ _ | with_reducible refine Kept.drew' ?_ | with_reducible refine Kept.setB ?_ _ _ _ (by omega) | with_reducible refine Kept.row' ?_ _ _ (by omega) | with_reducible refine Kept.map' ?_ _ _ (by omega))); clear hk_w7
    go_wp2_with fail
    exact bodyPost_v rfl (res1 Try.results5 (resT rfl)) (by repeat (first | with_reducible exact HK.out | with_reducible exact Kept.refl _ _ | with_reducible refine Kept.prev ?_ | with_reducible refine Kept.alloc' ?_ _ | with_reducible refine Kept.drew' ?_ | with_reducible refine Kept.setB ?_ _ _ _ (by omega) | with_reducible refine Kept.row' ?_ _ _ (by omega) | with_reducible refine Kept.map' ?_ _ _ (by omega)))
  | some b =>
    obtain ⟨lo, hi⟩ := b
    rw [ho] at HRR
    have HO := Lib.hid ho
    clear ho
    refine (HRR.out _ (by repeat (first | with_reducible exact HK.out | with_reducible exact Kept.refl _ _ | with_reducible refine Kept.prev ?_ | with_reducible refine Kept.alloc' ?_ _ | with_reducible refine Kept.drew' ?_ | with_reducible refine Kept.setB ?_ _ _ _ (by omega) | with_reducible refine Kept.row' ?_ _ _ (by omega) | with_reducible refine Kept.map' ?_ _ _ (by omega)))).mono ?_; rintro e w5 ⟨rfl, hk_w5⟩; haveI p_w5 : PrevWorld w5 _ := ⟨hk_w5⟩; have hz_w5 : w.heap.size ≤ w5.heap.size := Kept.size (by repeat (first | with_reducible exact HK.out | with_reducible exact Kept.refl _ _ | with_reducible refine Kept.prev ?_ | with_reducible refine Kept.alloc' ?_ _ | with_reducible refine Kept.drew' ?_ | with_reducible refine Kept.setB ?_ _ _ _ (by omega) | with_reducible refine Kept.row' ?_ _ _ (by omega) | with_reducible refine Kept.map' ?_ _ _ (by omega))); clear hk_w5
    go_wp2_with fail
    refine (HCV.out _ (by repeat (first | with_reducible exact HK.out | with_reducible exact Kept.refl _ _ | with_reducible refine Kept.prev ?_ | with_reducible refine Kept.alloc' ?_ _ | with_reducible refine Kept.drew' ?_ | with_reducible refine Kept.setB ?_ _ _ _ (by omega) | with_reducible refine Kept.row' ?_ _ _ (by omega) | with_reducible refine Kept.map' ?_ _ _ (by omega))) (by repeat (first | with_reducible exact HK.out | with_reducible exact Kept.refl _ _ | with_reducible refine Kept.prev ?_ | with_reducible refine Kept.alloc' ?_ _ | with_reducible refine Kept.drew' ?_ | with_reducible refine Kept.setB ?_ _ _ _ (by omega) | with_reducible refine Kept.row' ?_ _ _ (by omega) | with_reducible refine Kept.map' ?_ _ _ (by omega)))).mono ?_
    rintro e w6 ⟨r, rfl, hcov, hk6⟩
    haveI p_w6 : PrevWorld w6 _ := ⟨hk6⟩
    have HCOV := Lib.hid hcov
    clear hk6 hcov HRR HCV
    by_cases g1 : lo < -1099511627776
    ·
      go_wp2_with fail
      refine (works_any _).mono ?_; rintro e w7 ⟨rfl, hk_w7⟩; haveI p_w7 : PrevWorld w7 _ := ⟨hk_w7⟩; have hz_w7 : w.heap.size ≤ w7.heap.size := Kept.size (by repeat (first | with_reducible exact HK.out | with_reducible exact Kept.refl _ _ | with_reducible refine Kept.prev ?_ | with_reducible refine Kept.alloc' ?_ _ | with_reducible refine Kept.drew' ?_ | with_reducible refine Kept.setB ?_ _ _ _ (by omega) | with_reducible refine Kept.row' ?_ _ _ (by omega) | with_reducible refine Kept.map' ?_ _ _ (by omega))); clear hk_w7
      go_wp2_with fail
      exact bodyPost_v rfl (res1 Try.results5 (resT rfl)) (by repeat (first | with_reducible exact HK.out | with_reducible exact Kept.refl _ _ | with_reducible refine Kept.prev ?_ | with_reducible refine Kept.alloc' ?_ _ | with_reducible refine Kept.drew' ?_ | with_reducible refine Kept.setB ?_ _ _ _ (by omega) | with_reducible refine Kept.row' ?_ _ _ (by omega) | with_reducible refine Kept.map' ?_ _ _ (by omega)))
    have g1' : decide (lo < -1099511627776) = false := by simp; omega
    by_cases g2 : 1099511627776 < hi
    · clear g1
      go_wp2_with fail
      refine (works_any _).mono ?_; rintro e w7 ⟨rfl, hk_w7⟩; haveI p_w7 : PrevWorld w7 _ := ⟨hk_w7⟩; have hz_w7 : w.heap.size ≤ w7.heap.size := Kept.size (by repeat (first | with_reducible exact HK.out | with_reducible exact Kept.refl _ _ | with_reducible refine Kept.prev ?_ | with_reducible refine Kept.alloc' ?_ _ | with_reducible refine Kept.drew' ?_ | with_reducible refine Kept.setB ?_ _ _ _ (by omega) | with_reducible refine Kept.row' ?_ _ _ (by omega) | with_reducible refine Kept.map' ?_ _ _ (by omega))); clear hk_w7
      go_wp2_with fail
      exact bodyPost_v rfl (res1 Try.results5 (resT rfl)) (by repeat (first | with_reducible exact HK.out | with_reducible exact Kept.refl _ _ | with_reducible refine Kept.prev ?_ | with_reducible refine Kept.alloc' ?_ _ | with_reducible refine Kept.drew' ?_ | with_reducible refine Kept.setB ?_ _ _ _ (by omega) | with_reducible refine Kept.row' ?_ _ _ (by omega) | with_reducible refine Kept.map' ?_ _ _ (by omega)))
    have g2' : decide (1099511627776 < hi) = false := by simp; omega
    by_cases g3 : 199 < wrap64 (hi - lo)
    · clear g1 g2
      go_wp2_with fail
      refine (works_any _).mono ?_; rintro e w7 ⟨rfl, hk_w7⟩; haveI p_w7 : PrevWorld w7 _ := ⟨hk_w7⟩; have hz_w7 : w.heap.size ≤ w7.heap.size := Kept.size (by repeat (first | with_reducible exact HK.out | with_reducible exact Kept.refl _ _ | with_reducible refine Kept.prev ?_ | with_reducible refine Kept.alloc' ?_ _ | with_reducible refine Kept.drew' ?_ | with_reducible refine Kept.setB ?_ _ _ _ (by omega) | with_reducible refine Kept.row' ?_ _ _ (by omega) | with_reducible refine Kept.map' ?_ _ _ (by omega))); clear hk_w7
      go_wp2_with fail
      exact bodyPost_v rfl (res1 Try.results5 (resT rfl)) (by repeat (first | with_reducible exact HK.out | with_reducible exact Kept.refl _ _ | with_reducible refine Kept.prev ?_ | with_reducible refine Kept.alloc' ?_ _ | with_reducible refine Kept.drew' ?_ | with_reducible refine Kept.setB ?_ _ _ _ (by omega) | with_reducible refine Kept.row' ?_ _ _ (by omega) | with_reducible refine Kept.map' ?_ _ _ (by omega)))
    have g3' : decide (199 < wrap64 (hi - lo)) = false := by simp; omega
    by_cases g4 : r ≠ 0 ∧ r ≠ 72
    · obtain ⟨g5, g6⟩ := g4
      have g5' : (r != 0) = true := by simp [g5]
      have g6' : (r != 72) = true := by simp [g6]
      clear g1 g2 g3 g5 g6
      go_wp2_with fail
      refine (works_any _).mono ?_; rintro e w7 ⟨rfl, hk_w7⟩; haveI p_w7 : PrevWorld w7 _ := ⟨hk_w7⟩; have hz_w7 : w.heap.size ≤ w7.heap.size := Kept.size (by repeat (first | with_reducible exact HK.out | with_reducible exact Kept.refl _ _ | with_reducible refine Kept.prev ?_ | with_reducible refine Kept.alloc' ?_ _ | with_reducible refine Kept.drew' ?_ | with_reducible refine Kept.setB ?_ _ _ _ (by omega) | with_reducible refine Kept.row' ?_ _ _ (by omega) | with_reducible refine Kept.map' ?_ _ _ (by omega))); clear hk_w7
      go_wp2_with fail
      exact bodyPost_v rfl (res1 Try.results5 (resT rfl)) (by repeat (first | with_reducible exact HK.out | with_reducible exact Kept.refl _ _ | with_reducible refine Kept.prev ?_ | with_reducible refine Kept.alloc' ?_ _ | with_reducible refine Kept.drew' ?_ | with_reducible refine Kept.setB ?_ _ _ _ (by omega) | with_reducible refine Kept.row' ?_ _ _ (by omega) | with_reducible refine Kept.map' ?_ _ _ (by omega)))
    have h0 : r = 0 ∨ r = 72 := by omega
    have HL1 := Lib.hid (show -1099511627776 ≤ lo by omega)
    have HL2 := Lib.hid (show hi ≤ 1099511627776 by omega)
    have HFIN := Lib.hid (right_law HO.out HL1.out HL2.out HCOV.out h0)
    clear g1 g2 g3 g4 HCOV HO
    go_upto_region 8 with fail
    go_cut [85] (fun v85 wc => v85 = .bool false ∧ wc = w6)
    case first =>
      clear HFIN
      rcases h0 with rfl | rfl
      · go_wp2_with fail
        go_meet
        exact ⟨rfl, rfl⟩
      · go_wp2_with fail
        go_meet
        exact ⟨rfl, rfl⟩
    obtain ⟨rfl, rfl⟩ := hcut
    have hl1 := HL1.out
    have hl2 := HL2.out
    clear g1' g2' g3'
    go_wp2_with fail
    obtain ⟨w8, rfl⟩ : ∃ w8 : World, w8 = wc := ⟨_, rfl⟩
    have hz8 := (show Kept [] w w8 from (by repeat (first | with_reducible exact HK.out | with_reducible exact Kept.refl _ _ | with_reducible refine Kept.prev ?_ | with_reducible refine Kept.alloc' ?_ _ | with_reducible refine Kept.drew' ?_ | with_reducible refine Kept.setB ?_ _ _ _ (by omega) | with_reducible refine Kept.row' ?_ _ _ (by omega) | with_reducible refine Kept.map' ?_ _ _ (by omega)))).size
    go_loopw [13, 14, 89] (fun v13 v14 i wr => RelA t n sub K w8 v13 v14 i wr) (fun _ _ i _ => K.length - (intOf i).toNat)
    case atStart => exact ⟨0, Nat.zero_le _, rfl, rfl, rfl, Kept.refl _ _⟩
    case round =>
      obtain ⟨j, hj, rfl, rfl, rfl, hkr⟩ := hrel
      haveI p_wr : PrevWorld wr w8 := ⟨hkr⟩
      have hkz := hkr.size
      clear hkr
      by_cases hlt : j < K.length
      · obtain ⟨y, hy⟩ : ∃ y, K[j]? = some y := ⟨_, List.getElem?_eq_getElem hlt⟩
        have hym := List.mem_of_getElem? hy
        obtain ⟨b, of, ha, hr⟩ := (HROW.out w4 (Kept.refl _ _)).some_ hy
        subst ha
        have y0 : wr.cell? ⟨b, of + j, none⟩ = some (.slice y.a y.l.length y.c) := (show Kept [] w4 wr from (by repeat (first | with_reducible exact HK.out | with_reducible exact Kept.refl _ _ | with_reducible refine Kept.prev ?_ | with_reducible refine Kept.alloc' ?_ _ | with_reducible refine Kept.drew' ?_ | with_reducible refine Kept.setB ?_ _ _ _ (by omega) | with_reducible refine Kept.row' ?_ _ _ (by omega) | with_reducible refine Kept.map' ?_ _ _ (by omega)))).cell (by simpa using hr j y hy 0 _ rfl) (by simp)
        have HCY := Lib.hid (fun w' (hk : Kept [] w w') => HCH.out w' hk y hym)
        have HWS := Lib.hid (wrong_step (t := t) (n := n) (sub := sub) hy)
        have HRS := Lib.hid (rest_step (t := t) (n := n) (sub := sub) hy)
        have HOS := Lib.hid (fun h => others_some (t := t) (n := n) (sub := sub) (l := y.l) h)
        have j1 : (0 : Int) ≤ (j : Int) := by omega
        have j2 : (j : Int) < (K.length : Int) := by omega
        clear hr hy hym HCH HFIN HLEN HROW h0
        generalize chB t n sub y.l = bs at *
        generalize chO t n sub y.l = bo at *
        generalize chE t n sub y.l = be at *
        generalize wrongTo t n sub K j = bw at *
        generalize restTo t n sub K j = br at *
        go_upto_region 14 with fail
        refine wp_region_each [⟨93, [], .eq (.agg (v.cells t))⟩, ⟨94, [], .eq (.int .i64 sub)⟩, ⟨95, [], .eq (.slice (some ⟨b, of, none⟩) K.length c7)⟩, ⟨96, [], .eq (.int .i64 (j : Int))⟩, ⟨97, [95, 96], .eq (.pointer (some ⟨b, of + j, none⟩))⟩, ⟨98, [97], .eq (.slice y.a y.l.length y.c)⟩, ⟨99, [93, 94, 98], .bt bs bo be⟩, ⟨92, [99], .bt bs bo be⟩, ⟨100, [92], .bl bs⟩, ⟨101, [92], .eq (.bool bo)⟩, ⟨102, [92], .eq (.int .i64 be)⟩, ⟨16, [100], .bl bs⟩, ⟨17, [101], .eq (.bool bo)⟩, ⟨18, [102], .eq (.int .i64 be)⟩] (by kernel_rfl) (by kernel_rfl) ?_
        apply Exists.intro
        refine ⟨fun vs => ?_, ?_⟩
        · simp only [List.map_cons, List.map_nil, puts, Act.put, List.setIfInBounds_toArray, List.set_cons_zero, List.set_cons_succ]
          exact rfl
        refine ⟨⟨fun vs w9 hk hg => ?_, fun vs w9 hk hg => ?_, fun vs w9 hk hg => ?_, fun vs w9 hk hg => ?_, fun vs w9 hk hg => ?_, fun vs w9 hk hg => ?_, fun vs w9 hk hg => ?_, fun vs w9 hk hg => ?_, fun vs w9 hk hg => ?_, fun vs w9 hk hg => ?_, fun vs w9 hk hg => ?_, fun vs w9 hk hg => ?_, fun vs w9 hk hg => ?_, fun vs w9 hk hg => ?_, trivial⟩, fun vs w9 hk hg => ?_⟩
        all_goals
          haveI p_w9 : PrevWorld w9 _ := ⟨hk⟩
          have hz_w9 := hk.size
          clear hk
          (try simp only [given, allGiven, look, SP.eq_p, SP.ex_p, SP.exs_p, SP.asl_p, Nat.reduceEqDiff, reduceIte, and_true] at hg)
          (try simp only [SP.tab_p, SP.row_p, SP.box_p] at hg)
        · clear hg
          go_wp2_with fail
          exact ⟨(by repeat (first | with_reducible exact HK.out | with_reducible exact Kept.refl _ _ | with_reducible refine Kept.prev ?_ | with_reducible refine Kept.alloc' ?_ _ | with_reducible refine Kept.drew' ?_ | with_reducible refine Kept.setB ?_ _ _ _ (by omega) | with_reducible refine Kept.row' ?_ _ _ (by omega) | with_reducible refine Kept.map' ?_ _ _ (by omega))), rfl, rfl⟩
        · clear hg
          go_wp2_with fail
          exact ⟨(by repeat (first | with_reducible exact HK.out | with_reducible exact Kept.refl _ _ | with_reducible refine Kept.prev ?_ | with_reducible refine Kept.alloc' ?_ _ | with_reducible refine Kept.drew' ?_ | with_reducible refine Kept.setB ?_ _ _ _ (by omega) | with_reducible refine Kept.row' ?_ _ _ (by omega) | with_reducible refine Kept.map' ?_ _ _ (by omega))), rfl, rfl⟩
        · clear hg
          go_wp2_with fail
          exact ⟨(by repeat (first | with_reducible exact HK.out | with_reducible exact Kept.refl _ _ | with_reducible refine Kept.prev ?_ | with_reducible refine Kept.alloc' ?_ _ | with_reducible refine Kept.drew' ?_ | with_reducible refine Kept.setB ?_ _ _ _ (by omega) | with_reducible refine Kept.row' ?_ _ _ (by omega) | with_reducible refine Kept.map' ?_ _ _ (by omega))), rfl, rfl⟩
        · clear hg
          go_wp2_with fail
          exact ⟨(by repeat (first | with_reducible exact HK.out | with_reducible exact Kept.refl _ _ | with_reducible refine Kept.prev ?_ | with_reducible refine Kept.alloc' ?_ _ | with_reducible refine Kept.drew' ?_ | with_reducible refine Kept.setB ?_ _ _ _ (by omega) | with_reducible refine Kept.row' ?_ _ _ (by omega) | with_reducible refine Kept.map' ?_ _ _ (by omega))), rfl, rfl⟩
        · obtain ⟨e95, e96⟩ := hg
          (try simp only [e95, e96])
          go_wp2_with fail
          exact ⟨(by repeat (first | with_reducible exact HK.out | with_reducible exact Kept.refl _ _ | with_reducible refine Kept.prev ?_ | with_reducible refine Kept.alloc' ?_ _ | with_reducible refine Kept.drew' ?_ | with_reducible refine Kept.setB ?_ _ _ _ (by omega) | with_reducible refine Kept.row' ?_ _ _ (by omega) | with_reducible refine Kept.map' ?_ _ _ (by omega))), rfl, rfl⟩
        · obtain e97 := hg
          (try simp only [e97])
          have yz := (show Kept [] wr w9 from (by repeat (first | with_reducible exact HK.out | with_reducible exact Kept.refl _ _ | with_reducible refine Kept.prev ?_ | with_reducible refine Kept.alloc' ?_ _ | with_reducible refine Kept.drew' ?_ | with_reducible refine Kept.setB ?_ _ _ _ (by omega) | with_reducible refine Kept.row' ?_ _ _ (by omega) | with_reducible refine Kept.map' ?_ _ _ (by omega)))).cell y0 (by simp)
          go_wp2_with fail
          exact ⟨(by repeat (first | with_reducible exact HK.out | with_reducible exact Kept.refl _ _ | with_reducible refine Kept.prev ?_ | with_reducible refine Kept.alloc' ?_ _ | with_reducible refine Kept.drew' ?_ | with_reducible refine Kept.setB ?_ _ _ _ (by omega) | with_reducible refine Kept.row' ?_ _ _ (by omega) | with_reducible refine Kept.map' ?_ _ _ (by omega))), rfl, rfl⟩
        · obtain ⟨e93, e94, e98⟩ := hg
          (try simp only [e93, e94, e98])
          go_wp2_with fail
          refine (HCY.out _ (by repeat (first | with_reducible exact HK.out | with_reducible exact Kept.refl _ _ | with_reducible refine Kept.prev ?_ | with_reducible refine Kept.alloc' ?_ _ | with_reducible refine Kept.drew' ?_ | with_reducible refine Kept.setB ?_ _ _ _ (by omega) | with_reducible refine Kept.row' ?_ _ _ (by omega) | with_reducible refine Kept.map' ?_ _ _ (by omega)))).mono ?_
          rintro e w10 ⟨A, c, rfl, hr, hk10⟩
          go_wp2_with fail
          exact ⟨hk10, rfl, A, c, rfl, hr⟩
        · obtain ⟨A99, c99, e99, h99⟩ := hg
          go_wp2_with fail
          exact ⟨(by repeat (first | with_reducible exact HK.out | with_reducible exact Kept.refl _ _ | with_reducible refine Kept.prev ?_ | with_reducible refine Kept.alloc' ?_ _ | with_reducible refine Kept.drew' ?_ | with_reducible refine Kept.setB ?_ _ _ _ (by omega) | with_reducible refine Kept.row' ?_ _ _ (by omega) | with_reducible refine Kept.map' ?_ _ _ (by omega))), rfl, A99, c99, rfl, h99⟩
        · obtain ⟨A92, c92, e92, h92⟩ := hg
          go_wp2_with fail
          exact ⟨(by repeat (first | with_reducible exact HK.out | with_reducible exact Kept.refl _ _ | with_reducible refine Kept.prev ?_ | with_reducible refine Kept.alloc' ?_ _ | with_reducible refine Kept.drew' ?_ | with_reducible refine Kept.setB ?_ _ _ _ (by omega) | with_reducible refine Kept.row' ?_ _ _ (by omega) | with_reducible refine Kept.map' ?_ _ _ (by omega))), rfl, A92, c92, rfl, h92⟩
        · obtain ⟨A92, c92, e92, h92⟩ := hg
          go_wp2_with fail
          exact ⟨(by repeat (first | with_reducible exact HK.out | with_reducible exact Kept.refl _ _ | with_reducible refine Kept.prev ?_ | with_reducible refine Kept.alloc' ?_ _ | with_reducible refine Kept.drew' ?_ | with_reducible refine Kept.setB ?_ _ _ _ (by omega) | with_reducible refine Kept.row' ?_ _ _ (by omega) | with_reducible refine Kept.map' ?_ _ _ (by omega))), rfl, rfl⟩
        · obtain ⟨A92, c92, e92, h92⟩ := hg
          go_wp2_with fail
          exact ⟨(by repeat (first | with_reducible exact HK.out | with_reducible exact Kept.refl _ _ | with_reducible refine Kept.prev ?_ | with_reducible refine Kept.alloc' ?_ _ | with_reducible refine Kept.drew' ?_ | with_reducible refine Kept.setB ?_ _ _ _ (by omega) | with_reducible refine Kept.row' ?_ _ _ (by omega) | with_reducible refine Kept.map' ?_ _ _ (by omega))), rfl, rfl⟩
        · obtain ⟨A100, c100, e100, h100⟩ := hg
          go_wp2_with fail
          exact ⟨(by repeat (first | with_reducible exact HK.out | with_reducible exact Kept.refl _ _ | with_reducible refine Kept.prev ?_ | with_reducible refine Kept.alloc' ?_ _ | with_reducible refine Kept.drew' ?_ | with_reducible refine Kept.setB ?_ _ _ _ (by omega) | with_reducible refine Kept.row' ?_ _ _ (by omega) | with_reducible refine Kept.map' ?_ _ _ (by omega))), rfl, A100, c100, rfl, h100⟩
        · obtain e101 := hg
          (try simp only [e101])
          go_wp2_with fail
          exact ⟨(by repeat (first | with_reducible exact HK.out | with_reducible exact Kept.refl _ _ | with_reducible refine Kept.prev ?_ | with_reducible refine Kept.alloc' ?_ _ | with_reducible refine Kept.drew' ?_ | with_reducible refine Kept.setB ?_ _ _ _ (by omega) | with_reducible refine Kept.row' ?_ _ _ (by omega) | with_reducible refine Kept.map' ?_ _ _ (by omega))), rfl, rfl⟩
        · obtain e102 := hg
          (try simp only [e102])
          go_wp2_with fail
          exact ⟨(by repeat (first | with_reducible exact HK.out | with_reducible exact Kept.refl _ _ | with_reducible refine Kept.prev ?_ | with_reducible refine Kept.alloc' ?_ _ | with_reducible refine Kept.drew' ?_ | with_reducible refine Kept.setB ?_ _ _ _ (by omega) | with_reducible refine Kept.row' ?_ _ _ (by omega) | with_reducible refine Kept.map' ?_ _ _ (by omega))), rfl, rfl⟩
        obtain ⟨-, -, -, -, -, -, -, -, -, -, -, ⟨A16, c16, e16, h16⟩, e17, e18⟩ := hg
        refine wpList_nil ?_
        simp only [e16, e17, e18]
        clear e16 e17 e18 HCY
        clear h16
        have y9 := (show Kept [] wr w9 from (by repeat (first | with_reducible exact HK.out | with_reducible exact Kept.refl _ _ | with_reducible refine Kept.prev ?_ | with_reducible refine Kept.alloc' ?_ _ | with_reducible refine Kept.drew' ?_ | with_reducible refine Kept.setB ?_ _ _ _ (by omega) | with_reducible refine Kept.row' ?_ _ _ (by omega) | with_reducible refine Kept.map' ?_ _ _ (by omega)))).cell y0 (by simp)
        clear y0
        cases bw
        rotate_left
        · simp only [Bool.not_true]
          have HW2 : Hid (wrongTo t n sub K (j + 1) = true) := by rw [Hid, HWS.out]; rfl
          cases br
          · have HR2 : Hid (restTo t n sub K (j + 1) = bo) := by rw [Hid, HRS.out]; rfl
            go_wp2_with fail
            go_roundw
            case rel => exact ⟨j + 1, by omega, by go_num, by rw [HW2.out]; rfl, by rw [HR2.out], (by repeat (first | with_reducible exact HK.out | with_reducible exact Kept.refl _ _ | with_reducible refine Kept.prev ?_ | with_reducible refine Kept.alloc' ?_ _ | with_reducible refine Kept.drew' ?_ | with_reducible refine Kept.setB ?_ _ _ _ (by omega) | with_reducible refine Kept.row' ?_ _ _ (by omega) | with_reducible refine Kept.map' ?_ _ _ (by omega)))⟩
            case measure => simp [intOf]; omega
          · have HR2 : Hid (restTo t n sub K (j + 1) = true) := by rw [Hid, HRS.out]; rfl
            go_wp2_with fail
            go_roundw
            case rel => exact ⟨j + 1, by omega, by go_num, by rw [HW2.out]; rfl, by rw [HR2.out], (by repeat (first | with_reducible exact HK.out | with_reducible exact Kept.refl _ _ | with_reducible refine Kept.prev ?_ | with_reducible refine Kept.alloc' ?_ _ | with_reducible refine Kept.drew' ?_ | with_reducible refine Kept.setB ?_ _ _ _ (by omega) | with_reducible refine Kept.row' ?_ _ _ (by omega) | with_reducible refine Kept.map' ?_ _ _ (by omega)))⟩
            case measure => simp [intOf]; omega
        simp only [Bool.not_false]
        cases bo
        · have HW2 : Hid (wrongTo t n sub K (j + 1) = false) := by rw [Hid, HWS.out]; rfl
          cases br
          · have HR2 : Hid (restTo t n sub K (j + 1) = false) := by rw [Hid, HRS.out]; rfl
            go_wp2_with fail
            go_roundw
            case rel => exact ⟨j + 1, by omega, by go_num, by rw [HW2.out]; rfl, by rw [HR2.out], (by repeat (first | with_reducible exact HK.out | with_reducible exact Kept.refl _ _ | with_reducible refine Kept.prev ?_ | with_reducible refine Kept.alloc' ?_ _ | with_reducible refine Kept.drew' ?_ | with_reducible refine Kept.setB ?_ _ _ _ (by omega) | with_reducible refine Kept.row' ?_ _ _ (by omega) | with_reducible refine Kept.map' ?_ _ _ (by omega)))⟩
            case measure => simp [intOf]; omega
          · have HR2 : Hid (restTo t n sub K (j + 1) = true) := by rw [Hid, HRS.out]; rfl
            go_wp2_with fail
            go_roundw
            case rel => exact ⟨j + 1, by omega, by go_num, by rw [HW2.out]; rfl, by rw [HR2.out], (by repeat (first | with_reducible exact HK.out | with_reducible exact Kept.refl _ _ | with_reducible refine Kept.prev ?_ | with_reducible refine Kept.alloc' ?_ _ | with_reducible refine Kept.drew' ?_ | with_reducible refine Kept.setB ?_ _ _ _ (by omega) | with_reducible refine Kept.row' ?_ _ _ (by omega) | with_reducible refine Kept.map' ?_ _ _ (by omega)))⟩
            case measure => simp [intOf]; omega
        have hpos := HOS.out rfl
        by_cases hlast : j + 1 = K.length
        rotate_left
        · have f1 : ((j : Int) == (K.length : Int) - 1) = false := by simp; omega
          have HW2 : Hid (wrongTo t n sub K (j + 1) = true) := by
            rw [Hid, HWS.out, decide_eq_true (show j + 1 < K.length by omega)]; rfl
          clear hpos hlast
          cases br
          · have HR2 : Hid (restTo t n sub K (j + 1) = true) := by rw [Hid, HRS.out]; rfl
            go_wp2_with fail
            go_roundw
            case rel => exact ⟨j + 1, by omega, by go_num, by rw [HW2.out]; rfl, by rw [HR2.out], (by repeat (first | with_reducible exact HK.out | with_reducible exact Kept.refl _ _ | with_reducible refine Kept.prev ?_ | with_reducible refine Kept.alloc' ?_ _ | with_reducible refine Kept.drew' ?_ | with_reducible refine Kept.setB ?_ _ _ _ (by omega) | with_reducible refine Kept.row' ?_ _ _ (by omega) | with_reducible refine Kept.map' ?_ _ _ (by omega)))⟩
            case measure => simp [intOf]; omega
          · have HR2 : Hid (restTo t n sub K (j + 1) = true) := by rw [Hid, HRS.out]; rfl
            go_wp2_with fail
            go_roundw
            case rel => exact ⟨j + 1, by omega, by go_num, by rw [HW2.out]; rfl, by rw [HR2.out], (by repeat (first | with_reducible exact HK.out | with_reducible exact Kept.refl _ _ | with_reducible refine Kept.prev ?_ | with_reducible refine Kept.alloc' ?_ _ | with_reducible refine Kept.drew' ?_ | with_reducible refine Kept.setB ?_ _ _ _ (by omega) | with_reducible refine Kept.row' ?_ _ _ (by omega) | with_reducible refine Kept.map' ?_ _ _ (by omega)))⟩
            case measure => simp [intOf]; omega
        have f1 : ((j : Int) == (K.length : Int) - 1) = true := by simp; omega
        by_cases hone : y.l.length = 1
        · have f2 : ((y.l.length : Int) == 1) = true := by simp [hone]
          have HW2 : Hid (wrongTo t n sub K (j + 1) = false) := by
            rw [Hid, HWS.out, decide_eq_false (show ¬ j + 1 < K.length by omega), decide_eq_false (show ¬ 1 < y.l.length by omega)]; rfl
          clear hpos hlast hone
          cases br
          · have HR2 : Hid (restTo t n sub K (j + 1) = true) := by rw [Hid, HRS.out]; rfl
            go_wp2_with fail
            go_roundw
            case rel => exact ⟨j + 1, by omega, by go_num, by rw [HW2.out]; rfl, by rw [HR2.out], (by repeat (first | with_reducible exact HK.out | with_reducible exact Kept.refl _ _ | with_reducible refine Kept.prev ?_ | with_reducible refine Kept.alloc' ?_ _ | with_reducible refine Kept.drew' ?_ | with_reducible refine Kept.setB ?_ _ _ _ (by omega) | with_reducible refine Kept.row' ?_ _ _ (by omega) | with_reducible refine Kept.map' ?_ _ _ (by omega)))⟩
            case measure => simp [intOf]; omega
          · have HR2 : Hid (restTo t n sub K (j + 1) = true) := by rw [Hid, HRS.out]; rfl
            go_wp2_with fail
            go_roundw
            case rel => exact ⟨j + 1, by omega, by go_num, by rw [HW2.out]; rfl, by rw [HR2.out], (by repeat (first | with_reducible exact HK.out | with_reducible exact Kept.refl _ _ | with_reducible refine Kept.prev ?_ | with_reducible refine Kept.alloc' ?_ _ | with_reducible refine Kept.drew' ?_ | with_reducible refine Kept.setB ?_ _ _ _ (by omega) | with_reducible refine Kept.row' ?_ _ _ (by omega) | with_reducible refine Kept.map' ?_ _ _ (by omega)))⟩
            case measure => simp [intOf]; omega
        · have f2 : ((y.l.length : Int) == 1) = false := by simp; omega
          have HW2 : Hid (wrongTo t n sub K (j + 1) = true) := by
            rw [Hid, HWS.out, decide_eq_true (show 1 < y.l.length by omega)]; simp
          clear hpos hlast hone
          cases br
          · have HR2 : Hid (restTo t n sub K (j + 1) = true) := by rw [Hid, HRS.out]; rfl
            go_wp2_with fail
            go_roundw
            case rel => exact ⟨j + 1, by omega, by go_num, by rw [HW2.out]; rfl, by rw [HR2.out], (by repeat (first | with_reducible exact HK.out | with_reducible exact Kept.refl _ _ | with_reducible refine Kept.prev ?_ | with_reducible refine Kept.alloc' ?_ _ | with_reducible refine Kept.drew' ?_ | with_reducible refine Kept.setB ?_ _ _ _ (by omega) | with_reducible refine Kept.row' ?_ _ _ (by omega) | with_reducible refine Kept.map' ?_ _ _ (by omega)))⟩
            case measure => simp [intOf]; omega
          · have HR2 : Hid (restTo t n sub K (j + 1) = true) := by rw [Hid, HRS.out]; rfl
            go_wp2_with fail
            go_roundw
            case rel => exact ⟨j + 1, by omega, by go_num, by rw [HW2.out]; rfl, by rw [HR2.out], (by repeat (first | with_reducible exact HK.out | with_reducible exact Kept.refl _ _ | with_reducible refine Kept.prev ?_ | with_reducible refine Kept.alloc' ?_ _ | with_reducible refine Kept.drew' ?_ | with_reducible refine Kept.setB ?_ _ _ _ (by omega) | with_reducible refine Kept.row' ?_ _ _ (by omega) | with_reducible refine Kept.map' ?_ _ _ (by omega)))⟩
            case measure => simp [intOf]; omega
      · obtain rfl : j = K.length := by omega
        obtain ⟨wA, rfl⟩ : ∃ wA : World, wA = wr := ⟨_, rfl⟩
        have HR0 : Hid (rightTo t n sub K lo 0 = !wrongTo t n sub K K.length) := rfl
        have HRS : Hid (∀ c : Nat, rightTo t n sub K lo (c + 1) = (rightTo t n sub K lo c && (decide (cntTo t n sub K (lo + (c : Int)) K.length = 1) || (decide (cntTo t n sub K (lo + (c : Int)) K.length = 0) && restTo t n sub K K.length)))) := fun c => rfl
        have HCL := Lib.hid (fun vv j hj => cnt_le (t := t) (n := n) (sub := sub) HLEN.out hk20 vv j hj)
        generalize (!wrongTo t n sub K K.length) = RW at *
        generalize restTo t n sub K K.length = RS at *
        obtain ⟨C, hC⟩ : ∃ C, C = (hi + 1 - lo).toNat := ⟨_, rfl⟩
        rw [← hC] at HFIN
        have HCC := Lib.hid hC
        clear hC hlt hj
        go_wp2_with fail
        have HR0' := Lib.hid (HR0.out.symm)
        go_loopw [13, 19] (fun v13 v19 wr => RelV t n sub K lo C wA v13 v19 wr) (fun _ v19 _ => (hi + 1 - intOf v19).toNat)
        case atStart => exact ⟨0, Nat.zero_le _, by simp, by rw [HR0.out], Kept.refl _ _⟩
        case round =>
          obtain ⟨c, hc, rfl, rfl, hkr⟩ := hrel
          obtain ⟨wB, rfl⟩ : ∃ wB : World, wB = wr := ⟨_, rfl⟩
          haveI p_wB : PrevWorld wB wA := ⟨hkr⟩
          have hkz2 := hkr.size
          clear hkr
          have hcc := HCC.out
          by_cases hlt : c < C
          · have HRC := Lib.hid (HRS.out c)
            have q1 : lo + (c : Int) ≤ hi := by omega
            have q2 : -1099511627776 ≤ lo + (c : Int) := by omega
            have q3 : lo + (c : Int) ≤ 1099511627776 := by omega
            generalize hvv : lo + (c : Int) = vv at *
            have HVV := Lib.hid hvv.symm
            clear hvv hcc HFIN HR0 HR0' HRS h0
            generalize rightTo t n sub K lo c = RC at *
            go_wp2_with fail
            go_loopw [20, 136] (fun v20 i wr => RelJ t n sub K vv wB v20 i wr) (fun _ i _ => K.length - (intOf i).toNat)
            case atStart => exact ⟨0, Nat.zero_le _, rfl, rfl, Kept.refl _ _⟩
            case round =>
              obtain ⟨j, hj, rfl, rfl, hkr⟩ := hrel
              obtain ⟨wC, rfl⟩ : ∃ wC : World, wC = wr := ⟨_, rfl⟩
              haveI p_wC : PrevWorld wC wB := ⟨hkr⟩
              have hkz3 := hkr.size
              clear hkr
              have hm := HCL.out vv j hj
              by_cases hltj : j < K.length
              · obtain ⟨y, hy⟩ : ∃ y, K[j]? = some y := ⟨_, List.getElem?_eq_getElem hltj⟩
                have hym := List.mem_of_getElem? hy
                obtain ⟨b, of, ha, hr⟩ := (HROW.out w4 (Kept.refl _ _)).some_ hy
                subst ha
                have y0 : wC.cell? ⟨b, of + j, none⟩ = some (.slice y.a y.l.length y.c) := (show Kept [] w4 wC from (by repeat (first | with_reducible exact HK.out | with_reducible exact Kept.refl _ _ | with_reducible refine Kept.prev ?_ | with_reducible refine Kept.alloc' ?_ _ | with_reducible refine Kept.drew' ?_ | with_reducible refine Kept.setB ?_ _ _ _ (by omega) | with_reducible refine Kept.row' ?_ _ _ (by omega) | with_reducible refine Kept.map' ?_ _ _ (by omega)))).cell (by simpa using hr j y hy 0 _ rfl) (by simp)
                have HCY := Lib.hid (fun w' (hk : Kept [] w w') => HCH.out w' hk y hym)
                have HCS := Lib.hid (cnt_step (t := t) (n := n) (sub := sub) hy vv)
                have hbl := chB_len (t := t) (n := n) (sub := sub) (HLEN.out y hym)
                have j1 : (0 : Int) ≤ (j : Int) := by omega
                have j2 : (j : Int) < (K.length : Int) := by omega
                clear hr hy hym HCH HLEN HROW HCL HRC
                generalize chB t n sub y.l = bs at *
                generalize chO t n sub y.l = bo at *
                generalize chE t n sub y.l = be at *
                generalize cntTo t n sub K vv j = m at *
                go_upto_region 25 with fail
                refine wp_region_each [⟨140, [], .eq (.agg (v.cells t))⟩, ⟨141, [], .eq (.int .i64 sub)⟩, ⟨142, [], .eq (.slice (some ⟨b, of, none⟩) K.length c7)⟩, ⟨143, [], .eq (.int .i64 (j : Int))⟩, ⟨144, [142, 143], .eq (.pointer (some ⟨b, of + j, none⟩))⟩, ⟨145, [144], .eq (.slice y.a y.l.length y.c)⟩, ⟨146, [140, 141, 145], .bt bs bo be⟩, ⟨139, [146], .bt bs bo be⟩, ⟨147, [139], .bl bs⟩, ⟨148, [139], .eq (.bool bo)⟩, ⟨149, [139], .eq (.int .i64 be)⟩, ⟨22, [147], .bl bs⟩, ⟨23, [148], .eq (.bool bo)⟩, ⟨24, [149], .eq (.int .i64 be)⟩] (by kernel_rfl) (by kernel_rfl) ?_
                apply Exists.intro
                refine ⟨fun vs => ?_, ?_⟩
                · simp only [List.map_cons, List.map_nil, puts, Act.put, List.setIfInBounds_toArray, List.set_cons_zero, List.set_cons_succ]
                  exact rfl
                refine ⟨⟨fun vs w9 hk hg => ?_, fun vs w9 hk hg => ?_, fun vs w9 hk hg => ?_, fun vs w9 hk hg => ?_, fun vs w9 hk hg => ?_, fun vs w9 hk hg => ?_, fun vs w9 hk hg => ?_, fun vs w9 hk hg => ?_, fun vs w9 hk hg => ?_, fun vs w9 hk hg => ?_, fun vs w9 hk hg => ?_, fun vs w9 hk hg => ?_, fun vs w9 hk hg => ?_, fun vs w9 hk hg => ?_, trivial⟩, fun vs w9 hk hg => ?_⟩
                all_goals
                  haveI p_w9 : PrevWorld w9 _ := ⟨hk⟩
                  have hz_w9 := hk.size
                  clear hk
                  (try simp only [given, allGiven, look, SP.eq_p, SP.ex_p, SP.exs_p, SP.asl_p, Nat.reduceEqDiff, reduceIte, and_true] at hg)
                  (try simp only [SP.tab_p, SP.row_p, SP.box_p] at hg)
                · clear hg
                  go_wp2_with fail
                  exact ⟨(by repeat (first | with_reducible exact HK.out | with_reducible exact Kept.refl _ _ | with_reducible refine Kept.prev ?_ | with_reducible refine Kept.alloc' ?_ _ | with_reducible refine Kept.drew' ?_ | with_reducible refine Kept.setB ?_ _ _ _ (by omega) | with_reducible refine Kept.row' ?_ _ _ (by omega) | with_reducible refine Kept.map' ?_ _ _ (by omega))), rfl, rfl⟩
                · clear hg
                  go_wp2_with fail
                  exact ⟨(by repeat (first | with_reducible exact HK.out | with_reducible exact Kept.refl _ _ | with_reducible refine Kept.prev ?_ | with_reducible refine Kept.alloc' ?_ _ | with_reducible refine Kept.drew' ?_ | with_reducible refine Kept.setB ?_ _ _ _ (by omega) | with_reducible refine Kept.row' ?_ _ _ (by omega) | with_reducible refine Kept.map' ?_ _ _ (by omega))), rfl, rfl⟩
                · clear hg
                  go_wp2_with fail
                  exact ⟨(by repeat (first | with_reducible exact HK.out | with_reducible exact Kept.refl _ _ | with_reducible refine Kept.prev ?_ | with_reducible refine Kept.alloc' ?_ _ | with_reducible refine Kept.drew' ?_ | with_reducible refine Kept.setB ?_ _ _ _ (by omega) | with_reducible refine Kept.row' ?_ _ _ (by omega) | with_reducible refine Kept.map' ?_ _ _ (by omega))), rfl, rfl⟩
                · clear hg
                  go_wp2_with fail
                  exact ⟨(by repeat (first | with_reducible exact HK.out | with_reducible exact Kept.refl _ _ | with_reducible refine Kept.prev ?_ | with_reducible refine Kept.alloc' ?_ _ | with_reducible refine Kept.drew' ?_ | with_reducible refine Kept.setB ?_ _ _ _ (by omega) | with_reducible refine Kept.row' ?_ _ _ (by omega) | with_reducible refine Kept.map' ?_ _ _ (by omega))), rfl, rfl⟩
                · obtain ⟨e142, e143⟩ := hg
                  (try simp only [e142, e143])
                  go_wp2_with fail
                  exact ⟨(by repeat (first | with_reducible exact HK.out | with_reducible exact Kept.refl _ _ | with_reducible refine Kept.prev ?_ | with_reducible refine Kept.alloc' ?_ _ | with_reducible refine Kept.drew' ?_ | with_reducible refine Kept.setB ?_ _ _ _ (by omega) | with_reducible refine Kept.row' ?_ _ _ (by omega) | with_reducible refine Kept.map' ?_ _ _ (by omega))), rfl, rfl⟩
                · obtain e144 := hg
                  (try simp only [e144])
                  have yz := (show Kept [] wC w9 from (by repeat (first | with_reducible exact HK.out | with_reducible exact Kept.refl _ _ | with_reducible refine Kept.prev ?_ | with_reducible refine Kept.alloc' ?_ _ | with_reducible refine Kept.drew' ?_ | with_reducible refine Kept.setB ?_ _ _ _ (by omega) | with_reducible refine Kept.row' ?_ _ _ (by omega) | with_reducible refine Kept.map' ?_ _ _ (by omega)))).cell y0 (by simp)
                  go_wp2_with fail
                  exact ⟨(by repeat (first | with_reducible exact HK.out | with_reducible exact Kept.refl _ _ | with_reducible refine Kept.prev ?_ | with_reducible refine Kept.alloc' ?_ _ | with_reducible refine Kept.drew' ?_ | with_reducible refine Kept.setB ?_ _ _ _ (by omega) | with_reducible refine Kept.row' ?_ _ _ (by omega) | with_reducible refine Kept.map' ?_ _ _ (by omega))), rfl, rfl⟩
                · obtain ⟨e140, e141, e145⟩ := hg
                  (try simp only [e140, e141, e145])
                  go_wp2_with fail
                  refine (HCY.out _ (by repeat (first | with_reducible exact HK.out | with_reducible exact Kept.refl _ _ | with_reducible refine Kept.prev ?_ | with_reducible refine Kept.alloc' ?_ _ | with_reducible refine Kept.drew' ?_ | with_reducible refine Kept.setB ?_ _ _ _ (by omega) | with_reducible refine Kept.row' ?_ _ _ (by omega) | with_reducible refine Kept.map' ?_ _ _ (by omega)))).mono ?_
                  rintro e w10 ⟨A, c, rfl, hr, hk10⟩
                  go_wp2_with fail
                  exact ⟨hk10, rfl, A, c, rfl, hr⟩
                · obtain ⟨A146, c146, e146, h146⟩ := hg
                  go_wp2_with fail
                  exact ⟨(by repeat (first | with_reducible exact HK.out | with_reducible exact Kept.refl _ _ | with_reducible refine Kept.prev ?_ | with_reducible refine Kept.alloc' ?_ _ | with_reducible refine Kept.drew' ?_ | with_reducible refine Kept.setB ?_ _ _ _ (by omega) | with_reducible refine Kept.row' ?_ _ _ (by omega) | with_reducible refine Kept.map' ?_ _ _ (by omega))), rfl, A146, c146, rfl, h146⟩
                · obtain ⟨A139, c139, e139, h139⟩ := hg
                  go_wp2_with fail
                  exact ⟨(by repeat (first | with_reducible exact HK.out | with_reducible exact Kept.refl _ _ | with_reducible refine Kept.prev ?_ | with_reducible refine Kept.alloc' ?_ _ | with_reducible refine Kept.drew' ?_ | with_reducible refine Kept.setB ?_ _ _ _ (by omega) | with_reducible refine Kept.row' ?_ _ _ (by omega) | with_reducible refine Kept.map' ?_ _ _ (by omega))), rfl, A139, c139, rfl, h139⟩
                · obtain ⟨A139, c139, e139, h139⟩ := hg
                  go_wp2_with fail
                  exact ⟨(by repeat (first | with_reducible exact HK.out | with_reducible exact Kept.refl _ _ | with_reducible refine Kept.prev ?_ | with_reducible refine Kept.alloc' ?_ _ | with_reducible refine Kept.drew' ?_ | with_reducible refine Kept.setB ?_ _ _ _ (by omega) | with_reducible refine Kept.row' ?_ _ _ (by omega) | with_reducible refine Kept.map' ?_ _ _ (by omega))), rfl, rfl⟩
                · obtain ⟨A139, c139, e139, h139⟩ := hg
                  go_wp2_with fail
                  exact ⟨(by repeat (first | with_reducible exact HK.out | with_reducible exact Kept.refl _ _ | with_reducible refine Kept.prev ?_ | with_reducible refine Kept.alloc' ?_ _ | with_reducible refine Kept.drew' ?_ | with_reducible refine Kept.setB ?_ _ _ _ (by omega) | with_reducible refine Kept.row' ?_ _ _ (by omega) | with_reducible refine Kept.map' ?_ _ _ (by omega))), rfl, rfl⟩
                · obtain ⟨A147, c147, e147, h147⟩ := hg
                  go_wp2_with fail
                  exact ⟨(by repeat (first | with_reducible exact HK.out | with_reducible exact Kept.refl _ _ | with_reducible refine Kept.prev ?_ | with_reducible refine Kept.alloc' ?_ _ | with_reducible refine Kept.drew' ?_ | with_reducible refine Kept.setB ?_ _ _ _ (by omega) | with_reducible refine Kept.row' ?_ _ _ (by omega) | with_reducible refine Kept.map' ?_ _ _ (by omega))), rfl, A147, c147, rfl, h147⟩
                · obtain e148 := hg
                  (try simp only [e148])
                  go_wp2_with fail
                  exact ⟨(by repeat (first | with_reducible exact HK.out | with_reducible exact Kept.refl _ _ | with_reducible refine Kept.prev ?_ | with_reducible refine Kept.alloc' ?_ _ | with_reducible refine Kept.drew' ?_ | with_reducible refine Kept.setB ?_ _ _ _ (by omega) | with_reducible refine Kept.row' ?_ _ _ (by omega) | with_reducible refine Kept.map' ?_ _ _ (by omega))), rfl, rfl⟩
                · obtain e149 := hg
                  (try simp only [e149])
                  go_wp2_with fail
                  exact ⟨(by repeat (first | with_reducible exact HK.out | with_reducible exact Kept.refl _ _ | with_reducible refine Kept.prev ?_ | with_reducible refine Kept.alloc' ?_ _ | with_reducible refine Kept.drew' ?_ | with_reducible refine Kept.setB ?_ _ _ _ (by omega) | with_reducible refine Kept.row' ?_ _ _ (by omega) | with_reducible refine Kept.map' ?_ _ _ (by omega))), rfl, rfl⟩
                obtain ⟨-, -, -, -, -, -, -, -, -, -, -, ⟨A22, c22, e22, h22⟩, e23, e24⟩ := hg
                refine wpList_nil ?_
                simp only [e22, e23, e24]
                clear e22 e23 e24 HCY
                clear y0
                have H22 := Lib.hid h22
                clear h22
                go_wp2_with fail
                go_loopw [20, 152] (fun v20 i wr => RelB bs vv m w9 v20 i wr) (fun _ i _ => bs.length - (intOf i).toNat)
                case atStart => exact ⟨0, Nat.zero_le _, rfl, by simp, Kept.refl _ _⟩
                case round =>
                  obtain ⟨k, hk, rfl, rfl, hkr⟩ := hrel
                  haveI p_wr : PrevWorld wr w9 := ⟨hkr⟩
                  have hkz5 := hkr.size
                  clear hkr
                  have hcb := Nat.le_trans (List.countP_le_length (p := hasB vv) (l := bs.take k)) (by simp; omega : (bs.take k).length ≤ 1000)
                  by_cases hltk : k < bs.length
                  · obtain ⟨x, hx⟩ : ∃ x, bs[k]? = some x := ⟨_, List.getElem?_eq_getElem hltk⟩
                    have HSN := Lib.hid (countP_snoc hx vv)
                    obtain ⟨b2, o2, ha2, hr2⟩ := H22.out.some_ hx
                    subst ha2
                    obtain ⟨d0, d1⟩ := bd_cells (w := wr) (b := b2) (o := o2 + k * 2) (x := x) (fun i u hu => (show Kept [] w9 wr from (by repeat (first | with_reducible exact HK.out | with_reducible exact Kept.refl _ _ | with_reducible refine Kept.prev ?_ | with_reducible refine Kept.alloc' ?_ _ | with_reducible refine Kept.drew' ?_ | with_reducible refine Kept.setB ?_ _ _ _ (by omega) | with_reducible refine Kept.row' ?_ _ _ (by omega) | with_reducible refine Kept.map' ?_ _ _ (by omega)))).cell (hr2 k x hx i u hu) (by simp))
                    have k1 : (0 : Int) ≤ (k : Int) := by omega
                    have k2 : (k : Int) < (bs.length : Int) := by omega
                    clear hr2 hx H22
                    obtain ⟨xl, xh⟩ := x
                    simp only at HSN d0 d1
                    generalize (bs.take k).countP (hasB vv) = q at *
                    by_cases x1 : xl ≤ vv
                    rotate_left
                    · have e1 : decide (xl ≤ vv) = false := by simp; omega
                      have HSN2 : Hid ((bs.take (k + 1)).countP (hasB vv) = q) := by rw [Hid, HSN.out]; simp [hasB, e1]
                      clear HSN x1
                      go_wp2_with fail
                      go_roundw
                      case rel => exact ⟨k + 1, by omega, by go_num, by rw [HSN2.out], (by repeat (first | with_reducible exact HK.out | with_reducible exact Kept.refl _ _ | with_reducible refine Kept.prev ?_ | with_reducible refine Kept.alloc' ?_ _ | with_reducible refine Kept.drew' ?_ | with_reducible refine Kept.setB ?_ _ _ _ (by omega) | with_reducible refine Kept.row' ?_ _ _ (by omega) | with_reducible refine Kept.map' ?_ _ _ (by omega)))⟩
                      case measure => simp [intOf]; omega
                    by_cases x2 : vv ≤ xh
                    rotate_left
                    · have e1 : decide (vv ≤ xh) = false := by simp; omega
                      have HSN2 : Hid ((bs.take (k + 1)).countP (hasB vv) = q) := by rw [Hid, HSN.out]; simp [hasB, e1]
                      clear HSN x2
                      go_wp2_with fail
                      go_roundw
                      case rel => exact ⟨k + 1, by omega, by go_num, by rw [HSN2.out], (by repeat (first | with_reducible exact HK.out | with_reducible exact Kept.refl _ _ | with_reducible refine Kept.prev ?_ | with_reducible refine Kept.alloc' ?_ _ | with_reducible refine Kept.drew' ?_ | with_reducible refine Kept.setB ?_ _ _ _ (by omega) | with_reducible refine Kept.row' ?_ _ _ (by omega) | with_reducible refine Kept.map' ?_ _ _ (by omega)))⟩
                      case measure => simp [intOf]; omega
                    · have HSN2 : Hid ((bs.take (k + 1)).countP (hasB vv) = q + 1) := by rw [Hid, HSN.out]; simp [hasB, x1, x2]
                      clear HSN
                      go_wp2_with fail
                      go_roundw
                      case rel => exact ⟨k + 1, by omega, by go_num, (by rw [HSN2.out]; simp only [Value.int.injEq, true_and]; omega), (by repeat (first | with_reducible exact HK.out | with_reducible exact Kept.refl _ _ | with_reducible refine Kept.prev ?_ | with_reducible refine Kept.alloc' ?_ _ | with_reducible refine Kept.drew' ?_ | with_reducible refine Kept.setB ?_ _ _ _ (by omega) | with_reducible refine Kept.row' ?_ _ _ (by omega) | with_reducible refine Kept.map' ?_ _ _ (by omega)))⟩
                      case measure => simp [intOf]; omega
                  · obtain rfl : k = bs.length := by omega
                    have HTL : Hid (cntTo t n sub K vv (j + 1) = m + (bs.take bs.length).countP (hasB vv)) := by rw [Hid, HCS.out, List.take_length]
                    generalize (bs.take bs.length).countP (hasB vv) = q at *
                    go_wp2_with fail
                    go_roundw
                    case rel => exact ⟨j + 1, by omega, by go_num, by rw [HTL.out], (by repeat (first | with_reducible exact HK.out | with_reducible exact Kept.refl _ _ | with_reducible refine Kept.prev ?_ | with_reducible refine Kept.alloc' ?_ _ | with_reducible refine Kept.drew' ?_ | with_reducible refine Kept.setB ?_ _ _ _ (by omega) | with_reducible refine Kept.row' ?_ _ _ (by omega) | with_reducible refine Kept.map' ?_ _ _ (by omega)))⟩
                    case measure => simp [intOf]; omega
              · obtain rfl : j = K.length := by omega
                clear HCH HLEN HROW HCL
                generalize cntTo t n sub K vv K.length = m at *
                have hkz6 := (show Kept [] w wC from (by repeat (first | with_reducible exact HK.out | with_reducible exact Kept.refl _ _ | with_reducible refine Kept.prev ?_ | with_reducible refine Kept.alloc' ?_ _ | with_reducible refine Kept.drew' ?_ | with_reducible refine Kept.setB ?_ _ _ _ (by omega) | with_reducible refine Kept.row' ?_ _ _ (by omega) | with_reducible refine Kept.map' ?_ _ _ (by omega)))).size
                cases RC
                · have HF : Hid (rightTo t n sub K lo (c + 1) = false) := by rw [Hid, HRC.out]; rfl
                  go_wp2_with fail
                  go_roundw
                  case rel => exact ⟨c + 1, by omega, (by rw [HVV.out]; simp only [Value.int.injEq, true_and]; omega), by rw [HF.out], (by repeat (first | with_reducible exact HK.out | with_reducible exact Kept.refl _ _ | with_reducible refine Kept.prev ?_ | with_reducible refine Kept.alloc' ?_ _ | with_reducible refine Kept.drew' ?_ | with_reducible refine Kept.setB ?_ _ _ _ (by omega) | with_reducible refine Kept.row' ?_ _ _ (by omega) | with_reducible refine Kept.map' ?_ _ _ (by omega)))⟩
                  case measure => simp [intOf]; omega
                by_cases m1 : m = 1
                · have e1 : ((m : Int) == 1) = true := by simp [m1]
                  have HF : Hid (rightTo t n sub K lo (c + 1) = true) := by rw [Hid, HRC.out, decide_eq_true m1]; rfl
                  clear m1
                  go_wp2_with fail
                  go_roundw
                  case rel => exact ⟨c + 1, by omega, (by rw [HVV.out]; simp only [Value.int.injEq, true_and]; omega), by rw [HF.out], (by repeat (first | with_reducible exact HK.out | with_reducible exact Kept.refl _ _ | with_reducible refine Kept.prev ?_ | with_reducible refine Kept.alloc' ?_ _ | with_reducible refine Kept.drew' ?_ | with_reducible refine Kept.setB ?_ _ _ _ (by omega) | with_reducible refine Kept.row' ?_ _ _ (by omega) | with_reducible refine Kept.map' ?_ _ _ (by omega)))⟩
                  case measure => simp [intOf]; omega
                have e1 : ((m : Int) == 1) = false := by simp; omega
                by_cases m0 : m = 0
                · have e2 : ((m : Int) == 0) = true := by simp [m0]
                  have HF : Hid (rightTo t n sub K lo (c + 1) = RS) := by rw [Hid, HRC.out, decide_eq_false m1, decide_eq_true m0]; simp
                  clear m1 m0
                  go_wp2_with fail
                  go_roundw
                  case rel => exact ⟨c + 1, by omega, (by rw [HVV.out]; simp only [Value.int.injEq, true_and]; omega), by rw [HF.out], (by repeat (first | with_reducible exact HK.out | with_reducible exact Kept.refl _ _ | with_reducible refine Kept.prev ?_ | with_reducible refine Kept.alloc' ?_ _ | with_reducible refine Kept.drew' ?_ | with_reducible refine Kept.setB ?_ _ _ _ (by omega) | with_reducible refine Kept.row' ?_ _ _ (by omega) | with_reducible refine Kept.map' ?_ _ _ (by omega)))⟩
                  case measure => simp [intOf]; omega
                · have e2 : ((m : Int) == 0) = false := by simp; omega
                  have HF : Hid (rightTo t n sub K lo (c + 1) = false) := by rw [Hid, HRC.out, decide_eq_false m1, decide_eq_false m0]; rfl
                  clear m1 m0
                  go_wp2_with fail
                  go_roundw
                  case rel => exact ⟨c + 1, by omega, (by rw [HVV.out]; simp only [Value.int.injEq, true_and]; omega), by rw [HF.out], (by repeat (first | with_reducible exact HK.out | with_reducible exact Kept.refl _ _ | with_reducible refine Kept.prev ?_ | with_reducible refine Kept.alloc' ?_ _ | with_reducible refine Kept.drew' ?_ | with_reducible refine Kept.setB ?_ _ _ _ (by omega) | with_reducible refine Kept.row' ?_ _ _ (by omega) | with_reducible refine Kept.map' ?_ _ _ (by omega)))⟩
                  case measure => simp [intOf]; omega
          · obtain rfl : c = C := by omega
            have e1 : decide (lo + (c : Int) ≤ hi) = false := by simp; omega
            clear HCH HLEN HROW HCL HR0 HR0' HRS
            rcases h0 with rfl | rfl
            · have HF : Hid (rightTo t n sub K lo c = true) := by rw [Hid, HFIN.out]; rfl
              rw [HF.out]
              go_wp2_with fail
              refine (works_any _).mono ?_; rintro e w30 ⟨rfl, hk_w30⟩; haveI p_w30 : PrevWorld w30 _ := ⟨hk_w30⟩; have hz_w30 : w.heap.size ≤ w30.heap.size := Kept.size (by repeat (first | with_reducible exact HK.out | with_reducible exact Kept.refl _ _ | with_reducible refine Kept.prev ?_ | with_reducible refine Kept.alloc' ?_ _ | with_reducible refine Kept.drew' ?_ | with_reducible refine Kept.setB ?_ _ _ _ (by omega) | with_reducible refine Kept.row' ?_ _ _ (by omega) | with_reducible refine Kept.map' ?_ _ _ (by omega))); clear hk_w30
              go_wp2_with fail
              exact bodyPost_v rfl (res1 Try.results5 (resT rfl)) (by repeat (first | with_reducible exact HK.out | with_reducible exact Kept.refl _ _ | with_reducible refine Kept.prev ?_ | with_reducible refine Kept.alloc' ?_ _ | with_reducible refine Kept.drew' ?_ | with_reducible refine Kept.setB ?_ _ _ _ (by omega) | with_reducible refine Kept.row' ?_ _ _ (by omega) | with_reducible refine Kept.map' ?_ _ _ (by omega)))
            · have HF : Hid (rightTo t n sub K lo c = false) := by rw [Hid, HFIN.out]; rfl
              rw [HF.out]
              go_wp2_with fail
              refine (works_any _).mono ?_; rintro e w30 ⟨rfl, hk_w30⟩; haveI p_w30 : PrevWorld w30 _ := ⟨hk_w30⟩; have hz_w30 : w.heap.size ≤ w30.heap.size := Kept.size (by repeat (first | with_reducible exact HK.out | with_reducible exact Kept.refl _ _ | with_reducible refine Kept.prev ?_ | with_reducible refine Kept.alloc' ?_ _ | with_reducible refine Kept.drew' ?_ | with_reducible refine Kept.setB ?_ _ _ _ (by omega) | with_reducible refine Kept.row' ?_ _ _ (by omega) | with_reducible refine Kept.map' ?_ _ _ (by omega))); clear hk_w30
              go_wp2_with fail
              exact bodyPost_v rfl (res1 Try.results5 (resT rfl)) (by repeat (first | with_reducible exact HK.out | with_reducible exact Kept.refl _ _ | with_reducible refine Kept.prev ?_ | with_reducible refine Kept.alloc' ?_ _ | with_reducible refine Kept.drew' ?_ | with_reducible refine Kept.setB ?_ _ _ _ (by omega) | with_reducible refine Kept.row' ?_ _ _ (by omega) | with_reducible refine Kept.map' ?_ _ _ (by omega)))
end Go.Proofs.Ytgdjhhfbpalkdaa
