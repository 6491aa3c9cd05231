/- The reference: Cover. -/
import Derived.Test.YtgdjhhfbpalkdaaGreatX3
import Derived.Deep.CutBlock
namespace Go.Proofs.YtgdjhhfbpalkdaaGreat
open Go.RowKit
theorem rchoices_val (w : World) (v : TabV) (t : Tab) (sub : Int) (y : ChL) (n : Nat) (hT : TabIn w v t) (hy : RowsAt ChV 2 ChV.cells w y.a y.l ∧ (∀ z, z ∈ y.l → ChIn w n z) ∧ y.l.length ≤ 1000) :
    Calls Tryz.prog 14 #[.agg (v.cells t), .int .i64 sub, .slice y.a y.l.length y.c] w (RetBt (chB t n sub y.l) (chO t n sub y.l) (chE t n sub y.l) w) := by
  refine (rChoices_any w v t sub y.a y.c y.l n hT hy.1 hy.2.1 hy.2.2).mono ?_
  rintro e w' ⟨bs, rfl, hown, hk⟩
  obtain ⟨A, c, rfl, _, _, _, hr⟩ := rows_own (α := Bd) (m := 2) (cells := bdC) (l := (choicesP t n sub y.l).1) hown (fun _ => rfl) rfl
  exact ⟨A, c, rfl, hr, hk⟩
/-- The states of the loops over pairs. -/
def CvP (W0 : Bool) (L : List Bd) (w0 : World) (v8 i : Value) (wr : World) : Prop :=
  ∃ j : Nat, j ≤ L.length ∧ i = .int .i64 j ∧ v8 = .bool (W0 || pairI L j) ∧ Kept [] w0 wr
def CvK (W1 : Bool) (L : List Bd) (i : Nat) (w0 : World) (v8 u : Value) (wr : World) : Prop :=
  ∃ k : Nat, k ≤ i ∧ u = .int .i64 k ∧ v8 = .bool (W1 || pairK L i k) ∧ Kept [] w0 wr
set_option maxRecDepth 100000 in
set_option maxHeartbeats 8000000 in
theorem rCover_any (w : World) (v : TabV) (t : Tab) (sub : Int) (a : Option Addr) (c : Nat) (ls : List ChL) (n : Nat) (hT : TabIn w v t) (hR : RowsAt ChL 1 ChL.cells w a ls) (hA : ∀ y, y ∈ ls → RowsAt ChV 2 ChV.cells w y.a y.l ∧ (∀ z, z ∈ y.l → ChIn w n z) ∧ y.l.length ≤ 1000) (hl : ls.length ≤ 1000) :
    Calls Tryz.prog 17 #[.agg (v.cells t), .int .i64 sub, .slice a ls.length c] w (RetV (.int .i64 (refCover t n sub ls)) w) := by
  have HT := Lib.hid hT
  have HR := Lib.hid hR
  have HA := Lib.hid hA
  have HLEN := Lib.hid (all_len (t := t) (n := n) (sub := sub) (ls := ls) (fun x hx => (hA x hx).2.2))
  have HB := Lib.hid (fun b (h : rangeP t sub = some b) => range_64 hT.sb h)
  clear hT hR hA
  obtain ⟨ib, ib0, ib1, ib2, ib3⟩ := Tryz.bd_parts
  have HG := Lib.hid (fun w' (hk : Kept [] w w') => rrange_any w' v t sub (HT.out.kept hk))
  have HC := Lib.hid (fun w' (y : ChL) (hk : Kept [] w w') hy => rchoices_val w' v t sub y n (HT.out.kept hk) ⟨(HA.out y hy).1.kept hk, fun z hz => ((HA.out y hy).2.1 z hz).kept hk, (HA.out y hy).2.2⟩)
  clear HT HA
  have HRC : Hid (refCover t n sub ls = if errTo t n sub ls ≠ 0 then errTo t n sub ls else refQ (rangeP t sub) (wrongTo t n sub ls ls.length) (restTo t n sub ls ls.length) (allTo t n sub ls ls.length)) := rfl
  generalize refCover t n sub ls = Q at *
  unfold TabV.cells at *
  go_enter Tryz.func17, Tryz.ntmps17
  go_wp2_with fail
  refine wp_gen' ?_
  intro w1 hw1
  haveI p_w1 : PrevWorld w1 w := ⟨by rw [hw1]; exact (by repeat (first | with_reducible exact HK.out | with_reducible exact Kept.refl _ _ | with_reducible refine Kept.prev ?_ | with_reducible refine Kept.alloc' ?_ _ | with_reducible refine Kept.drew' ?_ | with_reducible refine Kept.setB ?_ _ _ _ (by omega) | with_reducible refine Kept.row' ?_ _ _ (by omega) | with_reducible refine Kept.map' ?_ _ _ (by omega)))⟩
  haveI bx1 : BoxIs w1 w.heap.size 28 _ := by rw [hw1]; infer_instance
  have hz1 : w.heap.size ≤ w1.heap.size := Kept.size (X := []) (by repeat (first | with_reducible exact HK.out | with_reducible exact Kept.refl _ _ | with_reducible refine Kept.prev ?_ | with_reducible refine Kept.alloc' ?_ _ | with_reducible refine Kept.drew' ?_ | with_reducible refine Kept.setB ?_ _ _ _ (by omega) | with_reducible refine Kept.row' ?_ _ _ (by omega) | with_reducible refine Kept.map' ?_ _ _ (by omega)))
  clear hw1
  go_loopw [7, 8, 9, 10] (fun v7 v8 v9 i wr => CvL1 t n sub ls w1 v7 v8 v9 i wr) (fun _ _ _ i _ => ls.length - (intOf i).toNat)
  case atStart => exact ⟨0, Nat.zero_le _, rfl, fun i y h => absurd h (by omega), rfl, rfl, World.ownsRow_nil _ _ _ _, Kept.refl _ _⟩
  case round =>
    obtain ⟨k, hk, rfl, hne, rfl, rfl, hown, hkr⟩ := hrel
    obtain ⟨A7, c7, rfl⟩ := own_shape hown
    have HOWN := Lib.hid hown
    have HNE := Lib.hid hne
    have hlen := HLEN.out k hk
    have hkz := hkr.size
    haveI p_wr : PrevWorld wr w1 := ⟨hkr⟩
    have HKR := Lib.hid hkr
    clear hown hne hkr
    by_cases hlt : k < ls.length
    · obtain ⟨y, hy⟩ : ∃ y, ls[k]? = some y := ⟨_, List.getElem?_eq_getElem hlt⟩
      obtain ⟨b, of, rfl, hr⟩ := HR.out.some_ hy
      have y0 : wr.cell? ⟨b, of + k, none⟩ = some (.slice y.a y.l.length y.c) := by
        have := (show Kept [] w wr from (by repeat (first | with_reducible exact HK.out | with_reducible exact Kept.refl _ _ | with_reducible refine Kept.prev ?_ | with_reducible refine Kept.alloc' ?_ _ | with_reducible refine Kept.drew' ?_ | with_reducible refine Kept.setB ?_ _ _ _ (by omega) | with_reducible refine Kept.row' ?_ _ _ (by omega) | with_reducible refine Kept.map' ?_ _ _ (by omega)))).cell (hr k y hy 0 _ rfl) (by simp)
        simpa using this
      have Y1 : Hid (w1.cell? ⟨b, of + k, none⟩ = some (.slice y.a y.l.length y.c)) := by
        have := (show Kept [] w w1 from (by repeat (first | with_reducible exact HK.out | with_reducible exact Kept.refl _ _ | with_reducible refine Kept.prev ?_ | with_reducible refine Kept.alloc' ?_ _ | with_reducible refine Kept.drew' ?_ | with_reducible refine Kept.setB ?_ _ _ _ (by omega) | with_reducible refine Kept.row' ?_ _ _ (by omega) | with_reducible refine Kept.map' ?_ _ _ (by omega)))).cell (hr k y hy 0 _ rfl) (by simp)
        simpa [Hid] using this
      have HCY := Lib.hid (fun w' (hk : Kept [] w w') => HC.out w' y hk (List.mem_of_getElem? hy))
      have ey : ls.getD k default = y := by simp [List.getD_eq_getElem?_getD, hy]
      have HY := Lib.hid hy
      have HAN : Hid (allTo t n sub ls (k + 1) = allTo t n sub ls k ++ chB t n sub y.l) := by rw [Hid, allTo, ey]
      have HWN : Hid (wrongTo t n sub ls (k + 1) = (wrongTo t n sub ls k || (chO t n sub y.l && (decide (k + 1 < ls.length) || decide (1 < y.l.length))))) := by rw [Hid, wrongTo, ey]
      have HRN : Hid (restTo t n sub ls (k + 1) = (restTo t n sub ls k || chO t n sub y.l)) := by rw [Hid, restTo, ey]
      have HER := Lib.hid (fun h => err_first (t := t) (n := n) (sub := sub) (ls := ls) hy HNE.out h)
      have HNE2 := Lib.hid (fun (e0 : chE t n sub y.l = 0) => show ∀ (i : Nat) (z : ChL), i < k + 1 → ls[i]? = some z → chE t n sub z.l = 0 from fun i z hi hz => by
        by_cases hik : i = k
        · subst hik
          rw [HY.out] at hz
          cases hz
          exact e0
        · exact HNE.out i z (by omega) hz)
      have hlen2 := HLEN.out (k + 1) (by omega)
      rw [HAN.out, List.length_append] at hlen2
      have j1 : (0 : Int) ≤ (k : Int) := by omega
      have j2 : (k : Int) < (ls.length : Int) := by omega
      clear hr hy HC HNE HY HLEN ey HG HB
      generalize chO t n sub y.l = bo at *
      generalize chB t n sub y.l = bs at *
      generalize chE t n sub y.l = be at *
      go_upto_region 7 with fail
      refine wp_region_each [⟨26, [], .eq (.agg (v.cells t))⟩, ⟨27, [], .eq (.int .i64 sub)⟩, ⟨28, [], .eq (.slice (some ⟨b, of, none⟩) ls.length c)⟩, ⟨29, [], .eq (.int .i64 (k : Int))⟩, ⟨30, [28, 29], .eq (.pointer (some ⟨b, of + k, none⟩))⟩, ⟨31, [30], .eq (.slice y.a y.l.length y.c)⟩, ⟨32, [26, 27, 31], .bt bs bo be⟩, ⟨25, [32], .bt bs bo be⟩, ⟨33, [25], .bl bs⟩, ⟨34, [25], .eq (.bool bo)⟩, ⟨35, [25], .eq (.int .i64 be)⟩, ⟨11, [33], .bl bs⟩, ⟨12, [34], .eq (.bool bo)⟩, ⟨13, [35], .eq (.int .i64 be)⟩] (by kernel_rfl) (by kernel_rfl) ?_
      apply Exists.intro
      refine ⟨fun vs => ?_, ?_⟩
      · simp only [List.map_cons, List.map_nil, puts, Act.put, List.setIfInBounds_toArray, List.set_cons_zero, List.set_cons_succ]
        exact rfl
      refine ⟨⟨fun vs w9 hk hg => ?_, fun vs w9 hk hg => ?_, fun vs w9 hk hg => ?_, fun vs w9 hk hg => ?_, fun vs w9 hk hg => ?_, fun vs w9 hk hg => ?_, fun vs w9 hk hg => ?_, fun vs w9 hk hg => ?_, fun vs w9 hk hg => ?_, fun vs w9 hk hg => ?_, fun vs w9 hk hg => ?_, fun vs w9 hk hg => ?_, fun vs w9 hk hg => ?_, fun vs w9 hk hg => ?_, trivial⟩, fun vs w9 hk hg => ?_⟩
      all_goals
        haveI p_w9 : PrevWorld w9 _ := ⟨hk⟩
        have hz_w9 := hk.size
        clear hk
        (try simp only [given, allGiven, look, SP.eq_p, SP.ex_p, SP.exs_p, SP.asl_p, Nat.reduceEqDiff, reduceIte, and_true] at hg)
        skip
      · clear hg
        go_wp2_with fail
        exact ⟨(by repeat (first | with_reducible exact HK.out | with_reducible exact Kept.refl _ _ | with_reducible refine Kept.prev ?_ | with_reducible refine Kept.alloc' ?_ _ | with_reducible refine Kept.drew' ?_ | with_reducible refine Kept.setB ?_ _ _ _ (by omega) | with_reducible refine Kept.row' ?_ _ _ (by omega) | with_reducible refine Kept.map' ?_ _ _ (by omega))), rfl, rfl⟩
      · clear hg
        go_wp2_with fail
        exact ⟨(by repeat (first | with_reducible exact HK.out | with_reducible exact Kept.refl _ _ | with_reducible refine Kept.prev ?_ | with_reducible refine Kept.alloc' ?_ _ | with_reducible refine Kept.drew' ?_ | with_reducible refine Kept.setB ?_ _ _ _ (by omega) | with_reducible refine Kept.row' ?_ _ _ (by omega) | with_reducible refine Kept.map' ?_ _ _ (by omega))), rfl, rfl⟩
      · clear hg
        go_wp2_with fail
        exact ⟨(by repeat (first | with_reducible exact HK.out | with_reducible exact Kept.refl _ _ | with_reducible refine Kept.prev ?_ | with_reducible refine Kept.alloc' ?_ _ | with_reducible refine Kept.drew' ?_ | with_reducible refine Kept.setB ?_ _ _ _ (by omega) | with_reducible refine Kept.row' ?_ _ _ (by omega) | with_reducible refine Kept.map' ?_ _ _ (by omega))), rfl, rfl⟩
      · clear hg
        go_wp2_with fail
        exact ⟨(by repeat (first | with_reducible exact HK.out | with_reducible exact Kept.refl _ _ | with_reducible refine Kept.prev ?_ | with_reducible refine Kept.alloc' ?_ _ | with_reducible refine Kept.drew' ?_ | with_reducible refine Kept.setB ?_ _ _ _ (by omega) | with_reducible refine Kept.row' ?_ _ _ (by omega) | with_reducible refine Kept.map' ?_ _ _ (by omega))), rfl, rfl⟩
      · obtain ⟨e28, e29⟩ := hg
        (try simp only [e28, e29])
        go_wp2_with fail
        exact ⟨(by repeat (first | with_reducible exact HK.out | with_reducible exact Kept.refl _ _ | with_reducible refine Kept.prev ?_ | with_reducible refine Kept.alloc' ?_ _ | with_reducible refine Kept.drew' ?_ | with_reducible refine Kept.setB ?_ _ _ _ (by omega) | with_reducible refine Kept.row' ?_ _ _ (by omega) | with_reducible refine Kept.map' ?_ _ _ (by omega))), rfl, rfl⟩
      · obtain e30 := hg
        (try simp only [e30])
        have yz := (show Kept [] wr w9 from (by repeat (first | with_reducible exact HK.out | with_reducible exact Kept.refl _ _ | with_reducible refine Kept.prev ?_ | with_reducible refine Kept.alloc' ?_ _ | with_reducible refine Kept.drew' ?_ | with_reducible refine Kept.setB ?_ _ _ _ (by omega) | with_reducible refine Kept.row' ?_ _ _ (by omega) | with_reducible refine Kept.map' ?_ _ _ (by omega)))).cell y0 (by simp)
        go_wp2_with fail
        exact ⟨(by repeat (first | with_reducible exact HK.out | with_reducible exact Kept.refl _ _ | with_reducible refine Kept.prev ?_ | with_reducible refine Kept.alloc' ?_ _ | with_reducible refine Kept.drew' ?_ | with_reducible refine Kept.setB ?_ _ _ _ (by omega) | with_reducible refine Kept.row' ?_ _ _ (by omega) | with_reducible refine Kept.map' ?_ _ _ (by omega))), rfl, rfl⟩
      · obtain ⟨e26, e27, e31⟩ := hg
        (try simp only [e26, e27, e31])
        go_wp2_with fail
        refine (HCY.out _ (by repeat (first | with_reducible exact HK.out | with_reducible exact Kept.refl _ _ | with_reducible refine Kept.prev ?_ | with_reducible refine Kept.alloc' ?_ _ | with_reducible refine Kept.drew' ?_ | with_reducible refine Kept.setB ?_ _ _ _ (by omega) | with_reducible refine Kept.row' ?_ _ _ (by omega) | with_reducible refine Kept.map' ?_ _ _ (by omega)))).mono ?_
        rintro e w10 ⟨A, c, rfl, hr, hk10⟩
        go_wp2_with fail
        exact ⟨hk10, rfl, A, c, rfl, hr⟩
      · obtain ⟨A32, c32, e32, h32⟩ := hg
        go_wp2_with fail
        exact ⟨(by repeat (first | with_reducible exact HK.out | with_reducible exact Kept.refl _ _ | with_reducible refine Kept.prev ?_ | with_reducible refine Kept.alloc' ?_ _ | with_reducible refine Kept.drew' ?_ | with_reducible refine Kept.setB ?_ _ _ _ (by omega) | with_reducible refine Kept.row' ?_ _ _ (by omega) | with_reducible refine Kept.map' ?_ _ _ (by omega))), rfl, A32, c32, rfl, h32⟩
      · obtain ⟨A25, c25, e25, h25⟩ := hg
        go_wp2_with fail
        exact ⟨(by repeat (first | with_reducible exact HK.out | with_reducible exact Kept.refl _ _ | with_reducible refine Kept.prev ?_ | with_reducible refine Kept.alloc' ?_ _ | with_reducible refine Kept.drew' ?_ | with_reducible refine Kept.setB ?_ _ _ _ (by omega) | with_reducible refine Kept.row' ?_ _ _ (by omega) | with_reducible refine Kept.map' ?_ _ _ (by omega))), rfl, A25, c25, rfl, h25⟩
      · obtain ⟨A25, c25, e25, h25⟩ := hg
        go_wp2_with fail
        exact ⟨(by repeat (first | with_reducible exact HK.out | with_reducible exact Kept.refl _ _ | with_reducible refine Kept.prev ?_ | with_reducible refine Kept.alloc' ?_ _ | with_reducible refine Kept.drew' ?_ | with_reducible refine Kept.setB ?_ _ _ _ (by omega) | with_reducible refine Kept.row' ?_ _ _ (by omega) | with_reducible refine Kept.map' ?_ _ _ (by omega))), rfl, rfl⟩
      · obtain ⟨A25, c25, e25, h25⟩ := hg
        go_wp2_with fail
        exact ⟨(by repeat (first | with_reducible exact HK.out | with_reducible exact Kept.refl _ _ | with_reducible refine Kept.prev ?_ | with_reducible refine Kept.alloc' ?_ _ | with_reducible refine Kept.drew' ?_ | with_reducible refine Kept.setB ?_ _ _ _ (by omega) | with_reducible refine Kept.row' ?_ _ _ (by omega) | with_reducible refine Kept.map' ?_ _ _ (by omega))), rfl, rfl⟩
      · obtain ⟨A33, c33, e33, h33⟩ := hg
        go_wp2_with fail
        exact ⟨(by repeat (first | with_reducible exact HK.out | with_reducible exact Kept.refl _ _ | with_reducible refine Kept.prev ?_ | with_reducible refine Kept.alloc' ?_ _ | with_reducible refine Kept.drew' ?_ | with_reducible refine Kept.setB ?_ _ _ _ (by omega) | with_reducible refine Kept.row' ?_ _ _ (by omega) | with_reducible refine Kept.map' ?_ _ _ (by omega))), rfl, A33, c33, rfl, h33⟩
      · obtain e34 := hg
        (try simp only [e34])
        go_wp2_with fail
        exact ⟨(by repeat (first | with_reducible exact HK.out | with_reducible exact Kept.refl _ _ | with_reducible refine Kept.prev ?_ | with_reducible refine Kept.alloc' ?_ _ | with_reducible refine Kept.drew' ?_ | with_reducible refine Kept.setB ?_ _ _ _ (by omega) | with_reducible refine Kept.row' ?_ _ _ (by omega) | with_reducible refine Kept.map' ?_ _ _ (by omega))), rfl, rfl⟩
      · obtain e35 := hg
        (try simp only [e35])
        go_wp2_with fail
        exact ⟨(by repeat (first | with_reducible exact HK.out | with_reducible exact Kept.refl _ _ | with_reducible refine Kept.prev ?_ | with_reducible refine Kept.alloc' ?_ _ | with_reducible refine Kept.drew' ?_ | with_reducible refine Kept.setB ?_ _ _ _ (by omega) | with_reducible refine Kept.row' ?_ _ _ (by omega) | with_reducible refine Kept.map' ?_ _ _ (by omega))), rfl, rfl⟩
      obtain ⟨-, -, -, -, -, -, -, -, -, -, -, ⟨A11, c11, e11, h11⟩, e12, e13⟩ := hg
      refine wpList_nil ?_
      simp only [e11, e12, e13]
      clear e11 e12 e13 HCY
      by_cases e0 : be = 0
      rotate_left
      · have e3 : (be != 0) = true := by simp [e0]
        have HW : Hid (Q = be) := by rw [Hid, HRC.out, HER.out e0, if_pos e0]
        clear HNE2 HER HRC HOWN hlen hlen2 h11 e0 HAN HWN HRN
        go_wp2_with fail
        rw [HW.out]
        exact bodyPost_v rfl (res1 Tryz.results17 (resT rfl)) (by repeat (first | with_reducible exact HK.out | with_reducible exact Kept.refl _ _ | with_reducible refine Kept.prev ?_ | with_reducible refine Kept.alloc' ?_ _ | with_reducible refine Kept.drew' ?_ | with_reducible refine Kept.setB ?_ _ _ _ (by omega) | with_reducible refine Kept.row' ?_ _ _ (by omega) | with_reducible refine Kept.map' ?_ _ _ (by omega)))
      subst e0
      have hsrc := h11.src bdC_len (by decide)
      have HNE3 := Lib.hid (HNE2.out rfl)
      have hone : ∀ u ∈ (bs.map bdC).flatten, u.oneCell' = true := by
        intro u hu
        rw [List.mem_flatten] at hu
        obtain ⟨z, hz, hu⟩ := hu
        obtain ⟨x, _, rfl⟩ := List.mem_map.1 hz
        simp [bdC] at hu
        rcases hu with rfl | rfl <;> rfl
      have HSRC := Lib.hid hsrc
      have HONE := Lib.hid hone
      clear hsrc hone HNE2 HER HRC h11
      generalize wrongTo t n sub ls k = W0 at *
      generalize restTo t n sub ls k = R0 at *
      have HBX : Hid (bdsC (allTo t n sub ls k) ++ (bs.map bdC).flatten = bdsC (allTo t n sub ls (k + 1))) := by rw [Hid, HAN.out, bdsC, bdsC, List.map_append, List.flatten_append]
      have HBL : Hid ((allTo t n sub ls (k + 1)).length = (allTo t n sub ls k).length + bs.length) := by rw [Hid, HAN.out, List.length_append]
      have HOW := Lib.hid (own_keep HOWN.out (show Kept [] wr w9 from (by repeat (first | with_reducible exact HK.out | with_reducible exact Kept.refl _ _ | with_reducible refine Kept.prev ?_ | with_reducible refine Kept.alloc' ?_ _ | with_reducible refine Kept.drew' ?_ | with_reducible refine Kept.setB ?_ _ _ _ (by omega) | with_reducible refine Kept.row' ?_ _ _ (by omega) | with_reducible refine Kept.map' ?_ _ _ (by omega)))) (by simp))
      have HK2 := Lib.hid (show Kept [] w1 w9 from (by repeat (first | with_reducible exact HK.out | with_reducible exact Kept.refl _ _ | with_reducible refine Kept.prev ?_ | with_reducible refine Kept.alloc' ?_ _ | with_reducible refine Kept.drew' ?_ | with_reducible refine Kept.setB ?_ _ _ _ (by omega) | with_reducible refine Kept.row' ?_ _ _ (by omega) | with_reducible refine Kept.map' ?_ _ _ (by omega))))
      have hz2 : w1.heap.size ≤ w9.heap.size := Kept.size (X := []) (by repeat (first | with_reducible exact HK.out | with_reducible exact Kept.refl _ _ | with_reducible refine Kept.prev ?_ | with_reducible refine Kept.alloc' ?_ _ | with_reducible refine Kept.drew' ?_ | with_reducible refine Kept.setB ?_ _ _ _ (by omega) | with_reducible refine Kept.row' ?_ _ _ (by omega) | with_reducible refine Kept.map' ?_ _ _ (by omega)))
      clear HAN
      generalize allTo t n sub ls k = L0 at *
      have hA : L0.length + bs.length ≤ maxLen := by unfold maxLen; omega
      have hB : (L0.length + bs.length) * 16 ≤ 140737488355328 := by omega
      have K4 := Lib.hid (fun (w4 : World) (hg : w9.grownBy w4 (Value.slice A7 L0.length c7).ownBlock) => HK2.out.grown hg (fun q hq => own_at HOWN.out q hq))
      have Y4 := Lib.hid (fun (w4 : World) (hg : w9.grownBy w4 (Value.slice A7 L0.length c7).ownBlock) => (K4.out w4 hg).cell Y1.out (by simp))
      clear HOWN y0
      cases W0
      · cases bo
        · cases R0
          · skip
            go_wp2_with (at_builtin; refine wpList_append_src _ rfl _ _ 51 rfl w1.heap.size 43 ib (.agg #[.int .i64 0, .int .i64 0]) 2 16 Tryz.underlying51 ib0 ib1 ib2 ib3 rfl (by decide) (.slice A7 L0.length c7) L0.length (bdsC L0) rfl HOW.out A11 bs.length c11 _ rfl HSRC.out HONE.out hA hB hz2 ?_; intro v' w4 ho4 hg4 _; have HO4 := Lib.hid ho4; have HG4 := Lib.hid hg4; have y4 := Y4.out w4 hg4; clear ho4 hg4)
            go_roundw
            case rel =>
              refine ⟨k + 1, by omega, by go_num, HNE3.out, ?_, ?_, ?_, K4.out _ HG4.out⟩
              · rw [HWN.out]; try simp [*]
              · rw [HRN.out]; try simp
              · rw [HBL.out, ← HBX.out]; exact HO4.out
            case measure => simp [intOf]; omega
          · skip
            go_wp2_with (at_builtin; refine wpList_append_src _ rfl _ _ 51 rfl w1.heap.size 43 ib (.agg #[.int .i64 0, .int .i64 0]) 2 16 Tryz.underlying51 ib0 ib1 ib2 ib3 rfl (by decide) (.slice A7 L0.length c7) L0.length (bdsC L0) rfl HOW.out A11 bs.length c11 _ rfl HSRC.out HONE.out hA hB hz2 ?_; intro v' w4 ho4 hg4 _; have HO4 := Lib.hid ho4; have HG4 := Lib.hid hg4; have y4 := Y4.out w4 hg4; clear ho4 hg4)
            go_roundw
            case rel =>
              refine ⟨k + 1, by omega, by go_num, HNE3.out, ?_, ?_, ?_, K4.out _ HG4.out⟩
              · rw [HWN.out]; try simp [*]
              · rw [HRN.out]; try simp
              · rw [HBL.out, ← HBX.out]; exact HO4.out
            case measure => simp [intOf]; omega
        · by_cases c1 : k + 1 < ls.length
          · have d1 : (k : Int) + 1 < (ls.length : Int) := by omega
            cases R0
            · skip
              go_wp2_with (at_builtin; refine wpList_append_src _ rfl _ _ 51 rfl w1.heap.size 43 ib (.agg #[.int .i64 0, .int .i64 0]) 2 16 Tryz.underlying51 ib0 ib1 ib2 ib3 rfl (by decide) (.slice A7 L0.length c7) L0.length (bdsC L0) rfl HOW.out A11 bs.length c11 _ rfl HSRC.out HONE.out hA hB hz2 ?_; intro v' w4 ho4 hg4 _; have HO4 := Lib.hid ho4; have HG4 := Lib.hid hg4; have y4 := Y4.out w4 hg4; clear ho4 hg4)
              go_roundw
              case rel =>
                refine ⟨k + 1, by omega, by go_num, HNE3.out, ?_, ?_, ?_, K4.out _ HG4.out⟩
                · rw [HWN.out]; try simp [*]
                · rw [HRN.out]; try simp
                · rw [HBL.out, ← HBX.out]; exact HO4.out
              case measure => simp [intOf]; omega
            · skip
              go_wp2_with (at_builtin; refine wpList_append_src _ rfl _ _ 51 rfl w1.heap.size 43 ib (.agg #[.int .i64 0, .int .i64 0]) 2 16 Tryz.underlying51 ib0 ib1 ib2 ib3 rfl (by decide) (.slice A7 L0.length c7) L0.length (bdsC L0) rfl HOW.out A11 bs.length c11 _ rfl HSRC.out HONE.out hA hB hz2 ?_; intro v' w4 ho4 hg4 _; have HO4 := Lib.hid ho4; have HG4 := Lib.hid hg4; have y4 := Y4.out w4 hg4; clear ho4 hg4)
              go_roundw
              case rel =>
                refine ⟨k + 1, by omega, by go_num, HNE3.out, ?_, ?_, ?_, K4.out _ HG4.out⟩
                · rw [HWN.out]; try simp [*]
                · rw [HRN.out]; try simp
                · rw [HBL.out, ← HBX.out]; exact HO4.out
              case measure => simp [intOf]; omega
          · have d1 : decide ((k : Int) + 1 < (ls.length : Int)) = false := by simp; omega
            by_cases c2 : 1 < y.l.length
            · have d2 : (1 : Int) < (y.l.length : Int) := by omega
              cases R0
              · skip
                go_wp2_with (at_builtin; refine wpList_append_src _ rfl _ _ 51 rfl w1.heap.size 43 ib (.agg #[.int .i64 0, .int .i64 0]) 2 16 Tryz.underlying51 ib0 ib1 ib2 ib3 rfl (by decide) (.slice A7 L0.length c7) L0.length (bdsC L0) rfl HOW.out A11 bs.length c11 _ rfl HSRC.out HONE.out hA hB hz2 ?_; intro v' w4 ho4 hg4 _; have HO4 := Lib.hid ho4; have HG4 := Lib.hid hg4; have y4 := Y4.out w4 hg4; clear ho4 hg4)
                go_roundw
                case rel =>
                  refine ⟨k + 1, by omega, by go_num, HNE3.out, ?_, ?_, ?_, K4.out _ HG4.out⟩
                  · rw [HWN.out]; try simp [*]
                  · rw [HRN.out]; try simp
                  · rw [HBL.out, ← HBX.out]; exact HO4.out
                case measure => simp [intOf]; omega
              · skip
                go_wp2_with (at_builtin; refine wpList_append_src _ rfl _ _ 51 rfl w1.heap.size 43 ib (.agg #[.int .i64 0, .int .i64 0]) 2 16 Tryz.underlying51 ib0 ib1 ib2 ib3 rfl (by decide) (.slice A7 L0.length c7) L0.length (bdsC L0) rfl HOW.out A11 bs.length c11 _ rfl HSRC.out HONE.out hA hB hz2 ?_; intro v' w4 ho4 hg4 _; have HO4 := Lib.hid ho4; have HG4 := Lib.hid hg4; have y4 := Y4.out w4 hg4; clear ho4 hg4)
                go_roundw
                case rel =>
                  refine ⟨k + 1, by omega, by go_num, HNE3.out, ?_, ?_, ?_, K4.out _ HG4.out⟩
                  · rw [HWN.out]; try simp [*]
                  · rw [HRN.out]; try simp
                  · rw [HBL.out, ← HBX.out]; exact HO4.out
                case measure => simp [intOf]; omega
            · have d2 : decide ((1 : Int) < (y.l.length : Int)) = false := by simp; omega
              cases R0
              · skip
                go_wp2_with (at_builtin; refine wpList_append_src _ rfl _ _ 51 rfl w1.heap.size 43 ib (.agg #[.int .i64 0, .int .i64 0]) 2 16 Tryz.underlying51 ib0 ib1 ib2 ib3 rfl (by decide) (.slice A7 L0.length c7) L0.length (bdsC L0) rfl HOW.out A11 bs.length c11 _ rfl HSRC.out HONE.out hA hB hz2 ?_; intro v' w4 ho4 hg4 _; have HO4 := Lib.hid ho4; have HG4 := Lib.hid hg4; have y4 := Y4.out w4 hg4; clear ho4 hg4)
                go_roundw
                case rel =>
                  refine ⟨k + 1, by omega, by go_num, HNE3.out, ?_, ?_, ?_, K4.out _ HG4.out⟩
                  · rw [HWN.out]; try simp [*]
                  · rw [HRN.out]; try simp
                  · rw [HBL.out, ← HBX.out]; exact HO4.out
                case measure => simp [intOf]; omega
              · skip
                go_wp2_with (at_builtin; refine wpList_append_src _ rfl _ _ 51 rfl w1.heap.size 43 ib (.agg #[.int .i64 0, .int .i64 0]) 2 16 Tryz.underlying51 ib0 ib1 ib2 ib3 rfl (by decide) (.slice A7 L0.length c7) L0.length (bdsC L0) rfl HOW.out A11 bs.length c11 _ rfl HSRC.out HONE.out hA hB hz2 ?_; intro v' w4 ho4 hg4 _; have HO4 := Lib.hid ho4; have HG4 := Lib.hid hg4; have y4 := Y4.out w4 hg4; clear ho4 hg4)
                go_roundw
                case rel =>
                  refine ⟨k + 1, by omega, by go_num, HNE3.out, ?_, ?_, ?_, K4.out _ HG4.out⟩
                  · rw [HWN.out]; try simp [*]
                  · rw [HRN.out]; try simp
                  · rw [HBL.out, ← HBX.out]; exact HO4.out
                case measure => simp [intOf]; omega
      · cases R0
        · skip
          go_wp2_with (at_builtin; refine wpList_append_src _ rfl _ _ 51 rfl w1.heap.size 43 ib (.agg #[.int .i64 0, .int .i64 0]) 2 16 Tryz.underlying51 ib0 ib1 ib2 ib3 rfl (by decide) (.slice A7 L0.length c7) L0.length (bdsC L0) rfl HOW.out A11 bs.length c11 _ rfl HSRC.out HONE.out hA hB hz2 ?_; intro v' w4 ho4 hg4 _; have HO4 := Lib.hid ho4; have HG4 := Lib.hid hg4; have y4 := Y4.out w4 hg4; clear ho4 hg4)
          go_roundw
          case rel =>
            refine ⟨k + 1, by omega, by go_num, HNE3.out, ?_, ?_, ?_, K4.out _ HG4.out⟩
            · rw [HWN.out]; try simp [*]
            · rw [HRN.out]; try simp
            · rw [HBL.out, ← HBX.out]; exact HO4.out
          case measure => simp [intOf]; omega
        · skip
          go_wp2_with (at_builtin; refine wpList_append_src _ rfl _ _ 51 rfl w1.heap.size 43 ib (.agg #[.int .i64 0, .int .i64 0]) 2 16 Tryz.underlying51 ib0 ib1 ib2 ib3 rfl (by decide) (.slice A7 L0.length c7) L0.length (bdsC L0) rfl HOW.out A11 bs.length c11 _ rfl HSRC.out HONE.out hA hB hz2 ?_; intro v' w4 ho4 hg4 _; have HO4 := Lib.hid ho4; have HG4 := Lib.hid hg4; have y4 := Y4.out w4 hg4; clear ho4 hg4)
          go_roundw
          case rel =>
            refine ⟨k + 1, by omega, by go_num, HNE3.out, ?_, ?_, ?_, K4.out _ HG4.out⟩
            · rw [HWN.out]; try simp [*]
            · rw [HRN.out]; try simp
            · rw [HBL.out, ← HBX.out]; exact HO4.out
          case measure => simp [intOf]; omega
    · obtain rfl : k = ls.length := by omega
      have HFIN : Hid (Q = refQ (rangeP t sub) (wrongTo t n sub ls ls.length) (restTo t n sub ls ls.length) (allTo t n sub ls ls.length)) := by
        have h0 : errTo t n sub ls = 0 := err_none (fun i z hz => HNE.out i z (List.getElem?_eq_some_iff.1 hz).1 hz)
        rw [Hid, HRC.out, h0]
        rfl
      clear HNE HC HLEN HR hlt HRC
      generalize wrongTo t n sub ls ls.length = W0 at *
      generalize restTo t n sub ls ls.length = R0 at *
      generalize allTo t n sub ls ls.length = L at *
      obtain ⟨A, c', hac, hb1, hb2, hb3, hrows⟩ := rows_own (α := Bd) (m := 2) (cells := bdC) (l := L) HOWN.out bdC_len rfl
      obtain ⟨rfl, _, rfl⟩ : A7 = A ∧ L.length = L.length ∧ c7 = c' := by simpa using hac
      have HRS := Lib.hid hrows
      have hll : L.length ≤ 1000000 := by omega
      have HCOV := Lib.hid (fun w' (hk : Kept [] wr w') lo hi h1 h2 => covered_any _ w' A7 c7 L lo hi (Nat.le_refl _) hll (HRS.out.kept hk) h1 h2)
      have HG2 := Lib.hid (fun w' (hk : Kept [] w w') => show Calls _ _ _ w' (RetV (bd3V (rangeP t sub)) w') from HG.out w' hk)
      obtain ⟨w5, rfl⟩ : ∃ w5 : World, w5 = wr := ⟨_, rfl⟩
      clear hac hb1 hb2 hb3 hrows HOWN HG hlen HKR
      unfold bd3V at HG2
      go_wp2_with fail
      go_loopw [8, 14] (fun v8 i wr => CvP W0 L w5 v8 i wr) (fun _ i _ => L.length - (intOf i).toNat)
      case atStart => exact ⟨0, Nat.zero_le _, rfl, by simp [pairI], Kept.refl _ _⟩
      case round =>
        obtain ⟨j, hj, rfl, rfl, hkr⟩ := hrel
        obtain ⟨w6, rfl⟩ : ∃ w6 : World, w6 = wr := ⟨_, rfl⟩
        haveI p_w6 : PrevWorld w6 w5 := ⟨hkr⟩
        have HK6 := Lib.hid hkr
        have hkz6 := hkr.size
        clear hkr
        by_cases hlt : j < L.length
        · obtain ⟨x, hx⟩ : ∃ x, L[j]? = some x := ⟨_, List.getElem?_eq_getElem hlt⟩
          obtain ⟨b, o, rfl, hr⟩ := HRS.out.some_ hx
          have HRR := Lib.hid hr
          have HX := Lib.hid hx
          have HXE : Hid (L.getD j (0, 0) = x) := by simp [Hid, List.getD_eq_getElem?_getD, hx]
          have HPI : Hid ((W0 || pairI L (j + 1)) = ((W0 || pairI L j) || pairK L j j)) := by rw [Hid, pairI, Bool.or_assoc]
          have j2 : (j : Int) < (L.length : Int) := by omega
          clear hr hx HRS HCOV HG2 HB HFIN
          generalize (W0 || pairI L j) = W1 at *
          go_wp2_with fail
          go_loopw [8, 15] (fun v8 u wr => CvK W1 L j w6 v8 u wr) (fun _ u _ => j - (intOf u).toNat)
          case atStart => exact ⟨0, Nat.zero_le _, rfl, by simp [pairK], Kept.refl _ _⟩
          case round =>
            obtain ⟨k, hk, rfl, rfl, hkr⟩ := hrel
            obtain ⟨w7, rfl⟩ : ∃ w7 : World, w7 = wr := ⟨_, rfl⟩
            haveI p_w7 : PrevWorld w7 w6 := ⟨hkr⟩
            have HK7 := Lib.hid hkr
            have hkz7 := hkr.size
            clear hkr
            by_cases hlk : k < j
            · obtain ⟨y, hy⟩ : ∃ y, L[k]? = some y := ⟨_, List.getElem?_eq_getElem (by omega)⟩
              have x0 := bd_cells (HRR.out j x HX.out)
              have y0 := bd_cells (HRR.out k y hy)
              have hkk : Kept [] w5 w7 := (by repeat (first | with_reducible exact HK.out | with_reducible exact Kept.refl _ _ | with_reducible refine Kept.prev ?_ | with_reducible refine Kept.alloc' ?_ _ | with_reducible refine Kept.drew' ?_ | with_reducible refine Kept.setB ?_ _ _ _ (by omega) | with_reducible refine Kept.row' ?_ _ _ (by omega) | with_reducible refine Kept.map' ?_ _ _ (by omega)))
              obtain ⟨x0, x1⟩ := And.intro (hkk.cell x0.1 (by simp)) (hkk.cell x0.2 (by simp))
              obtain ⟨y0, y1⟩ := And.intro (hkk.cell y0.1 (by simp)) (hkk.cell y0.2 (by simp))
              have HPK : Hid ((W1 || pairK L j (k + 1)) = ((W1 || pairK L j k) || meetB x y)) := by
                have ey : L.getD k (0, 0) = y := by simp [List.getD_eq_getElem?_getD, hy]
                rw [Hid, pairK, HXE.out, ey, Bool.or_assoc]
              have k2 : (k : Int) < (L.length : Int) := by omega
              have k3 : (k : Int) < (j : Int) := by omega
              have k4 : k < L.length := by omega
              clear hkk hy HX HXE HRR HPI
              generalize (W1 || pairK L j k) = W2 at *
              obtain ⟨xl, xh⟩ := x
              obtain ⟨yl, yh⟩ := y
              simp only at x0 x1 y0 y1
              cases W2
              rotate_left
              · have HS : Hid ((W1 || pairK L j (k + 1)) = true) := by rw [Hid, HPK.out]; rfl
                go_wp2_with fail
                go_quiet (fail)
                go_wp2_with fail
                go_roundw
                case rel => exact ⟨k + 1, by omega, by go_num, by rw [HS.out], HK7.out.trans (by repeat (first | with_reducible exact HK.out | with_reducible exact Kept.refl _ _ | with_reducible refine Kept.trans ?_ (Kept.drewN _ _ _) | with_reducible refine Kept.prev ?_ | with_reducible refine Kept.alloc' ?_ _ | with_reducible refine Kept.drew' ?_))⟩
                case measure => simp [intOf]; omega
              by_cases d1 : xl ≤ yh
              · by_cases d2 : yl ≤ xh
                · have HS : Hid ((W1 || pairK L j (k + 1)) = true) := by rw [Hid, HPK.out]; simp [meetB, d1, d2]
                  go_wp2_with fail
                  go_quiet (fail)
                  go_wp2_with fail
                  go_roundw
                  case rel => exact ⟨k + 1, by omega, by go_num, by rw [HS.out], HK7.out.trans (by repeat (first | with_reducible exact HK.out | with_reducible exact Kept.refl _ _ | with_reducible refine Kept.trans ?_ (Kept.drewN _ _ _) | with_reducible refine Kept.prev ?_ | with_reducible refine Kept.alloc' ?_ _ | with_reducible refine Kept.drew' ?_))⟩
                  case measure => simp [intOf]; omega
                · have HS : Hid ((W1 || pairK L j (k + 1)) = false) := by rw [Hid, HPK.out]; simp [meetB, d2]
                  have d2' : decide (yl ≤ xh) = false := decide_eq_false d2
                  clear d2
                  go_wp2_with fail
                  go_quiet (fail)
                  go_wp2_with fail
                  go_roundw
                  case rel => exact ⟨k + 1, by omega, by go_num, by rw [HS.out], HK7.out.trans (by repeat (first | with_reducible exact HK.out | with_reducible exact Kept.refl _ _ | with_reducible refine Kept.trans ?_ (Kept.drewN _ _ _) | with_reducible refine Kept.prev ?_ | with_reducible refine Kept.alloc' ?_ _ | with_reducible refine Kept.drew' ?_))⟩
                  case measure => simp [intOf]; omega
              · have HS : Hid ((W1 || pairK L j (k + 1)) = false) := by rw [Hid, HPK.out]; simp [meetB, d1]
                have d1' : decide (xl ≤ yh) = false := decide_eq_false d1
                clear d1
                go_wp2_with fail
                go_quiet (fail)
                go_wp2_with fail
                go_roundw
                case rel => exact ⟨k + 1, by omega, by go_num, by rw [HS.out], HK7.out.trans (by repeat (first | with_reducible exact HK.out | with_reducible exact Kept.refl _ _ | with_reducible refine Kept.trans ?_ (Kept.drewN _ _ _) | with_reducible refine Kept.prev ?_ | with_reducible refine Kept.alloc' ?_ _ | with_reducible refine Kept.drew' ?_))⟩
                case measure => simp [intOf]; omega
            · obtain rfl : k = j := by omega
              clear HXE HX HRR hlk
              go_wp2_with fail
              go_roundw
              case rel => exact ⟨k + 1, by omega, by go_num, by rw [HPI.out], HK6.out.trans HK7.out⟩
              case measure => simp [intOf]; omega
        · obtain rfl : j = L.length := by omega
          have HFIN2 : Hid (Q = if ((W0 || pairI L L.length) || (!R0 && ((rangeP t sub).isSome && !covB L ((rangeP t sub).getD (0, 0)).1 ((rangeP t sub).getD (0, 0)).2))) = true then 72 else 0) := HFIN.out
          generalize (W0 || pairI L L.length) = W at *
          clear HFIN HRS hlt
          cases ho : rangeP t sub with
          | none =>
            rw [ho] at HG2 HFIN2
            clear ho HB HCOV
            simp only [Option.getD_none, Option.isSome_none] at HG2
            go_wp2_with fail
            refine (HG2.out _ (by repeat (first | with_reducible exact HK.out | with_reducible exact Kept.refl _ _ | with_reducible refine Kept.prev ?_ | with_reducible refine Kept.alloc' ?_ _ | with_reducible refine Kept.drew' ?_ | with_reducible refine Kept.setB ?_ _ _ _ (by omega) | with_reducible refine Kept.row' ?_ _ _ (by omega) | with_reducible refine Kept.map' ?_ _ _ (by omega)))).mono ?_; rintro e w8 ⟨rfl, hk_w8⟩; haveI p_w8 : PrevWorld w8 _ := ⟨hk_w8⟩; have hz_w8 : w.heap.size ≤ w8.heap.size := Kept.size (by repeat (first | with_reducible exact HK.out | with_reducible exact Kept.refl _ _ | with_reducible refine Kept.prev ?_ | with_reducible refine Kept.alloc' ?_ _ | with_reducible refine Kept.drew' ?_ | with_reducible refine Kept.setB ?_ _ _ _ (by omega) | with_reducible refine Kept.row' ?_ _ _ (by omega) | with_reducible refine Kept.map' ?_ _ _ (by omega))); clear hk_w8
            cases W
            · have HW : Hid (Q = 0) := by rw [Hid, HFIN2.out]; simp
              cases R0
              · go_wp2_with fail
                rw [HW.out]
                exact bodyPost_v rfl (res1 Tryz.results17 (resT rfl)) (by repeat (first | with_reducible exact HK.out | with_reducible exact Kept.refl _ _ | with_reducible refine Kept.prev ?_ | with_reducible refine Kept.alloc' ?_ _ | with_reducible refine Kept.drew' ?_ | with_reducible refine Kept.setB ?_ _ _ _ (by omega) | with_reducible refine Kept.row' ?_ _ _ (by omega) | with_reducible refine Kept.map' ?_ _ _ (by omega)))
              · go_wp2_with fail
                rw [HW.out]
                exact bodyPost_v rfl (res1 Tryz.results17 (resT rfl)) (by repeat (first | with_reducible exact HK.out | with_reducible exact Kept.refl _ _ | with_reducible refine Kept.prev ?_ | with_reducible refine Kept.alloc' ?_ _ | with_reducible refine Kept.drew' ?_ | with_reducible refine Kept.setB ?_ _ _ _ (by omega) | with_reducible refine Kept.row' ?_ _ _ (by omega) | with_reducible refine Kept.map' ?_ _ _ (by omega)))
            · have HW : Hid (Q = 72) := by rw [Hid, HFIN2.out]; simp
              go_wp2_with fail
              rw [HW.out]
              exact bodyPost_v rfl (res1 Tryz.results17 (resT rfl)) (by repeat (first | with_reducible exact HK.out | with_reducible exact Kept.refl _ _ | with_reducible refine Kept.prev ?_ | with_reducible refine Kept.alloc' ?_ _ | with_reducible refine Kept.drew' ?_ | with_reducible refine Kept.setB ?_ _ _ _ (by omega) | with_reducible refine Kept.row' ?_ _ _ (by omega) | with_reducible refine Kept.map' ?_ _ _ (by omega)))
          | some r =>
            have h64 := HB.out r ho
            rw [ho] at HG2 HFIN2
            obtain ⟨lo, hi⟩ := r
            have HCV := Lib.hid (fun w' (hk : Kept [] w5 w') => HCOV.out w' hk lo hi h64.1.1 h64.2.2)
            simp only [Option.getD_some, Option.isSome_some, Bool.true_and] at HG2 HFIN2
            clear ho HB HCOV h64
            go_wp2_with fail
            refine (HG2.out _ (by repeat (first | with_reducible exact HK.out | with_reducible exact Kept.refl _ _ | with_reducible refine Kept.prev ?_ | with_reducible refine Kept.alloc' ?_ _ | with_reducible refine Kept.drew' ?_ | with_reducible refine Kept.setB ?_ _ _ _ (by omega) | with_reducible refine Kept.row' ?_ _ _ (by omega) | with_reducible refine Kept.map' ?_ _ _ (by omega)))).mono ?_; rintro e w8 ⟨rfl, hk_w8⟩; haveI p_w8 : PrevWorld w8 _ := ⟨hk_w8⟩; have hz_w8 : w.heap.size ≤ w8.heap.size := Kept.size (by repeat (first | with_reducible exact HK.out | with_reducible exact Kept.refl _ _ | with_reducible refine Kept.prev ?_ | with_reducible refine Kept.alloc' ?_ _ | with_reducible refine Kept.drew' ?_ | with_reducible refine Kept.setB ?_ _ _ _ (by omega) | with_reducible refine Kept.row' ?_ _ _ (by omega) | with_reducible refine Kept.map' ?_ _ _ (by omega))); clear hk_w8
            cases W
            · cases R0
              · generalize covB L lo hi = cv at *
                go_wp2_with fail
                refine (HCV.out _ (by repeat (first | with_reducible exact HK.out | with_reducible exact Kept.refl _ _ | with_reducible refine Kept.prev ?_ | with_reducible refine Kept.alloc' ?_ _ | with_reducible refine Kept.drew' ?_ | with_reducible refine Kept.setB ?_ _ _ _ (by omega) | with_reducible refine Kept.row' ?_ _ _ (by omega) | with_reducible refine Kept.map' ?_ _ _ (by omega)))).mono ?_; rintro e w10 ⟨rfl, hk_w10⟩; haveI p_w10 : PrevWorld w10 _ := ⟨hk_w10⟩; have hz_w10 : w.heap.size ≤ w10.heap.size := Kept.size (by repeat (first | with_reducible exact HK.out | with_reducible exact Kept.refl _ _ | with_reducible refine Kept.prev ?_ | with_reducible refine Kept.alloc' ?_ _ | with_reducible refine Kept.drew' ?_ | with_reducible refine Kept.setB ?_ _ _ _ (by omega) | with_reducible refine Kept.row' ?_ _ _ (by omega) | with_reducible refine Kept.map' ?_ _ _ (by omega))); clear hk_w10
                cases cv
                · have HW : Hid (Q = 72) := by rw [Hid, HFIN2.out]; simp
                  go_wp2_with fail
                  rw [HW.out]
                  exact bodyPost_v rfl (res1 Tryz.results17 (resT rfl)) (by repeat (first | with_reducible exact HK.out | with_reducible exact Kept.refl _ _ | with_reducible refine Kept.prev ?_ | with_reducible refine Kept.alloc' ?_ _ | with_reducible refine Kept.drew' ?_ | with_reducible refine Kept.setB ?_ _ _ _ (by omega) | with_reducible refine Kept.row' ?_ _ _ (by omega) | with_reducible refine Kept.map' ?_ _ _ (by omega)))
                · have HW : Hid (Q = 0) := by rw [Hid, HFIN2.out]; simp
                  go_wp2_with fail
                  rw [HW.out]
                  exact bodyPost_v rfl (res1 Tryz.results17 (resT rfl)) (by repeat (first | with_reducible exact HK.out | with_reducible exact Kept.refl _ _ | with_reducible refine Kept.prev ?_ | with_reducible refine Kept.alloc' ?_ _ | with_reducible refine Kept.drew' ?_ | with_reducible refine Kept.setB ?_ _ _ _ (by omega) | with_reducible refine Kept.row' ?_ _ _ (by omega) | with_reducible refine Kept.map' ?_ _ _ (by omega)))
              · have HW : Hid (Q = 0) := by rw [Hid, HFIN2.out]; simp
                go_wp2_with fail
                rw [HW.out]
                exact bodyPost_v rfl (res1 Tryz.results17 (resT rfl)) (by repeat (first | with_reducible exact HK.out | with_reducible exact Kept.refl _ _ | with_reducible refine Kept.prev ?_ | with_reducible refine Kept.alloc' ?_ _ | with_reducible refine Kept.drew' ?_ | with_reducible refine Kept.setB ?_ _ _ _ (by omega) | with_reducible refine Kept.row' ?_ _ _ (by omega) | with_reducible refine Kept.map' ?_ _ _ (by omega)))
            · have HW : Hid (Q = 72) := by rw [Hid, HFIN2.out]; simp
              go_wp2_with fail
              rw [HW.out]
              exact bodyPost_v rfl (res1 Tryz.results17 (resT rfl)) (by repeat (first | with_reducible exact HK.out | with_reducible exact Kept.refl _ _ | with_reducible refine Kept.prev ?_ | with_reducible refine Kept.alloc' ?_ _ | with_reducible refine Kept.drew' ?_ | with_reducible refine Kept.setB ?_ _ _ _ (by omega) | with_reducible refine Kept.row' ?_ _ _ (by omega) | with_reducible refine Kept.map' ?_ _ _ (by omega)))
end Go.Proofs.YtgdjhhfbpalkdaaGreat
