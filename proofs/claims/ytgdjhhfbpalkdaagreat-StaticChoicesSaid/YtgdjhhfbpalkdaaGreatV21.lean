/- Cover, over the sort. -/
import Derived.Test.YtgdjhhfbpalkdaaGreatK18
namespace Go.Proofs.YtgdjhhfbpalkdaaGreat
open Go.RowKit Go.Sort
section
variable (t : Tab) (n : Nat) (sub : Int)
def chB (l : List ChV) : List Bd := (choicesP t n sub l).1
def chO (l : List ChV) : Bool := (choicesP t n sub l).2.1
def chE (l : List ChV) : Int := (choicesP t n sub l).2.2
def wrongTo (ls : List ChL) : Nat → Bool
  | 0 => false
  | j + 1 => wrongTo ls j || (chO t n sub (ls.getD j default).l && (decide (j + 1 < ls.length) || decide (1 < (ls.getD j default).l.length)))
def restTo (ls : List ChL) : Nat → Bool
  | 0 => false
  | j + 1 => restTo ls j || chO t n sub (ls.getD j default).l
def allTo (ls : List ChL) : Nat → List Bd
  | 0 => []
  | j + 1 => allTo ls j ++ chB t n sub (ls.getD j default).l
end
def ovTo (s : List Bd) : Nat → Bool
  | 0 => false
  | 1 => false
  | j + 2 => ovTo s (j + 1) || decide ((s.getD (j + 1) (0, 0)).1 ≤ (s.getD j (0, 0)).2)
def gpTo (lo : Int) (s : List Bd) : Nat → Bool
  | 0 => false
  | 1 => decide (lo < (s.getD 0 (0, 0)).1)
  | j + 2 => gpTo lo s (j + 1) || decide (wrap64 ((s.getD j (0, 0)).2 + 1) < (s.getD (j + 1) (0, 0)).1)
def fullB (o : Option Bd) : Bool := o.isSome && decide ((o.getD (0, 0)).1 ≤ (o.getD (0, 0)).2)
def covQ (lo hi : Int) (F W R : Bool) (s : List Bd) : Int :=
  if ((W || ovTo s s.length) || (F && (((F && decide (s.length = 0)) || gpTo lo s s.length) || (decide (0 < s.length) && decide ((s.getD (s.length - 1) (0, 0)).2 < hi))) && !R)) = true then 72 else 0
def coverQ (o : Option Bd) (wrong rest : Bool) (s : List Bd) : Int := covQ (o.getD (0, 0)).1 (o.getD (0, 0)).2 (fullB o) wrong rest s
theorem bd_cells {w : World} {b o : Nat} {x : Bd} (h : w.rangeAt b o (bdC x)) : w.cell? ⟨b, o, none⟩ = some (.int .i64 x.1) ∧ w.cell? ⟨b, o + 1, none⟩ = some (.int .i64 x.2) := ⟨by simpa using h 0 _ rfl, h 1 _ rfl⟩
def CvL2 (lo : Int) (s : List Bd) (W0 G0 : Bool) (w7 : World) (v8 v19 i : Value) (wr : World) : Prop :=
  ∃ j : Nat, j ≤ s.length ∧ i = .int .i64 j ∧ v8 = .bool (W0 || ovTo s j) ∧ v19 = .bool (G0 || gpTo lo s j) ∧ Kept [] w7 wr
/-- What Cover tells. -/
def CovIs (t : Tab) (n : Nat) (sub : Int) (ls : List ChL) (r : Int) : Prop :=
  (∃ (j : Nat) (x : ChL), ls[j]? = some x ∧ (∀ (i : Nat) (y : ChL), i < j → ls[i]? = some y → chE t n sub y.l = 0) ∧ chE t n sub x.l ≠ 0 ∧ r = chE t n sub x.l) ∨
  ((∀ (i : Nat) (y : ChL), ls[i]? = some y → chE t n sub y.l = 0) ∧ ∃ s : List Bd, s.Perm (allTo t n sub ls ls.length) ∧ s.Pairwise (fun a b => a.1 ≤ b.1) ∧ r = coverQ (rangeP t sub) (wrongTo t n sub ls ls.length) (restTo t n sub ls ls.length) s)
def RetCov (t : Tab) (n : Nat) (sub : Int) (ls : List ChL) (w : World) (e : Ending) (w' : World) : Prop := ∃ r, e = .returned (.int .i64 r) ∧ CovIs t n sub ls r ∧ Kept [] w w'
theorem all_len {t : Tab} {n : Nat} {sub : Int} {ls : List ChL} (h : ∀ x, x ∈ ls → x.l.length ≤ 1000) : ∀ j, j ≤ ls.length → (allTo t n sub ls j).length ≤ 1000 * j
  | 0, _ => by simp [allTo]
  | j + 1, hj => by
    have ih := all_len (t := t) (n := n) (sub := sub) h j (by omega)
    have hx : ls[j]? = some (ls[j]'(by omega)) := List.getElem?_eq_getElem (by omega)
    have e : ls.getD j default = ls[j]'(by omega) := by simp [List.getD_eq_getElem?_getD, hx]
    have h1 := choices_len t n sub (ls[j]'(by omega)).l
    have h2 := h _ (List.mem_of_getElem? hx)
    simp only [allTo, List.length_append, e, chB]
    omega
/-- The state of the first loop. -/
def CvL1 (t : Tab) (n : Nat) (sub : Int) (ls : List ChL) (w1 : World) (v7 v8 v9 i : Value) (wr : World) : Prop :=
  ∃ j : Nat, j ≤ ls.length ∧ i = .int .i64 j ∧ (∀ (i : Nat) (y : ChL), i < j → ls[i]? = some y → chE t n sub y.l = 0) ∧ v8 = .bool (wrongTo t n sub ls j) ∧ v9 = .bool (restTo t n sub ls j) ∧
    wr.ownsRow w1.heap.size 43 2 v7 (allTo t n sub ls j).length (bdsC (allTo t n sub ls j)) ∧ Kept [] w1 wr
set_option maxRecDepth 100000 in
set_option maxHeartbeats 8000000 in
theorem Cover_of (HSORT : SortAll) (w : World) (v : TabV) (t : Tab) (sub : Int) (a : Option Addr) (c : Nat) (ls : List ChL) (n : Nat) (hT : TabIn w v t) (hR : RowsAt ChL 1 ChL.cells w a ls) (hA : ∀ y, y ∈ ls → RowsAt ChV 2 ChV.cells w y.a y.l ∧ (∀ z, z ∈ y.l → ChIn w n z) ∧ y.l.length ≤ 1000) (hl : ls.length ≤ 1000) :
    Calls Tryz.prog 16 #[.agg (v.cells t), .int .i64 sub, .slice a ls.length c] w (RetCov t n sub ls w) := by
  have HT := Lib.hid hT
  have HR := Lib.hid hR
  have HA := Lib.hid hA
  have HS := Lib.hid HSORT
  have HLEN := Lib.hid (all_len (t := t) (n := n) (sub := sub) (ls := ls) (fun x hx => (hA x hx).2.2))
  clear hT hR hA HSORT
  obtain ⟨ib, ib0, ib1, ib2, ib3⟩ := Tryz.bd_parts
  have HG := Lib.hid (fun w' (hk : Kept [] w w') => range_any w' v t sub (HT.out.kept hk))
  have HC := Lib.hid (fun w' (y : ChL) (hk : Kept [] w w') hy => Choices_any w' v t sub y.a y.c y.l n (HT.out.kept hk) ((HA.out y hy).1.kept hk) (fun z hz => ((HA.out y hy).2.1 z hz).kept hk) (HA.out y hy).2.2)
  clear HT HA
  unfold TabV.cells at *
  go_enter Tryz.func16, Tryz.ntmps16
  go_wp2_with fail
  refine wp_gen' ?_
  intro w1 hw1
  haveI p_w1 : PrevWorld w1 w := ⟨by rw [hw1]; exact (by repeat (first | with_reducible exact HK.out | with_reducible exact Kept.refl _ _ | with_reducible refine Kept.prev ?_ | with_reducible refine Kept.alloc' ?_ _ | with_reducible refine Kept.drew' ?_ | with_reducible refine Kept.setB ?_ _ _ _ (by omega) | with_reducible refine Kept.row' ?_ _ _ (by omega) | with_reducible refine Kept.map' ?_ _ _ (by omega)))⟩
  haveI bx1 : BoxIs w1 w.heap.size 28 _ := by rw [hw1]; infer_instance
  have hz1 : w.heap.size ≤ w1.heap.size := Kept.size (X := []) (by repeat (first | with_reducible exact HK.out | with_reducible exact Kept.refl _ _ | with_reducible refine Kept.prev ?_ | with_reducible refine Kept.alloc' ?_ _ | with_reducible refine Kept.drew' ?_ | with_reducible refine Kept.setB ?_ _ _ _ (by omega) | with_reducible refine Kept.row' ?_ _ _ (by omega) | with_reducible refine Kept.map' ?_ _ _ (by omega)))
  clear hw1
  go_loopw [7, 8, 9, 24] (fun v7 v8 v9 i wr => CvL1 t n sub ls w1 v7 v8 v9 i wr) (fun _ _ _ i _ => ls.length - (intOf i).toNat)
  case atStart => exact ⟨0, Nat.zero_le _, rfl, fun i y h => absurd h (by omega), rfl, rfl, World.ownsRow_nil _ _ _ _, Kept.refl _ _⟩
  case round =>
    obtain ⟨k, hk, rfl, hne, rfl, rfl, hown, hkr⟩ := hrel
    obtain ⟨A7, c7, rfl⟩ := own_shape hown
    have HOWN := Lib.hid hown
    have HNE := Lib.hid hne
    have hlen := HLEN.out k hk
    have hkz := hkr.size
    haveI p_wr : PrevWorld wr w1 := ⟨hkr⟩
    have HKR := Lib.hid hkr
    clear hown hne hkr
    by_cases hlt : k < ls.length
    · obtain ⟨y, hy⟩ : ∃ y, ls[k]? = some y := ⟨_, List.getElem?_eq_getElem hlt⟩
      obtain ⟨b, of, rfl, hr⟩ := HR.out.some_ hy
      have y0 : wr.cell? ⟨b, of + k, none⟩ = some (.slice y.a y.l.length y.c) := by
        have := (show Kept [] w wr from (by repeat (first | with_reducible exact HK.out | with_reducible exact Kept.refl _ _ | with_reducible refine Kept.prev ?_ | with_reducible refine Kept.alloc' ?_ _ | with_reducible refine Kept.drew' ?_ | with_reducible refine Kept.setB ?_ _ _ _ (by omega) | with_reducible refine Kept.row' ?_ _ _ (by omega) | with_reducible refine Kept.map' ?_ _ _ (by omega)))).cell (hr k y hy 0 _ rfl) (by simp)
        simpa using this
      have HCY := Lib.hid (fun w' (hk : Kept [] w w') => HC.out w' y hk (List.mem_of_getElem? hy))
      have ey : ls.getD k default = y := by simp [List.getD_eq_getElem?_getD, hy]
      have HY := Lib.hid hy
      have j1 : (0 : Int) ≤ (k : Int) := by omega
      have j2 : (k : Int) < (ls.length : Int) := by omega
      clear hr hy HC
      go_wp2_with fail
      refine (HCY.out _ (by repeat (first | with_reducible exact HK.out | with_reducible exact Kept.refl _ _ | with_reducible refine Kept.prev ?_ | with_reducible refine Kept.alloc' ?_ _ | with_reducible refine Kept.drew' ?_ | with_reducible refine Kept.setB ?_ _ _ _ (by omega) | with_reducible refine Kept.row' ?_ _ _ (by omega) | with_reducible refine Kept.map' ?_ _ _ (by omega)))).mono ?_
      rintro e w2 ⟨bs, rfl, hob, hk_w2⟩
      haveI p_w2 : PrevWorld w2 _ := ⟨hk_w2⟩
      have hz_w2 : w.heap.size ≤ w2.heap.size := Kept.size (X := []) (by repeat (first | with_reducible exact HK.out | with_reducible exact Kept.refl _ _ | with_reducible refine Kept.prev ?_ | with_reducible refine Kept.alloc' ?_ _ | with_reducible refine Kept.drew' ?_ | with_reducible refine Kept.setB ?_ _ _ _ (by omega) | with_reducible refine Kept.row' ?_ _ _ (by omega) | with_reducible refine Kept.map' ?_ _ _ (by omega)))
      by_cases e0 : (choicesP t n sub y.l).2.2 = 0
      rotate_left
      · have HW : Hid (CovIs t n sub ls (choicesP t n sub y.l).2.2) := Or.inl ⟨k, y, HY.out, HNE.out, e0, rfl⟩
        generalize (choicesP t n sub y.l).2.2 = z at *
        have e3 : (z != 0) = true := by simp [e0]
        clear HNE e0 HLEN HOWN hlen
        go_wp2_with fail
        refine bodyPost_ret (res1 Tryz.results16 (resT rfl)) rfl ?_
        exact ⟨_, rfl, HW.out, (by repeat (first | with_reducible exact HK.out | with_reducible exact Kept.refl _ _ | with_reducible refine Kept.prev ?_ | with_reducible refine Kept.alloc' ?_ _ | with_reducible refine Kept.drew' ?_ | with_reducible refine Kept.setB ?_ _ _ _ (by omega) | with_reducible refine Kept.row' ?_ _ _ (by omega) | with_reducible refine Kept.map' ?_ _ _ (by omega)))⟩
      obtain ⟨Ab, cb, rfl, hb1, hb2, hb3, hrows⟩ := rows_own (cells := bdC) hob bdC_len rfl
      have hsrc := hrows.src bdC_len (by decide)
      have HNE2 := Lib.hid (show ∀ (i : Nat) (z : ChL), i < k + 1 → ls[i]? = some z → chE t n sub z.l = 0 from fun i z hi hz => by
        by_cases hik : i = k
        · subst hik
          rw [HY.out] at hz
          cases hz
          exact e0
        · exact HNE.out i z (by omega) hz)
      have HAN : Hid (allTo t n sub ls (k + 1) = allTo t n sub ls k ++ (choicesP t n sub y.l).1) := by rw [Hid, allTo, ey, chB]
      have HWN : Hid (wrongTo t n sub ls (k + 1) = (wrongTo t n sub ls k || ((choicesP t n sub y.l).2.1 && (decide (k + 1 < ls.length) || decide (1 < y.l.length))))) := by rw [Hid, wrongTo, ey, chO]
      have HRN : Hid (restTo t n sub ls (k + 1) = (restTo t n sub ls k || (choicesP t n sub y.l).2.1)) := by rw [Hid, restTo, ey, chO]
      have hlen2 := HLEN.out (k + 1) (by omega)
      rw [HAN.out, List.length_append] at hlen2
      have hone : ∀ u ∈ ((choicesP t n sub y.l).1.map bdC).flatten, u.oneCell' = true := by
        intro u hu
        rw [List.mem_flatten] at hu
        obtain ⟨z, hz, hu⟩ := hu
        obtain ⟨x, _, rfl⟩ := List.mem_map.1 hz
        simp [bdC] at hu
        rcases hu with rfl | rfl <;> rfl
      have HSRC := Lib.hid hsrc
      have HONE := Lib.hid hone
      rw [e0]
      clear hrows hob hsrc hone e0 HNE HY HLEN ey hb1 hb2 hb3
      generalize (choicesP t n sub y.l).2.1 = no at *
      generalize (choicesP t n sub y.l).1 = nb at *
      generalize wrongTo t n sub ls k = W0 at *
      generalize restTo t n sub ls k = R0 at *
      have HBX : Hid (bdsC (allTo t n sub ls k) ++ (nb.map bdC).flatten = bdsC (allTo t n sub ls (k + 1))) := by rw [Hid, HAN.out, bdsC, bdsC, List.map_append, List.flatten_append]
      have HBL : Hid ((allTo t n sub ls (k + 1)).length = (allTo t n sub ls k).length + nb.length) := by rw [Hid, HAN.out, List.length_append]
      have HOW := Lib.hid (own_keep HOWN.out (show Kept [] wr w2 from (by repeat (first | with_reducible exact HK.out | with_reducible exact Kept.refl _ _ | with_reducible refine Kept.prev ?_ | with_reducible refine Kept.alloc' ?_ _ | with_reducible refine Kept.drew' ?_ | with_reducible refine Kept.setB ?_ _ _ _ (by omega) | with_reducible refine Kept.row' ?_ _ _ (by omega) | with_reducible refine Kept.map' ?_ _ _ (by omega)))) (by simp))
      have HK2 := Lib.hid (show Kept [] w1 w2 from (by repeat (first | with_reducible exact HK.out | with_reducible exact Kept.refl _ _ | with_reducible refine Kept.prev ?_ | with_reducible refine Kept.alloc' ?_ _ | with_reducible refine Kept.drew' ?_ | with_reducible refine Kept.setB ?_ _ _ _ (by omega) | with_reducible refine Kept.row' ?_ _ _ (by omega) | with_reducible refine Kept.map' ?_ _ _ (by omega))))
      have hz2 : w1.heap.size ≤ w2.heap.size := Kept.size (X := []) (by repeat (first | with_reducible exact HK.out | with_reducible exact Kept.refl _ _ | with_reducible refine Kept.prev ?_ | with_reducible refine Kept.alloc' ?_ _ | with_reducible refine Kept.drew' ?_ | with_reducible refine Kept.setB ?_ _ _ _ (by omega) | with_reducible refine Kept.row' ?_ _ _ (by omega) | with_reducible refine Kept.map' ?_ _ _ (by omega)))
      clear HAN
      generalize allTo t n sub ls k = L0 at *
      have hA : L0.length + nb.length ≤ maxLen := by unfold maxLen; omega
      have hB : (L0.length + nb.length) * 16 ≤ 140737488355328 := by omega
      have K4 := Lib.hid (fun (w4 : World) (hg : w2.grownBy w4 (Value.slice A7 L0.length c7).ownBlock) => HK2.out.grown hg (fun q hq => own_at HOWN.out q hq))
      clear HCY HOWN
      cases W0
      · cases no
        · cases R0
          · skip
            go_wp2_with (at_builtin; refine wpList_append_src _ rfl _ _ 51 rfl w1.heap.size 43 ib (.agg #[.int .i64 0, .int .i64 0]) 2 16 Tryz.underlying51 ib0 ib1 ib2 ib3 rfl (by decide) (.slice A7 L0.length c7) L0.length (bdsC L0) rfl HOW.out Ab nb.length cb _ rfl HSRC.out HONE.out hA hB hz2 ?_; intro v' w4 ho4 hg4 _; have HO4 := Lib.hid ho4; have HG4 := Lib.hid hg4; clear ho4 hg4)
            go_roundw
            case rel =>
              refine ⟨k + 1, by omega, by go_num, HNE2.out, ?_, ?_, ?_, K4.out _ HG4.out⟩
              · rw [HWN.out]; simp [*]
              · rw [HRN.out]; simp
              · rw [HBL.out, ← HBX.out]; exact HO4.out
            case measure => simp [intOf]; omega
          · skip
            go_wp2_with (at_builtin; refine wpList_append_src _ rfl _ _ 51 rfl w1.heap.size 43 ib (.agg #[.int .i64 0, .int .i64 0]) 2 16 Tryz.underlying51 ib0 ib1 ib2 ib3 rfl (by decide) (.slice A7 L0.length c7) L0.length (bdsC L0) rfl HOW.out Ab nb.length cb _ rfl HSRC.out HONE.out hA hB hz2 ?_; intro v' w4 ho4 hg4 _; have HO4 := Lib.hid ho4; have HG4 := Lib.hid hg4; clear ho4 hg4)
            go_roundw
            case rel =>
              refine ⟨k + 1, by omega, by go_num, HNE2.out, ?_, ?_, ?_, K4.out _ HG4.out⟩
              · rw [HWN.out]; simp [*]
              · rw [HRN.out]; simp
              · rw [HBL.out, ← HBX.out]; exact HO4.out
            case measure => simp [intOf]; omega
        · by_cases c1 : k + 1 < ls.length
          · have d1 : (k : Int) + 1 < (ls.length : Int) := by omega
            cases R0
            · skip
              go_wp2_with (at_builtin; refine wpList_append_src _ rfl _ _ 51 rfl w1.heap.size 43 ib (.agg #[.int .i64 0, .int .i64 0]) 2 16 Tryz.underlying51 ib0 ib1 ib2 ib3 rfl (by decide) (.slice A7 L0.length c7) L0.length (bdsC L0) rfl HOW.out Ab nb.length cb _ rfl HSRC.out HONE.out hA hB hz2 ?_; intro v' w4 ho4 hg4 _; have HO4 := Lib.hid ho4; have HG4 := Lib.hid hg4; clear ho4 hg4)
              go_roundw
              case rel =>
                refine ⟨k + 1, by omega, by go_num, HNE2.out, ?_, ?_, ?_, K4.out _ HG4.out⟩
                · rw [HWN.out]; simp [*]
                · rw [HRN.out]; simp
                · rw [HBL.out, ← HBX.out]; exact HO4.out
              case measure => simp [intOf]; omega
            · skip
              go_wp2_with (at_builtin; refine wpList_append_src _ rfl _ _ 51 rfl w1.heap.size 43 ib (.agg #[.int .i64 0, .int .i64 0]) 2 16 Tryz.underlying51 ib0 ib1 ib2 ib3 rfl (by decide) (.slice A7 L0.length c7) L0.length (bdsC L0) rfl HOW.out Ab nb.length cb _ rfl HSRC.out HONE.out hA hB hz2 ?_; intro v' w4 ho4 hg4 _; have HO4 := Lib.hid ho4; have HG4 := Lib.hid hg4; clear ho4 hg4)
              go_roundw
              case rel =>
                refine ⟨k + 1, by omega, by go_num, HNE2.out, ?_, ?_, ?_, K4.out _ HG4.out⟩
                · rw [HWN.out]; simp [*]
                · rw [HRN.out]; simp
                · rw [HBL.out, ← HBX.out]; exact HO4.out
              case measure => simp [intOf]; omega
          · have d1 : decide ((k : Int) + 1 < (ls.length : Int)) = false := by simp; omega
            by_cases c2 : 1 < y.l.length
            · have d2 : (1 : Int) < (y.l.length : Int) := by omega
              cases R0
              · skip
                go_wp2_with (at_builtin; refine wpList_append_src _ rfl _ _ 51 rfl w1.heap.size 43 ib (.agg #[.int .i64 0, .int .i64 0]) 2 16 Tryz.underlying51 ib0 ib1 ib2 ib3 rfl (by decide) (.slice A7 L0.length c7) L0.length (bdsC L0) rfl HOW.out Ab nb.length cb _ rfl HSRC.out HONE.out hA hB hz2 ?_; intro v' w4 ho4 hg4 _; have HO4 := Lib.hid ho4; have HG4 := Lib.hid hg4; clear ho4 hg4)
                go_roundw
                case rel =>
                  refine ⟨k + 1, by omega, by go_num, HNE2.out, ?_, ?_, ?_, K4.out _ HG4.out⟩
                  · rw [HWN.out]; simp [*]
                  · rw [HRN.out]; simp
                  · rw [HBL.out, ← HBX.out]; exact HO4.out
                case measure => simp [intOf]; omega
              · skip
                go_wp2_with (at_builtin; refine wpList_append_src _ rfl _ _ 51 rfl w1.heap.size 43 ib (.agg #[.int .i64 0, .int .i64 0]) 2 16 Tryz.underlying51 ib0 ib1 ib2 ib3 rfl (by decide) (.slice A7 L0.length c7) L0.length (bdsC L0) rfl HOW.out Ab nb.length cb _ rfl HSRC.out HONE.out hA hB hz2 ?_; intro v' w4 ho4 hg4 _; have HO4 := Lib.hid ho4; have HG4 := Lib.hid hg4; clear ho4 hg4)
                go_roundw
                case rel =>
                  refine ⟨k + 1, by omega, by go_num, HNE2.out, ?_, ?_, ?_, K4.out _ HG4.out⟩
                  · rw [HWN.out]; simp [*]
                  · rw [HRN.out]; simp
                  · rw [HBL.out, ← HBX.out]; exact HO4.out
                case measure => simp [intOf]; omega
            · have d2 : decide ((1 : Int) < (y.l.length : Int)) = false := by simp; omega
              cases R0
              · skip
                go_wp2_with (at_builtin; refine wpList_append_src _ rfl _ _ 51 rfl w1.heap.size 43 ib (.agg #[.int .i64 0, .int .i64 0]) 2 16 Tryz.underlying51 ib0 ib1 ib2 ib3 rfl (by decide) (.slice A7 L0.length c7) L0.length (bdsC L0) rfl HOW.out Ab nb.length cb _ rfl HSRC.out HONE.out hA hB hz2 ?_; intro v' w4 ho4 hg4 _; have HO4 := Lib.hid ho4; have HG4 := Lib.hid hg4; clear ho4 hg4)
                go_roundw
                case rel =>
                  refine ⟨k + 1, by omega, by go_num, HNE2.out, ?_, ?_, ?_, K4.out _ HG4.out⟩
                  · rw [HWN.out]; simp [*]
                  · rw [HRN.out]; simp
                  · rw [HBL.out, ← HBX.out]; exact HO4.out
                case measure => simp [intOf]; omega
              · skip
                go_wp2_with (at_builtin; refine wpList_append_src _ rfl _ _ 51 rfl w1.heap.size 43 ib (.agg #[.int .i64 0, .int .i64 0]) 2 16 Tryz.underlying51 ib0 ib1 ib2 ib3 rfl (by decide) (.slice A7 L0.length c7) L0.length (bdsC L0) rfl HOW.out Ab nb.length cb _ rfl HSRC.out HONE.out hA hB hz2 ?_; intro v' w4 ho4 hg4 _; have HO4 := Lib.hid ho4; have HG4 := Lib.hid hg4; clear ho4 hg4)
                go_roundw
                case rel =>
                  refine ⟨k + 1, by omega, by go_num, HNE2.out, ?_, ?_, ?_, K4.out _ HG4.out⟩
                  · rw [HWN.out]; simp [*]
                  · rw [HRN.out]; simp
                  · rw [HBL.out, ← HBX.out]; exact HO4.out
                case measure => simp [intOf]; omega
      · cases R0
        · skip
          go_wp2_with (at_builtin; refine wpList_append_src _ rfl _ _ 51 rfl w1.heap.size 43 ib (.agg #[.int .i64 0, .int .i64 0]) 2 16 Tryz.underlying51 ib0 ib1 ib2 ib3 rfl (by decide) (.slice A7 L0.length c7) L0.length (bdsC L0) rfl HOW.out Ab nb.length cb _ rfl HSRC.out HONE.out hA hB hz2 ?_; intro v' w4 ho4 hg4 _; have HO4 := Lib.hid ho4; have HG4 := Lib.hid hg4; clear ho4 hg4)
          go_roundw
          case rel =>
            refine ⟨k + 1, by omega, by go_num, HNE2.out, ?_, ?_, ?_, K4.out _ HG4.out⟩
            · rw [HWN.out]; simp [*]
            · rw [HRN.out]; simp
            · rw [HBL.out, ← HBX.out]; exact HO4.out
          case measure => simp [intOf]; omega
        · skip
          go_wp2_with (at_builtin; refine wpList_append_src _ rfl _ _ 51 rfl w1.heap.size 43 ib (.agg #[.int .i64 0, .int .i64 0]) 2 16 Tryz.underlying51 ib0 ib1 ib2 ib3 rfl (by decide) (.slice A7 L0.length c7) L0.length (bdsC L0) rfl HOW.out Ab nb.length cb _ rfl HSRC.out HONE.out hA hB hz2 ?_; intro v' w4 ho4 hg4 _; have HO4 := Lib.hid ho4; have HG4 := Lib.hid hg4; clear ho4 hg4)
          go_roundw
          case rel =>
            refine ⟨k + 1, by omega, by go_num, HNE2.out, ?_, ?_, ?_, K4.out _ HG4.out⟩
            · rw [HWN.out]; simp [*]
            · rw [HRN.out]; simp
            · rw [HBL.out, ← HBX.out]; exact HO4.out
          case measure => simp [intOf]; omega
    · obtain rfl : k = ls.length := by omega
      have HNE2 := Lib.hid (show ∀ (i : Nat) (z : ChL), ls[i]? = some z → chE t n sub z.l = 0 from fun i z hz => HNE.out i z (List.getElem?_eq_some_iff.1 hz).1 hz)
      have HFIN := Lib.hid (fun (s : List Bd) h1 h2 => (show CovIs t n sub ls (coverQ (rangeP t sub) (wrongTo t n sub ls ls.length) (restTo t n sub ls ls.length) s) from Or.inr ⟨HNE2.out, s, h1, h2, rfl⟩))
      clear HNE HNE2 HC HLEN HR hlt
      generalize hCI : CovIs t n sub ls = CI at *
      have HCI := Lib.hid hCI
      clear hCI
      generalize wrongTo t n sub ls ls.length = W0 at *
      generalize restTo t n sub ls ls.length = R0 at *
      generalize allTo t n sub ls ls.length = L0 at *
      go_wp2_with fail
      refine (HS.out wr A7 c7 _ w1.heap.size L0 HOWN.out rfl (by omega)).mono ?_
      rintro e w5 ⟨rfl, s, hperm, hsort, hrows, hkeep⟩
      haveI p_w5 : PrevWorld w5 w1 := ⟨hkeep w1 HKR.out (Nat.le_refl _)⟩
      have hsl : L0.length = s.length := hperm.length_eq.symm
      have HF := Lib.hid (HFIN.out s hperm hsort)
      have HRS := Lib.hid hrows
      have hls : s.length ≤ 1000000 := by omega
      rw [hsl]
      clear hperm hsort hrows hkeep HFIN HOWN HKR HS hlen hkz p_wr hsl
      go_upto_region 14 with fail
      have HG2 := Lib.hid (fun w' (hk : Kept [] w w') => show Calls _ _ _ w' (RetV (bd3V (rangeP t sub)) w') from HG.out w' hk)
      have HF2 : Hid (CI (covQ ((rangeP t sub).getD (0, 0)).1 ((rangeP t sub).getD (0, 0)).2 ((rangeP t sub).isSome && decide (((rangeP t sub).getD (0, 0)).1 ≤ ((rangeP t sub).getD (0, 0)).2)) W0 R0 s)) := HF.out
      clear HF HG
      unfold bd3V at HG2
      generalize ((rangeP t sub).getD (0, 0)).1 = lo at *
      generalize ((rangeP t sub).getD (0, 0)).2 = hi at *
      generalize (rangeP t sub).isSome = sc at *
      go_cut [15, 16, 17] (fun v15 v16 v17 wc => v15 = .int .i64 lo ∧ v16 = .int .i64 hi ∧ v17 = .bool sc ∧ Kept [] w5 wc)
      case first =>
        go_wp2_with fail
        refine (HG2.out _ (by repeat (first | with_reducible exact HK.out | with_reducible exact Kept.refl _ _ | with_reducible refine Kept.prev ?_ | with_reducible refine Kept.alloc' ?_ _ | with_reducible refine Kept.drew' ?_ | with_reducible refine Kept.setB ?_ _ _ _ (by omega) | with_reducible refine Kept.row' ?_ _ _ (by omega) | with_reducible refine Kept.map' ?_ _ _ (by omega)))).mono ?_; rintro e w6 ⟨rfl, hk_w6⟩; haveI p_w6 : PrevWorld w6 _ := ⟨hk_w6⟩; have hz_w6 : w.heap.size ≤ w6.heap.size := Kept.size (by repeat (first | with_reducible exact HK.out | with_reducible exact Kept.refl _ _ | with_reducible refine Kept.prev ?_ | with_reducible refine Kept.alloc' ?_ _ | with_reducible refine Kept.drew' ?_ | with_reducible refine Kept.setB ?_ _ _ _ (by omega) | with_reducible refine Kept.row' ?_ _ _ (by omega) | with_reducible refine Kept.map' ?_ _ _ (by omega))); clear hk_w6
        go_wp2_with fail
        go_meet
        exact ⟨rfl, rfl, rfl, (by repeat (first | with_reducible exact HK.out | with_reducible exact Kept.refl _ _ | with_reducible refine Kept.prev ?_ | with_reducible refine Kept.alloc' ?_ _ | with_reducible refine Kept.drew' ?_ | with_reducible refine Kept.setB ?_ _ _ _ (by omega) | with_reducible refine Kept.row' ?_ _ _ (by omega) | with_reducible refine Kept.map' ?_ _ _ (by omega)))⟩
      case rest =>
      obtain ⟨rfl, rfl, rfl, hk6⟩ := hcut
      obtain ⟨w6, rfl⟩ : ∃ w6 : World, w6 = wc := ⟨_, rfl⟩
      have HRS6 := Lib.hid (HRS.out.kept hk6)
      haveI p_w6 : PrevWorld w6 w5 := ⟨hk6⟩
      clear HRS hk6 HG2
      go_upto_region 15 with fail
      go_cut [18] (fun v18 wc => v18 = .bool (sc && decide (lo ≤ hi)) ∧ wc = w6)
      case first =>
        cases sc
        · go_wp2_with fail
          go_meet
          exact ⟨rfl, rfl⟩
        · go_wp2_with fail
          go_meet
          exact ⟨rfl, rfl⟩
      case rest =>
      obtain ⟨rfl, rfl⟩ := hcut
      generalize (sc && decide (lo ≤ hi)) = F at *
      go_upto_region 16 with fail
      go_cut [19] (fun v19 wx => v19 = .bool (F && decide (s.length = 0)) ∧ wx = wc)
      case first =>
        cases F
        · go_wp2_with fail
          go_meet
          exact ⟨rfl, rfl⟩
        · by_cases c1 : s.length = 0
          · go_wp2_with fail
            go_meet
            exact ⟨by simp [c1], rfl⟩
          · have d1 : ((s.length : Int) == 0) = false := by
              rw [beq_eq_false_iff_ne]
              omega
            go_wp2_with fail
            go_meet
            exact ⟨by simp [c1], rfl⟩
      case rest =>
      obtain ⟨rfl, rfl⟩ := hcut
      obtain ⟨w8, rfl⟩ : ∃ w8 : World, w8 = wc := ⟨_, rfl⟩
      have HF3 : Hid (CI (if ((W0 || ovTo s s.length) || (F && (((F && decide (s.length = 0)) || gpTo lo s s.length) || (decide (0 < s.length) && decide ((s.getD (s.length - 1) (0, 0)).2 < hi))) && !R0)) = true then 72 else 0)) := HF2.out
      clear HF2
      generalize (F && decide (s.length = 0)) = G0 at *
      go_wp2_with fail
      go_loopw [8, 19, 87] (fun v8 v19 i wr => CvL2 lo s W0 G0 w8 v8 v19 i wr) (fun _ _ i _ => s.length - (intOf i).toNat)
      case atStart => exact ⟨0, Nat.zero_le _, rfl, by simp [ovTo], by simp [gpTo], Kept.refl _ _⟩
      case round =>
        obtain ⟨j, hj, rfl, rfl, rfl, hkr⟩ := hrel
        obtain ⟨w9, rfl⟩ : ∃ w9 : World, w9 = wr := ⟨_, rfl⟩
        haveI p_w9 : PrevWorld w9 w8 := ⟨hkr⟩
        have HK9 := Lib.hid hkr
        by_cases hlt : j < s.length
        · obtain ⟨x, hx⟩ : ∃ x, s[j]? = some x := ⟨_, List.getElem?_eq_getElem hlt⟩
          obtain ⟨g, o, rfl, hr⟩ := HRS6.out.some_ hx
          obtain ⟨x0, x1⟩ := bd_cells (hr j x hx)
          replace x0 := hkr.cell x0 (by simp)
          replace x1 := hkr.cell x1 (by simp)
          have ex : s.getD j (0, 0) = x := by simp [List.getD_eq_getElem?_getD, hx]
          cases j with
          | zero =>
            have HN1 : Hid ((W0 || ovTo s 0) = W0 ∧ (W0 || ovTo s (0 + 1)) = W0) := ⟨by simp [ovTo], by simp [ovTo]⟩
            have HN2 : Hid ((G0 || gpTo lo s 0) = G0 ∧ (G0 || gpTo lo s (0 + 1)) = (G0 || decide (lo < x.1))) := ⟨by simp [gpTo], by simp only [gpTo, ex]⟩
            rw [HN1.out.1, HN2.out.1]
            rw [Nat.zero_mul, Nat.add_zero] at x0 x1
            clear hx hr ex hkr
            cases W0
            · cases G0
              · by_cases c1 : lo < x.1
                · skip
                  go_wp2_with fail
                  go_quiet (fail)
                  go_wp2_with fail
                  go_quiet (fail)
                  go_wp2_with fail
                  go_roundw
                  case rel => exact ⟨_, hlt, by go_num, by rw [HN1.out.2]; try simp [*], by rw [HN2.out.2]; try simp [*], (HK9.out.trans (Kept.alloc _ _ _)).trans (Kept.drewN _ _ _)⟩
                  case measure => simp [intOf]; omega
                · have d1 : decide (lo < x.1) = false := by simp [c1]
                  go_wp2_with fail
                  go_quiet (fail)
                  go_wp2_with fail
                  go_quiet (fail)
                  go_wp2_with fail
                  go_roundw
                  case rel => exact ⟨_, hlt, by go_num, by rw [HN1.out.2]; try simp [*], by rw [HN2.out.2]; try simp [*], (HK9.out.trans (Kept.alloc _ _ _)).trans (Kept.drewN _ _ _)⟩
                  case measure => simp [intOf]; omega
              · skip
                go_wp2_with fail
                go_quiet (fail)
                go_wp2_with fail
                go_quiet (fail)
                go_wp2_with fail
                go_roundw
                case rel => exact ⟨_, hlt, by go_num, by rw [HN1.out.2]; try simp [*], by rw [HN2.out.2]; try simp [*], (HK9.out.trans (Kept.alloc _ _ _)).trans (Kept.drewN _ _ _)⟩
                case measure => simp [intOf]; omega
            · cases G0
              · by_cases c1 : lo < x.1
                · skip
                  go_wp2_with fail
                  go_quiet (fail)
                  go_wp2_with fail
                  go_quiet (fail)
                  go_wp2_with fail
                  go_roundw
                  case rel => exact ⟨_, hlt, by go_num, by rw [HN1.out.2]; try simp [*], by rw [HN2.out.2]; try simp [*], (HK9.out.trans (Kept.alloc _ _ _)).trans (Kept.drewN _ _ _)⟩
                  case measure => simp [intOf]; omega
                · have d1 : decide (lo < x.1) = false := by simp [c1]
                  go_wp2_with fail
                  go_quiet (fail)
                  go_wp2_with fail
                  go_quiet (fail)
                  go_wp2_with fail
                  go_roundw
                  case rel => exact ⟨_, hlt, by go_num, by rw [HN1.out.2]; try simp [*], by rw [HN2.out.2]; try simp [*], (HK9.out.trans (Kept.alloc _ _ _)).trans (Kept.drewN _ _ _)⟩
                  case measure => simp [intOf]; omega
              · skip
                go_wp2_with fail
                go_quiet (fail)
                go_wp2_with fail
                go_quiet (fail)
                go_wp2_with fail
                go_roundw
                case rel => exact ⟨_, hlt, by go_num, by rw [HN1.out.2]; try simp [*], by rw [HN2.out.2]; try simp [*], (HK9.out.trans (Kept.alloc _ _ _)).trans (Kept.drewN _ _ _)⟩
                case measure => simp [intOf]; omega
          | succ m =>
            obtain ⟨y, hy⟩ : ∃ y, s[m]? = some y := ⟨_, List.getElem?_eq_getElem (by omega)⟩
            obtain ⟨y0, y1⟩ := bd_cells (hr m y hy)
            replace y1 := hkr.cell y1 (by simp)
            have ey : s.getD m (0, 0) = y := by simp [List.getD_eq_getElem?_getD, hy]
            have HN1 : Hid ((W0 || ovTo s (m + 1 + 1)) = ((W0 || ovTo s (m + 1)) || decide (x.1 ≤ y.2))) := by
              rw [Hid, ovTo, ex, ey, Bool.or_assoc]
            have HN2 : Hid ((G0 || gpTo lo s (m + 1 + 1)) = ((G0 || gpTo lo s (m + 1)) || decide (wrap64 (y.2 + 1) < x.1))) := by
              rw [Hid, gpTo, ex, ey, Bool.or_assoc]
            clear hx hr ex hkr hy ey y0
            generalize (W0 || ovTo s (m + 1)) = W1 at *
            generalize (G0 || gpTo lo s (m + 1)) = G1 at *
            have m1 : (0 : Int) < ((m + 1 : Nat) : Int) := by omega
            have m2 : ((m + 1 : Nat) : Int) - 1 = (m : Int) := by omega
            have m3 : (((m + 1 : Nat) : Int) == 0) = false := by
              rw [beq_eq_false_iff_ne]
              omega
            have m4 : (m : Int) < (s.length : Int) := by omega
            have m5 : (0 : Int) ≤ (m : Int) := by omega
            have m6 : m < s.length := by omega
            have y2 : (w9.alloc (.cells #[.int .i64 x.1, .int .i64 x.2] 43)).cell? ⟨g, o + m * 2 + 1, none⟩ = some (.int .i64 y.2) := (Kept.alloc [] _ _).cell y1 (by simp)
            cases W1
            · cases G1
              · skip
                go_wp2_with fail
                generalize hkI : ((m + 1 : Nat) : Int) = kI at *
                have HKI := Lib.hid hkI
                clear hkI
                go_quiet (fail)
                go_wp2_with fail
                go_quiet (fail)
                go_wp2_with fail
                go_roundw
                case rel => exact ⟨m + 1 + 1, hlt, congrArg (Value.int .i64) (by rw [← HKI.out]; rfl), by rw [HN1.out]; try simp [*], by rw [HN2.out]; try simp [*], (HK9.out.trans (Kept.alloc _ _ _)).trans (Kept.drewN _ _ _)⟩
                case measure => simp [intOf]; omega
              · skip
                go_wp2_with fail
                generalize hkI : ((m + 1 : Nat) : Int) = kI at *
                have HKI := Lib.hid hkI
                clear hkI
                go_quiet (fail)
                go_wp2_with fail
                go_quiet (fail)
                go_wp2_with fail
                go_roundw
                case rel => exact ⟨m + 1 + 1, hlt, congrArg (Value.int .i64) (by rw [← HKI.out]; rfl), by rw [HN1.out]; try simp [*], by rw [HN2.out]; try simp [*], (HK9.out.trans (Kept.alloc _ _ _)).trans (Kept.drewN _ _ _)⟩
                case measure => simp [intOf]; omega
            · cases G1
              · skip
                go_wp2_with fail
                generalize hkI : ((m + 1 : Nat) : Int) = kI at *
                have HKI := Lib.hid hkI
                clear hkI
                go_quiet (fail)
                go_wp2_with fail
                go_quiet (fail)
                go_wp2_with fail
                go_roundw
                case rel => exact ⟨m + 1 + 1, hlt, congrArg (Value.int .i64) (by rw [← HKI.out]; rfl), by rw [HN1.out]; try simp [*], by rw [HN2.out]; try simp [*], (HK9.out.trans (Kept.alloc _ _ _)).trans (Kept.drewN _ _ _)⟩
                case measure => simp [intOf]; omega
              · skip
                go_wp2_with fail
                generalize hkI : ((m + 1 : Nat) : Int) = kI at *
                have HKI := Lib.hid hkI
                clear hkI
                go_quiet (fail)
                go_wp2_with fail
                go_quiet (fail)
                go_wp2_with fail
                go_roundw
                case rel => exact ⟨m + 1 + 1, hlt, congrArg (Value.int .i64) (by rw [← HKI.out]; rfl), by rw [HN1.out]; try simp [*], by rw [HN2.out]; try simp [*], (HK9.out.trans (Kept.alloc _ _ _)).trans (Kept.drewN _ _ _)⟩
                case measure => simp [intOf]; omega
        · obtain rfl : j = s.length := by omega
          generalize (W0 || ovTo s s.length) = W at *
          generalize (G0 || gpTo lo s s.length) = G at *
          by_cases c0 : s.length = 0
          · have HF4 : Hid (CI (if (W || (F && G && !R0)) = true then 72 else 0)) := by
              have := HF3.out
              rw [Hid]
              simpa [c0] using this
            obtain rfl : s = [] := List.eq_nil_of_length_eq_zero c0
            clear HF3 c0
            cases W
            · cases F
              · go_wp2_with fail
                refine bodyPost_ret (res1 Tryz.results16 (resT rfl)) rfl ?_
                exact ⟨_, rfl, by have h := HF4.out; rw [← HCI.out] at h; simpa using h, (by repeat (first | with_reducible exact HK.out | with_reducible exact Kept.refl _ _ | with_reducible refine Kept.prev ?_ | with_reducible refine Kept.alloc' ?_ _ | with_reducible refine Kept.drew' ?_ | with_reducible refine Kept.setB ?_ _ _ _ (by omega) | with_reducible refine Kept.row' ?_ _ _ (by omega) | with_reducible refine Kept.map' ?_ _ _ (by omega)))⟩
              · cases G
                · cases R0
                  · go_wp2_with fail
                    refine bodyPost_ret (res1 Tryz.results16 (resT rfl)) rfl ?_
                    exact ⟨_, rfl, by have h := HF4.out; rw [← HCI.out] at h; simpa using h, (by repeat (first | with_reducible exact HK.out | with_reducible exact Kept.refl _ _ | with_reducible refine Kept.prev ?_ | with_reducible refine Kept.alloc' ?_ _ | with_reducible refine Kept.drew' ?_ | with_reducible refine Kept.setB ?_ _ _ _ (by omega) | with_reducible refine Kept.row' ?_ _ _ (by omega) | with_reducible refine Kept.map' ?_ _ _ (by omega)))⟩
                  · go_wp2_with fail
                    refine bodyPost_ret (res1 Tryz.results16 (resT rfl)) rfl ?_
                    exact ⟨_, rfl, by have h := HF4.out; rw [← HCI.out] at h; simpa using h, (by repeat (first | with_reducible exact HK.out | with_reducible exact Kept.refl _ _ | with_reducible refine Kept.prev ?_ | with_reducible refine Kept.alloc' ?_ _ | with_reducible refine Kept.drew' ?_ | with_reducible refine Kept.setB ?_ _ _ _ (by omega) | with_reducible refine Kept.row' ?_ _ _ (by omega) | with_reducible refine Kept.map' ?_ _ _ (by omega)))⟩
                · cases R0
                  · go_wp2_with fail
                    refine bodyPost_ret (res1 Tryz.results16 (resT rfl)) rfl ?_
                    exact ⟨_, rfl, by have h := HF4.out; rw [← HCI.out] at h; simpa using h, (by repeat (first | with_reducible exact HK.out | with_reducible exact Kept.refl _ _ | with_reducible refine Kept.prev ?_ | with_reducible refine Kept.alloc' ?_ _ | with_reducible refine Kept.drew' ?_ | with_reducible refine Kept.setB ?_ _ _ _ (by omega) | with_reducible refine Kept.row' ?_ _ _ (by omega) | with_reducible refine Kept.map' ?_ _ _ (by omega)))⟩
                  · go_wp2_with fail
                    refine bodyPost_ret (res1 Tryz.results16 (resT rfl)) rfl ?_
                    exact ⟨_, rfl, by have h := HF4.out; rw [← HCI.out] at h; simpa using h, (by repeat (first | with_reducible exact HK.out | with_reducible exact Kept.refl _ _ | with_reducible refine Kept.prev ?_ | with_reducible refine Kept.alloc' ?_ _ | with_reducible refine Kept.drew' ?_ | with_reducible refine Kept.setB ?_ _ _ _ (by omega) | with_reducible refine Kept.row' ?_ _ _ (by omega) | with_reducible refine Kept.map' ?_ _ _ (by omega)))⟩
            · go_wp2_with fail
              refine bodyPost_ret (res1 Tryz.results16 (resT rfl)) rfl ?_
              exact ⟨_, rfl, by have h := HF4.out; rw [← HCI.out] at h; simpa using h, (by repeat (first | with_reducible exact HK.out | with_reducible exact Kept.refl _ _ | with_reducible refine Kept.prev ?_ | with_reducible refine Kept.alloc' ?_ _ | with_reducible refine Kept.drew' ?_ | with_reducible refine Kept.setB ?_ _ _ _ (by omega) | with_reducible refine Kept.row' ?_ _ _ (by omega) | with_reducible refine Kept.map' ?_ _ _ (by omega)))⟩
          · obtain ⟨q, hq⟩ : ∃ q, s.length = q + 1 := ⟨s.length - 1, by omega⟩
            obtain ⟨y, hy⟩ : ∃ y, s[q]? = some y := ⟨_, List.getElem?_eq_getElem (by omega)⟩
            obtain ⟨g, o, rfl, hr⟩ := HRS6.out.some_ hy
            obtain ⟨y0, y1⟩ := bd_cells (hr q y hy)
            replace y1 := hkr.cell y1 (by simp)
            have ey : s.getD (s.length - 1) (0, 0) = y := by rw [hq]; simp [List.getD_eq_getElem?_getD, hy]
            have HF4 : Hid (CI (if (W || (F && (G || decide (y.2 < hi)) && !R0)) = true then 72 else 0)) := by
              have := HF3.out
              rw [ey] at this
              rw [Hid]
              simpa [hq] using this
            have d0 : (0 : Int) < (s.length : Int) := by omega
            have d1 : (s.length : Int) - 1 = (q : Int) := by omega
            have d2 : (q : Int) < (s.length : Int) := by omega
            have d3 : (0 : Int) ≤ (q : Int) := by omega
            have d4 : q < s.length := by omega
            have d5 : 0 < s.length := by omega
            clear HF3 c0 hr hy ey y0 hq
            by_cases c1 : y.2 < hi
            · have HF5 : Hid (CI (if (W || (F && !R0)) = true then 72 else 0)) := by
                have := HF4.out
                rw [Hid]
                simpa [c1] using this
              clear HF4
              cases W
              · cases F
                · go_wp2_with fail
                  refine bodyPost_ret (res1 Tryz.results16 (resT rfl)) rfl ?_
                  exact ⟨_, rfl, by have h := HF5.out; rw [← HCI.out] at h; simpa using h, (by repeat (first | with_reducible exact HK.out | with_reducible exact Kept.refl _ _ | with_reducible refine Kept.prev ?_ | with_reducible refine Kept.alloc' ?_ _ | with_reducible refine Kept.drew' ?_ | with_reducible refine Kept.setB ?_ _ _ _ (by omega) | with_reducible refine Kept.row' ?_ _ _ (by omega) | with_reducible refine Kept.map' ?_ _ _ (by omega)))⟩
                · cases G
                  · cases R0
                    · go_wp2_with fail
                      refine bodyPost_ret (res1 Tryz.results16 (resT rfl)) rfl ?_
                      exact ⟨_, rfl, by have h := HF5.out; rw [← HCI.out] at h; simpa using h, (by repeat (first | with_reducible exact HK.out | with_reducible exact Kept.refl _ _ | with_reducible refine Kept.prev ?_ | with_reducible refine Kept.alloc' ?_ _ | with_reducible refine Kept.drew' ?_ | with_reducible refine Kept.setB ?_ _ _ _ (by omega) | with_reducible refine Kept.row' ?_ _ _ (by omega) | with_reducible refine Kept.map' ?_ _ _ (by omega)))⟩
                    · go_wp2_with fail
                      refine bodyPost_ret (res1 Tryz.results16 (resT rfl)) rfl ?_
                      exact ⟨_, rfl, by have h := HF5.out; rw [← HCI.out] at h; simpa using h, (by repeat (first | with_reducible exact HK.out | with_reducible exact Kept.refl _ _ | with_reducible refine Kept.prev ?_ | with_reducible refine Kept.alloc' ?_ _ | with_reducible refine Kept.drew' ?_ | with_reducible refine Kept.setB ?_ _ _ _ (by omega) | with_reducible refine Kept.row' ?_ _ _ (by omega) | with_reducible refine Kept.map' ?_ _ _ (by omega)))⟩
                  · cases R0
                    · go_wp2_with fail
                      refine bodyPost_ret (res1 Tryz.results16 (resT rfl)) rfl ?_
                      exact ⟨_, rfl, by have h := HF5.out; rw [← HCI.out] at h; simpa using h, (by repeat (first | with_reducible exact HK.out | with_reducible exact Kept.refl _ _ | with_reducible refine Kept.prev ?_ | with_reducible refine Kept.alloc' ?_ _ | with_reducible refine Kept.drew' ?_ | with_reducible refine Kept.setB ?_ _ _ _ (by omega) | with_reducible refine Kept.row' ?_ _ _ (by omega) | with_reducible refine Kept.map' ?_ _ _ (by omega)))⟩
                    · go_wp2_with fail
                      refine bodyPost_ret (res1 Tryz.results16 (resT rfl)) rfl ?_
                      exact ⟨_, rfl, by have h := HF5.out; rw [← HCI.out] at h; simpa using h, (by repeat (first | with_reducible exact HK.out | with_reducible exact Kept.refl _ _ | with_reducible refine Kept.prev ?_ | with_reducible refine Kept.alloc' ?_ _ | with_reducible refine Kept.drew' ?_ | with_reducible refine Kept.setB ?_ _ _ _ (by omega) | with_reducible refine Kept.row' ?_ _ _ (by omega) | with_reducible refine Kept.map' ?_ _ _ (by omega)))⟩
              · go_wp2_with fail
                refine bodyPost_ret (res1 Tryz.results16 (resT rfl)) rfl ?_
                exact ⟨_, rfl, by have h := HF5.out; rw [← HCI.out] at h; simpa using h, (by repeat (first | with_reducible exact HK.out | with_reducible exact Kept.refl _ _ | with_reducible refine Kept.prev ?_ | with_reducible refine Kept.alloc' ?_ _ | with_reducible refine Kept.drew' ?_ | with_reducible refine Kept.setB ?_ _ _ _ (by omega) | with_reducible refine Kept.row' ?_ _ _ (by omega) | with_reducible refine Kept.map' ?_ _ _ (by omega)))⟩
            · have HF5 : Hid (CI (if (W || (F && G && !R0)) = true then 72 else 0)) := by
                have := HF4.out
                rw [Hid]
                simpa [c1] using this
              have c2 : decide (y.2 < hi) = false := by simp [c1]
              clear HF4 c1
              cases W
              · cases F
                · go_wp2_with fail
                  refine bodyPost_ret (res1 Tryz.results16 (resT rfl)) rfl ?_
                  exact ⟨_, rfl, by have h := HF5.out; rw [← HCI.out] at h; simpa using h, (by repeat (first | with_reducible exact HK.out | with_reducible exact Kept.refl _ _ | with_reducible refine Kept.prev ?_ | with_reducible refine Kept.alloc' ?_ _ | with_reducible refine Kept.drew' ?_ | with_reducible refine Kept.setB ?_ _ _ _ (by omega) | with_reducible refine Kept.row' ?_ _ _ (by omega) | with_reducible refine Kept.map' ?_ _ _ (by omega)))⟩
                · cases G
                  · cases R0
                    · go_wp2_with fail
                      refine bodyPost_ret (res1 Tryz.results16 (resT rfl)) rfl ?_
                      exact ⟨_, rfl, by have h := HF5.out; rw [← HCI.out] at h; simpa using h, (by repeat (first | with_reducible exact HK.out | with_reducible exact Kept.refl _ _ | with_reducible refine Kept.prev ?_ | with_reducible refine Kept.alloc' ?_ _ | with_reducible refine Kept.drew' ?_ | with_reducible refine Kept.setB ?_ _ _ _ (by omega) | with_reducible refine Kept.row' ?_ _ _ (by omega) | with_reducible refine Kept.map' ?_ _ _ (by omega)))⟩
                    · go_wp2_with fail
                      refine bodyPost_ret (res1 Tryz.results16 (resT rfl)) rfl ?_
                      exact ⟨_, rfl, by have h := HF5.out; rw [← HCI.out] at h; simpa using h, (by repeat (first | with_reducible exact HK.out | with_reducible exact Kept.refl _ _ | with_reducible refine Kept.prev ?_ | with_reducible refine Kept.alloc' ?_ _ | with_reducible refine Kept.drew' ?_ | with_reducible refine Kept.setB ?_ _ _ _ (by omega) | with_reducible refine Kept.row' ?_ _ _ (by omega) | with_reducible refine Kept.map' ?_ _ _ (by omega)))⟩
                  · cases R0
                    · go_wp2_with fail
                      refine bodyPost_ret (res1 Tryz.results16 (resT rfl)) rfl ?_
                      exact ⟨_, rfl, by have h := HF5.out; rw [← HCI.out] at h; simpa using h, (by repeat (first | with_reducible exact HK.out | with_reducible exact Kept.refl _ _ | with_reducible refine Kept.prev ?_ | with_reducible refine Kept.alloc' ?_ _ | with_reducible refine Kept.drew' ?_ | with_reducible refine Kept.setB ?_ _ _ _ (by omega) | with_reducible refine Kept.row' ?_ _ _ (by omega) | with_reducible refine Kept.map' ?_ _ _ (by omega)))⟩
                    · go_wp2_with fail
                      refine bodyPost_ret (res1 Tryz.results16 (resT rfl)) rfl ?_
                      exact ⟨_, rfl, by have h := HF5.out; rw [← HCI.out] at h; simpa using h, (by repeat (first | with_reducible exact HK.out | with_reducible exact Kept.refl _ _ | with_reducible refine Kept.prev ?_ | with_reducible refine Kept.alloc' ?_ _ | with_reducible refine Kept.drew' ?_ | with_reducible refine Kept.setB ?_ _ _ _ (by omega) | with_reducible refine Kept.row' ?_ _ _ (by omega) | with_reducible refine Kept.map' ?_ _ _ (by omega)))⟩
              · go_wp2_with fail
                refine bodyPost_ret (res1 Tryz.results16 (resT rfl)) rfl ?_
                exact ⟨_, rfl, by have h := HF5.out; rw [← HCI.out] at h; simpa using h, (by repeat (first | with_reducible exact HK.out | with_reducible exact Kept.refl _ _ | with_reducible refine Kept.prev ?_ | with_reducible refine Kept.alloc' ?_ _ | with_reducible refine Kept.drew' ?_ | with_reducible refine Kept.setB ?_ _ _ _ (by omega) | with_reducible refine Kept.row' ?_ _ _ (by omega) | with_reducible refine Kept.map' ?_ _ _ (by omega)))⟩
end Go.Proofs.YtgdjhhfbpalkdaaGreat
