/- The reference's next: deferred constants, their use. The reference's next: the use of a constant. The reference's next: the completion of a constant. -/
import Derived.Test.YtbjnoffdafpkgaaR7
import Derived.Deep.RegionHeld3
namespace Go.Proofs.Ytbjnoffdafpkgaa
open Go.RowKit

theorem find_split (l : List (Int × Int × Bool)) (n : Int) : (l.findIdx? (fun c => c.1 == n) = none ∧ findI l n = -1) ∨ ∃ (i : Nat) (c : Int × Int × Bool), l.findIdx? (fun c => c.1 == n) = some i ∧ findI l n = i ∧ l[i]? = some c := by
  cases h : l.findIdx? (fun c => c.1 == n) with
  | none => exact .inl ⟨rfl, by simp [findI, h]⟩
  | some i =>
    have h' := h
    rw [List.findIdx?_eq_some_iff_getElem] at h'
    exact .inr ⟨i, _, rfl, by simp [findI, h], List.getElem?_eq_getElem h'.1⟩

theorem src_new3 (w : World) (a b : Int) (c : Bool) : SrcAt (w.alloc (.cells #[.int .i64 a, .int .i64 b, .bool c] 87)) 3 (some ⟨w.heap.size, 0, none⟩) 1 (conCells (a, b, c)) := by
  refine ⟨rfl, fun _ => ⟨_, rfl, fun j u hu => ?_⟩⟩
  rw [Addr.add_mid, Nat.zero_add, cell_of_row _ _ _ _ _ _ (heap_alloc_new _ _)]
  simpa [conCells] using hu
theorem con_one (x : Int × Int × Bool) : ∀ u, u ∈ conCells x → u.oneCell' = true := by
  intro u hu
  simp only [conCells, List.mem_cons, List.not_mem_nil, or_false] at hu
  rcases hu with rfl | rfl | rfl <;> rfl
theorem con_end {w5 w6 : World} {B : Nat} {v6 : Value} {l : List (Int × Int × Bool)} {x : Int × Int × Bool} (h : w6.ownsRow B 87 3 v6 (0 + l.length + 1) ([] ++ conAll l ++ conCells x)) : ∃ A c f, f = l ++ [x] ∧ v6 = .slice A f.length c ∧ ConC w6 A c f := by
  have h' : w6.ownsRow B 87 3 v6 (l ++ [x]).length (conAll (l ++ [x])) := by
    rw [conAll_app, List.length_append]
    have : conAll [x] = conCells x := by simp [conAll]
    rw [this]
    simpa using h
  obtain ⟨A, c, rfl⟩ := own_shape h'
  exact ⟨A, c, _, rfl, rfl, ConC.of_owns h'⟩

set_option maxRecDepth 100000 in
set_option maxHeartbeats 4000000 in
theorem next5 (w : World) (s : StV) (r : RS) (v : TabV) (t : Tab) (ty num : Int) (hA : NAsk w s r v t) (hx : existsF t.types.length ⟨5, ty, num⟩ = true) :
    Calls Try.prog 22 #[.agg (s.cells r), .agg (v.cells t), EvV.val ⟨5, ty, num⟩] w (RetS (nextR t r ⟨5, ty, num⟩) w) := by
  have HA := Lib.hid hA
  have HX := Lib.hid hx
  have hdl := hA.dl
  have hml := hA.ml
  have hkl := hA.kl
  have hN := hA.n
  clear hA hx
  have HSC : Hid (s.cells r = #[.slice s.dA r.dec.length s.dC, .slice s.mA r.com.length s.mC, .slice s.fA r.frz.length s.fC, .slice s.kA r.con.length s.kC]) := rfl
  rw [HSC.out]
  unfold TabV.cells EvV.val
  go_enter Try.func22, Try.ntmps22
  go_upto_region 1 with (fail)
  refine wp_gen ?_
  intro w3 hw3
  have HENV : Hid (NEnv w s r v t ⟨5, ty, num⟩ w.heap.size w3) := by
    have hk3 : Kept [] w w3 := by rw [hw3]; exact (((Kept.alloc _ _ _).trans (Kept.alloc _ _ _)).trans (Kept.alloc _ _ _)).trans (Kept.alloc _ _ _)
    have he : w3.heap[w.heap.size + 1 + 1]? = some (.cells #[.int .u8 5, .int .i64 ty, .int .i64 num] 45 (0, 0)) := by rw [hw3]; exact obj_old (obj_new (by simp)) (by simp <;> omega)
    refine ⟨?_, TBox.of_block ?_ (HA.out.tab.kept (hk3.toBelow (Nat.le_refl _) (by simp))), ?_, ?_, ?_, ?_, HA.out.st.kept hk3, hk3, Nat.le_refl _, HA.out.tab⟩
    · rw [SRow, hw3]; exact obj_old (obj_old (obj_old (heap_alloc_new _ _) (by simp <;> omega)) (by simp <;> omega)) (by simp <;> omega)
    · rw [hw3]; exact obj_old (obj_old (obj_new (by simp)) (by simp <;> omega)) (by simp <;> omega)
    · rw [cell_of_row _ _ _ _ _ _ he]; rfl
    · rw [cell_of_row _ _ _ _ _ _ he]; rfl
    · rw [cell_of_row _ _ _ _ _ _ he]; rfl
    · rw [ZRow, SRow, hw3]; exact obj_new (by simp)
  clear hw3
  have g0 := HENV.out.row.c0
  have g1 := HENV.out.row.c1
  have g2 := HENV.out.row.c2
  have g3 := HENV.out.row.c3
  have k2 := HENV.out.k2
  go_wp2_with fail
  refine (find_any w3 s r num HENV.out.st).mono ?_
  rintro e w4 ⟨rfl, hk4⟩
  have HE4 := Lib.hid (HENV.out.keep hk4)
  clear g0 g1 g2 g3 k2 hk4 HENV
  have g0 := HE4.out.row.c0
  have g1 := HE4.out.row.c1
  have g2 := HE4.out.row.c2
  have g3 := HE4.out.row.c3
  have k0 := HE4.out.k0
  have k1 := HE4.out.k1
  have k2 := HE4.out.k2
  obtain ⟨⟨e0, e1, e2, e3⟩, z0, z1, z2, z3⟩ := HE4.out.res.z
  rcases find_split r.con num with ⟨hfi, hfv⟩ | ⟨i, c, hfi, hfv, hci⟩
  · have HRES : Hid (nextR t r ⟨5, ty, num⟩ = (⟨r.dec, r.com, r.frz, r.con ++ [(num, ty, false)]⟩, true)) := by
      rw [Hid]; unfold nextR RS.find; dsimp only; rw [hfi]; rfl
    rw [hfv]
    clear hfi hfv
    obtain ⟨i0, hi, hz0, hz1, hz2⟩ := info_parts con_info
    have hA : 0 + r.con.length ≤ maxLen := by unfold maxLen; omega
    have hB : (0 + r.con.length) * 24 ≤ 140737488355328 := by omega
    have hA2 : 0 + r.con.length + 1 ≤ maxLen := by unfold maxLen; omega
    have hB2 : (0 + r.con.length + 1) * 24 ≤ 140737488355328 := by omega
    go_upto_region 21 with (at_builtin; refine wpList_append_src _ rfl (.tmp 86) (.tmp 88) 59 rfl w4.heap.size 87 i0 (.agg #[.int .i64 0, .int .i64 0, .bool false]) 3 24 Try.underlying59 hi hz0 hz1 hz2 rfl (by decide) _ _ _ rfl (World.ownsRow_nil _ _ _ _) _ _ _ (conAll r.con) rfl HE4.out.st.con.src (conAll_one _) hA hB (Nat.le_refl _) ?_; intro v5 w5 hown5 hg5 hat5; have HO5 := Lib.hid hown5; have HK5 := Lib.hid (Kept.of_grown (X := []) hg5 (by intro k hk; cases hk)); have HB5 := Lib.hid ((Below.refl w4.heap.size w4).grown hg5 (Nat.le_refl _) (by intro k hk; cases hk)); clear hown5 hg5 hat5)
    have HE5 := Lib.hid (HE4.out.keep HK5.out)
    clear g0 g1 g2 g3 k0 k1 k2 e0 e1 e2 e3 z0 z1 z2 z3
    have g0 := HE5.out.row.c0
    have g1 := HE5.out.row.c1
    have g2 := HE5.out.row.c2
    have g3 := HE5.out.row.c3
    have k0 := HE5.out.k0
    have k1 := HE5.out.k1
    have k2 := HE5.out.k2
    obtain ⟨⟨e0, e1, e2, e3⟩, z0, z1, z2, z3⟩ := HE5.out.res.z
    have hC2 : w4.heap.size ≤ (w5.alloc (.cells #[.int .i64 num, .int .i64 ty, .bool false] 87)).heap.size := by have := HB5.out.size; simp; omega
    have hz3 := HE5.out.row.frozen 3
    go_upto_region 38 with (at_builtin; refine wpList_append_src _ rfl (.tmp 90) (.tmp 96) 59 rfl w4.heap.size 87 i0 (.agg #[.int .i64 0, .int .i64 0, .bool false]) 3 24 Try.underlying59 hi hz0 hz1 hz2 rfl (by decide) _ _ _ rfl (HO5.out.alloc _) _ 1 _ (conCells (num, ty, false)) rfl (src_new3 w5 num ty false) (con_one _) hA2 hB2 hC2 ?_; intro v6 w6 hown6 hg6 hat6; have HK6 : Hid (Kept [] w4 w6) := Kept.of_below (((HB5.out.alloc HB5.out.size _).grown hg6 hC2 (own_at HO5.out))); obtain ⟨A6, c6, f6, hf6, rfl, hc6⟩ := con_end (w5 := w5) hown6; have HF6 := Lib.hid hf6; clear hf6; have HC6 := Lib.hid hc6; have t3 := (HE4.out.keep HK6.out).row.c3; have t4 := (HE4.out.keep HK6.out).row.frozen 3; clear hown6 hg6 hat6 hc6)
    have HE7 := Lib.hid ((HE4.out.keep HK6.out).setK HC6.out)
    refine wp_gen ?_
    intro w7 hw7
    rw [← hw7] at HE7
    clear hw7 t3 t4 hz3
    clear g0 g1 g2 g3 k0 k1 k2 e0 e1 e2 e3 z0 z1 z2 z3
    have g0 := HE7.out.row.c0
    have g1 := HE7.out.row.c1
    have g2 := HE7.out.row.c2
    have g3 := HE7.out.row.c3
    have k0 := HE7.out.k0
    have k1 := HE7.out.k1
    have k2 := HE7.out.k2
    obtain ⟨⟨e0, e1, e2, e3⟩, z0, z1, z2, z3⟩ := HE7.out.res.z
    dsimp only at g0 g1 g2 g3
    rw [← HF6.out] at HRES
    go_wp2_with fail
    refine bodyPost_ret (v := .tuple #[.agg #[.slice s.dA r.dec.length s.dC, .slice s.mA r.com.length s.mC, .slice s.fA r.frz.length s.fC, .slice A6 f6.length c6], .bool true]) (by simp [results, Try.results22, go_sem, e0, e1, e2, e3]) rfl ?_
    have hfin := st_end (w := w) HE7.out.res (by have := HE7.out.le; omega) HE7.out.st HE7.out.kept (stored4_kept _ _ ⟨s.dA, s.dC, s.mA, s.mC, s.fA, s.fC, A6, c6⟩ ⟨r.dec, r.com, r.frz, f6⟩)
    rw [HRES.out]
    exact ⟨⟨s.dA, s.dC, s.mA, s.mC, s.fA, s.fC, A6, c6⟩, rfl, hfin.1, hfin.2⟩
  · have HRES : Hid (nextR t r ⟨5, ty, num⟩ = (r, false)) := by
      rw [Hid]; unfold nextR RS.find; dsimp only; rw [hfi]; rfl
    rw [hfv]
    clear hfi hfv hci
    have h0 : (0 : Int) ≤ (i : Int) := by omega
    go_wp2_with fail
    refine bodyPost_ret (v := .tuple #[.agg #[.slice s.dA r.dec.length s.dC, .slice s.mA r.com.length s.mC, .slice s.fA r.frz.length s.fC, .slice s.kA r.con.length s.kC], .bool false]) (by simp [results, Try.results22, go_sem, e0, e1, e2, e3]) rfl ?_
    have hfin := st_end (w := w) HE4.out.res (by have := HE4.out.le; omega) HE4.out.st HE4.out.kept (stored4_kept _ _ s r)
    rw [HRES.out]
    exact ⟨s, rfl, hfin.1, hfin.2⟩
end Go.Proofs.Ytbjnoffdafpkgaa
namespace Go.Proofs.Ytbjnoffdafpkgaa
open Go.RowKit

set_option maxRecDepth 100000 in
set_option maxHeartbeats 1000000 in
theorem next7 (w : World) (s : StV) (r : RS) (v : TabV) (t : Tab) (ty num : Int) (hA : NAsk w s r v t) (hx : existsF t.types.length ⟨7, ty, num⟩ = true) :
    Calls Try.prog 22 #[.agg (s.cells r), .agg (v.cells t), EvV.val ⟨7, ty, num⟩] w (RetS (nextR t r ⟨7, ty, num⟩) w) := by
  have HA := Lib.hid hA
  have HX := Lib.hid hx
  have hdl := hA.dl
  have hml := hA.ml
  have hkl := hA.kl
  have hN := hA.n
  clear hA hx
  have HSC : Hid (s.cells r = #[.slice s.dA r.dec.length s.dC, .slice s.mA r.com.length s.mC, .slice s.fA r.frz.length s.fC, .slice s.kA r.con.length s.kC]) := rfl
  rw [HSC.out]
  unfold TabV.cells EvV.val
  go_enter Try.func22, Try.ntmps22
  go_upto_region 1 with (fail)
  refine wp_gen ?_
  intro w3 hw3
  have HENV : Hid (NEnv w s r v t ⟨7, ty, num⟩ w.heap.size w3) := by
    have hk3 : Kept [] w w3 := by rw [hw3]; exact (((Kept.alloc _ _ _).trans (Kept.alloc _ _ _)).trans (Kept.alloc _ _ _)).trans (Kept.alloc _ _ _)
    have he : w3.heap[w.heap.size + 1 + 1]? = some (.cells #[.int .u8 7, .int .i64 ty, .int .i64 num] 45 (0, 0)) := by rw [hw3]; exact obj_old (obj_new (by simp)) (by simp <;> omega)
    refine ⟨?_, TBox.of_block ?_ (HA.out.tab.kept (hk3.toBelow (Nat.le_refl _) (by simp))), ?_, ?_, ?_, ?_, HA.out.st.kept hk3, hk3, Nat.le_refl _, HA.out.tab⟩
    · rw [SRow, hw3]; exact obj_old (obj_old (obj_old (heap_alloc_new _ _) (by simp <;> omega)) (by simp <;> omega)) (by simp <;> omega)
    · rw [hw3]; exact obj_old (obj_old (obj_new (by simp)) (by simp <;> omega)) (by simp <;> omega)
    · rw [cell_of_row _ _ _ _ _ _ he]; rfl
    · rw [cell_of_row _ _ _ _ _ _ he]; rfl
    · rw [cell_of_row _ _ _ _ _ _ he]; rfl
    · rw [ZRow, SRow, hw3]; exact obj_new (by simp)
  clear hw3
  have g0 := HENV.out.row.c0
  have g1 := HENV.out.row.c1
  have g2 := HENV.out.row.c2
  have g3 := HENV.out.row.c3
  have k2 := HENV.out.k2
  go_wp2_with fail
  refine (find_any w3 s r num HENV.out.st).mono ?_
  rintro e w4 ⟨rfl, hk4⟩
  have HE4 := Lib.hid (HENV.out.keep hk4)
  clear g0 g1 g2 g3 k2 hk4 HENV
  have g0 := HE4.out.row.c0
  have g1 := HE4.out.row.c1
  have g2 := HE4.out.row.c2
  have g3 := HE4.out.row.c3
  have k0 := HE4.out.k0
  have k1 := HE4.out.k1
  have k2 := HE4.out.k2
  obtain ⟨⟨e0, e1, e2, e3⟩, z0, z1, z2, z3⟩ := HE4.out.res.z
  rcases find_split r.con num with ⟨hfi, hfv⟩ | ⟨i, c, hfi, hfv, hci⟩
  · have HRES : Hid (nextR t r ⟨7, ty, num⟩ = (r, true)) := by
      rw [Hid]; unfold nextR RS.find; dsimp only; rw [hfi]; rfl
    rw [hfv]
    clear hfi hfv
    go_upto_region 34 with (fail)
    go_region
    go_wp2_with fail
    refine bodyPost_ret (v := .tuple #[.agg #[.slice s.dA r.dec.length s.dC, .slice s.mA r.com.length s.mC, .slice s.fA r.frz.length s.fC, .slice s.kA r.con.length s.kC], .bool true]) (by simp [results, Try.results22, go_sem, e0, e1, e2, e3]) rfl ?_
    have hfin := st_end (w := w) HE4.out.res (by have := HE4.out.le; omega) HE4.out.st HE4.out.kept ((stored4_kept _ _ s r).trans (Kept.drew _ _))
    rw [HRES.out]
    exact ⟨s, rfl, hfin.1, hfin.2⟩
  · have HRES : Hid (nextR t r ⟨7, ty, num⟩ = (r, c.2.2)) := by
      rw [Hid]; unfold nextR RS.find; dsimp only; rw [hfi]; dsimp only; rw [hci]; rfl
    rw [hfv]
    have hil : i < r.con.length := (List.getElem?_eq_some_iff.1 hci).1
    rcases HE4.out.st.con.2.2.2 with hnil | ⟨b9, o9, hA9, hcl⟩
    · rw [hnil] at hci; simp at hci
    have q := hcl i c hci 2 _ rfl
    have hb9 : ¬ b9 = w.heap.size + 1 + 1 + 1 := by
      intro e
      rw [e] at q
      obtain ⟨_, _, _, e'⟩ := SRow.isSlice HE4.out.res q
      cases e'
    have hb8 : ¬ w.heap.size + 1 + 1 + 1 = b9 := fun e => hb9 e.symm
    rw [hA9] at g3
    clear hfi hfv hci hcl
    have h0 : (0 : Int) ≤ (i : Int) := by omega
    have h1 : decide ((i : Int) < 0) = false := by simp
    have h2 : (i : Int) < (r.con.length : Int) := by omega
    go_upto_region 34 with (fail)
    go_region
    go_wp2_with fail
    refine bodyPost_ret (v := .tuple #[.agg #[.slice s.dA r.dec.length s.dC, .slice s.mA r.com.length s.mC, .slice s.fA r.frz.length s.fC, .slice (some ⟨b9, o9, none⟩) r.con.length s.kC], .bool c.2.2]) (by simp [results, Try.results22, go_sem, e0, e1, e2, e3]) rfl ?_
    have hfin := st_end (w := w) HE4.out.res (by have := HE4.out.le; omega) HE4.out.st HE4.out.kept ((stored4_kept _ _ s r).trans (Kept.drew _ _))
    rw [HRES.out, ← hA9]
    exact ⟨s, rfl, hfin.1, hfin.2⟩
end Go.Proofs.Ytbjnoffdafpkgaa
namespace Go.Proofs.Ytbjnoffdafpkgaa
open Go.RowKit

theorem doneAt_len (l : List (Int × Int × Bool)) (i : Nat) : (doneAt l i).length = l.length := by unfold doneAt; simp
theorem next6_res {t : Tab} {r : RS} {ty num : Int} {i : Nat} {c : Int × Int × Bool} (hfi : r.con.findIdx? (fun c => c.1 == num) = some i) (hci : r.con[i]? = some c) :
    nextR t r ⟨6, ty, num⟩ = if c.2.2 then (r, false) else if (freezeR t r c.2.1).2 then ({ (freezeR t r c.2.1).1 with con := doneAt r.con i }, true) else (r, false) := by
  unfold nextR RS.find
  dsimp only
  rw [hfi]
  dsimp only
  rw [hci]
  rfl
theorem next6_none {t : Tab} {r : RS} {ty num : Int} (hfi : r.con.findIdx? (fun c => c.1 == num) = none) : nextR t r ⟨6, ty, num⟩ = (r, false) := by
  unfold nextR RS.find
  dsimp only
  rw [hfi]
  rfl
theorem own_form {w : World} {base e size n : Nat} {v : Value} {xs : List Value} (h : w.ownsRow base e size v n xs) (hn : 0 < n) : ∃ g cap, v = .slice (some ⟨g, 0, none⟩) n cap ∧ base ≤ g := by
  rcases h.2 with ⟨_, hn'⟩ | ⟨g, cap, cur, rfl, hb, _⟩
  · omega
  · exact ⟨g, cap, rfl, hb⟩
/-- The copy with one constant completed. -/
theorem con_done {w : World} {base g cap i : Nat} {l : List (Int × Int × Bool)} {c : Int × Int × Bool} (hc : l[i]? = some c) (h : w.ownsRow base 87 3 (.slice (some ⟨g, 0, none⟩) (doneAt l i).length cap) l.length (conAll l)) :
    w.cell? ⟨g, i * 3 + 2, none⟩ = some (.bool c.2.2) ∧ w.frozen? ⟨g, i * 3 + 2, none⟩ = false ∧ ConC (w.setCell ⟨g, i * 3 + 2, none⟩ (.bool true)) (some ⟨g, 0, none⟩) cap (doneAt l i) := by
  have hcells := h.cells (g := g) rfl
  have hq : w.cell? ⟨g, i * 3 + 2, none⟩ = some (.bool c.2.2) := by
    have := hcells (i * 3 + 2) (.bool c.2.2) (conAll_at l hc rfl)
    rwa [Addr.add_mid, Nat.zero_add] at this
  rcases h.2 with ⟨e, _⟩ | ⟨g', cap', cur, e, hb, hg, hcap, hmax, _⟩
  · cases e
  · injection e with e1 e2 e3
    injection e1 with e1
    injection e1 with e1
    subst e1 e3
    refine ⟨hq, by simp [World.frozen?, hg], by rw [doneAt_len]; exact hcap, by unfold maxLen at hmax; omega, (fun h => by cases h), .inr ⟨g, 0, rfl, fun j x hx m u hu => ?_⟩⟩
    have hm3 : m < 3 := by have := (List.getElem?_eq_some_iff.1 hu).1; simpa [conCells] using this
    unfold doneAt at hx
    rw [List.getElem?_modify] at hx
    by_cases hji : i = j
    · subst hji
      rw [hc] at hx
      simp only [if_true, Option.map_eq_map, Option.map_some, Option.some.injEq] at hx
      subst hx
      by_cases hm : m = 2
      · subst hm
        simp only [conCells, List.getElem?_cons_succ, List.getElem?_cons_zero, Option.some.injEq] at hu
        subst hu
        rw [Nat.zero_add]
        exact World.cell?_setCell_same _ _ _ (by rw [hq])
      · rw [World.cell?_setCell_other _ _ _ _ (by simp <;> omega)]
        have := hcells (i * 3 + m) u (conAll_at l hc (by
          have : m = 0 ∨ m = 1 := by omega
          rcases this with rfl | rfl
          · simpa [conCells] using hu
          · simpa [conCells] using hu))
        rwa [Addr.add_mid, ← Nat.add_assoc] at this
    · simp only [if_neg hji, Option.map_eq_map, Option.map_id'] at hx
      rw [World.cell?_setCell_other _ _ _ _ (by simp <;> omega)]
      have := hcells (j * 3 + m) u (conAll_at l (by simpa using hx) hu)
      rwa [Addr.add_mid, ← Nat.add_assoc] at this

/-- What the freezing of a constant's type leaves. -/
def Cut25 (w4 : World) (rn : RS) (okn : Bool) (v10 v11 : Value) (wc : World) : Prop :=
  ∃ NB s5, v10 = .pointer (some ⟨NB, 0, none⟩) ∧ v11 = .bool okn ∧ SRow wc NB s5 rn ∧ StIn wc s5 rn ∧ Kept [] w4 wc ∧ w4.heap.size ≤ NB

set_option maxRecDepth 100000 in
set_option maxHeartbeats 2000000 in
theorem next6 (w : World) (s : StV) (r : RS) (v : TabV) (t : Tab) (ty num : Int) (hA : NAsk w s r v t) (hx : existsF t.types.length ⟨6, ty, num⟩ = true) :
    Calls Try.prog 22 #[.agg (s.cells r), .agg (v.cells t), EvV.val ⟨6, ty, num⟩] w (RetS (nextR t r ⟨6, ty, num⟩) w) := by
  have HA := Lib.hid hA
  have HX := Lib.hid hx
  have hdl := hA.dl
  have hml := hA.ml
  have hkl := hA.kl
  have hN := hA.n
  clear hA hx
  have HSC : Hid (s.cells r = #[.slice s.dA r.dec.length s.dC, .slice s.mA r.com.length s.mC, .slice s.fA r.frz.length s.fC, .slice s.kA r.con.length s.kC]) := rfl
  rw [HSC.out]
  unfold TabV.cells EvV.val
  go_enter Try.func22, Try.ntmps22
  go_upto_region 1 with (fail)
  refine wp_gen ?_
  intro w3 hw3
  have HENV : Hid (NEnv w s r v t ⟨6, ty, num⟩ w.heap.size w3) := by
    have hk3 : Kept [] w w3 := by rw [hw3]; exact (((Kept.alloc _ _ _).trans (Kept.alloc _ _ _)).trans (Kept.alloc _ _ _)).trans (Kept.alloc _ _ _)
    have he : w3.heap[w.heap.size + 1 + 1]? = some (.cells #[.int .u8 6, .int .i64 ty, .int .i64 num] 45 (0, 0)) := by rw [hw3]; exact obj_old (obj_new (by simp)) (by simp <;> omega)
    refine ⟨?_, TBox.of_block ?_ (HA.out.tab.kept (hk3.toBelow (Nat.le_refl _) (by simp))), ?_, ?_, ?_, ?_, HA.out.st.kept hk3, hk3, Nat.le_refl _, HA.out.tab⟩
    · rw [SRow, hw3]; exact obj_old (obj_old (obj_old (heap_alloc_new _ _) (by simp <;> omega)) (by simp <;> omega)) (by simp <;> omega)
    · rw [hw3]; exact obj_old (obj_old (obj_new (by simp)) (by simp <;> omega)) (by simp <;> omega)
    · rw [cell_of_row _ _ _ _ _ _ he]; rfl
    · rw [cell_of_row _ _ _ _ _ _ he]; rfl
    · rw [cell_of_row _ _ _ _ _ _ he]; rfl
    · rw [ZRow, SRow, hw3]; exact obj_new (by simp)
  clear hw3
  have g0 := HENV.out.row.c0
  have g1 := HENV.out.row.c1
  have g2 := HENV.out.row.c2
  have g3 := HENV.out.row.c3
  have k2 := HENV.out.k2
  go_wp2_with fail
  refine (find_any w3 s r num HENV.out.st).mono ?_
  rintro e w4 ⟨rfl, hk4⟩
  have HE4 := Lib.hid (HENV.out.keep hk4)
  clear g0 g1 g2 g3 k2 hk4 HENV
  have g0 := HE4.out.row.c0
  have g1 := HE4.out.row.c1
  have g2 := HE4.out.row.c2
  have g3 := HE4.out.row.c3
  have k0 := HE4.out.k0
  have k1 := HE4.out.k1
  have k2 := HE4.out.k2
  obtain ⟨⟨e0, e1, e2, e3⟩, z0, z1, z2, z3⟩ := HE4.out.res.z
  rcases find_split r.con num with ⟨hfi, hfv⟩ | ⟨i, c, hfi, hfv, hci⟩
  · have HRES := Lib.hid (next6_none (t := t) (ty := ty) hfi)
    rw [hfv]
    clear hfi hfv
    go_wp2_with fail
    refine bodyPost_ret (v := .tuple #[.agg #[.slice s.dA r.dec.length s.dC, .slice s.mA r.com.length s.mC, .slice s.fA r.frz.length s.fC, .slice s.kA r.con.length s.kC], .bool false]) (by simp [results, Try.results22, go_sem, e0, e1, e2, e3]) rfl ?_
    have hfin := st_end (w := w) HE4.out.res (by have := HE4.out.le; omega) HE4.out.st HE4.out.kept (stored4_kept _ _ s r)
    rw [HRES.out]
    exact ⟨s, rfl, hfin.1, hfin.2⟩
  · have HR0 := Lib.hid (next6_res (t := t) (ty := ty) hfi hci)
    rw [hfv]
    have hil : i < r.con.length := (List.getElem?_eq_some_iff.1 hci).1
    rcases HE4.out.st.con.2.2.2 with hnil | ⟨b9, o9, hA9, hcl⟩
    · rw [hnil] at hci; simp at hci
    have q := hcl i c hci 2 _ rfl
    have q1 := hcl i c hci 1 _ rfl
    have HCI := Lib.hid hci
    have HXC := Lib.hid (HA.out.inv.exC c (List.mem_of_getElem? hci))
    rw [hA9] at g3
    clear hfi hfv hci hcl
    have h0 : (0 : Int) ≤ (i : Int) := by omega
    have h1 : decide ((i : Int) < 0) = false := by simp
    have h2 : (i : Int) < (r.con.length : Int) := by omega
    cases hdn : c.2.2
    · rw [hdn] at q
      clear k1 k2
      have hfl := HA.out.inv.frz_len
      obtain ⟨c0, c1, c2, c3, c4, _⟩ := HE4.out.tb
      have KP : Hid (∀ wx, Kept [] w4 wx → (fun wx => wx.cell? ⟨w.heap.size, 0, none⟩ = some (.slice s.dA r.dec.length s.dC) ∧ wx.cell? ⟨w.heap.size, 1, none⟩ = some (.slice s.mA r.com.length s.mC) ∧ wx.cell? ⟨w.heap.size, 2, none⟩ = some (.slice s.fA r.frz.length s.fC) ∧ wx.cell? ⟨w.heap.size, 3, none⟩ = some (.slice (some ⟨b9, o9, none⟩) r.con.length s.kC) ∧ wx.cell? ⟨w.heap.size + 1, 0, none⟩ = some (.slice v.ta t.types.length v.tc) ∧ wx.cell? ⟨w.heap.size + 1, 1, none⟩ = some (.slice v.sa t.subs.length v.sc) ∧ wx.cell? ⟨w.heap.size + 1, 2, none⟩ = some (.slice v.ea v.en v.ec) ∧ wx.cell? ⟨w.heap.size + 1, 3, none⟩ = some (.slice v.ga v.gn v.gc) ∧ wx.cell? ⟨w.heap.size + 1, 4, none⟩ = some (.slice v.ia v.im v.ic) ∧ wx.cell? ⟨b9, o9 + i * 3 + 1, none⟩ = some (.int .i64 c.2.1) ∧ Kept [] w4 wx) wx) := fun wx h => ⟨h.cell g0 (by simp), h.cell g1 (by simp), h.cell g2 (by simp), h.cell g3 (by simp), h.cell c0 (by simp), h.cell c1 (by simp), h.cell c2 (by simp), h.cell c3 (by simp), h.cell c4 (by simp), h.cell q1 (by simp), h⟩
      have HSTX : Hid (∀ wx, Kept [] w4 wx → StIn wx ⟨s.dA, s.dC, s.mA, s.mC, s.fA, s.fC, (some ⟨b9, o9, none⟩), s.kC⟩ r) := fun wx h => by rw [← hA9]; exact HE4.out.st.kept h
      generalize hq : freezeR t r c.2.1 = qn at *
      obtain ⟨rn, okn⟩ := qn
      have HQ := Lib.hid hq
      clear hq
      go_upto_region 25 with (fail)
      go_cut [10, 11] (fun v10 v11 wc => Cut25 w4 rn okn v10 v11 wc)
      case first =>
        go_region_held3 (fun wx => wx.cell? ⟨w.heap.size, 0, none⟩ = some (.slice s.dA r.dec.length s.dC) ∧ wx.cell? ⟨w.heap.size, 1, none⟩ = some (.slice s.mA r.com.length s.mC) ∧ wx.cell? ⟨w.heap.size, 2, none⟩ = some (.slice s.fA r.frz.length s.fC) ∧ wx.cell? ⟨w.heap.size, 3, none⟩ = some (.slice (some ⟨b9, o9, none⟩) r.con.length s.kC) ∧ wx.cell? ⟨w.heap.size + 1, 0, none⟩ = some (.slice v.ta t.types.length v.tc) ∧ wx.cell? ⟨w.heap.size + 1, 1, none⟩ = some (.slice v.sa t.subs.length v.sc) ∧ wx.cell? ⟨w.heap.size + 1, 2, none⟩ = some (.slice v.ea v.en v.ec) ∧ wx.cell? ⟨w.heap.size + 1, 3, none⟩ = some (.slice v.ga v.gn v.gc) ∧ wx.cell? ⟨w.heap.size + 1, 4, none⟩ = some (.slice v.ia v.im v.ic) ∧ wx.cell? ⟨b9, o9 + i * 3 + 1, none⟩ = some (.int .i64 c.2.1) ∧ Kept [] w4 wx)
          (first | exact KP.out _ HK6.out | exact KP.out _ HK5.out | exact KP.out _ (HK5.out.trans (Kept.alloc _ _ _)) | exact KP.out _ ((Kept.alloc _ _ _).trans (Kept.drew _ _)) | exact KP.out _ (Kept.drew _ _) | exact KP.out _ (Kept.refl _ _))
          (first
            | (go_at_call 44
               have hkx := (‹_ ∧ _ ∧ _ ∧ _ ∧ _ ∧ _ ∧ _ ∧ _ ∧ _ ∧ _ ∧ Kept [] w4 _›).2.2.2.2.2.2.2.2.2.2
               refine (refFreeze_any (w4.alloc (Obj.cells #[.slice none 0 0, .slice none 0 0, .slice none 0 0, .slice none 0 0] 61)).drew ⟨s.dA, s.dC, s.mA, s.mC, s.fA, s.fC, (some ⟨b9, o9, none⟩), s.kC⟩ r v t c.2.1 (HSTX.out _ hkx) ((HE4.out.keep hkx).tb.tab) HA.out.small hN HXC.out (by omega)).mono ?_
               rw [HQ.out]
               rintro e w5 ⟨s5, rfl, hi5, hk5⟩
               unfold StV.cells
               have HZ5 : Hid (ZRow w5 w4.heap.size) := ZRow.kept (w := (w4.alloc (Obj.cells #[.slice none 0 0, .slice none 0 0, .slice none 0 0, .slice none 0 0] 61)).drew) (heap_alloc_new w4 _) hk5 (by simp)
               obtain ⟨⟨y0, y1, y2, y3⟩, x0, x1, x2, x3⟩ := HZ5.out.z
               have HI5 := Lib.hid hi5
               have HK5 := Lib.hid (hkx.trans hk5)
               have HK6 : Hid (Kept [] w4 (stored4 w5 w4.heap.size s5 rn)) := HK5.out.trans0 (stored4_kept _ _ _ _) (Nat.le_refl _)
               have HC25 : Hid (Cut25 w4 rn okn (.pointer (some ⟨w4.heap.size, 0, none⟩)) (.bool okn) (stored4 w5 w4.heap.size s5 rn)) := ⟨_, s5, rfl, rfl, stored4_row HZ5.out, hi5.far HZ5.out (stored4_kept _ _ _ _), HK6.out, Nat.le_refl _⟩
               clear hkx hk5 hi5)
            | (go_at_call 44
               have hkx := (‹_ ∧ _ ∧ _ ∧ _ ∧ _ ∧ _ ∧ _ ∧ _ ∧ _ ∧ _ ∧ Kept [] w4 _›).2.2.2.2.2.2.2.2.2.2
               refine (refFreeze_any w4.drew ⟨s.dA, s.dC, s.mA, s.mC, s.fA, s.fC, (some ⟨b9, o9, none⟩), s.kC⟩ r v t c.2.1 (HSTX.out _ hkx) ((HE4.out.keep hkx).tb.tab) HA.out.small hN HXC.out (by omega)).mono ?_
               rw [HQ.out]
               rintro e w5 ⟨s5, rfl, hi5, hk5⟩
               unfold StV.cells
               have HI5 := Lib.hid hi5
               have HK5 := Lib.hid (hkx.trans hk5)
               have HC25 : Hid (Cut25 w4 rn okn (.pointer (some ⟨w5.heap.size, 0, none⟩)) (.bool okn) (w5.alloc (.cells (s5.cells rn) 61))) := ⟨_, s5, rfl, rfl, heap_alloc_new _ _, hi5.kept (Kept.alloc _ _ _), HK5.out.trans (Kept.alloc _ _ _), HK5.out.size⟩
               clear hkx hk5 hi5))
        all_goals (go_wp2_with fail; go_meet; exact HC25.out)
      case rest =>
        obtain ⟨NB, s5, rfl, rfl, hrow, hst, hkc, hnb⟩ := hcut
        have HE7 := Lib.hid (HE4.out.keep hkc)
        have HROW7 := Lib.hid hrow
        have HST7 := Lib.hid hst
        have HK7 := Lib.hid hkc
        obtain ⟨w7, rfl⟩ : ∃ w7 : World, w7 = wc := ⟨_, rfl⟩
        clear hrow hst hkc q q1 c0 c1 c2 c3 c4 k0 KP HSTX
        clear g0 g1 g2 g3 e0 e1 e2 e3 z0 z1 z2 z3
        have g0 := HE7.out.row.c0
        have g1 := HE7.out.row.c1
        have g2 := HE7.out.row.c2
        have g3 := HE7.out.row.c3
        rw [hA9] at g3
        obtain ⟨⟨e0, e1, e2, e3⟩, z0, z1, z2, z3⟩ := HE7.out.res.z
        cases okn
        · have HRES : Hid (nextR t r ⟨6, ty, num⟩ = (r, false)) := by rw [Hid, HR0.out, if_neg (by rw [hdn]; simp)]; rfl
          clear hdn
          go_wp2_with fail
          refine bodyPost_ret (v := .tuple #[.agg #[.slice s.dA r.dec.length s.dC, .slice s.mA r.com.length s.mC, .slice s.fA r.frz.length s.fC, .slice (some ⟨b9, o9, none⟩) r.con.length s.kC], .bool false]) (by simp [results, Try.results22, go_sem, e0, e1, e2, e3]) rfl ?_
          have hfin := st_end (w := w) HE7.out.res (by have := HE7.out.le; omega) HE7.out.st HE7.out.kept (stored4_kept _ _ s r)
          rw [HRES.out, ← hA9]
          exact ⟨s, rfl, hfin.1, hfin.2⟩
        · have HRES : Hid (nextR t r ⟨6, ty, num⟩ = ({ rn with con := doneAt r.con i }, true)) := by rw [Hid, HR0.out, if_neg (by rw [hdn]; simp)]; rfl
          clear hdn
          have HFL := Lib.hid (doneAt_len r.con i)
          have SRC : Hid (SrcAt w7 3 (some ⟨b9, o9, none⟩) r.con.length (conAll r.con)) := by rw [Hid, ← hA9]; exact HE7.out.st.con.src
          obtain ⟨i0, hi, hz0, hz1, hz2⟩ := info_parts con_info
          have hA : 0 + r.con.length ≤ maxLen := by unfold maxLen; omega
          have hB : (0 + r.con.length) * 24 ≤ 140737488355328 := by omega
          go_upto_region 30 with (at_builtin; refine wpList_append_src _ rfl (.tmp 127) (.tmp 129) 59 rfl w7.heap.size 87 i0 (.agg #[.int .i64 0, .int .i64 0, .bool false]) 3 24 Try.underlying59 hi hz0 hz1 hz2 rfl (by decide) _ _ _ rfl (World.ownsRow_nil _ _ _ _) _ _ _ (conAll r.con) rfl SRC.out (conAll_one _) hA hB (Nat.le_refl _) ?_; intro v8 w8 hown8 hg8 hat8; have HO8 := Lib.hid hown8; have HK8 := Lib.hid (Kept.of_grown (X := []) hg8 (by intro k hk; cases hk)); clear hown8 hg8 hat8)
          have hown8 : w8.ownsRow w7.heap.size 87 3 v8 r.con.length (conAll r.con) := by simpa using HO8.out
          obtain ⟨g, cap, hv8, hg8⟩ := own_form hown8 (by omega)
          rw [← HFL.out] at hv8
          subst hv8
          obtain ⟨qd, zd, hcd⟩ := con_done HCI.out hown8
          have HCD := Lib.hid hcd
          have HK9 : Hid (Kept [] w7 (w8.setCell ⟨g, i * 3 + 2, none⟩ (.bool true))) := HK8.out.trans0 (Kept.setCell _ _ _ (by simp)) hg8
          generalize doneAt r.con i = f at *
          have hif : (i : Int) < (f.length : Int) := by rw [HFL.out]; omega
          clear hown8 hcd HO8 g0 g1 g2 g3 e0 e1 e2 e3 z0 z1 z2 z3
          go_upto_region 31 with (fail)
          refine wp_gen ?_
          intro w9 hw9
          rw [← hw9] at HCD HK9
          clear hw9 qd zd
          have HROW9 := Lib.hid (HROW7.out.kept HK9.out (by simp))
          have HST9 := Lib.hid (HST7.out.kept HK9.out)
          have t3 := HROW9.out.c3
          have t4 := HROW9.out.frozen 3
          have HKN : Hid (Kept [NB] w9 (w9.setCell ⟨NB, 3, none⟩ (.slice (some ⟨g, 0, none⟩) f.length cap))) := Kept.setCell _ _ _ (by simp)
          have HROW10 := Lib.hid (HROW9.out.set3 (some ⟨g, 0, none⟩) cap f)
          have HST10 : Hid (StIn (w9.setCell ⟨NB, 3, none⟩ (.slice (some ⟨g, 0, none⟩) f.length cap)) ⟨s5.dA, s5.dC, s5.mA, s5.mC, s5.fA, s5.fC, some ⟨g, 0, none⟩, cap⟩ ⟨rn.dec, rn.com, rn.frz, f⟩) := ⟨HST9.out.dec.far HROW9.out HKN.out, HST9.out.com.far HROW9.out HKN.out, HST9.out.frz.far HROW9.out HKN.out, HCD.out.far HROW9.out HKN.out⟩
          have HE10 := Lib.hid (HE4.out.keep ((HK7.out.trans HK9.out).trans0 HKN.out hnb))
          go_upto_region 32 with (fail)
          refine wp_gen ?_
          intro w10 hw10
          rw [← hw10] at HROW10 HST10 HE10
          clear hw10 t3 t4
          have g0 := HROW10.out.c0
          have g1 := HROW10.out.c1
          have g2 := HROW10.out.c2
          have g3 := HROW10.out.c3
          dsimp only at g0 g1 g2 g3
          obtain ⟨⟨e0, e1, e2, e3⟩, z0, z1, z2, z3⟩ := HE10.out.res.z
          go_wp2_with fail
          refine bodyPost_ret (v := .tuple #[.agg #[.slice s5.dA rn.dec.length s5.dC, .slice s5.mA rn.com.length s5.mC, .slice s5.fA rn.frz.length s5.fC, .slice (some ⟨g, 0, none⟩) f.length cap], .bool true]) (by simp [results, Try.results22, go_sem, e0, e1, e2, e3]) rfl ?_
          have hfin := st_end (w := w) HE10.out.res (by have := HE10.out.le; omega) HST10.out HE10.out.kept (stored4_kept _ _ ⟨s5.dA, s5.dC, s5.mA, s5.mC, s5.fA, s5.fC, some ⟨g, 0, none⟩, cap⟩ ⟨rn.dec, rn.com, rn.frz, f⟩)
          rw [HRES.out]
          exact ⟨_, rfl, hfin.1, hfin.2⟩
    · have HRES : Hid (nextR t r ⟨6, ty, num⟩ = (r, false)) := by rw [Hid, HR0.out, if_pos hdn]
      rw [hdn] at q
      clear hdn
      go_wp2_with fail
      refine bodyPost_ret (v := .tuple #[.agg #[.slice s.dA r.dec.length s.dC, .slice s.mA r.com.length s.mC, .slice s.fA r.frz.length s.fC, .slice (some ⟨b9, o9, none⟩) r.con.length s.kC], .bool false]) (by simp [results, Try.results22, go_sem, e0, e1, e2, e3]) rfl ?_
      have hfin := st_end (w := w) HE4.out.res (by have := HE4.out.le; omega) HE4.out.st HE4.out.kept (stored4_kept _ _ s r)
      rw [HRES.out, ← hA9]
      exact ⟨s, rfl, hfin.1, hfin.2⟩
end Go.Proofs.Ytbjnoffdafpkgaa
