/- Order: the sort, the test of what a unit needs. -/
import Derived.Test.YtoaklikkepkhfaaE6
namespace Go.Proofs.Ytoaklikkepkhfaa
open Go.RowKit Go.Lib Go.Sort Go.Shelf

theorem eg24 : ∀ args w, (callFunc 24 args).run Try.prog w = .ok (.enter 24 args) w := enters_of Try.func24 (by kernel_rfl) rfl
theorem eg29 : ∀ args w, (callFunc 29 args).run Try.prog w = .ok (.enter 29 args) w := enters_of Try.func29 (by kernel_rfl) rfl

def encF {m : Nat} (i : Fin (m + 1)) : Value := .int .i64 (i.val : Int)
theorem places_get (m i : Nat) (h : i < m + 1) : (placesF m)[i]! = ⟨i, h⟩ := by
  rw [getElem!_pos _ _ (by rw [placesF_size]; exact h)]
  simp [placesF]

/-- The row of places, sorted by names. -/
theorem sort_names (w : World) (bu ou uc : Nat) (l : List UnitV) (B2 B9 g N : Nat) (ns : List Nat) (hns : NamesOk l ns) (hr : ∀ (j : Nat) (r : UnitV), l[j]? = some r → w.rangeAt bu (ou + j * 4) r.cells) (hl : l.length ≤ 100000) (hpos : 0 < l.length)
    (h2 : w.cell? ⟨B2, 0, none⟩ = some (.slice (some ⟨bu, ou, none⟩) l.length uc)) (h9 : w.cell? ⟨B9, 0, none⟩ = some (.func (.func 22) #[] #[]))
    (hrow : w.heap[g]? = some (.cells ((natsI (List.range l.length)).map (Value.int .i64)).toArray 3 (0, 0))) (hbu : bu ≠ g) (hB2 : B2 ≠ g) (hB9 : B9 ≠ g) :
    Calls Try.prog 23 #[.slice (some ⟨g, 0, none⟩) l.length l.length, .func (.func 24) #[] #[.pointer (some ⟨B2, 0, none⟩), .pointer (some ⟨B9, 0, none⟩)]] w fun e w' => e = .returned (.tuple #[]) ∧ Kept [g] w w' ∧ (∀ (j i : Nat), ns[j]? = some i → w'.cell? ⟨g, j, none⟩ = some (.int .i64 i)) := by
  obtain ⟨m, hm⟩ : ∃ m, l.length = m + 1 := ⟨l.length - 1, by omega⟩
  have hg : g < w.heap.size := (Array.getElem?_eq_some_iff.1 hrow).1
  have hblu : bu < w.heap.size := by
    have hx : l[0]? = some (l[0]'hpos) := List.getElem?_eq_getElem hpos
    obtain ⟨x0, _⟩ := unit_cells (hr 0 _ hx)
    exact World.block_lt_of_cell? w _ x0
  have hb2 : B2 < w.heap.size := World.block_lt_of_cell? w _ h2
  have hb9 : B9 < w.heap.size := World.block_lt_of_cell? w _ h9
  have hH : Holds (encF (m := m)) w g 0 (placesF m) := by
    intro j hj
    rw [placesF_size] at hj
    refine ⟨?_, by rw [Nat.zero_add]; exact frozen_of_row _ _ _ _ _ hrow⟩
    rw [Nat.zero_add, cell_of_row _ _ _ _ _ _ hrow, places_get m j hj]
    simp [natsI, encF, hm, hj]
  have hcmp : CmpLays1 Try.prog 24 #[.pointer (some ⟨B2, 0, none⟩), .pointer (some ⟨B9, 0, none⟩)] (encF (m := m)) (fun i j => cmpF l i.val j.val) g 0 (placesF m).size w := by
    intro q os dk hdk x y
    have keep : ∀ (b o : Nat) (v : Value), b ≠ g → b < w.heap.size → w.cell? ⟨b, o, none⟩ = some v → (sortWorld (encF (m := m)) w g 0 q dk os).cell? ⟨b, o, none⟩ = some v := by
      intro b o v hne hb hc
      unfold sortWorld
      rw [cell?_grow _ _ _ (by show b < (putRow _ _ _ _ _).heap.size; rw [size_putRow]; exact hb), cell?_putRow_other _ _ g 0 _ _ (Or.inl hne)]
      exact hc
    exact cmp_gives _ bu ou uc l x.val y.val B2 B9 (fun j r hj i v hv => keep _ _ _ hbu hblu (hr j r hj i v hv)) hl (by omega) (by omega) (keep _ _ _ hB2 hb2 h2) (keep _ _ _ hB9 hb9 h9)
  have hcon := Try.slices_SortFunc (encF (m := m)) (fun _ => rfl) (fun i j => cmpF l i.val j.val) (cmpF_swo l (m + 1)) 24 #[.pointer (some ⟨B2, 0, none⟩), .pointer (some ⟨B9, 0, none⟩)] g 0 l.length (placesF m) w eg24 hcmp hH hg (by rw [placesF_size]; omega)
  have key : ∀ n, n = (placesF m).size → Calls Try.prog 23 #[.slice (some ⟨g, 0, none⟩) n l.length, .func (.func 24) #[] #[.pointer (some ⟨B2, 0, none⟩), .pointer (some ⟨B9, 0, none⟩)]] w fun e w' => e = .returned (.tuple #[]) ∧ ∃ d' n os, PermIn 0 (placesF m).size (placesF m) d' ∧ SortedIn (ltOf (fun i j : Fin (m + 1) => cmpF l i.val j.val)) 0 (placesF m).size d' ∧ w' = sortWorld (encF (m := m)) w g 0 n d' os := by
    intro n hn
    subst hn
    exact hcon
  refine (key l.length (by rw [placesF_size, hm])).mono ?_
  rintro e w' ⟨rfl, d, n, os, hp, hs, rfl⟩
  rw [placesF_size] at hp hs
  have hd : NamesOk l (d.toList.map Fin.val) := names_of_sorted hm hp hs
  have hdn := hd.uniq hns
  have hsz : d.size = m + 1 := by rw [hp.1, placesF_size]
  refine ⟨rfl, ?_, fun j i hj => ?_⟩
  · refine ⟨rfl, rfl, rfl, ?_, fun k hk hx => ?_⟩
    · show w.heap.size ≤ (grow (putRow _ _ _ _ _) os).heap.size
      unfold grow
      simp [size_putRow, Sort.ahead]
    · have hne : g ≠ k := fun e => hx (by simp [e])
      unfold sortWorld
      rw [heap_grow_old _ _ (by rw [size_putRow]; exact hk)]
      simp [putRow, mapBlock, Sort.ahead, Array.getElem?_modify, hne]
  · have hj' : j < d.size := by
      have h1 := (List.getElem?_eq_some_iff.1 hj).1
      rw [← hdn] at h1
      simpa using h1
    have he : encF d[j]! = .int .i64 (i : Int) := by
      rw [← hdn, List.getElem?_map] at hj
      rw [getElem!_pos d j hj']
      rw [List.getElem?_eq_getElem (by simpa using hj')] at hj
      simp only [Option.map_some, Option.some.injEq, Array.getElem_toList] at hj
      unfold encF
      rw [hj]
    unfold sortWorld
    rw [cell?_grow _ _ _ (by show g < (putRow _ _ _ _ _).heap.size; rw [size_putRow]; exact hg)]
    have hH' : Holds (encF (m := m)) (Sort.ahead w n) g 0 (placesF m) := hH
    have := cell?_putRow (encF (m := m)) (Sort.ahead w n) g 0 (placesF m) d hH' (by rw [placesF_size, hsz]) j hj'
    rw [Nat.zero_add] at this
    rw [this, he]
end Go.Proofs.Ytoaklikkepkhfaa
