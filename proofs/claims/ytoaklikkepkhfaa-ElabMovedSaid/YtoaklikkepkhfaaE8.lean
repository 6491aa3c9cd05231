/- Order: rows of values; the test of what a unit needs. -/
import Derived.Test.YtoaklikkepkhfaaE7
namespace Go.Proofs.Ytoaklikkepkhfaa
open Go.RowKit Go.Lib Go.Sort Go.Shelf

/-- Block g is a row of values. -/
def VRow (w : World) (g : Nat) (ty : TypeId) (vs : List Value) : Prop := w.heap[g]? = some (.cells vs.toArray ty (0, 0))
theorem VRow.cell {w : World} {g : Nat} {ty : TypeId} {vs : List Value} (h : VRow w g ty vs) {i : Nat} {v : Value} (hv : vs[i]? = some v) : w.cell? ⟨g, i, none⟩ = some v := by
  rw [cell_of_row _ _ _ _ _ _ h]; simpa using hv
theorem VRow.frozen {w : World} {g : Nat} {ty : TypeId} {vs : List Value} (h : VRow w g ty vs) (i : Nat) : w.frozen? ⟨g, i, none⟩ = false := frozen_of_row _ _ _ _ _ h
theorem VRow.set {w : World} {g : Nat} {ty : TypeId} {vs : List Value} (h : VRow w g ty vs) (i : Nat) (v : Value) : VRow (w.setCell ⟨g, i, none⟩ v) g ty (vs.set i v) := by
  unfold VRow at *
  rw [heap_setCell_same _ _ _ _ _ _ h]
  congr 2
  rw [List.setIfInBounds_toArray]
theorem VRow.other {w : World} {g : Nat} {ty : TypeId} {vs : List Value} (h : VRow w g ty vs) (a : Addr) (v : Value) (hk : g ≠ a.block) : VRow (w.setCell a v) g ty vs := (heap_setCell_other w a g v hk).trans h
theorem VRow.kept {w w' : World} {g : Nat} {ty : TypeId} {vs : List Value} {X : List Nat} (h : VRow w g ty vs) (hk : Kept X w w') (hx : g ∉ X) : VRow w' g ty vs := hk.obj h hx
theorem VRow.made (w : World) (z : Value) (n : Nat) (ty : TypeId) : VRow (w.alloc (.cells (madeCells #[z] n) ty)) w.heap.size ty (List.replicate n z) := by
  unfold VRow
  rw [heap_alloc_new]
  congr 2
  apply Array.ext
  · simp [size_madeCells]
  · intro i h1 h2
    have : i % 1 = 0 := by omega
    simp [madeCells, this]
theorem VRow.lt {w : World} {g : Nat} {ty : TypeId} {vs : List Value} (h : VRow w g ty vs) : g < w.heap.size := (Array.getElem?_eq_some_iff.1 h).1

theorem IntsC.apart {w w' : World} {v : Value} {xs : List Int} {X : List Nat} (h : IntsC w v xs) (hk : Kept X w w') (hx : ∀ k, v.ownBlock = some k → k ∉ X) : IntsC w' v xs := by
  obtain ⟨a, c, rfl, h1, h2, h3, h4⟩ := h
  refine ⟨a, c, rfl, h1, h2, h3, ?_⟩
  rcases h4 with h4 | ⟨b, o, rfl, hc⟩
  · exact .inl h4
  · exact .inr ⟨b, o, rfl, fun j x hj => hk.cell (hc j x hj) (hx b rfl)⟩

/-- The names while they are laid: the first k places, then zeros. -/
def laidN (n k : Nat) : List Value := (List.range n).map fun i => if i < k then .int .i64 (i : Int) else .int .i64 0
theorem laidN_zero (n : Nat) : laidN n 0 = List.replicate n (.int .i64 0) := by
  unfold laidN
  apply List.ext_getElem?
  intro i
  by_cases h : i < n
  · simp [h]
  · simp [h]
theorem laidN_set {n k : Nat} (h : k < n) : (laidN n k).set k (.int .i64 (k : Int)) = laidN n (k + 1) := by
  unfold laidN
  apply List.ext_getElem?
  intro i
  rw [List.getElem?_set]
  by_cases e : k = i
  · subst e
    simp [h]
  · rw [if_neg e]
    by_cases hi : i < n
    · simp only [List.getElem?_map, List.getElem?_range hi, Option.map_some]
      by_cases h1 : i < k
      · rw [if_pos h1, if_pos (by omega)]
      · rw [if_neg h1, if_neg (by omega)]
    · simp [hi]
theorem laidN_all (n : Nat) : laidN n n = (natsI (List.range n)).map (Value.int .i64) := by
  unfold laidN natsI
  rw [List.map_map]
  apply List.map_congr_left
  intro i hi
  rw [if_pos (List.mem_range.1 hi)]; rfl
theorem laidN_len (n k : Nat) : (laidN n k).length = n := by simp [laidN]

/-- The lists of needs so far, in the row of their slices. -/
structure NeedRow (l : List UnitV) (subs : List SubV) (N : Nat) (vs : List Value) (nl : List (List Int)) (w : World) : Prop where
  len : vs.length = l.length
  at' : ∀ (i : Nat) x, nl[i]? = some x → ∃ v, vs[i]? = some v ∧ IntsC w v x ∧ (∀ k, v.ownBlock = some k → N ≤ k)
  need : ∀ (i : Nat) x, nl[i]? = some x → NeedList l subs i x
theorem NeedRow.kept {l : List UnitV} {subs : List SubV} {N : Nat} {vs : List Value} {nl : List (List Int)} {w w' : World} {X : List Nat} (h : NeedRow l subs N vs nl w) (hk : Kept X w w') (hx : ∀ k, k ∈ X → k < N) : NeedRow l subs N vs nl w' :=
  ⟨h.len, fun i x hi => by
    obtain ⟨v, h1, h2, h3⟩ := h.at' i x hi
    exact ⟨v, h1, h2.apart hk (fun k hk' hm => by have := h3 k hk'; have := hx k hm; omega), h3⟩, h.need⟩
theorem NeedRow.snoc {l : List UnitV} {subs : List SubV} {N : Nat} {vs : List Value} {nl : List (List Int)} {w : World} (h : NeedRow l subs N vs nl w) {v : Value} {x : List Int} (hlt : nl.length < l.length) (hi : IntsC w v x) (hn : NeedList l subs nl.length x) (hf : ∀ k, v.ownBlock = some k → N ≤ k) : NeedRow l subs N (vs.set nl.length v) (nl ++ [x]) w := by
  refine ⟨by rw [List.length_set]; exact h.len, fun i y hy => ?_, fun i y hy => ?_⟩
  · by_cases e : i < nl.length
    · rw [List.getElem?_append_left e] at hy
      obtain ⟨u, h1, h2⟩ := h.at' i y hy
      exact ⟨u, by rw [List.getElem?_set_ne (by omega)]; exact h1, h2⟩
    · rw [List.getElem?_append_right (by omega)] at hy
      have hz : i - nl.length = 0 := by have := (List.getElem?_eq_some_iff.1 hy).1; simp at this; omega
      rw [hz] at hy
      simp at hy
      subst hy
      have ei : i = nl.length := by omega
      subst ei
      exact ⟨v, by rw [List.getElem?_set_self (by rw [h.len]; exact hlt)], hi, hf⟩
  · by_cases e : i < nl.length
    · rw [List.getElem?_append_left e] at hy
      exact h.need i y hy
    · rw [List.getElem?_append_right (by omega)] at hy
      have hz : i - nl.length = 0 := by have := (List.getElem?_eq_some_iff.1 hy).1; simp at this; omega
      rw [hz] at hy
      simp at hy
      subst hy
      rw [show i = nl.length by omega]; exact hn

theorem fins_of {m : Nat} : ∀ (xs : List Int), (∀ x, x ∈ xs → 0 ≤ x ∧ x < (m + 1 : Nat)) → ∃ zs : List (Fin (m + 1)), xs = zs.map (fun i => (i.val : Int)) := by
  intro xs
  induction xs with
  | nil => intro _; exact ⟨[], rfl⟩
  | cons x xs ih =>
    intro h
    obtain ⟨zs, hz⟩ := ih (fun y hy => h y (by simp [hy]))
    obtain ⟨h0, h1⟩ := h x (by simp)
    exact ⟨⟨x.toNat, by omega⟩ :: zs, by rw [List.map_cons, ← hz]; congr 1; show x = ((x.toNat : Nat) : Int); omega⟩

/-- The closure !taken[n]. -/
theorem left_gives (W : World) (Gb Gt n i : Nat) (t : List Bool) (hi : i < n) (hn : n ≤ 100000) (ht : t.length = n) (hb : W.cell? ⟨Gb, 0, none⟩ = some (.slice (some ⟨Gt, 0, none⟩) n n)) (hr : BRow W Gt t) :
    FnGives Try.prog 29 #[.pointer (some ⟨Gb, 0, none⟩)] #[.int .i64 (i : Int)] (.bool (!tk t i)) W := by
  show Calls Try.prog 29 #[.int .i64 (i : Int), .pointer (some ⟨Gb, 0, none⟩)] W _
  obtain ⟨b, hb'⟩ : ∃ b, t[i]? = some b := ⟨_, List.getElem?_eq_getElem (by omega)⟩
  have q := hr.cell hb'
  have HT : Hid (tk t i = b) := by rw [Hid, tk, hb']; rfl
  clear hb' hr ht
  go_enter Try.func29, Try.ntmps29
  go_wp2_with fail
  go_ret
  exact ⟨by rw [HT.out]; rfl, 0, rfl⟩

theorem contains_left (w : World) (v : Value) (xs : List Int) (Gb Gt n : Nat) (t : List Bool) (hv : IntsC w v xs) (hx : ∀ x, x ∈ xs → 0 ≤ x ∧ x < (n : Int)) (hn : n ≤ 100000) (h0 : 0 < n) (ht : t.length = n) (hb : w.cell? ⟨Gb, 0, none⟩ = some (.slice (some ⟨Gt, 0, none⟩) n n)) (hr : BRow w Gt t) :
    Calls Try.prog 28 #[v, .func (.func 29) #[] #[.pointer (some ⟨Gb, 0, none⟩)]] w fun e w' => e = .returned (.bool (!allTk t xs)) ∧ Kept [] w w' := by
  obtain ⟨a, c, rfl, h1, h2, h3, h4⟩ := hv
  rcases h4 with rfl | ⟨b, o, rfl, hc⟩
  · refine (Try.slices_ContainsFunc_empty (α := Int) a c _ w).mono ?_
    rintro e w' ⟨he, rfl⟩
    exact ⟨he, Kept.refl _ _⟩
  · obtain ⟨m, rfl⟩ : ∃ m, n = m + 1 := ⟨n - 1, by omega⟩
    obtain ⟨zs, rfl⟩ := fins_of xs hx
    have hB : Gb < w.heap.size := World.block_lt_of_cell? w _ hb
    have hp : PredAt Try.prog 29 #[.pointer (some ⟨Gb, 0, none⟩)] (encF (m := m)) (fun i => !tk t i.val) w := fun W i hbl =>
      left_gives W Gb Gt (m + 1) i.val t i.isLt hn ht ((hbl.cell (p := ⟨Gb, 0, none⟩) hB).trans hb) ((hbl.block Gt hr.lt).trans hr)
    have := Try.slices_ContainsFunc (encF (m := m)) (fun i => !tk t i.val) 29 #[.pointer (some ⟨Gb, 0, none⟩)] eg29 b o zs.length c zs w hp (Nat.le_refl _) (by simp at h1; omega) (fun j hj => by
      rw [hc j (zs[j].val : Int) (by simp [hj])]
      simp [encF, getElem!_pos, hj])
    rw [List.length_map]
    refine this.mono ?_
    rintro e w' ⟨he, q, rfl⟩
    rw [List.take_length] at he
    refine ⟨?_, Kept.drewN _ _ _⟩
    rw [he]
    congr 2
    unfold allTk
    clear this hc hx h1 he
    induction zs with
    | nil => rfl
    | cons z zs ih => rw [List.any_cons, List.map_cons, List.all_cons, ih, Bool.not_and, Int.toNat_natCast]
end Go.Proofs.Ytoaklikkepkhfaa
