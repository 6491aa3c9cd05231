/- Memory and plain laws of ElabMoved: the row of places, the list in the opposite order, the list with a unit more. -/
import Derived.Test.YtoaklikkepkhfaaP7
import Derived.Test.YtoaklikkepkhfaaP8
namespace Go.Proofs.Ytoaklikkepkhfaa
open Go.RowKit

theorem unit_infoM : (Try.prog.info? 44).map (fun i => (i.zero, i.size, i.bytes)) = some (some (.agg #[.string ⟨#[]⟩, .bool false, .slice none 0 0, .slice none 0 0]), 4, 72) := by kernel_rfl
theorem sub_infoM : (Try.prog.info? 42).map (fun i => (i.zero, i.size, i.bytes)) = some (some (.agg #[.int .i64 0, .slice none 0 0]), 2, 32) := by kernel_rfl

/-- The row of places while it is laid. -/
def toR (n k : Nat) : List Int := (List.range n).map fun j : Nat => if j < k then oppI n j else 0
def toV (n k : Nat) : List Value := (toR n k).map (Value.int .i64)
theorem toR_get {n k j : Nat} (hj : j < n) (hk : j < k) : (toR n k)[j]? = some (oppI n j) := by
  unfold toR
  rw [List.getElem?_map, List.getElem?_range hj]
  simp [hk]
theorem toV_get {n k j : Nat} (hj : j < n) (hk : j < k) : (toV n k)[j]? = some (.int .i64 (oppI n j)) := by
  unfold toV
  rw [List.getElem?_map, toR_get hj hk]; rfl
theorem toV_old {n k : Nat} (h : k < n) : ∃ v, (toV n k)[k]? = some v := ⟨_, List.getElem?_eq_getElem (by simp [toV, toR, h])⟩
theorem toV_zero (n : Nat) : toV n 0 = List.replicate n (.int .i64 0) := by
  unfold toV toR
  apply List.ext_getElem?
  intro i
  rw [List.getElem?_map, List.getElem?_map, List.getElem?_replicate]
  by_cases h : i < n
  · rw [List.getElem?_range h, if_pos h]; simp
  · rw [List.getElem?_eq_none (by simpa using h), if_neg h]; rfl
theorem toV_set {n k : Nat} (h : k < n) : (toV n k).set k (.int .i64 (oppI n k)) = toV n (k + 1) := by
  apply List.ext_getElem?
  intro i
  have hl : (toV n k).length = n := by simp [toV, toR]
  have hl' : (toV n (k + 1)).length = n := by simp [toV, toR]
  rcases Nat.lt_or_ge i n with hi | hi
  · rw [List.getElem?_set]
    by_cases e : k = i
    · subst e
      rw [if_pos rfl, if_pos (by omega), toV_get h (by omega)]
    · rw [if_neg e]
      unfold toV toR
      simp only [List.getElem?_map, List.getElem?_range hi, Option.map_some]
      by_cases h1 : i < k
      · rw [if_pos h1, if_pos (by omega)]
      · rw [if_neg h1, if_neg (by omega)]
  · rw [List.getElem?_eq_none (by simp; omega), List.getElem?_eq_none (by omega)]

/-- Rows of a slice of the call's own. -/
theorem rows_own {α : Type} {m : Nat} {cells : α → List Value} {w : World} {base e n : Nat} {v : Value} {l : List α} (h : w.ownsRow base e m v n (l.map cells).flatten) (hm : ∀ x, (cells x).length = m) (hl : l.length = n) :
    ∃ A c, v = .slice A n c ∧ n ≤ c ∧ c ≤ 9223372036854775807 ∧ (A = none → c = 0) ∧ RowsAt α m cells w A l := by
  rcases id h.2 with ⟨rfl, hn⟩ | ⟨g, cap, cur, rfl, hb, hg, hcap, hmax, _⟩
  · exact ⟨none, 0, by rw [hn], by omega, by omega, fun _ => rfl, .inl (List.eq_nil_of_length_eq_zero (by omega))⟩
  · refine ⟨_, cap, rfl, hcap, by unfold maxLen at hmax; omega, (fun h => by cases h), .inr ⟨g, 0, rfl, fun j r hr i u hu => ?_⟩⟩
    have h1 := flat_get (l.map cells) (m := m) (fun r hr => by obtain ⟨x, _, rfl⟩ := List.mem_map.1 hr; exact hm x) j (cells r) (by rw [List.getElem?_map, hr]; rfl) i u hu
    have := h.cells (g := g) rfl (j * m + i) u h1
    rwa [Addr.add_mid, show 0 + (j * m + i) = 0 + j * m + i by omega] at this

theorem RowsAt.src {α : Type} {m : Nat} {cells : α → List Value} {w : World} {A : Option Addr} {l : List α} (h : RowsAt α m cells w A l) (hm : ∀ x, (cells x).length = m) (h0 : 0 < m) : SrcAt w m A l.length (l.map cells).flatten := by
  have hlen : (l.map cells).flatten.length = l.length * m := by
    clear h
    induction l with
    | nil => simp
    | cons a l ih => rw [List.map_cons, List.flatten_cons, List.length_append, ih, hm, List.length_cons, Nat.succ_mul]; omega
  refine ⟨hlen, fun hl => ?_⟩
  rcases h with rfl | ⟨b, o, rfl, hc⟩
  · simp at hl
  · refine ⟨_, rfl, fun j u hu => ?_⟩
    have hj : j < l.length * m := by have := (List.getElem?_eq_some_iff.1 hu).1; omega
    have hk : j / m < l.length := Nat.div_lt_of_lt_mul (by rw [Nat.mul_comm]; exact hj)
    have hx : l[j / m]? = some (l[j / m]) := List.getElem?_eq_getElem hk
    have hmod : j % m < (cells l[j / m]).length := by rw [hm]; exact Nat.mod_lt _ h0
    obtain ⟨v, hv⟩ : ∃ v, (cells l[j / m])[j % m]? = some v := ⟨_, List.getElem?_eq_getElem hmod⟩
    have h1 := flat_get (l.map cells) (m := m) (fun r hr => by obtain ⟨x, _, rfl⟩ := List.mem_map.1 hr; exact hm x) (j / m) _ (by rw [List.getElem?_map, hx]; rfl) (j % m) v hv
    have e : j / m * m + j % m = j := by rw [Nat.mul_comm]; exact Nat.div_add_mod j m
    rw [e, hu] at h1
    injection h1 with h1
    subst h1
    have := hc _ _ hx _ _ hv
    rw [Addr.add_mid, show o + j = o + j / m * m + j % m by omega]
    exact this
theorem own_empty (w : World) : (w.alloc (.cells #[] 44)).ownsRow w.heap.size 44 4 (.slice (some ⟨w.heap.size, 0, none⟩) 0 0) 0 [] :=
  ⟨rfl, .inr ⟨w.heap.size, 0, #[], rfl, Nat.le_refl _, heap_alloc_new _ _, Nat.le_refl _, Nat.zero_le _, rfl, rfl⟩⟩
theorem units_one (l : List UnitV) : ∀ u, u ∈ (l.map UnitV.cells).flatten → u.oneCell' = true := by
  intro u hu
  simp only [List.mem_flatten, List.mem_map] at hu
  obtain ⟨r, ⟨x, _, rfl⟩, hr⟩ := hu
  simp [UnitV.cells] at hr
  rcases hr with rfl | rfl | rfl | rfl <;> rfl
theorem UnitV.cells_len (x : UnitV) : x.cells.length = 4 := rfl
theorem SubV.cells_len (x : SubV) : x.cells.length = 2 := rfl

/- A list of units in the opposite order, while it is laid. -/
structure TurnU (w : World) (n : Nat) (x y : UnitV) : Prop where
  name : y.name = x.name
  body : y.body = x.body
  needs : y.needs = x.needs.map (oppI n)
  calls : y.calls = x.calls
  ca : y.ca = x.ca
  cc : y.cc = x.cc
  at_ : IntsIn w y.na y.needs
  n1 : y.needs.length ≤ y.nc
  n2 : y.nc ≤ 9223372036854775807
  n3 : y.na = none → y.nc = 0
def TurnRow (l : List UnitV) (U k : Nat) (w : World) : Prop :=
  ∃ rows : List UnitV, rows.length = l.length ∧ VRow w U 44 (rows.map UnitV.cells).flatten ∧ ∀ (j : Nat) x, j < k → l[j]? = some x → ∃ y, rows[opp l.length j]? = some y ∧ TurnU w l.length x y

theorem TurnU.kept {w w' : World} {n : Nat} {x y : UnitV} (h : TurnU w n x y) (hk : Kept [] w w') : TurnU w' n x y :=
  ⟨h.name, h.body, h.needs, h.calls, h.ca, h.cc, h.at_.kept hk, h.n1, h.n2, h.n3⟩
theorem TurnRow.kept {l : List UnitV} {U k : Nat} {w w' : World} (h : TurnRow l U k w) (hk : Kept [] w w') : TurnRow l U k w' := by
  obtain ⟨rows, h1, h2, h3⟩ := h
  exact ⟨rows, h1, h2.kept hk (by simp), fun j x hj hx => by obtain ⟨y, hy, ht⟩ := h3 j x hj hx; exact ⟨y, hy, ht.kept hk⟩⟩

theorem unit_no_int {rows : List UnitV} {k : IntKind} {z : Int} (h : Value.int k z ∈ (rows.map UnitV.cells).flatten) : False := by
  simp only [List.mem_flatten, List.mem_map] at h
  obtain ⟨r, ⟨x, _, rfl⟩, hr⟩ := h
  simp [UnitV.cells] at hr
theorem IntsIn.offU {w w' : World} {U : Nat} {rows : List UnitV} {A : Option Addr} {xs : List Int} (h : IntsIn w A xs) (hb : VRow w U 44 (rows.map UnitV.cells).flatten) (hk : Kept [U] w w') : IntsIn w' A xs := by
  rcases h with h | ⟨b, o, rfl, hc⟩
  · exact .inl h
  · by_cases e : b = U
    · subst e
      cases xs with
      | nil => exact .inl rfl
      | cons x xs =>
        have h0 := hc 0 x rfl
        rw [cell_of_row _ _ _ _ _ _ hb] at h0
        exact (unit_no_int (List.mem_of_getElem? (by simpa using h0))).elim
    · exact .inr ⟨b, o, rfl, fun j x hj => hk.cell (hc j x hj) (by simpa using e)⟩
theorem IntsC.offU {w w' : World} {U : Nat} {rows : List UnitV} {v : Value} {xs : List Int} (h : IntsC w v xs) (hb : VRow w U 44 (rows.map UnitV.cells).flatten) (hk : Kept [U] w w') : IntsC w' v xs := by
  obtain ⟨a, c, rfl, h1, h2, h3, h4⟩ := h
  exact IntsIn.c (IntsIn.offU h4 hb hk) h1 h2 h3

theorem flat_set : ∀ (rows : List UnitV) (i : Nat) (y : UnitV), i < rows.length →
    ((rows.set i y).map UnitV.cells).flatten = (((((rows.map UnitV.cells).flatten.set (i * 4) (.string y.name)).set (i * 4 + 1) (.bool y.body)).set (i * 4 + 2) (.slice y.na y.needs.length y.nc)).set (i * 4 + 3) (.slice y.ca y.calls.length y.cc)) := by
  intro rows
  induction rows with
  | nil => intro i y h; simp at h
  | cons a rows ih =>
    intro i y h
    cases i with
    | zero => simp [UnitV.cells]
    | succ i =>
      have h' : i < rows.length := by simpa using h
      have e : (i + 1) * 4 = i * 4 + 1 + 1 + 1 + 1 := by omega
      simp only [List.set_cons_succ, List.map_cons, List.flatten_cons, e]
      rw [ih i y h']
      simp [UnitV.cells]

theorem setCells_row {w : World} {U : Nat} {rows : List UnitV} (h : VRow w U 44 (rows.map UnitV.cells).flatten) {i : Nat} (hi : i < rows.length) (y : UnitV) :
    VRow (w.setCells U (i * 4) y.cells) U 44 ((rows.set i y).map UnitV.cells).flatten ∧ Kept [U] w (w.setCells U (i * 4) y.cells) := by
  rw [flat_set rows i y hi]
  unfold UnitV.cells
  simp only [World.setCells]
  refine ⟨(((h.set (i * 4) _).set (i * 4 + 1) _).set (i * 4 + 2) _).set (i * 4 + 3) _, ?_⟩
  exact (((Kept.setCell _ _ _ (by simp)).trans (Kept.setCell _ _ _ (by simp))).trans (Kept.setCell _ _ _ (by simp))).trans (Kept.setCell _ _ _ (by simp))

theorem kept4 {w w' : World} {U : Nat} (h : Kept [] w w') (p : Nat) (a b c d : Value) : Kept [U] w ((((w'.setCell ⟨U, p, none⟩ a).setCell ⟨U, p + 1, none⟩ b).setCell ⟨U, p + 2, none⟩ c).setCell ⟨U, p + 3, none⟩ d) :=
  ((((h.mono (by simp)).trans (Kept.setCell _ _ _ (by simp))).trans (Kept.setCell _ _ _ (by simp))).trans (Kept.setCell _ _ _ (by simp))).trans (Kept.setCell _ _ _ (by simp))
theorem TurnRow.there {l : List UnitV} {U k : Nat} {w : World} (h : TurnRow l U k w) {i : Nat} (hi : i < l.length) : w.there U (i * 4) 4 := by
  obtain ⟨rows, h1, h2, h3⟩ := h
  intro j hj
  have hlen : (rows.map UnitV.cells).flatten.length = rows.length * 4 := by
    clear h2 h3 h1
    induction rows with
    | nil => rfl
    | cons a r ih => simp only [List.map_cons, List.flatten_cons, List.length_append, ih, UnitV.cells_len, List.length_cons]; omega
  refine ⟨?_, h2.frozen _⟩
  rw [cell_of_row _ _ _ _ _ _ h2]
  rw [List.getElem?_toArray, List.getElem?_eq_getElem (by omega)]
  rfl

theorem TurnRow.olds {l : List UnitV} {U k : Nat} {w : World} (h : TurnRow l U k w) {i : Nat} (hi : i < l.length) :
    (∃ v0 v1 v2 v3, w.cell? ⟨U, i * 4, none⟩ = some v0 ∧ w.cell? ⟨U, i * 4 + 1, none⟩ = some v1 ∧ w.cell? ⟨U, i * 4 + 2, none⟩ = some v2 ∧ w.cell? ⟨U, i * 4 + 3, none⟩ = some v3) ∧
    w.frozen? ⟨U, i * 4, none⟩ = false ∧ w.frozen? ⟨U, i * 4 + 1, none⟩ = false ∧ w.frozen? ⟨U, i * 4 + 2, none⟩ = false ∧ w.frozen? ⟨U, i * 4 + 3, none⟩ = false := by
  have t := h.there hi
  obtain ⟨v0, h0⟩ := Option.isSome_iff_exists.1 (t 0 (by omega)).1
  obtain ⟨v1, h1⟩ := Option.isSome_iff_exists.1 (t 1 (by omega)).1
  obtain ⟨v2, h2⟩ := Option.isSome_iff_exists.1 (t 2 (by omega)).1
  obtain ⟨v3, h3⟩ := Option.isSome_iff_exists.1 (t 3 (by omega)).1
  exact ⟨⟨v0, v1, v2, v3, h0, h1, h2, h3⟩, (t 0 (by omega)).2, (t 1 (by omega)).2, (t 2 (by omega)).2, (t 3 (by omega)).2⟩

theorem TurnRow.snoc {l : List UnitV} {U k : Nat} {w : World} (h : TurnRow l U k w) {x y : UnitV} (hx : l[k]? = some x) (hy : TurnU w l.length x y) : TurnRow l U (k + 1) (w.setCells U (opp l.length k * 4) y.cells) := by
  obtain ⟨rows, h1, h2, h3⟩ := h
  have hk := (List.getElem?_eq_some_iff.1 hx).1
  obtain ⟨q1, q2⟩ := setCells_row h2 (i := opp l.length k) (by rw [h1]; exact opp_lt hk) y
  have T : ∀ {x y : UnitV}, TurnU w l.length x y → TurnU (w.setCells U (opp l.length k * 4) y.cells) l.length x y := fun {x y} t => ⟨t.name, t.body, t.needs, t.calls, t.ca, t.cc, t.at_.offU h2 (setCells_row h2 (by rw [h1]; exact opp_lt hk) y).2, t.n1, t.n2, t.n3⟩
  refine ⟨rows.set (opp l.length k) y, by rw [List.length_set, h1], q1, fun j x' hj hx' => ?_⟩
  have hjl := (List.getElem?_eq_some_iff.1 hx').1
  rw [List.getElem?_set]
  by_cases e : j = k
  · subst e
    rw [hx] at hx'
    injection hx' with hx'
    subst hx'
    exact ⟨y, by rw [if_pos rfl, if_pos (by rw [h1]; exact opp_lt hk)], T hy⟩
  · obtain ⟨y', hy', t⟩ := h3 j x' (by omega) hx'
    refine ⟨y', ?_, ⟨t.name, t.body, t.needs, t.calls, t.ca, t.cc, t.at_.offU h2 q2, t.n1, t.n2, t.n3⟩⟩
    rw [if_neg (by unfold opp; omega)]
    exact hy'

/-- The zero list of units, made. -/
theorem made_units {n : Nat} : (madeCells (Value.agg #[.string ⟨#[]⟩, .bool false, .slice none 0 0, .slice none 0 0]).cells (n * 4)).toList = ((List.replicate n zeroU).map UnitV.cells).flatten := by
  apply List.ext_getElem?
  intro q
  have hlen : ∀ n, ((List.replicate n zeroU).map UnitV.cells).flatten.length = n * 4 := by
    intro n
    induction n with
    | zero => rfl
    | succ n ih => rw [List.replicate_succ, List.map_cons, List.flatten_cons, List.length_append, ih, UnitV.cells_len]; omega
  rcases Nat.lt_or_ge q (n * 4) with hq | hq
  · have h1 := made_get (Value.agg #[.string ⟨#[]⟩, .bool false, .slice none 0 0, .slice none 0 0]).cells (by decide) n (q / 4) (q % 4) (Nat.mod_lt _ (by omega)) (by omega)
    have e : q / 4 * 4 + q % 4 = q := by omega
    have e' : q / 4 * (Value.agg #[.string ⟨#[]⟩, .bool false, .slice none 0 0, .slice none 0 0]).cells.size + q % 4 = q := e
    obtain ⟨u, hu⟩ : ∃ u, zeroU.cells[q % 4]? = some u := ⟨_, List.getElem?_eq_getElem (by rw [UnitV.cells_len]; exact Nat.mod_lt _ (by omega))⟩
    have h2 := flat_get ((List.replicate n zeroU).map UnitV.cells) (m := 4) (fun r hr => by obtain ⟨x, _, rfl⟩ := List.mem_map.1 hr; rfl) (q / 4) zeroU.cells (by rw [List.getElem?_map, List.getElem?_replicate, if_pos (by omega)]; rfl) (q % 4) u hu
    rw [e] at h2
    rw [h2, ← hu]
    have h1' := h1
    simp only [e'] at h1'
    exact h1'
  · rw [List.getElem?_eq_none (by simpa [size_madeCells] using hq), List.getElem?_eq_none (by rw [hlen]; exact hq)]
theorem TurnRow.begin {w : World} {base : Nat} {l : List UnitV} {U : Nat} (h : w.ownsRow base 44 4 (.slice (some ⟨U, 0, none⟩) l.length l.length) l.length (madeCells (Value.agg #[.string ⟨#[]⟩, .bool false, .slice none 0 0, .slice none 0 0]).cells (l.length * 4)).toList) : TurnRow l U 0 w := by
  rw [made_units] at h
  rcases h.2 with ⟨e, _⟩ | ⟨g, cap, cur, e, hb, hg, hcap, hmax, hcur, htk⟩
  · injection e with e; cases e
  · injection e with e1 _ e2
    injection e1 with e1
    injection e1 with e1
    subst e1 e2
    refine ⟨List.replicate l.length zeroU, by simp, ?_, fun j x hj => by omega⟩
    rw [← htk, List.take_of_length_le (by simp [hcur])]
    exact hg

theorem TurnRow.units {l : List UnitV} {U : Nat} {w : World} (h : TurnRow l U l.length w) {ua : Option Addr} {uc : Nat} {sa : Option Addr} {sc : Nat} {subs : List SubV} (hE : Env w ua uc l sa sc subs) (h3 : l.length ≤ 1000) :
    ∃ l' : List UnitV, l'.length = l.length ∧ UEnv w (some ⟨U, 0, none⟩) l'.length l' ∧ ∀ (i : Nat) (x : UnitV), l[i]? = some x → ∃ y, l'[opp l.length i]? = some y ∧ y.name = x.name ∧ y.body = x.body ∧ y.needs = x.needs.map (oppI l.length) ∧ y.calls = x.calls := by
  obtain ⟨rows, h1, h2, hr⟩ := h
  have back : ∀ y, y ∈ rows → ∃ x, x ∈ l ∧ TurnU w l.length x y := fun y hy => by
    obtain ⟨i, hi⟩ := List.mem_iff_getElem?.1 hy
    have hil := (List.getElem?_eq_some_iff.1 hi).1
    have hx : l[opp l.length i]? = some (l[opp l.length i]'(opp_lt (by omega))) := List.getElem?_eq_getElem _
    obtain ⟨y', hy', t⟩ := hr _ _ (opp_lt (by omega)) hx
    rw [opp_opp (by omega), hi] at hy'
    injection hy' with hy'
    subst hy'
    exact ⟨_, List.mem_of_getElem? hx, t⟩
  refine ⟨rows, h1, ⟨rows_block h2 UnitV.cells_len, fun y hy => ?_, fun y hy => ?_, fun y hy => ?_, Nat.le_refl _, by omega, fun h => by cases h⟩, fun i x hx => ?_⟩
  · obtain ⟨x, hx, t⟩ := back y hy
    exact t.at_
  · obtain ⟨x, hx, t⟩ := back y hy
    rw [t.ca, t.calls]
    exact hE.uk x hx
  · obtain ⟨x, hx, t⟩ := back y hy
    have o := hE.uok x hx
    exact ⟨t.n1, t.n2, t.n3, by rw [t.needs, List.length_map]; exact o.n4, by rw [t.calls, t.cc]; exact o.c1, by rw [t.cc]; exact o.c2, by rw [t.ca, t.cc]; exact o.c3, by rw [t.calls]; exact o.c4, by rw [t.name]; exact o.s4⟩
  · obtain ⟨y, hy, t⟩ := hr i x (List.getElem?_eq_some_iff.1 hx).1 hx
    exact ⟨y, hy, t.name, t.body, t.needs, t.calls⟩

/- The subprograms of the opposite order. -/
def subT (n : Nat) (x : SubV) : SubV := ⟨oppI n x.unit, x.ca, x.cc, x.calls⟩
theorem small_wf {x : Int} (h0 : -9223372036854775808 ≤ x) (h1 : x ≤ 9223372036854775807) : (Lit.int .i64 x).wf = true := by
  simp only [Lit.wf, Bool.and_eq_true, decide_eq_true_eq]
  exact ⟨h0, h1⟩
theorem subs_turned {w : World} {base n : Nat} {v : Value} {ua : Option Addr} {uc : Nat} {l : List UnitV} {sa : Option Addr} {sc : Nat} {subs : List SubV} (hE : Env w ua uc l sa sc subs) (hm : May l subs) (hl : l.length ≤ 1000) (h : w.ownsRow base 42 2 v subs.length ((subs.map (subT n)).map SubV.cells).flatten) (hn : n = l.length) :
    ∃ A c, v = .slice A (subs.map (subT n)).length c ∧ SEnv w A c (subs.map (subT n)) := by
  obtain ⟨A, c, rfl, h1, h2, h3, h4⟩ := rows_own h SubV.cells_len (by simp)
  refine ⟨A, c, by simp, h4, fun y hy => ?_, fun y hy => ?_, by simpa using h1, h2, h3⟩
  · obtain ⟨x, hx, rfl⟩ := List.mem_map.1 hy
    exact hE.sk x hx
  · obtain ⟨x, hx, rfl⟩ := List.mem_map.1 hy
    have o := hE.sok x hx
    have := hm.unit x hx
    exact ⟨small_wf (by simp only [subT, oppI]; omega) (by simp only [subT, oppI]; omega), o.c1, o.c2, o.c3, o.c4⟩
theorem turned_of {l l' : List UnitV} {subs : List SubV} (hl : l'.length = l.length) (h : ∀ (i : Nat) (x : UnitV), l[i]? = some x → ∃ y, l'[opp l.length i]? = some y ∧ y.name = x.name ∧ y.body = x.body ∧ y.needs = x.needs.map (oppI l.length) ∧ y.calls = x.calls) : Turned l l' subs (subs.map (subT l.length)) :=
  ⟨hl, by simp, h, fun s x hx => ⟨subT l.length x, by rw [List.getElem?_map, hx]; rfl, rfl, rfl⟩⟩

theorem allCalls_turned {n : Nat} (subs : List SubV) : allCalls (subs.map (subT n)) = allCalls subs := by
  unfold allCalls
  rw [List.map_map]
  rfl
theorem room_turned {l l' : List UnitV} {subs : List SubV} (hs : SmallE l subs) (h : Turned l l' subs (subs.map (subT l.length))) : Room l' (subs.map (subT l.length)) := by
  have back : ∀ y, y ∈ l' → ∃ x, x ∈ l ∧ y.needs = x.needs.map (oppI l.length) ∧ y.calls = x.calls := fun y hy => by
    obtain ⟨i, hi⟩ := List.mem_iff_getElem?.1 hy
    obtain ⟨x, hx, _, _, h3, h4⟩ := h.unit' hi
    exact ⟨x, List.mem_of_getElem? hx, h3, h4⟩
  refine ⟨fun y hy => ?_, fun y hy => ?_, by rw [h.len]; exact hs.room.l300⟩
  · obtain ⟨x, hx, h3, _⟩ := back y hy
    rw [h3, List.length_map]; exact hs.room.n x hx
  · obtain ⟨x, hx, _, h4⟩ := back y hy
    rw [h4, allCalls_turned]; exact hs.room.c x hx

/- A unit more. -/
def unitN (s : ByteArray) : UnitV := ⟨s, false, none, 0, [], none, 0, []⟩
theorem units_more {w : World} {base : Nat} {v : Value} {ua : Option Addr} {uc : Nat} {l : List UnitV} {sa : Option Addr} {sc : Nat} {subs : List SubV} {s : ByteArray} (hE : Env w ua uc l sa sc subs) (hs : s.size ≤ 100) (h : w.ownsRow base 44 4 v (l.length + 1) ((l ++ [unitN s]).map UnitV.cells).flatten) :
    ∃ A c, v = .slice A (l ++ [unitN s]).length c ∧ UEnv w A c (l ++ [unitN s]) := by
  obtain ⟨A, c, rfl, h1, h2, h3, h4⟩ := rows_own h UnitV.cells_len (by simp)
  have hm : ∀ y, y ∈ l ++ [unitN s] → y ∈ l ∨ y = unitN s := fun y hy => by simpa using hy
  refine ⟨A, c, by simp, h4, fun y hy => ?_, fun y hy => ?_, fun y hy => ?_, by simpa using h1, h2, h3⟩
  · rcases hm y hy with h | rfl
    · exact hE.un y h
    · exact .inl rfl
  · rcases hm y hy with h | rfl
    · exact hE.uk y h
    · exact .inl rfl
  · rcases hm y hy with h | rfl
    · exact hE.uok y h
    · constructor <;> first | (simp [unitN]; done) | (simp only [unitN]; omega)
theorem room_more {l : List UnitV} {subs : List SubV} {s : ByteArray} (hs : SmallE l subs) (hl : l.length ≤ 39) : Room (l ++ [unitN s]) subs := by
  have hm : ∀ y, y ∈ l ++ [unitN s] → y ∈ l ∨ y = unitN s := fun y hy => by simpa using hy
  refine ⟨fun y hy => ?_, fun y hy => ?_, by simp; omega⟩
  · rcases hm y hy with h | rfl
    · exact hs.room.n y h
    · simp [unitN]
  · rcases hm y hy with h | rfl
    · exact hs.room.c y h
    · have := hs.ac
      simp only [unitN, List.length_nil]
      omega

/- What the three orders say of each other. -/
theorem order_range {l : List UnitV} {subs : List SubV} {ns : List Nat} {nl : List (List Int)} (hn : NeedsOk l subs nl) {o : List Nat} (h : orderR ns nl = some o) : ∀ i, i ∈ o → i < l.length := by
  intro i hi
  obtain ⟨k, hk⟩ := List.mem_iff_getElem?.1 hi
  have := ((orderR_some h).2 k i hk).1
  have := (List.getElem?_eq_some_iff.1 this).1
  rw [takenAt_len, List.length_replicate, hn.len] at this
  exact this
theorem order_parts {l : List UnitV} {subs : List SubV} (hm : May l subs) {xs : List Int} {er : Int} (h : OrderRes l subs xs er) : ∃ ns nl, NamesOk l ns ∧ NeedsOk l subs nl ∧ xs = (orderI (orderR ns nl)).1 ∧ er = (orderI (orderR ns nl)).2 := by
  rcases h with h | h
  · rw [hm.yes] at h; cases h.1
  · exact h.2
theorem moved_turn {l l' : List UnitV} {subs subs' : List SubV} (ht : Turned l l' subs subs') (hm : May l subs) (hn : NoTies l) {a b : List Int} {e f : Int} (ha : OrderRes l subs a e) (hb : OrderRes l' subs' b f) :
    f = e ∧ b = a.map (oppI l.length) ∧ ∀ x, x ∈ a → 0 ≤ x ∧ x < l.length := by
  obtain ⟨ns, nl, h1, h2, rfl, rfl⟩ := order_parts hm ha
  obtain ⟨ns', nl', h1', h2', rfl, rfl⟩ := order_parts (ht.may hm) hb
  rw [orderR_turned ht hm h2 h2' h1 h1' hn]
  cases ho : orderR ns nl with
  | none => exact ⟨rfl, rfl, fun x hx => by simp [orderI] at hx⟩
  | some o =>
    have hr := order_range h2 ho
    refine ⟨rfl, ?_, fun x hx => ?_⟩
    · simp only [Option.map_some, orderI, List.map_map]
      apply List.map_congr_left
      intro i hi
      simp only [Function.comp]
      rw [oppI_nat (hr i hi)]
    · simp only [orderI, List.mem_map] at hx
      obtain ⟨i, hi, rfl⟩ := hx
      have := hr i hi
      omega
def restI (n : Nat) (c : List Int) : List Int := c.filter fun x => x != (n : Int)
theorem moved_more {l : List UnitV} {subs : List SubV} {s : ByteArray} (hm : May l subs) (hl : l.length < 256) {a c : List Int} {e g : Int} (ha : OrderRes l subs a e) (hc : OrderRes (l ++ [unitN s]) subs c g) :
    g = e ∧ a = restI l.length c ∧ (e = 0 → c.length = l.length + 1) ∧ c.length ≤ 256 := by
  obtain ⟨ns, nl, h1, h2, rfl, rfl⟩ := order_parts hm ha
  obtain ⟨ns', nl', h1', h2', rfl, rfl⟩ := order_parts (may_app hm rfl rfl hl) hc
  rw [← orderR_app hm rfl rfl h2 h2' h1 h1']
  cases ho : orderR ns' nl' with
  | none => exact ⟨rfl, rfl, fun h => by simp [orderI] at h, by simp [orderI]⟩
  | some o =>
    have hol : o.length = l.length + 1 := by rw [(orderR_some ho).1, h2'.len]; simp
    refine ⟨rfl, ?_, fun _ => ?_, by simp only [orderI, List.length_map]; omega⟩
    · simp only [Option.map_some, orderI, restI]
      rw [List.filter_map]
      congr 1
      apply List.filter_congr
      intro i _
      rw [Bool.eq_iff_iff]
      simp only [Function.comp, bne_iff_ne, ne_eq]
      omega
    · simp only [orderI, List.length_map]
      rw [(orderR_some ho).1, h2'.len]
      simp
theorem restI_zero (n : Nat) (c : List Int) : restI n (c.take 0) = [] := rfl
theorem restI_succ {n k : Nat} {c : List Int} {x : Int} (h : c[k]? = some x) : restI n (c.take (k + 1)) = restI n (c.take k) ++ (if x = (n : Int) then [] else [x]) := by
  obtain ⟨hk, rfl⟩ := List.getElem?_eq_some_iff.1 h
  unfold restI
  rw [List.take_succ_eq_append_getElem hk, List.filter_append]
  by_cases e : c[k] = (n : Int)
  · rw [if_pos e]; simp [e]
  · rw [if_neg e]; simp [e]
end Go.Proofs.Ytoaklikkepkhfaa
