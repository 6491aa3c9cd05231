/- For ElabSafe: rows of lists of numbers; what is left of a row of units. -/
import Derived.Test.YtoaklikkepkhfaaL4
namespace Go.Proofs.Ytoaklikkepkhfaa
open Go.RowKit

theorem has_mem {xs : List Int} {n : Int} (h : n ∈ xs) : hasI xs n = true := by simpa [hasI] using h
theorem need_self {l : List UnitV} {subs : List SubV} {u : Nat} {xs : List Int} (h : NeedList l subs u xs) : hasI xs u = false := by
  have : ¬ (u : Int) ∈ xs := fun hm => ((h.2 _).1 hm).1 rfl
  simpa [hasI] using this
theorem need_sub {l : List UnitV} {subs : List SubV} {u : Nat} {x : UnitV} {xs : List Int} {bs : List Bool} {s : Nat} {y : SubV} (h : NeedList l subs u xs) (hx : l[u]? = some x) (hr : RInv subs x.calls bs []) (hs : subs[s]? = some y) (hb : bs[s]? = some true) (hne : y.unit ≠ (u : Int)) : hasI xs y.unit = true :=
  has_mem ((h.2 _).2 ⟨hne, x, hx, .inr ⟨s, hr.sound s hb, unitOf_eq (by simpa using hs)⟩⟩)
theorem need_own {l : List UnitV} {subs : List SubV} {u k : Nat} {x : UnitV} {xs : List Int} {n : Int} (h : NeedList l subs u xs) (hx : l[u]? = some x) (hk : x.needs[k]? = some n) (hne : n ≠ (u : Int)) : hasI xs n = true :=
  has_mem ((h.2 _).2 ⟨hne, x, hx, .inl (List.mem_of_getElem? hk)⟩)

theorem needsRes_ok {l : List UnitV} {subs : List SubV} {u : Nat} {xs : List Int} {er : Int} (hm : May l subs) (hu : u < l.length) (h : NeedsRes l subs u xs er) : NeedList l subs u xs ∧ er = 0 := by
  rcases h with h | h | h
  · have := hm.yes.symm.trans h.1; cases this
  · have : inR l.length u = true := inR_iff.2 ⟨by omega, by omega⟩
    rw [this] at h; cases h.2.1
  · exact ⟨by simpa using h.2.2.1, h.2.2.2⟩

/-- A row of slices of numbers: the first are those of nl. -/
def SafeRow (l : List UnitV) (subs : List SubV) (G : Nat) (nl : List (List Int)) (w : World) : Prop :=
  ∃ vs : List Value, VRow w G 26 vs ∧ vs.length = l.length ∧ (∀ v, v ∈ vs → ∃ a n c, v = .slice a n c) ∧
    (∀ (i : Nat) x, nl[i]? = some x → ∃ v, vs[i]? = some v ∧ IntsC w v x) ∧ ∀ (i : Nat) x, nl[i]? = some x → NeedList l subs i x
theorem SafeRow.kept {l : List UnitV} {subs : List SubV} {G : Nat} {nl : List (List Int)} {w w' : World} (h : SafeRow l subs G nl w) (hk : Kept [] w w') : SafeRow l subs G nl w' := by
  obtain ⟨vs, h1, h2, h3, h4, h5⟩ := h
  exact ⟨vs, h1.kept hk (by simp), h2, h3, fun i x hx => by obtain ⟨v, e, hv⟩ := h4 i x hx; exact ⟨v, e, hv.kept hk⟩, h5⟩
theorem SafeRow.off {l : List UnitV} {subs : List SubV} {G g : Nat} {bs : List Bool} {nl : List (List Int)} {w w' : World} (h : SafeRow l subs G nl w) (hb : BRow w g bs) (hk : Kept [g] w w') : SafeRow l subs G nl w' := by
  obtain ⟨vs, h1, h2, h3, h4, h5⟩ := h
  have hne : G ≠ g := by
    intro e
    subst e
    unfold BRow at hb
    unfold VRow at h1
    rw [hb] at h1
    injection h1 with h1
    injection h1 with _ h1
    exact absurd h1 (by decide)
  exact ⟨vs, h1.kept hk (by simpa using hne), h2, h3, fun i x hx => by obtain ⟨v, e, hv⟩ := h4 i x hx; exact ⟨v, e, hv.off hb hk⟩, h5⟩
theorem IntsC.offV {w w' : World} {g : Nat} {ty : TypeId} {vs : List Value} {v : Value} {xs : List Int} (h : IntsC w v xs) (hb : VRow w g ty vs) (hs : ∀ v, v ∈ vs → ∃ a n c, v = .slice a n c) (hk : Kept [g] w w') : IntsC w' v xs := by
  obtain ⟨a, c, rfl, h1, h2, h3, h4⟩ := h
  refine ⟨a, c, rfl, h1, h2, h3, ?_⟩
  rcases h4 with h4 | ⟨b, o, rfl, hc⟩
  · exact .inl h4
  · refine .inr ⟨b, o, rfl, fun j x hx => hk.cell (hc j x hx) ?_⟩
    have h := hc j x hx
    intro hm
    simp only [List.mem_singleton] at hm
    subst hm
    rw [cell_of_row _ _ _ _ _ _ hb] at h
    have h' : vs[o + j]? = some (.int .i64 x) := by simpa using h
    obtain ⟨a, n, c, e⟩ := hs _ (List.mem_of_getElem? h')
    cases e
theorem SafeRow.begin {l : List UnitV} {subs : List SubV} {G : Nat} {w : World} (h : VRow w G 26 (List.replicate l.length (.slice none 0 0))) : SafeRow l subs G [] w :=
  ⟨_, h, by simp, fun v hv => ⟨_, _, _, List.eq_of_mem_replicate hv⟩, fun i x hx => by simp at hx, fun i x hx => by simp at hx⟩
theorem SafeRow.snoc {l : List UnitV} {subs : List SubV} {G : Nat} {nl : List (List Int)} {w : World} {a : Option Addr} {c : Nat} {x : List Int} (h : SafeRow l subs G nl w) (hlt : nl.length < l.length) (hi : IntsC w (.slice a x.length c) x) (hn : NeedList l subs nl.length x) : SafeRow l subs G (nl ++ [x]) (w.setCell ⟨G, nl.length, none⟩ (.slice a x.length c)) := by
  obtain ⟨vs, h1, h2, h3, h4, h5⟩ := h
  have hk : Kept [G] w (w.setCell ⟨G, nl.length, none⟩ (.slice a x.length c)) := Kept.setCell _ _ _ (by simp)
  have hcase : ∀ (i : Nat) y, (nl ++ [x])[i]? = some y → nl[i]? = some y ∨ (i = nl.length ∧ y = x) := fun i y hy => by
    by_cases hlt : i < nl.length
    · rw [List.getElem?_append_left hlt] at hy; exact .inl hy
    · rw [List.getElem?_append_right (by omega)] at hy
      have h0 := (List.getElem?_eq_some_iff.1 hy).1
      simp only [List.length_singleton] at h0
      have e : i = nl.length := by omega
      subst e
      simp at hy
      exact .inr ⟨rfl, hy.symm⟩
  refine ⟨vs.set nl.length (.slice a x.length c), h1.set _ _, by simp [h2], fun v hv => ?_, fun i y hy => ?_, fun i y hy => ?_⟩
  · rcases List.mem_or_eq_of_mem_set hv with hv | rfl
    · exact h3 v hv
    · exact ⟨_, _, _, rfl⟩
  · rcases hcase i y hy with h | ⟨rfl, rfl⟩
    · obtain ⟨v, e, hv⟩ := h4 i y h
      have hlt' := (List.getElem?_eq_some_iff.1 h).1
      exact ⟨v, by rw [List.getElem?_set_ne (by omega)]; exact e, hv.offV h1 h3 hk⟩
    · exact ⟨_, by rw [List.getElem?_set_self (by omega)], hi.offV h1 h3 hk⟩
  · rcases hcase i y hy with h | ⟨rfl, rfl⟩
    · exact h5 i y h
    · exact hn
theorem SafeRow.old {l : List UnitV} {subs : List SubV} {G : Nat} {nl : List (List Int)} {w : World} (h : SafeRow l subs G nl w) {k : Nat} (hk : k < l.length) : w.frozen? ⟨G, k, none⟩ = false ∧ ∃ v, w.cell? ⟨G, k, none⟩ = some v := by
  obtain ⟨vs, h1, h2, _⟩ := h
  exact ⟨h1.frozen k, vs[k]'(by omega), h1.cell (List.getElem?_eq_getElem (by omega))⟩
theorem SafeRow.at_ {l : List UnitV} {subs : List SubV} {G : Nat} {nl : List (List Int)} {w : World} (h : SafeRow l subs G nl w) {k : Nat} {x : List Int} (hk : nl[k]? = some x) : ∃ a c, w.cell? ⟨G, k, none⟩ = some (.slice a x.length c) ∧ x.length ≤ c ∧ c ≤ 9223372036854775807 ∧ IntsIn w a x := by
  obtain ⟨vs, h1, _, _, h4, _⟩ := h
  obtain ⟨v, e, a, c, rfl, q1, q2, _, q4⟩ := h4 k x hk
  exact ⟨a, c, h1.cell e, q1, q2, q4⟩
theorem SafeRow.needsOk {l : List UnitV} {subs : List SubV} {G : Nat} {nl : List (List Int)} {w : World} (h : SafeRow l subs G nl w) (hl : nl.length = l.length) : NeedsOk l subs nl := by
  obtain ⟨_, _, _, _, _, h5⟩ := h
  exact ⟨hl, h5⟩

theorem IntsC.offS {l : List UnitV} {subs : List SubV} {G : Nat} {nl : List (List Int)} {w w' : World} {v : Value} {xs : List Int} (h : IntsC w v xs) (hs : SafeRow l subs G nl w) (hk : Kept [G] w w') : IntsC w' v xs := by
  obtain ⟨vs, h1, _, h3, _⟩ := hs
  exact h.offV h1 h3 hk

/-- What is left: those that are not taken. -/
def leftB (t : List Bool) : List Bool := t.map fun b => !b
theorem leftB_at {t : List Bool} {i : Nat} {b : Bool} (h : t[i]? = some b) : (leftB t)[i]? = some (!b) := by simp [leftB, h]
theorem leftB_set (t : List Bool) (i : Nat) : (leftB t).set i false = leftB (t.set i true) := by simp [leftB, List.map_set]
def freeUp (t : List Bool) (need : List Int) (i k : Nat) : Bool := !tk t i && allTk t (need.take k)
theorem freeUp_all (nl : List (List Int)) (t : List Bool) (i : Nat) {x : List Int} (hx : nl[i]? = some x) : freeUp t x i x.length = readyB nl t i := by
  unfold freeUp readyB needAt
  rw [hx, List.take_length]; rfl
theorem freeUp_zero (t : List Bool) (x : List Int) (i : Nat) : freeUp t x i 0 = !tk t i := by simp [freeUp, allTk]
theorem freeUp_succ (t : List Bool) (x : List Int) (i : Nat) {k : Nat} {n : Int} (h : x[k]? = some n) : freeUp t x i (k + 1) = (freeUp t x i k && tk t n.toNat) := by
  obtain ⟨hk, rfl⟩ := List.getElem?_eq_some_iff.1 h
  unfold freeUp allTk
  rw [List.take_succ_eq_append_getElem hk, List.all_append, Bool.and_assoc]
  simp
theorem need_at_range {l : List UnitV} {subs : List SubV} {nl : List (List Int)} (hm : May l subs) (hn : NeedsOk l subs nl) {i : Nat} {x : List Int} (hx : nl[i]? = some x) {n : Int} (h : n ∈ x) : 0 ≤ n ∧ n < l.length :=
  need_range hm (((hn.at' i x hx).2 n).1 h)
theorem stuck_step {nl : List (List Int)} {n : Nat} {U t : List Bool} (hU : Stuck nl n U) (h : ∀ i : Nat, U[i]? = some false → t[i]? = some false) {i : Nat} (hr : readyB nl t i = true) : ∀ j : Nat, U[j]? = some false → (t.set i true)[j]? = some false := by
  intro j hj
  have hij : i ≠ j := by
    intro e
    subst e
    obtain ⟨x, hx, hf⟩ := hU.2.2 i hj
    have := (ready_iff.1 hr).2
    unfold allTk at this
    have := List.all_eq_true.1 this x hx
    unfold tk at this
    rw [h _ hf] at this
    cases this
  rw [List.getElem?_set_ne hij]
  exact h j hj
def someLeft (t : List Bool) (k : Nat) : Bool := (leftB (t.take k)).any id
theorem someLeft_succ {t : List Bool} {k : Nat} {b : Bool} (h : t[k]? = some b) : someLeft t (k + 1) = (someLeft t k || !b) := by
  obtain ⟨hk, rfl⟩ := List.getElem?_eq_some_iff.1 h
  unfold someLeft leftB
  rw [List.take_succ_eq_append_getElem hk, List.map_append, List.any_append]
  simp
theorem someLeft_all {t : List Bool} {i : Nat} (h : t[i]? = some false) : someLeft t t.length = true := by
  unfold someLeft leftB
  rw [List.take_length, List.any_eq_true]
  exact ⟨true, List.mem_map.2 ⟨false, List.mem_of_getElem? h, rfl⟩, rfl⟩
def laidT (n k : Nat) : List Bool := List.replicate k true ++ List.replicate (n - k) false
theorem laidT_zero (n : Nat) : laidT n 0 = List.replicate n false := by simp [laidT]
theorem laidT_set {n k : Nat} (h : k < n) : (laidT n k).set k true = laidT n (k + 1) := by
  unfold laidT
  obtain ⟨d, rfl⟩ : ∃ d, n = k + 1 + d := ⟨n - k - 1, by omega⟩
  rw [show k + 1 + d - k = d + 1 by omega, show k + 1 + d - (k + 1) = d by omega, List.set_append_right _ _ (by simp)]
  simp only [List.length_replicate, Nat.sub_self, List.replicate_succ, List.set_cons_zero]
  rw [← List.replicate_succ, List.replicate_succ', List.append_assoc]
  rfl
theorem laidT_all (n : Nat) : laidT n n = leftB (List.replicate n false) := by simp [laidT, leftB]
theorem laidT_at {n k : Nat} (h : k < n) : (laidT n k)[k]? = some false := by
  unfold laidT
  rw [List.getElem?_append_right (by simp), List.length_replicate, Nat.sub_self, List.getElem?_replicate]
  simp; omega
end Go.Proofs.Ytoaklikkepkhfaa
