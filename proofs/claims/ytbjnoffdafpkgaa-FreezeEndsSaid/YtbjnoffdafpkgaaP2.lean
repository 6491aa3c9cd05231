/- Ascending lists. -/
import Derived.Test.YtbjnoffdafpkgaaP1
namespace Go.Proofs.Ytbjnoffdafpkgaa

def withR (l : List Int) (n : Int) : List Int := if l.contains n then l else l.takeWhile (fun x => decide (x < n)) ++ n :: l.drop (l.takeWhile (fun x => decide (x < n))).length

def Asc (l : List Int) : Prop := l.Pairwise (· < ·)

theorem drop_takeWhile (p : Int → Bool) (l : List Int) : l.drop (l.takeWhile p).length = l.dropWhile p := by
  induction l with
  | nil => rfl
  | cons a l ih =>
    by_cases h : p a
    · simp [List.takeWhile_cons, List.dropWhile_cons, h, ih]
    · simp [List.takeWhile_cons, List.dropWhile_cons, h]

theorem mem_withR {l : List Int} {n x : Int} : x ∈ withR l n ↔ x = n ∨ x ∈ l := by
  unfold withR
  split
  · rename_i h
    rw [List.contains_iff_mem] at h
    constructor
    · exact .inr
    · rintro (rfl | h')
      · exact h
      · exact h'
  · rw [drop_takeWhile, List.mem_append, List.mem_cons]
    have : x ∈ l ↔ x ∈ l.takeWhile (fun x => decide (x < n)) ∨ x ∈ l.dropWhile (fun x => decide (x < n)) := by
      rw [← List.mem_append, List.takeWhile_append_dropWhile]
    rw [this]
    constructor
    · rintro (h | h | h)
      · exact .inr (.inl h)
      · exact .inl h
      · exact .inr (.inr h)
    · rintro (h | h | h)
      · exact .inr (.inl h)
      · exact .inl h
      · exact .inr (.inr h)

theorem mem_dropWhile_ge {n : Int} : ∀ {l : List Int}, Asc l → ∀ x, x ∈ l.dropWhile (fun x => decide (x < n)) → n ≤ x := by
  intro l
  induction l with
  | nil => intro _ x h; simp at h
  | cons a l ih =>
    intro hl x hx
    unfold Asc at hl
    rw [List.pairwise_cons] at hl
    rw [List.dropWhile_cons] at hx
    split at hx
    · exact ih hl.2 x hx
    · rename_i h
      have ha : n ≤ a := by simpa using h
      rcases List.mem_cons.1 hx with rfl | hx
      · exact ha
      · have := hl.1 x hx; omega

theorem mem_takeWhile_lt {n : Int} : ∀ {l : List Int}, ∀ x, x ∈ l.takeWhile (fun x => decide (x < n)) → x < n := by
  intro l
  induction l with
  | nil => intro x h; simp at h
  | cons a l ih =>
    intro x hx
    rw [List.takeWhile_cons] at hx
    split at hx
    · rename_i h
      rcases List.mem_cons.1 hx with rfl | hx
      · simpa using h
      · exact ih x hx
    · simp at hx

theorem withR_asc {l : List Int} {n : Int} (h : Asc l) : Asc (withR l n) := by
  unfold withR
  split
  · exact h
  · rename_i hc
    have hnm : n ∉ l := fun hm => hc (by rw [List.contains_iff_mem]; exact hm)
    rw [drop_takeWhile]
    have hsplit : l.takeWhile (fun x => decide (x < n)) ++ l.dropWhile (fun x => decide (x < n)) = l := List.takeWhile_append_dropWhile
    have h' := h
    unfold Asc at h'
    rw [← hsplit, List.pairwise_append] at h'
    have hgt : ∀ x, x ∈ l.dropWhile (fun x => decide (x < n)) → n < x := by
      intro x hx
      have h1 := mem_dropWhile_ge h x hx
      have h2 : x ∈ l := by rw [← hsplit]; exact List.mem_append_right _ hx
      have h3 : x ≠ n := fun e => hnm (e ▸ h2)
      omega
    unfold Asc
    rw [List.pairwise_append, List.pairwise_cons]
    refine ⟨h'.1, ⟨hgt, h'.2.1⟩, fun a ha b hb => ?_⟩
    have hal := mem_takeWhile_lt a ha
    rcases List.mem_cons.1 hb with rfl | hb
    · exact hal
    · have := hgt b hb; omega

theorem asc_ext : ∀ {a b : List Int}, Asc a → Asc b → (∀ x, x ∈ a ↔ x ∈ b) → a = b := by
  intro a
  induction a with
  | nil =>
    intro b _ _ h
    cases b with
    | nil => rfl
    | cons y b => have := (h y).2 (by simp); simp at this
  | cons x a ih =>
    intro b ha hb h
    cases b with
    | nil => have := (h x).1 (by simp); simp at this
    | cons y b =>
      unfold Asc at ha hb
      rw [List.pairwise_cons] at ha hb
      have hxy : x = y := by
        have h1 := (h x).1 (by simp)
        have h2 := (h y).2 (by simp)
        rcases List.mem_cons.1 h1 with e | h1
        · exact e
        · rcases List.mem_cons.1 h2 with e | h2
          · exact e.symm
          · have := hb.1 x h1; have := ha.1 y h2; omega
      subst hxy
      congr 1
      refine ih ha.2 hb.2 (fun z => ?_)
      have hz := h z
      simp only [List.mem_cons] at hz
      constructor
      · intro hza
        rcases hz.1 (.inr hza) with e | h'
        · subst e; have := ha.1 z hza; omega
        · exact h'
      · intro hzb
        rcases hz.2 (.inr hzb) with e | h'
        · subst e; have := hb.1 z hzb; omega
        · exact h'

theorem asc_nodup {l : List Int} (h : Asc l) : l.Nodup := List.Pairwise.imp (fun h => by omega) h

/-- Compact of a sorted list. -/
theorem compact_asc (zs : List Int) (hs : zs.Pairwise (· ≤ ·)) : Asc (Lib.compact zs) ∧ ∀ x, x ∈ Lib.compact zs ↔ x ∈ zs := by
  have get : ∀ j (h : j < zs.length), zs.toArray[j]! = zs[j] := fun j h => by simp [getElem!_pos, h]
  have key : ∀ m, m ≤ zs.length → Asc (Lib.compactUpTo zs.toArray m) ∧ (∀ x, x ∈ Lib.compactUpTo zs.toArray m ↔ x ∈ zs.take m) := by
    intro m
    induction m with
    | zero => intro _; exact ⟨by simp [Lib.compactUpTo, Asc], by simp [Lib.compactUpTo]⟩
    | succ m ih =>
      intro hm
      have hmlt : m < zs.length := by omega
      obtain ⟨h1, h2⟩ := ih (by omega)
      rw [Lib.compactUpTo_succ, List.take_succ_eq_append_getElem hmlt, get m hmlt]
      have hle : ∀ x, x ∈ zs.take m → x ≤ zs[m] := by
        intro x hx
        obtain ⟨i, hi⟩ := List.mem_iff_getElem?.1 hx
        rw [List.getElem?_take] at hi
        split at hi
        · rename_i him
          obtain ⟨hil, rfl⟩ := List.getElem?_eq_some_iff.1 hi
          exact (List.pairwise_iff_getElem.1 hs) i m hil hmlt him
        · cases hi
      cases hk : Lib.keeps zs.toArray m
      · simp only [Bool.false_eq_true, if_false, List.append_nil]
        refine ⟨h1, fun x => ?_⟩
        rw [h2, List.mem_append, List.mem_singleton]
        constructor
        · exact .inl
        · rintro (h | rfl)
          · exact h
          · unfold Lib.keeps at hk
            simp only [decide_eq_false_iff_not, not_or, Classical.not_not] at hk
            have hm0 : 0 < m := by omega
            rw [get m hmlt, get (m - 1) (by omega)] at hk
            rw [hk.2]
            rw [List.mem_iff_getElem?]
            exact ⟨m - 1, by rw [List.getElem?_take, if_pos (by omega)]; exact List.getElem?_eq_getElem (by omega)⟩
      · simp only [if_true]
        refine ⟨?_, fun x => by rw [List.mem_append, List.mem_append, h2]⟩
        unfold Asc
        rw [List.pairwise_append]
        refine ⟨h1, by simp, fun a ha b hb => ?_⟩
        simp at hb
        subst hb
        rw [h2] at ha
        have hlea := hle a ha
        unfold Lib.keeps at hk
        simp only [decide_eq_true_eq] at hk
        rcases hk with rfl | hk
        · simp at ha
        · have hm0 : 0 < m := by
            cases m with
            | zero => simp at ha
            | succ m => omega
          rw [get m hmlt, get (m - 1) (by omega)] at hk
          have hle1 : zs[m - 1] ≤ zs[m] := (List.pairwise_iff_getElem.1 hs) (m - 1) m (by omega) hmlt (by omega)
          have hlt1 : zs[m - 1] < zs[m] := by omega
          have hal : a ≤ zs[m - 1] := by
            obtain ⟨i, hi⟩ := List.mem_iff_getElem?.1 ha
            rw [List.getElem?_take] at hi
            split at hi
            · rename_i him
              obtain ⟨hil, rfl⟩ := List.getElem?_eq_some_iff.1 hi
              by_cases e : i = m - 1
              · subst e; exact Int.le_refl _
              · exact (List.pairwise_iff_getElem.1 hs) i (m - 1) hil (by omega) (by omega)
            · cases hi
          omega
  have := key zs.length (Nat.le_refl _)
  rw [List.take_length] at this
  exact this

theorem sortI_sorted (zs : List Int) : (sortI zs).Pairwise (· ≤ ·) := by
  have := List.pairwise_mergeSort (le := fun x y : Int => decide (x ≤ y)) (fun a b c h1 h2 => by simp at *; omega) (fun a b => by simp; omega) zs
  exact this.imp (fun h => by simpa using h)
theorem mem_sortI {zs : List Int} {x : Int} : x ∈ sortI zs ↔ x ∈ zs := by simp [sortI]

theorem foldl_with_asc : ∀ (l : List Int) (a : List Int), Asc a → Asc (l.foldl withR a) ∧ ∀ x, x ∈ l.foldl withR a ↔ x ∈ l ∨ x ∈ a := by
  intro l
  induction l with
  | nil => intro a ha; exact ⟨ha, by simp⟩
  | cons n l ih =>
    intro a ha
    obtain ⟨h1, h2⟩ := ih (withR a n) (withR_asc ha)
    refine ⟨h1, fun x => ?_⟩
    rw [List.foldl_cons, h2, mem_withR, List.mem_cons]
    constructor
    · rintro (h | h | h)
      · exact .inl (.inr h)
      · exact .inl (.inl h)
      · exact .inr h
    · rintro ((h | h) | h)
      · exact .inr (.inl h)
      · exact .inl h
      · exact .inr (.inr h)

theorem partsI_eq (t : Tab) (k : Nat) (x : TyRow) : partsI t k x = (rawI t k x).foldl withR [] := by
  have h1 := compact_asc (sortI (rawI t k x)) (sortI_sorted _)
  have h2 := foldl_with_asc (rawI t k x) [] (by simp [Asc])
  refine asc_ext h1.1 h2.1 (fun y => ?_)
  unfold partsI
  rw [h1.2, h2.2, mem_sortI]
  simp
/-- The parts, as the reference finds them. -/
def partsW (t : Tab) (ty : Int) : List Int :=
  if exI t.types.length ty then match t.types[ty.toNat]? with | some x => (rawI t ty.toNat x).foldl withR [] | none => [] else []
theorem partsT_eq (t : Tab) (ty : Int) : partsT t ty = partsW t ty := by
  unfold partsT partsW
  split
  · cases t.types[ty.toNat]? with
    | some x => exact partsI_eq t ty.toNat x
    | none => rfl
  · rfl
theorem partsT_asc (t : Tab) (ty : Int) : Asc (partsT t ty) := by
  unfold partsT
  split
  · split
    · exact (compact_asc _ (sortI_sorted _)).1
    · simp [Asc]
  · simp [Asc]
end Go.Proofs.Ytbjnoffdafpkgaa
