/- Plain: what an order of elaboration promises. -/
import Derived.Test.YtoaklikkepkhfaaP2
namespace Go.Proofs.Ytoaklikkepkhfaa
open Go

def countF : List Bool → Nat
  | [] => 0
  | b :: l => (if b then 0 else 1) + countF l
theorem countF_set {l : List Bool} {i : Nat} (h : l[i]? = some false) : countF (l.set i true) + 1 = countF l := by
  induction l generalizing i with
  | nil => simp at h
  | cons b l ih =>
    cases i with
    | zero => simp at h; subst h; simp [countF]; omega
    | succ i => simp at h; have := ih h; simp only [List.set_cons_succ, countF]; omega
theorem countF_rep (n : Nat) : countF (List.replicate n false) = n := by
  induction n with
  | zero => rfl
  | succ n ih => simp only [List.replicate_succ, countF, ih]; simp; omega
theorem countF_pos {l : List Bool} (h : 0 < countF l) : ∃ i : Nat, l[i]? = some false := by
  induction l with
  | nil => simp [countF] at h
  | cons b l ih =>
    cases b
    · exact ⟨0, rfl⟩
    · simp only [countF, if_true, Nat.zero_add] at h
      obtain ⟨i, hi⟩ := ih h
      exact ⟨i + 1, by simpa using hi⟩
theorem countF_le (l : List Bool) : countF l ≤ l.length := by
  induction l with
  | nil => exact Nat.le_refl _
  | cons b l ih => simp only [countF, List.length_cons]; split <;> omega

theorem tk_false {taken : List Bool} {i : Nat} : tk taken i = false ↔ taken[i]? = some false := by
  unfold tk
  cases h : taken[i]? <;> simp
theorem ready_iff {nl : List (List Int)} {taken : List Bool} {i : Nat} : readyB nl taken i = true ↔ taken[i]? = some false ∧ allTk taken (needAt nl i) = true := by
  unfold readyB
  rw [Bool.and_eq_true, Bool.not_eq_true', tk_false]

def takenAt (taken : List Bool) (o : List Nat) : List Bool := o.foldl (fun t j => t.set j true) taken
theorem takenAt_len (o : List Nat) : ∀ taken : List Bool, (takenAt taken o).length = taken.length := by
  induction o with
  | nil => intro t; rfl
  | cons a o ih => intro t; show (takenAt (t.set a true) o).length = _; rw [ih, List.length_set]
theorem takenAt_snoc (taken : List Bool) (o : List Nat) (j : Nat) : takenAt taken (o ++ [j]) = (takenAt taken o).set j true := by
  unfold takenAt; rw [List.foldl_append]; rfl

theorem orderG_some {ns : List Nat} {nl : List (List Int)} : ∀ (k : Nat) (taken : List Bool) (out o : List Nat), orderG ns nl k taken out = some o →
    ∃ rest, o = out ++ rest ∧ rest.length = k ∧ ∀ (i : Nat) (j : Nat), rest[i]? = some j → (takenAt taken (rest.take i))[j]? = some false ∧ allTk (takenAt taken (rest.take i)) (needAt nl j) = true := by
  intro k
  induction k with
  | zero =>
    intro taken out o h
    injection h with h
    exact ⟨[], by simp [h], rfl, fun i j h => by simp at h⟩
  | succ k ih =>
    intro taken out o h
    rw [orderG] at h
    cases hf : ns.find? (readyB nl taken) with
    | none => rw [hf] at h; cases h
    | some a =>
      rw [hf] at h
      obtain ⟨rest, h1, h2, h3⟩ := ih _ _ _ h
      have ha := ready_iff.1 (List.find?_some hf)
      refine ⟨a :: rest, by rw [h1]; simp, by simp [h2], fun i j hij => ?_⟩
      cases i with
      | zero =>
        simp at hij
        subst hij
        exact ha
      | succ i =>
        simp at hij
        exact h3 i j hij

/-- No order: those that are left need each other. -/
def Stuck (nl : List (List Int)) (n : Nat) (U : List Bool) : Prop := U.length = n ∧ (∃ i : Nat, U[i]? = some false) ∧ ∀ i : Nat, U[i]? = some false → ∃ x, x ∈ needAt nl i ∧ U[x.toNat]? = some false
theorem orderG_none {l : List UnitV} {ns : List Nat} {nl : List (List Int)} (hn : NamesOk l ns) : ∀ (k : Nat) (taken : List Bool) (out : List Nat), taken.length = l.length → countF taken = k → orderG ns nl k taken out = none → ∃ U, Stuck nl l.length U := by
  intro k
  induction k with
  | zero => intro _ _ _ _ h; cases h
  | succ k ih =>
    intro taken out hl hc h
    rw [orderG] at h
    cases hf : ns.find? (readyB nl taken) with
    | none =>
      refine ⟨taken, hl, countF_pos (by omega), fun i hi => ?_⟩
      rw [List.find?_eq_none] at hf
      have hil : i < l.length := by have := (List.getElem?_eq_some_iff.1 hi).1; omega
      have := hf i ((hn.mem i).2 hil)
      rw [ready_iff] at this
      have h2 : ¬ allTk taken (needAt nl i) = true := fun h => this ⟨hi, h⟩
      unfold allTk at h2
      rw [List.all_eq_true] at h2
      simp only [Classical.not_forall] at h2
      obtain ⟨x, hx, hx'⟩ := h2
      exact ⟨x, hx, tk_false.1 (by simpa using hx')⟩
    | some a =>
      rw [hf] at h
      have ha := ready_iff.1 (List.find?_some hf)
      exact ih (taken.set a true) _ (by rw [List.length_set]; exact hl) (by have := countF_set ha.1; omega) h

theorem orderR_some {ns : List Nat} {nl : List (List Int)} {o : List Nat} (h : orderR ns nl = some o) : o.length = nl.length ∧ ∀ (i : Nat) (j : Nat), o[i]? = some j → (takenAt (List.replicate nl.length false) (o.take i))[j]? = some false ∧ allTk (takenAt (List.replicate nl.length false) (o.take i)) (needAt nl j) = true := by
  obtain ⟨rest, h1, h2, h3⟩ := orderG_some _ _ _ _ h
  rw [List.nil_append] at h1
  subst h1
  exact ⟨h2, h3⟩
theorem orderR_none {l : List UnitV} {ns : List Nat} {nl : List (List Int)} (hn : NamesOk l ns) (hl : nl.length = l.length) (h : orderR ns nl = none) : ∃ U, Stuck nl l.length U :=
  orderG_none hn _ _ _ (by simp [hl]) (countF_rep _) h
end Go.Proofs.Ytoaklikkepkhfaa
