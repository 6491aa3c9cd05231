/- What is frozen grows, is ascending, and holds the parts. -/
import Derived.Test.YtbjnoffdafpkgaaP7
namespace Go.Proofs.Ytbjnoffdafpkgaa

/-- What holds of every state of the reference. -/
structure RInv (t : Tab) (r : RS) : Prop where
  asc : Asc r.frz
  ex : ∀ x, x ∈ r.frz → exI t.types.length x = true
  exD : ∀ x, x ∈ r.dec → exI t.types.length x = true
  exC : ∀ c, c ∈ r.con → exI t.types.length c.2.1 = true
  clo : ∀ x y, x ∈ r.frz → y ∈ partsT t x → y ∈ r.frz

theorem RInv.zero (t : Tab) : RInv t RS.zero := ⟨by simp [RS.zero, Asc], by simp [RS.zero], by simp [RS.zero], by simp [RS.zero], by simp [RS.zero]⟩

/-- A state that follows another. -/
def Grows (t : Tab) (r r' : RS) : Prop := RInv t r' ∧ ∀ x, x ∈ r.frz → x ∈ r'.frz

theorem Grows.refl {t : Tab} {r : RS} (h : RInv t r) : Grows t r r := ⟨h, fun _ h => h⟩
theorem Grows.trans {t : Tab} {a b c : RS} (h : Grows t a b) (k : Grows t b c) : Grows t a c := ⟨k.1, fun x hx => k.2 x (h.2 x hx)⟩

theorem freezeR_grows {t : Tab} {r : RS} {ty : Int} (h : RInv t r) (hty : exI t.types.length ty = true) : Grows t r (freezeR t r ty).1 := by
  unfold freezeR
  split
  · exact Grows.refl h
  · have hnd := needs_res t ty hty
    have hfa := foldl_with_asc (needs t ty) r.frz h.asc
    refine ⟨⟨hfa.1, fun x hx => ?_, h.exD, h.exC, fun x y hx hy => ?_⟩, fun x hx => (hfa.2 x).2 (.inr hx)⟩
    · rcases (hfa.2 x).1 hx with hx | hx
      · exact ((hnd.2 x).1 hx).exists hty
      · exact h.ex x hx
    · refine (hfa.2 y).2 ?_
      rcases (hfa.2 x).1 hx with hx | hx
      · exact .inl ((hnd.2 y).2 (((hnd.2 x).1 hx).trans (.step x y y hy (.refl y))))
      · exact .inr (h.clo x y hx hy)
theorem freezeR_con (t : Tab) (r : RS) (ty : Int) : (freezeR t r ty).1.con = r.con := by
  unfold freezeR; split <;> rfl

theorem nextR_grows {t : Tab} {r : RS} {x : EvV} (h : RInv t r) (he : existsF t.types.length x = true) : Grows t r (nextR t r x).1 := by
  unfold existsF at he
  unfold nextR
  cases h12 : (x.kind == 1 || x.kind == 2)
  · simp only [h12, Bool.false_eq_true, if_false, Bool.false_or] at he ⊢
    cases h3 : (x.kind == 3)
    · simp only [h3, Bool.false_eq_true, if_false, Bool.false_or] at he ⊢
      cases h4 : (x.kind == 4)
      · simp only [h4, Bool.false_eq_true, if_false] at he ⊢
        cases h5 : (x.kind == 5)
        · simp only [Bool.false_eq_true, if_false]
          cases h6 : (x.kind == 6)
          · simp only [Bool.false_eq_true, if_false]
            cases h7 : (x.kind == 7)
            · simp only [Bool.false_eq_true, if_false]
              unfold endsR
              split
              · exact Grows.refl h
              · split
                · exact Grows.refl h
                · have key : ∀ (ls : List Int) (r : RS), RInv t r → (∀ y, y ∈ ls → exI t.types.length y = true) → Grows t r (ls.foldl (fun s x => (freezeR t s x).1) r) := by
                    intro ls
                    induction ls with
                    | nil => intro r h _; exact Grows.refl h
                    | cons a ls ih =>
                      intro r h hx
                      have h1 := freezeR_grows h (hx a (by simp))
                      exact h1.trans (ih _ h1.1 (fun y hy => hx y (by simp [hy])))
                  exact key r.dec r h h.exD
            · simp only [if_true]
              split <;> exact Grows.refl h
          · simp only [if_true]
            split
            · exact Grows.refl h
            · rename_i i hi
              split
              · exact Grows.refl h
              · split
                · obtain ⟨c, hc, _, hm⟩ := find_get hi
                  rw [hc]
                  have hg := freezeR_grows h (h.exC c hm)
                  refine ⟨⟨hg.1.asc, hg.1.ex, hg.1.exD, fun d hd => ?_, hg.1.clo⟩, hg.2⟩
                  obtain ⟨d', hd', _, hq⟩ := doneAt_mem hd
                  rw [← hq]
                  exact h.exC d' hd'
                · exact Grows.refl h
        · simp only [h5, if_true, Bool.and_eq_true] at he ⊢
          split
          · exact Grows.refl h
          · refine ⟨⟨h.asc, h.ex, h.exD, fun c hc => ?_, h.clo⟩, fun _ h => h⟩
            rcases List.mem_append.1 hc with hc | hc
            · exact h.exC c hc
            · simp at hc; subst hc; exact he.1
      · simp only [h4, if_true] at he ⊢
        exact freezeR_grows h he
    · simp only [if_true]
      split
      · exact Grows.refl h
      · exact ⟨⟨h.asc, h.ex, h.exD, h.exC, h.clo⟩, fun _ h => h⟩
  · simp only [h12, if_true, Bool.true_or] at he ⊢
    split
    · exact Grows.refl h
    · refine ⟨⟨h.asc, h.ex, fun y hy => ?_, h.exC, h.clo⟩, fun _ h => h⟩
      rcases mem_withR.1 hy with rfl | hy
      · exact he
      · exact h.exD y hy

theorem goR_grows {t : Tab} : ∀ (l : List EvV) (r : RS) (i : Nat), RInv t r → (∀ x, x ∈ l → existsF t.types.length x = true) → Grows t r (goR t r l i).2 := by
  intro l
  induction l with
  | nil => intro r i h _; exact Grows.refl h
  | cons x l ih =>
    intro r i h hx
    unfold goR
    split
    · have h1 := nextR_grows h (hx x (by simp))
      exact h1.trans (ih _ _ h1.1 (fun y hy => hx y (by simp [hy])))
    · exact Grows.refl h

theorem goR_app (t : Tab) : ∀ (a b : List EvV) (r : RS) (i : Nat), goR t r (a ++ b) i = match (goR t r a i).1 with | some k => (some k, (goR t r a i).2) | none => goR t (goR t r a i).2 b (i + a.length) := by
  intro a
  induction a with
  | nil => intro b r i; rfl
  | cons x a ih =>
    intro b r i
    have e : ∀ m, goR t r (x :: m) i = if (nextR t r x).2 then goR t (nextR t r x).1 m (i + 1) else (some i, r) := fun m => rfl
    rw [List.cons_append, e, e]
    cases (nextR t r x).2
    · rfl
    · simp only [if_true]
      rw [ih b]
      have : i + 1 + a.length = i + (x :: a).length := by simp; omega
      rw [this]

theorem badAt_none_iff {n : Nat} {l : List EvV} : badAt n l = none ↔ ∀ x, x ∈ l → existsF n x = true := by
  unfold badAt
  rw [List.findIdx?_eq_none_iff]
  simp
theorem badAt_lt {n : Nat} {l : List EvV} {k : Nat} (h : badAt n l = some k) : k < l.length := by
  unfold badAt at h
  rw [List.findIdx?_eq_some_iff_getElem] at h
  exact h.1

/-- The first events, and all of them. -/
theorem grows_ref (t : Tab) (a b : List EvV) (h : badAt t.types.length (a ++ b) = none) :
    ((checkR t a).2 = 0 ∨ checkR t a = checkR t (a ++ b)) ∧ (∀ x, x ∈ frozenR t a → x ∈ frozenR t (a ++ b)) := by
  have hall := badAt_none_iff.1 h
  have ha : badAt t.types.length a = none := badAt_none_iff.2 (fun x hx => hall x (List.mem_append_left _ hx))
  have hg := goR_grows a RS.zero 0 (RInv.zero t) (fun x hx => hall x (List.mem_append_left _ hx))
  unfold checkR frozenR
  rw [h, ha]
  simp only
  rw [goR_app]
  cases hk : (goR t RS.zero a 0).1 with
  | none =>
    refine ⟨.inl rfl, fun x hx => ?_⟩
    exact (goR_grows b _ _ hg.1 (fun x hx => hall x (List.mem_append_right _ hx))).2 x hx
  | some k => exact ⟨.inr rfl, fun x hx => hx⟩

theorem frozen_inv (t : Tab) (l : List EvV) : Asc (frozenR t l) ∧ (∀ x, x ∈ frozenR t l → exI t.types.length x = true) ∧ ∀ x y, x ∈ frozenR t l → y ∈ partsT t x → y ∈ frozenR t l := by
  unfold frozenR
  cases h : badAt t.types.length l with
  | none =>
    have hg := goR_grows l RS.zero 0 (RInv.zero t) (badAt_none_iff.1 h)
    exact ⟨hg.1.asc, hg.1.ex, hg.1.clo⟩
  | some k => exact ⟨by simp [Asc], by simp, by simp⟩

theorem check_err (t : Tab) (l : List EvV) : (∃ k : Nat, badAt t.types.length l = some k ∧ checkR t l = ((k : Int), 2) ∧ k < l.length ∧ frozenR t l = []) ∨ (badAt t.types.length l = none ∧ ((checkR t l).2 = 0 ∨ (checkR t l).2 = 110)) := by
  unfold checkR frozenR
  cases h : badAt t.types.length l with
  | some k => exact .inl ⟨k, rfl, rfl, badAt_lt h, rfl⟩
  | none =>
    refine .inr ⟨rfl, ?_⟩
    simp only
    cases (goR t RS.zero l 0).1 with
    | none => exact .inl rfl
    | some k => exact .inr rfl
#print axioms grows_ref
end Go.Proofs.Ytbjnoffdafpkgaa
