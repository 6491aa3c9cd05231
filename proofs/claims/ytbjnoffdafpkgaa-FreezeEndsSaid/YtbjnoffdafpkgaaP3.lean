/- The reference, as functions of lists. -/
import Derived.Test.YtbjnoffdafpkgaaP2
import Derived.Test.YtbjnoffdafpkgaaH4
namespace Go.Proofs.Ytbjnoffdafpkgaa

/-- One round of Needs. -/
def needStep (t : Tab) (l : List Int) : List Int := l.foldl (fun m x => (partsW t x).foldl withR m) l
theorem needStep_eq (t : Tab) (l : List Int) : needStep t l = l.foldl (fun m x => (partsT t x).foldl withR m) l := by
  unfold needStep
  simp only [partsT_eq]
def needsR (t : Tab) : Nat → List Int → List Int
  | 0, l => l
  | f + 1, l => if (needStep t l).length == l.length then l else needsR t f (needStep t l)
def needs (t : Tab) (ty : Int) : List Int := needsR t (t.types.length + 1) [ty]

theorem needStep_res (t : Tab) (l : List Int) (h : Asc l) : Asc (needStep t l) ∧ ∀ x, x ∈ needStep t l ↔ x ∈ l ∨ ∃ y, y ∈ l ∧ x ∈ partsT t y := by
  have key : ∀ (k m : List Int), Asc m → Asc (k.foldl (fun m x => (partsT t x).foldl withR m) m) ∧ ∀ x, x ∈ k.foldl (fun m x => (partsT t x).foldl withR m) m ↔ x ∈ m ∨ ∃ y, y ∈ k ∧ x ∈ partsT t y := by
    intro k
    induction k with
    | nil => intro m hm; exact ⟨hm, by simp⟩
    | cons a k ih =>
      intro m hm
      have h1 := foldl_with_asc (partsT t a) m hm
      obtain ⟨h2, h3⟩ := ih _ h1.1
      refine ⟨h2, fun x => ?_⟩
      rw [List.foldl_cons, h3, h1.2]
      constructor
      · rintro ((h | h) | ⟨y, hy, h⟩)
        · exact .inr ⟨a, by simp, h⟩
        · exact .inl h
        · exact .inr ⟨y, by simp [hy], h⟩
      · rintro (h | ⟨y, hy, h⟩)
        · exact .inl (.inr h)
        · rcases List.mem_cons.1 hy with rfl | hy
          · exact .inl (.inl h)
          · exact .inr ⟨y, hy, h⟩
  rw [needStep_eq]
  exact key l l h

theorem needStep_len (t : Tab) (l : List Int) (h : Asc l) : l.length ≤ (needStep t l).length :=
  (asc_nodup h).length_le_of_subset (fun x hx => ((needStep_res t l h).2 x).2 (.inl hx))

theorem asc_len_eq {a b : List Int} (ha : Asc a) (hb : Asc b) (hs : ∀ x, x ∈ a → x ∈ b) (hl : b.length = a.length) : a = b := by
  refine asc_ext ha hb (fun x => ⟨hs x, fun hx => ?_⟩)
  by_cases hxa : x ∈ a
  · exact hxa
  · have hn : (x :: a).Nodup := by rw [List.nodup_cons]; exact ⟨hxa, asc_nodup ha⟩
    have := hn.length_le_of_subset (l₂ := b) (fun y hy => by
      rcases List.mem_cons.1 hy with rfl | hy
      · exact hx
      · exact hs y hy)
    simp at this
    omega

theorem range_len {n : Nat} {l : List Int} (hn : l.Nodup) (h : ∀ x, x ∈ l → exI n x = true) : l.length ≤ n := by
  have h1 : (l.map Int.toNat).Nodup := by
    unfold List.Nodup
    rw [List.pairwise_map]
    refine List.Pairwise.imp_of_mem ?_ hn
    intro a b ha hb hne
    have h0 : 0 ≤ a ∧ a < n := by simpa [exI] using h a ha
    have h1 : 0 ≤ b ∧ b < n := by simpa [exI] using h b hb
    omega
  have := h1.length_le_of_subset (l₂ := List.range n) (fun y hy => by
    obtain ⟨x, hx, rfl⟩ := List.mem_map.1 hy
    have h0 : 0 ≤ x ∧ x < n := by simpa [exI] using h x hx
    rw [List.mem_range]; omega)
  simpa using this

theorem needsR_res (t : Tab) (ty : Int) : ∀ (f : Nat) (l : List Int), Asc l → ty ∈ l → (∀ x, x ∈ l → Reach t ty x) → (∀ x, x ∈ l → exI t.types.length x = true) → t.types.length < f + l.length →
    Asc (needsR t f l) ∧ ∀ x, x ∈ needsR t f l ↔ Reach t ty x := by
  intro f
  induction f with
  | zero =>
    intro l ha _ _ hx hf
    have := range_len (asc_nodup ha) hx
    omega
  | succ f ih =>
    intro l ha hty hr hx hf
    have hres := needStep_res t l ha
    unfold needsR
    cases hl : ((needStep t l).length == l.length)
    · have hl' : (needStep t l).length ≠ l.length := by simpa using hl
      have hle := needStep_len t l ha
      simp only [Bool.false_eq_true, if_false]
      refine ih _ hres.1 ((hres.2 ty).2 (.inl hty)) (fun x hx' => ?_) (fun x hx' => ?_) (by omega)
      · rcases (hres.2 x).1 hx' with h | ⟨y, hy, h⟩
        · exact hr x h
        · exact (hr y hy).trans (.step y x x h (.refl x))
      · rcases (hres.2 x).1 hx' with h | ⟨y, hy, h⟩
        · exact hx x h
        · exact (mem_partsT h).1
    · simp only [if_true]
      have heq : l = needStep t l := asc_len_eq ha hres.1 (fun x hx' => (hres.2 x).2 (.inl hx')) (by simpa using hl)
      have hcl : ∀ y x, Reach t y x → y ∈ l → x ∈ l := by
        intro y x hyx
        induction hyx using Reach.ind with
        | refl => exact fun h => h
        | step a p b hp _ ih2 =>
          intro haL
          refine ih2 ?_
          rw [heq]
          exact (hres.2 p).2 (.inr ⟨a, haL, hp⟩)
      exact ⟨ha, fun x => ⟨hr x, fun h => hcl ty x h hty⟩⟩

theorem needs_res (t : Tab) (ty : Int) (h : exI t.types.length ty = true) : Asc (needs t ty) ∧ ∀ x, x ∈ needs t ty ↔ Reach t ty x :=
  needsR_res t ty _ [ty] (by simp [Asc]) (by simp) (fun x hx => by simp at hx; subst hx; exact .refl _) (fun x hx => by simp at hx; subst hx; exact h) (by simp; omega)

/-- The reference's state. -/
structure RS where
  dec : List Int
  com : List Int
  frz : List Int
  con : List (Int × Int × Bool)

def RS.zero : RS := ⟨[], [], [], []⟩
def RS.find (s : RS) (n : Int) : Option Nat := s.con.findIdx? (fun c => c.1 == n)

def freezeR (t : Tab) (s : RS) (ty : Int) : RS × Bool :=
  if (needs t ty).any (fun x => s.dec.contains x && !s.com.contains x) then (s, false)
  else ({ s with frz := (needs t ty).foldl withR s.frz }, true)

def endsR (t : Tab) (s : RS) (last : Bool) : RS × Bool :=
  if s.dec.any (fun x => !s.com.contains x) then (s, false)
  else if s.con.any (fun c => last && !c.2.2) then (s, false)
  else (s.dec.foldl (fun s x => (freezeR t s x).1) s, true)

/-- Constant at a place is completed. -/
def doneAt (l : List (Int × Int × Bool)) (i : Nat) : List (Int × Int × Bool) := l.modify i (fun c => (c.1, c.2.1, true))

def nextR (t : Tab) (s : RS) (x : EvV) : RS × Bool :=
  if x.kind == 1 || x.kind == 2 then
    if s.dec.contains x.ty || s.frz.contains x.ty then (s, false)
    else ({ s with dec := withR s.dec x.ty, com := if x.kind == 1 then withR s.com x.ty else s.com }, true)
  else if x.kind == 3 then
    if !s.dec.contains x.ty || s.com.contains x.ty then (s, false) else ({ s with com := withR s.com x.ty }, true)
  else if x.kind == 4 then freezeR t s x.ty
  else if x.kind == 5 then
    match s.find x.num with
    | some _ => (s, false)
    | none => ({ s with con := s.con ++ [(x.num, x.ty, false)] }, true)
  else if x.kind == 6 then
    match s.find x.num with
    | none => (s, false)
    | some i =>
      if ((s.con[i]?).getD (0, 0, false)).2.2 then (s, false)
      else if (freezeR t s ((s.con[i]?).getD (0, 0, false)).2.1).2 then ({ (freezeR t s ((s.con[i]?).getD (0, 0, false)).2.1).1 with con := doneAt s.con i }, true)
      else (s, false)
  else if x.kind == 7 then
    match s.find x.num with
    | none => (s, true)
    | some i => (s, ((s.con[i]?).getD (0, 0, false)).2.2)
  else endsR t s (x.kind == 9)

/-- The state behind the first k events, if none is an error. -/
def behindTo (t : Tab) (l : List EvV) : Nat → Option RS
  | 0 => some RS.zero
  | k + 1 =>
    match behindTo t l k, l[k]? with
    | some s, some x => if (nextR t s x).2 then some (nextR t s x).1 else none
    | _, _ => none
end Go.Proofs.Ytbjnoffdafpkgaa
