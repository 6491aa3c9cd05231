/- Plain laws: an object of a frozen type changes nothing, and the type cannot be declared any more. -/
import Derived.Test.YtbjnoffdafpkgaaQ1
namespace Go.Proofs.Ytbjnoffdafpkgaa

theorem mem_foldW : ∀ {l a : List Int} {x : Int}, x ∈ l.foldl withR a ↔ x ∈ l ∨ x ∈ a := by
  intro l
  induction l with
  | nil => intro a x; simp
  | cons n l ih =>
    intro a x
    rw [List.foldl_cons, ih, mem_withR, List.mem_cons]
    constructor
    · rintro (h | h | h)
      · exact .inl (.inr h)
      · exact .inl (.inl h)
      · exact .inr h
    · rintro ((h | h) | h)
      · exact .inr (.inl h)
      · exact .inl h
      · exact .inr (.inr h)

/-- What is frozen is complete where it is declared. -/
def WholeR (r : RS) : Prop := ∀ x, x ∈ r.frz → x ∈ r.dec → x ∈ r.com

theorem freezeR_whole {t : Tab} {r : RS} {ty : Int} (h : WholeR r) : WholeR (freezeR t r ty).1 := by
  unfold freezeR
  split
  · exact h
  · rename_i hb
    intro x hx hd
    rcases mem_foldW.1 (show x ∈ (needs t ty).foldl withR r.frz from hx) with h1 | h1
    · by_cases hc : x ∈ r.com
      · exact hc
      · refine absurd (List.any_eq_true.2 ⟨x, h1, ?_⟩) hb
        have e1 : r.dec.contains x = true := List.contains_iff_mem.2 hd
        have e2 : r.com.contains x = false := by
          cases h' : r.com.contains x
          · rfl
          · exact absurd (List.contains_iff_mem.1 h') hc
        rw [e1, e2]; rfl
    · exact h x h1 hd
theorem foldl_whole {t : Tab} : ∀ (l : List Int) (r : RS), WholeR r → WholeR (l.foldl (fun s x => (freezeR t s x).1) r) := by
  intro l
  induction l with
  | nil => intro r h; exact h
  | cons x l ih => intro r h; exact ih _ (freezeR_whole h)

theorem nextR_whole {t : Tab} {r : RS} {x : EvV} (h : WholeR r) : WholeR (nextR t r x).1 := by
  unfold nextR
  split
  · split
    · exact h
    · rename_i hno
      intro y hy hd
      simp only [Bool.or_eq_true, not_or] at hno
      have hfz : x.ty ∉ r.frz := fun hm => hno.2 (List.contains_iff_mem.2 hm)
      have hy' : y ∈ r.frz := hy
      rcases mem_withR.1 (show y ∈ withR r.dec x.ty from hd) with e | hd
      · exact absurd (e ▸ hy') hfz
      · have hc := h y hy' hd
        show y ∈ (if x.kind == 1 then withR r.com x.ty else r.com)
        split
        · exact mem_withR.2 (.inr hc)
        · exact hc
  · split
    · split
      · exact h
      · intro y hy hd
        exact mem_withR.2 (.inr (h y hy hd))
    · split
      · exact freezeR_whole h
      · split
        · split
          · exact h
          · exact h
        · split
          · split
            · exact h
            · split
              · exact h
              · split
                · exact freezeR_whole (t := t) (ty := _) h
                · exact h
          · split
            · split
              · exact h
              · exact h
            · unfold endsR
              split
              · exact h
              · split
                · exact h
                · exact foldl_whole r.dec r h
theorem goR_whole {t : Tab} : ∀ (l : List EvV) (r : RS) (i : Nat), WholeR r → WholeR (goR t r l i).2 := by
  intro l
  induction l with
  | nil => intro r i h; exact h
  | cons x l ih =>
    intro r i h
    unfold goR
    split
    · exact ih _ _ (nextR_whole h)
    · exact h

/-- Events without an error: the state behind them. -/
theorem check_ok {t : Tab} {l : List EvV} (h : (checkR t l).2 = 0) : (∀ x, x ∈ l → existsF t.types.length x = true) ∧ ∃ r, goR t RS.zero l 0 = (none, r) ∧ frozenR t l = r.frz ∧ RInv t r ∧ WholeR r := by
  unfold checkR at h
  unfold frozenR
  cases hb : badAt t.types.length l with
  | some k => rw [hb] at h; simp at h
  | none =>
    rw [hb] at h
    have hall := badAt_none_iff.1 hb
    refine ⟨hall, ?_⟩
    have hg := (goR_grows l RS.zero 0 (RInv.zero t) hall).1
    have hw := goR_whole (t := t) l RS.zero 0 (by intro x hx; simp [RS.zero] at hx)
    generalize goR t RS.zero l 0 = q at *
    obtain ⟨o, r⟩ := q
    cases o with
    | some k => simp at h
    | none => exact ⟨r, rfl, rfl, hg, hw⟩
theorem check_more {t : Tab} {l : List EvV} {r : RS} {x : EvV} (hall : ∀ x, x ∈ l → existsF t.types.length x = true) (hg : goR t RS.zero l 0 = (none, r)) (hx : existsF t.types.length x = true) :
    badAt t.types.length (l ++ [x]) = none ∧ goR t RS.zero (l ++ [x]) 0 = if (nextR t r x).2 then (none, (nextR t r x).1) else (some l.length, r) := by
  refine ⟨badAt_none_iff.2 (fun y hy => ?_), ?_⟩
  · rcases List.mem_append.1 hy with hy | hy
    · exact hall y hy
    · have : y = x := by simpa using hy
      rw [this]; exact hx
  · rw [goR_app, hg]
    dsimp only
    rw [goR, Nat.zero_add]
    split
    · rfl
    · rfl

theorem freezeR_idem {t : Tab} {r : RS} {ty : Int} (hi : RInv t r) (hw : WholeR r) (hm : ty ∈ r.frz) : freezeR t r ty = (r, true) := by
  have hex := hi.ex ty hm
  have hnd := needs_res t ty hex
  have hsub : ∀ x, x ∈ needs t ty → x ∈ r.frz := by
    intro x hx
    have hr := (hnd.2 x).1 hx
    clear hx hnd hex
    induction hr using Reach.ind with
    | refl => exact hm
    | step a p b hp _ ih => exact ih (hi.clo a p hm hp)
  unfold freezeR
  rw [if_neg]
  · have : (needs t ty).foldl withR r.frz = r.frz := by
      have key : ∀ (l : List Int), (∀ x, x ∈ l → x ∈ r.frz) → l.foldl withR r.frz = r.frz := by
        intro l
        induction l with
        | nil => intro _; rfl
        | cons a l ih =>
          intro h
          have : withR r.frz a = r.frz := by unfold withR; rw [if_pos (List.contains_iff_mem.2 (h a (by simp)))]
          rw [List.foldl_cons, this]
          exact ih (fun x hx => h x (by simp [hx]))
      exact key _ hsub
    rw [this]
  · intro hb
    obtain ⟨x, hx, hb⟩ := List.any_eq_true.1 hb
    simp only [Bool.and_eq_true, Bool.not_eq_true'] at hb
    have hc := hw x (hsub x hx) (List.contains_iff_mem.1 hb.1)
    rw [List.contains_iff_mem.2 hc] at hb
    exact absurd hb.2 (by simp)

theorem again_ref {t : Tab} {l : List EvV} {ty : Int} (h : (checkR t l).2 = 0) (hm : ty ∈ frozenR t l) :
    (checkR t (l ++ [⟨4, ty, 0⟩])).2 = 0 ∧ frozenR t (l ++ [⟨4, ty, 0⟩]) = frozenR t l ∧ checkR t (l ++ [(⟨4, ty, 0⟩ : EvV)] ++ [(⟨1, ty, 0⟩ : EvV)]) = (((l ++ [(⟨4, ty, 0⟩ : EvV)]).length : Int), 110) := by
  obtain ⟨hall, r, hg, hf, hi, hw⟩ := check_ok h
  rw [hf] at hm
  have hex := hi.ex ty hm
  have hn : nextR t r ⟨4, ty, 0⟩ = (r, true) := freezeR_idem hi hw hm
  obtain ⟨hb1, hg1⟩ := check_more (x := ⟨4, ty, 0⟩) hall hg hex
  rw [hn] at hg1
  have hall1 := badAt_none_iff.1 hb1
  have hg1' : goR t RS.zero (l ++ [⟨4, ty, 0⟩]) 0 = (none, r) := hg1
  have hn2 : nextR t r ⟨1, ty, 0⟩ = (r, false) := by
    unfold nextR
    rw [if_pos (by rfl), if_pos (by
      have : r.frz.contains ty = true := List.contains_iff_mem.2 hm
      dsimp only
      rw [this]; simp)]
  obtain ⟨hb2, hg2⟩ := check_more (x := ⟨1, ty, 0⟩) hall1 hg1' hex
  rw [hn2] at hg2
  refine ⟨?_, ?_, ?_⟩
  · unfold checkR; rw [hb1, hg1']
  · rw [hf]; unfold frozenR; rw [hb1, hg1']
  · unfold checkR; rw [hb2, hg2]; rfl
end Go.Proofs.Ytbjnoffdafpkgaa
