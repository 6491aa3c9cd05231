/- Each event. -/
import Derived.Test.YtbjnoffdafpkgaaP4
namespace Go.Proofs.Ytbjnoffdafpkgaa

/-- What a step of the program says of the reference's step. -/
def Steps (t : Tab) (s' : PS) (b : Bool) (r : RS) (q : RS × Bool) : Prop :=
  q.2 = b ∧ (b = true → Sim t s' q.1) ∧ (b = false → ∀ x, Wf x → (s'.frz x).getD false = r.frz.contains x)

theorem conAt_find {l : List (Int × Int × Bool)} {x : Int} : conAt l x = (match l.findIdx? (fun c => c.1 == x) with | some i => some (((l[i]?).getD (0, 0, false)).2) | none => none) := by
  unfold conAt
  induction l with
  | nil => rfl
  | cons c l ih =>
    rw [List.find?_cons, List.findIdx?_cons]
    cases hc : (c.1 == x)
    · simp only [Bool.false_eq_true, if_false]
      rw [ih]
      cases l.findIdx? (fun c => c.1 == x) <;> simp
    · simp

theorem contains_withR {l : List Int} {n x : Int} : (withR l n).contains x = (x == n || l.contains x) := by
  rw [Bool.eq_iff_iff]
  simp only [Bool.or_eq_true, beq_iff_eq, has_iff]
  exact mem_withR

theorem step_declare {t : Tab} {s : PS} {r : RS} {x : EvV} (h : Sim t s r) (hx : x.wf) (hty : exI t.types.length x.ty = true) (hk : (x.kind == 1 || x.kind == 2) = true) :
    Steps t (declareF s x).2 (declareF s x).1 r (nextR t r x) := by
  have hd := h.dec x.ty hx.1
  have hf := h.frz x.ty hx.1
  have hnext : nextR t r x = if r.dec.contains x.ty || r.frz.contains x.ty then (r, false) else ({ r with dec := withR r.dec x.ty, com := if x.kind == 1 then withR r.com x.ty else r.com }, true) := by
    unfold nextR; rw [if_pos hk]
  rw [hnext]
  unfold declareF
  rw [hd, hf]
  cases hc : r.dec.contains x.ty
  · cases hc2 : r.frz.contains x.ty
    · simp only [Bool.false_eq_true, if_false, Option.getD_none, Bool.or_false]
      refine ⟨rfl, fun _ => ?_, fun h => by cases h⟩
      exact { dec := fun y hy => by
                show updM s.dec x.ty true y = _
                rw [contains_withR]
                unfold updM
                by_cases e : y = x.ty
                · subst e; simp
                · rw [if_neg e, h.dec y hy]; simp [e]
              com := fun y hy => by
                show ((if x.kind == 1 then updM s.com x.ty true else s.com) y).getD false = (if x.kind == 1 then withR r.com x.ty else r.com).contains y
                cases (x.kind == 1)
                · simpa using h.com y hy
                · simp only [if_true]
                  rw [contains_withR]
                  unfold updM
                  by_cases e : y = x.ty
                  · subst e; simp
                  · rw [if_neg e, h.com y hy]; simp [e]
              frz := h.frz
              con := h.con
              ascD := withR_asc h.ascD
              ascC := by
                show Asc (if x.kind == 1 then withR r.com x.ty else r.com)
                split
                · exact withR_asc h.ascC
                · exact h.ascC
              ascF := h.ascF
              exD := fun y hy => by
                rcases mem_withR.1 hy with rfl | hy
                · exact hty
                · exact h.exD y hy
              exC := fun y hy => by
                have hy' : y ∈ (if x.kind == 1 then withR r.com x.ty else r.com) := hy
                split at hy'
                · rcases mem_withR.1 hy' with rfl | hy'
                  · exact hty
                  · exact h.exC y hy'
                · exact h.exC y hy'
              exF := h.exF
              conE := h.conE
              conN := h.conN }
    · simp only [Bool.false_eq_true, if_false, Option.getD_none, Bool.or_true, if_true]
      exact ⟨rfl, (fun h => by cases h), fun _ => h.frz⟩
  · simp only [if_true, Option.getD_some, Bool.true_or]
    exact ⟨rfl, (fun h => by cases h), fun _ => h.frz⟩

theorem step_full {t : Tab} {s : PS} {r : RS} {x : EvV} (h : Sim t s r) (hx : x.wf) (hty : exI t.types.length x.ty = true) (h12 : (x.kind == 1 || x.kind == 2) = false) (hk : (x.kind == 3) = true) :
    Steps t (fullF s x).2 (fullF s x).1 r (nextR t r x) := by
  have hd := h.dec x.ty hx.1
  have hc := h.com x.ty hx.1
  have hnext : nextR t r x = if !r.dec.contains x.ty || r.com.contains x.ty then (r, false) else ({ r with com := withR r.com x.ty }, true) := by
    unfold nextR; rw [h12, if_neg (by simp), if_pos hk]
  rw [hnext]
  unfold fullF
  rw [hd, hc]
  cases hc1 : r.dec.contains x.ty
  · simp only [Bool.false_eq_true, if_false, Option.getD_none, Bool.not_false, Bool.true_or, if_true]
    exact ⟨rfl, (fun h => by cases h), fun _ => h.frz⟩
  · cases hc2 : r.com.contains x.ty
    · simp only [if_true, Option.getD_some, Bool.not_true, Bool.false_or, Bool.false_eq_true, if_false]
      refine ⟨rfl, fun _ => ?_, fun h => by cases h⟩
      exact { h with
              com := fun y hy => by
                show (updM s.com x.ty true y).getD false = _
                rw [contains_withR]
                unfold updM
                by_cases e : y = x.ty
                · subst e; simp
                · rw [if_neg e, h.com y hy]; simp [e]
              ascC := withR_asc h.ascC
              exC := fun y hy => by
                rcases mem_withR.1 hy with rfl | hy
                · exact hty
                · exact h.exC y hy }
    · simp only [if_true, Option.getD_some, Bool.not_true, Bool.false_or]
      exact ⟨rfl, (fun h => by cases h), fun _ => h.frz⟩

theorem step_freeze {t : Tab} {s : PS} {r : RS} {ty : Int} (h : Sim t s r) (hn : t.types.length ≤ 1000) (hty : exI t.types.length ty = true) :
    Steps t { s with frz := frzF s.frz (meetAll t (okM s.dec s.com) [ty]) } (meetAll t (okM s.dec s.com) [ty]).2 r (freezeR t r ty) := by
  have hls : ∀ x, x ∈ [ty] → exI t.types.length x = true := fun x hx => by simp at hx; subst hx; exact hty
  by_cases hf : FineR t r [ty]
  · have h1 := (fine_iff hn h hls).2 hf
    rw [h1, freezeR_yes hty hf]
    have hfa := foldl_with_asc (needs t ty) r.frz h.ascF
    refine ⟨rfl, fun _ => h.freeze hn hls hf rfl rfl rfl hfa.1 (fun x => ?_), fun h => by cases h⟩
    rw [hfa.2, (needs_res t ty hty).2]
    constructor
    · rintro (h | h)
      · exact .inr ⟨ty, by simp, h⟩
      · exact .inl h
    · rintro (h | ⟨y, hy, h⟩)
      · exact .inr h
      · simp at hy; subst hy; exact .inl h
  · have h1 : (meetAll t (okM s.dec s.com) [ty]).2 = false := by
      cases hq : (meetAll t (okM s.dec s.com) [ty]).2
      · rfl
      · exact absurd ((fine_iff hn h hls).1 hq) hf
    rw [h1, freezeR_no hty hf]
    exact ⟨rfl, (fun h => by cases h), fun _ x hx => h.refused hn hls hf hx⟩
end Go.Proofs.Ytbjnoffdafpkgaa
