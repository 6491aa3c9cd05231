/- Plain laws of Find over a table to which an entity was added: what ScopeInner says. -/
import Derived.Test.YtlgcboaojdhneaaP2
import Derived.Test.YtlgcboaojdhneaaA7
namespace Go.Proofs.Ytlgcboaojdhneaa
open Go.RowKit

section
variable {t : Tab} {x : EntV}

theorem row_add {e : Int} (he : e < t.ents.length) : rowR (addE t x) e = rowR t e := by
  unfold rowR addE
  by_cases h : e < 0
  · rw [if_pos h, if_pos h]
  · rw [if_neg h, if_neg h]
    exact List.getElem?_append_left (by omega)
theorem rowE_add {e : Int} (he : e < t.ents.length) : rowE (addE t x) e = rowE t e := by rw [rowE, row_add he, rowE]
theorem ents_add {k : Nat} (hk : k < t.ents.length) : (addE t x).ents[k]? = t.ents[k]? := List.getElem?_append_left hk
theorem ents_last : (addE t x).ents[t.ents.length]? = some x := by simp [addE]
theorem homR_add (a b : EntV) : homR (addE t x) a b = homR t a b := rfl
theorem len_add : (addE t x).ents.length = t.ents.length + 1 := by simp [addE]
theorem lt_of_some {e : Int} (h : (rowR t e).isSome = true) : 0 ≤ e ∧ e < t.ents.length := by
  obtain ⟨n, y, rfl, hy, _⟩ := row_at h
  have := (List.getElem?_eq_some_iff.1 hy).1
  omega
theorem regN_add : ∀ (k : Nat) (e : Int), e < t.ents.length → regN (addE t x) k e = regN t k e := by
  intro k
  induction k with
  | zero => intro e _; rfl
  | succ k ih =>
    intro e he
    rw [regN, regN, row_add he]
    cases hr : rowR t e with
    | none => rfl
    | some y =>
      simp only
      by_cases ho : e ≤ y.owner
      · rw [if_pos ho, if_pos ho]
      · rw [if_neg ho, if_neg ho, ih y.owner (by omega)]
theorem regs_add {e : Int} (he : e < t.ents.length) : regs (addE t x) e = regs t e := regN_add _ _ he
theorem inside_add {e : Int} (he : e < t.ents.length) (o : Int) : insideR (addE t x) e o = insideR t e o := by rw [insideR, regs_add he, insideR]
theorem baseN_add : ∀ (k e : Nat), e < t.ents.length → baseN (addE t x) k e = baseN t k e := by
  intro k
  induction k with
  | zero => intro e _; rfl
  | succ k ih =>
    intro e he
    rw [baseN, baseN, ents_add he]
    cases hr : t.ents[e]? with
    | none => rfl
    | some y =>
      simp only
      by_cases hb : renB y e = true
      · rw [if_pos hb, if_pos hb]
        simp only [renB, Bool.and_eq_true, decide_eq_true_eq] at hb
        exact ih _ (by omega)
      · rw [if_neg hb, if_neg hb]
theorem base_add {e : Int} (he : e < t.ents.length) : baseR (addE t x) e = baseR t e := by
  unfold baseR
  rw [row_add he]
  by_cases h : (rowR t e).isSome = true
  · rw [if_pos h, if_pos h, baseN_add _ _ (by have := lt_of_some h; omega)]
  · rw [if_neg h, if_neg h]
theorem want_add {u : Int} (hu : u < t.ents.length) : wantU (addE t x) u = wantU t u := by
  unfold wantU
  rw [base_add hu]
  by_cases h : baseR t u = -1
  · rw [h]
    rfl
  · rw [rowE_add (lt_of_some (base_row h)).2]
theorem wantM_add {us : List Int} (hu : ∀ u, u ∈ us → u < t.ents.length) (o : Int) : ((wantM (addE t x) us) o).getD false = ((wantM t us) o).getD false := by
  rw [wantM_get, wantM_get]
  induction us with
  | nil => rfl
  | cons u us ih =>
    rw [List.any_cons, List.any_cons, want_add (hu u (by simp)), base_add (hu u (by simp)), ih (fun v hv => hu v (by simp [hv]))]
theorem named_add {h h' : WhV} (hr : h.region < t.ents.length) (e1 : h'.region = h.region) (e2 : h'.units = h.units) (e : Int) (y : EntV) : namedR (addE t x) h' e y = namedR t h e y := by
  unfold namedR
  rw [e1, e2, inside_add hr]
theorem hid_add {l : List Int} (hl : ∀ a, a ∈ l → a < t.ents.length) (y : EntV) : hidR (addE t x) l y = hidR t l y := by
  unfold hidR
  induction l with
  | nil => rfl
  | cons a l ih => rw [List.any_cons, List.any_cons, rowE_add (hl a (by simp)), homR_add, ih (fun b hb => hl b (by simp [hb]))]
theorem dir_add {h h' : WhV} (hr : h.region < t.ents.length) (e1 : h'.region = h.region) (e2 : h'.units = h.units) {all : List Int} (ha : ∀ a, a ∈ all → a < t.ents.length) :
    ∀ (rs out : List Int), (∀ a, a ∈ out → a < t.ents.length) → rs.foldl (dirS (addE t x) h' all) out = rs.foldl (dirS t h all) out := by
  intro rs
  induction rs with
  | nil => intro out _; rfl
  | cons r rs ih =>
    intro out ho
    have hs : dirS (addE t x) h' all out r = dirS t h all out r := by
      unfold dirS
      congr 1
      refine List.filter_congr fun e he => ?_
      unfold dirB
      rw [rowE_add (ha e he), named_add hr e1 e2, hid_add ho]
    rw [List.foldl_cons, List.foldl_cons, hs]
    refine ih _ (fun a hm => ?_)
    rcases List.mem_append.1 hm with hm | hm
    · exact ho a hm
    · exact ha a (List.mem_filter.1 hm).1
theorem used_add {h h' : WhV} (e3 : h'.uses = h.uses) (hu : ∀ u, u ∈ h.uses → u < t.ents.length) {all d : List Int} (ha : ∀ a, a ∈ all → a < t.ents.length) (hd : ∀ a, a ∈ d → a < t.ents.length) :
    usedR (addE t x) h' all d = usedR t h all d := by
  have h1 : used1R (addE t x) h' all d = used1R t h all d := by
    unfold used1R
    refine List.filter_congr fun e he => ?_
    unfold ofUsed
    rw [e3, rowE_add (ha e he), wantM_add hu, hid_add hd]
  show (used1R (addE t x) h' all d).filter _ = (used1R t h all d).filter _
  rw [h1]
  refine List.filter_congr fun e he => ?_
  have hsub : ∀ a, a ∈ used1R t h all d → a < t.ents.length := fun a hm => ha a (List.mem_filter.1 hm).1
  show freeB (addE t x) (used1R (addE t x) h' all d) _ = freeB t (used1R t h all d) _
  rw [h1, rowE_add (hsub e he)]
  unfold freeB
  congr 1
  have key : ∀ (l : List Int), (∀ a, a ∈ l → a < t.ents.length) → ∀ y, (l.any fun e => overB (addE t x) y (rowE (addE t x) e)) = l.any fun e => overB t y (rowE t e) := by
    intro l
    induction l with
    | nil => intro _ y; rfl
    | cons a l ih => intro hl y; rw [List.any_cons, List.any_cons, rowE_add (hl a (by simp)), ih (fun b hb => hl b (by simp [hb]))]; rfl
  exact key _ hsub _
/-- Where the lists of the name are the same, so is what is found. -/
theorem find_congr {h h' : WhV} {name : ByteArray} (hr : h.region < t.ents.length) (hu : ∀ u, u ∈ h.uses → u < t.ents.length) (e1 : h'.region = h.region) (e2 : h'.units = h.units) (e3 : h'.uses = h.uses)
    (ha : allR (addE t x) name h'.after = allR t name h.after) : findR (addE t x) h' name = findR t h name := by
  have hal : ∀ a, a ∈ allR t name h.after → a < t.ents.length := fun a hm => (lt_of_some (allR_row hm)).2
  have hd : dirR (addE t x) h' (allR t name h.after) (regs (addE t x) h'.region) = dirR t h (allR t name h.after) (regs t h.region) := by
    rw [e1, regs_add hr]
    exact dir_add hr e1 e2 hal _ [] (by simp)
  unfold findR findL
  simp only
  rw [ha, hd, used_add e3 hu hal (fun a hm => hal a (dirR_mem hm))]

/-! The lists of the name. -/
theorem sel_add {name : ByteArray} {after : Int} {k : Nat} (hk : k < t.ents.length) : selAt (addE t x) name after k = selAt t name after k := by rw [selAt, ents_add hk, selAt]
theorem sel_last {name : ByteArray} {after : Int} : selAt (addE t x) name after t.ents.length = selB name after t.ents.length x := by rw [selAt, ents_last]; rfl
theorem allN_add {name : ByteArray} {after : Int} : ∀ k, k ≤ t.ents.length → allN (addE t x) name after k = allN t name after k := by
  intro k
  induction k with
  | zero => intro _; rfl
  | succ k ih => intro hk; rw [allN_succ, allN_succ, ih (by omega), sel_add (by omega)]
theorem all_add {name : ByteArray} {after : Int} : allR (addE t x) name after = allR t name after ++ (if selB name after t.ents.length x then [(t.ents.length : Int)] else []) := by
  unfold allR
  rw [len_add, allN_succ, allN_add _ (Nat.le_refl _), sel_last]
theorem allN_after {name : ByteArray} {a b : Int} (ha : (t.ents.length : Int) ≤ a) (hb : (t.ents.length : Int) ≤ b) : ∀ k, k ≤ t.ents.length → allN t name a k = allN t name b k := by
  intro k
  induction k with
  | zero => intro _; rfl
  | succ k ih =>
    intro hk
    have : selAt t name a k = selAt t name b k := by
      unfold selAt
      cases t.ents[k]? with
      | none => rfl
      | some y =>
        simp only [Option.map_some, Option.getD_some, selB]
        have h1 : decide ((k : Int) < a) = true := by simp; omega
        have h2 : decide ((k : Int) < b) = true := by simp; omega
        rw [h1, h2]
    rw [allN_succ, allN_succ, ih (by omega), this]
theorem allR_after {name : ByteArray} {a b : Int} (ha : (t.ents.length : Int) ≤ a) (hb : (t.ents.length : Int) ≤ b) : allR t name a = allR t name b := allN_after ha hb _ (Nat.le_refl _)

/-- Names other than the added one are found as before. -/
theorem inner_other {h h' : WhV} {name : ByteArray} (hr : h.region < t.ents.length) (hu : ∀ u, u ∈ h.uses → u < t.ents.length) (e1 : h'.region = h.region) (e2 : h'.units = h.units) (e3 : h'.uses = h.uses)
    (ha : h.after = t.ents.length) (ha' : h'.after = t.ents.length + 1) (hn : (x.name.toList == name.toList) = false) : findR (addE t x) h' name = findR t h name := by
  refine find_congr hr hu e1 e2 e3 ?_
  rw [all_add, allR_after (show (t.ents.length : Int) ≤ h'.after by omega) (show (t.ents.length : Int) ≤ h.after by omega)]
  have : selB name h'.after t.ents.length x = false := by unfold selB; rw [hn]; simp
  rw [this]
  simp
/-- Behind its place nothing is seen of it. -/
theorem inner_before {h : WhV} {name : ByteArray} (hr : h.region < t.ents.length) (hu : ∀ u, u ∈ h.uses → u < t.ents.length) (ha : h.after = t.ents.length) : findR (addE t x) h name = findR t h name := by
  refine find_congr hr hu rfl rfl rfl ?_
  rw [all_add]
  have : selB name h.after t.ents.length x = false := by unfold selB; rw [ha]; simp
  rw [this]
  simp
theorem find_empty {h : WhV} {name : ByteArray} (hn : name.toList.isEmpty = true) : findR t h name = [] := by
  have hal : allR t name h.after = [] := by
    refine List.eq_nil_iff_forall_not_mem.2 fun a ha => ?_
    obtain ⟨_, _, _, _, h1, _⟩ := all_facts ha
    rw [hn] at h1
    cases h1
  refine List.eq_nil_iff_forall_not_mem.2 fun a ha => ?_
  have := find_all ha
  rw [hal] at this
  cases this
end
end Go.Proofs.Ytlgcboaojdhneaa
