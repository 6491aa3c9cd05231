/- Plain laws of Find over a table to which an entity was added: what is found of its own name. -/
import Derived.Test.YtlgcboaojdhneaaP3
namespace Go.Proofs.Ytlgcboaojdhneaa
open Go.RowKit

theorem snoc_ind {α : Type} {J : List α → Prop} (h0 : J []) (hJ : ∀ rs r, J rs → J (rs ++ [r])) : ∀ rs, J rs := by
  have : ∀ (ss pre : List α), J pre → J (pre ++ ss) := by
    intro ss
    induction ss with
    | nil => intro pre h; simpa using h
    | cons r ss ih =>
      intro pre h
      have := ih (pre ++ [r]) (hJ pre r h)
      simpa using this
  intro rs
  simpa using this rs [] h0
theorem dirF_sub {t : Tab} {h : WhV} {all : List Int} : ∀ (ss out : List Int) (a : Int), a ∈ out → a ∈ ss.foldl (dirS t h all) out := by
  intro ss
  induction ss with
  | nil => intro out a ha; exact ha
  | cons r ss ih => intro out a ha; exact ih _ a (List.mem_append.2 (.inl ha))
theorem dirR_facts {t : Tab} {h : WhV} {all rs : List Int} {e : Int} (he : e ∈ dirR t h all rs) : namedR t h e (rowE t e) = true := by
  refine dirR_ind (t := t) (h := h) (all := all) (fun _ out => ∀ e, e ∈ out → namedR t h e (rowE t e) = true) (by simp) ?_ rs e he
  intro rs out r ih e he
  rcases List.mem_append.1 he with he | he
  · exact ih e he
  · have := (List.mem_filter.1 he).2
    simp only [dirB, Bool.and_eq_true] at this
    exact this.1.2
/-- Whatever can be named and is declared in one of the regions is seen there, or hidden. -/
theorem dirR_hid {t : Tab} {h : WhV} {all rs : List Int} {e : Int} (he : e ∈ all) (ho : (rowE t e).owner ∈ rs) (hn : namedR t h e (rowE t e) = true) : hidR t (dirR t h all rs) (rowE t e) = true := by
  refine dirR_ind (t := t) (h := h) (all := all) (fun rs out => ∀ e, e ∈ all → (rowE t e).owner ∈ rs → namedR t h e (rowE t e) = true → hidR t out (rowE t e) = true) (by simp) ?_ rs e he ho hn
  intro rs out r ih e he ho hn
  have up : hidR t out (rowE t e) = true → hidR t (dirS t h all out r) (rowE t e) = true := fun h1 => by
    unfold hidR dirS at *
    rw [List.any_append, h1]
    rfl
  rcases List.mem_append.1 ho with ho | ho
  · exact up (ih e he ho hn)
  · simp only [List.mem_singleton] at ho
    cases hh : hidR t out (rowE t e)
    · refine hidR_mem (List.mem_append.2 (.inr (List.mem_filter.2 ⟨he, ?_⟩)))
      unfold dirB
      rw [hn, hh, ho]
      simp
    · exact up hh
theorem hom_chain {t : Tab} {g e f x : EntV} (n1 : (g.name.toList == f.name.toList) = true) (nx : (e.name.toList == x.name.toList) = true) (nf : (f.name.toList == x.name.toList) = true)
    (h1 : homR t e x = false) (h2 : homR t f x = false) (h3 : homR t e f = true) (h4 : homR t g e = true) : homR t g f = true := by
  unfold homR at *
  rw [nx] at h1
  rw [nf] at h2
  rw [n1]
  simp only [Bool.true_and, Bool.or_eq_false_iff, Bool.not_eq_false', Bool.and_eq_true, Bool.or_eq_true, Bool.not_eq_true'] at *
  obtain ⟨⟨oe, _⟩, _⟩ := h1
  obtain ⟨⟨of', _⟩, _⟩ := h2
  have p1 : profR t e f = true := by
    rcases h3.2 with (h | h) | h
    · rw [oe] at h; cases h
    · rw [of'] at h; cases h
    · exact h
  rcases h4.2 with (h | h) | h
  · exact .inl (.inl h)
  · rw [oe] at h; cases h
  · exact .inr (profR_trans h p1)

/-- An entity was added to the innermost region, behind all others. -/
structure Added (t : Tab) (x : EntV) (h h' : WhV) : Prop where
  row : (rowR t h.region).isSome = true
  e1 : h'.region = h.region
  e2 : h'.units = h.units
  after : h'.after = t.ents.length + 1
  own : x.owner = h.region
  unit : x.unit < 0
  name : x.name.toList.isEmpty = false
  new : twiceB t x = false

section
variable {t : Tab} {x : EntV} {h h' : WhV}
def allO (t : Tab) (x : EntV) : List Int := allR t x.name t.ents.length
theorem Added.all (A : Added t x h h') : allR (addE t x) x.name h'.after = allO t x ++ [(t.ents.length : Int)] := by
  rw [all_add, allR_after (show (t.ents.length : Int) ≤ h'.after by rw [A.after]; omega) (Int.le_refl _)]
  have : selB x.name h'.after t.ents.length x = true := by unfold selB; rw [A.name, A.after]; simp; omega
  rw [this]
  rfl
theorem allO_row {a : Int} (ha : a ∈ allO t x) : a < t.ents.length := (lt_of_some (allR_row ha)).2
theorem allO_name {a : Int} (ha : a ∈ allO t x) : ((rowE t a).name.toList == x.name.toList) = true := by
  obtain ⟨k, y, rfl, hy, _, h2, _⟩ := all_facts ha
  rw [(row_some hy).2]
  exact h2
theorem rowE_last : rowE (addE t x) (t.ents.length : Int) = x := (row_some ents_last).2
theorem Added.apart (A : Added t x h h') {a : Int} (ha : (rowR t a).isSome = true) (ho : (rowE t a).owner = h.region) : homR t (rowE t a) x = false := by
  obtain ⟨k, y, rfl, hy, _⟩ := row_at ha
  rw [(row_some hy).2] at ho ⊢
  have hn := A.new
  unfold twiceB at hn
  rw [A.name] at hn
  simp only [Bool.not_false, Bool.true_and] at hn
  rw [List.any_eq_false] at hn
  have := hn y (List.mem_of_getElem? hy)
  unfold addB at this
  rw [A.own, ← ho] at this
  rw [homR_symm]
  simpa using this
/-- The added entity is seen in its own region. -/
theorem Added.seen (A : Added t x h h') {rs : List Int} (hr : rs.head? = some h.region) : (t.ents.length : Int) ∈ dirR (addE t x) h' (allO t x ++ [(t.ents.length : Int)]) rs := by
  cases rs with
  | nil => cases hr
  | cons r rs =>
    simp at hr
    subst hr
    refine dirF_sub rs _ _ (List.mem_append.2 (.inr (List.mem_filter.2 ⟨by simp, ?_⟩)))
    unfold dirB
    rw [rowE_last, A.own]
    have : namedR (addE t x) h' (t.ents.length : Int) x = true := by
      unfold namedR
      have := A.unit
      simp [this]
    rw [this]
    simp [hidR]
theorem Added.mem (_ : Added t x h h') {rs : List Int} {a : Int} (ha : a ∈ dirR (addE t x) h' (allO t x ++ [(t.ents.length : Int)]) rs) (hne : a ≠ (t.ents.length : Int)) : a ∈ allO t x := by
  have := dirR_mem ha
  simpa [hne] using this
/-- What is seen beside it is no homograph of it. -/
theorem Added.clean (A : Added t x h h') {rs : List Int} (hr : rs.head? = some h.region) {a : Int} (ha : a ∈ dirR (addE t x) h' (allO t x ++ [(t.ents.length : Int)]) rs) (hne : a ≠ (t.ents.length : Int)) : homR t (rowE t a) x = false := by
  have hm := A.mem ha hne
  have h1 := dirR_apart ha (A.seen hr)
  rw [rowE_last, rowE_add (allO_row hm), homR_add] at h1
  rcases h1 with h1 | h1
  · exact A.apart (allR_row hm) (h1.trans A.own)
  · exact h1
/-- What was seen and is no homograph of it is seen still. -/
theorem Added.still (A : Added t x h h') : ∀ rs : List Int, (rs = [] ∨ rs.head? = some h.region) → ∀ a, a ∈ dirR t h (allO t x) rs → homR t (rowE t a) x = false → a ∈ dirR (addE t x) h' (allO t x ++ [(t.ents.length : Int)]) rs := by
  have hreg := (lt_of_some A.row).2
  refine snoc_ind (fun _ a ha => by simp [dirR] at ha) ?_
  intro rs r ih hh a ha hx
  have hhd : rs = [] ∨ rs.head? = some h.region := by
    cases rs with
    | nil => exact .inl rfl
    | cons q qs => right; simpa using hh
  rw [dirR_snoc] at ha ⊢
  unfold dirS at ha ⊢
  rcases List.mem_append.1 ha with ha | ha
  · exact List.mem_append.2 (.inl (ih hhd a ha hx))
  · obtain ⟨hall, hb⟩ := List.mem_filter.1 ha
    refine List.mem_append.2 (.inr (List.mem_filter.2 ⟨List.mem_append.2 (.inl hall), ?_⟩))
    unfold dirB at hb ⊢
    rw [rowE_add (allO_row hall), named_add hreg A.e1 A.e2]
    simp only [Bool.and_eq_true, Bool.not_eq_true'] at hb
    rw [hb.1.1, hb.1.2]
    have : hidR (addE t x) (dirR (addE t x) h' (allO t x ++ [(t.ents.length : Int)]) rs) (rowE t a) = false := by
      unfold hidR
      rw [List.any_eq_false]
      intro e he
      rw [Bool.not_eq_true, homR_add]
      have hrs : rs.head? = some h.region := by
        rcases hhd with rfl | h1
        · simp [dirR] at he
        · exact h1
      by_cases hne : e = (t.ents.length : Int)
      · subst hne
        rw [rowE_last, homR_symm]
        exact hx
      · have hm := A.mem he hne
        have hc := A.clean hrs he hne
        have hown := dirR_own he
        have hnm := dirR_facts he
        rw [rowE_add (allO_row hm)] at hown hnm ⊢
        rw [named_add hreg A.e1 A.e2] at hnm
        have hd := dirR_hid (h := h) hm hown hnm
        unfold hidR at hd
        rw [List.any_eq_true] at hd
        obtain ⟨g, hg, hge⟩ := hd
        cases hef : homR t (rowE t e) (rowE t a)
        · rfl
        · have hgm := dirR_mem hg
          have n1 : ((rowE t g).name.toList == (rowE t a).name.toList) = true := by
            have h1 := allO_name hgm
            have h2 := allO_name hall
            simp only [beq_iff_eq] at h1 h2 ⊢
            rw [h1, h2]
          have := hom_chain n1 (allO_name hm) (allO_name hall) hc hx hef hge
          rw [hidR_no hb.2 hg] at this
          exact absurd this (by simp)
    rw [this]
    rfl
theorem Added.head (A : Added t x h h') : (regs (addE t x) h'.region).head? = some h.region ∧ regs (addE t x) h'.region = regs t h.region := by
  have hreg := (lt_of_some A.row).2
  have e := regs_add (x := x) hreg
  obtain ⟨y, hy⟩ := Option.isSome_iff_exists.1 A.row
  rw [A.e1, e]
  refine ⟨?_, rfl⟩
  rw [regs_some hy]
  rfl
theorem Added.d (A : Added t x h h') : dR (addE t x) h' x.name = dirR (addE t x) h' (allO t x ++ [(t.ents.length : Int)]) (regs (addE t x) h'.region) := by
  rw [dR, A.all]
/-- It is found. -/
theorem inner_found (A : Added t x h h') : hasI (findR (addE t x) h' x.name) (t.ents.length : Int) = true := by
  unfold hasI
  rw [List.contains_iff_mem, find_mem]
  left
  rw [A.d]
  exact A.seen A.head.1
/-- What is found beside it is no homograph of it. -/
theorem inner_clean (A : Added t x h h') {a : Int} (ha : a ∈ findR (addE t x) h' x.name) (hne : a ≠ (t.ents.length : Int)) : homI (addE t x) a (t.ents.length : Int) = false := by
  have hall := find_all ha
  rw [homI_eq (allR_row hall) (by rw [(row_some ents_last).1]; rfl), rowE_last]
  have hm : a ∈ allO t x := by rw [A.all] at hall; simpa [hne] using hall
  rcases find_mem.1 ha with ha | ha
  · rw [A.d] at ha
    rw [rowE_add (allO_row hm), homR_add]
    exact A.clean A.head.1 ha hne
  · have h1 := (used1_facts (used_mem ha).1).2.2.2
    have h2 : (t.ents.length : Int) ∈ dR (addE t x) h' x.name := by rw [A.d]; exact A.seen A.head.1
    have := hidR_no h1 h2
    rw [rowE_last] at this
    rw [homR_symm]
    exact this
/-- A place that uses nothing. -/
def plainH (h : WhV) : WhV := { h with sa := none, sc := 0, uses := [] }
theorem find_plain {name : ByteArray} {a : Int} (ha : a ∈ findR t (plainH h) name) : a ∈ dirR t h (allR t name h.after) (regs t h.region) := by
  rcases find_mem.1 ha with ha | ha
  · exact ha
  · obtain ⟨_, ⟨u, hu, _⟩, _⟩ := used1_facts (used_mem ha).1
    cases hu
/-- What was visible without use, and is no homograph of it, is found. -/
theorem inner_still (A : Added t x h h') (ha0 : h.after = t.ents.length) {a : Int} (ha : a ∈ findR t (plainH h) x.name) (hx : homI (addE t x) a (t.ents.length : Int) = false) : hasI (findR (addE t x) h' x.name) a = true := by
  have hd := find_plain ha
  have hal : allR t x.name h.after = allO t x := by rw [ha0]; rfl
  rw [hal] at hd
  have hm := dirR_mem hd
  unfold hasI
  rw [List.contains_iff_mem, find_mem]
  left
  rw [A.d, A.head.2]
  obtain ⟨y, hy⟩ := Option.isSome_iff_exists.1 A.row
  refine A.still _ (.inr (by rw [regs_some hy]; rfl)) a hd ?_
  have hrow := allR_row hm
  have hrow' : (rowR (addE t x) a).isSome = true := by rw [row_add (allO_row hm)]; exact hrow
  rw [homI_eq hrow' (by rw [(row_some ents_last).1]; rfl), rowE_last, rowE_add (allO_row hm), homR_add] at hx
  exact hx
end
end Go.Proofs.Ytlgcboaojdhneaa
