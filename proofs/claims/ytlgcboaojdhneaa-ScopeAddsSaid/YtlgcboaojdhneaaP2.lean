/- Plain laws of Select and Find: what ScopeSelects and ScopeHides say of them. -/
import Derived.Test.YtlgcboaojdhneaaP1
import Derived.Test.YtlgcboaojdhneaaD8
namespace Go.Proofs.Ytlgcboaojdhneaa
open Go.RowKit

theorem parEq_symm {p : ParamV → ParamV → Bool} (hp : ∀ x y, p x y = p y x) : ∀ xs ys, parEq p xs ys = parEq p ys xs
  | [], [] => rfl
  | [], _ :: _ => rfl
  | _ :: _, [] => rfl
  | x :: xs, y :: ys => by rw [parEq, parEq, hp, parEq_symm hp xs ys]
theorem parEq_trans {p : ParamV → ParamV → Bool} (hp : ∀ x y z, p x y = true → p y z = true → p x z = true) : ∀ xs ys zs, parEq p xs ys = true → parEq p ys zs = true → parEq p xs zs = true
  | [], [], zs, _, h => h
  | [], _ :: _, _, h, _ => by simp [parEq] at h
  | _ :: _, [], _, h, _ => by simp [parEq] at h
  | _ :: _, _ :: _, [], _, h => by simp [parEq] at h
  | x :: xs, y :: ys, z :: zs, h, k => by
    simp only [parEq, Bool.and_eq_true] at h k ⊢
    exact ⟨hp x y z h.1 k.1, parEq_trans hp xs ys zs h.2 k.2⟩
theorem profR_symm (t : Tab) (a b : EntV) : profR t a b = profR t b a := by
  unfold profR
  rw [BEq.comm (a := a.t), parEq_symm (fun x y => by unfold samePar; exact BEq.comm) a.params]
theorem profR_trans {t : Tab} {a b c : EntV} (h : profR t a b = true) (k : profR t b c = true) : profR t a c = true := by
  simp only [profR, Bool.and_eq_true, beq_iff_eq] at h k ⊢
  refine ⟨h.1.trans k.1, parEq_trans ?_ _ _ _ h.2 k.2⟩
  intro x y z h k
  simp only [samePar, beq_iff_eq] at h k ⊢
  exact h.trans k
theorem homR_symm (t : Tab) (a b : EntV) : homR t a b = homR t b a := by
  unfold homR
  rw [BEq.comm (a := a.name.toList), profR_symm t a b]
  cases ovl a <;> cases ovl b <;> simp
theorem homI_symm (t : Tab) (a b : Int) : homI t a b = homI t b a := by
  unfold homI
  rw [homR_symm]
  cases (rowR t a).isSome <;> cases (rowR t b).isSome <;> rfl
theorem homI_eq {t : Tab} {a b : Int} (ha : (rowR t a).isSome = true) (hb : (rowR t b).isSome = true) : homI t a b = homR t (rowE t a) (rowE t b) := by
  unfold homI
  rw [ha, hb]
  rfl

theorem all_facts {t : Tab} {name : ByteArray} {after e : Int} (h : e ∈ allR t name after) : ∃ (k : Nat) (x : EntV), e = (k : Int) ∧ t.ents[k]? = some x ∧ name.toList.isEmpty = false ∧ (x.name.toList == name.toList) = true ∧ (k : Int) < after := by
  obtain ⟨k, rfl, hk, hs⟩ := allN_lt h
  refine ⟨k, t.ents[k], rfl, List.getElem?_eq_getElem hk, ?_⟩
  unfold selAt at hs
  rw [List.getElem?_eq_getElem hk] at hs
  simp only [Option.map_some, Option.getD_some, selB, Bool.and_eq_true, Bool.not_eq_true', decide_eq_true_eq] at hs
  exact ⟨hs.1.1, hs.1.2, hs.2⟩
theorem all_mem {t : Tab} {name : ByteArray} {after : Int} {k : Nat} {x : EntV} (hx : t.ents[k]? = some x) (h1 : name.toList.isEmpty = false) (h2 : (x.name.toList == name.toList) = true) (h3 : (k : Int) < after) : (k : Int) ∈ allR t name after := by
  unfold allR allN
  rw [List.mem_map]
  refine ⟨k, ?_, rfl⟩
  rw [List.mem_filter, List.mem_range]
  refine ⟨(List.getElem?_eq_some_iff.1 hx).1, ?_⟩
  unfold selAt
  rw [hx]
  simp [selB, h1, h2, h3]

/-! Select -/
def atR (h : WhV) (p : Int) : WhV := { h with region := p }
theorem base_row {t : Tab} {u : Int} (h : baseR t u ≠ -1) : (rowR t (baseR t u)).isSome = true := by
  have key : ∀ (k e : Nat), e < t.ents.length → e ≤ k → baseN t k e < t.ents.length := by
    intro k
    induction k with
    | zero => intro e he _; exact he
    | succ k ih =>
      intro e he hk
      obtain ⟨x, hx⟩ : ∃ x, t.ents[e]? = some x := ⟨_, List.getElem?_eq_getElem he⟩
      unfold baseN
      rw [hx]
      simp only
      split
      · rename_i hr
        simp only [renB, Bool.and_eq_true, decide_eq_true_eq] at hr
        exact ih _ (by omega) (by omega)
      · exact he
  unfold baseR at h ⊢
  by_cases hu : (rowR t u).isSome = true
  · rw [if_pos hu]
    obtain ⟨n, x, rfl, hx, _⟩ := row_at hu
    have h1 := (List.getElem?_eq_some_iff.1 hx).1
    have h2 := key (Int.toNat n) (Int.toNat n) (by omega) (Nat.le_refl _)
    obtain ⟨x2, hx2⟩ : ∃ x, t.ents[baseN t (Int.toNat n) (Int.toNat n)]? = some x := ⟨_, List.getElem?_eq_getElem h2⟩
    rw [(row_some hx2).1]
    rfl
  · rw [if_neg hu] at h
    exact absurd rfl h
theorem inside_self {t : Tab} {p : Int} (h : (rowR t p).isSome = true) : insideR t p p = true := by
  obtain ⟨x, hx⟩ := Option.isSome_iff_exists.1 h
  unfold insideR
  rw [regs_some hx]
  simp
theorem whole_at {t : Tab} {h : WhV} {p : Int} (hp : (rowR t p).isSome = true) : wholeB t (atR h p) p = true := by
  unfold wholeB
  rw [show (atR h p).region = p from rfl, inside_self hp]
  simp
theorem selR_mem {t : Tab} {h : WhV} {u e : Int} {name : ByteArray} (hb : baseR t u ≠ -1) : e ∈ selR t h u name ↔ e ∈ allR t name h.after ∧ selF t h (baseR t u) e = true := by
  unfold selR
  rw [if_neg hb, List.mem_filter]
theorem sel_in {t : Tab} {h : WhV} {u : Int} {k : Nat} {x : EntV} (hb : baseR t u ≠ -1) (h0 : baseR t u ≠ 0) (hx : t.ents[k]? = some x) (ho : x.owner = baseR t u) (ha : (k : Int) < h.after) (hn : x.name.toList.isEmpty = false) :
    hasI (selR t (atR h (baseR t u)) u x.name) k = true := by
  unfold hasI
  rw [List.contains_iff_mem, selR_mem hb]
  refine ⟨all_mem hx hn (by simp) ha, ?_⟩
  unfold selF
  rw [(row_some hx).2, pickB, whole_at (base_row hb), ho]
  have : (baseR t u != 0) = true := by simpa using h0
  rw [this]
  simp
theorem sel_both {t : Tab} {h : WhV} {u e : Int} {name : ByteArray} (hb : baseR t u ≠ -1) (h0 : baseR t u ≠ 0) (he : e ∈ selR t h u name) : hasI (selR t (atR h (baseR t u)) u name) e = true := by
  unfold hasI
  rw [List.contains_iff_mem]
  rw [selR_mem hb] at he ⊢
  refine ⟨he.1, ?_⟩
  have h2 := he.2
  unfold selF pickB at h2 ⊢
  rw [whole_at (base_row hb)]
  simp only [Bool.and_eq_true] at h2
  have : (baseR t u != 0) = true := by simpa using h0
  rw [h2.1.1, this]
  rfl
theorem sel_own {t : Tab} {h : WhV} {u e : Int} {name : ByteArray} (he : e ∈ selR t h u name) : ∃ (k : Nat) (x : EntV), e = (k : Int) ∧ t.ents[k]? = some x ∧ x.owner = baseR t u := by
  by_cases hb : baseR t u = -1
  · unfold selR at he
    rw [if_pos hb] at he
    cases he
  · obtain ⟨h1, h2⟩ := (selR_mem hb).1 he
    obtain ⟨k, x, rfl, hx, _⟩ := all_facts h1
    refine ⟨k, x, rfl, hx, ?_⟩
    unfold selF pickB at h2
    rw [(row_some hx).2] at h2
    simp only [Bool.and_eq_true, beq_iff_eq] at h2
    exact h2.1.1

/-! Find -/
/-- The entities that are directly visible. -/
def dR (t : Tab) (h : WhV) (name : ByteArray) : List Int := dirR t h (allR t name h.after) (regs t h.region)
theorem find_mem {t : Tab} {h : WhV} {name : ByteArray} {e : Int} : e ∈ findR t h name ↔ e ∈ dR t h name ∨ e ∈ usedR t h (allR t name h.after) (dR t h name) := by
  unfold findR
  rw [(sortI_perm _).mem_iff, findL]
  exact List.mem_append
theorem used_mem {t : Tab} {h : WhV} {all d : List Int} {e : Int} (he : e ∈ usedR t h all d) : e ∈ used1R t h all d ∧ freeB t (used1R t h all d) (rowE t e) = true := List.mem_filter.1 he
theorem find_all {t : Tab} {h : WhV} {name : ByteArray} {e : Int} (he : e ∈ findR t h name) : e ∈ allR t name h.after := by
  rcases find_mem.1 he with he | he
  · exact dirR_mem he
  · exact (List.mem_filter.1 (used_mem he).1).1
/-- One by one, what the list of the directly visible holds. -/
theorem dirF_ind {t : Tab} {h : WhV} {all : List Int} (J : List Int → List Int → Prop) (hJ : ∀ rs out r, J rs out → J (rs ++ [r]) (dirS t h all out r)) : ∀ (rs ss out : List Int), J rs out → J (rs ++ ss) (ss.foldl (dirS t h all) out) := by
  intro rs ss
  induction ss generalizing rs with
  | nil => intro out ho; simpa using ho
  | cons r ss ih =>
    intro out ho
    have := ih (rs ++ [r]) (dirS t h all out r) (hJ rs out r ho)
    simpa using this
theorem dirR_ind {t : Tab} {h : WhV} {all : List Int} (J : List Int → List Int → Prop) (h0 : J [] []) (hJ : ∀ rs out r, J rs out → J (rs ++ [r]) (dirS t h all out r)) (rs : List Int) : J rs (dirR t h all rs) := by
  have := dirF_ind J hJ [] rs [] h0
  rw [List.nil_append] at this
  exact this
theorem dirR_own {t : Tab} {h : WhV} {all rs : List Int} {e : Int} (he : e ∈ dirR t h all rs) : (rowE t e).owner ∈ rs := by
  refine dirR_ind (t := t) (h := h) (all := all) (fun rs out => ∀ e, e ∈ out → (rowE t e).owner ∈ rs) (by simp) ?_ rs e he
  intro rs out r ih e he
  unfold dirS at he
  rcases List.mem_append.1 he with he | he
  · exact List.mem_append.2 (.inl (ih e he))
  · have := (List.mem_filter.1 he).2
    simp only [dirB, Bool.and_eq_true, beq_iff_eq] at this
    rw [this.1.1]
    simp
theorem dirR_nodup {t : Tab} {h : WhV} {all rs : List Int} (hn : all.Nodup) : (dirR t h all rs).Nodup := by
  refine dirR_ind (t := t) (h := h) (all := all) (fun _ out => out.Nodup) (by simp) ?_ rs
  intro rs out r ih
  unfold dirS
  rw [List.nodup_append]
  refine ⟨ih, List.Pairwise.filter _ hn, ?_⟩
  intro a ha b hb e
  subst e
  have := (List.mem_filter.1 hb).2
  simp only [dirB, Bool.and_eq_true, Bool.not_eq_true'] at this
  rw [hidR_mem ha] at this
  simp at this
theorem hidR_no {t : Tab} {l : List Int} {y : EntV} (h : hidR t l y = false) {a : Int} (ha : a ∈ l) : homR t (rowE t a) y = false := by
  unfold hidR at h
  rw [List.any_eq_false] at h
  simpa using h a ha
theorem hidR_sub {t : Tab} {l l' : List Int} {y : EntV} (h : hidR t l y = false) (hs : ∀ a, a ∈ l' → a ∈ l) : hidR t l' y = false := by
  unfold hidR at h ⊢
  rw [List.any_eq_false] at h ⊢
  exact fun a ha => h a (hs a ha)
/-- Two that are directly visible are of one region, or no homographs. -/
theorem dirR_apart {t : Tab} {h : WhV} {all rs : List Int} {a b : Int} (ha : a ∈ dirR t h all rs) (hb : b ∈ dirR t h all rs) : (rowE t a).owner = (rowE t b).owner ∨ homR t (rowE t a) (rowE t b) = false := by
  refine dirR_ind (t := t) (h := h) (all := all) (fun _ out => ∀ a b, a ∈ out → b ∈ out → (rowE t a).owner = (rowE t b).owner ∨ homR t (rowE t a) (rowE t b) = false) (by simp) ?_ rs a b ha hb
  intro rs out r ih a b ha hb
  unfold dirS at ha hb
  have new : ∀ e, e ∈ all.filter (dirB t h r out) → (rowE t e).owner = r ∧ hidR t out (rowE t e) = false := fun e he => by
    have := (List.mem_filter.1 he).2
    simp only [dirB, Bool.and_eq_true, beq_iff_eq, Bool.not_eq_true'] at this
    exact ⟨this.1.1, this.2⟩
  rcases List.mem_append.1 ha with ha | ha <;> rcases List.mem_append.1 hb with hb | hb
  · exact ih a b ha hb
  · exact .inr (hidR_no (new b hb).2 ha)
  · exact .inr (by rw [homR_symm]; exact hidR_no (new a ha).2 hb)
  · exact .inl ((new a ha).1.trans (new b hb).1.symm)
theorem used1_facts {t : Tab} {h : WhV} {all d : List Int} {e : Int} (he : e ∈ used1R t h all d) : e ∈ all ∧ (∃ u, u ∈ h.uses ∧ wantU t u = true ∧ baseR t u = (rowE t e).owner) ∧ (rowE t e).part = 0 ∧ hidR t d (rowE t e) = false := by
  obtain ⟨h1, h2⟩ := List.mem_filter.1 he
  unfold ofUsed at h2
  rw [wantM_get] at h2
  simp only [Bool.and_eq_true, List.any_eq_true, beq_iff_eq, Bool.not_eq_true'] at h2
  obtain ⟨⟨⟨u, hu, h3, h4⟩, h5⟩, h6⟩ := h2
  exact ⟨h1, ⟨u, hu, h3, h4⟩, h5, h6⟩
theorem find_nodup (t : Tab) (h : WhV) (name : ByteArray) : (findL t h name).Nodup := by
  have ha := asc_nodup (allR_asc t name h.after)
  unfold findL
  rw [List.nodup_append]
  refine ⟨dirR_nodup ha, ?_, ?_⟩
  · exact List.Pairwise.filter _ (List.Pairwise.filter _ ha)
  · intro a h1 b h2 e
    subst e
    have := (used1_facts (used_mem h2).1).2.2.2
    rw [hidR_mem h1] at this
    cases this
theorem find_asc (t : Tab) (h : WhV) (name : ByteArray) : (findR t h name).Pairwise (· < ·) := by
  have h1 := sortI_asc (findL t h name)
  have h2 : (findR t h name).Nodup := (sortI_perm (findL t h name)).nodup_iff.2 (find_nodup t h name)
  unfold findR at h2 ⊢
  refine (h1.and h2).imp ?_
  intro a b ⟨h, k⟩
  have : a ≠ b := k
  omega
theorem find_step {t : Tab} {h : WhV} {name : ByteArray} {k : Nat} {a b : Int} (ha : (findR t h name)[k]? = some a) (hb : (findR t h name)[k + 1]? = some b) : a < b := by
  obtain ⟨h1, e1⟩ := List.getElem?_eq_some_iff.1 ha
  obtain ⟨h2, e2⟩ := List.getElem?_eq_some_iff.1 hb
  have := List.pairwise_iff_getElem.1 (find_asc t h name) k (k + 1) h1 h2 (by omega)
  rw [e1, e2] at this
  exact this
/-- What is found outside the regions around a place lies in the visible part of a package. -/
theorem find_out {t : Tab} {h : WhV} {name : ByteArray} {e : Int} (he : e ∈ findR t h name) (hi : insideR t h.region (rowE t e).owner = false) :
    (rowE t e).part = 0 ∧ ∃ (k : Nat) (y : EntV), (rowE t e).owner = (k : Int) ∧ t.ents[k]? = some y ∧ y.kind = 2 := by
  rcases find_mem.1 he with he | he
  · exfalso
    have := dirR_own he
    unfold insideR at hi
    rw [← List.contains_iff_mem] at this
    rw [this] at hi
    cases hi
  · obtain ⟨_, ⟨u, _, hw, hb⟩, hp, _⟩ := used1_facts (used_mem he).1
    refine ⟨hp, ?_⟩
    unfold wantU at hw
    simp only [Bool.and_eq_true, decide_eq_true_eq, beq_iff_eq] at hw
    obtain ⟨k, y, e1, e2, e3⟩ := row_at (base_row (t := t) (u := u) (by omega))
    rw [e1] at hb hw
    refine ⟨k, y, hb.symm, e2, ?_⟩
    rw [(row_some e2).2] at hw
    exact hw.2
/-- What is visible by use is declared in no region around the place, but for Standard. -/
theorem used_out {t : Tab} {h : WhV} {name : ByteArray} {e : Int} (he : e ∈ used1R t h (allR t name h.after) (dR t h name)) : (rowE t e).owner = 0 ∨ insideR t h.region (rowE t e).owner = false := by
  obtain ⟨hall, _, _, hhid⟩ := used1_facts he
  by_cases hi : insideR t h.region (rowE t e).owner = false
  · exact .inr hi
  · left
    rw [Bool.not_eq_false] at hi
    unfold insideR at hi
    rw [List.contains_iff_mem] at hi
    obtain ⟨pre, post, hr⟩ := List.append_of_mem hi
    have hd : dR t h name = post.foldl (dirS t h (allR t name h.after)) (dirS t h (allR t name h.after) (dirR t h (allR t name h.after) pre) (rowE t e).owner) := by
      unfold dR
      rw [hr, dirR, List.foldl_append]
      rfl
    have sub : ∀ (ss out : List Int) a, a ∈ out → a ∈ ss.foldl (dirS t h (allR t name h.after)) out := by
      intro ss
      induction ss with
      | nil => intro out a ha; exact ha
      | cons r ss ih => intro out a ha; exact ih _ a (List.mem_append.2 (.inl ha))
    have h1 : hidR t (dirR t h (allR t name h.after) pre) (rowE t e) = false := hidR_sub hhid (fun a ha => by rw [hd]; exact sub _ _ a (List.mem_append.2 (.inl ha)))
    by_cases hn : namedR t h e (rowE t e) = true
    · exfalso
      have : e ∈ dR t h name := by
        rw [hd]
        refine sub _ _ e (List.mem_append.2 (.inr (List.mem_filter.2 ⟨hall, ?_⟩)))
        unfold dirB
        rw [hn, h1]
        simp
      rw [hidR_mem this] at hhid
      cases hhid
    · unfold namedR at hn
      simp only [Bool.or_eq_true, not_or, bne_iff_ne, ne_eq, Decidable.not_not] at hn
      exact hn.1.1.1
/-- No region has homographs. -/
def Tidy (t : Tab) : Prop := ∀ a b : Nat, b < a → a < t.ents.length → (rowE t a).owner = (rowE t b).owner → homI t a b = false
theorem Tidy.apart {t : Tab} (hT : Tidy t) {a b : Int} (ha : (rowR t a).isSome = true) (hb : (rowR t b).isSome = true) (hne : a ≠ b) (ho : (rowE t a).owner = (rowE t b).owner) : homI t a b = false := by
  obtain ⟨n, x, rfl, hx, _⟩ := row_at ha
  obtain ⟨m, y, rfl, hy, _⟩ := row_at hb
  have h1 := (List.getElem?_eq_some_iff.1 hx).1
  have h2 := (List.getElem?_eq_some_iff.1 hy).1
  rcases Nat.lt_or_gt_of_ne (show n ≠ m by omega) with hl | hl
  · rw [homI_symm]
    exact hT m n hl h2 ho.symm
  · exact hT n m hl h1 ho
/-- The stage's theorem. -/
theorem find_hides {t : Tab} (hT : Tidy t) {h : WhV} {name : ByteArray} {a b : Int} (ha : a ∈ findR t h name) (hb : b ∈ findR t h name) (hne : a ≠ b) (hh : homI t a b = true) :
    ((rowE t a).owner = 0 ∨ insideR t h.region (rowE t a).owner = false) ∧ ((rowE t b).owner = 0 ∨ insideR t h.region (rowE t b).owner = false) ∧ (rowE t a).owner ≠ (rowE t b).owner ∧ ovl (rowE t a) = true ∧ ovl (rowE t b) = true := by
  have ra := allR_row (find_all ha)
  have rb := allR_row (find_all hb)
  have ho : (rowE t a).owner ≠ (rowE t b).owner := fun e => by
    rw [hT.apart ra rb hne e] at hh
    cases hh
  rw [homI_eq ra rb] at hh
  rcases find_mem.1 ha with ha | ha <;> rcases find_mem.1 hb with hb | hb
  · exfalso
    rcases dirR_apart ha hb with e | e
    · exact ho e
    · rw [e] at hh; cases hh
  · exfalso
    have := hidR_no (used1_facts (used_mem hb).1).2.2.2 ha
    rw [this] at hh; cases hh
  · exfalso
    have := hidR_no (used1_facts (used_mem ha).1).2.2.2 hb
    rw [homR_symm, this] at hh; cases hh
  · obtain ⟨a1, a2⟩ := used_mem ha
    obtain ⟨b1, _⟩ := used_mem hb
    refine ⟨used_out a1, used_out b1, ho, ?_⟩
    unfold freeB at a2
    rw [Bool.not_eq_true', List.any_eq_false] at a2
    have := a2 b b1
    unfold overB at this
    rw [hh] at this
    have hb' : ((rowE t b).owner != (rowE t a).owner) = true := by simpa using fun e => ho e.symm
    rw [hb'] at this
    simp at this
    exact this
end Go.Proofs.Ytlgcboaojdhneaa
