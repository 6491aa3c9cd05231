/- What the program's Find returns is what the reference's Find returns. -/
import Derived.Test.YtlgcboaojdhneaaD5
namespace Go.Proofs.Ytlgcboaojdhneaa
open Go.RowKit

theorem allN_lt {t : Tab} {name : ByteArray} {after : Int} {n : Nat} {e : Int} (h : e ∈ allN t name after n) : ∃ k : Nat, e = (k : Int) ∧ k < n ∧ selAt t name after k = true := by
  unfold allN at h
  obtain ⟨k, hk, rfl⟩ := List.mem_map.1 h
  obtain ⟨h1, h2⟩ := List.mem_filter.1 hk
  exact ⟨k, rfl, List.mem_range.1 h1, h2⟩
theorem allN_asc (t : Tab) (name : ByteArray) (after : Int) : ∀ n, (allN t name after n).Pairwise (· < ·) := by
  intro n
  unfold allN
  rw [List.pairwise_map]
  refine List.Pairwise.imp ?_ (List.Pairwise.filter _ List.pairwise_lt_range)
  intro a b h
  omega
theorem allR_asc (t : Tab) (name : ByteArray) (after : Int) : (allR t name after).Pairwise (· < ·) := allN_asc _ _ _ _
theorem asc_nodup {l : List Int} (h : l.Pairwise (· < ·)) : l.Nodup := by
  refine List.Pairwise.imp ?_ h
  intro a b h e
  omega
theorem samePar_refl (t : Tab) : ∀ (l : List ParamV), parEq (samePar t) l l = true := by
  intro l
  induction l with
  | nil => rfl
  | cons x l ih => rw [parEq, ih]; simp [samePar]
theorem homR_refl (t : Tab) (x : EntV) : homR t x x = true := by simp [homR, profR, samePar_refl]
theorem hidR_mem {t : Tab} {l : List Int} {e : Int} (h : e ∈ l) : hidR t l (rowE t e) = true := by
  unfold hidR
  rw [List.any_eq_true]
  exact ⟨e, h, homR_refl _ _⟩

theorem wantM_get {t : Tab} (us : List Int) (o : Int) : ((wantM t us) o).getD false = us.any fun u => wantU t u && (baseR t u == o) := by
  have : ∀ (us : List Int) (M : Int → Option Bool), ((us.foldl (wantS t) M) o).getD false = ((M o).getD false || us.any fun u => wantU t u && (baseR t u == o)) := by
    intro us
    induction us with
    | nil => intro M; simp
    | cons u us ih =>
      intro M
      rw [List.foldl_cons, ih, List.any_cons]
      unfold wantS
      cases hw : wantU t u
      · simp
      · simp only [if_true, updM, Bool.true_and]
        by_cases ho : o = baseR t u
        · rw [if_pos ho, ho]; simp
        · rw [if_neg ho]
          have : (baseR t u == o) = false := by simp; exact fun h => ho h.symm
          rw [this]; simp
  rw [wantM, this]
  simp

/-- Members of the candidates. -/
theorem candF_iff {t : Tab} {direct : List Int} {e : Int} : ∀ (d out : List Int), e ∈ candF t direct out d ↔ e ∈ out ∨ (e ∈ d ∧ (rowE t e).part = 0 ∧ e ∉ direct ∧ anyR t direct e = false) := by
  intro d
  induction d with
  | nil => intro out; simp [candF]
  | cons x d ih =>
    intro out
    have hcf : candF t direct out (x :: d) = candF t direct (candE t direct out x) d := rfl
    rw [hcf, ih]
    have hc : e ∈ candE t direct out x ↔ e ∈ out ∨ (e = x ∧ (rowE t e).part = 0 ∧ e ∉ direct ∧ anyR t direct e = false) := by
      unfold candE candB hasI
      by_cases hp : (rowE t x).part = 0 <;> by_cases ho : x ∈ out <;> by_cases hd : x ∈ direct <;> cases ha : anyR t direct x <;> by_cases hx : e = x <;> simp_all
    rw [hc]
    constructor
    · rintro ((h | ⟨h1, h2⟩) | ⟨h1, h2⟩)
      · exact .inl h
      · exact .inr ⟨by simp [h1], h2⟩
      · exact .inr ⟨by simp [h1], h2⟩
    · rintro (h | ⟨h1, h2⟩)
      · exact .inl (.inl h)
      · rcases List.mem_cons.1 h1 with h | h
        · exact .inl (.inr ⟨h, h2⟩)
        · exact .inr ⟨h, h2⟩
theorem candF_nodup {t : Tab} {direct : List Int} : ∀ (d out : List Int), out.Nodup → (candF t direct out d).Nodup := by
  intro d
  induction d with
  | nil => intro out h; exact h
  | cons x d ih =>
    intro out h
    refine ih (candE t direct out x) ?_
    unfold candE
    split
    · rename_i hb
      rw [List.nodup_append]
      refine ⟨h, by simp, ?_⟩
      intro a ha b hb' e
      simp at hb'
      subst e hb'
      unfold candB hasI at hb
      simp [ha] at hb
    · exact h
theorem candR_iff {t : Tab} {h : WhV} {name : ByteArray} {direct us : List Int} {e : Int} :
    e ∈ candR t h name direct us ↔ (e ∈ allR t name h.after ∧ (us.any fun u => wantU t u && (baseR t u == (rowE t e).owner)) = true ∧ (rowE t e).part = 0 ∧ e ∉ direct ∧ anyR t direct e = false) := by
  have key : ∀ (us out : List Int), e ∈ us.foldl (candU t h name direct) out ↔ e ∈ out ∨ (e ∈ allR t name h.after ∧ (us.any fun u => wantU t u && (baseR t u == (rowE t e).owner)) = true ∧ (rowE t e).part = 0 ∧ e ∉ direct ∧ anyR t direct e = false) := by
    intro us
    induction us with
    | nil => intro out; simp
    | cons u us ih =>
      intro out
      rw [List.foldl_cons, ih, List.any_cons]
      unfold candU
      cases hw : wantU t u
      · simp
      · rw [if_pos rfl, candF_iff]
        have hd : e ∈ declR t name h.after (baseR t u) ↔ e ∈ allR t name h.after ∧ (baseR t u == (rowE t e).owner) = true := by
          unfold declR ownB
          rw [List.mem_filter]
          simp only [beq_iff_eq]
          constructor <;> rintro ⟨h1, h2⟩ <;> exact ⟨h1, h2.symm⟩
        rw [hd]
        simp only [Bool.true_and, Bool.or_eq_true]
        constructor
        · rintro ((h | ⟨⟨h1, h2⟩, h3⟩) | ⟨h1, h2, h3⟩)
          · exact .inl h
          · exact .inr ⟨h1, .inl h2, h3⟩
          · exact .inr ⟨h1, .inr h2, h3⟩
        · rintro (h | ⟨h1, h2 | h2, h3⟩)
          · exact .inl (.inl h)
          · exact .inl (.inr ⟨⟨h1, h2⟩, h3⟩)
          · exact .inr ⟨h1, h2, h3⟩
  rw [candR, key]
  simp
theorem candR_nodup {t : Tab} {h : WhV} {name : ByteArray} {direct us : List Int} : (candR t h name direct us).Nodup := by
  have : ∀ (us out : List Int), out.Nodup → (us.foldl (candU t h name direct) out).Nodup := by
    intro us
    induction us with
    | nil => intro out h; exact h
    | cons u us ih =>
      intro out ho
      refine ih (candU t h name direct out u) ?_
      unfold candU
      split
      · exact candF_nodup _ _ ho
      · exact ho
  exact this us [] List.nodup_nil

/-- What used's first filter lets by. -/
def used1R (t : Tab) (h : WhV) (all found : List Int) : List Int := all.filter fun e => ofUsed t (wantM t h.uses) found (rowE t e)
theorem used1_iff {t : Tab} {h : WhV} {name : ByteArray} {d : List Int} (hd : ∀ a, a ∈ d → (rowR t a).isSome = true) {e : Int} : e ∈ used1R t h (allR t name h.after) d ↔ e ∈ candR t h name d h.uses := by
  rw [candR_iff, used1R, List.mem_filter]
  unfold ofUsed
  rw [wantM_get]
  constructor
  · rintro ⟨h1, h2⟩
    simp only [Bool.and_eq_true, Bool.not_eq_true', beq_iff_eq] at h2
    obtain ⟨⟨h2, h3⟩, h4⟩ := h2
    refine ⟨h1, h2, h3, fun hm => ?_, ?_⟩
    · rw [hidR_mem hm] at h4; cases h4
    · rw [anyR_hid hd (allR_row h1)]; exact h4
  · rintro ⟨h1, h2, h3, _, h5⟩
    rw [anyR_hid hd (allR_row h1)] at h5
    refine ⟨h1, ?_⟩
    rw [h2, h3, h5]
    rfl
theorem used1_perm {t : Tab} {h : WhV} {name : ByteArray} {d : List Int} (hd : ∀ a, a ∈ d → (rowR t a).isSome = true) : (used1R t h (allR t name h.after) d).Perm (candR t h name d h.uses) := by
  rw [List.perm_ext_iff_of_nodup]
  · intro e; exact used1_iff hd
  · exact List.Pairwise.filter _ (asc_nodup (allR_asc _ _ _))
  · exact candR_nodup
theorem any_perm {p : Int → Bool} {l l' : List Int} (h : l.Perm l') : l.any p = l'.any p := by
  rw [Bool.eq_iff_iff, List.any_eq_true, List.any_eq_true]
  constructor <;> rintro ⟨x, hx, hp⟩
  · exact ⟨x, h.mem_iff.1 hx, hp⟩
  · exact ⟨x, h.mem_iff.2 hx, hp⟩
theorem free_keep {t : Tab} {l l' : List Int} (h : l.Perm l') (e : Int) : freeB t l (rowE t e) = keepB t l' e := by
  unfold freeB keepB claR
  rw [any_perm h]
  congr 2
  funext a
  unfold overB claB
  by_cases ha : a = e
  · subst ha; simp
  · have : (a != e) = true := by simpa using ha
    rw [this]
    cases ((rowE t a).owner != (rowE t e).owner) <;> cases homR t (rowE t e) (rowE t a) <;> cases ovl (rowE t e) <;> cases ovl (rowE t a) <;> rfl
theorem findL_perm (t : Tab) (h : WhV) (name : ByteArray) : (findL t h name).Perm (findRefL t h name) := by
  unfold findL findRefL
  refine List.Perm.append_left _ ?_
  have hd : ∀ a, a ∈ dirR t h (allR t name h.after) (regs t h.region) → (rowR t a).isSome = true := fun a ha => allR_row (dirR_mem ha)
  have hp := used1_perm (name := name) (h := h) hd
  have e : usedR t h (allR t name h.after) (dirR t h (allR t name h.after) (regs t h.region)) = (used1R t h (allR t name h.after) (dirR t h (allR t name h.after) (regs t h.region))).filter (keepB t (candR t h name (dirR t h (allR t name h.after) (regs t h.region)) h.uses)) := by
    show List.filter _ (used1R t h (allR t name h.after) (dirR t h (allR t name h.after) (regs t h.region))) = _
    refine List.filter_congr fun e _ => ?_
    exact free_keep hp e
  rw [e]
  exact hp.filter _

theorem insR_perm (out : List Int) (x : Int) : (insR out x).Perm (out ++ [x]) := by
  unfold insR
  have h1 : ((out.takeWhile (ltB x) ++ [x]) ++ out.dropWhile (ltB x)).Perm ((out.takeWhile (ltB x) ++ out.dropWhile (ltB x)) ++ [x]) := by
    rw [List.append_assoc, List.append_assoc]
    exact List.Perm.append_left _ List.perm_append_comm
  rw [List.takeWhile_append_dropWhile] at h1
  exact h1
theorem sortedR_perm (l : List Int) : (sortedR l).Perm l := by
  have : ∀ (l out : List Int), (l.foldl insR out).Perm (out ++ l) := by
    intro l
    induction l with
    | nil => intro out; simp
    | cons x l ih =>
      intro out
      refine (ih (insR out x)).trans ?_
      refine ((insR_perm out x).append_right l).trans ?_
      simp
  exact this l []
theorem takeWhile_all {p : Int → Bool} : ∀ (l : List Int) (a : Int), a ∈ l.takeWhile p → p a = true := by
  intro l
  induction l with
  | nil => intro a h; simp at h
  | cons x l ih =>
    intro a h
    rw [List.takeWhile_cons] at h
    split at h
    · rcases List.mem_cons.1 h with rfl | h
      · assumption
      · exact ih a h
    · simp at h
theorem drop_ge {x : Int} : ∀ (l : List Int), l.Pairwise (· ≤ ·) → ∀ a, a ∈ l.dropWhile (ltB x) → x ≤ a := by
  intro l
  induction l with
  | nil => intro _ a h; simp at h
  | cons y l ih =>
    intro hp a h
    rw [List.dropWhile_cons] at h
    rw [List.pairwise_cons] at hp
    split at h
    · exact ih hp.2 a h
    · rename_i hb
      unfold ltB at hb
      simp at hb
      rcases List.mem_cons.1 h with rfl | h
      · exact hb
      · exact Int.le_trans hb (hp.1 a h)
theorem insR_asc (out : List Int) (x : Int) (h : out.Pairwise (· ≤ ·)) : (insR out x).Pairwise (· ≤ ·) := by
  have hs := h
  rw [← List.takeWhile_append_dropWhile (p := ltB x) (l := out), List.pairwise_append] at hs
  obtain ⟨h1, h2, h3⟩ := hs
  have ht : ∀ a, a ∈ out.takeWhile (ltB x) → a ≤ x := fun a ha => by
    have := takeWhile_all out a ha
    unfold ltB at this
    simp at this
    omega
  unfold insR
  rw [List.pairwise_append]
  refine ⟨?_, h2, ?_⟩
  · rw [List.pairwise_append]
    exact ⟨h1, by simp, fun a ha b hb => by simp at hb; subst hb; exact ht a ha⟩
  · intro a ha b hb
    rcases List.mem_append.1 ha with ha | ha
    · exact h3 a ha b hb
    · simp at ha; subst ha; exact drop_ge out h b hb
theorem sortedR_asc (l : List Int) : (sortedR l).Pairwise (· ≤ ·) := by
  have : ∀ (l out : List Int), out.Pairwise (· ≤ ·) → (l.foldl insR out).Pairwise (· ≤ ·) := by
    intro l
    induction l with
    | nil => intro out h; exact h
    | cons x l ih => intro out h; exact ih (insR out x) (insR_asc out x h)
  exact this l [] (by simp)
theorem sortI_perm (l : List Int) : (sortI l).Perm l := List.mergeSort_perm _ _
theorem sortI_asc (l : List Int) : (sortI l).Pairwise (· ≤ ·) := by
  have := List.pairwise_mergeSort (le := fun x y : Int => decide (x ≤ y)) (fun a b c h1 h2 => by simp at *; omega) (fun a b => by simp; omega) l
  refine List.Pairwise.imp ?_ this
  intro a b h
  simpa using h
theorem asc_eq {l l' : List Int} (h : l.Pairwise (· ≤ ·)) (h' : l'.Pairwise (· ≤ ·)) (hp : l.Perm l') : l = l' := by
  refine List.Perm.eq_of_pairwise (le := fun a b : Int => a ≤ b) ?_ h h' hp
  intro a b _ _ h1 h2
  omega
theorem find_ref (t : Tab) (h : WhV) (name : ByteArray) : sortedR (findRefL t h name) = findR t h name := by
  refine asc_eq (sortedR_asc _) (sortI_asc _) ?_
  exact (sortedR_perm _).trans ((findL_perm t h name).symm.trans (sortI_perm _).symm)
end Go.Proofs.Ytlgcboaojdhneaa
