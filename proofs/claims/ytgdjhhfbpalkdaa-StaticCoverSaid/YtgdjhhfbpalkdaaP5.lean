/- Bounds in order: overlaps and gaps between neighbours, and how often each value is named. What Cover's answer says of each value, in plain words. -/
import Derived.Test.YtgdjhhfbpalkdaaP0
import Derived.Test.YtgdjhhfbpalkdaaV21
namespace Go.Proofs.Ytgdjhhfbpalkdaa
open Go.RowKit

def hasB (v : Int) (x : Int × Int) : Bool := decide (x.1 ≤ v) && decide (v ≤ x.2)
/-- Two neighbours share a value. -/
def overP : List (Int × Int) → Bool
  | a :: b :: l => decide (b.1 ≤ a.2) || overP (b :: l)
  | _ => false
/-- Between two neighbours a value lacks. -/
def gapsP : List (Int × Int) → Bool
  | a :: b :: l => decide (a.2 + 1 < b.1) || gapsP (b :: l)
  | _ => false
def lastP : List (Int × Int) → Int × Int
  | [] => (0, 0)
  | [a] => a
  | _ :: b :: l => lastP (b :: l)
def gapP (lo hi : Int) : List (Int × Int) → Bool
  | [] => true
  | a :: l => decide (lo < a.1) || gapsP (a :: l) || decide ((lastP (a :: l)).2 < hi)

theorem chain_of : ∀ {s : List (Int × Int)}, overP s = false → (∀ x, x ∈ s → x.1 ≤ x.2) → s.Pairwise (fun a b => a.2 < b.1)
  | [], _, _ => .nil
  | [_], _, _ => by simp
  | a :: b :: l, ho, hn => by
    simp only [overP, Bool.or_eq_false_iff, decide_eq_false_iff_not] at ho
    have ih := chain_of ho.2 (fun x hx => hn x (by simp [hx]))
    refine List.pairwise_cons.2 ⟨fun y hy => ?_, ih⟩
    rcases List.mem_cons.1 hy with rfl | hy
    · omega
    have h1 := (List.pairwise_cons.1 ih).1 y hy
    have h2 := hn b (by simp)
    omega
theorem cnt_none {v : Int} {s : List (Int × Int)} (h : ∀ x, x ∈ s → ¬ (x.1 ≤ v ∧ v ≤ x.2)) : s.countP (hasB v) = 0 := by
  rw [List.countP_eq_zero]
  intro x hx
  have := h x hx
  simp only [hasB, Bool.and_eq_true, decide_eq_true_eq]
  exact this
theorem cnt_le_one {v : Int} : ∀ {s : List (Int × Int)}, s.Pairwise (fun a b => a.2 < b.1) → (∀ x, x ∈ s → x.1 ≤ x.2) → s.countP (hasB v) ≤ 1
  | [], _, _ => by simp
  | a :: l, h, hn => by
    have hp := List.pairwise_cons.1 h
    have ih := cnt_le_one (v := v) hp.2 (fun x hx => hn x (by simp [hx]))
    rw [List.countP_cons]
    by_cases ha : hasB v a = true
    · have : l.countP (hasB v) = 0 := by
        refine cnt_none fun x hx => ?_
        have := hp.1 x hx
        simp only [hasB, Bool.and_eq_true, decide_eq_true_eq] at ha
        omega
      rw [this]
      simp [ha]
    simp only [ha]
    simpa using ih
theorem over_two {lo hi : Int} : ∀ {s : List (Int × Int)}, overP s = true → s.Pairwise (fun a b => a.1 ≤ b.1) → (∀ x, x ∈ s → x.1 ≤ x.2 ∧ lo ≤ x.1 ∧ x.2 ≤ hi) → ∃ v, lo ≤ v ∧ v ≤ hi ∧ 2 ≤ s.countP (hasB v)
  | [], h, _, _ => by cases h
  | [_], h, _, _ => by cases h
  | a :: b :: l, h, hs, hn => by
    have hp := List.pairwise_cons.1 hs
    simp only [overP, Bool.or_eq_true, decide_eq_true_eq] at h
    rcases h with h | h
    · have h1 := hp.1 b (by simp)
      have h2 := hn b (by simp)
      refine ⟨b.1, h2.2.1, by omega, ?_⟩
      have e1 : hasB b.1 a = true := by simp [hasB]; omega
      have e2 : hasB b.1 b = true := by simp [hasB]; omega
      simp only [List.countP_cons, e1, e2, if_true]
      omega
    obtain ⟨v, h1, h2, h3⟩ := over_two h hp.2 (fun x hx => hn x (by simp [hx]))
    refine ⟨v, h1, h2, ?_⟩
    rw [List.countP_cons]
    omega
theorem gaps_no {hi : Int} : ∀ {a : Int × Int} {l : List (Int × Int)}, gapsP (a :: l) = false → hi ≤ (lastP (a :: l)).2 → ∀ v, a.1 ≤ v → v ≤ hi → 1 ≤ (a :: l).countP (hasB v)
  | a, [], _, hl, v, h1, h2 => by
    simp only [lastP] at hl
    have e : hasB v a = true := by simp [hasB]; omega
    simp [e]
  | a, b :: l, hg, hl, v, h1, h2 => by
    simp only [gapsP, Bool.or_eq_false_iff, decide_eq_false_iff_not] at hg
    rw [List.countP_cons]
    by_cases hv : v ≤ a.2
    · have e : hasB v a = true := by simp [hasB]; omega
      simp [e]
    have := gaps_no (hi := hi) (a := b) (l := l) hg.2 hl v (by omega) h2
    omega
theorem last_mem : ∀ {a : Int × Int} {l : List (Int × Int)}, lastP (a :: l) ∈ a :: l
  | a, [] => by simp [lastP]
  | a, b :: l => by
    have := last_mem (a := b) (l := l)
    simp only [lastP]
    exact List.mem_cons_of_mem _ this
theorem le_last : ∀ {a : Int × Int} {l : List (Int × Int)}, (a :: l).Pairwise (fun a b => a.2 < b.1) → (∀ x, x ∈ a :: l → x.1 ≤ x.2) → ∀ x, x ∈ a :: l → x.2 ≤ (lastP (a :: l)).2
  | a, [], _, _, x, hx => by
    simp at hx
    subst hx
    exact Int.le_refl _
  | a, b :: l, h, hn, x, hx => by
    have hp := List.pairwise_cons.1 h
    have ih := le_last hp.2 (fun x hx => hn x (List.mem_cons_of_mem _ hx))
    simp only [lastP]
    rcases List.mem_cons.1 hx with rfl | hx
    · have h1 := hp.1 b (by simp)
      have h2 := ih b (by simp)
      have h3 := hn b (by simp)
      omega
    exact ih x hx
theorem gaps_at {lo hi : Int} : ∀ {a : Int × Int} {l : List (Int × Int)}, gapsP (a :: l) = true → (a :: l).Pairwise (fun a b => a.2 < b.1) → (∀ x, x ∈ a :: l → x.1 ≤ x.2 ∧ lo ≤ x.1 ∧ x.2 ≤ hi) →
    ∃ v, a.2 < v ∧ v ≤ hi ∧ (a :: l).countP (hasB v) = 0
  | a, [], h, _, _ => by cases h
  | a, b :: l, h, hc, hn => by
    have hp := List.pairwise_cons.1 hc
    have hb := hn b (by simp)
    simp only [gapsP, Bool.or_eq_true, decide_eq_true_eq] at h
    rcases h with h | h
    · refine ⟨a.2 + 1, by omega, by omega, cnt_none fun x hx => ?_⟩
      rcases List.mem_cons.1 hx with rfl | hx
      · omega
      rcases List.mem_cons.1 hx with rfl | hx
      · omega
      have := (List.pairwise_cons.1 hp.2).1 x hx
      omega
    obtain ⟨v, h1, h2, h3⟩ := gaps_at h hp.2 (fun x hx => hn x (List.mem_cons_of_mem _ hx))
    have := hp.1 b (by simp)
    refine ⟨v, by omega, h2, ?_⟩
    rw [List.countP_cons, h3]
    have : hasB v a = false := by simp [hasB]; omega
    simp [this]
/-- The sorted bounds name each value once, or at most once, as over and gap say. -/
theorem cover_law {lo hi : Int} {s : List (Int × Int)} (hs : s.Pairwise (fun a b => a.1 ≤ b.1)) (hn : ∀ x, x ∈ s → x.1 ≤ x.2 ∧ lo ≤ x.1 ∧ x.2 ≤ hi) (rest : Bool) :
    (∀ v, lo ≤ v → v ≤ hi → s.countP (hasB v) = 1 ∨ s.countP (hasB v) = 0 ∧ rest = true) ↔ overP s = false ∧ (lo ≤ hi → gapP lo hi s = true → rest = true) := by
  constructor
  · intro h
    have ho : overP s = false := by
      cases e : overP s with
      | false => rfl
      | true =>
        obtain ⟨v, h1, h2, h3⟩ := over_two e hs hn
        have := h v h1 h2
        omega
    refine ⟨ho, fun hle hg => ?_⟩
    have hc := chain_of ho (fun x hx => (hn x hx).1)
    have : ∃ v, lo ≤ v ∧ v ≤ hi ∧ s.countP (hasB v) = 0 := by
      cases s with
      | nil => exact ⟨lo, by omega, hle, by simp⟩
      | cons a l =>
        have hp := List.pairwise_cons.1 hc
        have ha := hn a (by simp)
        simp only [gapP, Bool.or_eq_true, decide_eq_true_eq] at hg
        rcases hg with (hg | hg) | hg
        · refine ⟨lo, by omega, by omega, cnt_none fun x hx => ?_⟩
          rcases List.mem_cons.1 hx with rfl | hx
          · omega
          have := hp.1 x hx
          omega
        · obtain ⟨v, h1, h2, h3⟩ := gaps_at hg hc hn
          exact ⟨v, by omega, h2, h3⟩
        · refine ⟨hi, hle, by omega, cnt_none fun x hx => ?_⟩
          have := le_last hc (fun x hx => (hn x hx).1) x hx
          omega
    obtain ⟨v, h1, h2, h3⟩ := this
    rcases h v h1 h2 with h | h
    · omega
    exact h.2
  · rintro ⟨ho, hg⟩ v h1 h2
    have hc := chain_of ho (fun x hx => (hn x hx).1)
    have hle := cnt_le_one (v := v) hc (fun x hx => (hn x hx).1)
    by_cases hz : s.countP (hasB v) = 0
    · refine .inr ⟨hz, hg (by omega) ?_⟩
      cases e : gapP lo hi s with
      | true => rfl
      | false =>
        cases s with
        | nil => cases e
        | cons a l =>
          simp only [gapP, Bool.or_eq_false_iff, decide_eq_false_iff_not] at e
          have := gaps_no (hi := hi) e.1.2 (by omega) v (by omega) h2
          omega
    exact .inl (by omega)
end Go.Proofs.Ytgdjhhfbpalkdaa
namespace Go.Proofs.Ytgdjhhfbpalkdaa
open Go.RowKit
theorem value_err (t : Tab) (n : Nat) (x : ExV) : (valueP t n x).2 ≠ 72 := by
  unfold valueP
  split
  · split <;> simp
  · simp
theorem inside_err (t : Tab) (sub : Int) (b : Bd) : insideP t sub b ≠ 72 := by
  unfold insideP
  split
  · split
    · split <;> decide
    · decide
  · decide
theorem rng_err (t : Tab) (n : Nat) (sub : Int) (x y : ExV) : (rngP t n sub x y).2 ≠ 72 := by
  rw [rngP_eq]
  split
  · exact value_err t n x
  split
  · exact value_err t n y
  split <;> simp
theorem choice_err (t : Tab) (n : Nat) (x : ChV) : (choiceP t n x).2 ≠ 72 := by
  rw [choiceP_eq]
  split
  · exact rng_err t n _ _ _
  split
  · simp
  split
  · split <;> simp
  · exact value_err t n _
theorem chErr_err (t : Tab) (n : Nat) (sub : Int) (c : ChV) : chErr t n sub c ≠ 72 := by
  unfold chErr
  split
  · exact inside_err t sub _
  · exact choice_err t n c
theorem fold_inv {t : Tab} {n : Nat} {sub : Int} (p : ChSt → Prop) (hp : ∀ s c, p s → p (chStep t n sub s c)) : ∀ (l : List ChV) (s : ChSt), p s → p (l.foldl (chStep t n sub) s)
  | [], _, h => h
  | c :: l, s, h => by
    rw [List.foldl_cons]
    exact fold_inv p hp l _ (hp s c h)
theorem chE_err (t : Tab) (n : Nat) (sub : Int) (l : List ChV) : chE t n sub l ≠ 72 := by
  refine fold_inv (fun s => s.2.2 ≠ 72) (fun s c h => ?_) l ([], false, 0) (by decide)
  unfold chStep
  split
  · exact h
  split
  · simp
  split
  · exact chErr_err t n sub c
  split
  · simp
  · exact h
theorem chB_in {t : Tab} {n : Nat} {sub : Int} {l : List ChV} : ∀ b, b ∈ chB t n sub l → b.1 ≤ b.2 ∧ insideP t sub b = 0 := by
  refine fold_inv (fun s => ∀ b, b ∈ s.1 → b.1 ≤ b.2 ∧ insideP t sub b = 0) (fun s c h => ?_) l ([], false, 0) (fun b hb => by cases hb)
  unfold chStep
  split
  · exact h
  split
  · exact h
  split
  · intro b hb
    cases hb
  rename_i h1 h2 h3
  split
  · rename_i h4
    intro b hb
    rcases List.mem_append.1 hb with hb | hb
    · exact h b hb
    · have e : b = (choiceP t n c).1 := by simpa using hb
      subst e
      refine ⟨h4, ?_⟩
      have h5 : chErr t n sub c = 0 := by
        apply Classical.byContradiction
        exact h3
      unfold chErr at h5
      split at h5
      · exact h5
      · rename_i h6
        exact absurd h5 h6
  · exact h
theorem chO_nil (t : Tab) (n : Nat) (sub : Int) : chO t n sub [] = false := rfl
theorem inside_in {t : Tab} {sub lo hi : Int} {b : Bd} (hr : rangeP t sub = some (lo, hi)) (h1 : b.1 ≤ b.2) (h : insideP t sub b = 0) : lo ≤ b.1 ∧ b.2 ≤ hi := by
  unfold insideP at h
  rw [if_pos h1, hr] at h
  simp only at h
  split at h
  · cases h
  · omega
theorem all_in {t : Tab} {n : Nat} {sub lo hi : Int} {ls : List ChL} (hr : rangeP t sub = some (lo, hi)) : ∀ j, ∀ b, b ∈ allTo t n sub ls j → b.1 ≤ b.2 ∧ lo ≤ b.1 ∧ b.2 ≤ hi
  | 0, b, hb => by cases hb
  | j + 1, b, hb => by
    simp only [allTo, List.mem_append] at hb
    rcases hb with hb | hb
    · exact all_in hr j b hb
    · obtain ⟨h1, h2⟩ := chB_in b hb
      exact ⟨h1, inside_in hr h1 h2⟩
theorem ov_cons (a : Bd) (s : List Bd) : ∀ j, ovTo (a :: s) (j + 2) = (decide ((s.getD 0 (0, 0)).1 ≤ a.2) || ovTo s (j + 1))
  | 0 => by simp [ovTo]
  | j + 1 => by
    have ih := ov_cons a s j
    show (ovTo (a :: s) (j + 2) || decide (((a :: s).getD (j + 2) (0, 0)).1 ≤ ((a :: s).getD (j + 1) (0, 0)).2)) = _
    rw [ih, Bool.or_assoc]
    rfl
theorem ov_over : ∀ s : List Bd, ovTo s s.length = overP s
  | [] => rfl
  | [_] => rfl
  | a :: b :: l => by
    have ih := ov_over (b :: l)
    show ovTo (a :: b :: l) (l.length + 2) = _
    rw [ov_cons]
    show (decide (b.1 ≤ a.2) || ovTo (b :: l) (b :: l).length) = _
    rw [ih]
    rfl
theorem gp_cons (lo : Int) (a : Bd) (s : List Bd) : ∀ j, gpTo lo (a :: s) (j + 2) = (decide (lo < a.1) || gpTo (wrap64 (a.2 + 1)) s (j + 1))
  | 0 => by simp [gpTo]
  | j + 1 => by
    have ih := gp_cons lo a s j
    show (gpTo lo (a :: s) (j + 2) || decide (wrap64 (((a :: s).getD (j + 1) (0, 0)).2 + 1) < ((a :: s).getD (j + 2) (0, 0)).1)) = _
    rw [ih, Bool.or_assoc]
    rfl
theorem gp_gaps {lo : Int} : ∀ (a : Bd) (l : List Bd), (∀ x, x ∈ a :: l → -1099511627776 ≤ x.2 ∧ x.2 ≤ 1099511627776) → gpTo lo (a :: l) (a :: l).length = (decide (lo < a.1) || gapsP (a :: l))
  | a, [], _ => by simp [gpTo, gapsP]
  | a, b :: l, h => by
    have ih := gp_gaps (lo := wrap64 (a.2 + 1)) b l (fun x hx => h x (List.mem_cons_of_mem _ hx))
    have ha := h a (by simp)
    show gpTo lo (a :: b :: l) (l.length + 2) = _
    rw [gp_cons]
    show (decide (lo < a.1) || gpTo (wrap64 (a.2 + 1)) (b :: l) (b :: l).length) = _
    rw [ih, IntWalk.wrap64_in _ ⟨by omega, by omega⟩]
    rfl
theorem last_get : ∀ (a : Bd) (l : List Bd), (a :: l).getD ((a :: l).length - 1) (0, 0) = lastP (a :: l)
  | a, [] => rfl
  | a, b :: l => by
    have ih := last_get b l
    show (b :: l).getD l.length (0, 0) = _
    exact ih
theorem gap_eq {lo hi : Int} (s : List Bd) (h : ∀ x, x ∈ s → -1099511627776 ≤ x.2 ∧ x.2 ≤ 1099511627776) :
    ((decide (s.length = 0) || gpTo lo s s.length) || (decide (0 < s.length) && decide ((s.getD (s.length - 1) (0, 0)).2 < hi))) = gapP lo hi s := by
  cases s with
  | nil => rfl
  | cons a l =>
    rw [gp_gaps a l h, last_get]
    simp [gapP]
/-- How often a value is named in the first lists. -/
def cntTo (t : Tab) (n : Nat) (sub : Int) (ls : List ChL) (v : Int) (j : Nat) : Nat := (allTo t n sub ls j).countP (hasB v)
theorem cntTo_step (t : Tab) (n : Nat) (sub : Int) (ls : List ChL) (v : Int) (j : Nat) : cntTo t n sub ls v (j + 1) = cntTo t n sub ls v j + (chB t n sub (ls.getD j default).l).countP (hasB v) := by
  simp [cntTo, allTo]
/-- Whether all is right behind the first c values. -/
def rightTo (t : Tab) (n : Nat) (sub : Int) (ls : List ChL) (lo : Int) : Nat → Bool
  | 0 => !wrongTo t n sub ls ls.length
  | c + 1 => rightTo t n sub ls lo c && (decide (cntTo t n sub ls (lo + c) ls.length = 1) || (decide (cntTo t n sub ls (lo + c) ls.length = 0) && restTo t n sub ls ls.length))
theorem right_iff (t : Tab) (n : Nat) (sub : Int) (ls : List ChL) (lo : Int) : ∀ c, rightTo t n sub ls lo c = true ↔ wrongTo t n sub ls ls.length = false ∧ ∀ k : Nat, k < c → cntTo t n sub ls (lo + k) ls.length = 1 ∨ cntTo t n sub ls (lo + k) ls.length = 0 ∧ restTo t n sub ls ls.length = true
  | 0 => by simp [rightTo]
  | c + 1 => by
    simp only [rightTo, Bool.and_eq_true, Bool.or_eq_true, decide_eq_true_eq, right_iff t n sub ls lo c]
    constructor
    · rintro ⟨⟨h1, h2⟩, h3⟩
      refine ⟨h1, fun k hk => ?_⟩
      by_cases e : k = c
      · subst e
        exact h3
      · exact h2 k (by omega)
    · rintro ⟨h1, h2⟩
      exact ⟨⟨h1, fun k hk => h2 k (by omega)⟩, h2 c (by omega)⟩
/-- The stage's theorem, in plain words. -/
theorem right_law {t : Tab} {n : Nat} {sub lo hi r : Int} {ls : List ChL} (hr : rangeP t sub = some (lo, hi)) (hlo : -1099511627776 ≤ lo) (hhi : hi ≤ 1099511627776) (hc : CovIs t n sub ls r) (h0 : r = 0 ∨ r = 72) :
    rightTo t n sub ls lo (hi + 1 - lo).toNat = decide (r = 0) := by
  rcases hc with ⟨j, x, _, _, hne, hq⟩ | ⟨_, s, hp, hs, hq⟩
  · rcases h0 with h | h
    · exact absurd (hq.symm.trans h) hne
    · exact absurd (hq.symm.trans h) (chE_err t n sub x.l)
  have hin : ∀ x, x ∈ s → x.1 ≤ x.2 ∧ lo ≤ x.1 ∧ x.2 ≤ hi := fun x hx => all_in hr _ x (hp.mem_iff.1 hx)
  have hcnt : ∀ v, s.countP (hasB v) = cntTo t n sub ls v ls.length := fun v => hp.countP_eq _
  have hlaw := cover_law (lo := lo) (hi := hi) hs hin (restTo t n sub ls ls.length)
  have hgap := gap_eq (lo := lo) (hi := hi) s (fun x hx => by have := hin x hx; omega)
  have hq2 : r = covQ lo hi (decide (lo ≤ hi)) (wrongTo t n sub ls ls.length) (restTo t n sub ls ls.length) s := by
    rw [hq, coverQ, hr]
    rfl
  have hr0 : (r = 0) ↔ wrongTo t n sub ls ls.length = false ∧ overP s = false ∧ (lo ≤ hi → gapP lo hi s = true → restTo t n sub ls ls.length = true) := by
    rw [hq2]
    unfold covQ
    rw [ov_over]
    generalize wrongTo t n sub ls ls.length = W
    generalize restTo t n sub ls ls.length = R
    generalize overP s = O
    by_cases hle : lo ≤ hi
    · rw [decide_eq_true hle]
      simp only [Bool.true_and]
      rw [hgap]
      generalize gapP lo hi s = G
      cases W <;> cases R <;> cases O <;> cases G <;> simp [hle]
    · rw [decide_eq_false hle]
      simp only [Bool.false_and]
      cases W <;> cases R <;> cases O <;> simp [hle]
  have hall : (∀ v, lo ≤ v → v ≤ hi → s.countP (hasB v) = 1 ∨ s.countP (hasB v) = 0 ∧ restTo t n sub ls ls.length = true) ↔ ∀ k : Nat, k < (hi + 1 - lo).toNat → cntTo t n sub ls (lo + k) ls.length = 1 ∨ cntTo t n sub ls (lo + k) ls.length = 0 ∧ restTo t n sub ls ls.length = true := by
    constructor
    · intro h k hk
      rw [← hcnt]
      exact h (lo + k) (by omega) (by omega)
    · intro h v h1 h2
      have := h (v - lo).toNat (by omega)
      rw [← hcnt, show lo + ((v - lo).toNat : Int) = v by omega] at this
      exact this
  rw [Bool.eq_iff_iff, right_iff, decide_eq_true_eq, hr0, ← hall, hlaw]
end Go.Proofs.Ytgdjhhfbpalkdaa
