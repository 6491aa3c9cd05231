/- Bounds in order: overlaps and gaps between neighbours, and how often each value is named. What Cover's answer says of each value, in plain words. What the reference's Cover says, and that it is what Cover says, in plain words. -/
import Derived.Test.YtgdjhhfbpalkdaaGreatP0
import Derived.Test.YtgdjhhfbpalkdaaGreatV21
namespace Go.Proofs.YtgdjhhfbpalkdaaGreat
open Go.RowKit

def hasB (v : Int) (x : Int × Int) : Bool := decide (x.1 ≤ v) && decide (v ≤ x.2)
/-- Two neighbours share a value. -/
def overP : List (Int × Int) → Bool
  | a :: b :: l => decide (b.1 ≤ a.2) || overP (b :: l)
  | _ => false
/-- Between two neighbours a value lacks. -/
def gapsP : List (Int × Int) → Bool
  | a :: b :: l => decide (a.2 + 1 < b.1) || gapsP (b :: l)
  | _ => false
def lastP : List (Int × Int) → Int × Int
  | [] => (0, 0)
  | [a] => a
  | _ :: b :: l => lastP (b :: l)
def gapP (lo hi : Int) : List (Int × Int) → Bool
  | [] => true
  | a :: l => decide (lo < a.1) || gapsP (a :: l) || decide ((lastP (a :: l)).2 < hi)

theorem chain_of : ∀ {s : List (Int × Int)}, overP s = false → (∀ x, x ∈ s → x.1 ≤ x.2) → s.Pairwise (fun a b => a.2 < b.1)
  | [], _, _ => .nil
  | [_], _, _ => by simp
  | a :: b :: l, ho, hn => by
    simp only [overP, Bool.or_eq_false_iff, decide_eq_false_iff_not] at ho
    have ih := chain_of ho.2 (fun x hx => hn x (by simp [hx]))
    refine List.pairwise_cons.2 ⟨fun y hy => ?_, ih⟩
    rcases List.mem_cons.1 hy with rfl | hy
    · omega
    have h1 := (List.pairwise_cons.1 ih).1 y hy
    have h2 := hn b (by simp)
    omega
theorem cnt_none {v : Int} {s : List (Int × Int)} (h : ∀ x, x ∈ s → ¬ (x.1 ≤ v ∧ v ≤ x.2)) : s.countP (hasB v) = 0 := by
  rw [List.countP_eq_zero]
  intro x hx
  have := h x hx
  simp only [hasB, Bool.and_eq_true, decide_eq_true_eq]
  exact this
theorem cnt_le_one {v : Int} : ∀ {s : List (Int × Int)}, s.Pairwise (fun a b => a.2 < b.1) → (∀ x, x ∈ s → x.1 ≤ x.2) → s.countP (hasB v) ≤ 1
  | [], _, _ => by simp
  | a :: l, h, hn => by
    have hp := List.pairwise_cons.1 h
    have ih := cnt_le_one (v := v) hp.2 (fun x hx => hn x (by simp [hx]))
    rw [List.countP_cons]
    by_cases ha : hasB v a = true
    · have : l.countP (hasB v) = 0 := by
        refine cnt_none fun x hx => ?_
        have := hp.1 x hx
        simp only [hasB, Bool.and_eq_true, decide_eq_true_eq] at ha
        omega
      rw [this]
      simp [ha]
    simp only [ha]
    simpa using ih
theorem over_two {lo hi : Int} : ∀ {s : List (Int × Int)}, overP s = true → s.Pairwise (fun a b => a.1 ≤ b.1) → (∀ x, x ∈ s → x.1 ≤ x.2 ∧ lo ≤ x.1 ∧ x.2 ≤ hi) → ∃ v, lo ≤ v ∧ v ≤ hi ∧ 2 ≤ s.countP (hasB v)
  | [], h, _, _ => by cases h
  | [_], h, _, _ => by cases h
  | a :: b :: l, h, hs, hn => by
    have hp := List.pairwise_cons.1 hs
    simp only [overP, Bool.or_eq_true, decide_eq_true_eq] at h
    rcases h with h | h
    · have h1 := hp.1 b (by simp)
      have h2 := hn b (by simp)
      refine ⟨b.1, h2.2.1, by omega, ?_⟩
      have e1 : hasB b.1 a = true := by simp [hasB]; omega
      have e2 : hasB b.1 b = true := by simp [hasB]; omega
      simp only [List.countP_cons, e1, e2, if_true]
      omega
    obtain ⟨v, h1, h2, h3⟩ := over_two h hp.2 (fun x hx => hn x (by simp [hx]))
    refine ⟨v, h1, h2, ?_⟩
    rw [List.countP_cons]
    omega
theorem gaps_no {hi : Int} : ∀ {a : Int × Int} {l : List (Int × Int)}, gapsP (a :: l) = false → hi ≤ (lastP (a :: l)).2 → ∀ v, a.1 ≤ v → v ≤ hi → 1 ≤ (a :: l).countP (hasB v)
  | a, [], _, hl, v, h1, h2 => by
    simp only [lastP] at hl
    have e : hasB v a = true := by simp [hasB]; omega
    simp [e]
  | a, b :: l, hg, hl, v, h1, h2 => by
    simp only [gapsP, Bool.or_eq_false_iff, decide_eq_false_iff_not] at hg
    rw [List.countP_cons]
    by_cases hv : v ≤ a.2
    · have e : hasB v a = true := by simp [hasB]; omega
      simp [e]
    have := gaps_no (hi := hi) (a := b) (l := l) hg.2 hl v (by omega) h2
    omega
theorem last_mem : ∀ {a : Int × Int} {l : List (Int × Int)}, lastP (a :: l) ∈ a :: l
  | a, [] => by simp [lastP]
  | a, b :: l => by
    have := last_mem (a := b) (l := l)
    simp only [lastP]
    exact List.mem_cons_of_mem _ this
theorem le_last : ∀ {a : Int × Int} {l : List (Int × Int)}, (a :: l).Pairwise (fun a b => a.2 < b.1) → (∀ x, x ∈ a :: l → x.1 ≤ x.2) → ∀ x, x ∈ a :: l → x.2 ≤ (lastP (a :: l)).2
  | a, [], _, _, x, hx => by
    simp at hx
    subst hx
    exact Int.le_refl _
  | a, b :: l, h, hn, x, hx => by
    have hp := List.pairwise_cons.1 h
    have ih := le_last hp.2 (fun x hx => hn x (List.mem_cons_of_mem _ hx))
    simp only [lastP]
    rcases List.mem_cons.1 hx with rfl | hx
    · have h1 := hp.1 b (by simp)
      have h2 := ih b (by simp)
      have h3 := hn b (by simp)
      omega
    exact ih x hx
theorem gaps_at {lo hi : Int} : ∀ {a : Int × Int} {l : List (Int × Int)}, gapsP (a :: l) = true → (a :: l).Pairwise (fun a b => a.2 < b.1) → (∀ x, x ∈ a :: l → x.1 ≤ x.2 ∧ lo ≤ x.1 ∧ x.2 ≤ hi) →
    ∃ v, a.2 < v ∧ v ≤ hi ∧ (a :: l).countP (hasB v) = 0
  | a, [], h, _, _ => by cases h
  | a, b :: l, h, hc, hn => by
    have hp := List.pairwise_cons.1 hc
    have hb := hn b (by simp)
    simp only [gapsP, Bool.or_eq_true, decide_eq_true_eq] at h
    rcases h with h | h
    · refine ⟨a.2 + 1, by omega, by omega, cnt_none fun x hx => ?_⟩
      rcases List.mem_cons.1 hx with rfl | hx
      · omega
      rcases List.mem_cons.1 hx with rfl | hx
      · omega
      have := (List.pairwise_cons.1 hp.2).1 x hx
      omega
    obtain ⟨v, h1, h2, h3⟩ := gaps_at h hp.2 (fun x hx => hn x (List.mem_cons_of_mem _ hx))
    have := hp.1 b (by simp)
    refine ⟨v, by omega, h2, ?_⟩
    rw [List.countP_cons, h3]
    have : hasB v a = false := by simp [hasB]; omega
    simp [this]
/-- The sorted bounds name each value once, or at most once, as over and gap say. -/
theorem cover_law {lo hi : Int} {s : List (Int × Int)} (hs : s.Pairwise (fun a b => a.1 ≤ b.1)) (hn : ∀ x, x ∈ s → x.1 ≤ x.2 ∧ lo ≤ x.1 ∧ x.2 ≤ hi) (rest : Bool) :
    (∀ v, lo ≤ v → v ≤ hi → s.countP (hasB v) = 1 ∨ s.countP (hasB v) = 0 ∧ rest = true) ↔ overP s = false ∧ (lo ≤ hi → gapP lo hi s = true → rest = true) := by
  constructor
  · intro h
    have ho : overP s = false := by
      cases e : overP s with
      | false => rfl
      | true =>
        obtain ⟨v, h1, h2, h3⟩ := over_two e hs hn
        have := h v h1 h2
        omega
    refine ⟨ho, fun hle hg => ?_⟩
    have hc := chain_of ho (fun x hx => (hn x hx).1)
    have : ∃ v, lo ≤ v ∧ v ≤ hi ∧ s.countP (hasB v) = 0 := by
      cases s with
      | nil => exact ⟨lo, by omega, hle, by simp⟩
      | cons a l =>
        have hp := List.pairwise_cons.1 hc
        have ha := hn a (by simp)
        simp only [gapP, Bool.or_eq_true, decide_eq_true_eq] at hg
        rcases hg with (hg | hg) | hg
        · refine ⟨lo, by omega, by omega, cnt_none fun x hx => ?_⟩
          rcases List.mem_cons.1 hx with rfl | hx
          · omega
          have := hp.1 x hx
          omega
        · obtain ⟨v, h1, h2, h3⟩ := gaps_at hg hc hn
          exact ⟨v, by omega, h2, h3⟩
        · refine ⟨hi, hle, by omega, cnt_none fun x hx => ?_⟩
          have := le_last hc (fun x hx => (hn x hx).1) x hx
          omega
    obtain ⟨v, h1, h2, h3⟩ := this
    rcases h v h1 h2 with h | h
    · omega
    exact h.2
  · rintro ⟨ho, hg⟩ v h1 h2
    have hc := chain_of ho (fun x hx => (hn x hx).1)
    have hle := cnt_le_one (v := v) hc (fun x hx => (hn x hx).1)
    by_cases hz : s.countP (hasB v) = 0
    · refine .inr ⟨hz, hg (by omega) ?_⟩
      cases e : gapP lo hi s with
      | true => rfl
      | false =>
        cases s with
        | nil => cases e
        | cons a l =>
          simp only [gapP, Bool.or_eq_false_iff, decide_eq_false_iff_not] at e
          have := gaps_no (hi := hi) e.1.2 (by omega) v (by omega) h2
          omega
    exact .inl (by omega)
end Go.Proofs.YtgdjhhfbpalkdaaGreat
namespace Go.Proofs.YtgdjhhfbpalkdaaGreat
open Go.RowKit
theorem value_err (t : Tab) (n : Nat) (x : ExV) : (valueP t n x).2 ≠ 72 := by
  unfold valueP
  split
  · split <;> simp
  · simp
theorem inside_err (t : Tab) (sub : Int) (b : Bd) : insideP t sub b ≠ 72 := by
  unfold insideP
  split
  · split
    · split <;> decide
    · decide
  · decide
theorem rng_err (t : Tab) (n : Nat) (sub : Int) (x y : ExV) : (rngP t n sub x y).2 ≠ 72 := by
  rw [rngP_eq]
  split
  · exact value_err t n x
  split
  · exact value_err t n y
  split <;> simp
theorem choice_err (t : Tab) (n : Nat) (x : ChV) : (choiceP t n x).2 ≠ 72 := by
  rw [choiceP_eq]
  split
  · exact rng_err t n _ _ _
  split
  · simp
  split
  · split <;> simp
  · exact value_err t n _
theorem chErr_err (t : Tab) (n : Nat) (sub : Int) (c : ChV) : chErr t n sub c ≠ 72 := by
  unfold chErr
  split
  · exact inside_err t sub _
  · exact choice_err t n c
theorem fold_inv {t : Tab} {n : Nat} {sub : Int} (p : ChSt → Prop) (hp : ∀ s c, p s → p (chStep t n sub s c)) : ∀ (l : List ChV) (s : ChSt), p s → p (l.foldl (chStep t n sub) s)
  | [], _, h => h
  | c :: l, s, h => by
    rw [List.foldl_cons]
    exact fold_inv p hp l _ (hp s c h)
theorem chE_err (t : Tab) (n : Nat) (sub : Int) (l : List ChV) : chE t n sub l ≠ 72 := by
  refine fold_inv (fun s => s.2.2 ≠ 72) (fun s c h => ?_) l ([], false, 0) (by decide)
  unfold chStep
  split
  · exact h
  split
  · simp
  split
  · exact chErr_err t n sub c
  split
  · simp
  · exact h
theorem chB_in {t : Tab} {n : Nat} {sub : Int} {l : List ChV} : ∀ b, b ∈ chB t n sub l → b.1 ≤ b.2 ∧ insideP t sub b = 0 := by
  refine fold_inv (fun s => ∀ b, b ∈ s.1 → b.1 ≤ b.2 ∧ insideP t sub b = 0) (fun s c h => ?_) l ([], false, 0) (fun b hb => by cases hb)
  unfold chStep
  split
  · exact h
  split
  · exact h
  split
  · intro b hb
    cases hb
  rename_i h1 h2 h3
  split
  · rename_i h4
    intro b hb
    rcases List.mem_append.1 hb with hb | hb
    · exact h b hb
    · have e : b = (choiceP t n c).1 := by simpa using hb
      subst e
      refine ⟨h4, ?_⟩
      have h5 : chErr t n sub c = 0 := by
        apply Classical.byContradiction
        exact h3
      unfold chErr at h5
      split at h5
      · exact h5
      · rename_i h6
        exact absurd h5 h6
  · exact h
theorem chO_nil (t : Tab) (n : Nat) (sub : Int) : chO t n sub [] = false := rfl
theorem inside_in {t : Tab} {sub lo hi : Int} {b : Bd} (hr : rangeP t sub = some (lo, hi)) (h1 : b.1 ≤ b.2) (h : insideP t sub b = 0) : lo ≤ b.1 ∧ b.2 ≤ hi := by
  unfold insideP at h
  rw [if_pos h1, hr] at h
  simp only at h
  split at h
  · cases h
  · omega
theorem all_in {t : Tab} {n : Nat} {sub lo hi : Int} {ls : List ChL} (hr : rangeP t sub = some (lo, hi)) : ∀ j, ∀ b, b ∈ allTo t n sub ls j → b.1 ≤ b.2 ∧ lo ≤ b.1 ∧ b.2 ≤ hi
  | 0, b, hb => by cases hb
  | j + 1, b, hb => by
    simp only [allTo, List.mem_append] at hb
    rcases hb with hb | hb
    · exact all_in hr j b hb
    · obtain ⟨h1, h2⟩ := chB_in b hb
      exact ⟨h1, inside_in hr h1 h2⟩
theorem ov_cons (a : Bd) (s : List Bd) : ∀ j, ovTo (a :: s) (j + 2) = (decide ((s.getD 0 (0, 0)).1 ≤ a.2) || ovTo s (j + 1))
  | 0 => by simp [ovTo]
  | j + 1 => by
    have ih := ov_cons a s j
    show (ovTo (a :: s) (j + 2) || decide (((a :: s).getD (j + 2) (0, 0)).1 ≤ ((a :: s).getD (j + 1) (0, 0)).2)) = _
    rw [ih, Bool.or_assoc]
    rfl
theorem ov_over : ∀ s : List Bd, ovTo s s.length = overP s
  | [] => rfl
  | [_] => rfl
  | a :: b :: l => by
    have ih := ov_over (b :: l)
    show ovTo (a :: b :: l) (l.length + 2) = _
    rw [ov_cons]
    show (decide (b.1 ≤ a.2) || ovTo (b :: l) (b :: l).length) = _
    rw [ih]
    rfl
theorem gp_cons (lo : Int) (a : Bd) (s : List Bd) : ∀ j, gpTo lo (a :: s) (j + 2) = (decide (lo < a.1) || gpTo (wrap64 (a.2 + 1)) s (j + 1))
  | 0 => by simp [gpTo]
  | j + 1 => by
    have ih := gp_cons lo a s j
    show (gpTo lo (a :: s) (j + 2) || decide (wrap64 (((a :: s).getD (j + 1) (0, 0)).2 + 1) < ((a :: s).getD (j + 2) (0, 0)).1)) = _
    rw [ih, Bool.or_assoc]
    rfl
theorem gp_gaps {lo : Int} : ∀ (a : Bd) (l : List Bd), (∀ x, x ∈ a :: l → -1099511627776 ≤ x.2 ∧ x.2 ≤ 1099511627776) → gpTo lo (a :: l) (a :: l).length = (decide (lo < a.1) || gapsP (a :: l))
  | a, [], _ => by simp [gpTo, gapsP]
  | a, b :: l, h => by
    have ih := gp_gaps (lo := wrap64 (a.2 + 1)) b l (fun x hx => h x (List.mem_cons_of_mem _ hx))
    have ha := h a (by simp)
    show gpTo lo (a :: b :: l) (l.length + 2) = _
    rw [gp_cons]
    show (decide (lo < a.1) || gpTo (wrap64 (a.2 + 1)) (b :: l) (b :: l).length) = _
    rw [ih, IntWalk.wrap64_in _ ⟨by omega, by omega⟩]
    rfl
theorem last_get : ∀ (a : Bd) (l : List Bd), (a :: l).getD ((a :: l).length - 1) (0, 0) = lastP (a :: l)
  | a, [] => rfl
  | a, b :: l => by
    have ih := last_get b l
    show (b :: l).getD l.length (0, 0) = _
    exact ih
theorem gap_eq {lo hi : Int} (s : List Bd) (h : ∀ x, x ∈ s → -1099511627776 ≤ x.2 ∧ x.2 ≤ 1099511627776) :
    ((decide (s.length = 0) || gpTo lo s s.length) || (decide (0 < s.length) && decide ((s.getD (s.length - 1) (0, 0)).2 < hi))) = gapP lo hi s := by
  cases s with
  | nil => rfl
  | cons a l =>
    rw [gp_gaps a l h, last_get]
    simp [gapP]
/-- How often a value is named in the first lists. -/
def cntTo (t : Tab) (n : Nat) (sub : Int) (ls : List ChL) (v : Int) (j : Nat) : Nat := (allTo t n sub ls j).countP (hasB v)
theorem cntTo_step (t : Tab) (n : Nat) (sub : Int) (ls : List ChL) (v : Int) (j : Nat) : cntTo t n sub ls v (j + 1) = cntTo t n sub ls v j + (chB t n sub (ls.getD j default).l).countP (hasB v) := by
  simp [cntTo, allTo]
/-- Whether all is right behind the first c values. -/
def rightTo (t : Tab) (n : Nat) (sub : Int) (ls : List ChL) (lo : Int) : Nat → Bool
  | 0 => !wrongTo t n sub ls ls.length
  | c + 1 => rightTo t n sub ls lo c && (decide (cntTo t n sub ls (lo + c) ls.length = 1) || (decide (cntTo t n sub ls (lo + c) ls.length = 0) && restTo t n sub ls ls.length))
theorem right_iff (t : Tab) (n : Nat) (sub : Int) (ls : List ChL) (lo : Int) : ∀ c, rightTo t n sub ls lo c = true ↔ wrongTo t n sub ls ls.length = false ∧ ∀ k : Nat, k < c → cntTo t n sub ls (lo + k) ls.length = 1 ∨ cntTo t n sub ls (lo + k) ls.length = 0 ∧ restTo t n sub ls ls.length = true
  | 0 => by simp [rightTo]
  | c + 1 => by
    simp only [rightTo, Bool.and_eq_true, Bool.or_eq_true, decide_eq_true_eq, right_iff t n sub ls lo c]
    constructor
    · rintro ⟨⟨h1, h2⟩, h3⟩
      refine ⟨h1, fun k hk => ?_⟩
      by_cases e : k = c
      · subst e
        exact h3
      · exact h2 k (by omega)
    · rintro ⟨h1, h2⟩
      exact ⟨⟨h1, fun k hk => h2 k (by omega)⟩, h2 c (by omega)⟩
/-- The stage's theorem, in plain words. -/
theorem right_law {t : Tab} {n : Nat} {sub lo hi r : Int} {ls : List ChL} (hr : rangeP t sub = some (lo, hi)) (hlo : -1099511627776 ≤ lo) (hhi : hi ≤ 1099511627776) (hc : CovIs t n sub ls r) (h0 : r = 0 ∨ r = 72) :
    rightTo t n sub ls lo (hi + 1 - lo).toNat = decide (r = 0) := by
  rcases hc with ⟨j, x, _, _, hne, hq⟩ | ⟨_, s, hp, hs, hq⟩
  · rcases h0 with h | h
    · exact absurd (hq.symm.trans h) hne
    · exact absurd (hq.symm.trans h) (chE_err t n sub x.l)
  have hin : ∀ x, x ∈ s → x.1 ≤ x.2 ∧ lo ≤ x.1 ∧ x.2 ≤ hi := fun x hx => all_in hr _ x (hp.mem_iff.1 hx)
  have hcnt : ∀ v, s.countP (hasB v) = cntTo t n sub ls v ls.length := fun v => hp.countP_eq _
  have hlaw := cover_law (lo := lo) (hi := hi) hs hin (restTo t n sub ls ls.length)
  have hgap := gap_eq (lo := lo) (hi := hi) s (fun x hx => by have := hin x hx; omega)
  have hq2 : r = covQ lo hi (decide (lo ≤ hi)) (wrongTo t n sub ls ls.length) (restTo t n sub ls ls.length) s := by
    rw [hq, coverQ, hr]
    rfl
  have hr0 : (r = 0) ↔ wrongTo t n sub ls ls.length = false ∧ overP s = false ∧ (lo ≤ hi → gapP lo hi s = true → restTo t n sub ls ls.length = true) := by
    rw [hq2]
    unfold covQ
    rw [ov_over]
    generalize wrongTo t n sub ls ls.length = W
    generalize restTo t n sub ls ls.length = R
    generalize overP s = O
    by_cases hle : lo ≤ hi
    · rw [decide_eq_true hle]
      simp only [Bool.true_and]
      rw [hgap]
      generalize gapP lo hi s = G
      cases W <;> cases R <;> cases O <;> cases G <;> simp [hle]
    · rw [decide_eq_false hle]
      simp only [Bool.false_and]
      cases W <;> cases R <;> cases O <;> simp [hle]
  have hall : (∀ v, lo ≤ v → v ≤ hi → s.countP (hasB v) = 1 ∨ s.countP (hasB v) = 0 ∧ restTo t n sub ls ls.length = true) ↔ ∀ k : Nat, k < (hi + 1 - lo).toNat → cntTo t n sub ls (lo + k) ls.length = 1 ∨ cntTo t n sub ls (lo + k) ls.length = 0 ∧ restTo t n sub ls ls.length = true := by
    constructor
    · intro h k hk
      rw [← hcnt]
      exact h (lo + k) (by omega) (by omega)
    · intro h v h1 h2
      have := h (v - lo).toNat (by omega)
      rw [← hcnt, show lo + ((v - lo).toNat : Int) = v by omega] at this
      exact this
  rw [Bool.eq_iff_iff, right_iff, decide_eq_true_eq, hr0, ← hall, hlaw]
end Go.Proofs.YtgdjhhfbpalkdaaGreat
namespace Go.Proofs.YtgdjhhfbpalkdaaGreat
open Go.RowKit
/-- No value is in both. -/
def disj (a b : Bd) : Prop := a.2 < b.1 ∨ b.2 < a.1
theorem disj_symm {a b : Bd} (h : disj a b) : disj b a := h.symm
def meetB (a b : Bd) : Bool := decide (a.1 ≤ b.2) && decide (b.1 ≤ a.2)
theorem meet_disj (a b : Bd) : meetB a b = false ↔ disj a b := by
  unfold meetB disj
  rw [Bool.and_eq_false_iff, decide_eq_false_iff_not, decide_eq_false_iff_not]
  omega
/-- Whether row i meets one of the first k. -/
def pairK (l : List Bd) (i : Nat) : Nat → Bool
  | 0 => false
  | k + 1 => pairK l i k || meetB (l.getD i (0, 0)) (l.getD k (0, 0))
def pairI (l : List Bd) : Nat → Bool
  | 0 => false
  | i + 1 => pairI l i || pairK l i i
theorem pairK_no {l : List Bd} {i : Nat} : ∀ k, pairK l i k = false ↔ ∀ j, j < k → disj (l.getD i (0, 0)) (l.getD j (0, 0))
  | 0 => by simp [pairK]
  | k + 1 => by
    simp only [pairK, Bool.or_eq_false_iff, pairK_no k, meet_disj]
    constructor
    · rintro ⟨h1, h2⟩ j hj
      by_cases e : j = k
      · subst e; exact h2
      · exact h1 j (by omega)
    · exact fun h => ⟨fun j hj => h j (by omega), h k (by omega)⟩
theorem pairI_no {l : List Bd} : ∀ k, pairI l k = false ↔ ∀ i j, i < k → j < i → disj (l.getD i (0, 0)) (l.getD j (0, 0))
  | 0 => by simp [pairI]
  | k + 1 => by
    simp only [pairI, Bool.or_eq_false_iff, pairI_no k, pairK_no]
    constructor
    · rintro ⟨h1, h2⟩ i j hi hj
      by_cases e : i = k
      · subst e; exact h2 j hj
      · exact h1 i j (by omega) hj
    · exact fun h => ⟨fun i j hi hj => h i j (by omega) hj, fun j hj => h k j (by omega) hj⟩
theorem pair_disj (l : List Bd) : pairI l l.length = false ↔ l.Pairwise disj := by
  rw [pairI_no, List.pairwise_iff_getElem]
  constructor
  · intro h i j hi hj hij
    have := h j i hj hij
    rw [List.getD_eq_getElem?_getD, List.getD_eq_getElem?_getD, List.getElem?_eq_getElem hi, List.getElem?_eq_getElem hj] at this
    exact this.symm
  · intro h i j hi hj
    have := h j i (by omega) hi hj
    rw [List.getD_eq_getElem?_getD, List.getD_eq_getElem?_getD, List.getElem?_eq_getElem hi, List.getElem?_eq_getElem (show j < l.length by omega)]
    exact this.symm
theorem over_disj : ∀ {s : List Bd}, s.Pairwise (fun a b => a.1 ≤ b.1) → (∀ x, x ∈ s → x.1 ≤ x.2) → (overP s = false ↔ s.Pairwise disj) := by
  intro s hs hn
  constructor
  · intro h
    exact (chain_of h hn).imp (fun h => .inl h)
  · intro h
    induction s with
    | nil => rfl
    | cons a l ih =>
      cases l with
      | nil => rfl
      | cons b l =>
        have h1 := List.pairwise_cons.1 h
        have h2 := List.pairwise_cons.1 hs
        have h3 := h1.1 b (by simp)
        have h4 := h2.1 b (by simp)
        have h5 := hn b (by simp)
        simp only [overP, Bool.or_eq_false_iff, decide_eq_false_iff_not]
        refine ⟨?_, ih h2.2 (fun x hx => hn x (List.mem_cons_of_mem _ hx)) h1.2⟩
        rcases h3 with h3 | h3 <;> omega
theorem pair_over {s l : List Bd} (hp : s.Perm l) (hs : s.Pairwise (fun a b => a.1 ≤ b.1)) (hn : ∀ x, x ∈ s → x.1 ≤ x.2) : pairI l l.length = overP s := by
  have h1 := pair_disj l
  have h2 := over_disj hs hn
  have h3 : s.Pairwise disj ↔ l.Pairwise disj := hp.pairwise_iff disj_symm
  cases e1 : pairI l l.length <;> cases e2 : overP s <;> simp_all
open Classical in
/-- Whether all values from lo to hi are in bounds. -/
noncomputable def covB (l : List Bd) (lo hi : Int) : Bool := decide (∀ v, lo ≤ v → v ≤ hi → ∃ x, x ∈ l ∧ x.1 ≤ v ∧ v ≤ x.2)
theorem covB_true {l : List Bd} {lo hi : Int} : covB l lo hi = true ↔ ∀ v, lo ≤ v → v ≤ hi → ∃ x, x ∈ l ∧ x.1 ≤ v ∧ v ≤ x.2 := by
  unfold covB
  exact @decide_eq_true_iff _ (Classical.propDecidable _)
theorem covB_empty {l : List Bd} {lo hi : Int} (h : hi < lo) : covB l lo hi = true := covB_true.2 fun v h1 h2 => by omega
theorem covB_out {l : List Bd} {lo hi : Int} (h : lo ≤ hi) (hn : ∀ x, x ∈ l → ¬ (x.1 ≤ lo ∧ lo ≤ x.2)) : covB l lo hi = false := by
  rw [Bool.eq_false_iff]
  intro hc
  obtain ⟨x, h1, h2⟩ := covB_true.1 hc lo (by omega) h
  exact hn x h1 h2
theorem covB_full {l : List Bd} {lo hi : Int} {x : Bd} (hx : x ∈ l) (h1 : x.1 ≤ lo) (h2 : hi ≤ x.2) : covB l lo hi = true := covB_true.2 fun v h3 h4 => ⟨x, hx, by omega, by omega⟩
theorem covB_step {l : List Bd} {lo hi : Int} {x : Bd} (hx : x ∈ l) (h1 : x.1 ≤ lo) (h2 : lo ≤ x.2) : covB l lo hi = covB l (x.2 + 1) hi := by
  rw [Bool.eq_iff_iff, covB_true, covB_true]
  constructor
  · exact fun h v h3 h4 => h v (by omega) h4
  · intro h v h3 h4
    by_cases c : v ≤ x.2
    · exact ⟨x, hx, by omega, c⟩
    · exact h v (by omega) h4
theorem cov_cnt {s l : List Bd} (hp : s.Perm l) {lo hi : Int} : covB l lo hi = true ↔ ∀ v, lo ≤ v → v ≤ hi → 1 ≤ s.countP (hasB v) := by
  rw [covB_true]
  have hc : ∀ v, (∃ x, x ∈ l ∧ x.1 ≤ v ∧ v ≤ x.2) ↔ 1 ≤ s.countP (hasB v) := by
    intro v
    rw [hp.countP_eq, show (1 ≤ l.countP (hasB v)) ↔ 0 < l.countP (hasB v) from Iff.rfl, List.countP_pos_iff]
    constructor
    · rintro ⟨x, h1, h2, h3⟩
      exact ⟨x, h1, by simp [hasB, h2, h3]⟩
    · rintro ⟨x, h1, h2⟩
      simp only [hasB, Bool.and_eq_true, decide_eq_true_eq] at h2
      exact ⟨x, h1, h2⟩
  exact ⟨fun h v h1 h2 => (hc v).1 (h v h1 h2), fun h v h1 h2 => (hc v).2 (h v h1 h2)⟩
theorem cov_gap {s l : List Bd} (hp : s.Perm l) {lo hi : Int} (hs : s.Pairwise (fun a b => a.1 ≤ b.1)) (hn : ∀ x, x ∈ s → x.1 ≤ x.2 ∧ lo ≤ x.1 ∧ x.2 ≤ hi) (ho : overP s = false) (hle : lo ≤ hi) : covB l lo hi = !gapP lo hi s := by
  have hlaw := cover_law (lo := lo) (hi := hi) hs hn false
  have h1 := cov_cnt hp (lo := lo) (hi := hi)
  have hc := chain_of ho (fun x hx => (hn x hx).1)
  have h2 : (∀ v, lo ≤ v → v ≤ hi → 1 ≤ s.countP (hasB v)) ↔ (∀ v, lo ≤ v → v ≤ hi → s.countP (hasB v) = 1 ∨ s.countP (hasB v) = 0 ∧ false = true) := by
    constructor
    · intro h v h3 h4
      have h5 := h v h3 h4
      have h6 := cnt_le_one (v := v) hc (fun x hx => (hn x hx).1)
      exact .inl (by omega)
    · intro h v h3 h4
      rcases h v h3 h4 with h5 | ⟨_, h5⟩
      · omega
      · cases h5
  rw [h2, hlaw] at h1
  cases e1 : covB l lo hi <;> cases e2 : gapP lo hi s <;> simp_all
theorem gp_chain {lo : Int} : ∀ (a : Bd) (l : List Bd), (a :: l).Pairwise (fun a b => a.2 < b.1) → (∀ x, x ∈ a :: l → -9223372036854775808 ≤ x.2 ∧ x.1 ≤ 9223372036854775807) → gpTo lo (a :: l) (a :: l).length = (decide (lo < a.1) || gapsP (a :: l))
  | a, [], _, _ => by simp [gpTo, gapsP]
  | a, b :: l, hc, h => by
    have hp := List.pairwise_cons.1 hc
    have ih := gp_chain (lo := wrap64 (a.2 + 1)) b l hp.2 (fun x hx => h x (List.mem_cons_of_mem _ hx))
    have ha := h a (by simp)
    have hb := h b (by simp)
    have hab := hp.1 b (by simp)
    show gpTo lo (a :: b :: l) (l.length + 2) = _
    rw [gp_cons]
    show (decide (lo < a.1) || gpTo (wrap64 (a.2 + 1)) (b :: l) (b :: l).length) = _
    rw [ih, IntWalk.wrap64_in _ ⟨by omega, by omega⟩]
    rfl
theorem gap_chain {lo hi : Int} (s : List Bd) (hc : s.Pairwise (fun a b => a.2 < b.1)) (h : ∀ x, x ∈ s → -9223372036854775808 ≤ x.2 ∧ x.1 ≤ 9223372036854775807) :
    ((decide (s.length = 0) || gpTo lo s s.length) || (decide (0 < s.length) && decide ((s.getD (s.length - 1) (0, 0)).2 < hi))) = gapP lo hi s := by
  cases s with
  | nil => rfl
  | cons a l =>
    rw [gp_chain a l hc h, last_get]
    simp [gapP]
/-- What the reference's Cover tells of all bounds. -/
noncomputable def refQ (o : Option Bd) (W R : Bool) (l : List Bd) : Int :=
  if ((W || pairI l l.length) || (!R && (o.isSome && !covB l (o.getD (0, 0)).1 (o.getD (0, 0)).2))) = true then 72 else 0
theorem ref_same {o : Option Bd} {W R : Bool} {s l : List Bd} (hp : s.Perm l) (hs : s.Pairwise (fun a b => a.1 ≤ b.1)) (hn : ∀ x, x ∈ s → x.1 ≤ x.2)
    (hi : ∀ lo hi, o = some (lo, hi) → -9223372036854775808 ≤ lo ∧ hi ≤ 9223372036854775807 ∧ ∀ x, x ∈ s → lo ≤ x.1 ∧ x.2 ≤ hi) : coverQ o W R s = refQ o W R l := by
  unfold coverQ covQ refQ
  rw [ov_over, pair_over hp hs hn]
  cases e1 : overP s
  rotate_left
  · simp
  cases o with
  | none =>
    simp [fullB]
  | some b =>
    obtain ⟨lo, h⟩ := b
    obtain ⟨h1, h2, h3⟩ := hi lo h rfl
    have hc := chain_of e1 hn
    simp only [fullB, Option.isSome_some, Option.getD_some, Bool.true_and]
    by_cases hle : lo ≤ h
    · rw [decide_eq_true hle]
      simp only [Bool.true_and]
      rw [gap_chain s hc (fun x hx => by have := h3 x hx; have := hn x hx; omega), cov_gap hp hs (fun x hx => ⟨hn x hx, h3 x hx⟩) e1 hle]
      cases W <;> cases R <;> cases gapP lo h s <;> rfl
    · rw [decide_eq_false hle, covB_empty (by omega)]
      cases W <;> cases R <;> rfl
section
variable (t : Tab) (n : Nat) (sub : Int)
/-- The first error of lists. -/
def errTo : List ChL → Int
  | [] => 0
  | x :: l => if chE t n sub x.l ≠ 0 then chE t n sub x.l else errTo l
noncomputable def refCover (ls : List ChL) : Int := if errTo t n sub ls ≠ 0 then errTo t n sub ls else refQ (rangeP t sub) (wrongTo t n sub ls ls.length) (restTo t n sub ls ls.length) (allTo t n sub ls ls.length)
end
theorem err_none {t : Tab} {n : Nat} {sub : Int} : ∀ {ls : List ChL}, (∀ (i : Nat) (y : ChL), ls[i]? = some y → chE t n sub y.l = 0) → errTo t n sub ls = 0
  | [], _ => rfl
  | x :: l, h => by
    have h1 := h 0 x rfl
    simp only [errTo]
    rw [if_neg (by simp [h1])]
    exact err_none (fun i y hy => h (i + 1) y hy)
theorem err_first {t : Tab} {n : Nat} {sub : Int} : ∀ {ls : List ChL} {j : Nat} {x : ChL}, ls[j]? = some x → (∀ (i : Nat) (y : ChL), i < j → ls[i]? = some y → chE t n sub y.l = 0) → chE t n sub x.l ≠ 0 → errTo t n sub ls = chE t n sub x.l
  | [], _, _, h, _, _ => by simp at h
  | a :: l, 0, x, h, _, h2 => by
    have e : a = x := by simpa using h
    subst e
    simp only [errTo]
    rw [if_pos h2]
  | a :: l, j + 1, x, h, h1, h2 => by
    have h3 := h1 0 a (by omega) rfl
    simp only [errTo]
    rw [if_neg (by simp [h3])]
    exact err_first (j := j) (by simpa using h) (fun i y hi hy => h1 (i + 1) y (by omega) (by simpa using hy)) h2
theorem all_none {t : Tab} {n : Nat} {sub : Int} {ls : List ChL} (hr : rangeP t sub = none) : ∀ j, allTo t n sub ls j = []
  | 0 => rfl
  | j + 1 => by
    simp only [allTo, all_none hr j, List.nil_append]
    apply List.eq_nil_iff_forall_not_mem.2
    intro b hb
    obtain ⟨h1, h2⟩ := chB_in b hb
    unfold insideP at h2
    rw [if_pos h1, hr] at h2
    cases h2
theorem cov_same {t : Tab} {n : Nat} {sub r : Int} {ls : List ChL} (hb : ∀ lo hi, rangeP t sub = some (lo, hi) → -9223372036854775808 ≤ lo ∧ hi ≤ 9223372036854775807) (hc : CovIs t n sub ls r) : r = refCover t n sub ls := by
  unfold refCover
  rcases hc with ⟨j, x, hx, hi, hne, hq⟩ | ⟨hz, s, hp, hs, hq⟩
  · rw [err_first hx hi hne, if_pos hne, hq]
  · rw [err_none hz, if_neg (by simp), hq]
    refine ref_same hp hs ?_ ?_
    · intro x hx
      cases hr : rangeP t sub with
      | none => rw [all_none hr] at hp; rw [List.Perm.eq_nil hp] at hx; cases hx
      | some b => exact (all_in (lo := b.1) (hi := b.2) hr _ x (hp.mem_iff.1 hx)).1
    · intro lo hi hr
      have h := hb lo hi hr
      exact ⟨h.1, h.2, fun x hx => (all_in hr _ x (hp.mem_iff.1 hx)).2⟩
end Go.Proofs.YtgdjhhfbpalkdaaGreat
