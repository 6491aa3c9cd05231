/- The plain law: what the search finds. -/
import Derived.Test.YtbjnoffdafpkgaaG4
namespace Go.Proofs.Ytbjnoffdafpkgaa

/-- A type needs another, by n steps. -/
def ReachN (t : Tab) : Nat → Int → Int → Prop
  | 0, a, b => a = b
  | n + 1, a, b => ∃ p, p ∈ partsT t a ∧ ReachN t n p b
/-- A type needs another. -/
def Reach (t : Tab) (a b : Int) : Prop := ∃ n, ReachN t n a b
theorem Reach.refl {t : Tab} (a : Int) : Reach t a a := ⟨0, rfl⟩
theorem Reach.step {t : Tab} (a p b : Int) (hp : p ∈ partsT t a) (h : Reach t p b) : Reach t a b := by
  obtain ⟨n, h⟩ := h
  exact ⟨n + 1, p, hp, h⟩
theorem Reach.ind {t : Tab} {motive : (a b : Int) → Reach t a b → Prop} (refl : ∀ a, motive a a (Reach.refl a)) (step : ∀ a p b (hp : p ∈ partsT t a) (h : Reach t p b), motive p b h → motive a b (Reach.step a p b hp h)) {a b : Int} (h : Reach t a b) : motive a b h := by
  obtain ⟨n, hn⟩ := h
  induction n generalizing a with
  | zero =>
    have e : a = b := hn
    subst e
    exact refl a
  | succ n ih =>
    obtain ⟨p, hp, hr⟩ := hn
    exact step a p b hp ⟨n, hr⟩ (ih hr)

theorem Reach.trans {t : Tab} {a b c : Int} (h : Reach t a b) (k : Reach t b c) : Reach t a c := by
  induction h using Reach.ind with
  | refl => exact k
  | step a p b hp _ ih => exact .step a p c hp (ih k)

theorem Reach.exists {t : Tab} {a b : Int} (h : Reach t a b) (ha : exI t.types.length a = true) : exI t.types.length b = true := by
  induction h using Reach.ind with
  | refl => exact ha
  | step a p b hp _ ih => exact ih (mem_partsT hp).1

/-- What a search leaves. -/
structure DRes (t : Tab) (ok : Int → Bool) (ty : Int) (s r : List Int × Bool) : Prop where
  sub : ∀ x, x ∈ s.1 → x ∈ r.1
  reach : ∀ x, x ∈ r.1 → x ∈ s.1 ∨ Reach t ty x
  closed : ∀ x, x ∈ r.1 → x ∉ s.1 → ∀ p, p ∈ partsT t x → p ∈ r.1
  fine : r.2 = true ↔ s.2 = true ∧ ∀ x, x ∈ r.1 → x ∉ s.1 → ok x = true

theorem meetF_res (t : Tab) (ok : Int → Bool) : ∀ (f : Nat) (ty : Int) (s : List Int × Bool), exI t.types.length ty = true → MInv t s.1 → t.types.length < f + s.1.length → DRes t ok ty s (meetF t ok f ty s) ∧ ty ∈ (meetF t ok f ty s).1 := by
  intro f
  induction f with
  | zero => intro ty s _ h hf; have := h.length_le; omega
  | succ f ih =>
    intro ty s hty h hf
    unfold meetF
    by_cases hc : s.1.contains ty = true
    · rw [if_pos hc]
      have hm : ty ∈ s.1 := by rwa [List.contains_iff_mem] at hc
      exact ⟨⟨fun _ h => h, fun _ h => .inl h, fun x hx hn => absurd hx hn, ⟨fun h => ⟨h, fun x hx hn => absurd hx hn⟩, fun h => h.1⟩⟩, hm⟩
    · rw [if_neg hc]
      have hc' : s.1.contains ty = false := by simpa using hc
      have hnm : ty ∉ s.1 := by intro hm; apply hc; rw [List.contains_iff_mem]; exact hm
      have key : ∀ (l : List Int) (s1 : List Int × Bool), (∀ p, p ∈ l → p ∈ partsT t ty) → MInv t s1.1 → s.1.length + 1 ≤ s1.1.length → ty ∈ s1.1 → (∀ x, x ∈ s.1 → x ∈ s1.1) →
          (∀ x, x ∈ s1.1 → x ∈ s.1 ∨ Reach t ty x) → (∀ x, x ∈ s1.1 → x ∉ s.1 → x ≠ ty → ∀ p, p ∈ partsT t x → p ∈ s1.1) → (s1.2 = true ↔ s.2 = true ∧ ∀ x, x ∈ s1.1 → x ∉ s.1 → ok x = true) →
          let r := l.foldl (fun s p => meetF t ok f p s) s1
          (∀ x, x ∈ s1.1 → x ∈ r.1) ∧ (∀ p, p ∈ l → p ∈ r.1) ∧ (∀ x, x ∈ r.1 → x ∈ s.1 ∨ Reach t ty x) ∧ (∀ x, x ∈ r.1 → x ∉ s.1 → x ≠ ty → ∀ p, p ∈ partsT t x → p ∈ r.1) ∧ (r.2 = true ↔ s.2 = true ∧ ∀ x, x ∈ r.1 → x ∉ s.1 → ok x = true) := by
        intro l
        induction l with
        | nil => intro s1 _ _ _ _ _ h5 h6 h7; exact ⟨fun _ h => h, by simp, h5, h6, h7⟩
        | cons p l ihl =>
          intro s1 hl hi hlen hmem hsub h5 h6 h7
          have hp := hl p (by simp)
          have hpe := (mem_partsT hp).1
          obtain ⟨hres, hpm⟩ := ih p s1 hpe hi (by omega)
          have hinv := meetF_inv t ok f p s1 hpe hi
          have hrec := ihl (meetF t ok f p s1) (fun q hq => hl q (by simp [hq])) hinv.1 (Nat.le_trans hlen hinv.2) (hres.sub _ hmem) (fun x hx => hres.sub _ (hsub x hx))
            (fun x hx => by
              rcases hres.reach x hx with h | h
              · exact h5 x h
              · exact .inr (.step ty p x hp h))
            (fun x hx hn hne q hq => by
              by_cases hx1 : x ∈ s1.1
              · exact hres.sub _ (h6 x hx1 hn hne q hq)
              · exact hres.closed x hx hx1 q hq)
            (by
              rw [hres.fine, h7]
              constructor
              · rintro ⟨⟨a, b⟩, c⟩
                refine ⟨a, fun x hx hn => ?_⟩
                by_cases hx1 : x ∈ s1.1
                · exact b x hx1 hn
                · exact c x hx hx1
              · rintro ⟨a, b⟩
                exact ⟨⟨a, fun x hx hn => b x (hres.sub _ hx) hn⟩, fun x hx hn => b x hx (fun hm => hn (hsub x hm))⟩)
          refine ⟨fun x hx => hrec.1 x (hres.sub x hx), fun q hq => ?_, hrec.2.2⟩
          rcases List.mem_cons.1 hq with rfl | hq
          · exact hrec.1 _ hpm
          · exact hrec.2.1 q hq
      have hk := key (partsT t ty) (s.1 ++ [ty], s.2 && ok ty) (fun _ h => h) (h.add hty hc') (by simp) (by simp) (fun x hx => by simp [hx])
        (fun x hx => by
          rcases List.mem_append.1 hx with hx | hx
          · exact .inl hx
          · simp at hx; subst hx; exact .inr (.refl _))
        (fun x hx hn hne => by
          rcases List.mem_append.1 hx with hx | hx
          · exact absurd hx hn
          · simp at hx; exact absurd hx hne)
        (by
          simp only [Bool.and_eq_true]
          constructor
          · rintro ⟨a, b⟩
            refine ⟨a, fun x hx hn => ?_⟩
            rcases List.mem_append.1 hx with hx | hx
            · exact absurd hx hn
            · simp at hx; subst hx; exact b
          · rintro ⟨a, b⟩
            exact ⟨a, b ty (by simp) hnm⟩)
      obtain ⟨k1, k2, k3, k4, k5⟩ := hk
      exact ⟨⟨fun x hx => k1 x (by simp [hx]), k3, fun x hx hn p hp => by
        by_cases hxt : x = ty
        · subst hxt; exact k2 p hp
        · exact k4 x hx hn hxt p hp, k5⟩, k1 ty (by simp)⟩

/-- The types that are met from a list, and whether all is fine. -/
theorem meetAll_res (t : Tab) (ok : Int → Bool) (ls : List Int) (h : ∀ x, x ∈ ls → exI t.types.length x = true) :
    (∀ x, x ∈ (meetAll t ok ls).1 ↔ ∃ y, y ∈ ls ∧ Reach t y x) ∧ ((meetAll t ok ls).2 = true ↔ ∀ x, x ∈ (meetAll t ok ls).1 → ok x = true) := by
  have key : ∀ (l : List Int) (s : List Int × Bool), (∀ x, x ∈ l → exI t.types.length x = true) → MInv t s.1 → (∀ x, x ∈ s.1 → ∀ p, p ∈ partsT t x → p ∈ s.1) → (s.2 = true ↔ ∀ x, x ∈ s.1 → ok x = true) →
      let r := l.foldl (fun s ty => meetF t ok (t.types.length + 1) ty s) s
      (∀ x, x ∈ r.1 ↔ x ∈ s.1 ∨ ∃ y, y ∈ l ∧ Reach t y x) ∧ (r.2 = true ↔ ∀ x, x ∈ r.1 → ok x = true) := by
    intro l
    induction l with
    | nil => intro s _ _ _ h4; exact ⟨fun x => by simp, h4⟩
    | cons a l ih =>
      intro s hl hi hcl hf
      have ha := hl a (by simp)
      obtain ⟨hres, ham⟩ := meetF_res t ok (t.types.length + 1) a s ha hi (by omega)
      have hinv := meetF_inv t ok (t.types.length + 1) a s ha hi
      have hcl2 : ∀ x, x ∈ (meetF t ok (t.types.length + 1) a s).1 → ∀ p, p ∈ partsT t x → p ∈ (meetF t ok (t.types.length + 1) a s).1 := by
        intro x hx p hp
        by_cases hxs : x ∈ s.1
        · exact hres.sub _ (hcl x hxs p hp)
        · exact hres.closed x hx hxs p hp
      have hcr : ∀ y x, Reach t y x → y ∈ (meetF t ok (t.types.length + 1) a s).1 → x ∈ (meetF t ok (t.types.length + 1) a s).1 := by
        intro y x hr
        induction hr using Reach.ind with
        | refl => exact fun h => h
        | step a p b hp _ ih => exact fun h => ih (hcl2 a h p hp)
      have hrec := ih (meetF t ok (t.types.length + 1) a s) (fun x hx => hl x (by simp [hx])) hinv.1 hcl2 (by
        rw [hres.fine, hf]
        constructor
        · rintro ⟨b, c⟩ x hx
          by_cases hxs : x ∈ s.1
          · exact b x hxs
          · exact c x hx hxs
        · intro b
          exact ⟨fun x hx => b x (hres.sub _ hx), fun x hx _ => b x hx⟩)
      refine ⟨fun x => ?_, hrec.2⟩
      rw [List.foldl_cons, hrec.1 x]
      constructor
      · rintro (hx | ⟨y, hy, hr⟩)
        · rcases hres.reach x hx with h | h
          · exact .inl h
          · exact .inr ⟨a, by simp, h⟩
        · exact .inr ⟨y, by simp [hy], hr⟩
      · rintro (hx | ⟨y, hy, hr⟩)
        · exact .inl (hres.sub _ hx)
        · rcases List.mem_cons.1 hy with rfl | hy
          · exact .inl (hcr _ _ hr ham)
          · exact .inr ⟨y, hy, hr⟩
  have := key ls ([], true) h ⟨by simp, by simp⟩ (by simp) (by simp)
  simpa [meetAll] using this
end Go.Proofs.Ytbjnoffdafpkgaa
