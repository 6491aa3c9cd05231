/- run. -/
import Derived.Test.YtbjnoffdafpkgaaH1
import Derived.Test.YtbjnoffdafpkgaaM3
namespace Go.Proofs.Ytbjnoffdafpkgaa
open Go.RowKit

/-- What an event may lead to. -/
def StepR (t : Tab) (s : PS) (x : EvV) (r : Bool × PS) : Prop :=
  if x.kind == 1 || x.kind == 2 then r = declareF s x
  else if x.kind == 3 then r = fullF s x
  else if x.kind == 4 then r = objectF t s x
  else if x.kind == 5 then r = deferredF s x
  else if x.kind == 6 then r = completedF t s x
  else if x.kind == 7 then r = useF s x
  else (EndNo s x ∧ r = (false, s)) ∨ ∃ l, EndYes s x l ∧ r = endF t s l

/-- The state behind k events. -/
def RunsTo (t : Tab) (l : List EvV) : Nat → PS → Prop
  | 0, s => s = PS.zero
  | k + 1, s => ∃ s0 x, RunsTo t l k s0 ∧ l[k]? = some x ∧ StepR t s0 x (true, s)

/-- What holds of every state. -/
structure Good (t : Tab) (s : PS) : Prop where
  dec : ∀ y, Wf y → (s.dec y).isSome = true → exI t.types.length y = true
  con : ∀ y c, s.con y = some c → exI t.types.length c.1 = true

theorem Good.zero (t : Tab) : Good t PS.zero := ⟨fun _ _ h => by simp [PS.zero] at h, fun _ _ h => by simp [PS.zero] at h⟩

theorem updM_some {α : Type} {M : Int → Option α} {x : Int} {v : α} {y : Int} {c : α} (h : updM M x v y = some c) : (y = x ∧ c = v) ∨ M y = some c := by
  unfold updM at h
  split at h
  · injection h with h; exact .inl ⟨by assumption, h.symm⟩
  · exact .inr h

theorem Good.step {t : Tab} {s : PS} {x : EvV} {r : Bool × PS} (h : Good t s) (hx : existsF t.types.length x = true) (hr : StepR t s x r) : Good t r.2 := by
  have hdecl : ∀ M : Int → Option Bool, (∀ y, Wf y → (M y).isSome = true → exI t.types.length y = true) → exI t.types.length x.ty = true → ∀ y, Wf y → (updM M x.ty true y).isSome = true → exI t.types.length y = true := by
    intro M hM hxt y hy hs
    unfold updM at hs
    split at hs
    · rename_i e; subst e; exact hxt
    · exact hM y hy hs
  unfold StepR at hr
  unfold existsF at hx
  split at hr
  · subst hr
    rename_i h12
    have hxt : exI t.types.length x.ty = true := by
      have : (x.kind == 1 || x.kind == 2 || x.kind == 3 || x.kind == 4) = true := by simp only [Bool.or_eq_true] at h12 ⊢; exact .inl (.inl h12)
      rw [if_pos this] at hx
      exact hx
    unfold declareF
    split
    · exact h
    · exact ⟨hdecl _ h.dec hxt, h.con⟩
  · split at hr
    · subst hr
      unfold fullF
      split
      · exact h
      · exact ⟨h.dec, h.con⟩
    · split at hr
      · subst hr; exact ⟨h.dec, h.con⟩
      · rename_i n1 n3 n4
        split at hr
        · subst hr
          rename_i h5
          have hxt : exI t.types.length x.ty = true := by
            have e1 : (x.kind == 1 || x.kind == 2 || x.kind == 3 || x.kind == 4) = false := by simp only [Bool.or_eq_true, not_or, Bool.not_eq_true] at n1 n3 n4; simp only [n1.1, n1.2, n3, n4]; rfl
            rw [e1, if_neg (by simp), if_pos h5] at hx
            simp only [Bool.and_eq_true] at hx
            exact hx.1
          unfold deferredF
          split
          · exact h
          · refine ⟨h.dec, fun y c hc => ?_⟩
            rcases updM_some hc with ⟨_, rfl⟩ | hc
            · exact hxt
            · exact h.con y c hc
        · split at hr
          · subst hr
            unfold completedF
            split
            · exact h
            · rename_i hns
              split
              · refine ⟨h.dec, fun y c hc => ?_⟩
                rcases updM_some hc with ⟨_, rfl⟩ | hc
                · cases hq : s.con x.num with
                  | none => rw [hq] at hns; simp at hns
                  | some c => exact h.con _ c hq
                · exact h.con y c hc
              · exact ⟨h.dec, h.con⟩
          · split at hr
            · subst hr; exact h
            · rcases hr with ⟨_, rfl⟩ | ⟨l, _, rfl⟩
              · exact h
              · exact ⟨h.dec, h.con⟩

/-- The events' methods, as they lie in the map. -/
def kindsM (S : Nat) : Int → Option Value := fun k =>
  if k = 1 ∨ k = 2 then some (.func (.func 35) #[.pointer (some ⟨S, 0, none⟩)] #[])
  else if k = 3 then some (.func (.func 36) #[.pointer (some ⟨S, 0, none⟩)] #[])
  else if k = 4 then some (.func (.func 37) #[.pointer (some ⟨S, 0, none⟩)] #[])
  else if k = 5 then some (.func (.func 38) #[.pointer (some ⟨S, 0, none⟩)] #[])
  else if k = 6 then some (.func (.func 39) #[.pointer (some ⟨S, 0, none⟩)] #[])
  else if k = 7 then some (.func (.func 40) #[.pointer (some ⟨S, 0, none⟩)] #[])
  else if k = 8 ∨ k = 9 then some (.func (.func 41) #[.pointer (some ⟨S, 0, none⟩)] #[])
  else none

abbrev HM := HMap Try.prog 43
theorem hm_update {w : World} {b n : Nat} {M : Int → Option Value} (h : HM w b n M) (hn : n < maxLen) {x : Int} (hx : (Lit.int .u8 x).wf = true) (v : Value) :
    ∃ w', (Instr.mapUpdate 83 (.map (some b)) (.int .u8 x) v).run Try.prog w = .ok () w' ∧ HM w' b (n + 1) (updM M x v) ∧ w.grownBy w' (some b) ∧ w'.heap.size = w.heap.size :=
  h.update Try.underlying43 Try.underlying83 hn hx v
theorem hm_lookup {w : World} {b n : Nat} {M : Int → Option Value} (h : HM w b n M) {x : Int} (hx : (Lit.int .u8 x).wf = true) : (Instr.lookup 83 (.map (some b)) (.int .u8 x) false).run Try.prog w = .ok ((M x).getD .nilFunc) w :=
  h.lookup Try.underlying43 Try.underlying83 Try.zeroValue82 hx
end Go.Proofs.Ytbjnoffdafpkgaa
