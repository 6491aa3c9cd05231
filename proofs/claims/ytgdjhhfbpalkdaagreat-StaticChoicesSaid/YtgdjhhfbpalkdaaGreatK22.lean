/- Regions as in K18, whose chains of operations are longer. -/
import Derived.Test.YtgdjhhfbpalkdaaGreatK18
namespace Go.Proofs.YtgdjhhfbpalkdaaGreat
open Go.RowKit
section
variable {P : Program} {md : Region.Mode} {ops : Array Oper} {Q : Exit → Act → World → Prop} {w0 : World}
/-- All but the heads wait for it, however long the chain. -/
def heldD (md : Region.Mode) (ops : Array Oper) (hd : List Nat) (i : Nat) : Bool := (List.range ops.size).all fun t => hd.contains t || viaT md ops 12 t i
theorem heldD_spec {i : Nat} {done : Array Bool} {hd : List Nat} (h : heldD md ops hd i = true) (hc : Closed md ops done) (hun : done.getD i true = false) : ∀ t, t ∉ hd → t ∉ Region.ready md ops done := fun t ht hr => by
  obtain ⟨_, ot, hot, _⟩ := mem_ready.1 hr
  have := List.all_eq_true.1 h t (List.mem_range.2 (Array.getElem?_eq_some_iff.1 hot).1)
  simp only [Bool.or_eq_true] at this
  rcases this with h1 | h1
  · exact ht (by simpa using h1)
  · exact viaT_ready hc hun h1 hr

def checkD (l : List Oper) (S : List PSp) (size : Nat) : Bool :=
  decide (S.length ≤ l.length) && dstsP S l && (S.all fun s => decide (s.d < size)) && nodupB (S.map (·.d)) && depsP .any S S l &&
  ((List.range S.length).all fun i => heldD .any l.toArray (List.range S.length) i) && edgesP .any 0 (l.take S.length) &&
  seqL .any l.toArray (List.range' S.length (l.length - S.length)) (canon S.length l.length)

theorem AnyRD {l : List Oper} {S : List PSp} {a : Act} (hB : checkD l S a.tmps.size = true)
    (hO : obls P l.toArray Q w0 S (fun vs => fill (S.map (·.d)) vs a) S l)
    (hT : ∀ vs w', Kept [] w0 w' → allGiven vs w' S → wpList P l.toArray Q (l.drop S.length) (fill (S.map (·.d)) vs a) w') :
    ∀ (k : Nat) (done : Array Bool) (vs : Nat → Value) (w' : World), Closed .any l.toArray done → done.size = l.length → (∀ t, S.length ≤ t → done.getD t false = false) → Kept [] w0 w' →
      (∀ (i : Nat) s, S[i]? = some s → done.getD i false = true → s.sp.p (vs s.d) w') → cntU done S.length = k → wpAny P .any l.toArray Q (k + (l.length - S.length)) done (fill (S.map (·.d)) vs a) w' := by
  simp only [checkD, Bool.and_eq_true, decide_eq_true_eq, List.all_eq_true] at hB
  obtain ⟨⟨⟨⟨⟨⟨⟨b1, b2⟩, b3⟩, b4⟩, b5⟩, b6⟩, b7⟩, b8⟩ := hB
  intro k
  induction k with
  | zero =>
    intro done vs w' hc hs ht hk hp h0
    have hd : done = canon S.length l.length := by
      apply Array.ext
      · simp [canon, hs]
      · intro i h1 h2
        have e1 : done.getD i true = done[i] := by simp [Array.getD, h1]
        have e2 : done.getD i false = done[i] := by simp [Array.getD, h1]
        by_cases c : i < S.length
        · rw [← e1, cntU_zero h0 i c]
          simp [canon, c]
        · rw [← e2, ht i (by omega)]
          simp [canon, c]
    subst hd
    have h1 := hT vs w' hk (allGiven_of fun i s hi => hp i s hi (by
      have hil := (List.getElem?_eq_some_iff.1 hi).1
      have hil2 : i < l.length := by omega
      simp [canon, Array.getD, hil, hil2]))
    rw [← pick_drop l (l.length - S.length) S.length (by omega)] at h1
    have := wpAny_of_seqL (P := P) (md := .any) (ops := l.toArray) (Q := Q) (l := l) rfl (List.range' S.length (l.length - S.length)) (canon S.length l.length) _ w' (fun i hi => by
      have := List.mem_range'.1 hi
      omega) b8 h1
    rw [List.length_range'] at this
    rw [Nat.zero_add]
    exact this
  | succ k ih =>
    intro done vs w' hc hs ht hk hp h0
    obtain ⟨m, hm1, hm2, hm3⟩ := cntU_some (done := done) (m := S.length) (by omega)
    have hml : m < l.length := by omega
    have hmr : m ∈ Region.ready .any l.toArray done := by
      refine mem_ready.2 ⟨hm2, l[m], by simp [hml], fun e he hb => ?_⟩
      have := edgesP_at b7 (i := m) (o := l[m]) (by rw [List.getElem?_take_of_lt hm1]; simp [hml]) e he hb
      have h3 := hm3 e.on (by omega)
      have hlt : e.on < done.size := by omega
      simpa [Array.getD, hlt] using h3
    rw [show k + 1 + (l.length - S.length) = (k + (l.length - S.length)) + 1 by omega]
    refine ⟨fun h => by rw [h] at hmr; simp at hmr, fun i hi => ?_⟩
    have hin : i < S.length := by
      rcases Nat.lt_or_ge i S.length with h | h
      · exact h
      · exact absurd hi (heldD_spec (b6 m (List.mem_range.2 hm1)) hc hm2 i (by simp [h]))
    obtain ⟨s, hsi⟩ : ∃ s, S[i]? = some s := ⟨_, List.getElem?_eq_getElem hin⟩
    obtain ⟨o, ho, hod⟩ := dstsP_at b2 hsi
    have ho2 : l.toArray[i]? = some o := by simpa using ho
    obtain ⟨hun, o', ho', hall⟩ := mem_ready.1 hi
    obtain rfl : o' = o := Option.some.inj (ho'.symm.trans ho2)
    have hgv : given S vs w' s.deps := given_of fun d hd => by
      obtain ⟨e, he, hb, t, ht1, ht2⟩ := depsP_at b5 hsi ho d hd
      have h1 := hp _ t ht1 (hall e he hb)
      rw [← ht2, look_at b4 ht1]
      exact h1
    have hone := obls_at hO hsi ho vs w' hk hgv
    have h2 := wpOp_of_one (P := P) (ops := l.toArray) (Q := Q) ho2 (fun a' w'' h => h.2.1) hone
    refine wpOp_mono ?_ h2
    rintro a' w'' ⟨⟨hk2, _, hps⟩, v, hv⟩
    have hdm : s.d ∈ S.map (·.d) := List.mem_map.2 ⟨s, List.mem_of_getElem? hsi, rfl⟩
    have hdl : s.d < a.tmps.size := by
      have := b3 s (List.mem_of_getElem? hsi)
      simpa using this
    rw [hod, fill_put hdm] at hv
    subst hv
    rw [fill_slot hdm hdl] at hps
    have hil : i < done.size := by omega
    refine ih (done.setIfInBounds i true) (updV vs s.d v) w'' (hc.set hi) (by simpa using hs) (fun t htn => ?_) (hk.trans hk2) (fun j t htj hdj => ?_) ?_
    · have := ht t htn
      have hne : i ≠ t := by omega
      rw [getD_set_ne false hne]
      exact this
    · by_cases e : j = i
      · subst e
        rw [hsi] at htj
        cases htj
        exact hps
      · have hne : t.d ≠ s.d := fun h => e (nodup_at b4 htj hsi h)
        have hdj2 : done.getD j false = true := by rwa [getD_set_ne false (fun h => e h.symm)] at hdj
        have h1 := hp j t htj hdj2
        have h3 : updV vs s.d v t.d = vs t.d := by simp [updV, hne]
        rw [h3]
        exact t.sp.st _ _ _ h1 hk2
    · have := cntU_set hun (m := S.length) hin
      omega

/-- Whatever order: one proof an operation, then the tail. -/
theorem wp_region_deep {id : Nat} {a : Act} {w : World} {l : List Oper} (S : List PSp) (hm : P.follows .mixedOrders = true) (hB : checkD l S a.tmps.size = true)
    (h : ∃ A : (Nat → Value) → Act, (∀ vs, puts vs (S.map (·.d)) a = A vs) ∧ obls P l.toArray Q w S A S l ∧
      ∀ vs w', Kept [] w w' → allGiven vs w' S → wpList P l.toArray Q (l.drop S.length) (A vs) w') :
    (Code.region id l.toArray true).wp P Q a w := by
  obtain ⟨A, hA, h1, h2⟩ := h
  have hA2 : A = fun vs => fill (S.map (·.d)) vs a := by
    funext vs
    rw [fill_puts]
    exact (hA vs).symm
  subst hA2
  have hsz : l.toArray.size = l.length := by simp
  refine wp_region_any hm ?_
  have hle : S.length ≤ l.length := by
    simp only [checkD, Bool.and_eq_true, decide_eq_true_eq] at hB
    exact hB.1.1.1.1.1.1.1
  have hcnt : ∀ m, m ≤ l.length → cntU (Array.replicate l.length false) m = m := by
    intro m
    induction m with
    | zero => intro _; rfl
    | succ m ih =>
      intro hml
      have : (Array.replicate l.length false).getD m true = false := by simp [Array.getD, show m < l.length by omega]
      simp only [cntU, ih (by omega), this]
      simp
  have key := AnyRD (P := P) (Q := Q) (w0 := w) (a := a) hB h1 h2 S.length (Array.replicate l.length false) (fun s => a.tmps.getD s undef) { w with drawn := w.drawn + 1 }
    (by simpa using Closed.none (md := .any) (ops := l.toArray)) (by simp) (fun t _ => by simp [Array.getD]) ⟨rfl, rfl, rfl, Nat.le_refl _, fun _ _ _ => rfl⟩ (fun i s _ hd => by simp [Array.getD] at hd) (hcnt _ hle)
  rw [fill_self] at key
  rw [show S.length + (l.length - S.length) = l.length by omega] at key
  rw [hsz]
  exact key
end
end Go.Proofs.YtgdjhhfbpalkdaaGreat
