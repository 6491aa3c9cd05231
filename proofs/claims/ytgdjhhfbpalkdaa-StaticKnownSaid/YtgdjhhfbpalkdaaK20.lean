/- Regions as in K18, of which one head that only moves a value may come behind the tail's first. -/
import Derived.Test.YtgdjhhfbpalkdaaK18
namespace Go.Proofs.Ytgdjhhfbpalkdaa
open Go.RowKit
section
variable {P : Program} {md : Region.Mode} {ops : Array Oper} {Q : Exit → Act → World → Prop} {w0 : World}
theorem floaty_yields {o : Oper} {a : Act} {w : World} {K : Act → World → Prop} (hf : Floaty o = true) (h : wpList P ops (OnlyK K Q) [o] a w) : ∃ v, Yields P ops o v a ∧ K (a.put o.dst v) w := by
  simp only [wpList] at h
  split at h
  · rename_i hw
    unfold Floaty at hf
    split at hf
    · rename_i x hx
      have e : execOp a.eval o = pure (.value (a.eval x)) := by unfold execOp; rw [hx]
      rcases h with h | ⟨h, _⟩
      · unfold Oper.wp at h
        rw [e] at h
        exact ⟨a.eval x, .inl ⟨hw, fun w => by rw [e]; rfl⟩, h⟩
      · unfold Oper.asks at h
        rw [e] at h
        exact absurd h.1 (fun h2 => by
          have h3 : noRoomEvent ∈ (#[] : Array Event) := h2
          simp at h3)
    · rename_i x j hx
      have e : execOp a.eval o = (do return .value (← Instr.extract (a.eval x) j)) := by unfold execOp; rw [hx]
      rcases h with h | ⟨h, _⟩
      · unfold Oper.wp at h
        rw [e] at h
        simp only [Sem.run_bind] at h
        unfold Instr.extract at h
        cases hx2 : a.eval x <;> simp only [hx2] at h
        case tuple vs =>
          cases hq : vs[j]? with
          | none => simp [hq, stuck, Oper.upon] at h
          | some u =>
            simp [hq, Oper.upon] at h
            refine ⟨u, .inl ⟨hw, fun w => ?_⟩, h⟩
            rw [e, hx2]
            simp [Instr.extract, hq]
        all_goals simp [stuck, Oper.upon] at h
      · unfold Oper.asks at h
        rw [e] at h
        exfalso
        have h1 := h.1
        unfold Instr.extract at h1
        cases hx2 : a.eval x <;> simp only [hx2] at h1
        case tuple vs =>
          cases hq : vs[j]? with
          | none =>
            simp only [hq] at h1
            have h3 : noRoomEvent ∈ (#[] : Array Event) := h1
            simp at h3
          | some u =>
            simp only [hq] at h1
            have h3 : noRoomEvent ∈ (#[] : Array Event) := h1
            simp at h3
        all_goals
          have h3 : noRoomEvent ∈ (#[] : Array Event) := h1
          simp at h3
    · cases hf
  · rename_i hw
    exact ⟨undef, .inr ⟨by simpa using hw, rfl⟩, h⟩
def canonL (n m t : Nat) : Array Bool := ((List.range t).map fun i => decide (i < n) && !decide (i = m)).toArray
def checkL (l : List Oper) (S : List PSp) (m size : Nat) : Bool :=
  decide (S.length < l.length) && decide (m < S.length) && dstsP S l && (S.all fun s => decide (s.d < size)) && nodupB (S.map (·.d)) && depsP .any S S l &&
  ((List.range S.length).all fun i => decide (i = m) || heldBy .any l.toArray (List.range S.length) i) && edgesP .any 0 (l.take S.length) &&
  seqL .any l.toArray (List.range' S.length (l.length - S.length)) (canon S.length l.length) &&
  (Region.noSelect l.toArray && Region.free .any l.toArray (canonL S.length m l.length) m && ((l[m]?).map Floaty).getD false)
theorem cntU_all {done : Array Bool} : ∀ {m : Nat}, (∀ i, i < m → done.getD i true = true) → cntU done m = 0
  | 0, _ => rfl
  | m + 1, h => by simp [cntU, cntU_all (fun i hi => h i (Nat.lt_succ_of_lt hi)), h m (Nat.lt_succ_self m)]
theorem AnyRL (hQ : ∀ (d : Tmp) v c a w, Q (.panic c) (a.put (some d) v) w → Q (.panic c) a w) {l : List Oper} {S : List PSp} {m : Nat} {a : Act} (hB : checkL l S m a.tmps.size = true)
    (hO : obls P l.toArray Q w0 S (fun vs => fill (S.map (·.d)) vs a) S l)
    (hT : ∀ vs w', Kept [] w0 w' → allGiven vs w' S → wpList P l.toArray Q (l.drop S.length) (fill (S.map (·.d)) vs a) w') :
    ∀ (k : Nat) (done : Array Bool) (vs : Nat → Value) (w' : World), Closed .any l.toArray done → done.size = l.length → (∀ t, S.length ≤ t → done.getD t false = false) → Kept [] w0 w' →
      (∀ (i : Nat) s, S[i]? = some s → done.getD i false = true → s.sp.p (vs s.d) w') → cntU done S.length = k → wpAny P .any l.toArray Q (k + (l.length - S.length)) done (fill (S.map (·.d)) vs a) w' := by
  simp only [checkL, Bool.and_eq_true, decide_eq_true_eq, List.all_eq_true, Bool.or_eq_true] at hB
  obtain ⟨⟨⟨⟨⟨⟨⟨⟨⟨b1, bm⟩, b2⟩, b3⟩, b4⟩, b5⟩, b6⟩, b7⟩, b8⟩, ⟨⟨b9, b10⟩, b11⟩⟩ := hB
  intro k
  induction k with
  | zero =>
    intro done vs w' hc hs ht hk hp h0
    have hd : done = canon S.length l.length := by
      apply Array.ext
      · simp [canon, hs]
      · intro i h1 h2
        have e1 : done.getD i true = done[i] := by simp [Array.getD, h1]
        have e2 : done.getD i false = done[i] := by simp [Array.getD, h1]
        by_cases c : i < S.length
        · rw [← e1, cntU_zero h0 i c]
          simp [canon, c]
        · rw [← e2, ht i (by omega)]
          simp [canon, c]
    subst hd
    have h1 := hT vs w' hk (allGiven_of fun i s hi => hp i s hi (by
      have hil := (List.getElem?_eq_some_iff.1 hi).1
      have hil2 : i < l.length := by omega
      simp [canon, Array.getD, hil, hil2]))
    rw [← pick_drop l (l.length - S.length) S.length (by omega)] at h1
    have := wpAny_of_seqL (P := P) (md := .any) (ops := l.toArray) (Q := Q) (l := l) rfl (List.range' S.length (l.length - S.length)) (canon S.length l.length) _ w' (fun i hi => by
      have := List.mem_range'.1 hi
      omega) b8 h1
    rw [List.length_range'] at this
    rw [Nat.zero_add]
    exact this
  | succ k ih =>
    intro done vs w' hc hs ht hk hp h0
    obtain ⟨q, hq1, hq2, hq3⟩ := cntU_some (done := done) (m := S.length) (by omega)
    have hql : q < l.length := by omega
    have hqr : q ∈ Region.ready .any l.toArray done := by
      refine mem_ready.2 ⟨hq2, l[q], by simp [hql], fun e he hb => ?_⟩
      have := edgesP_at b7 (i := q) (o := l[q]) (by rw [List.getElem?_take_of_lt hq1]; simp [hql]) e he hb
      have h3 := hq3 e.on (by omega)
      have hlt : e.on < done.size := by omega
      simpa [Array.getD, hlt] using h3
    rw [show k + 1 + (l.length - S.length) = (k + (l.length - S.length)) + 1 by omega]
    by_cases hcan : done = canonL S.length m l.length
    · have hm0 : done.getD m true = false := by
        rw [hcan]
        simp [canonL, Array.getD, show m < l.length by omega]
      have hqm : q = m := by
        apply Classical.byContradiction
        intro hne
        rw [hcan] at hq2
        simp [canonL, Array.getD, hql, hq1, hne] at hq2
      subst hqm
      have hk0 : k = 0 := by
        have h1 := cntU_set hm0 bm
        have h2 : cntU (done.setIfInBounds q true) S.length = 0 := cntU_all fun j hj => by
          by_cases e : q = j
          · subst e
            simp [Array.getD, hs, hql]
          · rw [getD_set_ne true e, hcan]
            have : ¬ j = q := fun h => e h.symm
            simp [canonL, Array.getD, show j < l.length by omega, hj, this]
        omega
      subst hk0
      obtain ⟨s, hsi⟩ : ∃ s, S[q]? = some s := ⟨_, List.getElem?_eq_getElem bm⟩
      obtain ⟨o, ho, hod⟩ := dstsP_at b2 hsi
      have ho2 : l.toArray[q]? = some o := by simpa using ho
      obtain ⟨hun, o', ho', hall⟩ := mem_ready.1 hqr
      obtain rfl : o' = o := Option.some.inj (ho'.symm.trans ho2)
      have hgv : given S vs w' s.deps := given_of fun d hd => by
        obtain ⟨e, he, hb, t, ht1, ht2⟩ := depsP_at b5 hsi ho d hd
        have h1 := hp _ t ht1 (hall e he hb)
        rw [← ht2, look_at b4 ht1]
        exact h1
      have hone := obls_at hO hsi ho vs w' hk hgv
      have hfl : Floaty o' = true := by rw [ho] at b11; simpa using b11
      obtain ⟨v, hy, hk2, _, hps⟩ := floaty_yields hfl hone
      have hdm : s.d ∈ S.map (·.d) := List.mem_map.2 ⟨s, List.mem_of_getElem? hsi, rfl⟩
      have hdl : s.d < a.tmps.size := by
        have := b3 s (List.mem_of_getElem? hsi)
        simpa using this
      rw [hod, fill_put hdm] at hps
      rw [fill_slot hdm hdl] at hps
      rw [hcan] at hqr
      have b10' := Region.free_spec ho2 b10
      have hst : (canonL S.length q l.length).setIfInBounds q true = canon S.length l.length := by
        apply Array.ext
        · simp [canonL, canon]
        · intro t h1 h2
          by_cases e : q = t
          · subst e
            simp [canon, hq1]
          · have e2 : ¬ t = q := fun h => e h.symm
            rw [Array.getElem_setIfInBounds (by simpa using h1), if_neg e]
            simp [canon, canonL, e2]
      subst hcan
      rw [Nat.zero_add]
      refine wpAny_first (P := P) (md := .any) (ops := l.toArray) (Q := Q) ho2 (Region.noSelect_spec b9) (fun c a w h => (by rw [hod] at h; exact hQ _ _ _ _ _ h)) _ _ _ _ (fun j oj hj hne hu hno => b10' j oj hj hne hu hno) hqr hy ?_
      rw [hst, hod, fill_put hdm]
      have h1 := hT (updV vs s.d v) w' hk (allGiven_of fun j t htj => by
        by_cases e : j = q
        · subst e
          rw [hsi] at htj
          cases htj
          exact hps
        · have hne : t.d ≠ s.d := fun h => e (nodup_at b4 htj hsi h)
          have hjl := (List.getElem?_eq_some_iff.1 htj).1
          have h1 := hp j t htj (by simp [canonL, Array.getD, show j < l.length by omega, hjl, e])
          have h3 : updV vs s.d v t.d = vs t.d := by simp [updV, hne]
          rw [h3]
          exact h1)
      rw [← pick_drop l (l.length - S.length) S.length (by omega)] at h1
      have := wpAny_of_seqL (P := P) (md := .any) (ops := l.toArray) (Q := Q) (l := l) rfl (List.range' S.length (l.length - S.length)) (canon S.length l.length) _ w' (fun i hi => by
        have := List.mem_range'.1 hi
        omega) b8 h1
      rw [List.length_range'] at this
      exact this
    refine ⟨fun h => by rw [h] at hqr; simp at hqr, fun i hi => ?_⟩
    have hin : i < S.length := by
      have hex : ∃ j, j < S.length ∧ j ≠ m ∧ done.getD j true = false := by
        apply Classical.byContradiction
        intro hno
        apply hcan
        have hall : ∀ j, j < S.length → j ≠ m → done.getD j true = true := fun j h1 h2 => by
          cases hd : done.getD j true with
          | true => rfl
          | false => exact absurd ⟨j, h1, h2, hd⟩ hno
        have hqm : q = m := by
          apply Classical.byContradiction
          intro hne
          exact absurd (hall q hq1 hne) (by rw [hq2]; decide)
        subst hqm
        apply Array.ext
        · simp [canonL, hs]
        · intro t h1 h2
          have e1 : done.getD t true = done[t] := by simp [Array.getD, h1]
          have e2 : done.getD t false = done[t] := by simp [Array.getD, h1]
          by_cases c : t < S.length
          · by_cases c2 : t = q
            · subst c2
              rw [← e1, hq2]
              simp [canonL]
            · rw [← e1, hall t c c2]
              simp [canonL, c, c2]
          · rw [← e2, ht t (by omega)]
            simp [canonL, c]

      obtain ⟨j, hj1, hj2, hj3⟩ := hex
      rcases Nat.lt_or_ge i S.length with h | h
      · exact h
      · rcases b6 j (List.mem_range.2 hj1) with hb | hb
        · exact absurd hb hj2
        · exact absurd hi (heldBy_spec hb hc hj3 i (by simp [h]))
    obtain ⟨s, hsi⟩ : ∃ s, S[i]? = some s := ⟨_, List.getElem?_eq_getElem hin⟩
    obtain ⟨o, ho, hod⟩ := dstsP_at b2 hsi
    have ho2 : l.toArray[i]? = some o := by simpa using ho
    obtain ⟨hun, o', ho', hall⟩ := mem_ready.1 hi
    obtain rfl : o' = o := Option.some.inj (ho'.symm.trans ho2)
    have hgv : given S vs w' s.deps := given_of fun d hd => by
      obtain ⟨e, he, hb, t, ht1, ht2⟩ := depsP_at b5 hsi ho d hd
      have h1 := hp _ t ht1 (hall e he hb)
      rw [← ht2, look_at b4 ht1]
      exact h1
    have hone := obls_at hO hsi ho vs w' hk hgv
    have h2 := wpOp_of_one (P := P) (ops := l.toArray) (Q := Q) ho2 (fun a' w'' h => h.2.1) hone
    refine wpOp_mono ?_ h2
    rintro a' w'' ⟨⟨hk2, _, hps⟩, v, hv⟩
    have hdm : s.d ∈ S.map (·.d) := List.mem_map.2 ⟨s, List.mem_of_getElem? hsi, rfl⟩
    have hdl : s.d < a.tmps.size := by
      have := b3 s (List.mem_of_getElem? hsi)
      simpa using this
    rw [hod, fill_put hdm] at hv
    subst hv
    rw [fill_slot hdm hdl] at hps
    have hil : i < done.size := by omega
    refine ih (done.setIfInBounds i true) (updV vs s.d v) w'' (hc.set hi) (by simpa using hs) (fun t htn => ?_) (hk.trans hk2) (fun j t htj hdj => ?_) ?_
    · have := ht t htn
      have hne : i ≠ t := by omega
      rw [getD_set_ne false hne]
      exact this
    · by_cases e : j = i
      · subst e
        rw [hsi] at htj
        cases htj
        exact hps
      · have hne : t.d ≠ s.d := fun h => e (nodup_at b4 htj hsi h)
        have hdj2 : done.getD j false = true := by rwa [getD_set_ne false (fun h => e h.symm)] at hdj
        have h1 := hp j t htj hdj2
        have h3 : updV vs s.d v t.d = vs t.d := by simp [updV, hne]
        rw [h3]
        exact t.sp.st _ _ _ h1 hk2
    · have := cntU_set hun (m := S.length) hin
      omega
/-- Whatever order: one proof an operation, then the tail; one head may come behind the tail's first. -/
theorem wp_region_late {id : Nat} {a : Act} {w : World} {l : List Oper} (S : List PSp) (m : Nat) (hm : P.follows .mixedOrders = true) (hB : checkL l S m a.tmps.size = true) (hQ : ∀ (d : Tmp) v c a w, Q (.panic c) (a.put (some d) v) w → Q (.panic c) a w)
    (h : ∃ A : (Nat → Value) → Act, (∀ vs, puts vs (S.map (·.d)) a = A vs) ∧ obls P l.toArray Q w S A S l ∧
      ∀ vs w', Kept [] w w' → allGiven vs w' S → wpList P l.toArray Q (l.drop S.length) (A vs) w') :
    (Code.region id l.toArray true).wp P Q a w := by
  obtain ⟨A, hA, h1, h2⟩ := h
  have hA2 : A = fun vs => fill (S.map (·.d)) vs a := by
    funext vs
    rw [fill_puts]
    exact (hA vs).symm
  subst hA2
  have hsz : l.toArray.size = l.length := by simp
  refine wp_region_any hm ?_
  have hle : S.length ≤ l.length := by
    simp only [checkL, Bool.and_eq_true, decide_eq_true_eq] at hB
    exact Nat.le_of_lt hB.1.1.1.1.1.1.1.1.1
  have hcnt : ∀ m, m ≤ l.length → cntU (Array.replicate l.length false) m = m := by
    intro m
    induction m with
    | zero => intro _; rfl
    | succ m ih =>
      intro hml
      have : (Array.replicate l.length false).getD m true = false := by simp [Array.getD, show m < l.length by omega]
      simp only [cntU, ih (by omega), this]
      simp
  have key := AnyRL (P := P) (Q := Q) (w0 := w) (a := a) hQ hB h1 h2 S.length (Array.replicate l.length false) (fun s => a.tmps.getD s undef) { w with drawn := w.drawn + 1 }
    (by simpa using Closed.none (md := .any) (ops := l.toArray)) (by simp) (fun t _ => by simp [Array.getD]) ⟨rfl, rfl, rfl, Nat.le_refl _, fun _ _ _ => rfl⟩ (fun i s _ hd => by simp [Array.getD] at hd) (hcnt _ hle)
  rw [fill_self] at key
  rw [show S.length + (l.length - S.length) = l.length by omega] at key
  rw [hsz]
  exact key
end
end Go.Proofs.Ytgdjhhfbpalkdaa
