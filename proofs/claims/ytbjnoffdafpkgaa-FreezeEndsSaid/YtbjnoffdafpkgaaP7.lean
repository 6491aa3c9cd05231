/- The whole run. -/
import Derived.Test.YtbjnoffdafpkgaaP6
namespace Go.Proofs.Ytbjnoffdafpkgaa

theorem conAt_mem {l : List (Int × Int × Bool)} (hn : (l.map (·.1)).Nodup) {c : Int × Int × Bool} (hc : c ∈ l) : conAt l c.1 = some c.2 := by
  induction l with
  | nil => simp at hc
  | cons d l ih =>
    rw [List.map_cons, List.nodup_cons] at hn
    unfold conAt
    rw [List.find?_cons]
    rcases List.mem_cons.1 hc with rfl | hc
    · simp
    · have hne : (d.1 == c.1) = false := by
        cases hq : (d.1 == c.1)
        · rfl
        · have e : d.1 = c.1 := by simpa using hq
          exact absurd (List.mem_map.2 ⟨c, hc, rfl⟩) (e ▸ hn.1)
      rw [hne]
      exact ih hn.2 hc
theorem mem_conAt {l : List (Int × Int × Bool)} {x : Int} {d : Int × Bool} (h : conAt l x = some d) : (x, d) ∈ l := by
  unfold conAt at h
  rw [Option.map_eq_some_iff] at h
  obtain ⟨c, hc, rfl⟩ := h
  have h1 := List.mem_of_find?_eq_some hc
  have h2 := List.find?_some hc
  have h3 : c.1 = x := by simpa using h2
  rw [← h3]
  exact h1

theorem step_end {t : Tab} {s : PS} {r : RS} {x : EvV} {q : Bool × PS} (h : Sim t s r) (hn : t.types.length ≤ 1000) (hq : (EndNo s x ∧ q = (false, s)) ∨ ∃ l, EndYes s x l ∧ q = endF t s l) :
    Steps t q.2 q.1 r (endsR t r (x.kind == 9)) := by
  rcases hq with ⟨hno, rfl⟩ | ⟨l, hyes, rfl⟩
  · have hr : endsR t r (x.kind == 9) = (r, false) := by
      unfold endsR
      rcases hno with ⟨y, hy, hd, hc⟩ | ⟨hk, y, c, hy, hc, hf⟩
      · have h1 : r.dec.contains y = true := by
          rw [h.dec y hy] at hd
          cases hq : r.dec.contains y
          · rw [hq] at hd; simp at hd
          · rfl
        have h2 : r.com.contains y = false := by rw [← h.com y hy]; exact hc
        rw [if_pos (List.any_eq_true.2 ⟨y, has_iff.1 h1, by rw [h2]; rfl⟩)]
      · split
        · rfl
        · rw [h.con y hy] at hc
          have hm := mem_conAt hc
          rw [if_pos (List.any_eq_true.2 ⟨_, hm, by rw [hk, hf]; rfl⟩)]
    rw [hr]
    exact ⟨rfl, (fun h => by cases h), fun _ => h.frz⟩
  · obtain ⟨h1, h2, h3⟩ := hyes
    have hmem : ∀ y, y ∈ l ↔ y ∈ r.dec := by
      intro y
      constructor
      · intro hy
        have hd := (h1 y hy).2.1
        rw [h.dec y (h1 y hy).1] at hd
        cases hq : r.dec.contains y
        · rw [hq] at hd; simp at hd
        · exact has_iff.1 hq
      · intro hy
        have hw := wf_ex hn (h.exD y hy)
        exact h2 y hw (by rw [h.dec y hw, if_pos (has_iff.2 hy)]; rfl)
    have hcom : ∀ y, y ∈ r.dec → r.com.contains y = true := fun y hy => by
      have hm := (hmem y).2 hy
      rw [← h.com y (h1 y hm).1]
      exact (h1 y hm).2.2
    have hfine : ∀ ls, FineR t r ls := fun ls y z _ _ => by
      cases hq : r.dec.contains z
      · rfl
      · rw [hcom z (has_iff.1 hq)]; rfl
    have hex : ∀ y, y ∈ l → exI t.types.length y = true := fun y hy => h.exD y ((hmem y).1 hy)
    have hr : endsR t r (x.kind == 9) = (r.dec.foldl (fun s x => (freezeR t s x).1) r, true) := by
      unfold endsR
      rw [if_neg, if_neg]
      · intro hany
        obtain ⟨c, hc, hb⟩ := List.any_eq_true.1 hany
        simp only [Bool.and_eq_true, Bool.not_eq_true'] at hb
        have := h3 hb.1 c.1 c.2 (h.conE c hc).1 (by rw [h.con c.1 (h.conE c hc).1]; exact conAt_mem h.conN hc)
        rw [hb.2] at this
        cases this
      · intro hany
        obtain ⟨y, hy, hb⟩ := List.any_eq_true.1 hany
        rw [hcom y hy] at hb
        cases hb
    rw [hr]
    have hfa := freezeAll r.dec r h.exD (hfine _) h.ascF
    have hm2 := (fine_iff hn h hex).2 (hfine l)
    refine ⟨?_, fun _ => ?_, fun hb => ?_⟩
    · show true = (meetAll t (okM s.dec s.com) l).2
      exact hm2.symm
    · refine h.freeze hn hex (hfine l) hfa.1 hfa.2.1 hfa.2.2.1 hfa.2.2.2.1 (fun z => ?_)
      rw [hfa.2.2.2.2 z]
      constructor
      · rintro (h | ⟨y, hy, hr⟩)
        · exact .inl h
        · exact .inr ⟨y, (hmem y).2 hy, hr⟩
      · rintro (h | ⟨y, hy, hr⟩)
        · exact .inl h
        · exact .inr ⟨y, (hmem y).1 hy, hr⟩
    · have hb' : (meetAll t (okM s.dec s.com) l).2 = false := hb
      rw [hm2] at hb'
      cases hb'

theorem sim_step {t : Tab} {s : PS} {r : RS} {x : EvV} {q : Bool × PS} (hn : t.types.length ≤ 1000) (h : Sim t s r) (hx : x.wf) (he : existsF t.types.length x = true) (hq : StepR t s x q) : Steps t q.2 q.1 r (nextR t r x) := by
  unfold StepR at hq
  unfold existsF at he
  cases h12 : (x.kind == 1 || x.kind == 2)
  · simp only [h12, Bool.false_eq_true, if_false, Bool.false_or] at hq he
    cases h3 : (x.kind == 3)
    · simp only [h3, Bool.false_eq_true, if_false, Bool.false_or] at hq he
      cases h4 : (x.kind == 4)
      · simp only [h4, Bool.false_eq_true, if_false] at hq he
        cases h5 : (x.kind == 5)
        · simp only [h5, Bool.false_eq_true, if_false] at hq he
          cases h6 : (x.kind == 6)
          · simp only [h6, Bool.false_eq_true, if_false] at hq
            cases h7 : (x.kind == 7)
            · simp only [h7, Bool.false_eq_true, if_false] at hq
              have hnext : nextR t r x = endsR t r (x.kind == 9) := by
                unfold nextR
                rw [h12, if_neg (by simp), h3, if_neg (by simp), h4, if_neg (by simp), h5, if_neg (by simp), h6, if_neg (by simp), h7, if_neg (by simp)]
              rw [hnext]
              exact step_end h hn hq
            · simp only [h7, if_true] at hq
              subst hq
              exact step_use h hx h12 h3 h4 h5 h6 h7
          · simp only [h6, if_true] at hq
            subst hq
            exact step_completed h hn hx h12 h3 h4 h5 h6
        · simp only [h5, if_true, Bool.and_eq_true] at hq he
          subst hq
          exact step_deferred h hx he.1 h12 h3 h4 h5
      · simp only [h4, if_true] at hq he
        subst hq
        have hnext : nextR t r x = freezeR t r x.ty := by
          unfold nextR
          rw [h12, if_neg (by simp), h3, if_neg (by simp), if_pos h4]
        rw [hnext]
        exact step_freeze h hn he
    · simp only [h3, if_true, Bool.true_or] at hq he
      subst hq
      exact step_full h hx he h12 h3
  · simp only [h12, if_true, Bool.true_or] at hq he
    subst hq
    exact step_declare h hx he h12

/-- The reference's run: where it stops, and the state there. -/
def goR (t : Tab) : RS → List EvV → Nat → Option Nat × RS
  | s, [], _ => (none, s)
  | s, x :: l, i => if (nextR t s x).2 then goR t (nextR t s x).1 l (i + 1) else (some i, s)

def checkR (t : Tab) (l : List EvV) : Int × Int :=
  match badAt t.types.length l with
  | some k => (k, 2)
  | none => match (goR t RS.zero l 0).1 with | some k => (k, 110) | none => (0, 0)

def frozenR (t : Tab) (l : List EvV) : List Int :=
  match badAt t.types.length l with
  | some _ => []
  | none => (goR t RS.zero l 0).2.frz

theorem runs_sim {t : Tab} {l : List EvV} (hn : t.types.length ≤ 1000) (hb : badAt t.types.length l = none) (hwf : ∀ x, x ∈ l → x.wf) : ∀ (k : Nat) (s : PS), RunsTo t l k s → ∃ r, Sim t s r ∧ goR t RS.zero l 0 = goR t r (l.drop k) k := by
  intro k
  induction k with
  | zero => intro s hs; cases hs; exact ⟨RS.zero, Sim.zero t, rfl⟩
  | succ k ih =>
    intro s hs
    obtain ⟨s0, x, h0, hx, hst⟩ := hs
    obtain ⟨r, hr, hgo⟩ := ih s0 h0
    have hxm := List.mem_of_getElem? hx
    have hsim := sim_step hn hr (hwf x hxm) (exists_of_bad hb hxm) hst
    refine ⟨(nextR t r x).1, hsim.2.1 rfl, ?_⟩
    rw [hgo]
    obtain ⟨hk, rfl⟩ := List.getElem?_eq_some_iff.1 hx
    rw [List.drop_eq_getElem_cons hk]
    show (if (nextR t r l[k]).2 then _ else _) = _
    rw [hsim.1, if_pos rfl]

theorem frozenL_eq {n : Nat} {frz : Int → Option Bool} {l : List Int} (hn : n ≤ 1000) (ha : Asc l) (hx : ∀ x, x ∈ l → exI n x = true) (h : ∀ x, Wf x → (frz x).getD false = l.contains x) : frozenL frz n = l := by
  have hasc : Asc (frozenL frz n) := by
    unfold frozenL Asc
    refine List.Pairwise.filter _ ?_
    rw [List.pairwise_map]
    refine List.Pairwise.imp ?_ List.pairwise_lt_range
    intro a b hab
    exact Int.ofNat_lt.2 hab
  refine asc_ext hasc ha (fun x => ?_)
  unfold frozenL
  rw [List.mem_filter, List.mem_map]
  constructor
  · rintro ⟨⟨k, hk, rfl⟩, hf⟩
    have hk' := List.mem_range.1 hk
    have hw : Wf (Int.ofNat k) := wf_of_exI hn (by simp [exI]; exact hk')
    rw [h _ hw] at hf
    exact has_iff.1 hf
  · intro hxl
    have he := hx x hxl
    have h0 : 0 ≤ x ∧ x < n := by simpa [exI] using he
    refine ⟨⟨x.toNat, List.mem_range.2 (by omega), by simp; omega⟩, ?_⟩
    rw [h x (wf_of_exI hn he)]
    exact has_iff.2 hxl

/-- How a run ends is how the reference's ends. -/
theorem ends_ref {t : Tab} {l : List EvV} {at' err : Int} {s : PS} (hn : t.types.length ≤ 1000) (hwf : ∀ x, x ∈ l → x.wf) (h : Ends t l at' err s) :
    at' = (checkR t l).1 ∧ err = (checkR t l).2 ∧ (if err == 2 then [] else frozenL s.frz t.types.length) = frozenR t l := by
  rcases h with ⟨k, hb, rfl, rfl⟩ | ⟨hb, hr, rfl, rfl⟩ | ⟨hb, k, s0, x, hx, hr, hst, rfl, rfl⟩
  · unfold checkR frozenR
    rw [hb]
    exact ⟨rfl, rfl, rfl⟩
  · obtain ⟨r, hsim, hgo⟩ := runs_sim hn hb hwf l.length s hr
    rw [List.drop_length] at hgo
    unfold checkR frozenR
    rw [hb]
    simp only [hgo, goR]
    refine ⟨trivial, trivial, ?_⟩
    exact frozenL_eq hn hsim.ascF hsim.exF hsim.frz
  · obtain ⟨r, hsim, hgo⟩ := runs_sim hn hb hwf k s0 hr
    have hxm := List.mem_of_getElem? hx
    have hstep := sim_step hn hsim (hwf x hxm) (exists_of_bad hb hxm) hst
    obtain ⟨hk, rfl⟩ := List.getElem?_eq_some_iff.1 hx
    rw [List.drop_eq_getElem_cons hk] at hgo
    have hgo2 : goR t r (l[k] :: l.drop (k + 1)) k = (some k, r) := by
      show (if (nextR t r l[k]).2 then _ else _) = _
      rw [hstep.1, if_neg (by simp)]
    rw [hgo2] at hgo
    unfold checkR frozenR
    rw [hb]
    simp only [hgo]
    refine ⟨trivial, trivial, ?_⟩
    exact frozenL_eq hn hsim.ascF hsim.exF (hstep.2.2 rfl)
#print axioms ends_ref
end Go.Proofs.Ytbjnoffdafpkgaa
