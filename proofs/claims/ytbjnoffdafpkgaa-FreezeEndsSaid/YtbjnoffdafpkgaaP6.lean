/- Each event: constants and ends. -/
import Derived.Test.YtbjnoffdafpkgaaP5
namespace Go.Proofs.Ytbjnoffdafpkgaa

theorem conAt_snoc (l : List (Int × Int × Bool)) (c : Int × Int × Bool) (x : Int) : conAt (l ++ [c]) x = match conAt l x with | some y => some y | none => if c.1 == x then some c.2 else none := by
  unfold conAt
  rw [List.find?_append]
  cases l.find? (fun c => c.1 == x) with
  | some y => rfl
  | none =>
    simp only [Option.none_or, Option.map_none, List.find?_cons, List.find?_nil]
    cases (c.1 == x) <;> rfl

theorem conAt_done : ∀ (l : List (Int × Int × Bool)) (n : Int) (i : Nat) (x : Int), l.findIdx? (fun c => c.1 == n) = some i → conAt (doneAt l i) x = if x = n then some (((l[i]?).getD (0, 0, false)).2.1, true) else conAt l x := by
  intro l
  induction l with
  | nil => intro n i x h; simp at h
  | cons c l ih =>
    intro n i x h
    rw [List.findIdx?_cons] at h
    cases hc : (c.1 == n)
    · rw [hc] at h
      simp only [Bool.false_eq_true, if_false, Option.map_eq_some_iff] at h
      obtain ⟨j, hj, rfl⟩ := h
      have hcn : c.1 ≠ n := by simpa using hc
      have e1 : doneAt (c :: l) (j + 1) = c :: doneAt l j := by simp [doneAt]
      rw [e1]
      have := ih n j x hj
      unfold conAt at this ⊢
      rw [List.find?_cons, List.find?_cons]
      cases hcx : (c.1 == x)
      · simp only []
        rw [this]
        simp
      · have hcx' : c.1 = x := by simpa using hcx
        simp only [Option.map_some]
        rw [if_neg (fun e => hcn (hcx'.trans e))]
    · rw [hc] at h
      simp only [if_true, Option.some.injEq] at h
      subst h
      have hcn : c.1 = n := by simpa using hc
      have e1 : doneAt (c :: l) 0 = (c.1, c.2.1, true) :: l := by simp [doneAt]
      rw [e1]
      unfold conAt
      rw [List.find?_cons, List.find?_cons]
      by_cases hx : x = n
      · subst hx
        simp [hcn]
      · have : (c.1 == x) = false := by rw [hcn]; simpa using fun e => hx e.symm
        simp [this, hx]

theorem doneAt_keys (l : List (Int × Int × Bool)) (i : Nat) : (doneAt l i).map (·.1) = l.map (·.1) := by
  unfold doneAt
  apply List.ext_getElem?
  intro j
  simp only [List.getElem?_map, List.getElem?_modify]
  cases l[j]? with
  | none => rfl
  | some c => by_cases h : i = j <;> simp [h]
theorem doneAt_mem {l : List (Int × Int × Bool)} {i : Nat} {c : Int × Int × Bool} (h : c ∈ doneAt l i) : ∃ d, d ∈ l ∧ d.1 = c.1 ∧ d.2.1 = c.2.1 := by
  unfold doneAt at h
  obtain ⟨j, hj⟩ := List.mem_iff_getElem?.1 h
  rw [List.getElem?_modify] at hj
  cases hl : l[j]? with
  | none => rw [hl] at hj; simp at hj
  | some d =>
    rw [hl] at hj
    refine ⟨d, List.mem_of_getElem? hl, ?_⟩
    by_cases hij : i = j
    · simp [hij] at hj; rw [← hj]; exact ⟨rfl, rfl⟩
    · simp [hij] at hj; rw [hj]; exact ⟨rfl, rfl⟩

theorem find_none {r : RS} {n : Int} (h : r.find n = none) : conAt r.con n = none := by
  unfold RS.find at h
  rw [conAt_find, h]
theorem find_some {r : RS} {n : Int} {i : Nat} (h : r.find n = some i) : conAt r.con n = some (((r.con[i]?).getD (0, 0, false)).2) := by
  unfold RS.find at h
  rw [conAt_find, h]
theorem find_get {r : RS} {n : Int} {i : Nat} (h : r.find n = some i) : ∃ c, r.con[i]? = some c ∧ c.1 = n ∧ c ∈ r.con := by
  unfold RS.find at h
  obtain ⟨hi, hp, _⟩ := List.findIdx?_eq_some_iff_getElem.1 h
  exact ⟨r.con[i], List.getElem?_eq_getElem hi, by simpa using hp, List.getElem_mem hi⟩

theorem step_deferred {t : Tab} {s : PS} {r : RS} {x : EvV} (h : Sim t s r) (hx : x.wf) (hty : exI t.types.length x.ty = true) (h12 : (x.kind == 1 || x.kind == 2) = false) (h3 : (x.kind == 3) = false) (h4 : (x.kind == 4) = false) (hk : (x.kind == 5) = true) :
    Steps t (deferredF s x).2 (deferredF s x).1 r (nextR t r x) := by
  have hnext : nextR t r x = match r.find x.num with | some _ => (r, false) | none => ({ r with con := r.con ++ [(x.num, x.ty, false)] }, true) := by
    unfold nextR; rw [h12, if_neg (by simp), h3, if_neg (by simp), h4, if_neg (by simp), if_pos hk]; cases r.find x.num <;> rfl
  have hc := h.con x.num hx.2
  rw [hnext]
  unfold deferredF
  cases hf : r.find x.num with
  | some i =>
    rw [hc, find_some hf]
    exact ⟨rfl, (fun h => by cases h), fun _ => h.frz⟩
  | none =>
    rw [hc, find_none hf]
    refine ⟨rfl, fun _ => ?_, fun h => by cases h⟩
    exact { h with
            con := fun y hy => by
              show updM s.con x.num (x.ty, false) y = conAt (r.con ++ [(x.num, x.ty, false)]) y
              rw [conAt_snoc]
              unfold updM
              by_cases e : y = x.num
              · subst e
                rw [find_none hf]
                simp
              · rw [if_neg e, h.con y hy]
                have : (x.num == y) = false := by simpa using fun e' => e e'.symm
                cases conAt r.con y <;> simp [this]
            conE := fun c hc => by
              rcases List.mem_append.1 hc with hc | hc
              · exact h.conE c hc
              · simp at hc; subst hc; exact ⟨hx.2, hty⟩
            conN := by
              show ((r.con ++ [(x.num, x.ty, false)]).map (·.1)).Nodup
              rw [List.map_append, List.nodup_append]
              refine ⟨h.conN, by simp, fun a ha b hb => ?_⟩
              simp at hb
              subst hb
              intro e
              subst e
              obtain ⟨c, hcm, he⟩ := List.mem_map.1 ha
              unfold RS.find at hf
              rw [List.findIdx?_eq_none_iff] at hf
              have := hf c hcm
              simp [he] at this }

theorem step_use {t : Tab} {s : PS} {r : RS} {x : EvV} (h : Sim t s r) (hx : x.wf) (h12 : (x.kind == 1 || x.kind == 2) = false) (h3 : (x.kind == 3) = false) (h4 : (x.kind == 4) = false) (h5 : (x.kind == 5) = false) (h6 : (x.kind == 6) = false) (hk : (x.kind == 7) = true) :
    Steps t (useF s x).2 (useF s x).1 r (nextR t r x) := by
  have hnext : nextR t r x = match r.find x.num with | none => (r, true) | some i => (r, ((r.con[i]?).getD (0, 0, false)).2.2) := by
    unfold nextR; rw [h12, if_neg (by simp), h3, if_neg (by simp), h4, if_neg (by simp), h5, if_neg (by simp), h6, if_neg (by simp), if_pos hk]; cases r.find x.num <;> rfl
  have hc := h.con x.num hx.2
  rw [hnext]
  unfold useF
  cases hf : r.find x.num with
  | none =>
    rw [hc, find_none hf]
    exact ⟨rfl, fun _ => h, fun h => by cases h⟩
  | some i =>
    rw [hc, find_some hf]
    exact ⟨by simp, fun _ => h, fun _ => h.frz⟩

theorem step_completed {t : Tab} {s : PS} {r : RS} {x : EvV} (h : Sim t s r) (hn : t.types.length ≤ 1000) (hx : x.wf) (h12 : (x.kind == 1 || x.kind == 2) = false) (h3 : (x.kind == 3) = false) (h4 : (x.kind == 4) = false) (h5 : (x.kind == 5) = false) (hk : (x.kind == 6) = true) :
    Steps t (completedF t s x).2 (completedF t s x).1 r (nextR t r x) := by
  have hn0 : r.find x.num = none → nextR t r x = (r, false) := fun hf => by
    unfold nextR; rw [h12, if_neg (by simp), h3, if_neg (by simp), h4, if_neg (by simp), h5, if_neg (by simp), if_pos hk, hf]
  have hn1 : ∀ i c, r.find x.num = some i → r.con[i]? = some c → nextR t r x = if c.2.2 then (r, false) else if (freezeR t r c.2.1).2 then (⟨(freezeR t r c.2.1).1.dec, (freezeR t r c.2.1).1.com, (freezeR t r c.2.1).1.frz, doneAt r.con i⟩, true) else (r, false) := fun i c hf hg => by
    unfold nextR; rw [h12, if_neg (by simp), h3, if_neg (by simp), h4, if_neg (by simp), h5, if_neg (by simp), if_pos hk, hf]
    simp only [hg, Option.getD_some]
  have hc := h.con x.num hx.2
  unfold completedF
  cases hf : r.find x.num with
  | none =>
    rw [hc, find_none hf, hn0 hf]
    exact ⟨rfl, (fun h => by cases h), fun _ => h.frz⟩
  | some i =>
    obtain ⟨⟨cn, ca, cb⟩, hget, hcn, hcm⟩ := find_get hf
    have hcn' : cn = x.num := hcn
    have hce := (h.conE _ hcm).2
    have hca : exI t.types.length ca = true := hce
    rw [hc, find_some hf, hn1 i _ hf hget, hget]
    simp only [Option.isSome_some, Bool.not_true, Bool.false_or, Option.getD_some]
    cases cb
    · simp only [Bool.false_eq_true, if_false]
      have hst := step_freeze h hn hca
      unfold Steps at hst
      cases hm : (meetAll t (okM s.dec s.com) [ca]).2
      · rw [hm] at hst
        simp only [hst.1, Bool.false_eq_true, if_false]
        exact ⟨rfl, (fun h => by cases h), fun _ => hst.2.2 rfl⟩
      · rw [hm] at hst
        simp only [hst.1, if_true]
        have hs2 := hst.2.1 rfl
        have hcon2 : (freezeR t r ca).1.con = r.con := by
          unfold freezeR
          split <;> rfl
        refine ⟨rfl, fun _ => ?_, fun h => by cases h⟩
        exact { dec := hs2.dec, com := hs2.com, frz := hs2.frz, ascD := hs2.ascD, ascC := hs2.ascC, ascF := hs2.ascF, exD := hs2.exD, exC := hs2.exC, exF := hs2.exF
                con := fun y hy => by
                  show updM s.con x.num (ca, true) y = conAt (doneAt r.con i) y
                  rw [conAt_done r.con x.num i y hf, hget]
                  unfold updM
                  by_cases e : y = x.num
                  · simp [e]
                  · simp [e, h.con y hy]
                conE := fun c hc => by
                  obtain ⟨d, hd, e1, e2⟩ := doneAt_mem hc
                  rw [← e1, ← e2]
                  exact h.conE d hd
                conN := by
                  show ((doneAt r.con i).map (·.1)).Nodup
                  rw [doneAt_keys]
                  exact h.conN }
    · simp only [if_true]
      exact ⟨rfl, (fun h => by cases h), fun _ => h.frz⟩
end Go.Proofs.Ytbjnoffdafpkgaa
