/- Plain law of FreezeEnds: what the events say of the state behind them. Plain law of FreezeEnds. -/
import Derived.Test.YtbjnoffdafpkgaaQ2
import Derived.Test.YtbjnoffdafpkgaaR11
namespace Go.Proofs.Ytbjnoffdafpkgaa

/-- What the events say of the declared types. -/
structure DInv (r : RS) (p : List EvV) : Prop where
  a : ∀ e, e ∈ p → (e.kind = 1 ∨ e.kind = 2) → e.ty ∈ r.dec
  b : ∀ e, e ∈ p → (e.kind = 1 ∨ e.kind = 3) → e.ty ∈ r.com
  c : ∀ x, x ∈ r.dec → x ∉ r.com → ∃ e, e ∈ p ∧ e.kind = 2 ∧ e.ty = x
  d : ∀ e, e ∈ p → e.kind = 2 → e.ty ∈ r.com → ∃ f, f ∈ p ∧ f.kind = 3 ∧ f.ty = e.ty
  s : ∀ x, x ∈ r.com → x ∈ r.dec
/-- .. and of the constants. -/
structure KInv (con : List (Int × Int × Bool)) (p : List EvV) : Prop where
  f : ∀ e, e ∈ p → e.kind = 5 → ∃ c, c ∈ con ∧ c.1 = e.num
  g : ∀ c, c ∈ con → ∃ e, e ∈ p ∧ e.kind = 5 ∧ e.num = c.1
  h : ∀ c, c ∈ con → (c.2.2 = true ↔ ∃ e, e ∈ p ∧ e.kind = 6 ∧ e.num = c.1)
  j : ∀ e, e ∈ p → e.kind = 6 → ∃ c, c ∈ con ∧ c.1 = e.num
  n : (con.map (·.1)).Nodup

theorem mem_snoc {α : Type} {p : List α} {x e : α} : e ∈ p ++ [x] ↔ e ∈ p ∨ e = x := by simp

theorem DInv.same {r r' : RS} {p : List EvV} {x : EvV} (h : DInv r p) (hd : r'.dec = r.dec) (hc : r'.com = r.com) (h1 : x.kind ≠ 1) (h2 : x.kind ≠ 2) (h3 : x.kind ≠ 3) : DInv r' (p ++ [x]) := by
  refine ⟨fun e he hk => ?_, fun e he hk => ?_, fun y hy hn => ?_, fun e he hk hm => ?_, fun y hy => ?_⟩
  · rw [hd]
    rcases mem_snoc.1 he with he | rfl
    · exact h.a e he hk
    · omega
  · rw [hc]
    rcases mem_snoc.1 he with he | rfl
    · exact h.b e he hk
    · omega
  · rw [hd] at hy
    rw [hc] at hn
    obtain ⟨e, he, hk⟩ := h.c y hy hn
    exact ⟨e, mem_snoc.2 (.inl he), hk⟩
  · rw [hc] at hm
    rcases mem_snoc.1 he with he | rfl
    · obtain ⟨f, hf, hk'⟩ := h.d e he hk hm
      exact ⟨f, mem_snoc.2 (.inl hf), hk'⟩
    · omega
  · rw [hc] at hy
    rw [hd]
    exact h.s y hy
theorem KInv.same {con : List (Int × Int × Bool)} {p : List EvV} {x : EvV} (h : KInv con p) (h5 : x.kind ≠ 5) (h6 : x.kind ≠ 6) : KInv con (p ++ [x]) := by
  refine ⟨fun e he hk => ?_, fun c hc => ?_, fun c hc => ?_, fun e he hk => ?_, h.n⟩
  · rcases mem_snoc.1 he with he | rfl
    · exact h.f e he hk
    · omega
  · obtain ⟨e, he, hk⟩ := h.g c hc
    exact ⟨e, mem_snoc.2 (.inl he), hk⟩
  · rw [h.h c hc]
    constructor
    · rintro ⟨e, he, hk⟩; exact ⟨e, mem_snoc.2 (.inl he), hk⟩
    · rintro ⟨e, he, hk⟩
      rcases mem_snoc.1 he with he | rfl
      · exact ⟨e, he, hk⟩
      · omega
  · rcases mem_snoc.1 he with he | rfl
    · exact h.j e he hk
    · omega

theorem not_contains {l : List Int} {x : Int} (h : l.contains x = false) : x ∉ l := fun hm => by rw [List.contains_iff_mem.2 hm] at h; cases h

theorem DInv.decl {r : RS} {p : List EvV} {x : EvV} (h : DInv r p) (hk : x.kind = 1 ∨ x.kind = 2) (hno : x.ty ∉ r.dec) :
    DInv { r with dec := withR r.dec x.ty, com := if x.kind == 1 then withR r.com x.ty else r.com } (p ++ [x]) := by
  have hmc : ∀ y, y ∈ (if x.kind == 1 then withR r.com x.ty else r.com) ↔ y ∈ r.com ∨ (x.kind = 1 ∧ y = x.ty) := by
    intro y
    by_cases h1 : x.kind = 1
    · rw [if_pos (by simpa using h1), mem_withR]
      constructor
      · rintro (e | e)
        · exact .inr ⟨h1, e⟩
        · exact .inl e
      · rintro (e | e)
        · exact .inr e
        · exact .inl e.2
    · rw [if_neg (by simpa using h1)]
      constructor
      · exact .inl
      · rintro (e | e)
        · exact e
        · exact absurd e.1 h1
  refine ⟨fun e he hk' => ?_, fun e he hk' => ?_, fun y hy hn => ?_, fun e he hk' hm => ?_, fun y hy => ?_⟩
  · refine mem_withR.2 ?_
    rcases mem_snoc.1 he with he | rfl
    · exact .inr (h.a e he hk')
    · exact .inl rfl
  · refine (hmc _).2 ?_
    rcases mem_snoc.1 he with he | rfl
    · exact .inl (h.b e he hk')
    · exact .inr ⟨by omega, rfl⟩
  · have hn' := fun h' => hn ((hmc y).2 h')
    rcases mem_withR.1 hy with rfl | hy
    · refine ⟨x, mem_snoc.2 (.inr rfl), ?_, rfl⟩
      rcases hk with h1 | h2
      · exact absurd (Or.inr ⟨h1, rfl⟩) hn'
      · exact h2
    · obtain ⟨e, he, hk'⟩ := h.c y hy (fun h' => hn' (.inl h'))
      exact ⟨e, mem_snoc.2 (.inl he), hk'⟩
  · rcases mem_snoc.1 he with he | rfl
    · have hed := h.a e he (.inr hk')
      rcases (hmc _).1 hm with hm | ⟨_, hm⟩
      · obtain ⟨f, hf, hf'⟩ := h.d e he hk' hm
        exact ⟨f, mem_snoc.2 (.inl hf), hf'⟩
      · exact absurd (hm ▸ hed) hno
    · rcases (hmc _).1 hm with hm | ⟨h1, _⟩
      · exact absurd (h.s _ hm) hno
      · omega
  · rcases (hmc y).1 hy with hy | ⟨_, rfl⟩
    · exact mem_withR.2 (.inr (h.s y hy))
    · exact mem_withR.2 (.inl rfl)
theorem DInv.full {r : RS} {p : List EvV} {x : EvV} (h : DInv r p) (hk : x.kind = 3) (hd : x.ty ∈ r.dec) : DInv { r with com := withR r.com x.ty } (p ++ [x]) := by
  refine ⟨fun e he hk' => ?_, fun e he hk' => ?_, fun y hy hn => ?_, fun e he hk' hm => ?_, fun y hy => ?_⟩
  · rcases mem_snoc.1 he with he | rfl
    · exact h.a e he hk'
    · omega
  · refine mem_withR.2 ?_
    rcases mem_snoc.1 he with he | rfl
    · exact .inr (h.b e he hk')
    · exact .inl rfl
  · obtain ⟨e, he, hk'⟩ := h.c y hy (fun h' => hn (mem_withR.2 (.inr h')))
    exact ⟨e, mem_snoc.2 (.inl he), hk'⟩
  · rcases mem_snoc.1 he with he | rfl
    · rcases mem_withR.1 hm with hm | hm
      · exact ⟨x, mem_snoc.2 (.inr rfl), hk, hm.symm⟩
      · obtain ⟨f, hf, hf'⟩ := h.d e he hk' hm
        exact ⟨f, mem_snoc.2 (.inl hf), hf'⟩
    · omega
  · rcases mem_withR.1 hy with rfl | hy
    · exact hd
    · exact h.s y hy

theorem KInv.defer {con : List (Int × Int × Bool)} {p : List EvV} {x : EvV} (h : KInv con p) (hk : x.kind = 5) (hno : ∀ c, c ∈ con → c.1 ≠ x.num) : KInv (con ++ [(x.num, x.ty, false)]) (p ++ [x]) := by
  refine ⟨fun e he hk' => ?_, fun c hc => ?_, fun c hc => ?_, fun e he hk' => ?_, ?_⟩
  · rcases mem_snoc.1 he with he | rfl
    · obtain ⟨c, hc, hc'⟩ := h.f e he hk'
      exact ⟨c, mem_snoc.2 (.inl hc), hc'⟩
    · exact ⟨_, mem_snoc.2 (.inr rfl), rfl⟩
  · rcases mem_snoc.1 hc with hc | rfl
    · obtain ⟨e, he, hk'⟩ := h.g c hc
      exact ⟨e, mem_snoc.2 (.inl he), hk'⟩
    · exact ⟨x, mem_snoc.2 (.inr rfl), hk, rfl⟩
  · rcases mem_snoc.1 hc with hc | rfl
    · rw [h.h c hc]
      constructor
      · rintro ⟨e, he, hk'⟩; exact ⟨e, mem_snoc.2 (.inl he), hk'⟩
      · rintro ⟨e, he, hk'⟩
        rcases mem_snoc.1 he with he | rfl
        · exact ⟨e, he, hk'⟩
        · omega
    · constructor
      · intro h'; cases h'
      · rintro ⟨e, he, hk', hn⟩
        rcases mem_snoc.1 he with he | rfl
        · obtain ⟨c, hc, hc'⟩ := h.j e he hk'
          exact absurd (hc'.trans hn) (hno c hc)
        · omega
  · rcases mem_snoc.1 he with he | rfl
    · obtain ⟨c, hc, hc'⟩ := h.j e he hk'
      exact ⟨c, mem_snoc.2 (.inl hc), hc'⟩
    · omega
  · rw [List.map_append, List.nodup_append]
    refine ⟨h.n, by simp, fun a ha b hb => ?_⟩
    obtain ⟨c, hc, rfl⟩ := List.mem_map.1 ha
    have : b = x.num := by simpa using hb
    rw [this]
    exact hno c hc
theorem mem_doneAt {con : List (Int × Int × Bool)} {i : Nat} {c d : Int × Int × Bool} (hci : con[i]? = some c) : d ∈ doneAt con i → d = (c.1, c.2.1, true) ∨ (d ∈ con ∧ ∃ j, con[j]? = some d ∧ j ≠ i) := by
  intro hd
  obtain ⟨j, hj⟩ := List.mem_iff_getElem?.1 hd
  unfold doneAt at hj
  rw [List.getElem?_modify] at hj
  by_cases hji : i = j
  · subst hji
    rw [hci] at hj
    simp only [if_true, Option.map_eq_map, Option.map_some, Option.some.injEq] at hj
    exact .inl hj.symm
  · simp only [if_neg hji, Option.map_eq_map, Option.map_id'] at hj
    exact .inr ⟨List.mem_of_getElem? hj, j, hj, fun e => hji e.symm⟩
theorem doneAt_map (con : List (Int × Int × Bool)) (i : Nat) : (doneAt con i).map (·.1) = con.map (·.1) := by
  apply List.ext_getElem?
  intro j
  unfold doneAt
  rw [List.getElem?_map, List.getElem?_map, List.getElem?_modify]
  cases con[j]? with
  | none => rfl
  | some c =>
    by_cases h : i = j
    · simp [h]
    · simp [h]
theorem KInv.done {con : List (Int × Int × Bool)} {p : List EvV} {x : EvV} {i : Nat} {c : Int × Int × Bool} (h : KInv con p) (hk : x.kind = 6) (hci : con[i]? = some c) (hcn : c.1 = x.num) : KInv (doneAt con i) (p ++ [x]) := by
  have hin : ∀ d, d ∈ con → ∃ d', d' ∈ doneAt con i ∧ d'.1 = d.1 := by
    intro d hd
    have : d.1 ∈ (doneAt con i).map (·.1) := by rw [doneAt_map]; exact List.mem_map.2 ⟨d, hd, rfl⟩
    obtain ⟨d', h1, h2⟩ := List.mem_map.1 this
    exact ⟨d', h1, h2⟩
  have hout : ∀ d, d ∈ doneAt con i → ∃ d', d' ∈ con ∧ d'.1 = d.1 := by
    intro d hd
    have : d.1 ∈ con.map (·.1) := by rw [← doneAt_map con i]; exact List.mem_map.2 ⟨d, hd, rfl⟩
    obtain ⟨d', h1, h2⟩ := List.mem_map.1 this
    exact ⟨d', h1, h2⟩
  have hcm : c ∈ con := List.mem_of_getElem? hci
  refine ⟨fun e he hk' => ?_, fun d hd => ?_, fun d hd => ?_, fun e he hk' => ?_, by rw [doneAt_map]; exact h.n⟩
  · rcases mem_snoc.1 he with he | rfl
    · obtain ⟨d, hd, hd'⟩ := h.f e he hk'
      obtain ⟨d', h1, h2⟩ := hin d hd
      exact ⟨d', h1, h2.trans hd'⟩
    · omega
  · obtain ⟨d', h1, h2⟩ := hout d hd
    obtain ⟨e, he, hk', hn⟩ := h.g d' h1
    exact ⟨e, mem_snoc.2 (.inl he), hk', hn.trans h2⟩
  · rcases mem_doneAt hci hd with rfl | ⟨hd', j, hj, hji⟩
    · exact ⟨fun _ => ⟨x, mem_snoc.2 (.inr rfl), hk, hcn.symm⟩, fun _ => rfl⟩
    · rw [h.h d hd']
      constructor
      · rintro ⟨e, he, hk'⟩; exact ⟨e, mem_snoc.2 (.inl he), hk'⟩
      · rintro ⟨e, he, hk', hn⟩
        rcases mem_snoc.1 he with he | rfl
        · exact ⟨e, he, hk', hn⟩
        · have hne : c.1 ≠ d.1 := by
            intro e'
            have h1 : (con.map (·.1))[i]? = some c.1 := by rw [List.getElem?_map, hci]; rfl
            have h2 : (con.map (·.1))[j]? = some d.1 := by rw [List.getElem?_map, hj]; rfl
            rw [← e'] at h2
            obtain ⟨l1, e1⟩ := List.getElem?_eq_some_iff.1 h1
            obtain ⟨l2, e2⟩ := List.getElem?_eq_some_iff.1 h2
            exact hji ((List.getElem_inj h.n).1 (e2.trans e1.symm))
          exact absurd (hcn.trans hn) hne
  · rcases mem_snoc.1 he with he | rfl
    · obtain ⟨d, hd, hd'⟩ := h.j e he hk'
      obtain ⟨d', h1, h2⟩ := hin d hd
      exact ⟨d', h1, h2.trans hd'⟩
    · obtain ⟨d', h1, h2⟩ := hin c hcm
      exact ⟨d', h1, h2.trans hcn⟩
theorem KInv.nil : KInv RS.zero.con [] := ⟨by simp, by simp [RS.zero], by simp [RS.zero], by simp, by simp [RS.zero]⟩
theorem DInv.nil : DInv RS.zero [] := ⟨by simp, by simp, by simp [RS.zero], by simp, by simp [RS.zero]⟩
end Go.Proofs.Ytbjnoffdafpkgaa
namespace Go.Proofs.Ytbjnoffdafpkgaa

theorem inv_step {t : Tab} {r r' : RS} {x : EvV} {p : List EvV} {n : Nat} (hD : DInv r p) (hK : KInv r.con p) (hx : existsF n x = true) (hn : nextR t r x = (r', true)) : DInv r' (p ++ [x]) ∧ KInv r'.con (p ++ [x]) := by
  have hk := exists_kind hx
  obtain ⟨kind, ty, num⟩ := x
  dsimp only at hk
  rcases hk with rfl | rfl | rfl | rfl | rfl | rfl | rfl | rfl | rfl
  · have e : nextR t r ⟨1, ty, num⟩ = if (r.dec.contains ty || r.frz.contains ty) = true then (r, false) else ({ r with dec := withR r.dec ty, com := if ((1 : Int) == 1) then withR r.com ty else r.com }, true) := rfl
    rw [e] at hn
    split at hn
    · cases hn
    · rename_i hno
      simp only [Prod.mk.injEq, and_true] at hn
      subst hn
      have hd : ty ∉ r.dec := fun hm => hno (by rw [List.contains_iff_mem.2 hm]; rfl)
      exact ⟨DInv.decl (x := ⟨1, ty, num⟩) hD (.inl rfl) hd, hK.same (by simp) (by simp)⟩
  · have e : nextR t r ⟨2, ty, num⟩ = if (r.dec.contains ty || r.frz.contains ty) = true then (r, false) else ({ r with dec := withR r.dec ty, com := if ((2 : Int) == 1) then withR r.com ty else r.com }, true) := rfl
    rw [e] at hn
    split at hn
    · cases hn
    · rename_i hno
      simp only [Prod.mk.injEq, and_true] at hn
      subst hn
      have hd : ty ∉ r.dec := fun hm => hno (by rw [List.contains_iff_mem.2 hm]; rfl)
      exact ⟨DInv.decl (x := ⟨2, ty, num⟩) hD (.inr rfl) hd, hK.same (by simp) (by simp)⟩
  · have e : nextR t r ⟨3, ty, num⟩ = if (!r.dec.contains ty || r.com.contains ty) = true then (r, false) else ({ r with com := withR r.com ty }, true) := rfl
    rw [e] at hn
    split at hn
    · cases hn
    · rename_i hno
      simp only [Prod.mk.injEq, and_true] at hn
      subst hn
      have hd : ty ∈ r.dec := by
        cases hc : r.dec.contains ty
        · exact absurd (by rw [hc]; rfl) hno
        · exact List.contains_iff_mem.1 hc
      exact ⟨DInv.full (x := ⟨3, ty, num⟩) hD rfl hd, hK.same (by simp) (by simp)⟩
  · have e : nextR t r ⟨4, ty, num⟩ = freezeR t r ty := rfl
    rw [e] at hn
    have hr : r' = (freezeR t r ty).1 := by rw [hn]
    subst hr
    exact ⟨hD.same (freezeR_dec t r ty) (freezeR_com t r ty) (by simp) (by simp) (by simp), by rw [freezeR_con]; exact hK.same (by simp) (by simp)⟩
  · have e : nextR t r ⟨5, ty, num⟩ = match r.con.findIdx? (fun c => c.1 == num) with | some _ => (r, false) | none => ({ r with con := r.con ++ [(num, ty, false)] }, true) := rfl
    rw [e] at hn
    cases hf : r.con.findIdx? (fun c => c.1 == num) with
    | some i => rw [hf] at hn; cases hn
    | none =>
      rw [hf] at hn
      simp only [Prod.mk.injEq, and_true] at hn
      subst hn
      rw [List.findIdx?_eq_none_iff] at hf
      exact ⟨DInv.same (r' := { r with con := r.con ++ [(num, ty, false)] }) hD rfl rfl (by simp) (by simp) (by simp), KInv.defer (x := ⟨5, ty, num⟩) hK rfl (fun c hc => by simpa using hf c hc)⟩
  · rcases find_split r.con num with ⟨hfi, _⟩ | ⟨i, c, hfi, _, hci⟩
    · rw [next6_none hfi] at hn; cases hn
    · have hcn : c.1 = num := by
        have h' := hfi
        rw [List.findIdx?_eq_some_iff_getElem] at h'
        obtain ⟨hj, h1, _⟩ := h'
        obtain ⟨_, rfl⟩ := List.getElem?_eq_some_iff.1 hci
        simpa using h1
      rw [next6_res hfi hci] at hn
      split at hn
      · cases hn
      · split at hn
        · simp only [Prod.mk.injEq, and_true] at hn
          subst hn
          exact ⟨hD.same (freezeR_dec t r _) (freezeR_com t r _) (by simp) (by simp) (by simp), KInv.done (x := ⟨6, ty, num⟩) hK rfl hci hcn⟩
        · cases hn
  · have hr : r' = r := by
      have e : nextR t r ⟨7, ty, num⟩ = match r.con.findIdx? (fun c => c.1 == num) with | none => (r, true) | some i => (r, ((r.con[i]?).getD (0, 0, false)).2.2) := rfl
      rw [e] at hn
      split at hn
      · injection hn with h1 _; exact h1.symm
      · injection hn with h1 _; exact h1.symm
    subst hr
    exact ⟨hD.same rfl rfl (by simp) (by simp) (by simp), hK.same (by simp) (by simp)⟩
  · have e : nextR t r ⟨8, ty, num⟩ = endsR t r false := rfl
    rw [e] at hn
    unfold endsR at hn
    split at hn
    · cases hn
    · split at hn
      · cases hn
      · have hr : r' = foldF t r.dec r := by injection hn with h1 _; exact h1.symm
        subst hr
        exact ⟨hD.same (foldF_dec t _ r) (foldF_com t _ r) (by simp) (by simp) (by simp), by rw [foldF_con]; exact hK.same (by simp) (by simp)⟩
  · have e : nextR t r ⟨9, ty, num⟩ = endsR t r true := rfl
    rw [e] at hn
    unfold endsR at hn
    split at hn
    · cases hn
    · split at hn
      · cases hn
      · have hr : r' = foldF t r.dec r := by injection hn with h1 _; exact h1.symm
        subst hr
        exact ⟨hD.same (foldF_dec t _ r) (foldF_com t _ r) (by simp) (by simp) (by simp), by rw [foldF_con]; exact hK.same (by simp) (by simp)⟩

theorem inv_go {t : Tab} : ∀ (l : List EvV) (r r' : RS) (i : Nat) (p : List EvV), DInv r p → KInv r.con p → (∀ x, x ∈ l → existsF t.types.length x = true) → goR t r l i = (none, r') → DInv r' (p ++ l) ∧ KInv r'.con (p ++ l) := by
  intro l
  induction l with
  | nil =>
    intro r r' i p hD hK _ hg
    have : r = r' := by injection hg
    subst this
    rw [List.append_nil]
    exact ⟨hD, hK⟩
  | cons x l ih =>
    intro r r' i p hD hK hall hg
    rw [goR] at hg
    split at hg
    · rename_i hok
      have hn : nextR t r x = ((nextR t r x).1, true) := by rw [← hok]
      obtain ⟨h1, h2⟩ := inv_step hD hK (hall x (by simp)) hn
      have := ih _ r' _ (p ++ [x]) h1 h2 (fun y hy => hall y (by simp [hy])) hg
      rwa [List.append_assoc] at this
    · cases hg

def fullB (e f : EvV) : Bool := e.kind == 2 && f.kind == 3 && f.ty == e.ty
def doneB (e f : EvV) : Bool := e.kind == 5 && f.kind == 6 && f.num == e.num
def foundB (l : List EvV) (e : EvV) : Bool := (e.kind != 2 && e.kind != 5) || l.any (fun f => fullB e f || doneB e f)
def openB (l : List EvV) : Bool := l.any (fun e => !foundB l e)

theorem open_iff {r : RS} {l : List EvV} (hD : DInv r l) (hK : KInv r.con l) : openB l = true ↔ ((∃ x, x ∈ r.dec ∧ x ∉ r.com) ∨ ∃ c, c ∈ r.con ∧ c.2.2 = false) := by
  unfold openB
  rw [List.any_eq_true]
  constructor
  · rintro ⟨e, he, hf⟩
    have hf' : foundB l e = false := by simpa using hf
    unfold foundB at hf'
    rw [Bool.or_eq_false_iff] at hf'
    obtain ⟨h1, h2⟩ := hf'
    rw [List.any_eq_false] at h2
    have h25 : e.kind = 2 ∨ e.kind = 5 := by
      simp only [Bool.and_eq_false_iff, bne_eq_false_iff_eq] at h1
      exact h1
    rcases h25 with hk | hk
    · refine .inl ⟨e.ty, hD.a e he (.inr hk), fun hm => ?_⟩
      obtain ⟨f, hf, hfk, hft⟩ := hD.d e he hk hm
      have := h2 f hf
      simp [fullB, hk, hfk, hft] at this
    · obtain ⟨c, hc, hcn⟩ := hK.f e he hk
      refine .inr ⟨c, hc, ?_⟩
      cases hd : c.2.2
      · rfl
      · obtain ⟨f, hf, hfk, hfn⟩ := (hK.h c hc).1 hd
        have := h2 f hf
        simp [doneB, hk, hfk, hfn.trans hcn] at this
  · rintro (⟨x, hx, hn⟩ | ⟨c, hc, hd⟩)
    · obtain ⟨e, he, hk, rfl⟩ := hD.c x hx hn
      refine ⟨e, he, ?_⟩
      have hf : foundB l e = false := by
        unfold foundB
        rw [Bool.or_eq_false_iff]
        refine ⟨by simp [hk], ?_⟩
        rw [List.any_eq_false]
        intro f hf
        by_cases h3 : f.kind = 3 ∧ f.ty = e.ty
        · exact absurd (h3.2 ▸ hD.b f hf (.inr h3.1)) hn
        · simp only [fullB, doneB, hk]
          simp
          omega
      rw [hf]; rfl
    · obtain ⟨e, he, hk, hen⟩ := hK.g c hc
      refine ⟨e, he, ?_⟩
      have hf : foundB l e = false := by
        unfold foundB
        rw [Bool.or_eq_false_iff]
        refine ⟨by simp [hk], ?_⟩
        rw [List.any_eq_false]
        intro f hf
        by_cases h6 : f.kind = 6 ∧ f.num = e.num
        · have := (hK.h c hc).2 ⟨f, hf, h6.1, h6.2.trans hen⟩
          rw [hd] at this; cases this
        · simp only [fullB, doneB, hk]
          simp
          omega
      rw [hf]; rfl

theorem foldF_frz {t : Tab} : ∀ (l : List Int) (r : RS), (∀ x, x ∈ r.dec → x ∈ r.com) → (∀ x, x ∈ l → exI t.types.length x = true) → ∀ x, (x ∈ l ∨ x ∈ r.frz) → x ∈ (foldF t l r).frz := by
  intro l
  induction l with
  | nil =>
    intro r _ _ x hx
    rcases hx with hx | hx
    · simp at hx
    · exact hx
  | cons a l ih =>
    intro r hc hex x hx
    have hyes : freezeR t r a = ({ r with frz := (needs t a).foldl withR r.frz }, true) := by
      unfold freezeR
      rw [if_neg]
      intro hb
      obtain ⟨y, _, hb⟩ := List.any_eq_true.1 hb
      simp only [Bool.and_eq_true, Bool.not_eq_true'] at hb
      rw [List.contains_iff_mem.2 (hc y (List.contains_iff_mem.1 hb.1))] at hb
      exact absurd hb.2 (by simp)
    show x ∈ (foldF t l (freezeR t r a).1).frz
    rw [hyes]
    refine ih { r with frz := (needs t a).foldl withR r.frz } hc (fun y hy => hex y (by simp [hy])) x ?_
    rcases hx with hx | hx
    · rcases List.mem_cons.1 hx with rfl | hx
      · exact .inr (mem_foldW.2 (.inl (((needs_res t x (hex x (by simp))).2 x).2 (.refl _))))
      · exact .inl hx
    · exact .inr (mem_foldW.2 (.inr hx))

theorem ends_ref' {t : Tab} {l : List EvV} (h : (checkR t l).2 = 0) :
    (openB l = true → checkR t (l ++ [⟨9, 0, 0⟩]) = ((l.length : Int), 110)) ∧
    (openB l = false → (checkR t (l ++ [⟨9, 0, 0⟩])).2 = 0 ∧ ∀ e, e ∈ l → (e.kind = 1 ∨ e.kind = 2) → e.ty ∈ frozenR t (l ++ [⟨9, 0, 0⟩])) := by
  obtain ⟨hall, r, hg, hf, hi, hw⟩ := check_ok h
  obtain ⟨hD, hK⟩ := inv_go l RS.zero r 0 [] DInv.nil KInv.nil hall hg
  rw [List.nil_append] at hD hK
  obtain ⟨hb, hg1⟩ := check_more (x := ⟨9, 0, 0⟩) hall hg rfl
  have hn : nextR t r ⟨9, 0, 0⟩ = endsR t r true := rfl
  rw [hn] at hg1
  have hoi := open_iff hD hK
  constructor
  · intro ho
    have hno : endsR t r true = (r, false) := by
      rcases hoi.1 ho with ⟨x, hx, hn⟩ | ⟨c, hc, hd⟩
      · exact endsR_no1 hx (by
          cases h' : hasI r.com x
          · rfl
          · exact absurd (List.contains_iff_mem.1 h') hn)
      · cases h1 : r.dec.any (fun x => !hasI r.com x)
        · exact endsR_no2 h1 hc (by unfold lateC; rw [hd]; rfl)
        · obtain ⟨x, hx, hn⟩ := List.any_eq_true.1 h1
          exact endsR_no1 hx (by simpa using hn)
    rw [hno] at hg1
    unfold checkR
    rw [hb, hg1]
    rfl
  · intro ho
    have hdc : ∀ x, x ∈ r.dec → x ∈ r.com := fun x hx => by
      by_cases hc : x ∈ r.com
      · exact hc
      · rw [hoi.2 (.inl ⟨x, hx, hc⟩)] at ho; cases ho
    have h1 : r.dec.any (fun x => !hasI r.com x) = false := by
      rw [List.any_eq_false]
      intro x hx
      have : hasI r.com x = true := List.contains_iff_mem.2 (hdc x hx)
      simp [this]
    have h2 : r.con.any (lateC true) = false := by
      rw [List.any_eq_false]
      intro c hc
      cases hd : c.2.2
      · rw [hoi.2 (.inr ⟨c, hc, hd⟩)] at ho; cases ho
      · simp [lateC, hd]
    have hyes := endsR_yes (t := t) (last := true) h1 h2
    rw [hyes] at hg1
    have hg2 : goR t RS.zero (l ++ [⟨9, 0, 0⟩]) 0 = (none, foldF t r.dec r) := hg1
    refine ⟨by unfold checkR; rw [hb, hg2], fun e he hk => ?_⟩
    unfold frozenR
    rw [hb, hg2]
    exact foldF_frz r.dec r hdc hi.exD e.ty (.inl (hD.a e he hk))
end Go.Proofs.Ytbjnoffdafpkgaa
