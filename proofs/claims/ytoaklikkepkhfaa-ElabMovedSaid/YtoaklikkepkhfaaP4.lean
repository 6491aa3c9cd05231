/- Plain: other orders of the list, and a unit more. -/
import Derived.Test.YtoaklikkepkhfaaP3
namespace Go.Proofs.Ytoaklikkepkhfaa
open Go

def opp (n i : Nat) : Nat := n - 1 - i
def oppI (n : Nat) (x : Int) : Int := (n : Int) - 1 - x
theorem opp_opp {n i : Nat} (h : i < n) : opp n (opp n i) = i := by unfold opp; omega
theorem opp_lt {n i : Nat} (h : i < n) : opp n i < n := by unfold opp; omega
theorem oppI_oppI (n : Nat) (x : Int) : oppI n (oppI n x) = x := by unfold oppI; omega
theorem oppI_nat {n i : Nat} (h : i < n) : oppI n (i : Int) = (opp n i : Nat) := by unfold oppI opp; omega

/-- Lists in the opposite order. -/
structure Turned (l l' : List UnitV) (subs subs' : List SubV) : Prop where
  len : l'.length = l.length
  slen : subs'.length = subs.length
  unit : ∀ (i : Nat) (x : UnitV), l[i]? = some x → ∃ y, l'[opp l.length i]? = some y ∧ y.name = x.name ∧ y.body = x.body ∧ y.needs = x.needs.map (oppI l.length) ∧ y.calls = x.calls
  sub : ∀ (s : Nat) (x : SubV), subs[s]? = some x → ∃ y, subs'[s]? = some y ∧ y.unit = oppI l.length x.unit ∧ y.calls = x.calls

theorem Turned.unit' {l l' : List UnitV} {subs subs' : List SubV} (h : Turned l l' subs subs') {i : Nat} {y : UnitV} (hy : l'[i]? = some y) : ∃ x, l[opp l.length i]? = some x ∧ y.name = x.name ∧ y.body = x.body ∧ y.needs = x.needs.map (oppI l.length) ∧ y.calls = x.calls := by
  have hi : i < l.length := by have := (List.getElem?_eq_some_iff.1 hy).1; have := h.len; omega
  have hx : l[opp l.length i]? = some (l[opp l.length i]'(opp_lt hi)) := List.getElem?_eq_getElem (opp_lt hi)
  obtain ⟨y', h1, h2⟩ := h.unit _ _ hx
  rw [opp_opp hi, hy] at h1
  injection h1 with h1
  subst h1
  exact ⟨_, hx, h2⟩
theorem Turned.calls {l l' : List UnitV} {subs subs' : List SubV} (h : Turned l l' subs subs') (s : Int) : callsOf subs' s = callsOf subs s := by
  cases hx : subs[s.toNat]? with
  | some x =>
    obtain ⟨y, h1, _, h3⟩ := h.sub _ _ hx
    rw [callsOf_eq hx, callsOf_eq h1, h3]
  | none =>
    have : subs'[s.toNat]? = none := by
      rw [List.getElem?_eq_none_iff] at *
      have := h.slen
      omega
    simp [callsOf, hx, this]
theorem Turned.reach {l l' : List UnitV} {subs subs' : List SubV} (h : Turned l l' subs subs') {c : List Int} {s : Int} : Reach subs' c s ↔ Reach subs c s := by
  constructor
  · intro hr
    induction hr with
    | base h' => exact .base h'
    | step _ h2 ih => rw [h.calls] at h2; exact .step ih h2
  · intro hr
    induction hr with
    | base h' => exact .base h'
    | step _ h2 ih => rw [← h.calls] at h2; exact .step ih h2
theorem Turned.may {l l' : List UnitV} {subs subs' : List SubV} (h : Turned l l' subs subs') (hm : May l subs) : May l' subs' := by
  have hu : ∀ y, y ∈ l' → ∃ x, x ∈ l ∧ y.needs = x.needs.map (oppI l.length) ∧ y.calls = x.calls := by
    intro y hy
    obtain ⟨i, hi⟩ := List.mem_iff_getElem?.1 hy
    obtain ⟨x, hx, _, _, h3, h4⟩ := h.unit' hi
    exact ⟨x, List.mem_of_getElem? hx, h3, h4⟩
  have hs : ∀ y, y ∈ subs' → ∃ x, x ∈ subs ∧ y.unit = oppI l.length x.unit ∧ y.calls = x.calls := by
    intro y hy
    obtain ⟨i, hi⟩ := List.mem_iff_getElem?.1 hy
    have hil : i < subs.length := by have := (List.getElem?_eq_some_iff.1 hi).1; have := h.slen; omega
    have hx : subs[i]? = some subs[i] := List.getElem?_eq_getElem hil
    obtain ⟨y', h1, h2⟩ := h.sub _ _ hx
    rw [hi] at h1
    injection h1 with h1
    subst h1
    exact ⟨_, List.mem_of_getElem? hx, h2⟩
  refine ⟨by rw [h.len]; exact hm.l256, by rw [h.slen]; exact hm.s4096, fun y hy n hn => ?_, fun y hy n hn => ?_, fun y hy => ?_, fun y hy n hn => ?_⟩
  · obtain ⟨x, hx, h1, _⟩ := hu y hy
    rw [h1] at hn
    obtain ⟨m, hm', rfl⟩ := List.mem_map.1 hn
    have := hm.needs x hx m hm'
    rw [h.len]; unfold oppI; omega
  · obtain ⟨x, hx, _, h1⟩ := hu y hy
    rw [h1] at hn
    rw [h.slen]; exact hm.calls x hx n hn
  · obtain ⟨x, hx, h1, _⟩ := hs y hy
    have := hm.unit x hx
    rw [h1, h.len]; unfold oppI; omega
  · obtain ⟨x, hx, _, h1⟩ := hs y hy
    rw [h1] at hn
    rw [h.slen]; exact hm.subc x hx n hn

theorem Turned.need {l l' : List UnitV} {subs subs' : List SubV} (h : Turned l l' subs subs') (hm : May l subs) {u : Nat} (hu : u < l.length) (n : Int) : NeedP l' subs' (opp l.length u) n ↔ NeedP l subs u (oppI l.length n) := by
  have hx : l[u]? = some l[u] := List.getElem?_eq_getElem hu
  obtain ⟨y, hy, _, _, h3, h4⟩ := h.unit _ _ hx
  have hun : ∀ s, Reach subs l[u].calls s → unitOf subs' s = oppI l.length (unitOf subs s) := by
    intro s hr
    have := hr.inr (hm.calls _ (List.mem_of_getElem? hx)) hm.subc
    have hs : subs[s.toNat]? = some (subs[s.toNat]'(by omega)) := List.getElem?_eq_getElem (by omega)
    obtain ⟨z, h1, h2, _⟩ := h.sub _ _ hs
    rw [unitOf_eq h1, unitOf_eq hs, h2]
  unfold NeedP
  constructor
  · rintro ⟨hne, y', hy', h5⟩
    rw [hy] at hy'
    injection hy' with hy'
    subst hy'
    refine ⟨fun e => hne ?_, _, hx, ?_⟩
    · rw [← oppI_oppI l.length n, e, oppI_nat hu]
    · rcases h5 with h5 | ⟨s, h6, h7⟩
      · rw [h3] at h5
        obtain ⟨m, hm', rfl⟩ := List.mem_map.1 h5
        rw [oppI_oppI]; exact .inl hm'
      · rw [h4, h.reach] at h6
        refine .inr ⟨s, h6, ?_⟩
        rw [hun s h6] at h7
        rw [← h7, oppI_oppI]
  · rintro ⟨hne, x', hx', h5⟩
    rw [hx] at hx'
    injection hx' with hx'
    subst hx'
    refine ⟨fun e => hne ?_, _, hy, ?_⟩
    · rw [e, ← oppI_nat hu, oppI_oppI]
    · rcases h5 with h5 | ⟨s, h6, h7⟩
      · rw [h3]
        exact .inl (List.mem_map.2 ⟨_, h5, oppI_oppI _ _⟩)
      · refine .inr ⟨s, by rw [h4, h.reach]; exact h6, ?_⟩
        rw [hun s h6, h7, oppI_oppI]

theorem find_map_on {f : Nat → Nat} {p p' : Nat → Bool} : ∀ (ns : List Nat), (∀ i, i ∈ ns → p' (f i) = p i) → (ns.map f).find? p' = (ns.find? p).map f := by
  intro ns
  induction ns with
  | nil => intro _; rfl
  | cons a ns ih =>
    intro h
    rw [List.map_cons, List.find?_cons, List.find?_cons, h a (by simp)]
    cases p a
    · exact ih fun i hi => h i (by simp [hi])
    · rfl

/-- No two units of one name and body. -/
def NoTies (l : List UnitV) : Prop := ∀ i j, j < i → i < l.length → (nameOf l i == nameOf l j) = false ∨ (bodyOf l i == bodyOf l j) = false

theorem Turned.before {l l' : List UnitV} {subs subs' : List SubV} (h : Turned l l' subs subs') (hn : NoTies l) {i j : Nat} (hi : i < l.length) (hj : j < l.length) (hij : i ≠ j) : beforeB l' (opp l.length i) (opp l.length j) = beforeB l i j := by
  have hN : ∀ i, i < l.length → nameOf l' (opp l.length i) = nameOf l i ∧ bodyOf l' (opp l.length i) = bodyOf l i := by
    intro i hi
    have hx : l[i]? = some l[i] := List.getElem?_eq_getElem hi
    obtain ⟨y, hy, h1, h2, _⟩ := h.unit _ _ hx
    simp [nameOf, bodyOf, hx, hy, h1, h2]
  unfold beforeB
  rw [(hN i hi).1, (hN i hi).2, (hN j hj).1, (hN j hj).2]
  have ht : (nameOf l i == nameOf l j) = false ∨ (bodyOf l i == bodyOf l j) = false := by
    rcases Nat.lt_or_gt_of_ne hij with h' | h'
    · rcases hn j i h' hj with e | e
      · left; rw [beq_eq_false_iff_ne] at *; exact fun h => e h.symm
      · right; rw [beq_eq_false_iff_ne] at *; exact fun h => e h.symm
    · exact hn i j h' hi
  rcases ht with e | e
  · rw [if_pos e, if_pos e]
  · rw [if_pos e, if_pos e]

theorem Turned.names {l l' : List UnitV} {subs subs' : List SubV} (h : Turned l l' subs subs') (hn : NoTies l) {ns : List Nat} (hs : NamesOk l ns) : NamesOk l' (ns.map (opp l.length)) := by
  refine ⟨?_, fun i => ?_⟩
  · rw [List.pairwise_map]
    refine hs.sorted.imp_of_mem fun {a b} ha hb hab => ?_
    rw [h.before hn ((hs.mem a).1 ha) ((hs.mem b).1 hb) (fun e => by subst e; rw [before_irrefl] at hab; cases hab)]
    exact hab
  · rw [h.len, List.mem_map]
    constructor
    · rintro ⟨a, ha, rfl⟩
      exact opp_lt ((hs.mem a).1 ha)
    · intro hi
      exact ⟨opp l.length i, (hs.mem _).2 (opp_lt hi), opp_opp hi⟩

theorem allTk_iff {taken : List Bool} {need : List Int} : allTk taken need = true ↔ ∀ x, x ∈ need → tk taken x.toNat = true := by
  unfold allTk; rw [List.all_eq_true]

theorem needAt_mem {l : List UnitV} {subs : List SubV} {nl : List (List Int)} (hn : NeedsOk l subs nl) {u : Nat} (hu : u < l.length) (n : Int) : n ∈ needAt nl u ↔ NeedP l subs u n := by
  have hx : nl[u]? = some (nl[u]'(by rw [hn.len]; exact hu)) := List.getElem?_eq_getElem _
  have := (hn.at' u _ hx).2 n
  unfold needAt
  rw [hx]
  exact this
theorem need_range {l : List UnitV} {subs : List SubV} (hm : May l subs) {u : Nat} {n : Int} (h : NeedP l subs u n) : 0 ≤ n ∧ n < l.length := by
  obtain ⟨_, x, hx, h'⟩ := h
  have hxm := List.mem_of_getElem? hx
  rcases h' with h' | ⟨s, hr, rfl⟩
  · exact hm.needs x hxm n h'
  · have := hr.inr (hm.calls x hxm) hm.subc
    have hs : subs[s.toNat]? = some (subs[s.toNat]'(by omega)) := List.getElem?_eq_getElem (by omega)
    rw [unitOf_eq hs]
    exact hm.unit _ (List.mem_of_getElem? hs)

/-- The same have been taken. -/
structure TkRel (n : Nat) (t t' : List Bool) : Prop where
  len : t.length = n
  len' : t'.length = n
  at' : ∀ j, j < n → t'[opp n j]? = t[j]?
theorem TkRel.set {n : Nat} {t t' : List Bool} (h : TkRel n t t') {i : Nat} (hi : i < n) : TkRel n (t.set i true) (t'.set (opp n i) true) := by
  refine ⟨by rw [List.length_set]; exact h.len, by rw [List.length_set]; exact h.len', fun j hj => ?_⟩
  rw [List.getElem?_set, List.getElem?_set]
  by_cases e : i = j
  · subst e
    rw [if_pos rfl, if_pos rfl, if_pos (by rw [h.len']; exact opp_lt hi), if_pos (by rw [h.len]; exact hi)]
  · rw [if_neg e, if_neg (fun e' => e (by rw [← opp_opp hi, e', opp_opp hj]))]
    exact h.at' j hj
theorem TkRel.tk {n : Nat} {t t' : List Bool} (h : TkRel n t t') {j : Nat} (hj : j < n) : tk t' (opp n j) = tk t j := by
  unfold Ytoaklikkepkhfaa.tk; rw [h.at' j hj]

theorem turned_ready {l l' : List UnitV} {subs subs' : List SubV} {nl nl' : List (List Int)} (h : Turned l l' subs subs') (hm : May l subs) (hn : NeedsOk l subs nl) (hn' : NeedsOk l' subs' nl') {t t' : List Bool} (ht : TkRel l.length t t') {i : Nat} (hi : i < l.length) :
    readyB nl' t' (opp l.length i) = readyB nl t i := by
  unfold readyB
  rw [ht.tk hi]
  congr 1
  rw [Bool.eq_iff_iff, allTk_iff, allTk_iff]
  have hi' : opp l.length i < l'.length := by rw [h.len]; exact opp_lt hi
  constructor
  · intro ha x hx
    rw [needAt_mem hn hi] at hx
    have hr := need_range hm hx
    have hx2 : oppI l.length x ∈ needAt nl' (opp l.length i) := by
      rw [needAt_mem hn' hi', h.need hm hi, oppI_oppI]; exact hx
    have := ha _ hx2
    have e : (oppI l.length x).toNat = opp l.length x.toNat := by unfold oppI opp; omega
    rw [e, ht.tk (by omega)] at this
    exact this
  · intro ha x hx
    rw [needAt_mem hn' hi', h.need hm hi] at hx
    have hr := need_range hm hx
    have := ha _ ((needAt_mem hn hi _).2 hx)
    have e : x.toNat = opp l.length (oppI l.length x).toNat := by unfold oppI opp at *; omega
    rw [e, ht.tk (by omega)]
    exact this

theorem orderG_turned {l l' : List UnitV} {subs subs' : List SubV} {nl nl' : List (List Int)} {ns : List Nat} (h : Turned l l' subs subs') (hm : May l subs) (hn : NeedsOk l subs nl) (hn' : NeedsOk l' subs' nl') (hs : NamesOk l ns) :
    ∀ (k : Nat) (t t' : List Bool) (out : List Nat), TkRel l.length t t' → orderG (ns.map (opp l.length)) nl' k t' (out.map (opp l.length)) = (orderG ns nl k t out).map (List.map (opp l.length)) := by
  intro k
  induction k with
  | zero => intro t t' out _; rfl
  | succ k ih =>
    intro t t' out ht
    rw [orderG, orderG, find_map_on ns (fun i hi => turned_ready h hm hn hn' ht ((hs.mem i).1 hi))]
    cases hf : ns.find? (readyB nl t) with
    | none => rfl
    | some i =>
      have hi : i < l.length := (hs.mem i).1 (List.mem_of_find?_eq_some hf)
      have := ih (t.set i true) (t'.set (opp l.length i) true) (out ++ [i]) (ht.set hi)
      rw [List.map_append] at this
      exact this

theorem orderR_turned {l l' : List UnitV} {subs subs' : List SubV} {nl nl' : List (List Int)} {ns ns' : List Nat} (h : Turned l l' subs subs') (hm : May l subs) (hn : NeedsOk l subs nl) (hn' : NeedsOk l' subs' nl') (hs : NamesOk l ns) (hs' : NamesOk l' ns') (ht : NoTies l) :
    orderR ns' nl' = (orderR ns nl).map (List.map (opp l.length)) := by
  have e : ns' = ns.map (opp l.length) := hs'.uniq (h.names ht hs)
  subst e
  unfold orderR
  have hl : nl'.length = nl.length := by rw [hn.len, hn'.len, h.len]
  rw [hl]
  refine orderG_turned h hm hn hn' hs nl.length _ _ [] ⟨by simp [hn.len], by simp [hn.len], fun j hj => ?_⟩
  rw [List.getElem?_replicate, List.getElem?_replicate, hn.len, if_pos hj, if_pos (opp_lt hj)]

/- A unit more, that needs nothing and that nothing needs. -/
theorem may_app {l : List UnitV} {subs : List SubV} {x : UnitV} (hm : May l subs) (h1 : x.needs = []) (h2 : x.calls = []) (hl : l.length < 256) : May (l ++ [x]) subs := by
  have hm' : ∀ y, y ∈ l ++ [x] → y ∈ l ∨ y = x := fun y hy => by simpa using hy
  refine ⟨by simp; omega, hm.s4096, fun y hy n hn => ?_, fun y hy n hn => ?_, fun y hy => ?_, hm.subc⟩
  · rcases hm' y hy with hy | rfl
    · have := hm.needs y hy n hn; simp; omega
    · rw [h1] at hn; simp at hn
  · rcases hm' y hy with hy | rfl
    · exact hm.calls y hy n hn
    · rw [h2] at hn; simp at hn
  · have := hm.unit y hy; simp; omega
theorem need_app {l : List UnitV} {subs : List SubV} {x : UnitV} {u : Nat} (hu : u < l.length) (n : Int) : NeedP (l ++ [x]) subs u n ↔ NeedP l subs u n := by
  unfold NeedP
  rw [List.getElem?_append_left hu]
theorem need_last {l : List UnitV} {subs : List SubV} {x : UnitV} (h1 : x.needs = []) (h2 : x.calls = []) (n : Int) : ¬ NeedP (l ++ [x]) subs l.length n := by
  rintro ⟨_, y, hy, h⟩
  simp at hy
  subst hy
  rcases h with h | ⟨s, hr, _⟩
  · rw [h1] at h; simp at h
  · rw [h2] at hr
    have : ∀ s, Reach subs [] s → False := fun s hr => by
      induction hr with
      | base h => simp at h
      | step _ _ ih => exact ih
    exact this s hr
theorem before_app {l : List UnitV} {x : UnitV} {i j : Nat} (hi : i < l.length) (hj : j < l.length) : beforeB (l ++ [x]) i j = beforeB l i j := by
  unfold beforeB nameOf bodyOf
  rw [List.getElem?_append_left hi, List.getElem?_append_left hj]
theorem names_app {l : List UnitV} {x : UnitV} {ns : List Nat} (hs : NamesOk (l ++ [x]) ns) : NamesOk l (ns.filter (fun i => i != l.length)) := by
  have hlt : ∀ i, i ∈ ns.filter (fun i => i != l.length) ↔ i < l.length := by
    intro i
    rw [List.mem_filter, hs.mem i]
    simp
    omega
  refine ⟨?_, hlt⟩
  refine (hs.sorted.filter _).imp_of_mem fun {a b} ha hb hab => ?_
  rw [before_app ((hlt a).1 ha) ((hlt b).1 hb)] at hab
  exact hab

theorem find_skip {p : Nat → Bool} {n : Nat} (hp : p n = false) : ∀ ns : List Nat, ns.find? p = (ns.filter (fun i => i != n)).find? p := by
  intro ns
  induction ns with
  | nil => rfl
  | cons a ns ih =>
    by_cases e : a = n
    · subst e
      rw [List.find?_cons, hp, List.filter_cons_of_neg (by simp)]
      exact ih
    · rw [List.filter_cons_of_pos (by simpa using e), List.find?_cons, List.find?_cons]
      cases p a
      · exact ih
      · rfl
theorem find_other {p : Nat → Bool} {n i : Nat} (hi : i ≠ n) : ∀ ns : List Nat, ns.find? p = some i → (ns.filter (fun i => i != n)).find? p = some i := by
  intro ns
  induction ns with
  | nil => intro h; cases h
  | cons a ns ih =>
    intro h
    rw [List.find?_cons] at h
    by_cases e : a = n
    · subst e
      rw [List.filter_cons_of_neg (by simp)]
      cases hp : p a
      · rw [hp] at h; exact ih h
      · rw [hp] at h; injection h with h; exact absurd h.symm hi
    · rw [List.filter_cons_of_pos (by simpa using e), List.find?_cons]
      cases hp : p a
      · rw [hp] at h; exact ih h
      · rw [hp] at h; exact h
theorem find_congr {p q : Nat → Bool} : ∀ ns : List Nat, (∀ i, i ∈ ns → p i = q i) → ns.find? p = ns.find? q := by
  intro ns
  induction ns with
  | nil => intro _; rfl
  | cons a ns ih =>
    intro h
    rw [List.find?_cons, List.find?_cons, h a (by simp), ih fun i hi => h i (by simp [hi])]

theorem app_ready {l : List UnitV} {subs : List SubV} {x : UnitV} {nl nl' : List (List Int)} (hm : May l subs) (hn : NeedsOk l subs nl) (hn' : NeedsOk (l ++ [x]) subs nl') {t : List Bool} (ht : t.length = l.length) (b : Bool) {i : Nat} (hi : i < l.length) :
    readyB nl' (t ++ [b]) i = readyB nl t i := by
  have htk : ∀ j, j < l.length → tk (t ++ [b]) j = tk t j := fun j hj => by unfold tk; rw [List.getElem?_append_left (by omega)]
  unfold readyB
  rw [htk i hi]
  congr 1
  rw [Bool.eq_iff_iff, allTk_iff, allTk_iff]
  have hmem : ∀ n, n ∈ needAt nl' i ↔ n ∈ needAt nl i := fun n => by
    rw [needAt_mem hn' (by simp; omega), needAt_mem hn hi, need_app hi]
  constructor
  · intro ha y hy
    have hr := need_range hm ((needAt_mem hn hi _).1 hy)
    have := ha y ((hmem y).2 hy)
    rwa [htk _ (by omega)] at this
  · intro ha y hy
    have hy' := (hmem y).1 hy
    have hr := need_range hm ((needAt_mem hn hi _).1 hy')
    rw [htk _ (by omega)]
    exact ha y hy'
theorem app_ready_last {l : List UnitV} {subs : List SubV} {x : UnitV} {nl' : List (List Int)} (h1 : x.needs = []) (h2 : x.calls = []) (hn' : NeedsOk (l ++ [x]) subs nl') {t : List Bool} (ht : t.length = l.length) (b : Bool) :
    readyB nl' (t ++ [b]) l.length = !b := by
  unfold readyB
  have hA : allTk (t ++ [b]) (needAt nl' l.length) = true := allTk_iff.2 fun y hy => by
    rw [needAt_mem hn' (by simp)] at hy
    exact absurd hy (need_last h1 h2 y)
  have hT : tk (t ++ [b]) l.length = b := by
    unfold tk
    rw [← ht, List.getElem?_append_right (Nat.le_refl _)]
    simp
  rw [hA, hT, Bool.and_true]

theorem orderG_app {l : List UnitV} {subs : List SubV} {x : UnitV} {nl nl' : List (List Int)} {ns : List Nat} (hm : May l subs) (h1 : x.needs = []) (h2 : x.calls = []) (hn : NeedsOk l subs nl) (hn' : NeedsOk (l ++ [x]) subs nl') (hs : NamesOk (l ++ [x]) ns) :
    ∀ (k' k : Nat) (t : List Bool) (b : Bool) (out out' : List Nat), t.length = l.length → countF t = k → k' = (if b then k else k + 1) → out'.filter (fun i => i != l.length) = out →
      (orderG ns nl' k' (t ++ [b]) out').map (List.filter (fun i => i != l.length)) = orderG (ns.filter (fun i => i != l.length)) nl k t out := by
  have hns := names_app hs
  intro k'
  induction k' with
  | zero =>
    intro k t b out out' ht hc hk ho
    cases b
    · simp at hk
    · simp only [if_true] at hk
      subst hk
      show some _ = some _
      rw [ho]
  | succ k' ih =>
    intro k t b out out' ht hc hk ho
    have hcon : (ns.filter (fun i => i != l.length)).find? (readyB nl' (t ++ [b])) = (ns.filter (fun i => i != l.length)).find? (readyB nl t) := find_congr _ fun i hi => app_ready hm hn hn' ht b ((hns.mem i).1 hi)
    have hlast := app_ready_last h1 h2 hn' ht b
    rw [orderG]
    cases b
    · have hkk : k = k' := by simp at hk; omega
      subst hkk
      cases hf : ns.find? (readyB nl' (t ++ [false])) with
      | none =>
        rw [List.find?_eq_none] at hf
        exact absurd hlast (by simpa using hf l.length ((hs.mem _).2 (by simp)))
      | some i =>
        by_cases e : i = l.length
        · subst e
          have hset : (t ++ [false]).set l.length true = t ++ [true] := by
            rw [← ht, List.set_append_right _ _ (Nat.le_refl _)]; simp
          have := ih k t true out (out' ++ [l.length]) ht hc rfl (by rw [List.filter_append, ho]; simp)
          show (orderG ns nl' k ((t ++ [false]).set l.length true) (out' ++ [l.length])).map _ = _
          rw [hset]
          exact this
        · have hfi := find_other e ns hf
          rw [hcon] at hfi
          have hi : i < l.length := (hns.mem i).1 (List.mem_of_find?_eq_some hfi)
          have hset : (t ++ [false]).set i true = t.set i true ++ [false] := List.set_append_left _ _ (by omega)
          have hr := (ready_iff.1 (List.find?_some hfi)).1
          have hcs := countF_set hr
          cases k with
          | zero => omega
          | succ k =>
            have := ih k (t.set i true) false (out ++ [i]) (out' ++ [i]) (by rw [List.length_set]; exact ht) (by omega) rfl (by rw [List.filter_append, ho]; simp [e])
            show (orderG ns nl' (k + 1) ((t ++ [false]).set i true) (out' ++ [i])).map _ = _
            have hstep : orderG (ns.filter (fun i => i != l.length)) nl (k + 1) t out = orderG (ns.filter (fun i => i != l.length)) nl k (t.set i true) (out ++ [i]) := by rw [orderG, hfi]
            rw [hset, hstep]
            exact this
    · have hkk : k = k' + 1 := by simp at hk; omega
      subst hkk
      rw [find_skip hlast, hcon, orderG]
      cases hf : (ns.filter (fun i => i != l.length)).find? (readyB nl t) with
      | none => rfl
      | some i =>
        have hi : i < l.length := (hns.mem i).1 (List.mem_of_find?_eq_some hf)
        have hset : (t ++ [true]).set i true = t.set i true ++ [true] := List.set_append_left _ _ (by omega)
        have hcs := countF_set (ready_iff.1 (List.find?_some hf)).1
        have := ih k' (t.set i true) true (out ++ [i]) (out' ++ [i]) (by rw [List.length_set]; exact ht) (by omega) rfl (by rw [List.filter_append, ho]; simp; omega)
        show (orderG ns nl' k' ((t ++ [true]).set i true) (out' ++ [i])).map _ = orderG _ _ k' (t.set i true) (out ++ [i])
        rw [hset]
        exact this

theorem orderR_app {l : List UnitV} {subs : List SubV} {x : UnitV} {nl nl' : List (List Int)} {ns ns' : List Nat} (hm : May l subs) (h1 : x.needs = []) (h2 : x.calls = []) (hn : NeedsOk l subs nl) (hn' : NeedsOk (l ++ [x]) subs nl') (hs : NamesOk l ns) (hs' : NamesOk (l ++ [x]) ns') :
    (orderR ns' nl').map (List.filter (fun i => i != l.length)) = orderR ns nl := by
  have e : ns = ns'.filter (fun i => i != l.length) := hs.uniq (names_app hs')
  subst e
  unfold orderR
  have hl : nl'.length = nl.length + 1 := by rw [hn.len, hn'.len]; simp
  rw [hl, List.replicate_succ']
  exact orderG_app hm h1 h2 hn hn' hs' (nl.length + 1) nl.length _ false [] [] (by simp [hn.len]) (countF_rep _) rfl rfl
end Go.Proofs.Ytoaklikkepkhfaa
