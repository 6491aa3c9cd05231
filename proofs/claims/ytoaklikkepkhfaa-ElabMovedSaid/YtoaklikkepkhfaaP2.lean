/- Plain: the order of names, and the order of elaboration. -/
import Derived.Sort.Walk0
import Derived.Test.YtoaklikkepkhfaaP1
namespace Go.Proofs.Ytoaklikkepkhfaa
open Go

theorem bl_irrefl (x : List UInt8) : Op.bytesLess x x = false := by rw [bytesLess_eq]; simp
theorem bl_trans {x y z : List UInt8} (h : Op.bytesLess x y = true) (h' : Op.bytesLess y z = true) : Op.bytesLess x z = true := by
  rw [bytesLess_eq] at *
  simp only [decide_eq_true_eq] at *
  exact List.lt_trans h h'
theorem bl_asymm {x y : List UInt8} (h : Op.bytesLess x y = true) : Op.bytesLess y x = false := by
  cases h' : Op.bytesLess y x
  · rfl
  · have := bl_trans h h'; rw [bl_irrefl] at this; cases this
theorem bl_total {x y : List UInt8} (h : Op.bytesLess x y = false) (h' : Op.bytesLess y x = false) : x = y := by
  rw [bytesLess_eq] at *
  simp only [decide_eq_false_iff_not] at *
  exact List.le_antisymm (by simpa using h') (by simpa using h)

def nameOf (l : List UnitV) (i : Nat) : List UInt8 := ((l[i]?).map (fun x => x.name.toList)).getD []
def bodyOf (l : List UnitV) (i : Nat) : Bool := ((l[i]?).map UnitV.body).getD false
/-- The order of names: by name, a body behind what is none, by place. -/
def beforeB (l : List UnitV) (i j : Nat) : Bool :=
  if (nameOf l i == nameOf l j) = false then Op.bytesLess (nameOf l i) (nameOf l j) else if (bodyOf l i == bodyOf l j) = false then bodyOf l j else decide (i < j)

theorem before_irrefl (l : List UnitV) (i : Nat) : beforeB l i i = false := by simp [beforeB]
theorem before_trans {l : List UnitV} {i j k : Nat} (h : beforeB l i j = true) (h' : beforeB l j k = true) : beforeB l i k = true := by
  unfold beforeB at *
  generalize nameOf l i = a at *
  generalize nameOf l j = b at *
  generalize nameOf l k = c at *
  generalize bodyOf l i = p at *
  generalize bodyOf l j = q at *
  generalize bodyOf l k = r at *
  cases hab : (a == b) <;> cases hbc : (b == c) <;> simp only [hab, hbc, if_true, Bool.true_eq_false, if_false] at h h'
  · have hac : (a == c) = false := by
      rw [beq_eq_false_iff_ne]; intro e; subst e
      have := bl_trans h h'; rw [bl_irrefl] at this; cases this
    rw [if_pos hac]; exact bl_trans h h'
  · have e : b = c := by simpa using hbc
    subst e
    rw [if_pos hab]; exact h
  · have e : a = b := by simpa using hab
    subst e
    rw [if_pos hbc]; exact h'
  · have e : a = b := by simpa using hab
    have e' : b = c := by simpa using hbc
    subst e e'
    simp only [beq_self_eq_true, Bool.true_eq_false, if_false]
    cases p <;> cases q <;> cases r <;> simp_all <;> omega
theorem before_total {l : List UnitV} {i j : Nat} (h : i ≠ j) : beforeB l i j = true ∨ beforeB l j i = true := by
  unfold beforeB
  generalize nameOf l i = a at *
  generalize nameOf l j = b at *
  generalize bodyOf l i = p at *
  generalize bodyOf l j = q at *
  cases hab : (a == b)
  · have hba : (b == a) = false := by rw [beq_eq_false_iff_ne] at *; exact fun e => hab e.symm
    rw [if_pos rfl, if_pos hba]
    cases h1 : Op.bytesLess a b
    · cases h2 : Op.bytesLess b a
      · rw [beq_eq_false_iff_ne] at hab; exact absurd (bl_total h1 h2) hab
      · exact .inr rfl
    · exact .inl rfl
  · have e : a = b := by simpa using hab
    subst e
    cases p <;> cases q <;> simp <;> omega
theorem before_asymm {l : List UnitV} {i j : Nat} (h : beforeB l i j = true) : beforeB l j i = false := by
  cases h' : beforeB l j i
  · rfl
  · have := before_trans h h'; rw [before_irrefl] at this; cases this

/-- The places in the order of names. -/
structure NamesOk (l : List UnitV) (ns : List Nat) : Prop where
  sorted : ns.Pairwise (fun i j => beforeB l i j = true)
  mem : ∀ i, i ∈ ns ↔ i < l.length

theorem NamesOk.uniq {l : List UnitV} {a b : List Nat} (ha : NamesOk l a) (hb : NamesOk l b) : a = b := by
  have key : ∀ (a b : List Nat), a.Pairwise (fun i j => beforeB l i j = true) → b.Pairwise (fun i j => beforeB l i j = true) → (∀ i, i ∈ a ↔ i ∈ b) → a = b := by
    intro a
    induction a with
    | nil =>
      intro b _ _ h
      cases b with
      | nil => rfl
      | cons y b => exact absurd ((h y).2 (by simp)) (by simp)
    | cons x a ih =>
      intro b ha hb h
      cases b with
      | nil => exact absurd ((h x).1 (by simp)) (by simp)
      | cons y b =>
        rw [List.pairwise_cons] at ha hb
        have hxy : x = y := by
          rcases List.mem_cons.1 ((h x).1 (by simp)) with e | e
          · exact e
          · rcases List.mem_cons.1 ((h y).2 (by simp)) with e' | e'
            · exact e'.symm
            · have := before_asymm (hb.1 x e); rw [ha.1 y e'] at this; cases this
        subst hxy
        rw [ih b ha.2 hb.2 (fun n => ?_)]
        constructor
        · intro hn
          rcases List.mem_cons.1 ((h n).1 (by simp [hn])) with e | e
          · subst e; have := ha.1 _ hn; rw [before_irrefl] at this; cases this
          · exact e
        · intro hn
          rcases List.mem_cons.1 ((h n).2 (by simp [hn])) with e | e
          · subst e; have := hb.1 _ hn; rw [before_irrefl] at this; cases this
          · exact e
  exact key a b ha.sorted hb.sorted fun i => (ha.mem i).trans (hb.mem i).symm

theorem names_exist (l : List UnitV) : ∃ ns, NamesOk l ns := by
  refine ⟨(List.range l.length).mergeSort (fun i j => !beforeB l j i), ?_, fun i => ?_⟩
  · have hs := List.pairwise_mergeSort (le := fun i j => !beforeB l j i) (fun a b c h1 h2 => by
      simp only [Bool.not_eq_true'] at *
      cases h : beforeB l c a
      · rfl
      · by_cases e : b = a
        · subst e; rw [h] at h2; cases h2
        · rcases before_total (l := l) e with h' | h'
          · rw [h'] at h1; cases h1
          · have := before_trans h h'; rw [this] at h2; cases h2) (fun a b => by
      cases h : beforeB l b a
      · simp
      · simp [before_asymm h]) (List.range l.length)
    have hp := List.mergeSort_perm (List.range l.length) (fun i j => !beforeB l j i)
    have hn : ((List.range l.length).mergeSort (fun i j => !beforeB l j i)).Nodup := hp.symm.nodup List.nodup_range
    refine (hs.and hn).imp fun {a b} h => ?_
    obtain ⟨h1, h2⟩ := h
    rcases before_total (l := l) h2 with h' | h'
    · exact h'
    · simp [h'] at h1
  · rw [(List.mergeSort_perm _ _).mem_iff, List.mem_range]

theorem NamesOk.nodup {l : List UnitV} {ns : List Nat} (h : NamesOk l ns) : ns.Nodup :=
  h.sorted.imp fun {a b} hab e => by subst e; rw [before_irrefl] at hab; cases hab
theorem NamesOk.length {l : List UnitV} {ns : List Nat} (h : NamesOk l ns) : ns.length = l.length := by
  have hp : ns.Perm (List.range l.length) := (List.perm_ext_iff_of_nodup h.nodup List.nodup_range).2 fun i => by rw [h.mem, List.mem_range]
  rw [hp.length_eq, List.length_range]

/-- Lists of what each unit needs. -/
structure NeedsOk (l : List UnitV) (subs : List SubV) (nl : List (List Int)) : Prop where
  len : nl.length = l.length
  at' : ∀ (u : Nat) (x : List Int), nl[u]? = some x → NeedList l subs u x

def needAt (nl : List (List Int)) (i : Nat) : List Int := (nl[i]?).getD []
def tk (taken : List Bool) (j : Nat) : Bool := (taken[j]?).getD true
def allTk (taken : List Bool) (need : List Int) : Bool := need.all (fun x => tk taken x.toNat)
/-- May a unit be taken? -/
def readyB (nl : List (List Int)) (taken : List Bool) (i : Nat) : Bool := !tk taken i && allTk taken (needAt nl i)

def orderG (ns : List Nat) (nl : List (List Int)) : Nat → List Bool → List Nat → Option (List Nat)
  | 0, _, out => some out
  | k + 1, taken, out => match ns.find? (readyB nl taken) with
    | none => none
    | some i => orderG ns nl k (taken.set i true) (out ++ [i])
def orderR (ns : List Nat) (nl : List (List Int)) : Option (List Nat) := orderG ns nl nl.length (List.replicate nl.length false) []

/-- What Order hands back, as numbers. -/
def orderI (o : Option (List Nat)) : List Int × Int := match o with
  | none => ([], 150)
  | some l => (l.map (fun i : Nat => (i : Int)), 0)

/-- The least of those that may be taken, among the first k. -/
def LeastB (l : List UnitV) (p : Nat → Bool) (k : Nat) : Option Nat → Prop
  | none => ∀ j, j < k → p j = false
  | some i => i < k ∧ p i = true ∧ ∀ j, j < k → p j = true → j = i ∨ beforeB l i j = true
theorem LeastB.zero (l : List UnitV) (p : Nat → Bool) : LeastB l p 0 none := fun j hj => by omega
theorem LeastB.no {l : List UnitV} {p : Nat → Bool} {k : Nat} {o : Option Nat} (h : LeastB l p k o) (hp : p k = false) : LeastB l p (k + 1) o := by
  cases o with
  | none =>
    intro j hj
    by_cases e : j = k
    · rw [e]; exact hp
    · exact h j (by omega)
  | some i =>
    obtain ⟨h1, h2, h3⟩ := h
    refine ⟨by omega, h2, fun j hj hpj => ?_⟩
    by_cases e : j = k
    · rw [e, hp] at hpj; cases hpj
    · exact h3 j (by omega) hpj
theorem LeastB.first {l : List UnitV} {p : Nat → Bool} {k : Nat} (h : LeastB l p k none) (hp : p k = true) : LeastB l p (k + 1) (some k) := by
  refine ⟨by omega, hp, fun j hj hpj => ?_⟩
  by_cases e : j = k
  · exact .inl e
  · rw [h j (by omega)] at hpj; cases hpj
theorem LeastB.better {l : List UnitV} {p : Nat → Bool} {k i : Nat} (h : LeastB l p k (some i)) (hp : p k = true) (hb : beforeB l k i = true) : LeastB l p (k + 1) (some k) := by
  obtain ⟨h1, h2, h3⟩ := h
  refine ⟨by omega, hp, fun j hj hpj => ?_⟩
  by_cases e : j = k
  · exact .inl e
  · rcases h3 j (by omega) hpj with rfl | h'
    · exact .inr hb
    · exact .inr (before_trans hb h')
theorem LeastB.worse {l : List UnitV} {p : Nat → Bool} {k i : Nat} (h : LeastB l p k (some i)) (hb : beforeB l k i = false) : LeastB l p (k + 1) (some i) := by
  obtain ⟨h1, h2, h3⟩ := h
  refine ⟨by omega, h2, fun j hj hpj => ?_⟩
  by_cases e : j = k
  · subst e
    rcases before_total (l := l) (i := i) (j := j) (by omega) with h' | h'
    · exact .inr h'
    · rw [hb] at h'; cases h'
  · exact h3 j (by omega) hpj
theorem find_sorted {l : List UnitV} {p : Nat → Bool} : ∀ (ns : List Nat), ns.Pairwise (fun i j => beforeB l i j = true) → ∀ (o : Option Nat), (match o with | none => ∀ j, j ∈ ns → p j = false | some i => i ∈ ns ∧ p i = true ∧ ∀ j, j ∈ ns → p j = true → j = i ∨ beforeB l i j = true) → ns.find? p = o := by
  intro ns
  induction ns with
  | nil => intro _ o h; cases o with
    | none => rfl
    | some i => exact absurd h.1 (by simp)
  | cons x ns ih =>
    intro hs o h
    rw [List.pairwise_cons] at hs
    cases hp : p x
    · rw [List.find?_cons, hp]
      refine ih hs.2 o ?_
      cases o with
      | none => exact fun j hj => h j (by simp [hj])
      | some i =>
        obtain ⟨h1, h2, h3⟩ := h
        refine ⟨?_, h2, fun j hj => h3 j (by simp [hj])⟩
        rcases List.mem_cons.1 h1 with rfl | h1
        · rw [hp] at h2; cases h2
        · exact h1
    · rw [List.find?_cons, hp]
      cases o with
      | none => have := h x (by simp); rw [hp] at this; cases this
      | some i =>
        obtain ⟨h1, h2, h3⟩ := h
        rcases h3 x (by simp) hp with rfl | h'
        · rfl
        · rcases List.mem_cons.1 h1 with rfl | h1
          · rfl
          · have := before_asymm (hs.1 i h1); rw [h'] at this; cases this
theorem LeastB.find {l : List UnitV} {p : Nat → Bool} {ns : List Nat} {o : Option Nat} (hn : NamesOk l ns) (h : LeastB l p l.length o) : ns.find? p = o := by
  refine find_sorted ns hn.sorted o ?_
  cases o with
  | none => exact fun j hj => h j ((hn.mem j).1 hj)
  | some i => exact ⟨(hn.mem i).2 h.1, h.2.1, fun j hj => h.2.2 j ((hn.mem j).1 hj)⟩
end Go.Proofs.Ytoaklikkepkhfaa
