/- Plain: lists of units and subprograms; what a unit reaches. -/
import Derived.WalkKit
namespace Go.Proofs.Ytoaklikkepkhfaa
open Go

/-- A unit, with the addresses of its two lists. -/
structure UnitV where
  name : ByteArray
  body : Bool
  na : Option Addr
  nc : Nat
  needs : List Int
  ca : Option Addr
  cc : Nat
  calls : List Int
/-- A subprogram, with the address of its list. -/
structure SubV where
  unit : Int
  ca : Option Addr
  cc : Nat
  calls : List Int
instance : Inhabited UnitV := ⟨⟨⟨#[]⟩, false, none, 0, [], none, 0, []⟩⟩
instance : Inhabited SubV := ⟨⟨0, none, 0, []⟩⟩

def inR (n : Nat) (x : Int) : Bool := decide (0 ≤ x) && decide (x < n)
def withinR (n : Nat) (l : List Int) : Bool := l.all (inR n)
def unitOk (n m : Nat) (x : UnitV) : Bool := withinR n x.needs && withinR m x.calls
def subOk (n m : Nat) (x : SubV) : Bool := inR n x.unit && withinR m x.calls
def mayR (l : List UnitV) (subs : List SubV) : Bool :=
  (decide (l.length ≤ 256) && decide (subs.length ≤ 4096)) && (l.all (unitOk l.length subs.length) && subs.all (subOk l.length subs.length))

theorem inR_iff {n : Nat} {x : Int} : inR n x = true ↔ 0 ≤ x ∧ x < n := by simp [inR]
theorem withinR_iff {n : Nat} {l : List Int} : withinR n l = true ↔ ∀ x, x ∈ l → 0 ≤ x ∧ x < n := by
  unfold withinR
  rw [List.all_eq_true]
  exact ⟨fun h x hx => inR_iff.1 (h x hx), fun h x hx => inR_iff.2 (h x hx)⟩

/-- Valid lists, as a proposition. -/
structure May (l : List UnitV) (subs : List SubV) : Prop where
  l256 : l.length ≤ 256
  s4096 : subs.length ≤ 4096
  needs : ∀ x, x ∈ l → ∀ n, n ∈ x.needs → 0 ≤ n ∧ n < l.length
  calls : ∀ x, x ∈ l → ∀ n, n ∈ x.calls → 0 ≤ n ∧ n < subs.length
  unit : ∀ x, x ∈ subs → 0 ≤ x.unit ∧ x.unit < l.length
  subc : ∀ x, x ∈ subs → ∀ n, n ∈ x.calls → 0 ≤ n ∧ n < subs.length
theorem may_of {l : List UnitV} {subs : List SubV} (h : mayR l subs = true) : May l subs := by
  unfold mayR at h
  simp only [Bool.and_eq_true, decide_eq_true_eq, List.all_eq_true, unitOk, subOk, withinR_iff, inR_iff] at h
  obtain ⟨⟨h1, h2⟩, h3, h4⟩ := h
  exact ⟨h1, h2, fun x hx => (h3 x hx).1, fun x hx => (h3 x hx).2, fun x hx => (h4 x hx).1, fun x hx => (h4 x hx).2⟩
theorem May.yes {l : List UnitV} {subs : List SubV} (h : May l subs) : mayR l subs = true := by
  unfold mayR
  simp only [Bool.and_eq_true, decide_eq_true_eq, List.all_eq_true, unitOk, subOk, withinR_iff, inR_iff]
  exact ⟨⟨h.1, h.2⟩, fun x hx => ⟨h.needs x hx, h.calls x hx⟩, fun x hx => ⟨h.unit x hx, h.subc x hx⟩⟩

def callsOf (subs : List SubV) (s : Int) : List Int := ((subs[s.toNat]?).map SubV.calls).getD []
def unitOf (subs : List SubV) (s : Int) : Int := ((subs[s.toNat]?).map SubV.unit).getD 0
theorem callsOf_eq {subs : List SubV} {s : Int} {x : SubV} (h : subs[s.toNat]? = some x) : callsOf subs s = x.calls := by simp [callsOf, h]
theorem unitOf_eq {subs : List SubV} {s : Int} {x : SubV} (h : subs[s.toNat]? = some x) : unitOf subs s = x.unit := by simp [unitOf, h]

/-- The subprograms that are reached from a list. -/
inductive Reach (subs : List SubV) (start : List Int) : Int → Prop
  | base {s : Int} : s ∈ start → Reach subs start s
  | step {s t : Int} : Reach subs start s → t ∈ callsOf subs s → Reach subs start t

theorem Reach.inr {subs : List SubV} {start : List Int} (hst : ∀ s, s ∈ start → 0 ≤ s ∧ s < subs.length) (hc : ∀ x, x ∈ subs → ∀ n, n ∈ x.calls → 0 ≤ n ∧ n < subs.length) {s : Int} (h : Reach subs start s) : 0 ≤ s ∧ s < subs.length := by
  induction h with
  | base h => exact hst _ h
  | step _ h _ =>
    unfold callsOf at h
    cases hq : subs[Int.toNat _]? with
    | none => rw [hq] at h; simp at h
    | some x =>
      rw [hq] at h
      exact hc x (List.mem_of_getElem? hq) _ h

/-- What a unit needs. -/
def NeedP (l : List UnitV) (subs : List SubV) (u : Nat) (n : Int) : Prop :=
  n ≠ (u : Int) ∧ ∃ x, l[u]? = some x ∧ (n ∈ x.needs ∨ ∃ s, Reach subs x.calls s ∧ unitOf subs s = n)

/-- A search: which subprograms have been seen, and which are to be looked at. -/
structure RInv (subs : List SubV) (start : List Int) (bs : List Bool) (todo : List Int) : Prop where
  len : bs.length = subs.length
  sound : ∀ s : Nat, bs[s]? = some true → Reach subs start s
  todoR : ∀ s, s ∈ todo → Reach subs start s
  start : ∀ s, s ∈ start → bs[s.toNat]? = some true ∨ s ∈ todo
  closed : ∀ s : Nat, bs[s]? = some true → ∀ c, c ∈ callsOf subs s → bs[c.toNat]? = some true ∨ c ∈ todo

theorem RInv.begin (subs : List SubV) (start : List Int) : RInv subs start (List.replicate subs.length false) start := by
  refine ⟨by simp, fun s h => ?_, fun s h => .base h, fun s h => .inr h, fun s h => ?_⟩
  · rw [List.getElem?_replicate] at h; split at h <;> simp at h
  · rw [List.getElem?_replicate] at h; split at h <;> simp at h

theorem RInv.old {subs : List SubV} {start : List Int} {bs : List Bool} {todo todo' : List Int} {s : Int} (h : RInv subs start bs todo) (hs : bs[s.toNat]? = some true)
    (h1 : ∀ x, x ∈ todo → x = s ∨ x ∈ todo') (h2 : ∀ x, x ∈ todo' → x ∈ todo) : RInv subs start bs todo' := by
  refine ⟨h.len, h.sound, fun x hx => h.todoR x (h2 x hx), fun x hx => ?_, fun x hx c hc => ?_⟩
  · rcases h.start x hx with h' | h'
    · exact .inl h'
    · rcases h1 x h' with rfl | h'
      · exact .inl hs
      · exact .inr h'
  · rcases h.closed x hx c hc with h' | h'
    · exact .inl h'
    · rcases h1 c h' with rfl | h'
      · exact .inl hs
      · exact .inr h'

theorem set_true {bs : List Bool} {i j : Nat} (h : bs[j]? = some true) (hi : i < bs.length) : (bs.set i true)[j]? = some true := by
  rw [List.getElem?_set]
  by_cases e : i = j
  · subst e; simp [hi]
  · rw [if_neg e]; exact h
theorem set_true_iff {bs : List Bool} {i j : Nat} (hi : i < bs.length) : (bs.set i true)[j]? = some true ↔ (j = i ∨ bs[j]? = some true) := by
  rw [List.getElem?_set]
  by_cases e : i = j
  · subst e; simp [hi]
  · rw [if_neg e]
    constructor
    · exact .inr
    · rintro (h | h)
      · exact absurd h.symm e
      · exact h

theorem RInv.new {subs : List SubV} {start : List Int} {bs : List Bool} {todo todo' : List Int} {s : Int} (h : RInv subs start bs todo) (h0 : 0 ≤ s) (hs : bs[s.toNat]? = some false) (hm : s ∈ todo)
    (h1 : ∀ x, x ∈ todo → x = s ∨ x ∈ todo') (h2 : ∀ x, x ∈ callsOf subs s → x ∈ todo') (h3 : ∀ x, x ∈ todo' → x ∈ todo ∨ x ∈ callsOf subs s) : RInv subs start (bs.set s.toNat true) todo' := by
  have hi : s.toNat < bs.length := (List.getElem?_eq_some_iff.1 hs).1
  have hsn : ((s.toNat : Nat) : Int) = s := by omega
  have hR := h.todoR s hm
  refine ⟨by rw [List.length_set]; exact h.len, fun x hx => ?_, fun x hx => ?_, fun x hx => ?_, fun x hx c hc => ?_⟩
  · rcases (set_true_iff hi).1 hx with rfl | hx
    · rw [hsn]; exact hR
    · exact h.sound x hx
  · rcases h3 x hx with hx | hx
    · exact h.todoR x hx
    · exact .step hR hx
  · rw [set_true_iff hi]
    rcases h.start x hx with h' | h'
    · exact .inl (.inr h')
    · rcases h1 x h' with rfl | h'
      · exact .inl (.inl rfl)
      · exact .inr h'
  · rw [set_true_iff hi]
    rcases (set_true_iff hi).1 hx with rfl | hx
    · rw [hsn] at hc
      exact .inr (h2 c hc)
    · rcases h.closed x hx c hc with h' | h'
      · exact .inl (.inr h')
      · rcases h1 c h' with rfl | h'
        · exact .inl (.inl rfl)
        · exact .inr h'

/-- When nothing is left, just what is reached has been seen. -/
theorem RInv.done {subs : List SubV} {start : List Int} {bs : List Bool} (h : RInv subs start bs []) (hst : ∀ s, s ∈ start → 0 ≤ s ∧ s < subs.length) (hc : ∀ x, x ∈ subs → ∀ n, n ∈ x.calls → 0 ≤ n ∧ n < subs.length) (s : Int) (h0 : 0 ≤ s) :
    bs[s.toNat]? = some true ↔ Reach subs start s := by
  have hsn : ∀ s : Int, 0 ≤ s → ((s.toNat : Nat) : Int) = s := fun s h => by omega
  constructor
  · intro h'
    have := h.sound _ h'
    rwa [hsn s h0] at this
  · intro h'
    clear h0
    induction h' with
    | base hm =>
      rcases h.start _ hm with h' | h'
      · exact h'
      · simp at h'
    | step hr hm ih =>
      have h00 := (hr.inr hst hc).1
      have := h.closed _ ih
      rw [hsn _ h00] at this
      rcases this _ hm with h' | h'
      · exact h'
      · simp at h'

/-- Room: what is still to come, at most. -/
def unseen : List Bool → List SubV → Nat
  | b :: bs, x :: subs => (if b then 0 else x.calls.length + 1) + unseen bs subs
  | _, _ => 0
theorem unseen_set {bs : List Bool} {subs : List SubV} {i : Nat} {x : SubV} (hb : bs[i]? = some false) (hx : subs[i]? = some x) : unseen (bs.set i true) subs + (x.calls.length + 1) = unseen bs subs := by
  induction bs generalizing subs i with
  | nil => simp at hb
  | cons b bs ih =>
    cases subs with
    | nil => simp at hx
    | cons y subs =>
      cases i with
      | zero =>
        simp at hb hx
        subst hb hx
        simp [unseen]; omega
      | succ i =>
        simp at hb hx
        have := ih hb hx
        simp only [List.set_cons_succ, unseen]
        omega
def allCalls (subs : List SubV) : Nat := (subs.map fun x => x.calls.length + 1).sum
theorem unseen_begin (subs : List SubV) : unseen (List.replicate subs.length false) subs = allCalls subs := by
  induction subs with
  | nil => rfl
  | cons x subs ih => simp only [List.length_cons, List.replicate_succ, unseen, allCalls, List.map_cons, List.sum_cons]; rw [ih]; simp [allCalls]

/-- What has been gathered so far. -/
def OutInv (subs : List SubV) (needs : List Int) (bs : List Bool) (out : List Int) : Prop :=
  ∀ n, n ∈ out ↔ n ∈ needs ∨ ∃ s : Nat, bs[s]? = some true ∧ unitOf subs s = n
theorem OutInv.begin (subs : List SubV) (needs : List Int) : OutInv subs needs (List.replicate subs.length false) needs := by
  intro n
  constructor
  · exact .inl
  · rintro (h | ⟨s, h, _⟩)
    · exact h
    · rw [List.getElem?_replicate] at h; split at h <;> simp at h
theorem OutInv.new {subs : List SubV} {needs : List Int} {bs : List Bool} {out : List Int} (h : OutInv subs needs bs out) {s : Int} (h0 : 0 ≤ s) (hs : s.toNat < bs.length) : OutInv subs needs (bs.set s.toNat true) (out ++ [unitOf subs s]) := by
  have hsn : ((s.toNat : Nat) : Int) = s := by omega
  intro n
  rw [List.mem_append, List.mem_singleton, h n]
  constructor
  · rintro ((h' | ⟨j, hj, e⟩) | rfl)
    · exact .inl h'
    · exact .inr ⟨j, (set_true_iff hs).2 (.inr hj), e⟩
    · exact .inr ⟨s.toNat, (set_true_iff hs).2 (.inl rfl), by rw [hsn]⟩
  · rintro (h' | ⟨j, hj, e⟩)
    · exact .inl (.inl h')
    · rcases (set_true_iff hs).1 hj with rfl | hj
      · rw [hsn] at e; exact .inr e.symm
      · exact .inl (.inr ⟨j, hj, e⟩)

/-- A list that says what a unit needs: ascending, without doubles. -/
def NeedList (l : List UnitV) (subs : List SubV) (u : Nat) (out : List Int) : Prop :=
  out.Pairwise (· < ·) ∧ ∀ n, n ∈ out ↔ NeedP l subs u n

theorem sorted_ext {a b : List Int} (ha : a.Pairwise (· < ·)) (hb : b.Pairwise (· < ·)) (h : ∀ n, n ∈ a ↔ n ∈ b) : a = b := by
  induction a generalizing b with
  | nil =>
    cases b with
    | nil => rfl
    | cons y b => exact absurd ((h y).2 (by simp)) (by simp)
  | cons x a ih =>
    cases b with
    | nil => exact absurd ((h x).1 (by simp)) (by simp)
    | cons y b =>
      rw [List.pairwise_cons] at ha hb
      have hxy : x = y := by
        have h1 := (h x).1 (by simp)
        have h2 := (h y).2 (by simp)
        rcases List.mem_cons.1 h1 with e | e
        · exact e
        · rcases List.mem_cons.1 h2 with e' | e'
          · exact e'.symm
          · have := hb.1 x e; have := ha.1 y e'; omega
      subst hxy
      rw [ih ha.2 hb.2 (fun n => ?_)]
      constructor
      · intro hn
        rcases List.mem_cons.1 ((h n).1 (by simp [hn])) with e | e
        · subst e; exact absurd (ha.1 _ hn) (by omega)
        · exact e
      · intro hn
        rcases List.mem_cons.1 ((h n).2 (by simp [hn])) with e | e
        · subst e; exact absurd (hb.1 _ hn) (by omega)
        · exact e
theorem NeedList.uniq {l : List UnitV} {subs : List SubV} {u : Nat} {a b : List Int} (ha : NeedList l subs u a) (hb : NeedList l subs u b) : a = b :=
  sorted_ext ha.1 hb.1 fun n => (ha.2 n).trans (hb.2 n).symm
end Go.Proofs.Ytoaklikkepkhfaa
