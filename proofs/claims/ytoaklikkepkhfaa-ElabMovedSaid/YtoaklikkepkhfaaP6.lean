/- Plain: what the comparison of places says; a sorted row of places. -/
import Derived.Shelf.SlSortCmp.Insertion
import Derived.Test.YtoaklikkepkhfaaP2
namespace Go.Proofs.Ytoaklikkepkhfaa
open Go Go.Sort

/-- cmp.Compare at strings. -/
def cmpS (a b : List UInt8) : Int := if Op.bytesLess a b then -1 else if (!(Op.bytesLess a b || a == b)) then 1 else 0
def rankI (b : Bool) : Int := if b then 1 else 0
def cmpZ (a b : Int) : Int := if a < b then -1 else if b < a then 1 else 0
/-- cmp.Or of three. -/
def or3 (a b c : Int) : Int := if a = 0 then (if b = 0 then c else b) else a
def cmpF (l : List UnitV) (i j : Nat) : Int := or3 (cmpS (nameOf l i) (nameOf l j)) (cmpZ (rankI (bodyOf l i)) (rankI (bodyOf l j))) (cmpZ i j)

theorem cmpF_lt (l : List UnitV) (i j : Nat) : decide (cmpF l i j < 0) = beforeB l i j := by
  unfold cmpF beforeB cmpS
  generalize nameOf l i = a
  generalize nameOf l j = b
  generalize bodyOf l i = p
  generalize bodyOf l j = q
  cases hab : (a == b)
  · rw [if_pos rfl]
    cases h1 : Op.bytesLess a b <;> simp [or3]
  · have e : a = b := by simpa using hab
    subst e
    rw [bl_irrefl, if_neg (by simp)]
    cases p <;> cases q <;> simp [or3, rankI, cmpZ]
    all_goals (split <;> simp_all)
    all_goals (try split)
    all_goals (try omega)

theorem cmpF_swo (l : List UnitV) (n : Nat) : SWO (ltOf (fun i j : Fin n => cmpF l i.val j.val)) where
  irrefl x := by unfold ltOf; rw [cmpF_lt]; exact before_irrefl l _
  trans x y z h1 h2 := by unfold ltOf at *; rw [cmpF_lt] at *; exact before_trans h1 h2
  ntrans x y z h1 h2 := by
    unfold ltOf at *
    rw [cmpF_lt] at *
    cases h : beforeB l x.val z.val
    · rfl
    · by_cases e : z.val = y.val
      · rw [e] at h; rw [h] at h1; cases h1
      · rcases before_total (l := l) e with h' | h'
        · have := before_trans h h'; rw [this] at h1; cases h1
        · rw [h'] at h2; cases h2

/-- The row of all places. -/
def placesF (m : Nat) : Array (Fin (m + 1)) := Array.ofFn fun i => i
theorem placesF_size (m : Nat) : (placesF m).size = m + 1 := by simp [placesF]

theorem names_of_sorted {l : List UnitV} {m : Nat} (hl : l.length = m + 1) {d : Array (Fin (m + 1))} (hp : PermIn 0 (m + 1) (placesF m) d) (hs : SortedIn (ltOf (fun i j : Fin (m + 1) => cmpF l i.val j.val)) 0 (m + 1) d) : NamesOk l (d.toList.map Fin.val) := by
  have hsz : d.size = m + 1 := by rw [hp.1, placesF_size]
  have hperm : d.toList.Perm (placesF m).toList := by
    have := hp.2.2
    rw [Array.extract_eq_self_of_le (by omega), Array.extract_eq_self_of_le (by rw [placesF_size]; exact Nat.le_refl _)] at this
    exact this
  have hmem : ∀ i : Fin (m + 1), i ∈ d.toList := fun i => hperm.mem_iff.2 (by rw [placesF, Array.toList_ofFn, List.mem_ofFn]; exact ⟨i, rfl⟩)
  have hnd : d.toList.Nodup := hperm.symm.nodup (by
    simp only [placesF, Array.toList_ofFn]
    rw [List.nodup_iff_pairwise_ne, List.pairwise_iff_getElem]
    intro i j hi hj hij
    rw [List.getElem_ofFn, List.getElem_ofFn]
    intro e
    have h := congrArg Fin.val e
    have h' : i = j := h
    omega)
  refine ⟨?_, fun i => ?_⟩
  · rw [List.pairwise_map, List.pairwise_iff_getElem]
    intro i j hi hj hij
    have hi' : i < d.size := by simpa using hi
    have hj' : j < d.size := by simpa using hj
    have h1 := hs i j (Nat.zero_le _) hij (by omega)
    unfold ltOf at h1
    rw [cmpF_lt, getElem!_pos d j hj', getElem!_pos d i hi'] at h1
    have hne : d[i].val ≠ d[j].val := fun e => by
      have := (List.nodup_iff_pairwise_ne.1 hnd)
      rw [List.pairwise_iff_getElem] at this
      exact this i j hi hj hij (Fin.ext e)
    rcases before_total (l := l) hne with h | h
    · exact h
    · rw [h] at h1; cases h1
  · rw [List.mem_map, hl]
    constructor
    · rintro ⟨a, _, rfl⟩; exact a.isLt
    · intro h; exact ⟨⟨i, h⟩, hmem _, rfl⟩
end Go.Proofs.Ytoaklikkepkhfaa
