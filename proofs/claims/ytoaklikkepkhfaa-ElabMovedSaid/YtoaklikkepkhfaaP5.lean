/- Plain: sorted, without doubles; what the program gathers is what a unit needs. -/
import Derived.Test.YtoaklikkepkhfaaK0
import Derived.Test.YtoaklikkepkhfaaP1
namespace Go.Proofs.Ytoaklikkepkhfaa
open Go

def Asc (l : List Int) : Prop := l.Pairwise (· < ·)
/-- Compact of a sorted list. -/
theorem compact_asc (zs : List Int) (hs : zs.Pairwise (· ≤ ·)) : Asc (Lib.compact zs) ∧ ∀ x, x ∈ Lib.compact zs ↔ x ∈ zs := by
  have get : ∀ j (h : j < zs.length), zs.toArray[j]! = zs[j] := fun j h => by simp [getElem!_pos, h]
  have key : ∀ m, m ≤ zs.length → Asc (Lib.compactUpTo zs.toArray m) ∧ (∀ x, x ∈ Lib.compactUpTo zs.toArray m ↔ x ∈ zs.take m) := by
    intro m
    induction m with
    | zero => intro _; exact ⟨by simp [Lib.compactUpTo, Asc], by simp [Lib.compactUpTo]⟩
    | succ m ih =>
      intro hm
      have hmlt : m < zs.length := by omega
      obtain ⟨h1, h2⟩ := ih (by omega)
      rw [Lib.compactUpTo_succ, List.take_succ_eq_append_getElem hmlt, get m hmlt]
      have hle : ∀ x, x ∈ zs.take m → x ≤ zs[m] := by
        intro x hx
        obtain ⟨i, hi⟩ := List.mem_iff_getElem?.1 hx
        rw [List.getElem?_take] at hi
        split at hi
        · rename_i him
          obtain ⟨hil, rfl⟩ := List.getElem?_eq_some_iff.1 hi
          exact (List.pairwise_iff_getElem.1 hs) i m hil hmlt him
        · cases hi
      cases hk : Lib.keeps zs.toArray m
      · simp only [Bool.false_eq_true, if_false, List.append_nil]
        refine ⟨h1, fun x => ?_⟩
        rw [h2, List.mem_append, List.mem_singleton]
        constructor
        · exact .inl
        · rintro (h | rfl)
          · exact h
          · unfold Lib.keeps at hk
            simp only [decide_eq_false_iff_not, not_or, Classical.not_not] at hk
            have hm0 : 0 < m := by omega
            rw [get m hmlt, get (m - 1) (by omega)] at hk
            rw [hk.2]
            rw [List.mem_iff_getElem?]
            exact ⟨m - 1, by rw [List.getElem?_take, if_pos (by omega)]; exact List.getElem?_eq_getElem (by omega)⟩
      · simp only [if_true]
        refine ⟨?_, fun x => by rw [List.mem_append, List.mem_append, h2]⟩
        unfold Asc
        rw [List.pairwise_append]
        refine ⟨h1, by simp, fun a ha b hb => ?_⟩
        simp at hb
        subst hb
        rw [h2] at ha
        have hlea := hle a ha
        unfold Lib.keeps at hk
        simp only [decide_eq_true_eq] at hk
        rcases hk with rfl | hk
        · simp at ha
        · have hm0 : 0 < m := by
            cases m with
            | zero => simp at ha
            | succ m => omega
          rw [get m hmlt, get (m - 1) (by omega)] at hk
          have hle1 : zs[m - 1] ≤ zs[m] := (List.pairwise_iff_getElem.1 hs) (m - 1) m (by omega) hmlt (by omega)
          have hlt1 : zs[m - 1] < zs[m] := by omega
          have hal : a ≤ zs[m - 1] := by
            obtain ⟨i, hi⟩ := List.mem_iff_getElem?.1 ha
            rw [List.getElem?_take] at hi
            split at hi
            · rename_i him
              obtain ⟨hil, rfl⟩ := List.getElem?_eq_some_iff.1 hi
              by_cases e : i = m - 1
              · subst e; exact Int.le_refl _
              · exact (List.pairwise_iff_getElem.1 hs) i (m - 1) hil (by omega) (by omega)
            · cases hi
          omega
  have := key zs.length (Nat.le_refl _)
  rw [List.take_length] at this
  exact this

theorem sortI_sorted (zs : List Int) : (sortI zs).Pairwise (· ≤ ·) := by
  have := List.pairwise_mergeSort (le := fun x y : Int => decide (x ≤ y)) (fun a b c h1 h2 => by simp at *; omega) (fun a b => by simp; omega) zs
  exact this.imp (fun h => by simpa using h)
theorem mem_sortI {zs : List Int} {x : Int} : x ∈ sortI zs ↔ x ∈ zs := by simp [sortI]

/-- What is left of the gathered numbers. -/
def needOut (out : List Int) (u : Nat) : List Int := (Lib.compact (sortI out)).filter (fun n => !(n == (u : Int)))
theorem needOut_asc (out : List Int) (u : Nat) : Asc (needOut out u) := (compact_asc _ (sortI_sorted out)).1.filter _
theorem needOut_mem {out : List Int} {u : Nat} {n : Int} : n ∈ needOut out u ↔ n ∈ out ∧ n ≠ (u : Int) := by
  unfold needOut
  rw [List.mem_filter, (compact_asc _ (sortI_sorted out)).2, mem_sortI]
  simp
theorem reach_seen {subs : List SubV} {start : List Int} {bs : List Bool} (h : RInv subs start bs []) (hst : ∀ s, s ∈ start → 0 ≤ s ∧ s < subs.length) (hc : ∀ x, x ∈ subs → ∀ n, n ∈ x.calls → 0 ≤ n ∧ n < subs.length) (n : Int) :
    (∃ s : Nat, bs[s]? = some true ∧ unitOf subs s = n) ↔ ∃ s, Reach subs start s ∧ unitOf subs s = n := by
  constructor
  · rintro ⟨s, hs, e⟩
    exact ⟨s, h.sound s hs, e⟩
  · rintro ⟨s, hs, e⟩
    have h0 := (hs.inr hst hc).1
    refine ⟨s.toNat, (h.done hst hc s h0).2 hs, ?_⟩
    rw [show ((s.toNat : Nat) : Int) = s by omega]
    exact e
theorem needList_of {l : List UnitV} {subs : List SubV} {u : Nat} {x : UnitV} {bs : List Bool} {out : List Int} (hm : May l subs) (hx : l[u]? = some x) (hr : RInv subs x.calls bs []) (ho : OutInv subs x.needs bs out) : NeedList l subs u (needOut out u) := by
  refine ⟨needOut_asc out u, fun n => ?_⟩
  rw [needOut_mem, ho n, reach_seen hr (hm.calls x (List.mem_of_getElem? hx)) hm.subc]
  unfold NeedP
  constructor
  · rintro ⟨h, hne⟩
    exact ⟨hne, x, hx, h⟩
  · rintro ⟨hne, y, hy, h⟩
    rw [hx] at hy
    injection hy with hy
    subst hy
    exact ⟨h, hne⟩

/-- The reference's: the places at which a list of bools holds true. -/
def trueAt (bs : List Bool) (k : Nat) : List Int := ((List.range k).filter (fun i => (bs[i]?).getD false)).map (fun i : Nat => (i : Int))
theorem trueAt_zero (bs : List Bool) : trueAt bs 0 = [] := rfl
theorem trueAt_succ (bs : List Bool) (k : Nat) : trueAt bs (k + 1) = trueAt bs k ++ (if (bs[k]?).getD false then [(k : Int)] else []) := by
  unfold trueAt
  rw [List.range_succ, List.filter_append, List.map_append]
  cases h : (bs[k]?).getD false <;> simp [h]
theorem trueAt_mem {bs : List Bool} {k : Nat} {n : Int} : n ∈ trueAt bs k ↔ ∃ i : Nat, i < k ∧ bs[i]? = some true ∧ (i : Int) = n := by
  unfold trueAt
  rw [List.mem_map]
  constructor
  · rintro ⟨i, hi, rfl⟩
    rw [List.mem_filter, List.mem_range] at hi
    refine ⟨i, hi.1, ?_, rfl⟩
    cases h : bs[i]? with
    | none => rw [h] at hi; simp at hi
    | some b => rw [h] at hi; simp at hi; rw [hi.2]
  · rintro ⟨i, h1, h2, rfl⟩
    exact ⟨i, by rw [List.mem_filter, List.mem_range]; exact ⟨h1, by rw [h2]; rfl⟩, rfl⟩
theorem trueAt_asc (bs : List Bool) (k : Nat) : Asc (trueAt bs k) := by
  unfold Asc trueAt
  rw [List.pairwise_map]
  exact ((List.pairwise_lt_range).filter _).imp fun h => by omega

/-- Bools that say what a unit needs. -/
def NeedBits (l : List UnitV) (subs : List SubV) (u : Nat) (bs : List Bool) : Prop := bs.length = l.length ∧ ∀ n : Nat, bs[n]? = some true ↔ NeedP l subs u n
theorem needList_bits {l : List UnitV} {subs : List SubV} {u : Nat} {bs : List Bool} (hm : May l subs) (hb : NeedBits l subs u bs) (hr : ∀ n, NeedP l subs u n → 0 ≤ n ∧ n < l.length) : NeedList l subs u (trueAt bs l.length) := by
  refine ⟨trueAt_asc _ _, fun n => ?_⟩
  rw [trueAt_mem]
  constructor
  · rintro ⟨i, _, h, rfl⟩
    exact (hb.2 i).1 h
  · intro h
    have h0 := hr n h
    have e : ((n.toNat : Nat) : Int) = n := by omega
    exact ⟨n.toNat, by omega, (hb.2 _).2 (by rw [e]; exact h), e⟩
end Go.Proofs.Ytoaklikkepkhfaa
