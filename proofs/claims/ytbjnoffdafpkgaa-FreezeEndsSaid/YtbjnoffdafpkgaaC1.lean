/- Sort and Compact at a slice of the call's own. -/
import Derived.Test.YtbjnoffdafpkgaaShelf
import Derived.Lib.OwnBridge
import Derived.Sort.Grow
import Derived.Test.YtbjnoffdafpkgaaB1
namespace Go.Proofs.Ytbjnoffdafpkgaa
open Go.RowKit Go.Lib Go.Sort

def sortI (zs : List Int) : List Int := zs.mergeSort fun x y => decide (x ≤ y)

theorem grownBy_putRow (w : World) (g q : Nat) (d : Array Int) : w.grownBy (putRow (Value.int .i64) (Sort.ahead w q) g 0 d) (some g) :=
  ⟨rfl, rfl, rfl, by simp [putRow, mapBlock, Sort.ahead], fun k hk hne => by
    have : g ≠ k := fun e => hne (by rw [e])
    simp [putRow, mapBlock, Sort.ahead, Array.getElem?_modify, this]⟩

theorem grownBy_grow {w w' : World} {row : Option Nat} (h : w.grownBy w' row) (os : Array Obj) : w.grownBy (grow w' os) row :=
  ⟨h.os, h.tape, h.output, by have := h.size; simp [grow]; omega, fun k hk hne => by
    rw [← h.block k hk hne]
    exact heap_grow_old w' os (Nat.lt_of_lt_of_le hk h.size)⟩

theorem ownsRow_grow {w : World} {base : Nat} {e : TypeId} {size : Nat} {v : Value} {n : Nat} {xs : List Value} (h : w.ownsRow base e size v n xs) (os : Array Obj) : (grow w os).ownsRow base e size v n xs := by
  refine ⟨h.1, ?_⟩
  rcases h.2 with hn | ⟨g, cap, cur, rfl, hb, hg, rest⟩
  · exact .inl hn
  · exact .inr ⟨g, cap, cur, rfl, hb, (heap_grow_old w os (Array.getElem?_eq_some_iff.1 hg).1).trans hg, rest⟩

theorem ownsRow_base {w : World} {base base' : Nat} {e : TypeId} {size : Nat} {v : Value} {n : Nat} {xs : List Value} (h : w.ownsRow base e size v n xs) (hb : base' ≤ base) : w.ownsRow base' e size v n xs := by
  refine ⟨h.1, ?_⟩
  rcases h.2 with hn | ⟨g, cap, cur, rfl, hg, rest⟩
  · exact .inl hn
  · exact .inr ⟨g, cap, cur, rfl, by omega, rest⟩

theorem sort_own (w : World) (base : Nat) (v : Value) (zs : List Int) (h : w.ownsRow base 3 1 v zs.length (zs.map (Value.int .i64))) (hs : zs.length < 4611686018427387904) :
    Calls Try.prog 27 #[v] w fun e w' => e = .returned (.tuple #[]) ∧ w'.ownsRow base 3 1 v (sortI zs).length ((sortI zs).map (Value.int .i64)) ∧ w.grownBy w' v.ownBlock := by
  have hl : (sortI zs).length = zs.length := by simp [sortI]
  by_cases hv : v = .slice none 0 0
  · have hz : zs = [] := by
      rcases h.2 with ⟨_, hn⟩ | ⟨g, cap, cur, rfl, _⟩
      · exact List.eq_nil_of_length_eq_zero hn
      · cases hv
    subst hv hz
    refine (Try.slices_Sort_int_none none 0 w).mono ?_
    rintro e w' ⟨rfl, rfl⟩
    exact ⟨rfl, by simpa [sortI] using World.ownsRow_nil _ base 3 1, World.grownBy.refl _ _⟩
  · obtain ⟨g, cap, rfl, hb, hg, hn, hm, _, hH⟩ := holds_of_ownsRow h hv
    refine (Try.slices_Sort_int g 0 cap zs w hH hg hs).mono ?_
    rintro e w' ⟨rfl, q, os, rfl⟩
    refine ⟨rfl, ?_, grownBy_grow (grownBy_putRow w g q _) os⟩
    have h1 := ownsRow_putRow (q := q) (k := zs.length) (ys := sortI zs) h hl (Nat.le_refl _)
    rw [List.take_of_length_le (by omega)] at h1
    rw [hl]
    exact ownsRow_grow h1 os

theorem compact_own (w : World) (base : Nat) (v : Value) (zs : List Int) (h : w.ownsRow base 3 1 v zs.length (zs.map (Value.int .i64))) (hs : zs.length < 4611686018427387904) :
    Calls Try.prog 28 #[v] w fun e w' => ∃ v', e = .returned v' ∧ w'.ownsRow base 3 1 v' (Lib.compact zs).length ((Lib.compact zs).map (Value.int .i64)) ∧ w.grownBy w' v.ownBlock ∧ v'.ownBlock = v.ownBlock := by
  by_cases hv : v = .slice none 0 0
  · have hz : zs = [] := by
      rcases h.2 with ⟨_, hn⟩ | ⟨g, cap, cur, rfl, _⟩
      · exact List.eq_nil_of_length_eq_zero hn
      · cases hv
    subst hv hz
    refine (Try.slices_Compact_int_empty none 0 w).mono ?_
    rintro e w' ⟨rfl, rfl⟩
    exact ⟨_, rfl, World.ownsRow_nil _ _ _ _, World.grownBy.refl _ _, rfl⟩
  · obtain ⟨g, cap, rfl, hb, hg, hn, hm, _, hH⟩ := holds_of_ownsRow h hv
    have hle : (Lib.compact zs).length ≤ zs.length := Lib.compact_length_le zs
    refine (Try.slices_Compact_int g 0 cap zs w hH (by omega) hn).mono ?_
    rintro e w' ⟨rfl, q, rfl⟩
    refine ⟨_, rfl, ?_, grownBy_putRow w g q _, rfl⟩
    have h1 := ownsRow_putRow (q := q) (k := (Lib.compact zs).length) (ys := Lib.compact zs ++ List.replicate (zs.length - (Lib.compact zs).length) 0) h (by simp; omega) hle
    simpa using h1
end Go.Proofs.Ytbjnoffdafpkgaa
