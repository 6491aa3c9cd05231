/- Find. -/
import Derived.Test.YtlgcboaojdhneaaB13
import Derived.Test.YtlgcboaojdhneaaShelf
namespace Go.Proofs.Ytlgcboaojdhneaa
open Go.RowKit Go.Lib Go.Sort Go.Proofs

theorem sort_own (w : World) (base : Nat) (v : Value) (zs : List Int) (h : w.ownsRow base 3 1 v zs.length (zs.map (Value.int .i64))) (hs : zs.length < 4611686018427387904) :
    Calls Try.prog 46 #[v] w fun e w' => e = .returned (.tuple #[]) ∧ w'.ownsRow base 3 1 v (sortI zs).length ((sortI zs).map (Value.int .i64)) ∧ w.grownBy w' v.ownBlock := by
  have hl : (sortI zs).length = zs.length := by simp [sortI]
  by_cases hv : v = .slice none 0 0
  · have hz : zs = [] := by
      rcases h.2 with ⟨_, hn⟩ | ⟨g, cap, cur, rfl, _⟩
      · exact List.eq_nil_of_length_eq_zero hn
      · cases hv
    subst hv hz
    refine (Try.slices_Sort_int_none none 0 w).mono ?_
    rintro e w' ⟨rfl, rfl⟩
    exact ⟨rfl, by simpa [sortI] using World.ownsRow_nil _ base 3 1, World.grownBy.refl _ _⟩
  · obtain ⟨g, cap, rfl, hb, hg, hn, hm, _, hH⟩ := holds_of_ownsRow h hv
    refine (Try.slices_Sort_int g 0 cap zs w hH hg hs).mono ?_
    rintro e w' ⟨rfl, q, os, rfl⟩
    refine ⟨rfl, ?_, grownBy_grow (grownBy_putRow w g q _) os⟩
    have h1 := ownsRow_putRow (q := q) (k := zs.length) (ys := sortI zs) h hl (Nat.le_refl _)
    rw [List.take_of_length_le (by omega)] at h1
    rw [hl]
    exact ownsRow_grow h1 os

theorem sortC : SortC := fun w base v zs h hs => sort_own w base v zs h hs

theorem find_at (w : World) (v : TabV) (t : Tab) (h : WhV) (name : ByteArray) (hT : TabIn w v t) (hH : WhIn w h) (hs : t.ents.length ≤ 5000) (hus : h.uses.length ≤ 100000) (hwf : ∀ x, x ∈ t.ents → (Lit.int .i64 x.owner).wf = true) :
    Calls Try.prog 16 #[.agg (v.cells t), .agg h.cells.toArray, .string name] w (RetO (findR t h name) w) :=
  find_any sortC w v t h name hT hH hs hus hwf
end Go.Proofs.Ytlgcboaojdhneaa
