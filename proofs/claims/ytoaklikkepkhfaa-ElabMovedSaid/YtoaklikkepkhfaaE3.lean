/- needs. -/
import Derived.Test.YtoaklikkepkhfaaE2
import Derived.Test.YtoaklikkepkhfaaS6
import Derived.WalkSmall
namespace Go.Proofs.Ytoaklikkepkhfaa
open Go.RowKit Go.Lib Go.Sort Go.Shelf

/-- Clone of a list of ints. -/
theorem ints_cells {w : World} {b o : Nat} {xs : List Int} (hc : ∀ (j : Nat) (x : Int), xs[j]? = some x → w.cell? ⟨b, o + j, none⟩ = some (.int .i64 x)) : ∀ j u, (xs.map (Value.int .i64))[j]? = some u → w.cell? ⟨b, o + j, none⟩ = some u := by
  intro j u hu
  rw [List.getElem?_map] at hu
  cases hx : xs[j]? with
  | none => rw [hx] at hu; cases hu
  | some x =>
    rw [hx] at hu
    injection hu with hu
    rw [← hu]; exact hc j x hx
theorem maxLen_of {n : Nat} (h : n ≤ 100000) : n ≤ maxLen := by unfold maxLen; omega
theorem clone_any (w : World) (v : Value) (xs : List Int) (hv : IntsC w v xs) (hl : xs.length ≤ 100000) :
    Calls Try.prog 38 #[v] w fun e w' => ∃ v', e = .returned v' ∧ w'.ownsRow w.heap.size 3 1 v' xs.length (xs.map (Value.int .i64)) ∧ Below w.heap.size w w' := by
  obtain ⟨i0, hi, hz0, hz1, hz2⟩ := info_parts int_info
  obtain ⟨a, c, rfl, h1, h2, h3, h4⟩ := hv
  cases a with
  | none =>
    have hc := h3 rfl
    have h0 : xs = [] := List.eq_nil_of_length_eq_zero (by omega)
    subst h0
    refine (Try.slices_Clone_nil 0 c w).mono ?_
    rintro e w' ⟨rfl, rfl⟩
    exact ⟨_, rfl, World.ownsRow_nil _ _ _ _, Below.refl _ _⟩
  | some ad =>
    rcases h4 with rfl | ⟨b, o, e, hc⟩
    · refine (Try.slices_Clone_int_zero ad c w).mono ?_
      rintro e w' ⟨v', rfl, ho, _, hb⟩
      exact ⟨v', rfl, ho, hb⟩
    · injection e with e
      subst e
      refine (Try.slices_Clone i0 (.int .i64 0) 1 8 hi hz0 hz1 hz2 rfl (by decide) Try.sizeOf3 b o xs.length c (xs.map (Value.int .i64)) w (by simp) (maxLen_of hl) (by omega) (ints_cells hc) (ints_one _)).mono ?_
      rintro e w' ⟨v', rfl, ho, _, hb⟩
      exact ⟨v', rfl, ho, hb⟩

theorem sort_own (w : World) (base : Nat) (v : Value) (zs : List Int) (h : w.ownsRow base 3 1 v zs.length (zs.map (Value.int .i64))) (hs : zs.length < 4611686018427387904) :
    Calls Try.prog 39 #[v] w fun e w' => e = .returned (.tuple #[]) ∧ w'.ownsRow base 3 1 v (sortI zs).length ((sortI zs).map (Value.int .i64)) ∧ w.grownBy w' v.ownBlock := by
  have hl : (sortI zs).length = zs.length := by simp [sortI]
  by_cases hv : v = .slice none 0 0
  · have hz : zs = [] := by
      rcases h.2 with ⟨_, hn⟩ | ⟨g, cap, cur, rfl, _⟩
      · exact List.eq_nil_of_length_eq_zero hn
      · cases hv
    subst hv hz
    refine (Try.slices_Sort_int_none none 0 w).mono ?_
    rintro e w' ⟨rfl, rfl⟩
    exact ⟨rfl, by simpa [sortI] using World.ownsRow_nil _ base 3 1, World.grownBy.refl _ _⟩
  · obtain ⟨g, cap, rfl, hb, hg, hn, hm, _, hH⟩ := holds_of_ownsRow h hv
    refine (Try.slices_Sort_int g 0 cap zs w hH hg hs).mono ?_
    rintro e w' ⟨rfl, q, os, rfl⟩
    refine ⟨rfl, ?_, grownBy_grow (grownBy_putRow w g q _) os⟩
    have h1 := ownsRow_putRow (q := q) (k := zs.length) (ys := sortI zs) h hl (Nat.le_refl _)
    rw [List.take_of_length_le (by omega)] at h1
    rw [hl]
    exact ownsRow_grow h1 os

theorem compact_own (w : World) (base : Nat) (v : Value) (zs : List Int) (h : w.ownsRow base 3 1 v zs.length (zs.map (Value.int .i64))) (hs : zs.length < 4611686018427387904) :
    Calls Try.prog 41 #[v] w fun e w' => ∃ v', e = .returned v' ∧ w'.ownsRow base 3 1 v' (Lib.compact zs).length ((Lib.compact zs).map (Value.int .i64)) ∧ w.grownBy w' v.ownBlock ∧ v'.ownBlock = v.ownBlock := by
  by_cases hv : v = .slice none 0 0
  · have hz : zs = [] := by
      rcases h.2 with ⟨_, hn⟩ | ⟨g, cap, cur, rfl, _⟩
      · exact List.eq_nil_of_length_eq_zero hn
      · cases hv
    subst hv hz
    refine (Try.slices_Compact_int_empty none 0 w).mono ?_
    rintro e w' ⟨rfl, rfl⟩
    exact ⟨_, rfl, World.ownsRow_nil _ _ _ _, World.grownBy.refl _ _, rfl⟩
  · obtain ⟨g, cap, rfl, hb, hg, hn, hm, _, hH⟩ := holds_of_ownsRow h hv
    have hle : (Lib.compact zs).length ≤ zs.length := Lib.compact_length_le zs
    refine (Try.slices_Compact_int g 0 cap zs w hH (by omega) hn).mono ?_
    rintro e w' ⟨rfl, q, rfl⟩
    refine ⟨_, rfl, ?_, grownBy_putRow w g q _, rfl⟩
    have h1 := ownsRow_putRow (q := q) (k := (Lib.compact zs).length) (ys := Lib.compact zs ++ List.replicate (zs.length - (Lib.compact zs).length) 0) h (by simp; omega) hle
    simpa using h1

/-- The closure n == unit. -/
theorem same_gives (B : Nat) (u x : Int) (W : World) (hc : W.cell? ⟨B, 0, none⟩ = some (.int .i64 u)) : FnGives Try.prog 42 #[.pointer (some ⟨B, 0, none⟩)] #[.int .i64 x] (.bool (x == u)) W := by
  show Calls Try.prog 42 #[.int .i64 x, .pointer (some ⟨B, 0, none⟩)] W _
  go_enter Try.func42, Try.ntmps42
  go_wp2_with fail
  go_ret
  exact ⟨rfl, 0, rfl⟩
theorem eg42 : ∀ args w, (callFunc 42 args).run Try.prog w = .ok (.enter 42 args) w := enters_of Try.func42 (by kernel_rfl) rfl
theorem same_pred (B : Nat) (u : Int) (w : World) (hB : B < w.heap.size) (hc : w.cell? ⟨B, 0, none⟩ = some (.int .i64 u)) : PredAt Try.prog 42 #[.pointer (some ⟨B, 0, none⟩)] (Value.int .i64) (fun x => x == u) w :=
  fun W x hb => same_gives B u x W ((hb.cell (p := ⟨B, 0, none⟩) hB).trans hc)
theorem same_over (B blk off size : Nat) (u : Int) (w : World) (hB : B < w.heap.size) (hne : B ≠ blk) (hc : w.cell? ⟨B, 0, none⟩ = some (.int .i64 u)) : PredOver Try.prog 42 #[.pointer (some ⟨B, 0, none⟩)] (Value.int .i64) (fun x => x == u) blk off size w :=
  fun n os dk x _ => same_gives B u x _ (by
    unfold sortWorld
    rw [cell?_grow _ _ _ (by show B < (putRow _ _ _ _ _).heap.size; rw [size_putRow]; exact hB), cell?_putRow_other _ _ blk off _ _ (Or.inl hne)]
    exact hc)

theorem delete_own (w : World) (base : Nat) (v : Value) (zs : List Int) (B : Nat) (u : Int) (h : w.ownsRow base 3 1 v zs.length (zs.map (Value.int .i64))) (hs : zs.length < 4611686018427387904) (hc : w.cell? ⟨B, 0, none⟩ = some (.int .i64 u)) (hB : B < base) :
    Calls Try.prog 40 #[v, .func (.func 42) #[] #[.pointer (some ⟨B, 0, none⟩)]] w fun e w' => ∃ v', e = .returned v' ∧ w'.ownsRow base 3 1 v' (zs.filter fun x => !(x == u)).length ((zs.filter fun x => !(x == u)).map (Value.int .i64)) ∧ w.grownBy w' v.ownBlock := by
  have hBw : B < w.heap.size := World.block_lt_of_cell? w _ hc
  by_cases hv : v = .slice none 0 0
  · have hz : zs = [] := by
      rcases h.2 with ⟨_, hn⟩ | ⟨g, cap, cur, rfl, _⟩
      · exact List.eq_nil_of_length_eq_zero hn
      · cases hv
    subst hv hz
    clear h hs
    go_enter Try.func40, Try.ntmps40
    go_wp2_with fail
    refine (Try.slices_IndexFunc_empty (α := Int) none 0 _ w).mono ?_
    rintro e w' ⟨rfl, rfl⟩
    go_wp2_with fail
    go_ret
    exact ⟨_, rfl, World.ownsRow_nil _ _ _ _, World.grownBy.refl _ _⟩
  · obtain ⟨g, cap, rfl, hb, hg, hn, hm, _, hH⟩ := holds_of_ownsRow h hv
    have hle : (zs.filter fun x => !(x == u)).length ≤ zs.length := List.length_filter_le _ _
    have hcon := Try.slices_DeleteFunc (Value.int .i64) (fun _ => rfl) (fun x => x == u) 42 #[.pointer (some ⟨B, 0, none⟩)] eg42 0 Try.zeroValue3 g 0 cap zs.toArray w (same_pred B u w hBw hc) (same_over B g 0 zs.toArray.size u w hBw (by omega) hc) hH (by simp; omega) (by simpa using hn)
    refine hcon.mono ?_
    rintro e w' ⟨rfl, q, rfl⟩
    refine ⟨_, rfl, ?_, grownBy_putRow w g q _⟩
    have h1 := ownsRow_putRow (q := q) (k := (zs.filter fun x => !(x == u)).length) (ys := (zs.filter fun x => !(x == u)) ++ List.replicate (zs.length - (zs.filter fun x => !(x == u)).length) 0) h (by simp; omega) hle
    simpa using h1
end Go.Proofs.Ytoaklikkepkhfaa
