/- What stays; Parts for every number; the depth-first search as a function. -/
import Derived.Test.YtbjnoffdafpkgaaB3
import Derived.Test.YtbjnoffdafpkgaaM1
namespace Go.Proofs.Ytbjnoffdafpkgaa
open Go.RowKit

/-- All blocks but those of X are as they were. -/
structure Kept (X : List Nat) (w w' : World) : Prop where
  os : w'.os = w.os
  tape : w'.tape = w.tape
  output : w'.output = w.output
  size : w.heap.size ≤ w'.heap.size
  block : ∀ k, k < w.heap.size → k ∉ X → w'.heap[k]? = w.heap[k]?

theorem Kept.refl (X : List Nat) (w : World) : Kept X w w := ⟨rfl, rfl, rfl, Nat.le_refl _, fun _ _ _ => rfl⟩
theorem Kept.trans {X : List Nat} {a b c : World} (h : Kept X a b) (k : Kept X b c) : Kept X a c :=
  ⟨k.os.trans h.os, k.tape.trans h.tape, k.output.trans h.output, Nat.le_trans h.size k.size, fun i hi hx => (k.block i (Nat.lt_of_lt_of_le hi h.size) hx).trans (h.block i hi hx)⟩
theorem Kept.mono {X Y : List Nat} {a b : World} (h : Kept X a b) (hs : ∀ x, x ∈ X → x ∈ Y) : Kept Y a b :=
  ⟨h.os, h.tape, h.output, h.size, fun i hi hx => h.block i hi (fun hm => hx (hs i hm))⟩
theorem Kept.mono' {X Y : List Nat} {a b : World} (h : Kept X a b) (hs : ∀ x, x ∈ X → x < a.heap.size → x ∈ Y) : Kept Y a b :=
  ⟨h.os, h.tape, h.output, h.size, fun i hi hx => h.block i hi (fun hm => hx (hs i hm hi))⟩
theorem Kept.alloc (X : List Nat) (w : World) (o : Obj) : Kept X w (w.alloc o) := ⟨rfl, rfl, rfl, by simp, fun i hi _ => Below.heap_alloc _ _ _ hi⟩
theorem Kept.setCell {X : List Nat} (w : World) (a : Addr) (u : Value) (h : a.block ∈ X) : Kept X w (w.setCell a u) := ⟨rfl, rfl, rfl, by simp, fun i _ hx => Below.heap_setCell _ _ _ _ (fun e => hx (e ▸ h))⟩
theorem Kept.drew (X : List Nat) (w : World) : Kept X w w.drew := ⟨rfl, rfl, rfl, Nat.le_refl _, fun _ _ _ => rfl⟩
theorem Kept.of_below {X : List Nat} {w w' : World} (h : Below w.heap.size w w') : Kept X w w' := ⟨h.os, h.tape, h.output, h.size, fun i hi _ => h.block i hi⟩
theorem Kept.of_grown {X : List Nat} {w w' : World} {row : Option Nat} (h : w.grownBy w' row) (hr : ∀ k, row = some k → k < w.heap.size → k ∈ X) : Kept X w w' :=
  ⟨h.os, h.tape, h.output, h.size, fun i hi hx => h.block i hi (fun e => hx (hr i e.symm hi))⟩
theorem Kept.cell {X : List Nat} {w w' : World} (h : Kept X w w') {p : Addr} {v : Value} (hc : w.cell? p = some v) (hx : p.block ∉ X) : w'.cell? p = some v :=
  (World.cell?_of_block (h.block _ (World.block_lt_of_cell? w p hc) hx)).trans hc
theorem Kept.obj {X : List Nat} {w w' : World} (h : Kept X w w') {k : Nat} {o : Obj} (hc : w.heap[k]? = some o) (hx : k ∉ X) : w'.heap[k]? = some o :=
  (h.block _ (Array.getElem?_eq_some_iff.1 hc).1 hx).trans hc
theorem Kept.toBelow {X : List Nat} {w w' : World} {B : Nat} (h : Kept X w w') (hB : B ≤ w.heap.size) (hx : ∀ x, x ∈ X → B ≤ x) : Below B w w' :=
  ⟨h.os, h.tape, h.output, h.size, fun k hk => h.block k (by omega) (fun hm => by have := hx k hm; omega)⟩

/-- The table lies under block B. -/
def TabUnder (B : Nat) (w : World) (v : TabV) (t : Tab) : Prop := ∃ w0 : World, w0.heap.size = B ∧ TabIn w0 v t ∧ Below B w0 w
theorem TabUnder.tabIn {B : Nat} {w : World} {v : TabV} {t : Tab} (h : TabUnder B w v t) : TabIn w v t := by
  obtain ⟨w0, rfl, hT, hb⟩ := h
  exact hT.kept hb
theorem TabUnder.kept {B : Nat} {w w' : World} {v : TabV} {t : Tab} {X : List Nat} (h : TabUnder B w v t) (hk : Kept X w w') (hx : ∀ x, x ∈ X → B ≤ x) : TabUnder B w' v t := by
  obtain ⟨w0, rfl, hT, hb⟩ := h
  exact ⟨w0, rfl, hT, hb.trans (hk.toBelow hb.size hx)⟩
theorem TabUnder.start {w : World} {v : TabV} {t : Tab} (h : TabIn w v t) : TabUnder w.heap.size w v t := ⟨w, rfl, h, Below.refl _ _⟩
theorem TabUnder.le {B : Nat} {w : World} {v : TabV} {t : Tab} (h : TabUnder B w v t) : B ≤ w.heap.size := by
  obtain ⟨w0, rfl, _, hb⟩ := h
  exact hb.size

theorem owns_split {w : World} {base : Nat} {v : Value} {xs : List Int} (h : w.ownsRow base 3 1 v xs.length (xs.map (Value.int .i64))) :
    (xs = [] ∧ ∃ a c, v = .slice a 0 c) ∨ ∃ g c, v = .slice (some ⟨g, 0, none⟩) xs.length c ∧ base ≤ g ∧ g < w.heap.size ∧ xs.length ≤ 9223372036854775807 ∧ ∀ j x, xs[j]? = some x → w.cell? ⟨g, j, none⟩ = some (.int .i64 x) := by
  rcases h.2 with ⟨rfl, hn⟩ | ⟨g, cap, cur, rfl, hb, hg, hcap, hmax, _⟩
  · exact .inl ⟨List.eq_nil_of_length_eq_zero hn, none, 0, rfl⟩
  · refine .inr ⟨g, cap, rfl, hb, (Array.getElem?_eq_some_iff.1 hg).1, by unfold maxLen at hmax; omega, fun j x hx => ?_⟩
    have := h.cells (g := g) rfl j (.int .i64 x) (by simp [hx])
    rwa [Addr.add_mid, Nat.zero_add] at this

/-- The parts of any number. -/
def partsT (t : Tab) (ty : Int) : List Int :=
  if exI t.types.length ty then match t.types[ty.toNat]? with | some x => partsI t ty.toNat x | none => [] else []

def Small (t : Tab) : Prop := ∀ x, x ∈ t.types → x.comps.length ≤ 1000000

theorem parts_any (w : World) (v : TabV) (t : Tab) (ty : Int) (hT : TabIn w v t) (hs : Small t) : Calls Try.prog 14 #[.agg (v.cells t), .int .i64 ty] w (RetInts (partsT t ty) w) := by
  cases hx : exI t.types.length ty
  · have : partsT t ty = [] := by simp [partsT, hx]
    rw [this]
    exact parts_none w v t ty hT.2.2.1 hx
  · have h0 : 0 ≤ ty ∧ ty < t.types.length := by simpa [exI] using hx
    obtain ⟨k, rfl⟩ := Int.eq_ofNat_of_zero_le h0.1
    have hk : k < t.types.length := by omega
    have he : t.types[k]? = some t.types[k] := List.getElem?_eq_getElem hk
    have : partsT t k = partsI t k t.types[k] := by simp [partsT, hx, he]
    rw [this]
    exact parts_some w v t k _ hT he (hs _ (List.getElem_mem hk))

theorem mem_addI {n : Nat} {ty x p : Int} {xs : List Int} (h : p ∈ addI n ty x xs) : p ∈ xs ∨ (exI n p = true ∧ p ≠ ty) := by
  unfold addI at h
  split at h
  · rename_i hc
    rcases List.mem_append.1 h with h | h
    · exact .inl h
    · simp at h; subst h; simp at hc; exact .inr hc
  · exact .inl h
theorem mem_subI {n : Nat} {ty s p : Int} {subs xs : List Int} (h : p ∈ subI n ty subs s xs) : p ∈ xs ∨ (exI n p = true ∧ p ≠ ty) := by
  unfold subI at h
  split at h
  · exact mem_addI h
  · exact .inl h
theorem mem_rawI {t : Tab} {k : Nat} {x : TyRow} {p : Int} (h : p ∈ rawI t k x) : exI t.types.length p = true ∧ p ≠ k := by
  have hf : ∀ (l : List CRow) (a : List Int), p ∈ l.foldl (fun l c => subI t.types.length k t.subs c.sub l) a → p ∈ a ∨ (exI t.types.length p = true ∧ p ≠ k) := by
    intro l
    induction l with
    | nil => intro a h; exact .inl h
    | cons c l ih =>
      intro a h
      rcases ih _ h with h | h
      · exact mem_subI h
      · exact .inr h
  unfold rawI at h
  split at h
  · rcases mem_addI h with h | h
    · simp at h
    · exact h
  · split at h
    · rcases mem_subI h with h | h
      · rcases mem_subI h with h | h
        · simp at h
        · exact h
      · exact h
    · split at h
      · rcases hf _ _ h with h | h
        · rcases mem_subI h with h | h
          · simp at h
          · exact h
        · exact h
      · simp at h
theorem mem_compact {zs : List Int} {p : Int} (h : p ∈ Lib.compact zs) : p ∈ zs := by
  unfold Lib.compact Lib.compactUpTo at h
  obtain ⟨j, hj, rfl⟩ := List.mem_map.1 h
  have hj' : j < zs.length := by simpa using (List.mem_range.1 (List.mem_filter.1 hj).1)
  simp [getElem!_pos, hj']
theorem mem_partsT {t : Tab} {ty p : Int} (h : p ∈ partsT t ty) : exI t.types.length p = true ∧ p ≠ ty := by
  unfold partsT at h
  split at h
  · rename_i hx
    have h0 : 0 ≤ ty ∧ ty < t.types.length := by simpa [exI] using hx
    split at h
    · rename_i x hx'
      have := mem_compact h
      have h2 : p ∈ rawI t ty.toNat x := by simpa [sortI] using this
      have h3 := mem_rawI h2
      exact ⟨h3.1, by have := h3.2; omega⟩
    · simp at h
  · simp at h

/-- freeze's closure: the types met, and whether all is fine. -/
def meetF (t : Tab) (ok : Int → Bool) : Nat → Int → List Int × Bool → List Int × Bool
  | 0, _, s => s
  | f + 1, ty, s => if s.1.contains ty then s else (partsT t ty).foldl (fun s p => meetF t ok f p s) (s.1 ++ [ty], s.2 && ok ty)
end Go.Proofs.Ytbjnoffdafpkgaa
