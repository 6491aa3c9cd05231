/- Maps with small integer keys and elements of any one shape (function values). -/
import Derived.Test.YtbjnoffdafpkgaaM4
namespace Go.Proofs.Ytbjnoffdafpkgaa
open Go.Maps

def heldElem (v : Value) : Option (DataW Value × List MemPlace) := some (.held v, [])

/-- Block b is a map of at most n entries that holds M. -/
def HMap (P : Program) (k : TypeId) (w : World) (b n : Nat) (M : Int → Option Value) : Prop :=
  ∃ D : DataW Value, w.ownsMap P k heldElem b n D ∧ ∀ x, (Lit.int .u8 x).wf = true → D.atKey (.int .u8 x) (.held .nilFunc) = .held ((M x).getD .nilFunc)

section
variable {P : Program} {k e t : TypeId} {w w' : World} {b n : Nat} {M : Int → Option Value}

theorem HMap.fresh (P : Program) (k : TypeId) {W : World} {b : Nat} (h : W.heap[b]? = some (.map #[] 0)) : HMap P k W b 0 (fun _ => none) := by
  obtain ⟨es, clock, h1, h2⟩ := World.ownsMap_made W P k heldElem
  have e1 : (W.alloc (.map #[] 0)).heap[W.heap.size]? = some (.map #[] 0) := heap_alloc_new _ _
  rw [e1] at h1
  injection h1 with h1
  injection h1 with h3 h4
  subst h3 h4
  exact ⟨_, ⟨_, _, h, h2⟩, fun _ _ => rfl⟩
theorem HMap.lt (h : HMap P k w b n M) : b < w.heap.size := by obtain ⟨D, h, _⟩ := h; exact h.lt
theorem HMap.block (h : HMap P k w b n M) (hb : w'.heap[b]? = w.heap[b]?) : HMap P k w' b n M := by
  obtain ⟨D, ⟨es, clock, h1, h2⟩, hD⟩ := h
  exact ⟨D, ⟨es, clock, hb.trans h1, h2⟩, hD⟩

theorem HMap.lookup (hk : P.underlying k = some (.int .u8)) (ht : P.underlying t = some (.map k e)) (hz : ∀ w, (zeroValue e).run P w = .ok .nilFunc w)
    (h : HMap P k w b n M) {x : Int} (hx : (Lit.int .u8 x).wf = true) : (Instr.lookup t (.map (some b)) (.int .u8 x) false).run P w = .ok ((M x).getD .nilFunc) w := by
  obtain ⟨D, ho, hD⟩ := h
  obtain ⟨v, ps, hrun, hv⟩ := ho.lookup (int_keyed hk) ht (hz w) (zd := .held .nilFunc) (zp := []) rfl (keyOf_int_mk hk hx)
  rw [hD x hx] at hv
  simp only [heldElem, Option.some.injEq, Prod.mk.injEq, DataW.held.injEq] at hv
  rw [hrun, hv.1]

theorem HMap.update (hk : P.underlying k = some (.int .u8)) (ht : P.underlying t = some (.map k e))
    (h : HMap P k w b n M) (hn : n < maxLen) {x : Int} (hx : (Lit.int .u8 x).wf = true) (v : Value) :
    ∃ w', (Instr.mapUpdate t (.map (some b)) (.int .u8 x) v).run P w = .ok () w' ∧ HMap P k w' b (n + 1) (updM M x v) ∧ w.grownBy w' (some b) ∧ w'.heap.size = w.heap.size := by
  obtain ⟨D, ho, hD⟩ := h
  obtain ⟨w', hrun, ho', hg⟩ := ho.update (int_keyed hk) ht hn (keyOf_int_mk hk hx) (d := .held v) (ps := []) rfl
  have him := ho.isMap
  have hkl : ∀ y : Int, WideAt.IsKeyLit (.int .u8 y) := fun y => by simp [WideAt.IsKeyLit]
  refine ⟨w', hrun, ⟨_, ho', fun y hy => ?_⟩, hg, ?_⟩
  · by_cases hyx : y = x
    · subst hyx
      simp only [updM, if_true]
      exact atKey_put_same him (hkl _) _ _
    · have hne : (Lit.int .u8 y) ≠ (.int .u8 x) := fun e => hyx (by injection e)
      simp only [updM, if_neg hyx]
      rw [atKey_put_other hne]
      exact hD y hy
  · obtain ⟨es, clock, hb, F, hs, rfl⟩ := ho
    obtain ⟨es', clock', hrun', _⟩ := Maps.fit_store (R' := heldElem) (int_keyed hk) ht hb F (Nat.lt_of_le_of_lt hs hn) (fun _ _ _ _ hz => hz) (keyOf_int_mk hk hx) (val := v) (yv := (.held v, [])) rfl
    rw [hrun] at hrun'
    injection hrun' with _ h2
    rw [h2]
    simp [ChangeMaps.setBlock]
end
end Go.Proofs.Ytbjnoffdafpkgaa
