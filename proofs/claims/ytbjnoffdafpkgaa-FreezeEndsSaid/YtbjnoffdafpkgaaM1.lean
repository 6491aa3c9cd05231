/- Maps with integer keys and bool elements, as functions. -/
import Derived.Maps.Own
import Derived.Maps.OwnOps
import Derived.Maps.OwnSet
import Derived.Maps.RangeWalk
import Derived.Maps.StringElems
namespace Go.Proofs.Ytbjnoffdafpkgaa
open Go.Maps

theorem plainElem_bool_inv {H : Type} {P : Program} {e : TypeId} (he : P.underlying e = some .bool) {v : Value} {z : DataW H × List MemPlace} (h : plainElem P e v = some z) : ∃ c, v = .bool c ∧ z = (.lit (.bool c), []) := by
  unfold plainElem at h
  rw [he] at h
  cases v <;> simp at h
  exact ⟨_, rfl, h.symm⟩

/-- Block b is a map of at most n entries that holds M. -/
def BMap (P : Program) (k e : TypeId) (w : World) (b n : Nat) (M : Int → Option Bool) : Prop :=
  ∃ D : DataW Unit, w.ownsMap P k (plainElem P e) b n D ∧ ∀ x, (Lit.int .i64 x).wf = true → has D (.int .i64 x) = (M x).isSome ∧ D.atKey (.int .i64 x) (.lit (.bool false)) = .lit (.bool ((M x).getD false))

def updM {α : Type} (M : Int → Option α) (x : Int) (v : α) : Int → Option α := fun y => if y = x then some v else M y

section
variable {P : Program} {k e t : TypeId} {w w' : World} {b n : Nat} {M : Int → Option Bool}

theorem BMap.made (P : Program) (k e : TypeId) (w : World) : BMap P k e (w.alloc (.map #[] 0)) w.heap.size 0 (fun _ => none) :=
  ⟨.map [], World.ownsMap_made w P k _, fun _ _ => ⟨rfl, rfl⟩⟩

theorem BMap.lt (h : BMap P k e w b n M) : b < w.heap.size := by obtain ⟨D, h, _⟩ := h; exact h.lt
theorem BMap.mono (h : BMap P k e w b n M) {n' : Nat} (hn : n ≤ n') : BMap P k e w b n' M := by obtain ⟨D, h, hD⟩ := h; exact ⟨D, h.mono hn, hD⟩
theorem BMap.block (h : BMap P k e w b n M) (hb : w'.heap[b]? = w.heap[b]?) : BMap P k e w' b n M := by
  obtain ⟨D, ⟨es, clock, h1, h2⟩, hD⟩ := h
  exact ⟨D, ⟨es, clock, hb.trans h1, h2⟩, hD⟩

theorem BMap.lookup (hk : P.underlying k = some (.int .i64)) (he : P.underlying e = some .bool) (ht : P.underlying t = some (.map k e)) (hz : ∀ w, (zeroValue e).run P w = .ok (.bool false) w)
    (h : BMap P k e w b n M) {x : Int} (hx : (Lit.int .i64 x).wf = true) : (Instr.lookup t (.map (some b)) (.int .i64 x) false).run P w = .ok (.bool ((M x).getD false)) w := by
  obtain ⟨D, ho, hD⟩ := h
  obtain ⟨v, ps, hrun, hv⟩ := ho.lookup (int_keyed hk) ht (hz w) (plainElem_bool he false) (keyOf_int_mk hk hx)
  rw [(hD x hx).2] at hv
  obtain ⟨c, rfl, hc⟩ := plainElem_bool_inv he hv
  simp only [Prod.mk.injEq, DataW.lit.injEq, Lit.bool.injEq] at hc
  rw [hrun, hc.1]

theorem isKeyLit_int (x : Int) : WideAt.IsKeyLit (.int .i64 x) := by simp [WideAt.IsKeyLit]

theorem BMap.update (hk : P.underlying k = some (.int .i64)) (he : P.underlying e = some .bool) (ht : P.underlying t = some (.map k e))
    (h : BMap P k e w b n M) (hn : n < maxLen) {x : Int} (hx : (Lit.int .i64 x).wf = true) (v : Bool) :
    ∃ w', (Instr.mapUpdate t (.map (some b)) (.int .i64 x) (.bool v)).run P w = .ok () w' ∧ BMap P k e w' b (n + 1) (updM M x v) ∧ w.grownBy w' (some b) ∧ w'.heap.size = w.heap.size := by
  obtain ⟨D, ho, hD⟩ := h
  obtain ⟨w', hrun, ho', hg⟩ := ho.update (int_keyed hk) ht hn (keyOf_int_mk hk hx) (plainElem_bool he v)
  have him := ho.isMap
  refine ⟨w', hrun, ⟨_, ho', fun y hy => ?_⟩, hg, ?_⟩
  · by_cases hyx : y = x
    · subst hyx
      simp only [updM, if_true]
      exact ⟨has_put_same him (isKeyLit_int _) _, atKey_put_same him (isKeyLit_int _) _ _⟩
    · have hne : (Lit.int .i64 y) ≠ (.int .i64 x) := fun e => hyx (by injection e)
      simp only [updM, if_neg hyx]
      rw [has_put_other hne, atKey_put_other hne]
      exact hD y hy
  · obtain ⟨es, clock, hb, F, hs, rfl⟩ := ho
    obtain ⟨es', clock', hrun', _⟩ := Maps.fit_store (R' := plainElem P e) (int_keyed hk) ht hb F (Nat.lt_of_le_of_lt hs hn) (fun _ _ _ _ hz => hz) (keyOf_int_mk hk hx) (plainElem_bool he v)
    rw [hrun] at hrun'
    injection hrun' with _ h2
    rw [h2]
    simp [ChangeMaps.setBlock]
end
end Go.Proofs.Ytbjnoffdafpkgaa
