/- Ranging over a map with integer keys and bool elements. -/
import Derived.Test.YtbjnoffdafpkgaaM1
namespace Go.Proofs.Ytbjnoffdafpkgaa
open Go.Maps

theorem BMap.congr {P : Program} {k e : TypeId} {w : World} {b n : Nat} {M M' : Int → Option Bool} (h : BMap P k e w b n M) (hM : ∀ x, (Lit.int .i64 x).wf = true → M x = M' x) : BMap P k e w b n M' := by
  obtain ⟨D, ho, hD⟩ := h
  exact ⟨D, ho, fun x hx => by rw [← hM x hx]; exact hD x hx⟩

/-- 'for k := range m' under way. -/
def BRange (P : Program) (k e : TypeId) (w : World) (b r n : Nat) (M : Int → Option Bool) (left : Int → Bool) (cnt : Nat) : Prop :=
  ∃ (D : DataW Unit) (L : Lit → Bool), w.ranges P k (plainElem P e) b r n D L cnt ∧ (∀ x, (Lit.int .i64 x).wf = true → has D (.int .i64 x) = (M x).isSome ∧ D.atKey (.int .i64 x) (.lit (.bool false)) = .lit (.bool ((M x).getD false)) ∧ L (.int .i64 x) = left x)

section
variable {P : Program} {k e t : TypeId} {w w' : World} {b r n cnt : Nat} {M : Int → Option Bool} {left : Int → Bool}

theorem BRange.map (h : BRange P k e w b r n M left cnt) : BMap P k e w b n M := by
  obtain ⟨D, L, hr, hD⟩ := h
  exact ⟨D, hr.owns, fun x hx => ⟨(hD x hx).1, (hD x hx).2.1⟩⟩

theorem BRange.lt (h : BRange P k e w b r n M left cnt) : r < w.heap.size := by
  obtain ⟨D, L, hr, hD⟩ := h
  exact hr.lt

theorem BRange.cnt_eq (h : BRange P k e w b r n M left cnt) : w.rangeLeft b r = cnt := by
  obtain ⟨D, L, hr, hD⟩ := h
  exact hr.left_eq

theorem BRange.block (h : BRange P k e w b r n M left cnt) (hb : w'.heap[b]? = w.heap[b]?) (hr : w'.heap[r]? = w.heap[r]?) : BRange P k e w' b r n M left cnt := by
  obtain ⟨D, L, ⟨es, clock, since, seen, c0, h1, h2, h3, h4, h5, h6⟩, hD⟩ := h
  exact ⟨D, L, ⟨es, clock, since, seen, c0, hb.trans h1, h2, h3, h4, hr.trans h5, h6⟩, hD⟩

theorem BMap.range (hk : P.underlying k = some (.int .i64)) (ht : P.underlying t = some (.map k e)) (h : BMap P k e w b n M) :
    ∃ w' cnt, (Instr.range t (.map (some b))).run P w = .ok (.pointer (some ⟨w.heap.size, 0, none⟩)) w' ∧ BRange P k e w' b w.heap.size n M (fun x => (M x).isSome) cnt ∧ cnt ≤ n ∧ w.grownBy w' none ∧ w'.heap.size = w.heap.size + 1 := by
  obtain ⟨D, ho, hD⟩ := h
  obtain ⟨w', hrun, hr, hg, hs⟩ := ho.range (int_keyed hk) ht
  exact ⟨w', _, hrun, ⟨D, _, hr, fun x hx => ⟨(hD x hx).1, (hD x hx).2, (hD x hx).1⟩⟩, ho.size_le, hg, hs⟩

theorem BRange.next (hk : P.underlying k = some (.int .i64)) (he : P.underlying e = some .bool) (h : BRange P k e w b r n M left cnt) (ty : TypeId) :
    (cnt = 0 ∧ (∀ x, (Lit.int .i64 x).wf = true → left x = false) ∧ (Instr.next (.pointer (some ⟨r, 0, none⟩)) false ty).run P w = .ok (.tuple #[.bool false]) w) ∨
    ∃ x c w' cnt', (Lit.int .i64 x).wf = true ∧ left x = true ∧ M x = some c ∧ (Instr.next (.pointer (some ⟨r, 0, none⟩)) false ty).run P w = .ok (.tuple #[.bool true, .int .i64 x, .bool c]) w' ∧
      BRange P k e w' b r n M (fun y => left y && (y != x)) cnt' ∧ cnt' < cnt ∧ w.grownBy w' (some r) ∧ w'.heap.size = w.heap.size ∧ (Instr.entry (.pointer (some ⟨r, 0, none⟩))).run P w' = .ok (.tuple #[.int .i64 x, .bool c]) w' := by
  obtain ⟨D, L, hr, hD⟩ := h
  rcases hr.next (int_keyed hk) ty with ⟨h0, hl, hrun⟩ | ⟨key, v, kl, y, w', cnt', hkey, hlk, hv, hat, hrun, hrg, hlt, hgr, hsz, hen⟩
  · exact .inl ⟨h0, fun x hx => by rw [← (hD x hx).2.2]; exact hl _, hrun⟩
  · obtain ⟨x, rfl, rfl, hx⟩ := Maps.keyOf_int_inv hk hkey
    obtain ⟨c, rfl, rfl⟩ := plainElem_bool_inv he hv
    have hd := hD x hx
    have hhas : has D (.int .i64 x) = true := has_true_of_atKey hat
    rw [hd.1] at hhas
    have hc := hat (.lit (.bool false))
    rw [hd.2.1] at hc
    simp only [DataW.lit.injEq, Lit.bool.injEq] at hc
    have hM : M x = some c := by
      cases hq : M x with
      | none => rw [hq] at hhas; cases hhas
      | some c' => rw [hq] at hc; simp at hc; rw [hc]
    refine .inr ⟨x, c, w', cnt', hx, by rw [← hd.2.2]; exact hlk, hM, hrun, ⟨D, _, hrg, fun y hy => ⟨(hD y hy).1, (hD y hy).2.1, ?_⟩⟩, hlt, hgr, hsz, hen⟩
    show (L (.int .i64 y) && !(Lit.int .i64 y).sameKey (.int .i64 x)) = _
    rw [(hD y hy).2.2]
    by_cases hyx : y = x
    · subst hyx
      rw [WideAt.sameKey_self (isKeyLit_int _)]
      simp
    · rw [sameKey_ne (fun e => hyx (by injection e))]
      simp [hyx]
end
end Go.Proofs.Ytbjnoffdafpkgaa
