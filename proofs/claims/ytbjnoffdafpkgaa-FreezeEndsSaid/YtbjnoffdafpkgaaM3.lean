/- Ranging over a map with integer keys and bool elements. Maps with integer keys and elements of two cells: a number and a bool. Maps with small integer keys and elements of any one shape (function values). -/
import Derived.Test.YtbjnoffdafpkgaaM1
namespace Go.Proofs.Ytbjnoffdafpkgaa
open Go.Maps

theorem BMap.congr {P : Program} {k e : TypeId} {w : World} {b n : Nat} {M M' : Int → Option Bool} (h : BMap P k e w b n M) (hM : ∀ x, (Lit.int .i64 x).wf = true → M x = M' x) : BMap P k e w b n M' := by
  obtain ⟨D, ho, hD⟩ := h
  exact ⟨D, ho, fun x hx => by rw [← hM x hx]; exact hD x hx⟩

/-- 'for k := range m' under way. -/
def BRange (P : Program) (k e : TypeId) (w : World) (b r n : Nat) (M : Int → Option Bool) (left : Int → Bool) (cnt : Nat) : Prop :=
  ∃ (D : DataW Unit) (L : Lit → Bool), w.ranges P k (plainElem P e) b r n D L cnt ∧ (∀ x, (Lit.int .i64 x).wf = true → has D (.int .i64 x) = (M x).isSome ∧ D.atKey (.int .i64 x) (.lit (.bool false)) = .lit (.bool ((M x).getD false)) ∧ L (.int .i64 x) = left x)

section
variable {P : Program} {k e t : TypeId} {w w' : World} {b r n cnt : Nat} {M : Int → Option Bool} {left : Int → Bool}

theorem BRange.map (h : BRange P k e w b r n M left cnt) : BMap P k e w b n M := by
  obtain ⟨D, L, hr, hD⟩ := h
  exact ⟨D, hr.owns, fun x hx => ⟨(hD x hx).1, (hD x hx).2.1⟩⟩

theorem BRange.lt (h : BRange P k e w b r n M left cnt) : r < w.heap.size := by
  obtain ⟨D, L, hr, hD⟩ := h
  exact hr.lt

theorem BRange.cnt_eq (h : BRange P k e w b r n M left cnt) : w.rangeLeft b r = cnt := by
  obtain ⟨D, L, hr, hD⟩ := h
  exact hr.left_eq

theorem BRange.block (h : BRange P k e w b r n M left cnt) (hb : w'.heap[b]? = w.heap[b]?) (hr : w'.heap[r]? = w.heap[r]?) : BRange P k e w' b r n M left cnt := by
  obtain ⟨D, L, ⟨es, clock, since, seen, c0, h1, h2, h3, h4, h5, h6⟩, hD⟩ := h
  exact ⟨D, L, ⟨es, clock, since, seen, c0, hb.trans h1, h2, h3, h4, hr.trans h5, h6⟩, hD⟩

theorem BMap.range (hk : P.underlying k = some (.int .i64)) (ht : P.underlying t = some (.map k e)) (h : BMap P k e w b n M) :
    ∃ w' cnt, (Instr.range t (.map (some b))).run P w = .ok (.pointer (some ⟨w.heap.size, 0, none⟩)) w' ∧ BRange P k e w' b w.heap.size n M (fun x => (M x).isSome) cnt ∧ cnt ≤ n ∧ w.grownBy w' none ∧ w'.heap.size = w.heap.size + 1 := by
  obtain ⟨D, ho, hD⟩ := h
  obtain ⟨w', hrun, hr, hg, hs⟩ := ho.range (int_keyed hk) ht
  exact ⟨w', _, hrun, ⟨D, _, hr, fun x hx => ⟨(hD x hx).1, (hD x hx).2, (hD x hx).1⟩⟩, ho.size_le, hg, hs⟩

theorem BRange.next (hk : P.underlying k = some (.int .i64)) (he : P.underlying e = some .bool) (h : BRange P k e w b r n M left cnt) (ty : TypeId) :
    (cnt = 0 ∧ (∀ x, (Lit.int .i64 x).wf = true → left x = false) ∧ (Instr.next (.pointer (some ⟨r, 0, none⟩)) false ty).run P w = .ok (.tuple #[.bool false]) w) ∨
    ∃ x c w' cnt', (Lit.int .i64 x).wf = true ∧ left x = true ∧ M x = some c ∧ (Instr.next (.pointer (some ⟨r, 0, none⟩)) false ty).run P w = .ok (.tuple #[.bool true, .int .i64 x, .bool c]) w' ∧
      BRange P k e w' b r n M (fun y => left y && (y != x)) cnt' ∧ cnt' < cnt ∧ w.grownBy w' (some r) ∧ w'.heap.size = w.heap.size ∧ (Instr.entry (.pointer (some ⟨r, 0, none⟩))).run P w' = .ok (.tuple #[.int .i64 x, .bool c]) w' := by
  obtain ⟨D, L, hr, hD⟩ := h
  rcases hr.next (int_keyed hk) ty with ⟨h0, hl, hrun⟩ | ⟨key, v, kl, y, w', cnt', hkey, hlk, hv, hat, hrun, hrg, hlt, hgr, hsz, hen⟩
  · exact .inl ⟨h0, fun x hx => by rw [← (hD x hx).2.2]; exact hl _, hrun⟩
  · obtain ⟨x, rfl, rfl, hx⟩ := Maps.keyOf_int_inv hk hkey
    obtain ⟨c, rfl, rfl⟩ := plainElem_bool_inv he hv
    have hd := hD x hx
    have hhas : has D (.int .i64 x) = true := has_true_of_atKey hat
    rw [hd.1] at hhas
    have hc := hat (.lit (.bool false))
    rw [hd.2.1] at hc
    simp only [DataW.lit.injEq, Lit.bool.injEq] at hc
    have hM : M x = some c := by
      cases hq : M x with
      | none => rw [hq] at hhas; cases hhas
      | some c' => rw [hq] at hc; simp at hc; rw [hc]
    refine .inr ⟨x, c, w', cnt', hx, by rw [← hd.2.2]; exact hlk, hM, hrun, ⟨D, _, hrg, fun y hy => ⟨(hD y hy).1, (hD y hy).2.1, ?_⟩⟩, hlt, hgr, hsz, hen⟩
    show (L (.int .i64 y) && !(Lit.int .i64 y).sameKey (.int .i64 x)) = _
    rw [(hD y hy).2.2]
    by_cases hyx : y = x
    · subst hyx
      rw [WideAt.sameKey_self (isKeyLit_int _)]
      simp
    · rw [sameKey_ne (fun e => hyx (by injection e))]
      simp [hyx]
end
end Go.Proofs.Ytbjnoffdafpkgaa
namespace Go.Proofs.Ytbjnoffdafpkgaa
open Go.Maps

def encC (c : Int × Bool) : Value := .agg #[.int .i64 c.1, .bool c.2]
def datC (c : Int × Bool) : DataW Unit := .agg [.lit (.int .i64 c.1), .lit (.bool c.2)]
def constElem (v : Value) : Option (DataW Unit × List MemPlace) :=
  match v with
  | .agg ⟨[.int .i64 a, .bool d]⟩ => some (datC (a, d), [])
  | _ => none

theorem constElem_enc (c : Int × Bool) : constElem (encC c) = some (datC c, []) := rfl
theorem constElem_inv {v : Value} {z : DataW Unit × List MemPlace} (h : constElem v = some z) : ∃ c, v = encC c ∧ z = (datC c, []) := by
  unfold constElem at h
  split at h
  · rename_i a d
    injection h with h
    exact ⟨(a, d), rfl, h.symm⟩
  · cases h
theorem datC_inj {c d : Int × Bool} (h : datC c = datC d) : c = d := by
  simp [datC] at h
  exact Prod.ext h.1 h.2

/-- Block b is a map of at most n entries that holds M. -/
def CMap (P : Program) (k : TypeId) (w : World) (b n : Nat) (M : Int → Option (Int × Bool)) : Prop :=
  ∃ D : DataW Unit, w.ownsMap P k constElem b n D ∧ ∀ x, (Lit.int .i64 x).wf = true → has D (.int .i64 x) = (M x).isSome ∧ D.atKey (.int .i64 x) (datC (0, false)) = datC ((M x).getD (0, false))

section
variable {P : Program} {k e t : TypeId} {w w' : World} {b n : Nat} {M : Int → Option (Int × Bool)}

theorem CMap.made (P : Program) (k : TypeId) (w : World) : CMap P k (w.alloc (.map #[] 0)) w.heap.size 0 (fun _ => none) :=
  ⟨.map [], World.ownsMap_made w P k _, fun _ _ => ⟨rfl, rfl⟩⟩

theorem CMap.lt (h : CMap P k w b n M) : b < w.heap.size := by obtain ⟨D, h, _⟩ := h; exact h.lt
theorem CMap.mono (h : CMap P k w b n M) {n' : Nat} (hn : n ≤ n') : CMap P k w b n' M := by obtain ⟨D, h, hD⟩ := h; exact ⟨D, h.mono hn, hD⟩
theorem CMap.block (h : CMap P k w b n M) (hb : w'.heap[b]? = w.heap[b]?) : CMap P k w' b n M := by
  obtain ⟨D, ⟨es, clock, h1, h2⟩, hD⟩ := h
  exact ⟨D, ⟨es, clock, hb.trans h1, h2⟩, hD⟩

theorem CMap.look (hk : P.underlying k = some (.int .i64)) (ht : P.underlying t = some (.map k e)) (hz : ∀ w, (zeroValue e).run P w = .ok (encC (0, false)) w)
    (h : CMap P k w b n M) {x : Int} (hx : (Lit.int .i64 x).wf = true) : (Instr.lookup t (.map (some b)) (.int .i64 x) true).run P w = .ok (.tuple #[encC ((M x).getD (0, false)), .bool (M x).isSome]) w := by
  obtain ⟨D, ho, hD⟩ := h
  obtain ⟨v, ps, hrun, hv⟩ := ho.look_ok (int_keyed hk) ht (hz w) (constElem_enc (0, false)) (keyOf_int_mk hk hx)
  rw [(hD x hx).2] at hv
  obtain ⟨c, rfl, hc⟩ := constElem_inv hv
  simp only [Prod.mk.injEq] at hc
  rw [hrun, datC_inj hc.1, (hD x hx).1]

theorem CMap.update (hk : P.underlying k = some (.int .i64)) (ht : P.underlying t = some (.map k e))
    (h : CMap P k w b n M) (hn : n < maxLen) {x : Int} (hx : (Lit.int .i64 x).wf = true) (v : Int × Bool) :
    ∃ w', (Instr.mapUpdate t (.map (some b)) (.int .i64 x) (encC v)).run P w = .ok () w' ∧ CMap P k w' b (n + 1) (updM M x v) ∧ w.grownBy w' (some b) ∧ w'.heap.size = w.heap.size := by
  obtain ⟨D, ho, hD⟩ := h
  obtain ⟨w', hrun, ho', hg⟩ := ho.update (int_keyed hk) ht hn (keyOf_int_mk hk hx) (constElem_enc v)
  have him := ho.isMap
  refine ⟨w', hrun, ⟨_, ho', fun y hy => ?_⟩, hg, ?_⟩
  · by_cases hyx : y = x
    · subst hyx
      simp only [updM, if_true]
      exact ⟨has_put_same him (isKeyLit_int _) _, atKey_put_same him (isKeyLit_int _) _ _⟩
    · have hne : (Lit.int .i64 y) ≠ (.int .i64 x) := fun e => hyx (by injection e)
      simp only [updM, if_neg hyx]
      rw [has_put_other hne, atKey_put_other hne]
      exact hD y hy
  · obtain ⟨es, clock, hb, F, hs, rfl⟩ := ho
    obtain ⟨es', clock', hrun', _⟩ := Maps.fit_store (R' := constElem) (int_keyed hk) ht hb F (Nat.lt_of_le_of_lt hs hn) (fun _ _ _ _ hz => hz) (keyOf_int_mk hk hx) (constElem_enc v)
    rw [hrun] at hrun'
    injection hrun' with _ h2
    rw [h2]
    simp [ChangeMaps.setBlock]
end

/-- 'for k := range m' under way. -/
def CRange (P : Program) (k : TypeId) (w : World) (b r n : Nat) (M : Int → Option (Int × Bool)) (left : Int → Bool) (cnt : Nat) : Prop :=
  ∃ (D : DataW Unit) (L : Lit → Bool), w.ranges P k constElem b r n D L cnt ∧ (∀ x, (Lit.int .i64 x).wf = true → has D (.int .i64 x) = (M x).isSome ∧ D.atKey (.int .i64 x) (datC (0, false)) = datC ((M x).getD (0, false)) ∧ L (.int .i64 x) = left x)

section
variable {P : Program} {k e t : TypeId} {w w' : World} {b r n cnt : Nat} {M : Int → Option (Int × Bool)} {left : Int → Bool}

theorem CRange.map (h : CRange P k w b r n M left cnt) : CMap P k w b n M := by
  obtain ⟨D, L, hr, hD⟩ := h
  exact ⟨D, hr.owns, fun x hx => ⟨(hD x hx).1, (hD x hx).2.1⟩⟩

theorem CRange.lt (h : CRange P k w b r n M left cnt) : r < w.heap.size := by
  obtain ⟨D, L, hr, hD⟩ := h
  exact hr.lt

theorem CRange.cnt_eq (h : CRange P k w b r n M left cnt) : w.rangeLeft b r = cnt := by
  obtain ⟨D, L, hr, hD⟩ := h
  exact hr.left_eq

theorem CRange.block (h : CRange P k w b r n M left cnt) (hb : w'.heap[b]? = w.heap[b]?) (hr : w'.heap[r]? = w.heap[r]?) : CRange P k w' b r n M left cnt := by
  obtain ⟨D, L, ⟨es, clock, since, seen, c0, h1, h2, h3, h4, h5, h6⟩, hD⟩ := h
  exact ⟨D, L, ⟨es, clock, since, seen, c0, hb.trans h1, h2, h3, h4, hr.trans h5, h6⟩, hD⟩

theorem CMap.range (hk : P.underlying k = some (.int .i64)) (ht : P.underlying t = some (.map k e)) (h : CMap P k w b n M) :
    ∃ w' cnt, (Instr.range t (.map (some b))).run P w = .ok (.pointer (some ⟨w.heap.size, 0, none⟩)) w' ∧ CRange P k w' b w.heap.size n M (fun x => (M x).isSome) cnt ∧ cnt ≤ n ∧ w.grownBy w' none ∧ w'.heap.size = w.heap.size + 1 := by
  obtain ⟨D, ho, hD⟩ := h
  obtain ⟨w', hrun, hr, hg, hs⟩ := ho.range (int_keyed hk) ht
  exact ⟨w', _, hrun, ⟨D, _, hr, fun x hx => ⟨(hD x hx).1, (hD x hx).2, (hD x hx).1⟩⟩, ho.size_le, hg, hs⟩

theorem CRange.next (hk : P.underlying k = some (.int .i64)) (h : CRange P k w b r n M left cnt) (ty : TypeId) :
    (cnt = 0 ∧ (∀ x, (Lit.int .i64 x).wf = true → left x = false) ∧ (Instr.next (.pointer (some ⟨r, 0, none⟩)) false ty).run P w = .ok (.tuple #[.bool false]) w) ∨
    ∃ x c w' cnt', (Lit.int .i64 x).wf = true ∧ left x = true ∧ M x = some c ∧ (Instr.next (.pointer (some ⟨r, 0, none⟩)) false ty).run P w = .ok (.tuple #[.bool true, .int .i64 x, encC c]) w' ∧
      CRange P k w' b r n M (fun y => left y && (y != x)) cnt' ∧ cnt' < cnt ∧ w.grownBy w' (some r) ∧ w'.heap.size = w.heap.size ∧ (Instr.entry (.pointer (some ⟨r, 0, none⟩))).run P w' = .ok (.tuple #[.int .i64 x, encC c]) w' := by
  obtain ⟨D, L, hr, hD⟩ := h
  rcases hr.next (int_keyed hk) ty with ⟨h0, hl, hrun⟩ | ⟨key, v, kl, y, w', cnt', hkey, hlk, hv, hat, hrun, hrg, hlt, hgr, hsz, hen⟩
  · exact .inl ⟨h0, fun x hx => by rw [← (hD x hx).2.2]; exact hl _, hrun⟩
  · obtain ⟨x, rfl, rfl, hx⟩ := Maps.keyOf_int_inv hk hkey
    obtain ⟨c, rfl, rfl⟩ := constElem_inv hv
    have hd := hD x hx
    have hhas : has D (.int .i64 x) = true := has_true_of_atKey hat
    rw [hd.1] at hhas
    have hc := hat (datC (0, false))
    rw [hd.2.1] at hc
    have hc := datC_inj hc
    have hM : M x = some c := by
      cases hq : M x with
      | none => rw [hq] at hhas; cases hhas
      | some c' => rw [hq] at hc; simp at hc; rw [hc]
    refine .inr ⟨x, c, w', cnt', hx, by rw [← hd.2.2]; exact hlk, hM, hrun, ⟨D, _, hrg, fun y hy => ⟨(hD y hy).1, (hD y hy).2.1, ?_⟩⟩, hlt, hgr, hsz, hen⟩
    show (L (.int .i64 y) && !(Lit.int .i64 y).sameKey (.int .i64 x)) = _
    rw [(hD y hy).2.2]
    by_cases hyx : y = x
    · subst hyx
      rw [WideAt.sameKey_self (isKeyLit_int _)]
      simp
    · rw [sameKey_ne (fun e => hyx (by injection e))]
      simp [hyx]
end
end Go.Proofs.Ytbjnoffdafpkgaa
namespace Go.Proofs.Ytbjnoffdafpkgaa
open Go.Maps

def heldElem (v : Value) : Option (DataW Value × List MemPlace) := some (.held v, [])

/-- Block b is a map of at most n entries that holds M. -/
def HMap (P : Program) (k : TypeId) (w : World) (b n : Nat) (M : Int → Option Value) : Prop :=
  ∃ D : DataW Value, w.ownsMap P k heldElem b n D ∧ ∀ x, (Lit.int .u8 x).wf = true → D.atKey (.int .u8 x) (.held .nilFunc) = .held ((M x).getD .nilFunc)

section
variable {P : Program} {k e t : TypeId} {w w' : World} {b n : Nat} {M : Int → Option Value}

theorem HMap.fresh (P : Program) (k : TypeId) {W : World} {b : Nat} (h : W.heap[b]? = some (.map #[] 0)) : HMap P k W b 0 (fun _ => none) := by
  obtain ⟨es, clock, h1, h2⟩ := World.ownsMap_made W P k heldElem
  have e1 : (W.alloc (.map #[] 0)).heap[W.heap.size]? = some (.map #[] 0) := heap_alloc_new _ _
  rw [e1] at h1
  injection h1 with h1
  injection h1 with h3 h4
  subst h3 h4
  exact ⟨_, ⟨_, _, h, h2⟩, fun _ _ => rfl⟩
theorem HMap.lt (h : HMap P k w b n M) : b < w.heap.size := by obtain ⟨D, h, _⟩ := h; exact h.lt
theorem HMap.block (h : HMap P k w b n M) (hb : w'.heap[b]? = w.heap[b]?) : HMap P k w' b n M := by
  obtain ⟨D, ⟨es, clock, h1, h2⟩, hD⟩ := h
  exact ⟨D, ⟨es, clock, hb.trans h1, h2⟩, hD⟩

theorem HMap.lookup (hk : P.underlying k = some (.int .u8)) (ht : P.underlying t = some (.map k e)) (hz : ∀ w, (zeroValue e).run P w = .ok .nilFunc w)
    (h : HMap P k w b n M) {x : Int} (hx : (Lit.int .u8 x).wf = true) : (Instr.lookup t (.map (some b)) (.int .u8 x) false).run P w = .ok ((M x).getD .nilFunc) w := by
  obtain ⟨D, ho, hD⟩ := h
  obtain ⟨v, ps, hrun, hv⟩ := ho.lookup (int_keyed hk) ht (hz w) (zd := .held .nilFunc) (zp := []) rfl (keyOf_int_mk hk hx)
  rw [hD x hx] at hv
  simp only [heldElem, Option.some.injEq, Prod.mk.injEq, DataW.held.injEq] at hv
  rw [hrun, hv.1]

theorem HMap.update (hk : P.underlying k = some (.int .u8)) (ht : P.underlying t = some (.map k e))
    (h : HMap P k w b n M) (hn : n < maxLen) {x : Int} (hx : (Lit.int .u8 x).wf = true) (v : Value) :
    ∃ w', (Instr.mapUpdate t (.map (some b)) (.int .u8 x) v).run P w = .ok () w' ∧ HMap P k w' b (n + 1) (updM M x v) ∧ w.grownBy w' (some b) ∧ w'.heap.size = w.heap.size := by
  obtain ⟨D, ho, hD⟩ := h
  obtain ⟨w', hrun, ho', hg⟩ := ho.update (int_keyed hk) ht hn (keyOf_int_mk hk hx) (d := .held v) (ps := []) rfl
  have him := ho.isMap
  have hkl : ∀ y : Int, WideAt.IsKeyLit (.int .u8 y) := fun y => by simp [WideAt.IsKeyLit]
  refine ⟨w', hrun, ⟨_, ho', fun y hy => ?_⟩, hg, ?_⟩
  · by_cases hyx : y = x
    · subst hyx
      simp only [updM, if_true]
      exact atKey_put_same him (hkl _) _ _
    · have hne : (Lit.int .u8 y) ≠ (.int .u8 x) := fun e => hyx (by injection e)
      simp only [updM, if_neg hyx]
      rw [atKey_put_other hne]
      exact hD y hy
  · obtain ⟨es, clock, hb, F, hs, rfl⟩ := ho
    obtain ⟨es', clock', hrun', _⟩ := Maps.fit_store (R' := heldElem) (int_keyed hk) ht hb F (Nat.lt_of_le_of_lt hs hn) (fun _ _ _ _ hz => hz) (keyOf_int_mk hk hx) (val := v) (yv := (.held v, [])) rfl
    rw [hrun] at hrun'
    injection hrun' with _ h2
    rw [h2]
    simp [ChangeMaps.setBlock]
end
end Go.Proofs.Ytbjnoffdafpkgaa
