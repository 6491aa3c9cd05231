/- The reference's words for what is static and for values, in plain Lean: they are those of the program. The reference's span. The reference's Range of a subtype. -/
import Derived.Test.YtgdjhhfbpalkdaaGreatV15
namespace Go.Proofs.YtgdjhhfbpalkdaaGreat
open Go.RowKit
/-- The index subtype of an array or array type. -/
def arrP (t : Tab) (y : ExV) : Option Int :=
  if namedP y && (typedP (entP t y.ent) || objP (entP t y.ent)) then
    match tyP t (entP t y.ent).sub with
    | none => none
    | some (z, _) => if z.kind = 4 then match plainP t z.index with | none => none | some (b, _) => if b.1 ≤ b.2 then some z.index else none else none
  else none
/-- The scalar subtype of a prefix, whether it is that of an index; whether there is one. -/
def prefP (t : Tab) (y : ExV) : Int × Bool × Bool :=
  if (markP t y).isSome then ((entP t y.ent).sub, false, true) else match arrP t y with
    | some i => (i, true, true)
    | none => (0, false, false)
def boundsP (t : Tab) (s : Int) : Bd := ((subP t s).lo, (subP t s).hi)
theorem plain_bounds {t : Tab} {s : Int} {b a : Bd} (h : plainP t s = some (b, a)) : b = boundsP t s ∧ (kindP t s = 2 ∨ kindP t s = 3) := by
  unfold plainP rangeP at h
  by_cases c : kindP t s = 2 ∨ kindP t s = 3
  · rw [if_pos c] at h
    simp only at h
    split at h
    · cases h
    · injection h with h
      injection h with h1 h2
      exact ⟨h1.symm, c⟩
  · rw [if_neg c] at h
    cases h
theorem mark_bounds {t : Tab} {y : ExV} {b a : Bd} (h : markP t y = some (b, a)) : (namedP y && typedP (entP t y.ent)) = true ∧ plainP t (entP t y.ent).sub = some (b, a) := by
  unfold markP at h
  split at h
  · rename_i c
    exact ⟨c, h⟩
  · cases h
theorem arr_index (t : Tab) (y : ExV) : indexP t y = (arrP t y).map (boundsP t) := by
  unfold indexP arrP
  simp only
  split
  · cases h1 : tyP t (entP t y.ent).sub with
    | none => rfl
    | some p =>
      obtain ⟨z, s⟩ := p
      simp only
      by_cases k : z.kind = 4
      · rw [if_pos k, if_pos k]
        cases h2 : plainP t z.index with
        | none => rfl
        | some q =>
          obtain ⟨b, a⟩ := q
          simp only
          by_cases c : b.1 ≤ b.2
          · rw [if_pos c, if_pos c, (plain_bounds h2).1]
            rfl
          · rw [if_neg c, if_neg c]
            rfl
      · rw [if_neg k, if_neg k]
        rfl
  · rfl
theorem mark_arr {t : Tab} {y : ExV} (h : (markP t y).isSome = true) : arrP t y = none := by
  obtain ⟨⟨b, a⟩, hb⟩ := Option.isSome_iff_exists.1 h
  obtain ⟨_, h2⟩ := mark_bounds hb
  have h3 := (plain_bounds h2).2
  unfold arrP
  split
  · unfold kindP at h3
    cases h1 : tyP t (entP t y.ent).sub with
    | none => rfl
    | some p =>
      obtain ⟨z, s⟩ := p
      rw [h1] at h3
      simp only at h3 ⊢
      rw [if_neg (by omega)]
  · rfl
theorem pref_mark {t : Tab} {x : ExV} (h : (markP t x).isSome = true) : prefP t x = ((entP t x.ent).sub, false, true) := by
  unfold prefP
  rw [if_pos h]
theorem pref_none {t : Tab} {x : ExV} (h : (markP t x).isSome = false) (ha : arrP t x = none) : prefP t x = (0, false, false) := by
  unfold prefP
  rw [if_neg (by simp [h]), ha]
theorem pref_some {t : Tab} {x : ExV} {i : Int} (h : (markP t x).isSome = false) (ha : arrP t x = some i) : prefP t x = (i, true, true) := by
  unfold prefP
  rw [if_neg (by simp [h]), ha]
def attrB (x : ExV) (arr : Bool) : Bool := decide (x.s = sFirst) || decide (x.s = sLast) || (decide (x.s = sLength) && arr)
/-- attrP, as the reference says it. -/
theorem attr_pref (t : Tab) (x : ExV) : attrP t x = match x.ls with
    | [y] => if ((prefP t y).2.2 && attrB x (prefP t y).2.1) = true then some (boundsP t (prefP t y).1) else none
    | _ => none := by
  unfold attrP
  split
  · rename_i y he
    rw [arr_index]
    simp only [he]
    unfold attrB
    cases h : (markP t y).isSome
    · have hm : markP t y = none := by simpa using h
      cases ha : arrP t y with
      | none =>
        rw [pref_none h ha, hm]
        simp
      | some i =>
        rw [pref_some h ha]
        simp [or_assoc]
    · rw [mark_arr h, pref_mark h]
      obtain ⟨⟨b, a⟩, hb⟩ := Option.isSome_iff_exists.1 h
      obtain ⟨_, h2⟩ := mark_bounds hb
      rw [hb, (plain_bounds h2).1]
      simp
  · rename_i h
    split
    · rename_i y he
      exact absurd he (h y)
    · rfl
/-- The value of an operator of two operands, as the reference says it. -/
def opR (o a b : Int) : Option Int := if o = 3 then (if b ≠ 0 ∧ absP a > (4611686018427387904 : Int).tdiv (absP b) then none else some (a * b)) else opP o a b
theorem opR_in {o a b lo hi : Int} (h : hi ≤ 4611686018427387904) : (match opR o a b with | none => none | some v => withinP v (lo, hi)) = (match opP o a b with | none => none | some v => withinP v (lo, hi)) := by
  unfold opR
  by_cases k : o = 3
  · rw [if_pos k]
    subst k
    unfold opP
    simp only [show (3 : Int) ≠ 1 from by decide, show (3 : Int) ≠ 2 from by decide, if_false, if_true]
    by_cases c : b ≠ 0 ∧ absP a > (4611686018427387904 : Int).tdiv (absP b)
    · rw [if_pos c, if_pos c]
      simp only [withinP]
      rw [if_pos (by omega)]
    · rw [if_neg c, if_neg c]
  · rw [if_neg k]
def dyR (V : ExV → Option Int) (x : ExV) : Option Int :=
  match V (l0 x) with
  | none => none
  | some a =>
    if x.oper = 16 ∧ a = 0 then some 0
    else if x.oper = 17 ∧ a ≠ 0 then some 1
    else match V (l1 x) with
      | none => none
      | some b => if x.oper = 16 ∨ x.oper = 17 then some b else opR x.oper a b
def rawR (V : ExV → Option Int) (t : Tab) (x : ExV) : Option Int :=
  if x.kind = 1 then some x.n
  else if x.kind = 3 ∨ x.kind = 4 then some (entP t x.ent).value
  else if x.kind = 6 then attrV t x
  else if x.kind = 7 then callV V t x
  else if x.kind = 8 then qualV V t x
  else if x.kind = 10 then ifV V x
  else if x.kind = 13 then (memV V t x).map truthP
  else if x.kind = 14 then (memV V t x).map fun b => truthP (!b)
  else if x.kind = 11 then monV V x
  else dyR V x
def valR (V : ExV → Option Int) (t : Tab) (x : ExV) : Option Int :=
  match rawR V t x with
  | none => none
  | some v => match spanP t x.t with
    | none => none
    | some b => withinP v b
theorem valR_eq {V : ExV → Option Int} {t : Tab} {x : ExV} (hl : ∀ y, y ∈ t.types → y.lits.length ≤ 140737488355328) : valR V t x = valF V t x := by
  unfold valR valF
  cases hs : spanP t x.t with
  | none => cases rawR V t x <;> cases rawF V t x <;> rfl
  | some b =>
    obtain ⟨lo, hi⟩ := b
    have hb := (span_bd hl hs).2
    simp only
    unfold rawR rawF
    by_cases k : x.kind = 1
    · rw [if_pos k, if_pos k]
      try rfl
    rw [if_neg k, if_neg k]
    clear k
    by_cases k : x.kind = 3 ∨ x.kind = 4
    · rw [if_pos k, if_pos k]
      try rfl
    rw [if_neg k, if_neg k]
    clear k
    by_cases k : x.kind = 6
    · rw [if_pos k, if_pos k]
      try rfl
    rw [if_neg k, if_neg k]
    clear k
    by_cases k : x.kind = 7
    · rw [if_pos k, if_pos k]
      try rfl
    rw [if_neg k, if_neg k]
    clear k
    by_cases k : x.kind = 8
    · rw [if_pos k, if_pos k]
      try rfl
    rw [if_neg k, if_neg k]
    clear k
    by_cases k : x.kind = 10
    · rw [if_pos k, if_pos k]
      try rfl
    rw [if_neg k, if_neg k]
    clear k
    by_cases k : x.kind = 13
    · rw [if_pos k, if_pos k]
      try rfl
    rw [if_neg k, if_neg k]
    clear k
    by_cases k : x.kind = 14
    · rw [if_pos k, if_pos k]
      try rfl
    rw [if_neg k, if_neg k]
    clear k
    by_cases k : x.kind = 11
    · rw [if_pos k, if_pos k]
      try rfl
    rw [if_neg k, if_neg k]
    clear k
    unfold dyR dyV
    cases V (l0 x) with
    | none => rfl
    | some a =>
      simp only
      by_cases c1 : x.oper = 16 ∧ a = 0
      · rw [if_pos c1, if_pos c1]
      rw [if_neg c1, if_neg c1]
      by_cases c2 : x.oper = 17 ∧ a ≠ 0
      · rw [if_pos c2, if_pos c2]
      rw [if_neg c2, if_neg c2]
      cases V (l1 x) with
      | none => rfl
      | some b =>
        simp only
        by_cases c3 : x.oper = 16 ∨ x.oper = 17
        · rw [if_pos c3, if_pos c3]
        rw [if_neg c3, if_neg c3]
        exact opR_in hb
end Go.Proofs.YtgdjhhfbpalkdaaGreat
namespace Go.Proofs.YtgdjhhfbpalkdaaGreat
open Go.RowKit
set_option maxRecDepth 100000 in
set_option maxHeartbeats 1000000 in
theorem rspan_any (w : World) (v : TabV) (t : Tab) (ty : Int) (hT : TabIn w v t) : Calls Tryz.prog 22 #[.agg (v.cells t), .int .i64 ty] w (RetV (bd3V (spanP t ty)) w) := by
  have HT := Lib.hid hT
  have q1 := hT.tl
  clear hT
  unfold TabV.cells
  by_cases h0 : ty < 0
  · have HR : Hid (spanP t ty = none) := span_out (.inl h0)
    go_enter Tryz.func22, Tryz.ntmps22
    go_wp2_with fail
    rw [HR.out]
    exact bodyPost_v rfl (res3 Tryz.results22 (resT rfl) (resT rfl) (resT rfl)) (by repeat (first | with_reducible exact HK.out | with_reducible exact Kept.refl _ _ | with_reducible refine Kept.prev ?_ | with_reducible refine Kept.alloc' ?_ _ | with_reducible refine Kept.drew' ?_ | with_reducible refine Kept.setB ?_ _ _ _ (by omega) | with_reducible refine Kept.row' ?_ _ _ (by omega) | with_reducible refine Kept.map' ?_ _ _ (by omega)))
  obtain ⟨n, rfl⟩ := Int.eq_ofNat_of_zero_le (by omega : 0 ≤ ty)
  by_cases h1 : t.types.length ≤ n
  · have HR : Hid (spanP t (n : Int) = none) := span_out (.inr (by omega))
    have h2 : (t.types.length : Int) ≤ (n : Int) := by omega
    go_enter Tryz.func22, Tryz.ntmps22
    go_wp2_with fail
    rw [HR.out]
    exact bodyPost_v rfl (res3 Tryz.results22 (resT rfl) (resT rfl) (resT rfl)) (by repeat (first | with_reducible exact HK.out | with_reducible exact Kept.refl _ _ | with_reducible refine Kept.prev ?_ | with_reducible refine Kept.alloc' ?_ _ | with_reducible refine Kept.drew' ?_ | with_reducible refine Kept.setB ?_ _ _ _ (by omega) | with_reducible refine Kept.row' ?_ _ _ (by omega) | with_reducible refine Kept.map' ?_ _ _ (by omega)))
  obtain ⟨y, b, o, hy, ha, hat, hl⟩ := tab_ty HT.out (by omega : n < t.types.length)
  have HS := Lib.hid (span_at hy)
  have h2 : (n : Int) < (t.types.length : Int) := by omega
  rw [ha]
  clear hy ha
  by_cases k1 : y.kind = 1
  · have HR : Hid (spanP t (n : Int) = some (-4611686018427387904, 4611686018427387904)) := by rw [Hid, HS.out]; simp [k1]
    go_enter Tryz.func22, Tryz.ntmps22
    go_wp2_with fail
    rw [HR.out]
    exact bodyPost_v rfl (res3 Tryz.results22 (resT rfl) (resT rfl) (resT rfl)) (by repeat (first | with_reducible exact HK.out | with_reducible exact Kept.refl _ _ | with_reducible refine Kept.prev ?_ | with_reducible refine Kept.alloc' ?_ _ | with_reducible refine Kept.drew' ?_ | with_reducible refine Kept.setB ?_ _ _ _ (by omega) | with_reducible refine Kept.row' ?_ _ _ (by omega) | with_reducible refine Kept.map' ?_ _ _ (by omega)))
  by_cases k2 : y.formal = 0
  rotate_left
  · have HR : Hid (spanP t (n : Int) = none) := by rw [Hid, HS.out]; simp [k1, k2]
    go_enter Tryz.func22, Tryz.ntmps22
    go_wp2_with fail
    all_goals
      rw [HR.out]
      exact bodyPost_v rfl (res3 Tryz.results22 (resT rfl) (resT rfl) (resT rfl)) (by repeat (first | with_reducible exact HK.out | with_reducible exact Kept.refl _ _ | with_reducible refine Kept.prev ?_ | with_reducible refine Kept.alloc' ?_ _ | with_reducible refine Kept.drew' ?_ | with_reducible refine Kept.setB ?_ _ _ _ (by omega) | with_reducible refine Kept.row' ?_ _ _ (by omega) | with_reducible refine Kept.map' ?_ _ _ (by omega)))
  by_cases k3 : y.kind = 2
  · have HR : Hid (spanP t (n : Int) = some (-2147483648, 2147483647)) := by rw [Hid, HS.out]; simp [k2, k3]
    go_enter Tryz.func22, Tryz.ntmps22
    go_wp2_with fail
    rw [HR.out]
    exact bodyPost_v rfl (res3 Tryz.results22 (resT rfl) (resT rfl) (resT rfl)) (by repeat (first | with_reducible exact HK.out | with_reducible exact Kept.refl _ _ | with_reducible refine Kept.prev ?_ | with_reducible refine Kept.alloc' ?_ _ | with_reducible refine Kept.drew' ?_ | with_reducible refine Kept.setB ?_ _ _ _ (by omega) | with_reducible refine Kept.row' ?_ _ _ (by omega) | with_reducible refine Kept.map' ?_ _ _ (by omega)))
  by_cases k4 : y.kind = 3
  · have HR : Hid (spanP t (n : Int) = some (0, (y.lits.length : Int) - 1)) := by rw [Hid, HS.out]; simp [k2, k4]
    go_enter Tryz.func22, Tryz.ntmps22
    go_wp2_with fail
    go_region
    all_goals
      go_wp2_with fail
      rw [HR.out]
      exact bodyPost_v rfl (res3 Tryz.results22 (resT rfl) (resT rfl) (resT rfl)) (by repeat (first | with_reducible exact HK.out | with_reducible exact Kept.refl _ _ | with_reducible refine Kept.prev ?_ | with_reducible refine Kept.alloc' ?_ _ | with_reducible refine Kept.drew' ?_ | with_reducible refine Kept.setB ?_ _ _ _ (by omega) | with_reducible refine Kept.row' ?_ _ _ (by omega) | with_reducible refine Kept.map' ?_ _ _ (by omega)))
  have HR : Hid (spanP t (n : Int) = none) := by rw [Hid, HS.out]; simp [k1, k2, k3, k4]
  go_enter Tryz.func22, Tryz.ntmps22
  go_wp2_with fail
  rw [HR.out]
  exact bodyPost_v rfl (res3 Tryz.results22 (resT rfl) (resT rfl) (resT rfl)) (by repeat (first | with_reducible exact HK.out | with_reducible exact Kept.refl _ _ | with_reducible refine Kept.prev ?_ | with_reducible refine Kept.alloc' ?_ _ | with_reducible refine Kept.drew' ?_ | with_reducible refine Kept.setB ?_ _ _ _ (by omega) | with_reducible refine Kept.row' ?_ _ _ (by omega) | with_reducible refine Kept.map' ?_ _ _ (by omega)))
end Go.Proofs.YtgdjhhfbpalkdaaGreat
namespace Go.Proofs.YtgdjhhfbpalkdaaGreat
open Go.RowKit
def atIs (i n : Int) : Bool := decide (0 ≤ i) && decide (i < n)
set_option maxRecDepth 100000 in
theorem atIs_any (w : World) (i n : Int) : Calls Tryz.prog 84 #[.int .i64 i, .int .i64 n] w (RetV (.bool (atIs i n)) w) := by
  by_cases h1 : 0 ≤ i
  · by_cases h2 : i < n
    · have HR : Hid (atIs i n = true) := by rw [Hid, atIs, decide_eq_true h1, decide_eq_true h2]; rfl
      go_enter Tryz.func84, Tryz.ntmps84
      go_wp2_with fail
      rw [HR.out]
      exact bodyPost_v rfl (res1 Tryz.results84 (resT rfl)) (by repeat (first | with_reducible exact HK.out | with_reducible exact Kept.refl _ _ | with_reducible refine Kept.prev ?_ | with_reducible refine Kept.alloc' ?_ _ | with_reducible refine Kept.drew' ?_ | with_reducible refine Kept.setB ?_ _ _ _ (by omega) | with_reducible refine Kept.row' ?_ _ _ (by omega) | with_reducible refine Kept.map' ?_ _ _ (by omega)))
    · have HR : Hid (atIs i n = false) := by rw [Hid, atIs, decide_eq_false h2, Bool.and_false]
      have h3 : decide (i < n) = false := decide_eq_false h2
      go_enter Tryz.func84, Tryz.ntmps84
      go_wp2_with fail
      rw [HR.out]
      exact bodyPost_v rfl (res1 Tryz.results84 (resT rfl)) (by repeat (first | with_reducible exact HK.out | with_reducible exact Kept.refl _ _ | with_reducible refine Kept.prev ?_ | with_reducible refine Kept.alloc' ?_ _ | with_reducible refine Kept.drew' ?_ | with_reducible refine Kept.setB ?_ _ _ _ (by omega) | with_reducible refine Kept.row' ?_ _ _ (by omega) | with_reducible refine Kept.map' ?_ _ _ (by omega)))
  · have HR : Hid (atIs i n = false) := by rw [Hid, atIs, decide_eq_false h1, Bool.false_and]
    have h3 : decide (0 ≤ i) = false := decide_eq_false h1
    go_enter Tryz.func84, Tryz.ntmps84
    go_wp2_with fail
    rw [HR.out]
    exact bodyPost_v rfl (res1 Tryz.results84 (resT rfl)) (by repeat (first | with_reducible exact HK.out | with_reducible exact Kept.refl _ _ | with_reducible refine Kept.prev ?_ | with_reducible refine Kept.alloc' ?_ _ | with_reducible refine Kept.drew' ?_ | with_reducible refine Kept.setB ?_ _ _ _ (by omega) | with_reducible refine Kept.row' ?_ _ _ (by omega) | with_reducible refine Kept.map' ?_ _ _ (by omega)))
theorem atIs_yes {i n : Int} (h1 : 0 ≤ i) (h2 : i < n) : atIs i n = true := by simp [atIs, h1, h2]
theorem atIs_no {i n : Int} (h : i < 0 ∨ n ≤ i) : atIs i n = false := by
  unfold atIs
  rcases h with h | h
  · rw [decide_eq_false (show ¬ 0 ≤ i by omega)]
    rfl
  · rw [decide_eq_false (show ¬ i < n by omega), Bool.and_false]
theorem kind_out {t : Tab} {n : Int} (h : n < 0 ∨ (t.subs.length : Int) ≤ n) : kindP t n = 0 := by
  unfold kindP tyP
  rw [if_pos h]
theorem kind_bad {t : Tab} {n : Nat} {s : SubtV} (hs : t.subs[n]? = some s) (h : s.t < 0 ∨ (t.types.length : Int) ≤ s.t) : kindP t (n : Int) = 0 := by
  have hn := (List.getElem?_eq_some_iff.1 hs).1
  have e : t.subs.getD n default = s := by simp [List.getD_eq_getElem?_getD, hs]
  unfold kindP tyP
  rw [if_neg (by omega)]
  simp only [Int.toNat_natCast, e]
  rw [if_pos h]
theorem kind_ok {t : Tab} {n m : Nat} {s : SubtV} {y : TyV} (hs : t.subs[n]? = some s) (hm : s.t = (m : Int)) (hy : t.types[m]? = some y) : kindP t (n : Int) = y.kind := by
  have hn := (List.getElem?_eq_some_iff.1 hs).1
  have hml := (List.getElem?_eq_some_iff.1 hy).1
  have e : t.subs.getD n default = s := by simp [List.getD_eq_getElem?_getD, hs]
  have e2 : t.types.getD m default = y := by simp [List.getD_eq_getElem?_getD, hy]
  unfold kindP tyP
  rw [if_neg (by omega)]
  simp only [Int.toNat_natCast, e]
  rw [if_neg (by omega), hm]
  simp only [Int.toNat_natCast, e2]
set_option maxRecDepth 100000 in
set_option maxHeartbeats 1000000 in
theorem rkind_any (w : World) (v : TabV) (t : Tab) (n : Int) (hT : TabIn w v t) : Calls Tryz.prog 57 #[.agg (v.cells t), .int .i64 n] w (RetV (.int .u8 (kindP t n)) w) := by
  have HT := Lib.hid hT
  have HA := Lib.hid (fun w i n => atIs_any w i n)
  clear hT
  unfold TabV.cells
  by_cases h0 : n < 0 ∨ (t.subs.length : Int) ≤ n
  · have HR : Hid (kindP t n = 0) := kind_out h0
    have a1 := atIs_no h0
    clear h0
    go_enter Tryz.func57, Tryz.ntmps57
    go_wp2_with fail
    refine wp_region_head 19 0 (fun _ => .cells #[] 0) (by kernel_rfl) (by kernel_rfl) (fun i o h1 h2 => by omega) (fun _ _ _ _ _ h => h) ?_; apply Exists.intro; refine ⟨fun U hU hN => ?_, ?_⟩; simp only [List.take_succ_cons, List.take_zero]
    · repeat (go_big_quiet_step (exact Calls.headV hU (HA.out _ _ _)))
      refine wpQuiet_nil ?_
      exact rfl
    simp only [List.drop_succ_cons, List.drop_zero, List.take_zero]
    intro w7 hk7 _
    haveI p_w7 : PrevWorld w7 _ := ⟨hk7⟩
    clear hk7
    go_wp2_with fail
    rw [HR.out]
    exact bodyPost_v rfl (res1 Tryz.results57 (resT rfl)) (by repeat (first | with_reducible exact HK.out | with_reducible exact Kept.refl _ _ | with_reducible refine Kept.prev ?_ | with_reducible refine Kept.alloc' ?_ _ | with_reducible refine Kept.drew' ?_ | with_reducible refine Kept.setB ?_ _ _ _ (by omega) | with_reducible refine Kept.row' ?_ _ _ (by omega) | with_reducible refine Kept.map' ?_ _ _ (by omega)))
  obtain ⟨n, rfl⟩ := Int.eq_ofNat_of_zero_le (by omega : 0 ≤ n)
  have a1 := atIs_yes (i := (n : Int)) (n := (t.subs.length : Int)) (by omega) (by omega)
  obtain ⟨s, b, o, hs, ha, hat, _⟩ := tab_sub HT.out (by omega : n < t.subs.length)
  have j1 : (n : Int) < (t.subs.length : Int) := by omega
  rw [ha]
  clear ha h0
  by_cases h0 : s.t < 0 ∨ (t.types.length : Int) ≤ s.t
  · have HR : Hid (kindP t (n : Int) = 0) := kind_bad hs h0
    have a2 := atIs_no h0
    clear h0 hs
    go_enter Tryz.func57, Tryz.ntmps57
    go_wp2_with fail
    refine wp_region_head 19 0 (fun _ => .cells #[] 0) (by kernel_rfl) (by kernel_rfl) (fun i o h1 h2 => by omega) (fun _ _ _ _ _ h => h) ?_; apply Exists.intro; refine ⟨fun U hU hN => ?_, ?_⟩; simp only [List.take_succ_cons, List.take_zero]
    · repeat (go_big_quiet_step (exact Calls.headV hU (HA.out _ _ _)))
      refine wpQuiet_nil ?_
      exact rfl
    simp only [List.drop_succ_cons, List.drop_zero, List.take_zero]
    intro w7 hk7 _
    haveI p_w7 : PrevWorld w7 _ := ⟨hk7⟩
    clear hk7
    go_wp2_with fail
    rw [HR.out]
    exact bodyPost_v rfl (res1 Tryz.results57 (resT rfl)) (by repeat (first | with_reducible exact HK.out | with_reducible exact Kept.refl _ _ | with_reducible refine Kept.prev ?_ | with_reducible refine Kept.alloc' ?_ _ | with_reducible refine Kept.drew' ?_ | with_reducible refine Kept.setB ?_ _ _ _ (by omega) | with_reducible refine Kept.row' ?_ _ _ (by omega) | with_reducible refine Kept.map' ?_ _ _ (by omega)))
  obtain ⟨m, hm⟩ := Int.eq_ofNat_of_zero_le (by omega : 0 ≤ s.t)
  have a2 := atIs_yes (i := (m : Int)) (n := (t.types.length : Int)) (by omega) (by omega)
  obtain ⟨y, b2, o2, hy, ha2, hat2, _⟩ := tab_ty HT.out (by omega : m < t.types.length)
  have HR := Lib.hid (kind_ok hs hm hy)
  have j2 : (m : Int) < (t.types.length : Int) := by omega
  rw [ha2]
  clear ha2 h0 hs hy
  go_enter Tryz.func57, Tryz.ntmps57
  go_wp2_with fail
  refine wp_region_head 19 0 (fun _ => .cells #[] 0) (by kernel_rfl) (by kernel_rfl) (fun i o h1 h2 => by omega) (fun _ _ _ _ _ h => h) ?_; apply Exists.intro; refine ⟨fun U hU hN => ?_, ?_⟩; simp only [List.take_succ_cons, List.take_zero]
  · repeat (go_big_quiet_step (exact Calls.headV hU (HA.out _ _ _)))
    refine wpQuiet_nil ?_
    exact rfl
  simp only [List.drop_succ_cons, List.drop_zero, List.take_zero]
  intro w7 hk7 _
  haveI p_w7 : PrevWorld w7 _ := ⟨hk7⟩
  clear hk7
  go_wp2_with fail
  go_region
  go_wp2_with fail
  rw [HR.out]
  exact bodyPost_v rfl (res1 Tryz.results57 (resT rfl)) (by repeat (first | with_reducible exact HK.out | with_reducible exact Kept.refl _ _ | with_reducible refine Kept.prev ?_ | with_reducible refine Kept.alloc' ?_ _ | with_reducible refine Kept.drew' ?_ | with_reducible refine Kept.setB ?_ _ _ _ (by omega) | with_reducible refine Kept.row' ?_ _ _ (by omega) | with_reducible refine Kept.map' ?_ _ _ (by omega)))
set_option maxRecDepth 100000 in
set_option maxHeartbeats 1000000 in
theorem rscalar_any (w : World) (v : TabV) (t : Tab) (n : Int) (hT : TabIn w v t) : Calls Tryz.prog 68 #[.agg (v.cells t), .int .i64 n] w (RetV (.bool (rangeP t n).isSome) w) := by
  have HK := Lib.hid (fun w' (hk : Kept [] w w') => rkind_any w' v t n (hT.kept hk))
  have HR : Hid ((rangeP t n).isSome = (kindP t n == 2 || kindP t n == 3)) := by
    rw [Hid, rangeP]
    by_cases h2 : kindP t n = 2
    · simp [h2]
    by_cases h3 : kindP t n = 3 <;> simp [h2, h3]
  clear hT
  unfold TabV.cells at *
  generalize kindP t n = k at *
  by_cases h2 : k = 2
  · subst h2
    go_enter Tryz.func68, Tryz.ntmps68
    go_wp2_with fail
    refine (HK.out _ (by repeat (first | with_reducible exact HK.out | with_reducible exact Kept.refl _ _ | with_reducible refine Kept.prev ?_ | with_reducible refine Kept.alloc' ?_ _ | with_reducible refine Kept.drew' ?_ | with_reducible refine Kept.setB ?_ _ _ _ (by omega) | with_reducible refine Kept.row' ?_ _ _ (by omega) | with_reducible refine Kept.map' ?_ _ _ (by omega)))).mono ?_; rintro e w2 ⟨rfl, hk_w2⟩; haveI p_w2 : PrevWorld w2 _ := ⟨hk_w2⟩; have hz_w2 : w.heap.size ≤ w2.heap.size := Kept.size (by repeat (first | with_reducible exact HK.out | with_reducible exact Kept.refl _ _ | with_reducible refine Kept.prev ?_ | with_reducible refine Kept.alloc' ?_ _ | with_reducible refine Kept.drew' ?_ | with_reducible refine Kept.setB ?_ _ _ _ (by omega) | with_reducible refine Kept.row' ?_ _ _ (by omega) | with_reducible refine Kept.map' ?_ _ _ (by omega))); clear hk_w2
    go_wp2_with fail
    rw [HR.out]
    exact bodyPost_v rfl (res1 Tryz.results68 (resT rfl)) (by repeat (first | with_reducible exact HK.out | with_reducible exact Kept.refl _ _ | with_reducible refine Kept.prev ?_ | with_reducible refine Kept.alloc' ?_ _ | with_reducible refine Kept.drew' ?_ | with_reducible refine Kept.setB ?_ _ _ _ (by omega) | with_reducible refine Kept.row' ?_ _ _ (by omega) | with_reducible refine Kept.map' ?_ _ _ (by omega)))
  · have e2 : (k == 2) = false := by simp [h2]
    clear h2
    go_enter Tryz.func68, Tryz.ntmps68
    go_wp2_with fail
    refine (HK.out _ (by repeat (first | with_reducible exact HK.out | with_reducible exact Kept.refl _ _ | with_reducible refine Kept.prev ?_ | with_reducible refine Kept.alloc' ?_ _ | with_reducible refine Kept.drew' ?_ | with_reducible refine Kept.setB ?_ _ _ _ (by omega) | with_reducible refine Kept.row' ?_ _ _ (by omega) | with_reducible refine Kept.map' ?_ _ _ (by omega)))).mono ?_; rintro e w2 ⟨rfl, hk_w2⟩; haveI p_w2 : PrevWorld w2 _ := ⟨hk_w2⟩; have hz_w2 : w.heap.size ≤ w2.heap.size := Kept.size (by repeat (first | with_reducible exact HK.out | with_reducible exact Kept.refl _ _ | with_reducible refine Kept.prev ?_ | with_reducible refine Kept.alloc' ?_ _ | with_reducible refine Kept.drew' ?_ | with_reducible refine Kept.setB ?_ _ _ _ (by omega) | with_reducible refine Kept.row' ?_ _ _ (by omega) | with_reducible refine Kept.map' ?_ _ _ (by omega))); clear hk_w2
    go_wp2_with fail
    refine (HK.out _ (by repeat (first | with_reducible exact HK.out | with_reducible exact Kept.refl _ _ | with_reducible refine Kept.prev ?_ | with_reducible refine Kept.alloc' ?_ _ | with_reducible refine Kept.drew' ?_ | with_reducible refine Kept.setB ?_ _ _ _ (by omega) | with_reducible refine Kept.row' ?_ _ _ (by omega) | with_reducible refine Kept.map' ?_ _ _ (by omega)))).mono ?_; rintro e w3 ⟨rfl, hk_w3⟩; haveI p_w3 : PrevWorld w3 _ := ⟨hk_w3⟩; have hz_w3 : w.heap.size ≤ w3.heap.size := Kept.size (by repeat (first | with_reducible exact HK.out | with_reducible exact Kept.refl _ _ | with_reducible refine Kept.prev ?_ | with_reducible refine Kept.alloc' ?_ _ | with_reducible refine Kept.drew' ?_ | with_reducible refine Kept.setB ?_ _ _ _ (by omega) | with_reducible refine Kept.row' ?_ _ _ (by omega) | with_reducible refine Kept.map' ?_ _ _ (by omega))); clear hk_w3
    go_wp2_with fail
    rw [HR.out, e2, Bool.false_or]
    exact bodyPost_v rfl (res1 Tryz.results68 (resT rfl)) (by repeat (first | with_reducible exact HK.out | with_reducible exact Kept.refl _ _ | with_reducible refine Kept.prev ?_ | with_reducible refine Kept.alloc' ?_ _ | with_reducible refine Kept.drew' ?_ | with_reducible refine Kept.setB ?_ _ _ _ (by omega) | with_reducible refine Kept.row' ?_ _ _ (by omega) | with_reducible refine Kept.map' ?_ _ _ (by omega)))
set_option maxRecDepth 100000 in
set_option maxHeartbeats 1000000 in
theorem rrange_any (w : World) (v : TabV) (t : Tab) (n : Int) (hT : TabIn w v t) : Calls Tryz.prog 44 #[.agg (v.cells t), .int .i64 n] w (RetV (bd3V (rangeP t n)) w) := by
  have HT := Lib.hid hT
  have HS := Lib.hid (fun w' (hk : Kept [] w w') => rscalar_any w' v t n (hT.kept hk))
  clear hT
  unfold TabV.cells at *
  cases hr : rangeP t n with
  | none =>
    rw [hr] at HS
    clear hr
    go_enter Tryz.func44, Tryz.ntmps44
    go_wp2_with fail
    refine (HS.out _ (by repeat (first | with_reducible exact HK.out | with_reducible exact Kept.refl _ _ | with_reducible refine Kept.prev ?_ | with_reducible refine Kept.alloc' ?_ _ | with_reducible refine Kept.drew' ?_ | with_reducible refine Kept.setB ?_ _ _ _ (by omega) | with_reducible refine Kept.row' ?_ _ _ (by omega) | with_reducible refine Kept.map' ?_ _ _ (by omega)))).mono ?_; rintro e w2 ⟨rfl, hk_w2⟩; haveI p_w2 : PrevWorld w2 _ := ⟨hk_w2⟩; have hz_w2 : w.heap.size ≤ w2.heap.size := Kept.size (by repeat (first | with_reducible exact HK.out | with_reducible exact Kept.refl _ _ | with_reducible refine Kept.prev ?_ | with_reducible refine Kept.alloc' ?_ _ | with_reducible refine Kept.drew' ?_ | with_reducible refine Kept.setB ?_ _ _ _ (by omega) | with_reducible refine Kept.row' ?_ _ _ (by omega) | with_reducible refine Kept.map' ?_ _ _ (by omega))); clear hk_w2
    go_wp2_with fail
    exact bodyPost_v rfl (res3 Tryz.results44 (resT rfl) (resT rfl) (resT rfl)) (by repeat (first | with_reducible exact HK.out | with_reducible exact Kept.refl _ _ | with_reducible refine Kept.prev ?_ | with_reducible refine Kept.alloc' ?_ _ | with_reducible refine Kept.drew' ?_ | with_reducible refine Kept.setB ?_ _ _ _ (by omega) | with_reducible refine Kept.row' ?_ _ _ (by omega) | with_reducible refine Kept.map' ?_ _ _ (by omega)))
  | some r =>
    rw [hr] at HS
    have hk : kindP t n ≠ 0 := fun h => by
      unfold rangeP at hr
      rw [h] at hr
      cases hr
    have h0 : ¬ (n < 0 ∨ (t.subs.length : Int) ≤ n) := fun h => hk (kind_out h)
    obtain ⟨n, rfl⟩ := Int.eq_ofNat_of_zero_le (by omega : 0 ≤ n)
    obtain ⟨s, b, o, hs, ha, hat, _⟩ := tab_sub HT.out (by omega : n < t.subs.length)
    have hrs : r = (s.lo, s.hi) := by
      unfold rangeP subP at hr
      split at hr
      · have e : t.subs.getD n default = s := by simp [List.getD_eq_getElem?_getD, hs]
        rw [Int.toNat_natCast, e] at hr
        exact (Option.some.inj hr).symm
      · cases hr
    subst hrs
    have j1 : (n : Int) < (t.subs.length : Int) := by omega
    rw [ha] at *
    clear ha h0 hs hr hk
    go_enter Tryz.func44, Tryz.ntmps44
    go_wp2_with fail
    refine (HS.out _ (by repeat (first | with_reducible exact HK.out | with_reducible exact Kept.refl _ _ | with_reducible refine Kept.prev ?_ | with_reducible refine Kept.alloc' ?_ _ | with_reducible refine Kept.drew' ?_ | with_reducible refine Kept.setB ?_ _ _ _ (by omega) | with_reducible refine Kept.row' ?_ _ _ (by omega) | with_reducible refine Kept.map' ?_ _ _ (by omega)))).mono ?_; rintro e w2 ⟨rfl, hk_w2⟩; haveI p_w2 : PrevWorld w2 _ := ⟨hk_w2⟩; have hz_w2 : w.heap.size ≤ w2.heap.size := Kept.size (by repeat (first | with_reducible exact HK.out | with_reducible exact Kept.refl _ _ | with_reducible refine Kept.prev ?_ | with_reducible refine Kept.alloc' ?_ _ | with_reducible refine Kept.drew' ?_ | with_reducible refine Kept.setB ?_ _ _ _ (by omega) | with_reducible refine Kept.row' ?_ _ _ (by omega) | with_reducible refine Kept.map' ?_ _ _ (by omega))); clear hk_w2
    go_wp2_with fail
    go_region
    go_wp2_with fail
    exact bodyPost_v rfl (res3 Tryz.results44 (resT rfl) (resT rfl) (resT rfl)) (by repeat (first | with_reducible exact HK.out | with_reducible exact Kept.refl _ _ | with_reducible refine Kept.prev ?_ | with_reducible refine Kept.alloc' ?_ _ | with_reducible refine Kept.drew' ?_ | with_reducible refine Kept.setB ?_ _ _ _ (by omega) | with_reducible refine Kept.row' ?_ _ _ (by omega) | with_reducible refine Kept.map' ?_ _ _ (by omega)))
end Go.Proofs.YtgdjhhfbpalkdaaGreat
