/- The walk of StaticArithmetic. -/
import Derived.Test.YtgdjhhfbpalkdaaK21
import Derived.Maps.RangeWalk
import Derived.Maps.Views
namespace Go.Proofs.Ytgdjhhfbpalkdaa
open Go.RowKit Go.Maps
theorem Kept.toGrown {w w' : World} (h : Kept [] w w') : w.grownBy w' none := ⟨h.os, h.tape, h.output, h.size, fun k hk _ => h.block k hk (by simp)⟩
/-- 'm[k] = v' of a literal. -/
theorem wpList_insert_own {H : Type} {P : Program} (w : World) {ops : Array Oper} {rest : List Oper} {o : Oper} {a : Act} {Q : Exit → Act → World → Prop}
    (hg : o.guard = none) (m x v : Operand) (t : TypeId) (hop : o.op = Op.insert t m x v)
    (k e : TypeId) (K : Keyed P k) (ht : P.underlying t = some (.map k e)) (R : Value → Option (DataW H × List MemPlace)) (b n : Nat) (D : DataW H)
    (hm : a.eval m = .map (some b)) (hown : w.ownsMap P k R b n D) (hn : n < maxLen) (key val : Value) (kl : Lit) (hx : a.eval x = key) (hv : a.eval v = val) (hkey : keyOf P k key = some kl)
    (d : DataW H) (ps : List MemPlace) (hval : R val = some (d, ps))
    (hK : ∀ w', w'.ownsMap P k R b (n + 1) (D.put kl d) → w.grownBy w' (some b) → wpList P ops Q rest (a.put o.dst undef) w') :
    wpList P ops Q (o :: rest) a w := by
  refine wpList_plain hg fun K' hK' => ?_
  obtain ⟨w', hrun, r1, r2⟩ := hown.update K ht hn hkey hval
  unfold Oper.wp
  simp [execOp, hop, hm, hx, hv, hrun, Result.andThen]
  exact hK' _ _ (hK w' r1 r2)
theorem size_any (w : World) (v : Int) (h : -9223372036854775808 < v ∧ v ≤ 9223372036854775807) : Calls Try.prog 14 #[.int .i64 v] w (RetV (.int .i64 (v.natAbs : Int)) w) := by
  obtain ⟨h1, h2⟩ := h
  have e : max v (-v) = (v.natAbs : Int) := by omega
  go_enter Try.func14, Try.ntmps14
  go_wp2_with fail
  exact bodyPost_v rfl (res1 Try.results14 (resT rfl)) (by repeat (first | with_reducible exact HK.out | with_reducible exact Kept.refl _ _ | with_reducible refine Kept.prev ?_ | with_reducible refine Kept.alloc' ?_ _ | with_reducible refine Kept.drew' ?_ | with_reducible refine Kept.setB ?_ _ _ _ (by omega) | with_reducible refine Kept.row' ?_ _ _ (by omega) | with_reducible refine Kept.map' ?_ _ _ (by omega)))
theorem value_val (w : World) (A B C : Nat) (a b : Option Addr) (x : ExV) (n : Nat) (hT : TabIn w (someV A B C) (someT a b)) (hx : ExIn w n x) (v e : Int) (hr : valueP (someT a b) n x = (v, e)) :
    Calls Try.prog 7 #[.agg ((someV A B C).cells (someT a b)), .agg x.cells.toArray] w (RetV (.tuple #[.int .i64 v, .int .i64 e]) w) := by
  have h1 := Value_any w (someV A B C) (someT a b) x n hT hx
  rw [hr] at h1
  exact h1
/-- The three sums, as a map reads them. -/
def sumD (s d p : Int) : DataW Unit := (((DataW.map []).put (.int .u8 1) (.lit (.int .i64 s))).put (.int .u8 2) (.lit (.int .i64 d))).put (.int .u8 3) (.lit (.int .i64 p))
theorem sum_key {s d p q c : Int} (h : Maps.has (sumD s d p) (.int .u8 q) = true) (hat : ∀ zd, (sumD s d p).atKey (.int .u8 q) zd = .lit (.int .i64 c)) : (q = 1 ∧ c = s) ∨ (q = 2 ∧ c = d) ∨ (q = 3 ∧ c = p) := by
  have m0 : IsMap (DataW.map (H := Unit) []) := ⟨[], rfl⟩
  unfold sumD at h hat
  by_cases h3 : q = 3
  · subst h3
    have := hat (.lit (.int .i64 0))
    rw [show ((((DataW.map []).put (.int .u8 1) (.lit (.int .i64 s))).put (.int .u8 2) (.lit (.int .i64 d))).put (.int .u8 3) (.lit (.int .i64 p)) : DataW Unit).atKey (.int .u8 3) (.lit (.int .i64 0)) = .lit (.int .i64 p) from rfl] at this
    cases this
    exact .inr (.inr ⟨rfl, rfl⟩)
  by_cases h2 : q = 2
  · subst h2
    have := hat (.lit (.int .i64 0))
    rw [show ((((DataW.map []).put (.int .u8 1) (.lit (.int .i64 s))).put (.int .u8 2) (.lit (.int .i64 d))).put (.int .u8 3) (.lit (.int .i64 p)) : DataW Unit).atKey (.int .u8 2) (.lit (.int .i64 0)) = .lit (.int .i64 d) from rfl] at this
    cases this
    exact .inr (.inl ⟨rfl, rfl⟩)
  by_cases h1 : q = 1
  · subst h1
    have := hat (.lit (.int .i64 0))
    rw [show ((((DataW.map []).put (.int .u8 1) (.lit (.int .i64 s))).put (.int .u8 2) (.lit (.int .i64 d))).put (.int .u8 3) (.lit (.int .i64 p)) : DataW Unit).atKey (.int .u8 1) (.lit (.int .i64 0)) = .lit (.int .i64 s) from rfl] at this
    cases this
    exact .inl ⟨rfl, rfl⟩
  rw [has_put_other (by intro e; cases e; exact h3 rfl), has_put_other (by intro e; cases e; exact h2 rfl), has_put_other (by intro e; cases e; exact h1 rfl)] at h
  cases h
/-- What the loop over the sums holds. -/
def SumL (w3 : World) (r : Nat) (D : DataW Unit) (wr : World) : Prop :=
  ∃ (left : Lit → Bool) (cnt : Nat), wr.ranges Try.prog 30 (plainElem Try.prog 2) w3.heap.size r 3 D left cnt ∧ (∀ z, left z = true → Maps.has D z = true) ∧ Kept [] w3 wr
set_option maxRecDepth 100000 in
set_option maxHeartbeats 8000000 in
theorem arith_law (w : World) (x y : Int) (hx : In32 x) (hy : In32 y) : Calls Try.prog 4 #[.int .i32 x, .int .i32 y] w (RetV (.bool true) w) := by
  have HX := Lib.hid hx
  have HY := Lib.hid hy
  obtain ⟨hx1, hx2⟩ := hx
  obtain ⟨hy1, hy2⟩ := hy
  obtain ⟨hm1, hm2⟩ := mul_in HX.out HY.out
  have lawK : Keyed Try.prog 30 := int_keyed Try.underlying30
  go_enter Try.func4, Try.ntmps4
  go_wp2_with fail
  refine (some_any _).mono ?_
  rintro e w2 ⟨A, B, C, a, b, rfl, hT, hk2⟩
  haveI p_w2 : PrevWorld w2 _ := ⟨hk2⟩
  have HT := Lib.hid (fun w' (hk : Kept [] w2 w') => hT.kept hk)
  clear hk2 hT
  unfold TabV.cells
  go_upto_region 3 with fail
  refine wp_gen' ?_
  intro w3 hw3
  haveI p_w3 : PrevWorld w3 w2 := ⟨by rw [hw3]; exact (by repeat (first | with_reducible exact HK.out | with_reducible exact Kept.refl _ _ | with_reducible refine Kept.prev ?_ | with_reducible refine Kept.alloc' ?_ _ | with_reducible refine Kept.drew' ?_ | with_reducible refine Kept.setB ?_ _ _ _ (by omega) | with_reducible refine Kept.row' ?_ _ _ (by omega) | with_reducible refine Kept.map' ?_ _ _ (by omega)))⟩
  haveI b7 : BoxIs w3 w2.heap.size 28 _ := by rw [hw3]; infer_instance
  clear hw3
  generalize w2.heap.size = P7 at *
  have hown0 := World.ownsMap_made (H := Unit) w3 Try.prog 30 (plainElem Try.prog 2)
  go_wp2_with (first
    | (refine wpList_insert_own _ rfl _ _ _ 43 rfl 30 2 lawK Try.underlying43 _ w3.heap.size 0 _ rfl hown0 (by unfold maxLen; omega) _ _ (.int .u8 1) rfl rfl (keyOf_int_mk Try.underlying30 rfl) (.lit (.int .i64 (x + y))) [] (plainElem_int Try.underlying2 (WalkArith.wf_i64 (by omega))) ?_; intro w41 hown1 hg1)
    | (refine wpList_insert_own _ rfl _ _ _ 43 rfl 30 2 lawK Try.underlying43 _ w3.heap.size 1 _ rfl hown1 (by unfold maxLen; omega) _ _ (.int .u8 2) rfl rfl (keyOf_int_mk Try.underlying30 rfl) (.lit (.int .i64 (x - y))) [] (plainElem_int Try.underlying2 (WalkArith.wf_i64 (by omega))) ?_; intro w42 hown2 hg2)
    | (refine wpList_insert_own _ rfl _ _ _ 43 rfl 30 2 lawK Try.underlying43 _ w3.heap.size 2 _ rfl hown2 (by unfold maxLen; omega) _ _ (.int .u8 3) rfl rfl (keyOf_int_mk Try.underlying30 rfl) (.lit (.int .i64 (x * y))) [] (plainElem_int Try.underlying2 (WalkArith.wf_i64 (by omega))) ?_; intro w43 hown3 hg3)
    | (at_range; refine wpList_range_own _ rfl _ 43 rfl 30 2 lawK Try.underlying43 _ w3.heap.size 3 _ rfl hown3 ?_; intro w5 hrg0 hg0 hs0)
    | go_in)
  go_frame
  have K5 : Kept [] w3 w5 := ((((Kept.alloc [] w3 _).grown hg1 (fun q hq => by cases hq; exact Nat.le_refl _)).grown hg2 (fun q hq => by cases hq; exact Nat.le_refl _)).grown hg3 (fun q hq => by cases hq; exact Nat.le_refl _)).grown hg0 (fun q hq => by cases hq)
  have hR : w3.heap.size ≤ w43.heap.size := by
    have h1 := hg1.size
    have h2 := hg2.size
    have h3 := hg3.size
    simp at h1
    omega
  have HR0 := Lib.hid (show SumL w3 w43.heap.size (sumD (x + y) (x - y) (x * y)) w5 from ⟨_, _, hrg0, fun z h => h, K5⟩)
  clear hown0 hown1 hown2 hown3 hg1 hg2 hg3 hg0 hs0 hrg0 K5
  generalize w43.heap.size = R at *
  go_loopw [8] (fun _ wr => SumL w3 R (sumD (x + y) (x - y) (x * y)) wr) (fun _ wr => wr.rangeLeft w3.heap.size R)
  case atStart => exact HR0.out
  case round =>
    obtain ⟨left, cnt, hrg, hD, hkr⟩ := hrel
    clear HR0
    haveI p_wr : PrevWorld wr w3 := ⟨hkr⟩
    go_wp2_with (first
      | (at_next; refine wpList_next_ranges_ii _ rfl _ rfl 30 2 .u8 .i64 lawK Try.underlying30 Try.underlying2 w3.heap.size R 3 _ _ _ rfl hrg ?_ ?_)
      | go_in)
    · intro _ _
      clear hrg hD hkr lawK
      have hzr := (show Kept [] w wr from (by repeat (first | with_reducible exact HK.out | with_reducible exact Kept.refl _ _ | with_reducible refine Kept.prev ?_ | with_reducible refine Kept.alloc' ?_ _ | with_reducible refine Kept.drew' ?_ | with_reducible refine Kept.setB ?_ _ _ _ (by omega) | with_reducible refine Kept.row' ?_ _ _ (by omega) | with_reducible refine Kept.map' ?_ _ _ (by omega)))).size
      by_cases h0 : y = 0
      · have e0 : (y == 0) = true := by simp [h0]
        have H4 : Hid (∀ B, valueP (someT a b) 2 (twoX B 4 (numX x 0) (numX y 0) 0) = (0, 71)) := fun B => by rw [h0]; exact op0 HX.out a b B 4 (by simp)
        have H6 : Hid (∀ B, valueP (someT a b) 2 (twoX B 6 (numX x 0) (numX y 0) 0) = (0, 71)) := fun B => by rw [h0]; exact op0 HX.out a b B 6 (by simp)
        have H5 : Hid (∀ B, valueP (someT a b) 2 (twoX B 5 (numX x 0) (numX y 0) 0) = (0, 71)) := fun B => by rw [h0]; exact op0 HX.out a b B 5 (by simp)
        clear h0
        go_upto_region 10 with fail
        refine wp_region_each [⟨82, [], .eq (.agg ((someV A B C).cells (someT a b)))⟩, ⟨83, [], .eq (.int .i64 x)⟩, ⟨84, [83], .eq (.agg (numX x 0).cells.toArray)⟩, ⟨85, [], .eq (.int .i64 y)⟩, ⟨86, [85], .eq (.agg (numX y 0).cells.toArray)⟩, ⟨87, [84, 86], .ex [] 2 (fun z => ∃ B, z = twoX B 4 (numX x 0) (numX y 0) 0)⟩, ⟨88, [82, 87], .eq (.tuple #[.int .i64 0, .int .i64 71])⟩, ⟨81, [88], .eq (.tuple #[.int .i64 0, .int .i64 71])⟩, ⟨89, [81], .eq (.int .i64 0)⟩, ⟨90, [81], .eq (.int .i64 71)⟩, ⟨13, [89], .eq (.int .i64 0)⟩, ⟨14, [90], .eq (.int .i64 71)⟩] (by kernel_rfl) (by kernel_rfl) ?_
        apply Exists.intro
        refine ⟨fun vs => ?_, ?_⟩
        · simp only [List.map_cons, List.map_nil, puts, Act.put, List.setIfInBounds_toArray, List.set_cons_zero, List.set_cons_succ]
          exact rfl
        refine ⟨⟨fun vs w11 hk hg => ?_, fun vs w11 hk hg => ?_, fun vs w11 hk hg => ?_, fun vs w11 hk hg => ?_, fun vs w11 hk hg => ?_, fun vs w11 hk hg => ?_, fun vs w11 hk hg => ?_, fun vs w11 hk hg => ?_, fun vs w11 hk hg => ?_, fun vs w11 hk hg => ?_, fun vs w11 hk hg => ?_, fun vs w11 hk hg => ?_, trivial⟩, fun vs w11 hk hg => ?_⟩
        all_goals
          haveI p_w11 : PrevWorld w11 _ := ⟨hk⟩
          have hz_w11 := hk.size
          clear hk
          (try simp only [given, allGiven, look, SP.eq_p, SP.ex_p, SP.exs_p, SP.asl_p, Nat.reduceEqDiff, reduceIte, and_true] at hg)
          skip
        · clear hg
          go_wp2_with fail
          exact ⟨(by repeat (first | with_reducible exact HK.out | with_reducible exact Kept.refl _ _ | with_reducible refine Kept.prev ?_ | with_reducible refine Kept.alloc' ?_ _ | with_reducible refine Kept.drew' ?_ | with_reducible refine Kept.setB ?_ _ _ _ (by omega) | with_reducible refine Kept.row' ?_ _ _ (by omega) | with_reducible refine Kept.map' ?_ _ _ (by omega))), rfl, rfl⟩
        · clear hg
          go_wp2_with fail
          exact ⟨(by repeat (first | with_reducible exact HK.out | with_reducible exact Kept.refl _ _ | with_reducible refine Kept.prev ?_ | with_reducible refine Kept.alloc' ?_ _ | with_reducible refine Kept.drew' ?_ | with_reducible refine Kept.setB ?_ _ _ _ (by omega) | with_reducible refine Kept.row' ?_ _ _ (by omega) | with_reducible refine Kept.map' ?_ _ _ (by omega))), rfl, rfl⟩
        · obtain e83 := hg
          (try simp only [e83])
          go_wp2_with fail
          refine (number_any _ _ _).mono ?_
          rintro e w9 ⟨rfl, hk9⟩
          go_wp2_with fail
          exact ⟨hk9, rfl, rfl⟩
        · clear hg
          go_wp2_with fail
          exact ⟨(by repeat (first | with_reducible exact HK.out | with_reducible exact Kept.refl _ _ | with_reducible refine Kept.prev ?_ | with_reducible refine Kept.alloc' ?_ _ | with_reducible refine Kept.drew' ?_ | with_reducible refine Kept.setB ?_ _ _ _ (by omega) | with_reducible refine Kept.row' ?_ _ _ (by omega) | with_reducible refine Kept.map' ?_ _ _ (by omega))), rfl, rfl⟩
        · obtain e85 := hg
          (try simp only [e85])
          go_wp2_with fail
          refine (number_any _ _ _).mono ?_
          rintro e w9 ⟨rfl, hk9⟩
          go_wp2_with fail
          exact ⟨hk9, rfl, rfl⟩
        · obtain ⟨e84, e86⟩ := hg
          (try simp only [e84, e86])
          go_wp2_with fail
          refine (two_any [] _ 4 (numX x 0) (numX y 0) 0 1 no_q (num_k _ _ _ _ ⟨by omega, by omega⟩) (num_k _ _ _ _ ⟨by omega, by omega⟩)).mono ?_
          rintro e w9 ⟨x, rfl, hp, hi, hk9⟩
          go_wp2_with fail
          exact ⟨hk9, rfl, x, rfl, hp, hi⟩
        · obtain ⟨e82, ⟨x87, e87, ⟨B87, rfl⟩, i87⟩⟩ := hg
          (try simp only [e82])
          go_wp2_with fail
          refine (value_val _ A B C a b _ 2 (HT.out _ (by repeat (first | with_reducible exact HK.out | with_reducible exact Kept.refl _ _ | with_reducible refine Kept.prev ?_ | with_reducible refine Kept.alloc' ?_ _ | with_reducible refine Kept.drew' ?_ | with_reducible refine Kept.setB ?_ _ _ _ (by omega) | with_reducible refine Kept.row' ?_ _ _ (by omega) | with_reducible refine Kept.map' ?_ _ _ (by omega)))) i87.in 0 71 (H4.out B87)).mono ?_
          rintro e w9 ⟨rfl, hk9⟩
          go_wp2_with fail
          exact ⟨hk9, rfl, rfl⟩
        · obtain e88 := hg
          (try simp only [e88])
          go_wp2_with fail
          exact ⟨(by repeat (first | with_reducible exact HK.out | with_reducible exact Kept.refl _ _ | with_reducible refine Kept.prev ?_ | with_reducible refine Kept.alloc' ?_ _ | with_reducible refine Kept.drew' ?_ | with_reducible refine Kept.setB ?_ _ _ _ (by omega) | with_reducible refine Kept.row' ?_ _ _ (by omega) | with_reducible refine Kept.map' ?_ _ _ (by omega))), rfl, rfl⟩
        · obtain e81 := hg
          (try simp only [e81])
          go_wp2_with fail
          exact ⟨(by repeat (first | with_reducible exact HK.out | with_reducible exact Kept.refl _ _ | with_reducible refine Kept.prev ?_ | with_reducible refine Kept.alloc' ?_ _ | with_reducible refine Kept.drew' ?_ | with_reducible refine Kept.setB ?_ _ _ _ (by omega) | with_reducible refine Kept.row' ?_ _ _ (by omega) | with_reducible refine Kept.map' ?_ _ _ (by omega))), rfl, rfl⟩
        · obtain e81 := hg
          (try simp only [e81])
          go_wp2_with fail
          exact ⟨(by repeat (first | with_reducible exact HK.out | with_reducible exact Kept.refl _ _ | with_reducible refine Kept.prev ?_ | with_reducible refine Kept.alloc' ?_ _ | with_reducible refine Kept.drew' ?_ | with_reducible refine Kept.setB ?_ _ _ _ (by omega) | with_reducible refine Kept.row' ?_ _ _ (by omega) | with_reducible refine Kept.map' ?_ _ _ (by omega))), rfl, rfl⟩
        · obtain e89 := hg
          (try simp only [e89])
          go_wp2_with fail
          exact ⟨(by repeat (first | with_reducible exact HK.out | with_reducible exact Kept.refl _ _ | with_reducible refine Kept.prev ?_ | with_reducible refine Kept.alloc' ?_ _ | with_reducible refine Kept.drew' ?_ | with_reducible refine Kept.setB ?_ _ _ _ (by omega) | with_reducible refine Kept.row' ?_ _ _ (by omega) | with_reducible refine Kept.map' ?_ _ _ (by omega))), rfl, rfl⟩
        · obtain e90 := hg
          (try simp only [e90])
          go_wp2_with fail
          exact ⟨(by repeat (first | with_reducible exact HK.out | with_reducible exact Kept.refl _ _ | with_reducible refine Kept.prev ?_ | with_reducible refine Kept.alloc' ?_ _ | with_reducible refine Kept.drew' ?_ | with_reducible refine Kept.setB ?_ _ _ _ (by omega) | with_reducible refine Kept.row' ?_ _ _ (by omega) | with_reducible refine Kept.map' ?_ _ _ (by omega))), rfl, rfl⟩
        obtain ⟨-, -, -, -, -, -, -, -, -, -, e13, e14⟩ := hg
        refine wpList_nil ?_
        simp only [e13, e14]
        clear e13 e14
        go_upto_region 11 with fail
        refine wp_region_each [⟨92, [], .eq (.agg ((someV A B C).cells (someT a b)))⟩, ⟨93, [], .eq (.int .i64 x)⟩, ⟨94, [93], .eq (.agg (numX x 0).cells.toArray)⟩, ⟨95, [], .eq (.int .i64 y)⟩, ⟨96, [95], .eq (.agg (numX y 0).cells.toArray)⟩, ⟨97, [94, 96], .ex [] 2 (fun z => ∃ B, z = twoX B 6 (numX x 0) (numX y 0) 0)⟩, ⟨98, [92, 97], .eq (.tuple #[.int .i64 0, .int .i64 71])⟩, ⟨91, [98], .eq (.tuple #[.int .i64 0, .int .i64 71])⟩, ⟨99, [91], .eq (.int .i64 0)⟩, ⟨100, [91], .eq (.int .i64 71)⟩, ⟨15, [99], .eq (.int .i64 0)⟩, ⟨16, [100], .eq (.int .i64 71)⟩] (by kernel_rfl) (by kernel_rfl) ?_
        apply Exists.intro
        refine ⟨fun vs => ?_, ?_⟩
        · simp only [List.map_cons, List.map_nil, puts, Act.put, List.setIfInBounds_toArray, List.set_cons_zero, List.set_cons_succ]
          exact rfl
        refine ⟨⟨fun vs w12 hk hg => ?_, fun vs w12 hk hg => ?_, fun vs w12 hk hg => ?_, fun vs w12 hk hg => ?_, fun vs w12 hk hg => ?_, fun vs w12 hk hg => ?_, fun vs w12 hk hg => ?_, fun vs w12 hk hg => ?_, fun vs w12 hk hg => ?_, fun vs w12 hk hg => ?_, fun vs w12 hk hg => ?_, fun vs w12 hk hg => ?_, trivial⟩, fun vs w12 hk hg => ?_⟩
        all_goals
          haveI p_w12 : PrevWorld w12 _ := ⟨hk⟩
          have hz_w12 := hk.size
          clear hk
          (try simp only [given, allGiven, look, SP.eq_p, SP.ex_p, SP.exs_p, SP.asl_p, Nat.reduceEqDiff, reduceIte, and_true] at hg)
          skip
        · clear hg
          go_wp2_with fail
          exact ⟨(by repeat (first | with_reducible exact HK.out | with_reducible exact Kept.refl _ _ | with_reducible refine Kept.prev ?_ | with_reducible refine Kept.alloc' ?_ _ | with_reducible refine Kept.drew' ?_ | with_reducible refine Kept.setB ?_ _ _ _ (by omega) | with_reducible refine Kept.row' ?_ _ _ (by omega) | with_reducible refine Kept.map' ?_ _ _ (by omega))), rfl, rfl⟩
        · clear hg
          go_wp2_with fail
          exact ⟨(by repeat (first | with_reducible exact HK.out | with_reducible exact Kept.refl _ _ | with_reducible refine Kept.prev ?_ | with_reducible refine Kept.alloc' ?_ _ | with_reducible refine Kept.drew' ?_ | with_reducible refine Kept.setB ?_ _ _ _ (by omega) | with_reducible refine Kept.row' ?_ _ _ (by omega) | with_reducible refine Kept.map' ?_ _ _ (by omega))), rfl, rfl⟩
        · obtain e93 := hg
          (try simp only [e93])
          go_wp2_with fail
          refine (number_any _ _ _).mono ?_
          rintro e w9 ⟨rfl, hk9⟩
          go_wp2_with fail
          exact ⟨hk9, rfl, rfl⟩
        · clear hg
          go_wp2_with fail
          exact ⟨(by repeat (first | with_reducible exact HK.out | with_reducible exact Kept.refl _ _ | with_reducible refine Kept.prev ?_ | with_reducible refine Kept.alloc' ?_ _ | with_reducible refine Kept.drew' ?_ | with_reducible refine Kept.setB ?_ _ _ _ (by omega) | with_reducible refine Kept.row' ?_ _ _ (by omega) | with_reducible refine Kept.map' ?_ _ _ (by omega))), rfl, rfl⟩
        · obtain e95 := hg
          (try simp only [e95])
          go_wp2_with fail
          refine (number_any _ _ _).mono ?_
          rintro e w9 ⟨rfl, hk9⟩
          go_wp2_with fail
          exact ⟨hk9, rfl, rfl⟩
        · obtain ⟨e94, e96⟩ := hg
          (try simp only [e94, e96])
          go_wp2_with fail
          refine (two_any [] _ 6 (numX x 0) (numX y 0) 0 1 no_q (num_k _ _ _ _ ⟨by omega, by omega⟩) (num_k _ _ _ _ ⟨by omega, by omega⟩)).mono ?_
          rintro e w9 ⟨x, rfl, hp, hi, hk9⟩
          go_wp2_with fail
          exact ⟨hk9, rfl, x, rfl, hp, hi⟩
        · obtain ⟨e92, ⟨x97, e97, ⟨B97, rfl⟩, i97⟩⟩ := hg
          (try simp only [e92])
          go_wp2_with fail
          refine (value_val _ A B C a b _ 2 (HT.out _ (by repeat (first | with_reducible exact HK.out | with_reducible exact Kept.refl _ _ | with_reducible refine Kept.prev ?_ | with_reducible refine Kept.alloc' ?_ _ | with_reducible refine Kept.drew' ?_ | with_reducible refine Kept.setB ?_ _ _ _ (by omega) | with_reducible refine Kept.row' ?_ _ _ (by omega) | with_reducible refine Kept.map' ?_ _ _ (by omega)))) i97.in 0 71 (H6.out B97)).mono ?_
          rintro e w9 ⟨rfl, hk9⟩
          go_wp2_with fail
          exact ⟨hk9, rfl, rfl⟩
        · obtain e98 := hg
          (try simp only [e98])
          go_wp2_with fail
          exact ⟨(by repeat (first | with_reducible exact HK.out | with_reducible exact Kept.refl _ _ | with_reducible refine Kept.prev ?_ | with_reducible refine Kept.alloc' ?_ _ | with_reducible refine Kept.drew' ?_ | with_reducible refine Kept.setB ?_ _ _ _ (by omega) | with_reducible refine Kept.row' ?_ _ _ (by omega) | with_reducible refine Kept.map' ?_ _ _ (by omega))), rfl, rfl⟩
        · obtain e91 := hg
          (try simp only [e91])
          go_wp2_with fail
          exact ⟨(by repeat (first | with_reducible exact HK.out | with_reducible exact Kept.refl _ _ | with_reducible refine Kept.prev ?_ | with_reducible refine Kept.alloc' ?_ _ | with_reducible refine Kept.drew' ?_ | with_reducible refine Kept.setB ?_ _ _ _ (by omega) | with_reducible refine Kept.row' ?_ _ _ (by omega) | with_reducible refine Kept.map' ?_ _ _ (by omega))), rfl, rfl⟩
        · obtain e91 := hg
          (try simp only [e91])
          go_wp2_with fail
          exact ⟨(by repeat (first | with_reducible exact HK.out | with_reducible exact Kept.refl _ _ | with_reducible refine Kept.prev ?_ | with_reducible refine Kept.alloc' ?_ _ | with_reducible refine Kept.drew' ?_ | with_reducible refine Kept.setB ?_ _ _ _ (by omega) | with_reducible refine Kept.row' ?_ _ _ (by omega) | with_reducible refine Kept.map' ?_ _ _ (by omega))), rfl, rfl⟩
        · obtain e99 := hg
          (try simp only [e99])
          go_wp2_with fail
          exact ⟨(by repeat (first | with_reducible exact HK.out | with_reducible exact Kept.refl _ _ | with_reducible refine Kept.prev ?_ | with_reducible refine Kept.alloc' ?_ _ | with_reducible refine Kept.drew' ?_ | with_reducible refine Kept.setB ?_ _ _ _ (by omega) | with_reducible refine Kept.row' ?_ _ _ (by omega) | with_reducible refine Kept.map' ?_ _ _ (by omega))), rfl, rfl⟩
        · obtain e100 := hg
          (try simp only [e100])
          go_wp2_with fail
          exact ⟨(by repeat (first | with_reducible exact HK.out | with_reducible exact Kept.refl _ _ | with_reducible refine Kept.prev ?_ | with_reducible refine Kept.alloc' ?_ _ | with_reducible refine Kept.drew' ?_ | with_reducible refine Kept.setB ?_ _ _ _ (by omega) | with_reducible refine Kept.row' ?_ _ _ (by omega) | with_reducible refine Kept.map' ?_ _ _ (by omega))), rfl, rfl⟩
        obtain ⟨-, -, -, -, -, -, -, -, -, -, e15, e16⟩ := hg
        refine wpList_nil ?_
        simp only [e15, e16]
        clear e15 e16
        go_upto_region 12 with fail
        refine wp_region_each [⟨102, [], .eq (.agg ((someV A B C).cells (someT a b)))⟩, ⟨103, [], .eq (.int .i64 x)⟩, ⟨104, [103], .eq (.agg (numX x 0).cells.toArray)⟩, ⟨105, [], .eq (.int .i64 y)⟩, ⟨106, [105], .eq (.agg (numX y 0).cells.toArray)⟩, ⟨107, [104, 106], .ex [] 2 (fun z => ∃ B, z = twoX B 5 (numX x 0) (numX y 0) 0)⟩, ⟨108, [102, 107], .eq (.tuple #[.int .i64 0, .int .i64 71])⟩, ⟨101, [108], .eq (.tuple #[.int .i64 0, .int .i64 71])⟩, ⟨109, [101], .eq (.int .i64 0)⟩, ⟨110, [101], .eq (.int .i64 71)⟩, ⟨17, [109], .eq (.int .i64 0)⟩, ⟨18, [110], .eq (.int .i64 71)⟩] (by kernel_rfl) (by kernel_rfl) ?_
        apply Exists.intro
        refine ⟨fun vs => ?_, ?_⟩
        · simp only [List.map_cons, List.map_nil, puts, Act.put, List.setIfInBounds_toArray, List.set_cons_zero, List.set_cons_succ]
          exact rfl
        refine ⟨⟨fun vs w13 hk hg => ?_, fun vs w13 hk hg => ?_, fun vs w13 hk hg => ?_, fun vs w13 hk hg => ?_, fun vs w13 hk hg => ?_, fun vs w13 hk hg => ?_, fun vs w13 hk hg => ?_, fun vs w13 hk hg => ?_, fun vs w13 hk hg => ?_, fun vs w13 hk hg => ?_, fun vs w13 hk hg => ?_, fun vs w13 hk hg => ?_, trivial⟩, fun vs w13 hk hg => ?_⟩
        all_goals
          haveI p_w13 : PrevWorld w13 _ := ⟨hk⟩
          have hz_w13 := hk.size
          clear hk
          (try simp only [given, allGiven, look, SP.eq_p, SP.ex_p, SP.exs_p, SP.asl_p, Nat.reduceEqDiff, reduceIte, and_true] at hg)
          skip
        · clear hg
          go_wp2_with fail
          exact ⟨(by repeat (first | with_reducible exact HK.out | with_reducible exact Kept.refl _ _ | with_reducible refine Kept.prev ?_ | with_reducible refine Kept.alloc' ?_ _ | with_reducible refine Kept.drew' ?_ | with_reducible refine Kept.setB ?_ _ _ _ (by omega) | with_reducible refine Kept.row' ?_ _ _ (by omega) | with_reducible refine Kept.map' ?_ _ _ (by omega))), rfl, rfl⟩
        · clear hg
          go_wp2_with fail
          exact ⟨(by repeat (first | with_reducible exact HK.out | with_reducible exact Kept.refl _ _ | with_reducible refine Kept.prev ?_ | with_reducible refine Kept.alloc' ?_ _ | with_reducible refine Kept.drew' ?_ | with_reducible refine Kept.setB ?_ _ _ _ (by omega) | with_reducible refine Kept.row' ?_ _ _ (by omega) | with_reducible refine Kept.map' ?_ _ _ (by omega))), rfl, rfl⟩
        · obtain e103 := hg
          (try simp only [e103])
          go_wp2_with fail
          refine (number_any _ _ _).mono ?_
          rintro e w9 ⟨rfl, hk9⟩
          go_wp2_with fail
          exact ⟨hk9, rfl, rfl⟩
        · clear hg
          go_wp2_with fail
          exact ⟨(by repeat (first | with_reducible exact HK.out | with_reducible exact Kept.refl _ _ | with_reducible refine Kept.prev ?_ | with_reducible refine Kept.alloc' ?_ _ | with_reducible refine Kept.drew' ?_ | with_reducible refine Kept.setB ?_ _ _ _ (by omega) | with_reducible refine Kept.row' ?_ _ _ (by omega) | with_reducible refine Kept.map' ?_ _ _ (by omega))), rfl, rfl⟩
        · obtain e105 := hg
          (try simp only [e105])
          go_wp2_with fail
          refine (number_any _ _ _).mono ?_
          rintro e w9 ⟨rfl, hk9⟩
          go_wp2_with fail
          exact ⟨hk9, rfl, rfl⟩
        · obtain ⟨e104, e106⟩ := hg
          (try simp only [e104, e106])
          go_wp2_with fail
          refine (two_any [] _ 5 (numX x 0) (numX y 0) 0 1 no_q (num_k _ _ _ _ ⟨by omega, by omega⟩) (num_k _ _ _ _ ⟨by omega, by omega⟩)).mono ?_
          rintro e w9 ⟨x, rfl, hp, hi, hk9⟩
          go_wp2_with fail
          exact ⟨hk9, rfl, x, rfl, hp, hi⟩
        · obtain ⟨e102, ⟨x107, e107, ⟨B107, rfl⟩, i107⟩⟩ := hg
          (try simp only [e102])
          go_wp2_with fail
          refine (value_val _ A B C a b _ 2 (HT.out _ (by repeat (first | with_reducible exact HK.out | with_reducible exact Kept.refl _ _ | with_reducible refine Kept.prev ?_ | with_reducible refine Kept.alloc' ?_ _ | with_reducible refine Kept.drew' ?_ | with_reducible refine Kept.setB ?_ _ _ _ (by omega) | with_reducible refine Kept.row' ?_ _ _ (by omega) | with_reducible refine Kept.map' ?_ _ _ (by omega)))) i107.in 0 71 (H5.out B107)).mono ?_
          rintro e w9 ⟨rfl, hk9⟩
          go_wp2_with fail
          exact ⟨hk9, rfl, rfl⟩
        · obtain e108 := hg
          (try simp only [e108])
          go_wp2_with fail
          exact ⟨(by repeat (first | with_reducible exact HK.out | with_reducible exact Kept.refl _ _ | with_reducible refine Kept.prev ?_ | with_reducible refine Kept.alloc' ?_ _ | with_reducible refine Kept.drew' ?_ | with_reducible refine Kept.setB ?_ _ _ _ (by omega) | with_reducible refine Kept.row' ?_ _ _ (by omega) | with_reducible refine Kept.map' ?_ _ _ (by omega))), rfl, rfl⟩
        · obtain e101 := hg
          (try simp only [e101])
          go_wp2_with fail
          exact ⟨(by repeat (first | with_reducible exact HK.out | with_reducible exact Kept.refl _ _ | with_reducible refine Kept.prev ?_ | with_reducible refine Kept.alloc' ?_ _ | with_reducible refine Kept.drew' ?_ | with_reducible refine Kept.setB ?_ _ _ _ (by omega) | with_reducible refine Kept.row' ?_ _ _ (by omega) | with_reducible refine Kept.map' ?_ _ _ (by omega))), rfl, rfl⟩
        · obtain e101 := hg
          (try simp only [e101])
          go_wp2_with fail
          exact ⟨(by repeat (first | with_reducible exact HK.out | with_reducible exact Kept.refl _ _ | with_reducible refine Kept.prev ?_ | with_reducible refine Kept.alloc' ?_ _ | with_reducible refine Kept.drew' ?_ | with_reducible refine Kept.setB ?_ _ _ _ (by omega) | with_reducible refine Kept.row' ?_ _ _ (by omega) | with_reducible refine Kept.map' ?_ _ _ (by omega))), rfl, rfl⟩
        · obtain e109 := hg
          (try simp only [e109])
          go_wp2_with fail
          exact ⟨(by repeat (first | with_reducible exact HK.out | with_reducible exact Kept.refl _ _ | with_reducible refine Kept.prev ?_ | with_reducible refine Kept.alloc' ?_ _ | with_reducible refine Kept.drew' ?_ | with_reducible refine Kept.setB ?_ _ _ _ (by omega) | with_reducible refine Kept.row' ?_ _ _ (by omega) | with_reducible refine Kept.map' ?_ _ _ (by omega))), rfl, rfl⟩
        · obtain e110 := hg
          (try simp only [e110])
          go_wp2_with fail
          exact ⟨(by repeat (first | with_reducible exact HK.out | with_reducible exact Kept.refl _ _ | with_reducible refine Kept.prev ?_ | with_reducible refine Kept.alloc' ?_ _ | with_reducible refine Kept.drew' ?_ | with_reducible refine Kept.setB ?_ _ _ _ (by omega) | with_reducible refine Kept.row' ?_ _ _ (by omega) | with_reducible refine Kept.map' ?_ _ _ (by omega))), rfl, rfl⟩
        obtain ⟨-, -, -, -, -, -, -, -, -, -, e17, e18⟩ := hg
        refine wpList_nil ?_
        simp only [e17, e18]
        clear e17 e18
        clear H4 H6 H5
        go_wp2_with fail
        refine (works_any _).mono ?_; rintro e w24 ⟨rfl, hk_w24⟩; haveI p_w24 : PrevWorld w24 _ := ⟨hk_w24⟩; have hz_w24 : w.heap.size ≤ w24.heap.size := Kept.size (by repeat (first | with_reducible exact HK.out | with_reducible exact Kept.refl _ _ | with_reducible refine Kept.prev ?_ | with_reducible refine Kept.alloc' ?_ _ | with_reducible refine Kept.drew' ?_ | with_reducible refine Kept.setB ?_ _ _ _ (by omega) | with_reducible refine Kept.row' ?_ _ _ (by omega) | with_reducible refine Kept.map' ?_ _ _ (by omega))); clear hk_w24
        go_wp2_with fail
        exact bodyPost_v rfl (res1 Try.results4 (resT rfl)) (by repeat (first | with_reducible exact HK.out | with_reducible exact Kept.refl _ _ | with_reducible refine Kept.prev ?_ | with_reducible refine Kept.alloc' ?_ _ | with_reducible refine Kept.drew' ?_ | with_reducible refine Kept.setB ?_ _ _ _ (by omega) | with_reducible refine Kept.row' ?_ _ _ (by omega) | with_reducible refine Kept.map' ?_ _ _ (by omega)))
      · have e0 : (y == 0) = false := by simp [h0]
        have H4 := Lib.hid (fun B => op4 HX.out HY.out h0 a b B)
        have H6 := Lib.hid (fun B => op6 HX.out HY.out h0 a b B)
        have H5 := Lib.hid (fun B => op5 HX.out HY.out h0 a b B)
        obtain ⟨k1, k2, k3⟩ := mod_law HX.out HY.out h0
        have k4 := tmod_abs (x := x) h0
        have k5 := tmod_sign (x := x) (y := y)
        have k6 : x.tdiv y * y + x.tmod y = x := by rw [Int.mul_comm]; exact Int.mul_tdiv_add_tmod x y
        have k7 := tdiv_in (y := y) HX.out
        have k8 : x.tmod y ≠ 0 → decide (x.tmod y < 0) = decide (x < 0) := fun hn => by
          by_cases hx0 : x < 0
          · rw [decide_eq_true hx0, decide_eq_true (show x.tmod y < 0 by have := k5.2 (by omega); omega)]
          · rw [decide_eq_false hx0, decide_eq_false (show ¬ x.tmod y < 0 by have := k5.1 (by omega); omega)]
        generalize x.tdiv y = dq at *
        generalize x.tmod y = r at *
        generalize modP x y = m at *
        have K2 := Lib.hid k2
        have K8 := Lib.hid k8
        have K3 := Lib.hid k3
        have K6 := Lib.hid k6
        have k9 : (r.natAbs : Int) < (y.natAbs : Int) := by omega
        have k10 : (m.natAbs : Int) < (y.natAbs : Int) := by omega
        clear k2 k8 k5 h0 k3 k6
        go_upto_region 10 with fail
        refine wp_region_each [⟨82, [], .eq (.agg ((someV A B C).cells (someT a b)))⟩, ⟨83, [], .eq (.int .i64 x)⟩, ⟨84, [83], .eq (.agg (numX x 0).cells.toArray)⟩, ⟨85, [], .eq (.int .i64 y)⟩, ⟨86, [85], .eq (.agg (numX y 0).cells.toArray)⟩, ⟨87, [84, 86], .ex [] 2 (fun z => ∃ B, z = twoX B 4 (numX x 0) (numX y 0) 0)⟩, ⟨88, [82, 87], .eq (.tuple #[.int .i64 dq, .int .i64 0])⟩, ⟨81, [88], .eq (.tuple #[.int .i64 dq, .int .i64 0])⟩, ⟨89, [81], .eq (.int .i64 dq)⟩, ⟨90, [81], .eq (.int .i64 0)⟩, ⟨13, [89], .eq (.int .i64 dq)⟩, ⟨14, [90], .eq (.int .i64 0)⟩] (by kernel_rfl) (by kernel_rfl) ?_
        apply Exists.intro
        refine ⟨fun vs => ?_, ?_⟩
        · simp only [List.map_cons, List.map_nil, puts, Act.put, List.setIfInBounds_toArray, List.set_cons_zero, List.set_cons_succ]
          exact rfl
        refine ⟨⟨fun vs w11 hk hg => ?_, fun vs w11 hk hg => ?_, fun vs w11 hk hg => ?_, fun vs w11 hk hg => ?_, fun vs w11 hk hg => ?_, fun vs w11 hk hg => ?_, fun vs w11 hk hg => ?_, fun vs w11 hk hg => ?_, fun vs w11 hk hg => ?_, fun vs w11 hk hg => ?_, fun vs w11 hk hg => ?_, fun vs w11 hk hg => ?_, trivial⟩, fun vs w11 hk hg => ?_⟩
        all_goals
          haveI p_w11 : PrevWorld w11 _ := ⟨hk⟩
          have hz_w11 := hk.size
          clear hk
          (try simp only [given, allGiven, look, SP.eq_p, SP.ex_p, SP.exs_p, SP.asl_p, Nat.reduceEqDiff, reduceIte, and_true] at hg)
          skip
        · clear hg
          go_wp2_with fail
          exact ⟨(by repeat (first | with_reducible exact HK.out | with_reducible exact Kept.refl _ _ | with_reducible refine Kept.prev ?_ | with_reducible refine Kept.alloc' ?_ _ | with_reducible refine Kept.drew' ?_ | with_reducible refine Kept.setB ?_ _ _ _ (by omega) | with_reducible refine Kept.row' ?_ _ _ (by omega) | with_reducible refine Kept.map' ?_ _ _ (by omega))), rfl, rfl⟩
        · clear hg
          go_wp2_with fail
          exact ⟨(by repeat (first | with_reducible exact HK.out | with_reducible exact Kept.refl _ _ | with_reducible refine Kept.prev ?_ | with_reducible refine Kept.alloc' ?_ _ | with_reducible refine Kept.drew' ?_ | with_reducible refine Kept.setB ?_ _ _ _ (by omega) | with_reducible refine Kept.row' ?_ _ _ (by omega) | with_reducible refine Kept.map' ?_ _ _ (by omega))), rfl, rfl⟩
        · obtain e83 := hg
          (try simp only [e83])
          go_wp2_with fail
          refine (number_any _ _ _).mono ?_
          rintro e w9 ⟨rfl, hk9⟩
          go_wp2_with fail
          exact ⟨hk9, rfl, rfl⟩
        · clear hg
          go_wp2_with fail
          exact ⟨(by repeat (first | with_reducible exact HK.out | with_reducible exact Kept.refl _ _ | with_reducible refine Kept.prev ?_ | with_reducible refine Kept.alloc' ?_ _ | with_reducible refine Kept.drew' ?_ | with_reducible refine Kept.setB ?_ _ _ _ (by omega) | with_reducible refine Kept.row' ?_ _ _ (by omega) | with_reducible refine Kept.map' ?_ _ _ (by omega))), rfl, rfl⟩
        · obtain e85 := hg
          (try simp only [e85])
          go_wp2_with fail
          refine (number_any _ _ _).mono ?_
          rintro e w9 ⟨rfl, hk9⟩
          go_wp2_with fail
          exact ⟨hk9, rfl, rfl⟩
        · obtain ⟨e84, e86⟩ := hg
          (try simp only [e84, e86])
          go_wp2_with fail
          refine (two_any [] _ 4 (numX x 0) (numX y 0) 0 1 no_q (num_k _ _ _ _ ⟨by omega, by omega⟩) (num_k _ _ _ _ ⟨by omega, by omega⟩)).mono ?_
          rintro e w9 ⟨x, rfl, hp, hi, hk9⟩
          go_wp2_with fail
          exact ⟨hk9, rfl, x, rfl, hp, hi⟩
        · obtain ⟨e82, ⟨x87, e87, ⟨B87, rfl⟩, i87⟩⟩ := hg
          (try simp only [e82])
          go_wp2_with fail
          refine (value_val _ A B C a b _ 2 (HT.out _ (by repeat (first | with_reducible exact HK.out | with_reducible exact Kept.refl _ _ | with_reducible refine Kept.prev ?_ | with_reducible refine Kept.alloc' ?_ _ | with_reducible refine Kept.drew' ?_ | with_reducible refine Kept.setB ?_ _ _ _ (by omega) | with_reducible refine Kept.row' ?_ _ _ (by omega) | with_reducible refine Kept.map' ?_ _ _ (by omega)))) i87.in dq 0 (H4.out B87)).mono ?_
          rintro e w9 ⟨rfl, hk9⟩
          go_wp2_with fail
          exact ⟨hk9, rfl, rfl⟩
        · obtain e88 := hg
          (try simp only [e88])
          go_wp2_with fail
          exact ⟨(by repeat (first | with_reducible exact HK.out | with_reducible exact Kept.refl _ _ | with_reducible refine Kept.prev ?_ | with_reducible refine Kept.alloc' ?_ _ | with_reducible refine Kept.drew' ?_ | with_reducible refine Kept.setB ?_ _ _ _ (by omega) | with_reducible refine Kept.row' ?_ _ _ (by omega) | with_reducible refine Kept.map' ?_ _ _ (by omega))), rfl, rfl⟩
        · obtain e81 := hg
          (try simp only [e81])
          go_wp2_with fail
          exact ⟨(by repeat (first | with_reducible exact HK.out | with_reducible exact Kept.refl _ _ | with_reducible refine Kept.prev ?_ | with_reducible refine Kept.alloc' ?_ _ | with_reducible refine Kept.drew' ?_ | with_reducible refine Kept.setB ?_ _ _ _ (by omega) | with_reducible refine Kept.row' ?_ _ _ (by omega) | with_reducible refine Kept.map' ?_ _ _ (by omega))), rfl, rfl⟩
        · obtain e81 := hg
          (try simp only [e81])
          go_wp2_with fail
          exact ⟨(by repeat (first | with_reducible exact HK.out | with_reducible exact Kept.refl _ _ | with_reducible refine Kept.prev ?_ | with_reducible refine Kept.alloc' ?_ _ | with_reducible refine Kept.drew' ?_ | with_reducible refine Kept.setB ?_ _ _ _ (by omega) | with_reducible refine Kept.row' ?_ _ _ (by omega) | with_reducible refine Kept.map' ?_ _ _ (by omega))), rfl, rfl⟩
        · obtain e89 := hg
          (try simp only [e89])
          go_wp2_with fail
          exact ⟨(by repeat (first | with_reducible exact HK.out | with_reducible exact Kept.refl _ _ | with_reducible refine Kept.prev ?_ | with_reducible refine Kept.alloc' ?_ _ | with_reducible refine Kept.drew' ?_ | with_reducible refine Kept.setB ?_ _ _ _ (by omega) | with_reducible refine Kept.row' ?_ _ _ (by omega) | with_reducible refine Kept.map' ?_ _ _ (by omega))), rfl, rfl⟩
        · obtain e90 := hg
          (try simp only [e90])
          go_wp2_with fail
          exact ⟨(by repeat (first | with_reducible exact HK.out | with_reducible exact Kept.refl _ _ | with_reducible refine Kept.prev ?_ | with_reducible refine Kept.alloc' ?_ _ | with_reducible refine Kept.drew' ?_ | with_reducible refine Kept.setB ?_ _ _ _ (by omega) | with_reducible refine Kept.row' ?_ _ _ (by omega) | with_reducible refine Kept.map' ?_ _ _ (by omega))), rfl, rfl⟩
        obtain ⟨-, -, -, -, -, -, -, -, -, -, e13, e14⟩ := hg
        refine wpList_nil ?_
        simp only [e13, e14]
        clear e13 e14
        go_upto_region 11 with fail
        refine wp_region_each [⟨92, [], .eq (.agg ((someV A B C).cells (someT a b)))⟩, ⟨93, [], .eq (.int .i64 x)⟩, ⟨94, [93], .eq (.agg (numX x 0).cells.toArray)⟩, ⟨95, [], .eq (.int .i64 y)⟩, ⟨96, [95], .eq (.agg (numX y 0).cells.toArray)⟩, ⟨97, [94, 96], .ex [] 2 (fun z => ∃ B, z = twoX B 6 (numX x 0) (numX y 0) 0)⟩, ⟨98, [92, 97], .eq (.tuple #[.int .i64 r, .int .i64 0])⟩, ⟨91, [98], .eq (.tuple #[.int .i64 r, .int .i64 0])⟩, ⟨99, [91], .eq (.int .i64 r)⟩, ⟨100, [91], .eq (.int .i64 0)⟩, ⟨15, [99], .eq (.int .i64 r)⟩, ⟨16, [100], .eq (.int .i64 0)⟩] (by kernel_rfl) (by kernel_rfl) ?_
        apply Exists.intro
        refine ⟨fun vs => ?_, ?_⟩
        · simp only [List.map_cons, List.map_nil, puts, Act.put, List.setIfInBounds_toArray, List.set_cons_zero, List.set_cons_succ]
          exact rfl
        refine ⟨⟨fun vs w12 hk hg => ?_, fun vs w12 hk hg => ?_, fun vs w12 hk hg => ?_, fun vs w12 hk hg => ?_, fun vs w12 hk hg => ?_, fun vs w12 hk hg => ?_, fun vs w12 hk hg => ?_, fun vs w12 hk hg => ?_, fun vs w12 hk hg => ?_, fun vs w12 hk hg => ?_, fun vs w12 hk hg => ?_, fun vs w12 hk hg => ?_, trivial⟩, fun vs w12 hk hg => ?_⟩
        all_goals
          haveI p_w12 : PrevWorld w12 _ := ⟨hk⟩
          have hz_w12 := hk.size
          clear hk
          (try simp only [given, allGiven, look, SP.eq_p, SP.ex_p, SP.exs_p, SP.asl_p, Nat.reduceEqDiff, reduceIte, and_true] at hg)
          skip
        · clear hg
          go_wp2_with fail
          exact ⟨(by repeat (first | with_reducible exact HK.out | with_reducible exact Kept.refl _ _ | with_reducible refine Kept.prev ?_ | with_reducible refine Kept.alloc' ?_ _ | with_reducible refine Kept.drew' ?_ | with_reducible refine Kept.setB ?_ _ _ _ (by omega) | with_reducible refine Kept.row' ?_ _ _ (by omega) | with_reducible refine Kept.map' ?_ _ _ (by omega))), rfl, rfl⟩
        · clear hg
          go_wp2_with fail
          exact ⟨(by repeat (first | with_reducible exact HK.out | with_reducible exact Kept.refl _ _ | with_reducible refine Kept.prev ?_ | with_reducible refine Kept.alloc' ?_ _ | with_reducible refine Kept.drew' ?_ | with_reducible refine Kept.setB ?_ _ _ _ (by omega) | with_reducible refine Kept.row' ?_ _ _ (by omega) | with_reducible refine Kept.map' ?_ _ _ (by omega))), rfl, rfl⟩
        · obtain e93 := hg
          (try simp only [e93])
          go_wp2_with fail
          refine (number_any _ _ _).mono ?_
          rintro e w9 ⟨rfl, hk9⟩
          go_wp2_with fail
          exact ⟨hk9, rfl, rfl⟩
        · clear hg
          go_wp2_with fail
          exact ⟨(by repeat (first | with_reducible exact HK.out | with_reducible exact Kept.refl _ _ | with_reducible refine Kept.prev ?_ | with_reducible refine Kept.alloc' ?_ _ | with_reducible refine Kept.drew' ?_ | with_reducible refine Kept.setB ?_ _ _ _ (by omega) | with_reducible refine Kept.row' ?_ _ _ (by omega) | with_reducible refine Kept.map' ?_ _ _ (by omega))), rfl, rfl⟩
        · obtain e95 := hg
          (try simp only [e95])
          go_wp2_with fail
          refine (number_any _ _ _).mono ?_
          rintro e w9 ⟨rfl, hk9⟩
          go_wp2_with fail
          exact ⟨hk9, rfl, rfl⟩
        · obtain ⟨e94, e96⟩ := hg
          (try simp only [e94, e96])
          go_wp2_with fail
          refine (two_any [] _ 6 (numX x 0) (numX y 0) 0 1 no_q (num_k _ _ _ _ ⟨by omega, by omega⟩) (num_k _ _ _ _ ⟨by omega, by omega⟩)).mono ?_
          rintro e w9 ⟨x, rfl, hp, hi, hk9⟩
          go_wp2_with fail
          exact ⟨hk9, rfl, x, rfl, hp, hi⟩
        · obtain ⟨e92, ⟨x97, e97, ⟨B97, rfl⟩, i97⟩⟩ := hg
          (try simp only [e92])
          go_wp2_with fail
          refine (value_val _ A B C a b _ 2 (HT.out _ (by repeat (first | with_reducible exact HK.out | with_reducible exact Kept.refl _ _ | with_reducible refine Kept.prev ?_ | with_reducible refine Kept.alloc' ?_ _ | with_reducible refine Kept.drew' ?_ | with_reducible refine Kept.setB ?_ _ _ _ (by omega) | with_reducible refine Kept.row' ?_ _ _ (by omega) | with_reducible refine Kept.map' ?_ _ _ (by omega)))) i97.in r 0 (H6.out B97)).mono ?_
          rintro e w9 ⟨rfl, hk9⟩
          go_wp2_with fail
          exact ⟨hk9, rfl, rfl⟩
        · obtain e98 := hg
          (try simp only [e98])
          go_wp2_with fail
          exact ⟨(by repeat (first | with_reducible exact HK.out | with_reducible exact Kept.refl _ _ | with_reducible refine Kept.prev ?_ | with_reducible refine Kept.alloc' ?_ _ | with_reducible refine Kept.drew' ?_ | with_reducible refine Kept.setB ?_ _ _ _ (by omega) | with_reducible refine Kept.row' ?_ _ _ (by omega) | with_reducible refine Kept.map' ?_ _ _ (by omega))), rfl, rfl⟩
        · obtain e91 := hg
          (try simp only [e91])
          go_wp2_with fail
          exact ⟨(by repeat (first | with_reducible exact HK.out | with_reducible exact Kept.refl _ _ | with_reducible refine Kept.prev ?_ | with_reducible refine Kept.alloc' ?_ _ | with_reducible refine Kept.drew' ?_ | with_reducible refine Kept.setB ?_ _ _ _ (by omega) | with_reducible refine Kept.row' ?_ _ _ (by omega) | with_reducible refine Kept.map' ?_ _ _ (by omega))), rfl, rfl⟩
        · obtain e91 := hg
          (try simp only [e91])
          go_wp2_with fail
          exact ⟨(by repeat (first | with_reducible exact HK.out | with_reducible exact Kept.refl _ _ | with_reducible refine Kept.prev ?_ | with_reducible refine Kept.alloc' ?_ _ | with_reducible refine Kept.drew' ?_ | with_reducible refine Kept.setB ?_ _ _ _ (by omega) | with_reducible refine Kept.row' ?_ _ _ (by omega) | with_reducible refine Kept.map' ?_ _ _ (by omega))), rfl, rfl⟩
        · obtain e99 := hg
          (try simp only [e99])
          go_wp2_with fail
          exact ⟨(by repeat (first | with_reducible exact HK.out | with_reducible exact Kept.refl _ _ | with_reducible refine Kept.prev ?_ | with_reducible refine Kept.alloc' ?_ _ | with_reducible refine Kept.drew' ?_ | with_reducible refine Kept.setB ?_ _ _ _ (by omega) | with_reducible refine Kept.row' ?_ _ _ (by omega) | with_reducible refine Kept.map' ?_ _ _ (by omega))), rfl, rfl⟩
        · obtain e100 := hg
          (try simp only [e100])
          go_wp2_with fail
          exact ⟨(by repeat (first | with_reducible exact HK.out | with_reducible exact Kept.refl _ _ | with_reducible refine Kept.prev ?_ | with_reducible refine Kept.alloc' ?_ _ | with_reducible refine Kept.drew' ?_ | with_reducible refine Kept.setB ?_ _ _ _ (by omega) | with_reducible refine Kept.row' ?_ _ _ (by omega) | with_reducible refine Kept.map' ?_ _ _ (by omega))), rfl, rfl⟩
        obtain ⟨-, -, -, -, -, -, -, -, -, -, e15, e16⟩ := hg
        refine wpList_nil ?_
        simp only [e15, e16]
        clear e15 e16
        go_upto_region 12 with fail
        refine wp_region_each [⟨102, [], .eq (.agg ((someV A B C).cells (someT a b)))⟩, ⟨103, [], .eq (.int .i64 x)⟩, ⟨104, [103], .eq (.agg (numX x 0).cells.toArray)⟩, ⟨105, [], .eq (.int .i64 y)⟩, ⟨106, [105], .eq (.agg (numX y 0).cells.toArray)⟩, ⟨107, [104, 106], .ex [] 2 (fun z => ∃ B, z = twoX B 5 (numX x 0) (numX y 0) 0)⟩, ⟨108, [102, 107], .eq (.tuple #[.int .i64 m, .int .i64 0])⟩, ⟨101, [108], .eq (.tuple #[.int .i64 m, .int .i64 0])⟩, ⟨109, [101], .eq (.int .i64 m)⟩, ⟨110, [101], .eq (.int .i64 0)⟩, ⟨17, [109], .eq (.int .i64 m)⟩, ⟨18, [110], .eq (.int .i64 0)⟩] (by kernel_rfl) (by kernel_rfl) ?_
        apply Exists.intro
        refine ⟨fun vs => ?_, ?_⟩
        · simp only [List.map_cons, List.map_nil, puts, Act.put, List.setIfInBounds_toArray, List.set_cons_zero, List.set_cons_succ]
          exact rfl
        refine ⟨⟨fun vs w13 hk hg => ?_, fun vs w13 hk hg => ?_, fun vs w13 hk hg => ?_, fun vs w13 hk hg => ?_, fun vs w13 hk hg => ?_, fun vs w13 hk hg => ?_, fun vs w13 hk hg => ?_, fun vs w13 hk hg => ?_, fun vs w13 hk hg => ?_, fun vs w13 hk hg => ?_, fun vs w13 hk hg => ?_, fun vs w13 hk hg => ?_, trivial⟩, fun vs w13 hk hg => ?_⟩
        all_goals
          haveI p_w13 : PrevWorld w13 _ := ⟨hk⟩
          have hz_w13 := hk.size
          clear hk
          (try simp only [given, allGiven, look, SP.eq_p, SP.ex_p, SP.exs_p, SP.asl_p, Nat.reduceEqDiff, reduceIte, and_true] at hg)
          skip
        · clear hg
          go_wp2_with fail
          exact ⟨(by repeat (first | with_reducible exact HK.out | with_reducible exact Kept.refl _ _ | with_reducible refine Kept.prev ?_ | with_reducible refine Kept.alloc' ?_ _ | with_reducible refine Kept.drew' ?_ | with_reducible refine Kept.setB ?_ _ _ _ (by omega) | with_reducible refine Kept.row' ?_ _ _ (by omega) | with_reducible refine Kept.map' ?_ _ _ (by omega))), rfl, rfl⟩
        · clear hg
          go_wp2_with fail
          exact ⟨(by repeat (first | with_reducible exact HK.out | with_reducible exact Kept.refl _ _ | with_reducible refine Kept.prev ?_ | with_reducible refine Kept.alloc' ?_ _ | with_reducible refine Kept.drew' ?_ | with_reducible refine Kept.setB ?_ _ _ _ (by omega) | with_reducible refine Kept.row' ?_ _ _ (by omega) | with_reducible refine Kept.map' ?_ _ _ (by omega))), rfl, rfl⟩
        · obtain e103 := hg
          (try simp only [e103])
          go_wp2_with fail
          refine (number_any _ _ _).mono ?_
          rintro e w9 ⟨rfl, hk9⟩
          go_wp2_with fail
          exact ⟨hk9, rfl, rfl⟩
        · clear hg
          go_wp2_with fail
          exact ⟨(by repeat (first | with_reducible exact HK.out | with_reducible exact Kept.refl _ _ | with_reducible refine Kept.prev ?_ | with_reducible refine Kept.alloc' ?_ _ | with_reducible refine Kept.drew' ?_ | with_reducible refine Kept.setB ?_ _ _ _ (by omega) | with_reducible refine Kept.row' ?_ _ _ (by omega) | with_reducible refine Kept.map' ?_ _ _ (by omega))), rfl, rfl⟩
        · obtain e105 := hg
          (try simp only [e105])
          go_wp2_with fail
          refine (number_any _ _ _).mono ?_
          rintro e w9 ⟨rfl, hk9⟩
          go_wp2_with fail
          exact ⟨hk9, rfl, rfl⟩
        · obtain ⟨e104, e106⟩ := hg
          (try simp only [e104, e106])
          go_wp2_with fail
          refine (two_any [] _ 5 (numX x 0) (numX y 0) 0 1 no_q (num_k _ _ _ _ ⟨by omega, by omega⟩) (num_k _ _ _ _ ⟨by omega, by omega⟩)).mono ?_
          rintro e w9 ⟨x, rfl, hp, hi, hk9⟩
          go_wp2_with fail
          exact ⟨hk9, rfl, x, rfl, hp, hi⟩
        · obtain ⟨e102, ⟨x107, e107, ⟨B107, rfl⟩, i107⟩⟩ := hg
          (try simp only [e102])
          go_wp2_with fail
          refine (value_val _ A B C a b _ 2 (HT.out _ (by repeat (first | with_reducible exact HK.out | with_reducible exact Kept.refl _ _ | with_reducible refine Kept.prev ?_ | with_reducible refine Kept.alloc' ?_ _ | with_reducible refine Kept.drew' ?_ | with_reducible refine Kept.setB ?_ _ _ _ (by omega) | with_reducible refine Kept.row' ?_ _ _ (by omega) | with_reducible refine Kept.map' ?_ _ _ (by omega)))) i107.in m 0 (H5.out B107)).mono ?_
          rintro e w9 ⟨rfl, hk9⟩
          go_wp2_with fail
          exact ⟨hk9, rfl, rfl⟩
        · obtain e108 := hg
          (try simp only [e108])
          go_wp2_with fail
          exact ⟨(by repeat (first | with_reducible exact HK.out | with_reducible exact Kept.refl _ _ | with_reducible refine Kept.prev ?_ | with_reducible refine Kept.alloc' ?_ _ | with_reducible refine Kept.drew' ?_ | with_reducible refine Kept.setB ?_ _ _ _ (by omega) | with_reducible refine Kept.row' ?_ _ _ (by omega) | with_reducible refine Kept.map' ?_ _ _ (by omega))), rfl, rfl⟩
        · obtain e101 := hg
          (try simp only [e101])
          go_wp2_with fail
          exact ⟨(by repeat (first | with_reducible exact HK.out | with_reducible exact Kept.refl _ _ | with_reducible refine Kept.prev ?_ | with_reducible refine Kept.alloc' ?_ _ | with_reducible refine Kept.drew' ?_ | with_reducible refine Kept.setB ?_ _ _ _ (by omega) | with_reducible refine Kept.row' ?_ _ _ (by omega) | with_reducible refine Kept.map' ?_ _ _ (by omega))), rfl, rfl⟩
        · obtain e101 := hg
          (try simp only [e101])
          go_wp2_with fail
          exact ⟨(by repeat (first | with_reducible exact HK.out | with_reducible exact Kept.refl _ _ | with_reducible refine Kept.prev ?_ | with_reducible refine Kept.alloc' ?_ _ | with_reducible refine Kept.drew' ?_ | with_reducible refine Kept.setB ?_ _ _ _ (by omega) | with_reducible refine Kept.row' ?_ _ _ (by omega) | with_reducible refine Kept.map' ?_ _ _ (by omega))), rfl, rfl⟩
        · obtain e109 := hg
          (try simp only [e109])
          go_wp2_with fail
          exact ⟨(by repeat (first | with_reducible exact HK.out | with_reducible exact Kept.refl _ _ | with_reducible refine Kept.prev ?_ | with_reducible refine Kept.alloc' ?_ _ | with_reducible refine Kept.drew' ?_ | with_reducible refine Kept.setB ?_ _ _ _ (by omega) | with_reducible refine Kept.row' ?_ _ _ (by omega) | with_reducible refine Kept.map' ?_ _ _ (by omega))), rfl, rfl⟩
        · obtain e110 := hg
          (try simp only [e110])
          go_wp2_with fail
          exact ⟨(by repeat (first | with_reducible exact HK.out | with_reducible exact Kept.refl _ _ | with_reducible refine Kept.prev ?_ | with_reducible refine Kept.alloc' ?_ _ | with_reducible refine Kept.drew' ?_ | with_reducible refine Kept.setB ?_ _ _ _ (by omega) | with_reducible refine Kept.row' ?_ _ _ (by omega) | with_reducible refine Kept.map' ?_ _ _ (by omega))), rfl, rfl⟩
        obtain ⟨-, -, -, -, -, -, -, -, -, -, e17, e18⟩ := hg
        refine wpList_nil ?_
        simp only [e17, e18]
        clear e17 e18
        clear H4 H6 H5
        have k6 := K6.out
        have k3 := K3.out
        have k11 : -9223372036854775808 ≤ dq * y ∧ dq * y ≤ 9223372036854775807 := ⟨by omega, by omega⟩
        obtain ⟨k12, k13⟩ := k11
        clear K6 K3
        by_cases r0 : r = 0
        · have r1 : (r != 0) = false := by simp [r0]
          by_cases m0 : m = 0
          · have m1 : (m != 0) = false := by simp [m0]
            clear K2 K8 r0 m0
            go_wp2_with fail
            refine (size_any _ r ⟨by omega, by omega⟩).mono ?_; rintro e w20 ⟨rfl, hk_w20⟩; haveI p_w20 : PrevWorld w20 _ := ⟨hk_w20⟩; have hz_w20 : w.heap.size ≤ w20.heap.size := Kept.size (by repeat (first | with_reducible exact HK.out | with_reducible exact Kept.refl _ _ | with_reducible refine Kept.prev ?_ | with_reducible refine Kept.alloc' ?_ _ | with_reducible refine Kept.drew' ?_ | with_reducible refine Kept.setB ?_ _ _ _ (by omega) | with_reducible refine Kept.row' ?_ _ _ (by omega) | with_reducible refine Kept.map' ?_ _ _ (by omega))); clear hk_w20
            go_wp2_with fail
            refine (size_any _ y ⟨by omega, by omega⟩).mono ?_; rintro e w21 ⟨rfl, hk_w21⟩; haveI p_w21 : PrevWorld w21 _ := ⟨hk_w21⟩; have hz_w21 : w.heap.size ≤ w21.heap.size := Kept.size (by repeat (first | with_reducible exact HK.out | with_reducible exact Kept.refl _ _ | with_reducible refine Kept.prev ?_ | with_reducible refine Kept.alloc' ?_ _ | with_reducible refine Kept.drew' ?_ | with_reducible refine Kept.setB ?_ _ _ _ (by omega) | with_reducible refine Kept.row' ?_ _ _ (by omega) | with_reducible refine Kept.map' ?_ _ _ (by omega))); clear hk_w21
            go_wp2_with fail
            refine (size_any _ m ⟨by omega, by omega⟩).mono ?_; rintro e w22 ⟨rfl, hk_w22⟩; haveI p_w22 : PrevWorld w22 _ := ⟨hk_w22⟩; have hz_w22 : w.heap.size ≤ w22.heap.size := Kept.size (by repeat (first | with_reducible exact HK.out | with_reducible exact Kept.refl _ _ | with_reducible refine Kept.prev ?_ | with_reducible refine Kept.alloc' ?_ _ | with_reducible refine Kept.drew' ?_ | with_reducible refine Kept.setB ?_ _ _ _ (by omega) | with_reducible refine Kept.row' ?_ _ _ (by omega) | with_reducible refine Kept.map' ?_ _ _ (by omega))); clear hk_w22
            go_wp2_with fail
            refine (size_any _ y ⟨by omega, by omega⟩).mono ?_; rintro e w23 ⟨rfl, hk_w23⟩; haveI p_w23 : PrevWorld w23 _ := ⟨hk_w23⟩; have hz_w23 : w.heap.size ≤ w23.heap.size := Kept.size (by repeat (first | with_reducible exact HK.out | with_reducible exact Kept.refl _ _ | with_reducible refine Kept.prev ?_ | with_reducible refine Kept.alloc' ?_ _ | with_reducible refine Kept.drew' ?_ | with_reducible refine Kept.setB ?_ _ _ _ (by omega) | with_reducible refine Kept.row' ?_ _ _ (by omega) | with_reducible refine Kept.map' ?_ _ _ (by omega))); clear hk_w23
            go_wp2_with fail
            refine (works_any _).mono ?_; rintro e w24 ⟨rfl, hk_w24⟩; haveI p_w24 : PrevWorld w24 _ := ⟨hk_w24⟩; have hz_w24 : w.heap.size ≤ w24.heap.size := Kept.size (by repeat (first | with_reducible exact HK.out | with_reducible exact Kept.refl _ _ | with_reducible refine Kept.prev ?_ | with_reducible refine Kept.alloc' ?_ _ | with_reducible refine Kept.drew' ?_ | with_reducible refine Kept.setB ?_ _ _ _ (by omega) | with_reducible refine Kept.row' ?_ _ _ (by omega) | with_reducible refine Kept.map' ?_ _ _ (by omega))); clear hk_w24
            go_wp2_with fail
            exact bodyPost_v rfl (res1 Try.results4 (resT rfl)) (by repeat (first | with_reducible exact HK.out | with_reducible exact Kept.refl _ _ | with_reducible refine Kept.prev ?_ | with_reducible refine Kept.alloc' ?_ _ | with_reducible refine Kept.drew' ?_ | with_reducible refine Kept.setB ?_ _ _ _ (by omega) | with_reducible refine Kept.row' ?_ _ _ (by omega) | with_reducible refine Kept.map' ?_ _ _ (by omega)))
          · have m1 : (m != 0) = true := by simp [m0]
            have m2 := K2.out m0
            clear K2 K8 r0 m0
            go_wp2_with fail
            refine (size_any _ r ⟨by omega, by omega⟩).mono ?_; rintro e w20 ⟨rfl, hk_w20⟩; haveI p_w20 : PrevWorld w20 _ := ⟨hk_w20⟩; have hz_w20 : w.heap.size ≤ w20.heap.size := Kept.size (by repeat (first | with_reducible exact HK.out | with_reducible exact Kept.refl _ _ | with_reducible refine Kept.prev ?_ | with_reducible refine Kept.alloc' ?_ _ | with_reducible refine Kept.drew' ?_ | with_reducible refine Kept.setB ?_ _ _ _ (by omega) | with_reducible refine Kept.row' ?_ _ _ (by omega) | with_reducible refine Kept.map' ?_ _ _ (by omega))); clear hk_w20
            go_wp2_with fail
            refine (size_any _ y ⟨by omega, by omega⟩).mono ?_; rintro e w21 ⟨rfl, hk_w21⟩; haveI p_w21 : PrevWorld w21 _ := ⟨hk_w21⟩; have hz_w21 : w.heap.size ≤ w21.heap.size := Kept.size (by repeat (first | with_reducible exact HK.out | with_reducible exact Kept.refl _ _ | with_reducible refine Kept.prev ?_ | with_reducible refine Kept.alloc' ?_ _ | with_reducible refine Kept.drew' ?_ | with_reducible refine Kept.setB ?_ _ _ _ (by omega) | with_reducible refine Kept.row' ?_ _ _ (by omega) | with_reducible refine Kept.map' ?_ _ _ (by omega))); clear hk_w21
            go_wp2_with fail
            refine (size_any _ m ⟨by omega, by omega⟩).mono ?_; rintro e w22 ⟨rfl, hk_w22⟩; haveI p_w22 : PrevWorld w22 _ := ⟨hk_w22⟩; have hz_w22 : w.heap.size ≤ w22.heap.size := Kept.size (by repeat (first | with_reducible exact HK.out | with_reducible exact Kept.refl _ _ | with_reducible refine Kept.prev ?_ | with_reducible refine Kept.alloc' ?_ _ | with_reducible refine Kept.drew' ?_ | with_reducible refine Kept.setB ?_ _ _ _ (by omega) | with_reducible refine Kept.row' ?_ _ _ (by omega) | with_reducible refine Kept.map' ?_ _ _ (by omega))); clear hk_w22
            go_wp2_with fail
            refine (size_any _ y ⟨by omega, by omega⟩).mono ?_; rintro e w23 ⟨rfl, hk_w23⟩; haveI p_w23 : PrevWorld w23 _ := ⟨hk_w23⟩; have hz_w23 : w.heap.size ≤ w23.heap.size := Kept.size (by repeat (first | with_reducible exact HK.out | with_reducible exact Kept.refl _ _ | with_reducible refine Kept.prev ?_ | with_reducible refine Kept.alloc' ?_ _ | with_reducible refine Kept.drew' ?_ | with_reducible refine Kept.setB ?_ _ _ _ (by omega) | with_reducible refine Kept.row' ?_ _ _ (by omega) | with_reducible refine Kept.map' ?_ _ _ (by omega))); clear hk_w23
            go_wp2_with fail
            refine (works_any _).mono ?_; rintro e w24 ⟨rfl, hk_w24⟩; haveI p_w24 : PrevWorld w24 _ := ⟨hk_w24⟩; have hz_w24 : w.heap.size ≤ w24.heap.size := Kept.size (by repeat (first | with_reducible exact HK.out | with_reducible exact Kept.refl _ _ | with_reducible refine Kept.prev ?_ | with_reducible refine Kept.alloc' ?_ _ | with_reducible refine Kept.drew' ?_ | with_reducible refine Kept.setB ?_ _ _ _ (by omega) | with_reducible refine Kept.row' ?_ _ _ (by omega) | with_reducible refine Kept.map' ?_ _ _ (by omega))); clear hk_w24
            go_wp2_with fail
            exact bodyPost_v rfl (res1 Try.results4 (resT rfl)) (by repeat (first | with_reducible exact HK.out | with_reducible exact Kept.refl _ _ | with_reducible refine Kept.prev ?_ | with_reducible refine Kept.alloc' ?_ _ | with_reducible refine Kept.drew' ?_ | with_reducible refine Kept.setB ?_ _ _ _ (by omega) | with_reducible refine Kept.row' ?_ _ _ (by omega) | with_reducible refine Kept.map' ?_ _ _ (by omega)))
        · have r1 : (r != 0) = true := by simp [r0]
          have r2 := K8.out r0
          by_cases m0 : m = 0
          · have m1 : (m != 0) = false := by simp [m0]
            clear K2 K8 r0 m0
            go_wp2_with fail
            refine (size_any _ r ⟨by omega, by omega⟩).mono ?_; rintro e w20 ⟨rfl, hk_w20⟩; haveI p_w20 : PrevWorld w20 _ := ⟨hk_w20⟩; have hz_w20 : w.heap.size ≤ w20.heap.size := Kept.size (by repeat (first | with_reducible exact HK.out | with_reducible exact Kept.refl _ _ | with_reducible refine Kept.prev ?_ | with_reducible refine Kept.alloc' ?_ _ | with_reducible refine Kept.drew' ?_ | with_reducible refine Kept.setB ?_ _ _ _ (by omega) | with_reducible refine Kept.row' ?_ _ _ (by omega) | with_reducible refine Kept.map' ?_ _ _ (by omega))); clear hk_w20
            go_wp2_with fail
            refine (size_any _ y ⟨by omega, by omega⟩).mono ?_; rintro e w21 ⟨rfl, hk_w21⟩; haveI p_w21 : PrevWorld w21 _ := ⟨hk_w21⟩; have hz_w21 : w.heap.size ≤ w21.heap.size := Kept.size (by repeat (first | with_reducible exact HK.out | with_reducible exact Kept.refl _ _ | with_reducible refine Kept.prev ?_ | with_reducible refine Kept.alloc' ?_ _ | with_reducible refine Kept.drew' ?_ | with_reducible refine Kept.setB ?_ _ _ _ (by omega) | with_reducible refine Kept.row' ?_ _ _ (by omega) | with_reducible refine Kept.map' ?_ _ _ (by omega))); clear hk_w21
            go_wp2_with fail
            refine (size_any _ m ⟨by omega, by omega⟩).mono ?_; rintro e w22 ⟨rfl, hk_w22⟩; haveI p_w22 : PrevWorld w22 _ := ⟨hk_w22⟩; have hz_w22 : w.heap.size ≤ w22.heap.size := Kept.size (by repeat (first | with_reducible exact HK.out | with_reducible exact Kept.refl _ _ | with_reducible refine Kept.prev ?_ | with_reducible refine Kept.alloc' ?_ _ | with_reducible refine Kept.drew' ?_ | with_reducible refine Kept.setB ?_ _ _ _ (by omega) | with_reducible refine Kept.row' ?_ _ _ (by omega) | with_reducible refine Kept.map' ?_ _ _ (by omega))); clear hk_w22
            go_wp2_with fail
            refine (size_any _ y ⟨by omega, by omega⟩).mono ?_; rintro e w23 ⟨rfl, hk_w23⟩; haveI p_w23 : PrevWorld w23 _ := ⟨hk_w23⟩; have hz_w23 : w.heap.size ≤ w23.heap.size := Kept.size (by repeat (first | with_reducible exact HK.out | with_reducible exact Kept.refl _ _ | with_reducible refine Kept.prev ?_ | with_reducible refine Kept.alloc' ?_ _ | with_reducible refine Kept.drew' ?_ | with_reducible refine Kept.setB ?_ _ _ _ (by omega) | with_reducible refine Kept.row' ?_ _ _ (by omega) | with_reducible refine Kept.map' ?_ _ _ (by omega))); clear hk_w23
            go_wp2_with fail
            refine (works_any _).mono ?_; rintro e w24 ⟨rfl, hk_w24⟩; haveI p_w24 : PrevWorld w24 _ := ⟨hk_w24⟩; have hz_w24 : w.heap.size ≤ w24.heap.size := Kept.size (by repeat (first | with_reducible exact HK.out | with_reducible exact Kept.refl _ _ | with_reducible refine Kept.prev ?_ | with_reducible refine Kept.alloc' ?_ _ | with_reducible refine Kept.drew' ?_ | with_reducible refine Kept.setB ?_ _ _ _ (by omega) | with_reducible refine Kept.row' ?_ _ _ (by omega) | with_reducible refine Kept.map' ?_ _ _ (by omega))); clear hk_w24
            go_wp2_with fail
            exact bodyPost_v rfl (res1 Try.results4 (resT rfl)) (by repeat (first | with_reducible exact HK.out | with_reducible exact Kept.refl _ _ | with_reducible refine Kept.prev ?_ | with_reducible refine Kept.alloc' ?_ _ | with_reducible refine Kept.drew' ?_ | with_reducible refine Kept.setB ?_ _ _ _ (by omega) | with_reducible refine Kept.row' ?_ _ _ (by omega) | with_reducible refine Kept.map' ?_ _ _ (by omega)))
          · have m1 : (m != 0) = true := by simp [m0]
            have m2 := K2.out m0
            clear K2 K8 r0 m0
            go_wp2_with fail
            refine (size_any _ r ⟨by omega, by omega⟩).mono ?_; rintro e w20 ⟨rfl, hk_w20⟩; haveI p_w20 : PrevWorld w20 _ := ⟨hk_w20⟩; have hz_w20 : w.heap.size ≤ w20.heap.size := Kept.size (by repeat (first | with_reducible exact HK.out | with_reducible exact Kept.refl _ _ | with_reducible refine Kept.prev ?_ | with_reducible refine Kept.alloc' ?_ _ | with_reducible refine Kept.drew' ?_ | with_reducible refine Kept.setB ?_ _ _ _ (by omega) | with_reducible refine Kept.row' ?_ _ _ (by omega) | with_reducible refine Kept.map' ?_ _ _ (by omega))); clear hk_w20
            go_wp2_with fail
            refine (size_any _ y ⟨by omega, by omega⟩).mono ?_; rintro e w21 ⟨rfl, hk_w21⟩; haveI p_w21 : PrevWorld w21 _ := ⟨hk_w21⟩; have hz_w21 : w.heap.size ≤ w21.heap.size := Kept.size (by repeat (first | with_reducible exact HK.out | with_reducible exact Kept.refl _ _ | with_reducible refine Kept.prev ?_ | with_reducible refine Kept.alloc' ?_ _ | with_reducible refine Kept.drew' ?_ | with_reducible refine Kept.setB ?_ _ _ _ (by omega) | with_reducible refine Kept.row' ?_ _ _ (by omega) | with_reducible refine Kept.map' ?_ _ _ (by omega))); clear hk_w21
            go_wp2_with fail
            refine (size_any _ m ⟨by omega, by omega⟩).mono ?_; rintro e w22 ⟨rfl, hk_w22⟩; haveI p_w22 : PrevWorld w22 _ := ⟨hk_w22⟩; have hz_w22 : w.heap.size ≤ w22.heap.size := Kept.size (by repeat (first | with_reducible exact HK.out | with_reducible exact Kept.refl _ _ | with_reducible refine Kept.prev ?_ | with_reducible refine Kept.alloc' ?_ _ | with_reducible refine Kept.drew' ?_ | with_reducible refine Kept.setB ?_ _ _ _ (by omega) | with_reducible refine Kept.row' ?_ _ _ (by omega) | with_reducible refine Kept.map' ?_ _ _ (by omega))); clear hk_w22
            go_wp2_with fail
            refine (size_any _ y ⟨by omega, by omega⟩).mono ?_; rintro e w23 ⟨rfl, hk_w23⟩; haveI p_w23 : PrevWorld w23 _ := ⟨hk_w23⟩; have hz_w23 : w.heap.size ≤ w23.heap.size := Kept.size (by repeat (first | with_reducible exact HK.out | with_reducible exact Kept.refl _ _ | with_reducible refine Kept.prev ?_ | with_reducible refine Kept.alloc' ?_ _ | with_reducible refine Kept.drew' ?_ | with_reducible refine Kept.setB ?_ _ _ _ (by omega) | with_reducible refine Kept.row' ?_ _ _ (by omega) | with_reducible refine Kept.map' ?_ _ _ (by omega))); clear hk_w23
            go_wp2_with fail
            refine (works_any _).mono ?_; rintro e w24 ⟨rfl, hk_w24⟩; haveI p_w24 : PrevWorld w24 _ := ⟨hk_w24⟩; have hz_w24 : w.heap.size ≤ w24.heap.size := Kept.size (by repeat (first | with_reducible exact HK.out | with_reducible exact Kept.refl _ _ | with_reducible refine Kept.prev ?_ | with_reducible refine Kept.alloc' ?_ _ | with_reducible refine Kept.drew' ?_ | with_reducible refine Kept.setB ?_ _ _ _ (by omega) | with_reducible refine Kept.row' ?_ _ _ (by omega) | with_reducible refine Kept.map' ?_ _ _ (by omega))); clear hk_w24
            go_wp2_with fail
            exact bodyPost_v rfl (res1 Try.results4 (resT rfl)) (by repeat (first | with_reducible exact HK.out | with_reducible exact Kept.refl _ _ | with_reducible refine Kept.prev ?_ | with_reducible refine Kept.alloc' ?_ _ | with_reducible refine Kept.drew' ?_ | with_reducible refine Kept.setB ?_ _ _ _ (by omega) | with_reducible refine Kept.row' ?_ _ _ (by omega) | with_reducible refine Kept.map' ?_ _ _ (by omega)))
    · intro q c w6 cnt1 hwx hwc hlx hat hrg1 hlt hg1 hs1 hen
      have hk6 : Kept [] w3 w6 := hkr.grown hg1 (fun j hj => by cases hj; exact hR)
      have hq := sum_key (hD _ hlx) hat
      have HV0 := Lib.hid (fun B => show valueP (someT a b) 2 (twoX B q (numX x 1) (numX y 1) 1) = sumP c from by
        rcases hq with ⟨rfl, rfl⟩ | ⟨rfl, rfl⟩ | ⟨rfl, rfl⟩
        · exact op1 HX.out HY.out a b B
        · exact op2 HX.out HY.out a b B
        · exact op3 HX.out HY.out a b B)
      have HRG := Lib.hid hrg1
      have HLE := Lib.hid hrg.left_eq
      have HDD := Lib.hid hD
      haveI p_w6 : PrevWorld w6 w3 := ⟨hk6⟩
      clear hk6 hat hwx hwc hlx hq hrg1 hg1 hs1 hkr hrg hD p_wr
      by_cases c1 : c < -2147483648 ∨ 2147483647 < c
      · have HV : Hid (∀ B, valueP (someT a b) 2 (twoX B q (numX x 1) (numX y 1) 1) = (0, 71)) := fun B => (HV0.out B).trans (if_pos c1)
        clear HV0
        go_upto_region 6 with fail
        refine wp_region_each [⟨43, [], .eq (.agg ((someV A B C).cells (someT a b)))⟩, ⟨44, [], .eq (.int .u8 q)⟩, ⟨45, [], .eq (.int .i64 x)⟩, ⟨46, [45], .eq (.agg (numX x 1).cells.toArray)⟩, ⟨47, [], .eq (.int .i64 y)⟩, ⟨48, [47], .eq (.agg (numX y 1).cells.toArray)⟩, ⟨49, [44, 46, 48], .ex [] 2 (fun z => ∃ B, z = twoX B q (numX x 1) (numX y 1) 1)⟩, ⟨50, [43, 49], .eq (.tuple #[.int .i64 0, .int .i64 71])⟩, ⟨42, [50], .eq (.tuple #[.int .i64 0, .int .i64 71])⟩, ⟨51, [42], .eq (.int .i64 0)⟩, ⟨52, [42], .eq (.int .i64 71)⟩, ⟨10, [51], .eq (.int .i64 0)⟩, ⟨11, [52], .eq (.int .i64 71)⟩] (by kernel_rfl) (by kernel_rfl) ?_
        apply Exists.intro
        refine ⟨fun vs => ?_, ?_⟩
        · simp only [List.map_cons, List.map_nil, puts, Act.put, List.setIfInBounds_toArray, List.set_cons_zero, List.set_cons_succ]
          exact rfl
        refine ⟨⟨fun vs w7 hk hg => ?_, fun vs w7 hk hg => ?_, fun vs w7 hk hg => ?_, fun vs w7 hk hg => ?_, fun vs w7 hk hg => ?_, fun vs w7 hk hg => ?_, fun vs w7 hk hg => ?_, fun vs w7 hk hg => ?_, fun vs w7 hk hg => ?_, fun vs w7 hk hg => ?_, fun vs w7 hk hg => ?_, fun vs w7 hk hg => ?_, fun vs w7 hk hg => ?_, trivial⟩, fun vs w7 hk hg => ?_⟩
        all_goals
          haveI p_w7 : PrevWorld w7 _ := ⟨hk⟩
          have hz_w7 := hk.size
          clear hk
          (try simp only [given, allGiven, look, SP.eq_p, SP.ex_p, SP.exs_p, SP.asl_p, Nat.reduceEqDiff, reduceIte, and_true] at hg)
          skip
        · clear hg
          go_wp2_with fail
          exact ⟨(by repeat (first | with_reducible exact HK.out | with_reducible exact Kept.refl _ _ | with_reducible refine Kept.prev ?_ | with_reducible refine Kept.alloc' ?_ _ | with_reducible refine Kept.drew' ?_ | with_reducible refine Kept.setB ?_ _ _ _ (by omega) | with_reducible refine Kept.row' ?_ _ _ (by omega) | with_reducible refine Kept.map' ?_ _ _ (by omega))), rfl, rfl⟩
        · clear hg
          go_wp2_with fail
          exact ⟨(by repeat (first | with_reducible exact HK.out | with_reducible exact Kept.refl _ _ | with_reducible refine Kept.prev ?_ | with_reducible refine Kept.alloc' ?_ _ | with_reducible refine Kept.drew' ?_ | with_reducible refine Kept.setB ?_ _ _ _ (by omega) | with_reducible refine Kept.row' ?_ _ _ (by omega) | with_reducible refine Kept.map' ?_ _ _ (by omega))), rfl, rfl⟩
        · clear hg
          go_wp2_with fail
          exact ⟨(by repeat (first | with_reducible exact HK.out | with_reducible exact Kept.refl _ _ | with_reducible refine Kept.prev ?_ | with_reducible refine Kept.alloc' ?_ _ | with_reducible refine Kept.drew' ?_ | with_reducible refine Kept.setB ?_ _ _ _ (by omega) | with_reducible refine Kept.row' ?_ _ _ (by omega) | with_reducible refine Kept.map' ?_ _ _ (by omega))), rfl, rfl⟩
        · obtain e45 := hg
          (try simp only [e45])
          go_wp2_with fail
          refine (number_any _ _ _).mono ?_
          rintro e w9 ⟨rfl, hk9⟩
          go_wp2_with fail
          exact ⟨hk9, rfl, rfl⟩
        · clear hg
          go_wp2_with fail
          exact ⟨(by repeat (first | with_reducible exact HK.out | with_reducible exact Kept.refl _ _ | with_reducible refine Kept.prev ?_ | with_reducible refine Kept.alloc' ?_ _ | with_reducible refine Kept.drew' ?_ | with_reducible refine Kept.setB ?_ _ _ _ (by omega) | with_reducible refine Kept.row' ?_ _ _ (by omega) | with_reducible refine Kept.map' ?_ _ _ (by omega))), rfl, rfl⟩
        · obtain e47 := hg
          (try simp only [e47])
          go_wp2_with fail
          refine (number_any _ _ _).mono ?_
          rintro e w9 ⟨rfl, hk9⟩
          go_wp2_with fail
          exact ⟨hk9, rfl, rfl⟩
        · obtain ⟨e44, e46, e48⟩ := hg
          (try simp only [e44, e46, e48])
          go_wp2_with fail
          refine (two_any [] _ q (numX x 1) (numX y 1) 1 1 no_q (num_k _ _ _ _ ⟨by omega, by omega⟩) (num_k _ _ _ _ ⟨by omega, by omega⟩)).mono ?_
          rintro e w9 ⟨x, rfl, hp, hi, hk9⟩
          go_wp2_with fail
          exact ⟨hk9, rfl, x, rfl, hp, hi⟩
        · obtain ⟨e43, ⟨x49, e49, ⟨B49, rfl⟩, i49⟩⟩ := hg
          (try simp only [e43])
          go_wp2_with fail
          refine (value_val _ A B C a b _ 2 (HT.out _ (by repeat (first | with_reducible exact HK.out | with_reducible exact Kept.refl _ _ | with_reducible refine Kept.prev ?_ | with_reducible refine Kept.alloc' ?_ _ | with_reducible refine Kept.drew' ?_ | with_reducible refine Kept.setB ?_ _ _ _ (by omega) | with_reducible refine Kept.row' ?_ _ _ (by omega) | with_reducible refine Kept.map' ?_ _ _ (by omega)))) i49.in 0 71 (HV.out B49)).mono ?_
          rintro e w9 ⟨rfl, hk9⟩
          go_wp2_with fail
          exact ⟨hk9, rfl, rfl⟩
        · obtain e50 := hg
          (try simp only [e50])
          go_wp2_with fail
          exact ⟨(by repeat (first | with_reducible exact HK.out | with_reducible exact Kept.refl _ _ | with_reducible refine Kept.prev ?_ | with_reducible refine Kept.alloc' ?_ _ | with_reducible refine Kept.drew' ?_ | with_reducible refine Kept.setB ?_ _ _ _ (by omega) | with_reducible refine Kept.row' ?_ _ _ (by omega) | with_reducible refine Kept.map' ?_ _ _ (by omega))), rfl, rfl⟩
        · obtain e42 := hg
          (try simp only [e42])
          go_wp2_with fail
          exact ⟨(by repeat (first | with_reducible exact HK.out | with_reducible exact Kept.refl _ _ | with_reducible refine Kept.prev ?_ | with_reducible refine Kept.alloc' ?_ _ | with_reducible refine Kept.drew' ?_ | with_reducible refine Kept.setB ?_ _ _ _ (by omega) | with_reducible refine Kept.row' ?_ _ _ (by omega) | with_reducible refine Kept.map' ?_ _ _ (by omega))), rfl, rfl⟩
        · obtain e42 := hg
          (try simp only [e42])
          go_wp2_with fail
          exact ⟨(by repeat (first | with_reducible exact HK.out | with_reducible exact Kept.refl _ _ | with_reducible refine Kept.prev ?_ | with_reducible refine Kept.alloc' ?_ _ | with_reducible refine Kept.drew' ?_ | with_reducible refine Kept.setB ?_ _ _ _ (by omega) | with_reducible refine Kept.row' ?_ _ _ (by omega) | with_reducible refine Kept.map' ?_ _ _ (by omega))), rfl, rfl⟩
        · obtain e51 := hg
          (try simp only [e51])
          go_wp2_with fail
          exact ⟨(by repeat (first | with_reducible exact HK.out | with_reducible exact Kept.refl _ _ | with_reducible refine Kept.prev ?_ | with_reducible refine Kept.alloc' ?_ _ | with_reducible refine Kept.drew' ?_ | with_reducible refine Kept.setB ?_ _ _ _ (by omega) | with_reducible refine Kept.row' ?_ _ _ (by omega) | with_reducible refine Kept.map' ?_ _ _ (by omega))), rfl, rfl⟩
        · obtain e52 := hg
          (try simp only [e52])
          go_wp2_with fail
          exact ⟨(by repeat (first | with_reducible exact HK.out | with_reducible exact Kept.refl _ _ | with_reducible refine Kept.prev ?_ | with_reducible refine Kept.alloc' ?_ _ | with_reducible refine Kept.drew' ?_ | with_reducible refine Kept.setB ?_ _ _ _ (by omega) | with_reducible refine Kept.row' ?_ _ _ (by omega) | with_reducible refine Kept.map' ?_ _ _ (by omega))), rfl, rfl⟩
        obtain ⟨-, -, -, -, -, -, -, -, -, -, -, e10, e11⟩ := hg
        refine wpList_nil ?_
        simp only [e10, e11]
        clear e10 e11
        rcases c1 with c1 | c1
        · have c2 : decide (-2147483648 ≤ c) = false := by simp; omega
          go_wp2_with fail
          go_roundw
          case rel => exact ⟨_, cnt1, HRG.out.kept (Kept.toGrown (show Kept [] w6 _ from (by repeat (first | with_reducible exact HK.out | with_reducible exact Kept.refl _ _ | with_reducible refine Kept.prev ?_ | with_reducible refine Kept.alloc' ?_ _ | with_reducible refine Kept.drew' ?_ | with_reducible refine Kept.setB ?_ _ _ _ (by omega) | with_reducible refine Kept.row' ?_ _ _ (by omega) | with_reducible refine Kept.map' ?_ _ _ (by omega))))) (by simp) (by simp), fun z hz => HDD.out z (by simp only [Bool.and_eq_true] at hz; exact hz.1), (by repeat (first | with_reducible exact HK.out | with_reducible exact Kept.refl _ _ | with_reducible refine Kept.prev ?_ | with_reducible refine Kept.alloc' ?_ _ | with_reducible refine Kept.drew' ?_ | with_reducible refine Kept.setB ?_ _ _ _ (by omega) | with_reducible refine Kept.row' ?_ _ _ (by omega) | with_reducible refine Kept.map' ?_ _ _ (by omega)))⟩
          case measure => rw [(HRG.out.kept (Kept.toGrown (show Kept [] w6 w7 from (by repeat (first | with_reducible exact HK.out | with_reducible exact Kept.refl _ _ | with_reducible refine Kept.prev ?_ | with_reducible refine Kept.alloc' ?_ _ | with_reducible refine Kept.drew' ?_ | with_reducible refine Kept.setB ?_ _ _ _ (by omega) | with_reducible refine Kept.row' ?_ _ _ (by omega) | with_reducible refine Kept.map' ?_ _ _ (by omega))))) (by simp) (by simp)).left_eq, HLE.out]; exact hlt
        · have c2 : decide (c ≤ 2147483647) = false := by simp; omega
          have c3 : -2147483648 ≤ c := by omega
          go_wp2_with fail
          go_roundw
          case rel => exact ⟨_, cnt1, HRG.out.kept (Kept.toGrown (show Kept [] w6 _ from (by repeat (first | with_reducible exact HK.out | with_reducible exact Kept.refl _ _ | with_reducible refine Kept.prev ?_ | with_reducible refine Kept.alloc' ?_ _ | with_reducible refine Kept.drew' ?_ | with_reducible refine Kept.setB ?_ _ _ _ (by omega) | with_reducible refine Kept.row' ?_ _ _ (by omega) | with_reducible refine Kept.map' ?_ _ _ (by omega))))) (by simp) (by simp), fun z hz => HDD.out z (by simp only [Bool.and_eq_true] at hz; exact hz.1), (by repeat (first | with_reducible exact HK.out | with_reducible exact Kept.refl _ _ | with_reducible refine Kept.prev ?_ | with_reducible refine Kept.alloc' ?_ _ | with_reducible refine Kept.drew' ?_ | with_reducible refine Kept.setB ?_ _ _ _ (by omega) | with_reducible refine Kept.row' ?_ _ _ (by omega) | with_reducible refine Kept.map' ?_ _ _ (by omega)))⟩
          case measure => rw [(HRG.out.kept (Kept.toGrown (show Kept [] w6 w7 from (by repeat (first | with_reducible exact HK.out | with_reducible exact Kept.refl _ _ | with_reducible refine Kept.prev ?_ | with_reducible refine Kept.alloc' ?_ _ | with_reducible refine Kept.drew' ?_ | with_reducible refine Kept.setB ?_ _ _ _ (by omega) | with_reducible refine Kept.row' ?_ _ _ (by omega) | with_reducible refine Kept.map' ?_ _ _ (by omega))))) (by simp) (by simp)).left_eq, HLE.out]; exact hlt
      · have HV : Hid (∀ B, valueP (someT a b) 2 (twoX B q (numX x 1) (numX y 1) 1) = (c, 0)) := fun B => (HV0.out B).trans (if_neg c1)
        have c2 : -2147483648 ≤ c := by omega
        have c3 : c ≤ 2147483647 := by omega
        clear HV0 c1
        go_upto_region 6 with fail
        refine wp_region_each [⟨43, [], .eq (.agg ((someV A B C).cells (someT a b)))⟩, ⟨44, [], .eq (.int .u8 q)⟩, ⟨45, [], .eq (.int .i64 x)⟩, ⟨46, [45], .eq (.agg (numX x 1).cells.toArray)⟩, ⟨47, [], .eq (.int .i64 y)⟩, ⟨48, [47], .eq (.agg (numX y 1).cells.toArray)⟩, ⟨49, [44, 46, 48], .ex [] 2 (fun z => ∃ B, z = twoX B q (numX x 1) (numX y 1) 1)⟩, ⟨50, [43, 49], .eq (.tuple #[.int .i64 c, .int .i64 0])⟩, ⟨42, [50], .eq (.tuple #[.int .i64 c, .int .i64 0])⟩, ⟨51, [42], .eq (.int .i64 c)⟩, ⟨52, [42], .eq (.int .i64 0)⟩, ⟨10, [51], .eq (.int .i64 c)⟩, ⟨11, [52], .eq (.int .i64 0)⟩] (by kernel_rfl) (by kernel_rfl) ?_
        apply Exists.intro
        refine ⟨fun vs => ?_, ?_⟩
        · simp only [List.map_cons, List.map_nil, puts, Act.put, List.setIfInBounds_toArray, List.set_cons_zero, List.set_cons_succ]
          exact rfl
        refine ⟨⟨fun vs w7 hk hg => ?_, fun vs w7 hk hg => ?_, fun vs w7 hk hg => ?_, fun vs w7 hk hg => ?_, fun vs w7 hk hg => ?_, fun vs w7 hk hg => ?_, fun vs w7 hk hg => ?_, fun vs w7 hk hg => ?_, fun vs w7 hk hg => ?_, fun vs w7 hk hg => ?_, fun vs w7 hk hg => ?_, fun vs w7 hk hg => ?_, fun vs w7 hk hg => ?_, trivial⟩, fun vs w7 hk hg => ?_⟩
        all_goals
          haveI p_w7 : PrevWorld w7 _ := ⟨hk⟩
          have hz_w7 := hk.size
          clear hk
          (try simp only [given, allGiven, look, SP.eq_p, SP.ex_p, SP.exs_p, SP.asl_p, Nat.reduceEqDiff, reduceIte, and_true] at hg)
          skip
        · clear hg
          go_wp2_with fail
          exact ⟨(by repeat (first | with_reducible exact HK.out | with_reducible exact Kept.refl _ _ | with_reducible refine Kept.prev ?_ | with_reducible refine Kept.alloc' ?_ _ | with_reducible refine Kept.drew' ?_ | with_reducible refine Kept.setB ?_ _ _ _ (by omega) | with_reducible refine Kept.row' ?_ _ _ (by omega) | with_reducible refine Kept.map' ?_ _ _ (by omega))), rfl, rfl⟩
        · clear hg
          go_wp2_with fail
          exact ⟨(by repeat (first | with_reducible exact HK.out | with_reducible exact Kept.refl _ _ | with_reducible refine Kept.prev ?_ | with_reducible refine Kept.alloc' ?_ _ | with_reducible refine Kept.drew' ?_ | with_reducible refine Kept.setB ?_ _ _ _ (by omega) | with_reducible refine Kept.row' ?_ _ _ (by omega) | with_reducible refine Kept.map' ?_ _ _ (by omega))), rfl, rfl⟩
        · clear hg
          go_wp2_with fail
          exact ⟨(by repeat (first | with_reducible exact HK.out | with_reducible exact Kept.refl _ _ | with_reducible refine Kept.prev ?_ | with_reducible refine Kept.alloc' ?_ _ | with_reducible refine Kept.drew' ?_ | with_reducible refine Kept.setB ?_ _ _ _ (by omega) | with_reducible refine Kept.row' ?_ _ _ (by omega) | with_reducible refine Kept.map' ?_ _ _ (by omega))), rfl, rfl⟩
        · obtain e45 := hg
          (try simp only [e45])
          go_wp2_with fail
          refine (number_any _ _ _).mono ?_
          rintro e w9 ⟨rfl, hk9⟩
          go_wp2_with fail
          exact ⟨hk9, rfl, rfl⟩
        · clear hg
          go_wp2_with fail
          exact ⟨(by repeat (first | with_reducible exact HK.out | with_reducible exact Kept.refl _ _ | with_reducible refine Kept.prev ?_ | with_reducible refine Kept.alloc' ?_ _ | with_reducible refine Kept.drew' ?_ | with_reducible refine Kept.setB ?_ _ _ _ (by omega) | with_reducible refine Kept.row' ?_ _ _ (by omega) | with_reducible refine Kept.map' ?_ _ _ (by omega))), rfl, rfl⟩
        · obtain e47 := hg
          (try simp only [e47])
          go_wp2_with fail
          refine (number_any _ _ _).mono ?_
          rintro e w9 ⟨rfl, hk9⟩
          go_wp2_with fail
          exact ⟨hk9, rfl, rfl⟩
        · obtain ⟨e44, e46, e48⟩ := hg
          (try simp only [e44, e46, e48])
          go_wp2_with fail
          refine (two_any [] _ q (numX x 1) (numX y 1) 1 1 no_q (num_k _ _ _ _ ⟨by omega, by omega⟩) (num_k _ _ _ _ ⟨by omega, by omega⟩)).mono ?_
          rintro e w9 ⟨x, rfl, hp, hi, hk9⟩
          go_wp2_with fail
          exact ⟨hk9, rfl, x, rfl, hp, hi⟩
        · obtain ⟨e43, ⟨x49, e49, ⟨B49, rfl⟩, i49⟩⟩ := hg
          (try simp only [e43])
          go_wp2_with fail
          refine (value_val _ A B C a b _ 2 (HT.out _ (by repeat (first | with_reducible exact HK.out | with_reducible exact Kept.refl _ _ | with_reducible refine Kept.prev ?_ | with_reducible refine Kept.alloc' ?_ _ | with_reducible refine Kept.drew' ?_ | with_reducible refine Kept.setB ?_ _ _ _ (by omega) | with_reducible refine Kept.row' ?_ _ _ (by omega) | with_reducible refine Kept.map' ?_ _ _ (by omega)))) i49.in c 0 (HV.out B49)).mono ?_
          rintro e w9 ⟨rfl, hk9⟩
          go_wp2_with fail
          exact ⟨hk9, rfl, rfl⟩
        · obtain e50 := hg
          (try simp only [e50])
          go_wp2_with fail
          exact ⟨(by repeat (first | with_reducible exact HK.out | with_reducible exact Kept.refl _ _ | with_reducible refine Kept.prev ?_ | with_reducible refine Kept.alloc' ?_ _ | with_reducible refine Kept.drew' ?_ | with_reducible refine Kept.setB ?_ _ _ _ (by omega) | with_reducible refine Kept.row' ?_ _ _ (by omega) | with_reducible refine Kept.map' ?_ _ _ (by omega))), rfl, rfl⟩
        · obtain e42 := hg
          (try simp only [e42])
          go_wp2_with fail
          exact ⟨(by repeat (first | with_reducible exact HK.out | with_reducible exact Kept.refl _ _ | with_reducible refine Kept.prev ?_ | with_reducible refine Kept.alloc' ?_ _ | with_reducible refine Kept.drew' ?_ | with_reducible refine Kept.setB ?_ _ _ _ (by omega) | with_reducible refine Kept.row' ?_ _ _ (by omega) | with_reducible refine Kept.map' ?_ _ _ (by omega))), rfl, rfl⟩
        · obtain e42 := hg
          (try simp only [e42])
          go_wp2_with fail
          exact ⟨(by repeat (first | with_reducible exact HK.out | with_reducible exact Kept.refl _ _ | with_reducible refine Kept.prev ?_ | with_reducible refine Kept.alloc' ?_ _ | with_reducible refine Kept.drew' ?_ | with_reducible refine Kept.setB ?_ _ _ _ (by omega) | with_reducible refine Kept.row' ?_ _ _ (by omega) | with_reducible refine Kept.map' ?_ _ _ (by omega))), rfl, rfl⟩
        · obtain e51 := hg
          (try simp only [e51])
          go_wp2_with fail
          exact ⟨(by repeat (first | with_reducible exact HK.out | with_reducible exact Kept.refl _ _ | with_reducible refine Kept.prev ?_ | with_reducible refine Kept.alloc' ?_ _ | with_reducible refine Kept.drew' ?_ | with_reducible refine Kept.setB ?_ _ _ _ (by omega) | with_reducible refine Kept.row' ?_ _ _ (by omega) | with_reducible refine Kept.map' ?_ _ _ (by omega))), rfl, rfl⟩
        · obtain e52 := hg
          (try simp only [e52])
          go_wp2_with fail
          exact ⟨(by repeat (first | with_reducible exact HK.out | with_reducible exact Kept.refl _ _ | with_reducible refine Kept.prev ?_ | with_reducible refine Kept.alloc' ?_ _ | with_reducible refine Kept.drew' ?_ | with_reducible refine Kept.setB ?_ _ _ _ (by omega) | with_reducible refine Kept.row' ?_ _ _ (by omega) | with_reducible refine Kept.map' ?_ _ _ (by omega))), rfl, rfl⟩
        obtain ⟨-, -, -, -, -, -, -, -, -, -, -, e10, e11⟩ := hg
        refine wpList_nil ?_
        simp only [e10, e11]
        clear e10 e11
        go_wp2_with fail
        go_roundw
        case rel => exact ⟨_, cnt1, HRG.out.kept (Kept.toGrown (show Kept [] w6 _ from (by repeat (first | with_reducible exact HK.out | with_reducible exact Kept.refl _ _ | with_reducible refine Kept.prev ?_ | with_reducible refine Kept.alloc' ?_ _ | with_reducible refine Kept.drew' ?_ | with_reducible refine Kept.setB ?_ _ _ _ (by omega) | with_reducible refine Kept.row' ?_ _ _ (by omega) | with_reducible refine Kept.map' ?_ _ _ (by omega))))) (by simp) (by simp), fun z hz => HDD.out z (by simp only [Bool.and_eq_true] at hz; exact hz.1), (by repeat (first | with_reducible exact HK.out | with_reducible exact Kept.refl _ _ | with_reducible refine Kept.prev ?_ | with_reducible refine Kept.alloc' ?_ _ | with_reducible refine Kept.drew' ?_ | with_reducible refine Kept.setB ?_ _ _ _ (by omega) | with_reducible refine Kept.row' ?_ _ _ (by omega) | with_reducible refine Kept.map' ?_ _ _ (by omega)))⟩
        case measure => rw [(HRG.out.kept (Kept.toGrown (show Kept [] w6 w7 from (by repeat (first | with_reducible exact HK.out | with_reducible exact Kept.refl _ _ | with_reducible refine Kept.prev ?_ | with_reducible refine Kept.alloc' ?_ _ | with_reducible refine Kept.drew' ?_ | with_reducible refine Kept.setB ?_ _ _ _ (by omega) | with_reducible refine Kept.row' ?_ _ _ (by omega) | with_reducible refine Kept.map' ?_ _ _ (by omega))))) (by simp) (by simp)).left_eq, HLE.out]; exact hlt
end Go.Proofs.Ytgdjhhfbpalkdaa
