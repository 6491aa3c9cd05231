/- Whether an expression has a value in the table of the examples. A choice of one expression. The library sort laid at this program: its numbers, and that its bodies are the ones that the contract was proved of. Sorting a row of bounds. -/
import Derived.Test.YtgdjhhfbpalkdaaL2
import Derived.LoopN
import Derived.Shelf.SlGeneric
import Derived.Shelf.SlLaysF0
import Derived.Ground.SlsfProg
import Derived.Test.YtgdjhhfbpalkdaaProg
import Derived.Test.YtgdjhhfbpalkdaaC1
import Derived.Shelf.SlSortCmp.WholeK
import Derived.Shelf.SlSortCmp.NoneTotal
namespace Go.Proofs.Ytgdjhhfbpalkdaa
open Go.RowKit
def SP.tab : SP := ⟨fun v w => ∃ A B C a b, v = .agg ((someV A B C).cells (someT a b)) ∧ TabIn w (someV A B C) (someT a b), fun _ _ _ ⟨A, B, C, a, b, h1, h2⟩ hk => ⟨A, B, C, a, b, h1, h2.kept hk⟩⟩
theorem SP.tab_p (v : Value) (w : World) : SP.tab.p v w = ∃ A B C a b, v = .agg ((someV A B C).cells (someT a b)) ∧ TabIn w (someV A B C) (someT a b) := rfl
set_option maxRecDepth 100000 in
set_option maxHeartbeats 1000000 in
theorem gives_any (w : World) (x : ExV) (n : Nat) (u e want wrong : Int) (hx : ExIn w n x) (hr : ∀ a b, valueP (someT a b) n x = (u, e)) :
    Calls Try.prog 18 #[.agg x.cells.toArray, .int .i64 want, .int .i64 wrong] w (RetV (.bool (u == want && e == wrong)) w) := by
  have HX := Lib.hid (fun w' (hk : Kept [] w w') => hx.kept hk)
  have HR := Lib.hid hr
  clear hx hr
  go_enter Try.func18, Try.ntmps18
  go_wp2_with fail
  refine wp_region_each [⟨10, [], .tab⟩, ⟨11, [], .eq (.agg x.cells.toArray)⟩, ⟨12, [10, 11], .eq (.tuple #[.int .i64 u, .int .i64 e])⟩, ⟨9, [12], .eq (.tuple #[.int .i64 u, .int .i64 e])⟩, ⟨13, [9], .eq (.int .i64 u)⟩, ⟨14, [9], .eq (.int .i64 e)⟩, ⟨7, [13], .eq (.int .i64 u)⟩, ⟨8, [14], .eq (.int .i64 e)⟩] (by kernel_rfl) (by kernel_rfl) ?_
  apply Exists.intro
  refine ⟨fun vs => ?_, ?_⟩
  · simp only [List.map_cons, List.map_nil, puts, Act.put, List.setIfInBounds_toArray, List.set_cons_zero, List.set_cons_succ]
    exact rfl
  refine ⟨⟨fun vs w3 hk hg => ?_, fun vs w3 hk hg => ?_, fun vs w3 hk hg => ?_, fun vs w3 hk hg => ?_, fun vs w3 hk hg => ?_, fun vs w3 hk hg => ?_, fun vs w3 hk hg => ?_, fun vs w3 hk hg => ?_, trivial⟩, fun vs w3 hk hg => ?_⟩
  all_goals
    haveI p_w3 : PrevWorld w3 _ := ⟨hk⟩
    clear hk
  · go_wp2_with fail
    refine (some_any _).mono ?_
    rintro e w4 ⟨A, B, C, a, b, rfl, hT, hk4⟩
    go_wp2_with fail
    exact ⟨hk4, rfl, A, B, C, a, b, rfl, hT⟩
  · go_wp2_with fail
    exact ⟨(by repeat (first | with_reducible exact HK.out | with_reducible exact Kept.refl _ _ | with_reducible refine Kept.prev ?_ | with_reducible refine Kept.alloc' ?_ _ | with_reducible refine Kept.drew' ?_ | with_reducible refine Kept.setB ?_ _ _ _ (by omega) | with_reducible refine Kept.row' ?_ _ _ (by omega) | with_reducible refine Kept.map' ?_ _ _ (by omega))), rfl, rfl⟩
  · simp only [given, allGiven, look, SP.eq_p, SP.ex_p, SP.exs_p, SP.asl_p, Nat.reduceEqDiff, reduceIte, if_true, if_false, and_true] at hg
    simp only [SP.tab_p] at hg
    obtain ⟨⟨A, B, C, a, b, e10, hT⟩, e11⟩ := hg
    have HT := Lib.hid hT
    clear hT
    go_wp2_with fail
    refine (Value_any _ (someV A B C) (someT a b) x n HT.out (HX.out _ (by repeat (first | with_reducible exact HK.out | with_reducible exact Kept.refl _ _ | with_reducible refine Kept.prev ?_ | with_reducible refine Kept.alloc' ?_ _ | with_reducible refine Kept.drew' ?_ | with_reducible refine Kept.setB ?_ _ _ _ (by omega) | with_reducible refine Kept.row' ?_ _ _ (by omega) | with_reducible refine Kept.map' ?_ _ _ (by omega))))).mono ?_
    rintro e w4 ⟨rfl, hk4⟩
    rw [HR.out]
    go_wp2_with fail
    exact ⟨hk4, rfl, rfl⟩
  · simp only [given, allGiven, look, SP.eq_p, SP.ex_p, SP.exs_p, SP.asl_p, Nat.reduceEqDiff, reduceIte, if_true, if_false, and_true] at hg
    go_wp2_with fail
    exact ⟨(by repeat (first | with_reducible exact HK.out | with_reducible exact Kept.refl _ _ | with_reducible refine Kept.prev ?_ | with_reducible refine Kept.alloc' ?_ _ | with_reducible refine Kept.drew' ?_ | with_reducible refine Kept.setB ?_ _ _ _ (by omega) | with_reducible refine Kept.row' ?_ _ _ (by omega) | with_reducible refine Kept.map' ?_ _ _ (by omega))), rfl, rfl⟩
  · simp only [given, allGiven, look, SP.eq_p, SP.ex_p, SP.exs_p, SP.asl_p, Nat.reduceEqDiff, reduceIte, if_true, if_false, and_true] at hg
    go_wp2_with fail
    exact ⟨(by repeat (first | with_reducible exact HK.out | with_reducible exact Kept.refl _ _ | with_reducible refine Kept.prev ?_ | with_reducible refine Kept.alloc' ?_ _ | with_reducible refine Kept.drew' ?_ | with_reducible refine Kept.setB ?_ _ _ _ (by omega) | with_reducible refine Kept.row' ?_ _ _ (by omega) | with_reducible refine Kept.map' ?_ _ _ (by omega))), rfl, rfl⟩
  · simp only [given, allGiven, look, SP.eq_p, SP.ex_p, SP.exs_p, SP.asl_p, Nat.reduceEqDiff, reduceIte, if_true, if_false, and_true] at hg
    go_wp2_with fail
    exact ⟨(by repeat (first | with_reducible exact HK.out | with_reducible exact Kept.refl _ _ | with_reducible refine Kept.prev ?_ | with_reducible refine Kept.alloc' ?_ _ | with_reducible refine Kept.drew' ?_ | with_reducible refine Kept.setB ?_ _ _ _ (by omega) | with_reducible refine Kept.row' ?_ _ _ (by omega) | with_reducible refine Kept.map' ?_ _ _ (by omega))), rfl, rfl⟩
  · simp only [given, allGiven, look, SP.eq_p, SP.ex_p, SP.exs_p, SP.asl_p, Nat.reduceEqDiff, reduceIte, if_true, if_false, and_true] at hg
    go_wp2_with fail
    exact ⟨(by repeat (first | with_reducible exact HK.out | with_reducible exact Kept.refl _ _ | with_reducible refine Kept.prev ?_ | with_reducible refine Kept.alloc' ?_ _ | with_reducible refine Kept.drew' ?_ | with_reducible refine Kept.setB ?_ _ _ _ (by omega) | with_reducible refine Kept.row' ?_ _ _ (by omega) | with_reducible refine Kept.map' ?_ _ _ (by omega))), rfl, rfl⟩
  · simp only [given, allGiven, look, SP.eq_p, SP.ex_p, SP.exs_p, SP.asl_p, Nat.reduceEqDiff, reduceIte, if_true, if_false, and_true] at hg
    go_wp2_with fail
    exact ⟨(by repeat (first | with_reducible exact HK.out | with_reducible exact Kept.refl _ _ | with_reducible refine Kept.prev ?_ | with_reducible refine Kept.alloc' ?_ _ | with_reducible refine Kept.drew' ?_ | with_reducible refine Kept.setB ?_ _ _ _ (by omega) | with_reducible refine Kept.row' ?_ _ _ (by omega) | with_reducible refine Kept.map' ?_ _ _ (by omega))), rfl, rfl⟩
  · simp only [given, allGiven, look, SP.eq_p, SP.ex_p, SP.exs_p, SP.asl_p, Nat.reduceEqDiff, reduceIte, if_true, if_false, and_true] at hg
    simp only [SP.tab_p] at hg
    obtain ⟨-, -, -, -, e13, e14, e7, e8⟩ := hg
    clear HX HR
    refine wpList_nil ?_
    cases h1 : (u == want)
    · go_wp2_with fail
      rw [h1]
      exact bodyPost_v rfl (res1 Try.results18 (resT rfl)) (by repeat (first | with_reducible exact HK.out | with_reducible exact Kept.refl _ _ | with_reducible refine Kept.prev ?_ | with_reducible refine Kept.alloc' ?_ _ | with_reducible refine Kept.drew' ?_ | with_reducible refine Kept.setB ?_ _ _ _ (by omega) | with_reducible refine Kept.row' ?_ _ _ (by omega) | with_reducible refine Kept.map' ?_ _ _ (by omega)))
    · go_wp2_with fail
      rw [h1]
      exact bodyPost_v rfl (res1 Try.results18 (resT rfl)) (by repeat (first | with_reducible exact HK.out | with_reducible exact Kept.refl _ _ | with_reducible refine Kept.prev ?_ | with_reducible refine Kept.alloc' ?_ _ | with_reducible refine Kept.drew' ?_ | with_reducible refine Kept.setB ?_ _ _ _ (by omega) | with_reducible refine Kept.row' ?_ _ _ (by omega) | with_reducible refine Kept.map' ?_ _ _ (by omega)))
theorem gives_true (w : World) (x : ExV) (n : Nat) (want wrong : Int) (hx : ExIn w n x) (hr : ∀ a b, valueP (someT a b) n x = (want, wrong)) :
    Calls Try.prog 18 #[.agg x.cells.toArray, .int .i64 want, .int .i64 wrong] w (RetV (.bool true) w) := by
  have := gives_any w x n want wrong want wrong hx hr
  simpa using this
end Go.Proofs.Ytgdjhhfbpalkdaa
namespace Go.Proofs.Ytgdjhhfbpalkdaa
open Go.RowKit
/-- A list of one choice of one expression. -/
def RetC1 (x : ExV) (d : Nat) (w : World) (e : Ending) (w' : World) : Prop :=
  ∃ (a : Option Addr) (c : Nat) (la : Option Addr) (lc : Nat), e = .returned (.slice a 1 c) ∧ RowsAt ChV 2 ChV.cells w' a [⟨1, la, lc, [x]⟩] ∧ ChIn w' d ⟨1, la, lc, [x]⟩ ∧ Kept [] w w'
theorem Try.infoChM : (Try.prog.info? 67).map (fun i => (i.zero, i.size, i.bytes)) = some (some (.agg #[.int .u8 0, .slice none 0 0]), 2, 32) := by kernel_rfl
theorem Try.ch_parts : ∃ i, Try.prog.info? 67 = some i ∧ i.zero = some (.agg #[.int .u8 0, .slice none 0 0]) ∧ i.size = 2 ∧ i.bytes = 32 := by
  have h := Try.infoChM
  cases hi : Try.prog.info? 67 with
  | none => simp [hi] at h
  | some i => simp [hi] at h; exact ⟨i, rfl, h⟩
set_option maxRecDepth 100000 in
set_option maxHeartbeats 1000000 in
theorem choose_any (w : World) (C c : Nat) (x : ExV) (d : Nat) [hat : ExAt w C 0 x] (hx : ExIn w d x) : Calls Try.prog 23 #[.slice (some ⟨C, 0, none⟩) 1 c] w (RetC1 x d w) := by
  have HX := Lib.hid (fun w' (hk : Kept [] w w') => hx.kept hk)
  clear hx
  obtain ⟨ib, ib0, ib1, ib2, ib3⟩ := Try.ch_parts
  go_enter Try.func23, Try.ntmps23
  go_wp2_with fail
  refine wp_loop_rounds 2 ?_
  rw [rounds_succ]
  have hA : 0 + 1 ≤ maxLen := by unfold maxLen; omega
  have hB : (0 + 1) * 32 ≤ 140737488355328 := by omega
  have hC : w.heap.size ≤ (((w.alloc (.cells x.cells.toArray 34)).alloc (.cells x.cells.toArray 34)).alloc (.cells #[.int .u8 1, .slice (some ⟨w.heap.size + 1, 0, none⟩) 1 1] 67)).heap.size := by simp; omega
  go_wp2_with (at_builtin; refine wpList_append_own _ rfl _ _ 49 rfl w.heap.size 67 ib (.agg #[.int .u8 0, .slice none 0 0]) 2 32 Try.underlying49 ib0 ib1 ib2 ib3 rfl (by decide) (.slice none 0 0) 0 [] rfl (World.ownsRow_nil _ _ _ _) ⟨w.heap.size + 1 + 1, 0, none⟩ 1 1 [.int .u8 1, .slice (some ⟨w.heap.size + 1, 0, none⟩) 1 1] rfl rfl (World.news_of_block (cs := #[.int .u8 1, .slice (some ⟨w.heap.size + 1, 0, none⟩) 1 1]) (t := 67) (fr := (0, 0)) (obj_new (by simp))) (by simp [Value.oneCell']) hA hB hC ?_; intro v' w4 ho4 hg4 _; have HO4 := Lib.hid ho4; have HG4 := Lib.hid hg4; clear ho4 hg4)
  have HK4 : Hid (Kept [] (((w.alloc (.cells x.cells.toArray 34)).alloc (.cells x.cells.toArray 34)).alloc (.cells #[.int .u8 1, .slice (some ⟨w.heap.size + 1, 0, none⟩) 1 1] 67)) w4) := (Kept.refl _ _).grown HG4.out (fun q hq => by simp [Value.ownBlock] at hq)
  rw [rounds_succ]
  go_wp2_with fail
  obtain ⟨A, c', e', h1, h2, h3, hrows⟩ := rows_own (α := ChV) (m := 2) (cells := ChV.cells) (l := [⟨1, some ⟨w.heap.size + 1, 0, none⟩, 1, [x]⟩]) HO4.out (fun _ => rfl) rfl
  refine bodyPost_ret (res1 Try.results23 (resT rfl)) rfl ?_
  haveI p_w4 : PrevWorld w4 _ := ⟨HK4.out⟩
  refine ⟨A, c', some ⟨w.heap.size + 1, 0, none⟩, 1, congrArg Ending.returned e', hrows, ⟨rows_ex (box_at w4 (w.heap.size + 1)), all_one (HX.out _ (by repeat (first | with_reducible exact HK.out | with_reducible exact Kept.refl _ _ | with_reducible refine Kept.prev ?_ | with_reducible refine Kept.alloc' ?_ _ | with_reducible refine Kept.drew' ?_ | with_reducible refine Kept.setB ?_ _ _ _ (by omega) | with_reducible refine Kept.row' ?_ _ _ (by omega) | with_reducible refine Kept.map' ?_ _ _ (by omega)))), by simp⟩, (by repeat (first | with_reducible exact HK.out | with_reducible exact Kept.refl _ _ | with_reducible refine Kept.prev ?_ | with_reducible refine Kept.alloc' ?_ _ | with_reducible refine Kept.drew' ?_ | with_reducible refine Kept.setB ?_ _ _ _ (by omega) | with_reducible refine Kept.row' ?_ _ _ (by omega) | with_reducible refine Kept.map' ?_ _ _ (by omega)))⟩
end Go.Proofs.Ytgdjhhfbpalkdaa
namespace Go.Proofs.Ytgdjhhfbpalkdaa
open Go.Shelf
def Try.laysSort_ren : Go.Shelf.Ren := ⟨fun | 6 => 30 | 15 => 46 | 14 => 45 | 28 => 70 | 29 => 71 | 20 => 62 | 21 => 63 | 22 => 64 | 23 => 65 | 24 => 66 | 25 => 67 | 26 => 68 | 27 => 69 | 46 => 91 | 47 => 92 | 48 => 93 | 49 => 94 | 50 => 95 | 57 => 98 | n => n, fun | 22 => 51 | 24 => 55 | 25 => 93 | 3 => 3 | 39 => 110 | 0 => 0 | 53 => 139 | 55 => 115 | 4 => 4 | 46 => 132 | 45 => 131 | 50 => 136 | 5 => 5 | 9 => 9 | 66 => 150 | 70 => 154 | 76 => 160 | 77 => 161 | n => n, fun | n => n⟩
theorem Try.laysSort : Go.Proofs.SlLaysF0.n6 Try.prog Try.laysSort_ren := {
  mixed := by kernel_rfl
  f6 := ⟨Try.f30.name, by decide, Try.func30.trans (congrArg some (by kernel_rfl))⟩
  f14 := ⟨Try.f45.name, by decide, Try.func45.trans (congrArg some (by kernel_rfl))⟩
  f15 := Try.func46.trans (congrArg some (by kernel_rfl))
  f20 := ⟨Try.f62.name, by decide, Try.func62.trans (congrArg some (by kernel_rfl))⟩
  f21 := ⟨Try.f63.name, by decide, Try.func63.trans (congrArg some (by kernel_rfl))⟩
  f22 := ⟨Try.f64.name, by decide, Try.func64.trans (congrArg some (by kernel_rfl))⟩
  f23 := ⟨Try.f65.name, by decide, Try.func65.trans (congrArg some (by kernel_rfl))⟩
  f24 := ⟨Try.f66.name, by decide, Try.func66.trans (congrArg some (by kernel_rfl))⟩
  f25 := ⟨Try.f67.name, by decide, Try.func67.trans (congrArg some (by kernel_rfl))⟩
  f26 := ⟨Try.f68.name, by decide, Try.func68.trans (congrArg some (by kernel_rfl))⟩
  f27 := ⟨Try.f69.name, by decide, Try.func69.trans (congrArg some (by kernel_rfl))⟩
  f28 := Try.func70.trans (congrArg some (by kernel_rfl))
  f29 := Try.func71.trans (congrArg some (by kernel_rfl))
  f46 := ⟨Try.f91.name, by decide, Try.func91.trans (congrArg some (by kernel_rfl))⟩
  f47 := Try.func92.trans (congrArg some (by kernel_rfl))
  f48 := Try.func93.trans (congrArg some (by kernel_rfl))
  f49 := ⟨Try.f94.name, by decide, Try.func94.trans (congrArg some (by kernel_rfl))⟩
  f50 := ⟨Try.f95.name, by decide, Try.func95.trans (congrArg some (by kernel_rfl))⟩
  f57 := ⟨Try.f98.name, by decide, Try.func98.trans (congrArg some (by kernel_rfl))⟩
  t0 := Try.underlying0
  a0 := Try.isAgg0
  z0 := Try.sizeOf0
  v0 := Try.zeroValue0
  t3 := Try.underlying3
  a3 := Try.isAgg3
  z3 := Try.sizeOf3
  v3 := Try.zeroValue3
  t4 := Try.underlying4
  a4 := Try.isAgg4
  z4 := Try.sizeOf4
  v4 := Try.zeroValue4
  t5 := Try.underlying5
  a5 := Try.isAgg5
  z5 := Try.sizeOf5
  v5 := Try.zeroValue5
  t9 := Try.underlying9
  a9 := Try.isAgg9
  z9 := Try.sizeOf9
  v9 := Try.zeroValue9
  t22 := Try.underlying51
  a22 := Try.isAgg51
  z22 := Try.sizeOf51
  v22 := Try.zeroValue51
  t25 := Try.underlying93
  a25 := Try.isAgg93
  z25 := Try.sizeOf93
  v25 := Try.zeroValue93
  t39 := Try.underlying110
  a39 := Try.isAgg110
  z39 := Try.sizeOf110
  v39 := Try.zeroValue110
  t45 := Try.underlying131
  a45 := Try.isAgg131
  z45 := Try.sizeOf131
  v45 := Try.zeroValue131
  t46 := Try.underlying132
  a46 := Try.isAgg132
  z46 := Try.sizeOf132
  v46 := Try.zeroValue132
  t50 := Try.underlying136
  a50 := Try.isAgg136
  z50 := Try.sizeOf136
  v50 := Try.zeroValue136
  t53 := Try.underlying139
  a53 := Try.isAgg139
  z53 := Try.sizeOf139
  v53 := Try.zeroValue139
  t55 := Try.underlying115
  a55 := Try.isAgg115
  z55 := Try.sizeOf115
  v55 := Try.zeroValue115
  t66 := Try.underlying150
  a66 := Try.isAgg150
  z66 := Try.sizeOf150
  v66 := Try.zeroValue150
  t70 := Try.underlying154
  a70 := Try.isAgg154
  z70 := Try.sizeOf154
  v70 := Try.zeroValue154
  t76 := Try.underlying160
  a76 := Try.isAgg160
  z76 := Try.sizeOf160
  v76 := Try.zeroValue160
  t77 := Try.underlying161
  a77 := Try.isAgg161
  z77 := Try.sizeOf161
  v77 := Try.zeroValue161 }
end Go.Proofs.Ytgdjhhfbpalkdaa
namespace Go.Proofs.Ytgdjhhfbpalkdaa
open Go.RowKit Go.Sort Go.Lib Go.Shelf
theorem lt_cmp (a b : Bd) : ltOf (fun a b : Bd => cmpP a.1 b.1) a b = decide (a.1 < b.1) := by
  unfold ltOf cmpP
  by_cases c1 : a.1 < b.1
  · simp [c1]
  · by_cases c2 : b.1 < a.1 <;> simp [c1, c2]
theorem swo_bd : SWO (ltOf (fun a b : Bd => cmpP a.1 b.1)) where
  irrefl x := by rw [lt_cmp]; simp
  trans x y z h1 h2 := by
    rw [lt_cmp, decide_eq_true_eq] at *
    omega
  ntrans x y z h1 h2 := by
    rw [lt_cmp, decide_eq_false_iff_not] at *
    omega
theorem bd_one : ∀ (x : Bd), ∀ v ∈ bdC x, v.oneCell' = true := by
  intro x v hv
  simp [bdC] at hv
  rcases hv with rfl | rfl <;> rfl
theorem Try.aggBd (w : World) : (isAgg 55).run Try.prog w = .ok true w := by kernel_rfl
theorem Try.sizeBd (w : World) : (Go.sizeOf 55).run Try.prog w = .ok 2 w := by kernel_rfl
theorem egC : ∀ args w, (callFunc 31 args).run Try.prog w = .ok (.enter 31 args) w := enters_of Try.func31 (by kernel_rfl) rfl
theorem own_cell {w : World} {base n c g : Nat} {l : List Bd} {o : Nat} (h : w.ownsRow base 55 2 (.slice (some ⟨g, o, none⟩) n c) n (bdsC l)) (hl : l.length = n) :
    o = 0 ∧ base ≤ g ∧ g < w.heap.size ∧ ∀ j i (x : Bd), l[j]? = some x → ∀ u, (bdC x)[i]? = some u → w.cell? ⟨g, j * 2 + i, none⟩ = some u ∧ w.frozen? ⟨g, j * 2 + i, none⟩ = false := by
  rcases id h.2 with ⟨e, _⟩ | ⟨g', cap, cur, e, hb, hg, hcap, hmax, hsz, htk⟩
  · cases e
  · cases e
    refine ⟨rfl, hb, (Array.getElem?_eq_some_iff.1 hg).1, fun j i x hx u hu => ⟨?_, frozen_of_row _ _ _ _ _ hg⟩⟩
    have h1 := flat_get (l.map bdC) (m := 2) (fun r hr => by obtain ⟨y, _, rfl⟩ := List.mem_map.1 hr; rfl) j (bdC x) (by rw [List.getElem?_map, hx]; rfl) i u hu
    have := h.cells (g := g) rfl (j * 2 + i) u h1
    rwa [Addr.add_mid, Nat.zero_add] at this
theorem holds_bd {w : World} {g : Nat} {l : List Bd} (h : ∀ j i (x : Bd), l[j]? = some x → ∀ u, (bdC x)[i]? = some u → w.cell? ⟨g, j * 2 + i, none⟩ = some u ∧ w.frozen? ⟨g, j * 2 + i, none⟩ = false) : HoldsK bdC 2 w g 0 l.toArray := by
  intro t ht
  rw [size_flatK, List.size_toArray] at ht
  have ht2 : t / 2 < l.length := by omega
  have hx : l[t / 2]? = some l[t / 2] := List.getElem?_eq_getElem ht2
  have hc : t % 2 < (bdC l[t / 2]).length := by rw [bdC_len]; omega
  have hu : (bdC l[t / 2])[t % 2]? = some ((bdC l[t / 2])[t % 2]) := List.getElem?_eq_getElem hc
  have h1 := h _ _ _ hx _ hu
  have e : t / 2 * 2 + t % 2 = t := by omega
  rw [e] at h1
  rw [Nat.zero_add]
  refine ⟨?_, h1.2⟩
  rw [h1.1, get_flatK _ _ _ _ (by rw [List.size_toArray]; exact ht)]
  have e2 : l.toArray[t / 2]! = l[t / 2] := by
    rw [getElem!_pos l.toArray (t / 2) (by rw [List.size_toArray]; exact ht2)]
    simp
  rw [e2, getElem!_pos (bdC l[t / 2]) (t % 2) hc]
  rfl
theorem rows_holds {w : World} {g : Nat} {d : Array Bd} (h : HoldsK bdC 2 w g 0 d) : RowsAt Bd 2 bdC w (some ⟨g, 0, none⟩) d.toList := by
  refine .inr ⟨g, 0, rfl, fun j r hr i u hu => ?_⟩
  have hj := (List.getElem?_eq_some_iff.1 hr).1
  have hi := (List.getElem?_eq_some_iff.1 hu).1
  have hj' : j < d.size := by simpa using hj
  have h1 := (HoldsK.cell h hj' (show i < 2 from hi)).1
  have e : d[j]! = r := by
    rw [getElem!_pos d j hj']
    have := (List.getElem?_eq_some_iff.1 hr).2
    simpa using this
  rw [e, getElem!_pos (bdC r) i hi] at h1
  rw [h1]
  exact congrArg some (List.getElem?_eq_some_iff.1 hu).2
theorem sort_any : SortAll := by
  intro w A c n base l ho hl hn
  by_cases h0 : n = 0
  · subst h0
    refine (AnyF.slices_SortFunc_none Try.laysSort A c (.func (.func 31) #[] #[]) w).mono ?_
    rintro e w' ⟨rfl, rfl⟩
    obtain rfl : l = [] := List.eq_nil_of_length_eq_zero hl
    exact ⟨rfl, [], List.Perm.refl _, .nil, .inl rfl, fun W hW _ => hW⟩
  · obtain ⟨g, o, rfl⟩ : ∃ g o, A = some ⟨g, o, none⟩ := by
      rcases id ho.2 with ⟨e, h1⟩ | ⟨g', cap, cur, e, _⟩
      · exact absurd h1 h0
      · cases e; exact ⟨_, _, rfl⟩
    obtain ⟨rfl, hb, hg, hc⟩ := own_cell ho hl
    have hH := holds_bd hc
    have hcmp : CmpLays Try.prog 31 #[] bdC 2 (fun a b : Bd => cmpP a.1 b.1) g 0 l.toArray.size w := fun m os dk hdk x y => less_any _ x y
    have hcon := AnyQ.slices_SortFunc Try.laysSort 2 (fun w => Try.aggBd w) (fun w => Try.sizeBd w) bdC bdC_len bd_one (fun a b : Bd => cmpP a.1 b.1) swo_bd 31 #[] g 0 c l.toArray w egC hcmp hH hg (by rw [List.size_toArray]; omega)
    subst hl
    refine (show Calls Try.prog 30 #[.slice (some ⟨g, 0, none⟩) l.length c, .func (.func 31) #[] #[]] w _ from hcon).mono ?_
    rintro e w' ⟨rfl, d, k, os, hp, hs, rfl⟩
    have hsz : d.size = l.length := by rw [hp.1, List.size_toArray]
    have hperm : d.toList.Perm l := by
      have := hp.2.2
      rw [Array.extract_eq_self_of_le (by rw [hsz, List.size_toArray]; exact Nat.le_refl _), Array.extract_eq_self_of_le (Nat.le_refl _)] at this
      exact this
    have hh : HoldsK bdC 2 (sortWorldK bdC 2 w g 0 k d os) g 0 d := by
      unfold sortWorldK
      refine holdsK_grow bdC 2 _ os g 0 d (by show g < (putRow _ _ _ _ _).heap.size; rw [size_putRow]; exact hg) ?_
      exact holdsK_putRowK bdC 2 (Sort.ahead w k) g 0 l.toArray d hH (by rw [hsz, List.size_toArray])
    refine ⟨rfl, d.toList, hperm, ?_, rows_holds hh, fun W hW hbs => ?_⟩
    · rw [List.pairwise_iff_getElem]
      intro i j hi hj hij
      have hi' : i < d.size := by simpa using hi
      have hj' : j < d.size := by simpa using hj
      have h1 := hs i j (Nat.zero_le _) hij (by rw [List.size_toArray, ← hsz]; exact hj')
      rw [lt_cmp, decide_eq_false_iff_not, getElem!_pos d j hj', getElem!_pos d i hi'] at h1
      simp only [Array.getElem_toList]
      omega
    · refine hW.above (X := [g]) ⟨rfl, rfl, rfl, ?_, fun q hq hx => ?_⟩ (fun q hq => by simp at hq; omega)
      · show w.heap.size ≤ (grow (putRow _ _ _ _ _) os).heap.size
        unfold grow
        simp [size_putRow, Sort.ahead]
      · have hne : g ≠ q := fun e => hx (by simp [e])
        unfold sortWorldK
        rw [heap_grow_old _ _ (by show q < (putRow _ _ _ _ _).heap.size; rw [size_putRow]; exact hq)]
        simp [putRowK, putRow, mapBlock, Sort.ahead, Array.getElem?_modify, hne]
end Go.Proofs.Ytgdjhhfbpalkdaa
