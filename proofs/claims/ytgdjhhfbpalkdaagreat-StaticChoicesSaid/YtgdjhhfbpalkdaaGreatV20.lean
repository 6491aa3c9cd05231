/- Whether an expression has a value in the table of the examples. A choice of one expression. The library sort laid at this program: its numbers, and that its bodies are the ones that the contract was proved of. Sorting a row of bounds. -/
import Derived.Test.YtgdjhhfbpalkdaaGreatL2
import Derived.LoopN
import Derived.Shelf.SlGeneric
import Derived.Shelf.SlLaysF0
import Derived.Ground.SlsfProg
import Derived.Test.YtgdjhhfbpalkdaaGreatProg
import Derived.Test.YtgdjhhfbpalkdaaGreatK18
import Derived.Shelf.SlSortCmp.WholeK
import Derived.Shelf.SlSortCmp.NoneTotal
namespace Go.Proofs.YtgdjhhfbpalkdaaGreat
open Go.RowKit
def SP.tab : SP := ⟨fun v w => ∃ A B C a b, v = .agg ((someV A B C).cells (someT a b)) ∧ TabIn w (someV A B C) (someT a b), fun _ _ _ ⟨A, B, C, a, b, h1, h2⟩ hk => ⟨A, B, C, a, b, h1, h2.kept hk⟩⟩
theorem SP.tab_p (v : Value) (w : World) : SP.tab.p v w = ∃ A B C a b, v = .agg ((someV A B C).cells (someT a b)) ∧ TabIn w (someV A B C) (someT a b) := rfl
set_option maxRecDepth 100000 in
set_option maxHeartbeats 1000000 in
theorem gives_any (w : World) (x : ExV) (n : Nat) (u e want wrong : Int) (hx : ExIn w n x) (hr : ∀ a b, valueP (someT a b) n x = (u, e)) :
    Calls Tryz.prog 31 #[.agg x.cells.toArray, .int .i64 want, .int .i64 wrong] w (RetV (.bool (u == want && e == wrong)) w) := by
  have HX := Lib.hid (fun w' (hk : Kept [] w w') => hx.kept hk)
  have HR := Lib.hid hr
  clear hx hr
  go_enter Tryz.func31, Tryz.ntmps31
  go_wp2_with fail
  refine wp_region_each [⟨10, [], .tab⟩, ⟨11, [], .eq (.agg x.cells.toArray)⟩, ⟨12, [10, 11], .eq (.tuple #[.int .i64 u, .int .i64 e])⟩, ⟨9, [12], .eq (.tuple #[.int .i64 u, .int .i64 e])⟩, ⟨13, [9], .eq (.int .i64 u)⟩, ⟨14, [9], .eq (.int .i64 e)⟩, ⟨7, [13], .eq (.int .i64 u)⟩, ⟨8, [14], .eq (.int .i64 e)⟩] (by kernel_rfl) (by kernel_rfl) ?_
  apply Exists.intro
  refine ⟨fun vs => ?_, ?_⟩
  · simp only [List.map_cons, List.map_nil, puts, Act.put, List.setIfInBounds_toArray, List.set_cons_zero, List.set_cons_succ]
    exact rfl
  refine ⟨⟨fun vs w3 hk hg => ?_, fun vs w3 hk hg => ?_, fun vs w3 hk hg => ?_, fun vs w3 hk hg => ?_, fun vs w3 hk hg => ?_, fun vs w3 hk hg => ?_, fun vs w3 hk hg => ?_, fun vs w3 hk hg => ?_, trivial⟩, fun vs w3 hk hg => ?_⟩
  all_goals
    haveI p_w3 : PrevWorld w3 _ := ⟨hk⟩
    clear hk
  · go_wp2_with fail
    refine (some_any _).mono ?_
    rintro e w4 ⟨A, B, C, a, b, rfl, hT, hk4⟩
    go_wp2_with fail
    exact ⟨hk4, rfl, A, B, C, a, b, rfl, hT⟩
  · go_wp2_with fail
    exact ⟨(by repeat (first | with_reducible exact HK.out | with_reducible exact Kept.refl _ _ | with_reducible refine Kept.prev ?_ | with_reducible refine Kept.alloc' ?_ _ | with_reducible refine Kept.drew' ?_ | with_reducible refine Kept.setB ?_ _ _ _ (by omega) | with_reducible refine Kept.row' ?_ _ _ (by omega) | with_reducible refine Kept.map' ?_ _ _ (by omega))), rfl, rfl⟩
  · simp only [given, look, SP.eq_p, Nat.reduceEqDiff, reduceIte, if_true, if_false, and_true] at hg
    simp only [SP.tab_p] at hg
    obtain ⟨⟨A, B, C, a, b, e10, hT⟩, e11⟩ := hg
    have HT := Lib.hid hT
    clear hT
    go_wp2_with fail
    refine (Value_any _ (someV A B C) (someT a b) x n HT.out (HX.out _ (by repeat (first | with_reducible exact HK.out | with_reducible exact Kept.refl _ _ | with_reducible refine Kept.prev ?_ | with_reducible refine Kept.alloc' ?_ _ | with_reducible refine Kept.drew' ?_ | with_reducible refine Kept.setB ?_ _ _ _ (by omega) | with_reducible refine Kept.row' ?_ _ _ (by omega) | with_reducible refine Kept.map' ?_ _ _ (by omega))))).mono ?_
    rintro e w4 ⟨rfl, hk4⟩
    rw [HR.out]
    go_wp2_with fail
    exact ⟨hk4, rfl, rfl⟩
  · simp only [given, look, SP.eq_p, Nat.reduceEqDiff, reduceIte, if_true, if_false, and_true] at hg
    go_wp2_with fail
    exact ⟨(by repeat (first | with_reducible exact HK.out | with_reducible exact Kept.refl _ _ | with_reducible refine Kept.prev ?_ | with_reducible refine Kept.alloc' ?_ _ | with_reducible refine Kept.drew' ?_ | with_reducible refine Kept.setB ?_ _ _ _ (by omega) | with_reducible refine Kept.row' ?_ _ _ (by omega) | with_reducible refine Kept.map' ?_ _ _ (by omega))), rfl, rfl⟩
  · simp only [given, look, SP.eq_p, Nat.reduceEqDiff, reduceIte, if_true, if_false, and_true] at hg
    go_wp2_with fail
    exact ⟨(by repeat (first | with_reducible exact HK.out | with_reducible exact Kept.refl _ _ | with_reducible refine Kept.prev ?_ | with_reducible refine Kept.alloc' ?_ _ | with_reducible refine Kept.drew' ?_ | with_reducible refine Kept.setB ?_ _ _ _ (by omega) | with_reducible refine Kept.row' ?_ _ _ (by omega) | with_reducible refine Kept.map' ?_ _ _ (by omega))), rfl, rfl⟩
  · simp only [given, look, SP.eq_p, Nat.reduceEqDiff, reduceIte, if_true, if_false, and_true] at hg
    go_wp2_with fail
    exact ⟨(by repeat (first | with_reducible exact HK.out | with_reducible exact Kept.refl _ _ | with_reducible refine Kept.prev ?_ | with_reducible refine Kept.alloc' ?_ _ | with_reducible refine Kept.drew' ?_ | with_reducible refine Kept.setB ?_ _ _ _ (by omega) | with_reducible refine Kept.row' ?_ _ _ (by omega) | with_reducible refine Kept.map' ?_ _ _ (by omega))), rfl, rfl⟩
  · simp only [given, look, SP.eq_p, Nat.reduceEqDiff, reduceIte, if_true, if_false, and_true] at hg
    go_wp2_with fail
    exact ⟨(by repeat (first | with_reducible exact HK.out | with_reducible exact Kept.refl _ _ | with_reducible refine Kept.prev ?_ | with_reducible refine Kept.alloc' ?_ _ | with_reducible refine Kept.drew' ?_ | with_reducible refine Kept.setB ?_ _ _ _ (by omega) | with_reducible refine Kept.row' ?_ _ _ (by omega) | with_reducible refine Kept.map' ?_ _ _ (by omega))), rfl, rfl⟩
  · simp only [given, look, SP.eq_p, Nat.reduceEqDiff, reduceIte, if_true, if_false, and_true] at hg
    go_wp2_with fail
    exact ⟨(by repeat (first | with_reducible exact HK.out | with_reducible exact Kept.refl _ _ | with_reducible refine Kept.prev ?_ | with_reducible refine Kept.alloc' ?_ _ | with_reducible refine Kept.drew' ?_ | with_reducible refine Kept.setB ?_ _ _ _ (by omega) | with_reducible refine Kept.row' ?_ _ _ (by omega) | with_reducible refine Kept.map' ?_ _ _ (by omega))), rfl, rfl⟩
  · simp only [allGiven, SP.eq_p, and_true] at hg
    simp only [SP.tab_p] at hg
    obtain ⟨-, -, -, -, e13, e14, e7, e8⟩ := hg
    clear HX HR
    refine wpList_nil ?_
    cases h1 : (u == want)
    · go_wp2_with fail
      rw [h1]
      exact bodyPost_v rfl (res1 Tryz.results31 (resT rfl)) (by repeat (first | with_reducible exact HK.out | with_reducible exact Kept.refl _ _ | with_reducible refine Kept.prev ?_ | with_reducible refine Kept.alloc' ?_ _ | with_reducible refine Kept.drew' ?_ | with_reducible refine Kept.setB ?_ _ _ _ (by omega) | with_reducible refine Kept.row' ?_ _ _ (by omega) | with_reducible refine Kept.map' ?_ _ _ (by omega)))
    · go_wp2_with fail
      rw [h1]
      exact bodyPost_v rfl (res1 Tryz.results31 (resT rfl)) (by repeat (first | with_reducible exact HK.out | with_reducible exact Kept.refl _ _ | with_reducible refine Kept.prev ?_ | with_reducible refine Kept.alloc' ?_ _ | with_reducible refine Kept.drew' ?_ | with_reducible refine Kept.setB ?_ _ _ _ (by omega) | with_reducible refine Kept.row' ?_ _ _ (by omega) | with_reducible refine Kept.map' ?_ _ _ (by omega)))
theorem gives_true (w : World) (x : ExV) (n : Nat) (want wrong : Int) (hx : ExIn w n x) (hr : ∀ a b, valueP (someT a b) n x = (want, wrong)) :
    Calls Tryz.prog 31 #[.agg x.cells.toArray, .int .i64 want, .int .i64 wrong] w (RetV (.bool true) w) := by
  have := gives_any w x n want wrong want wrong hx hr
  simpa using this
end Go.Proofs.YtgdjhhfbpalkdaaGreat
namespace Go.Proofs.YtgdjhhfbpalkdaaGreat
open Go.RowKit
/-- A list of one choice of one expression. -/
def RetC1 (x : ExV) (d : Nat) (w : World) (e : Ending) (w' : World) : Prop :=
  ∃ (a : Option Addr) (c : Nat) (la : Option Addr) (lc : Nat), e = .returned (.slice a 1 c) ∧ RowsAt ChV 2 ChV.cells w' a [⟨1, la, lc, [x]⟩] ∧ ChIn w' d ⟨1, la, lc, [x]⟩ ∧ Kept [] w w'
theorem Tryz.infoChM : (Tryz.prog.info? 90).map (fun i => (i.zero, i.size, i.bytes)) = some (some (.agg #[.int .u8 0, .slice none 0 0]), 2, 32) := by kernel_rfl
theorem Tryz.ch_parts : ∃ i, Tryz.prog.info? 90 = some i ∧ i.zero = some (.agg #[.int .u8 0, .slice none 0 0]) ∧ i.size = 2 ∧ i.bytes = 32 := by
  have h := Tryz.infoChM
  cases hi : Tryz.prog.info? 90 with
  | none => simp [hi] at h
  | some i => simp [hi] at h; exact ⟨i, rfl, h⟩
set_option maxRecDepth 100000 in
set_option maxHeartbeats 1000000 in
theorem choose_any (w : World) (C c : Nat) (x : ExV) (d : Nat) [hat : ExAt w C 0 x] (hx : ExIn w d x) : Calls Tryz.prog 35 #[.slice (some ⟨C, 0, none⟩) 1 c] w (RetC1 x d w) := by
  have HX := Lib.hid (fun w' (hk : Kept [] w w') => hx.kept hk)
  clear hx
  obtain ⟨ib, ib0, ib1, ib2, ib3⟩ := Tryz.ch_parts
  go_enter Tryz.func35, Tryz.ntmps35
  go_wp2_with fail
  refine wp_loop_rounds 2 ?_
  rw [rounds_succ]
  have hA : 0 + 1 ≤ maxLen := by unfold maxLen; omega
  have hB : (0 + 1) * 32 ≤ 140737488355328 := by omega
  have hC : w.heap.size ≤ (((w.alloc (.cells x.cells.toArray 34)).alloc (.cells x.cells.toArray 34)).alloc (.cells #[.int .u8 1, .slice (some ⟨w.heap.size + 1, 0, none⟩) 1 1] 90)).heap.size := by simp; omega
  go_wp2_with (at_builtin; refine wpList_append_own _ rfl _ _ 50 rfl w.heap.size 90 ib (.agg #[.int .u8 0, .slice none 0 0]) 2 32 Tryz.underlying50 ib0 ib1 ib2 ib3 rfl (by decide) (.slice none 0 0) 0 [] rfl (World.ownsRow_nil _ _ _ _) ⟨w.heap.size + 1 + 1, 0, none⟩ 1 1 [.int .u8 1, .slice (some ⟨w.heap.size + 1, 0, none⟩) 1 1] rfl rfl (World.news_of_block (cs := #[.int .u8 1, .slice (some ⟨w.heap.size + 1, 0, none⟩) 1 1]) (t := 90) (fr := (0, 0)) (obj_new (by simp))) (by simp [Value.oneCell']) hA hB hC ?_; intro v' w4 ho4 hg4 _; have HO4 := Lib.hid ho4; have HG4 := Lib.hid hg4; clear ho4 hg4)
  have HK4 : Hid (Kept [] (((w.alloc (.cells x.cells.toArray 34)).alloc (.cells x.cells.toArray 34)).alloc (.cells #[.int .u8 1, .slice (some ⟨w.heap.size + 1, 0, none⟩) 1 1] 90)) w4) := (Kept.refl _ _).grown HG4.out (fun q hq => by simp [Value.ownBlock] at hq)
  rw [rounds_succ]
  go_wp2_with fail
  obtain ⟨A, c', e', h1, h2, h3, hrows⟩ := rows_own (α := ChV) (m := 2) (cells := ChV.cells) (l := [⟨1, some ⟨w.heap.size + 1, 0, none⟩, 1, [x]⟩]) HO4.out (fun _ => rfl) rfl
  refine bodyPost_ret (res1 Tryz.results35 (resT rfl)) rfl ?_
  haveI p_w4 : PrevWorld w4 _ := ⟨HK4.out⟩
  refine ⟨A, c', some ⟨w.heap.size + 1, 0, none⟩, 1, congrArg Ending.returned e', hrows, ⟨rows_ex (box_at w4 (w.heap.size + 1)), all_one (HX.out _ (by repeat (first | with_reducible exact HK.out | with_reducible exact Kept.refl _ _ | with_reducible refine Kept.prev ?_ | with_reducible refine Kept.alloc' ?_ _ | with_reducible refine Kept.drew' ?_ | with_reducible refine Kept.setB ?_ _ _ _ (by omega) | with_reducible refine Kept.row' ?_ _ _ (by omega) | with_reducible refine Kept.map' ?_ _ _ (by omega)))), by simp⟩, (by repeat (first | with_reducible exact HK.out | with_reducible exact Kept.refl _ _ | with_reducible refine Kept.prev ?_ | with_reducible refine Kept.alloc' ?_ _ | with_reducible refine Kept.drew' ?_ | with_reducible refine Kept.setB ?_ _ _ _ (by omega) | with_reducible refine Kept.row' ?_ _ _ (by omega) | with_reducible refine Kept.map' ?_ _ _ (by omega)))⟩
end Go.Proofs.YtgdjhhfbpalkdaaGreat
namespace Go.Proofs.YtgdjhhfbpalkdaaGreat
open Go.Shelf
def Tryz.laysSort_ren : Go.Shelf.Ren := ⟨fun | 6 => 40 | 15 => 65 | 14 => 64 | 28 => 93 | 29 => 94 | 20 => 85 | 21 => 86 | 22 => 87 | 23 => 88 | 24 => 89 | 25 => 90 | 26 => 91 | 27 => 92 | 46 => 114 | 47 => 115 | 48 => 116 | 49 => 117 | 50 => 118 | 57 => 121 | n => n, fun | 22 => 51 | 24 => 43 | 25 => 100 | 3 => 3 | 39 => 131 | 0 => 0 | 53 => 160 | 55 => 135 | 4 => 4 | 46 => 154 | 45 => 153 | 50 => 117 | 5 => 5 | 9 => 9 | 66 => 171 | 70 => 175 | 76 => 181 | 77 => 182 | n => n, fun | n => n⟩
theorem Tryz.laysSort : Go.Proofs.SlLaysF0.n6 Tryz.prog Tryz.laysSort_ren := {
  mixed := by kernel_rfl
  f6 := ⟨Tryz.f40.name, by decide, Tryz.func40.trans (congrArg some (by kernel_rfl))⟩
  f14 := ⟨Tryz.f64.name, by decide, Tryz.func64.trans (congrArg some (by kernel_rfl))⟩
  f15 := Tryz.func65.trans (congrArg some (by kernel_rfl))
  f20 := ⟨Tryz.f85.name, by decide, Tryz.func85.trans (congrArg some (by kernel_rfl))⟩
  f21 := ⟨Tryz.f86.name, by decide, Tryz.func86.trans (congrArg some (by kernel_rfl))⟩
  f22 := ⟨Tryz.f87.name, by decide, Tryz.func87.trans (congrArg some (by kernel_rfl))⟩
  f23 := ⟨Tryz.f88.name, by decide, Tryz.func88.trans (congrArg some (by kernel_rfl))⟩
  f24 := ⟨Tryz.f89.name, by decide, Tryz.func89.trans (congrArg some (by kernel_rfl))⟩
  f25 := ⟨Tryz.f90.name, by decide, Tryz.func90.trans (congrArg some (by kernel_rfl))⟩
  f26 := ⟨Tryz.f91.name, by decide, Tryz.func91.trans (congrArg some (by kernel_rfl))⟩
  f27 := ⟨Tryz.f92.name, by decide, Tryz.func92.trans (congrArg some (by kernel_rfl))⟩
  f28 := Tryz.func93.trans (congrArg some (by kernel_rfl))
  f29 := Tryz.func94.trans (congrArg some (by kernel_rfl))
  f46 := ⟨Tryz.f114.name, by decide, Tryz.func114.trans (congrArg some (by kernel_rfl))⟩
  f47 := Tryz.func115.trans (congrArg some (by kernel_rfl))
  f48 := Tryz.func116.trans (congrArg some (by kernel_rfl))
  f49 := ⟨Tryz.f117.name, by decide, Tryz.func117.trans (congrArg some (by kernel_rfl))⟩
  f50 := ⟨Tryz.f118.name, by decide, Tryz.func118.trans (congrArg some (by kernel_rfl))⟩
  f57 := ⟨Tryz.f121.name, by decide, Tryz.func121.trans (congrArg some (by kernel_rfl))⟩
  t0 := Tryz.underlying0
  a0 := Tryz.isAgg0
  z0 := Tryz.sizeOf0
  v0 := Tryz.zeroValue0
  t3 := Tryz.underlying3
  a3 := Tryz.isAgg3
  z3 := Tryz.sizeOf3
  v3 := Tryz.zeroValue3
  t4 := Tryz.underlying4
  a4 := Tryz.isAgg4
  z4 := Tryz.sizeOf4
  v4 := Tryz.zeroValue4
  t5 := Tryz.underlying5
  a5 := Tryz.isAgg5
  z5 := Tryz.sizeOf5
  v5 := Tryz.zeroValue5
  t9 := Tryz.underlying9
  a9 := Tryz.isAgg9
  z9 := Tryz.sizeOf9
  v9 := Tryz.zeroValue9
  t22 := Tryz.underlying51
  a22 := Tryz.isAgg51
  z22 := Tryz.sizeOf51
  v22 := Tryz.zeroValue51
  t25 := Tryz.underlying100
  a25 := Tryz.isAgg100
  z25 := Tryz.sizeOf100
  v25 := Tryz.zeroValue100
  t39 := Tryz.underlying131
  a39 := Tryz.isAgg131
  z39 := Tryz.sizeOf131
  v39 := Tryz.zeroValue131
  t45 := Tryz.underlying153
  a45 := Tryz.isAgg153
  z45 := Tryz.sizeOf153
  v45 := Tryz.zeroValue153
  t46 := Tryz.underlying154
  a46 := Tryz.isAgg154
  z46 := Tryz.sizeOf154
  v46 := Tryz.zeroValue154
  t50 := Tryz.underlying117
  a50 := Tryz.isAgg117
  z50 := Tryz.sizeOf117
  v50 := Tryz.zeroValue117
  t53 := Tryz.underlying160
  a53 := Tryz.isAgg160
  z53 := Tryz.sizeOf160
  v53 := Tryz.zeroValue160
  t55 := Tryz.underlying135
  a55 := Tryz.isAgg135
  z55 := Tryz.sizeOf135
  v55 := Tryz.zeroValue135
  t66 := Tryz.underlying171
  a66 := Tryz.isAgg171
  z66 := Tryz.sizeOf171
  v66 := Tryz.zeroValue171
  t70 := Tryz.underlying175
  a70 := Tryz.isAgg175
  z70 := Tryz.sizeOf175
  v70 := Tryz.zeroValue175
  t76 := Tryz.underlying181
  a76 := Tryz.isAgg181
  z76 := Tryz.sizeOf181
  v76 := Tryz.zeroValue181
  t77 := Tryz.underlying182
  a77 := Tryz.isAgg182
  z77 := Tryz.sizeOf182
  v77 := Tryz.zeroValue182 }
end Go.Proofs.YtgdjhhfbpalkdaaGreat
namespace Go.Proofs.YtgdjhhfbpalkdaaGreat
open Go.RowKit Go.Sort Go.Lib Go.Shelf
theorem lt_cmp (a b : Bd) : ltOf (fun a b : Bd => cmpP a.1 b.1) a b = decide (a.1 < b.1) := by
  unfold ltOf cmpP
  by_cases c1 : a.1 < b.1
  · simp [c1]
  · by_cases c2 : b.1 < a.1 <;> simp [c1, c2]
theorem swo_bd : SWO (ltOf (fun a b : Bd => cmpP a.1 b.1)) where
  irrefl x := by rw [lt_cmp]; simp
  trans x y z h1 h2 := by
    rw [lt_cmp, decide_eq_true_eq] at *
    omega
  ntrans x y z h1 h2 := by
    rw [lt_cmp, decide_eq_false_iff_not] at *
    omega
theorem bd_one : ∀ (x : Bd), ∀ v ∈ bdC x, v.oneCell' = true := by
  intro x v hv
  simp [bdC] at hv
  rcases hv with rfl | rfl <;> rfl
theorem Tryz.aggBd (w : World) : (isAgg 43).run Tryz.prog w = .ok true w := by kernel_rfl
theorem Tryz.sizeBd (w : World) : (Go.sizeOf 43).run Tryz.prog w = .ok 2 w := by kernel_rfl
theorem egC : ∀ args w, (callFunc 41 args).run Tryz.prog w = .ok (.enter 41 args) w := enters_of Tryz.func41 (by kernel_rfl) rfl
theorem own_cell {w : World} {base n c g : Nat} {l : List Bd} {o : Nat} (h : w.ownsRow base 43 2 (.slice (some ⟨g, o, none⟩) n c) n (bdsC l)) (_hl : l.length = n) :
    o = 0 ∧ base ≤ g ∧ g < w.heap.size ∧ ∀ j i (x : Bd), l[j]? = some x → ∀ u, (bdC x)[i]? = some u → w.cell? ⟨g, j * 2 + i, none⟩ = some u ∧ w.frozen? ⟨g, j * 2 + i, none⟩ = false := by
  rcases id h.2 with ⟨e, _⟩ | ⟨g', cap, cur, e, hb, hg, hcap, hmax, hsz, htk⟩
  · cases e
  · cases e
    refine ⟨rfl, hb, (Array.getElem?_eq_some_iff.1 hg).1, fun j i x hx u hu => ⟨?_, frozen_of_row _ _ _ _ _ hg⟩⟩
    have h1 := flat_get (l.map bdC) (m := 2) (fun r hr => by obtain ⟨y, _, rfl⟩ := List.mem_map.1 hr; rfl) j (bdC x) (by rw [List.getElem?_map, hx]; rfl) i u hu
    have := h.cells (g := g) rfl (j * 2 + i) u h1
    rwa [Addr.add_mid, Nat.zero_add] at this
theorem holds_bd {w : World} {g : Nat} {l : List Bd} (h : ∀ j i (x : Bd), l[j]? = some x → ∀ u, (bdC x)[i]? = some u → w.cell? ⟨g, j * 2 + i, none⟩ = some u ∧ w.frozen? ⟨g, j * 2 + i, none⟩ = false) : HoldsK bdC 2 w g 0 l.toArray := by
  intro t ht
  rw [size_flatK, List.size_toArray] at ht
  have ht2 : t / 2 < l.length := by omega
  have hx : l[t / 2]? = some l[t / 2] := List.getElem?_eq_getElem ht2
  have hc : t % 2 < (bdC l[t / 2]).length := by rw [bdC_len]; omega
  have hu : (bdC l[t / 2])[t % 2]? = some ((bdC l[t / 2])[t % 2]) := List.getElem?_eq_getElem hc
  have h1 := h _ _ _ hx _ hu
  have e : t / 2 * 2 + t % 2 = t := by omega
  rw [e] at h1
  rw [Nat.zero_add]
  refine ⟨?_, h1.2⟩
  rw [h1.1, get_flatK _ _ _ _ (by rw [List.size_toArray]; exact ht)]
  have e2 : l.toArray[t / 2]! = l[t / 2] := by
    rw [getElem!_pos l.toArray (t / 2) (by rw [List.size_toArray]; exact ht2)]
    simp
  rw [e2, getElem!_pos (bdC l[t / 2]) (t % 2) hc]
  rfl
theorem rows_holds {w : World} {g : Nat} {d : Array Bd} (h : HoldsK bdC 2 w g 0 d) : RowsAt Bd 2 bdC w (some ⟨g, 0, none⟩) d.toList := by
  refine .inr ⟨g, 0, rfl, fun j r hr i u hu => ?_⟩
  have hj := (List.getElem?_eq_some_iff.1 hr).1
  have hi := (List.getElem?_eq_some_iff.1 hu).1
  have hj' : j < d.size := by simpa using hj
  have h1 := (HoldsK.cell h hj' (show i < 2 from hi)).1
  have e : d[j]! = r := by
    rw [getElem!_pos d j hj']
    have := (List.getElem?_eq_some_iff.1 hr).2
    simpa using this
  rw [e, getElem!_pos (bdC r) i hi] at h1
  rw [h1]
  exact congrArg some (List.getElem?_eq_some_iff.1 hu).2
theorem sort_any : SortAll := by
  intro w A c n base l ho hl hn
  by_cases h0 : n = 0
  · subst h0
    refine (AnyF.slices_SortFunc_none Tryz.laysSort A c (.func (.func 41) #[] #[]) w).mono ?_
    rintro e w' ⟨rfl, rfl⟩
    obtain rfl : l = [] := List.eq_nil_of_length_eq_zero hl
    exact ⟨rfl, [], List.Perm.refl _, .nil, .inl rfl, fun W hW _ => hW⟩
  · obtain ⟨g, o, rfl⟩ : ∃ g o, A = some ⟨g, o, none⟩ := by
      rcases id ho.2 with ⟨e, h1⟩ | ⟨g', cap, cur, e, _⟩
      · exact absurd h1 h0
      · cases e; exact ⟨_, _, rfl⟩
    obtain ⟨rfl, hb, hg, hc⟩ := own_cell ho hl
    have hH := holds_bd hc
    have hcmp : CmpLays Tryz.prog 41 #[] bdC 2 (fun a b : Bd => cmpP a.1 b.1) g 0 l.toArray.size w := fun m os dk hdk x y => less_any _ x y
    have hcon := AnyQ.slices_SortFunc Tryz.laysSort 2 (fun w => Tryz.aggBd w) (fun w => Tryz.sizeBd w) bdC bdC_len bd_one (fun a b : Bd => cmpP a.1 b.1) swo_bd 41 #[] g 0 c l.toArray w egC hcmp hH hg (by rw [List.size_toArray]; omega)
    subst hl
    refine (show Calls Tryz.prog 40 #[.slice (some ⟨g, 0, none⟩) l.length c, .func (.func 41) #[] #[]] w _ from hcon).mono ?_
    rintro e w' ⟨rfl, d, k, os, hp, hs, rfl⟩
    have hsz : d.size = l.length := by rw [hp.1, List.size_toArray]
    have hperm : d.toList.Perm l := by
      have := hp.2.2
      rw [Array.extract_eq_self_of_le (by rw [hsz, List.size_toArray]; exact Nat.le_refl _), Array.extract_eq_self_of_le (Nat.le_refl _)] at this
      exact this
    have hh : HoldsK bdC 2 (sortWorldK bdC 2 w g 0 k d os) g 0 d := by
      unfold sortWorldK
      refine holdsK_grow bdC 2 _ os g 0 d (by show g < (putRow _ _ _ _ _).heap.size; rw [size_putRow]; exact hg) ?_
      exact holdsK_putRowK bdC 2 (Sort.ahead w k) g 0 l.toArray d hH (by rw [hsz, List.size_toArray])
    refine ⟨rfl, d.toList, hperm, ?_, rows_holds hh, fun W hW hbs => ?_⟩
    · rw [List.pairwise_iff_getElem]
      intro i j hi hj hij
      have hi' : i < d.size := by simpa using hi
      have hj' : j < d.size := by simpa using hj
      have h1 := hs i j (Nat.zero_le _) hij (by rw [List.size_toArray, ← hsz]; exact hj')
      rw [lt_cmp, decide_eq_false_iff_not, getElem!_pos d j hj', getElem!_pos d i hi'] at h1
      simp only [Array.getElem_toList]
      omega
    · refine hW.above (X := [g]) ⟨rfl, rfl, rfl, ?_, fun q hq hx => ?_⟩ (fun q hq => by simp at hq; omega)
      · show w.heap.size ≤ (grow (putRow _ _ _ _ _) os).heap.size
        unfold grow
        simp [Sort.ahead]
      · have hne : g ≠ q := fun e => hx (by simp [e])
        unfold sortWorldK
        rw [heap_grow_old _ _ (by show q < (putRow _ _ _ _ _).heap.size; rw [size_putRow]; exact hq)]
        simp [putRowK, putRow, mapBlock, Sort.ahead, Array.getElem?_modify, hne]
end Go.Proofs.YtgdjhhfbpalkdaaGreat
