/- Whether an expression has a value in the table of the examples. -/
import Derived.Test.YtgdjhhfbpalkdaaL2
namespace Go.Proofs.Ytgdjhhfbpalkdaa
open Go.RowKit
def SP.tab : SP := ⟨fun v w => ∃ A B C a b, v = .agg ((someV A B C).cells (someT a b)) ∧ TabIn w (someV A B C) (someT a b), fun _ _ _ ⟨A, B, C, a, b, h1, h2⟩ hk => ⟨A, B, C, a, b, h1, h2.kept hk⟩⟩
theorem SP.tab_p (v : Value) (w : World) : SP.tab.p v w = ∃ A B C a b, v = .agg ((someV A B C).cells (someT a b)) ∧ TabIn w (someV A B C) (someT a b) := rfl
set_option maxRecDepth 100000 in
set_option maxHeartbeats 1000000 in
theorem gives_any (w : World) (x : ExV) (n : Nat) (u e want wrong : Int) (hx : ExIn w n x) (hr : ∀ a b, valueP (someT a b) n x = (u, e)) :
    Calls Try.prog 18 #[.agg x.cells.toArray, .int .i64 want, .int .i64 wrong] w (RetV (.bool (u == want && e == wrong)) w) := by
  have HX := Lib.hid (fun w' (hk : Kept [] w w') => hx.kept hk)
  have HR := Lib.hid hr
  clear hx hr
  go_enter Try.func18, Try.ntmps18
  go_wp2_with fail
  refine wp_region_each [⟨10, [], .tab⟩, ⟨11, [], .eq (.agg x.cells.toArray)⟩, ⟨12, [10, 11], .eq (.tuple #[.int .i64 u, .int .i64 e])⟩, ⟨9, [12], .eq (.tuple #[.int .i64 u, .int .i64 e])⟩, ⟨13, [9], .eq (.int .i64 u)⟩, ⟨14, [9], .eq (.int .i64 e)⟩, ⟨7, [13], .eq (.int .i64 u)⟩, ⟨8, [14], .eq (.int .i64 e)⟩] (by kernel_rfl) (by kernel_rfl) ?_
  apply Exists.intro
  refine ⟨fun vs => ?_, ?_⟩
  · simp only [List.map_cons, List.map_nil, puts, Act.put, List.setIfInBounds_toArray, List.set_cons_zero, List.set_cons_succ]
    exact rfl
  refine ⟨⟨fun vs w3 hk hg => ?_, fun vs w3 hk hg => ?_, fun vs w3 hk hg => ?_, fun vs w3 hk hg => ?_, fun vs w3 hk hg => ?_, fun vs w3 hk hg => ?_, fun vs w3 hk hg => ?_, fun vs w3 hk hg => ?_, trivial⟩, fun vs w3 hk hg => ?_⟩
  all_goals
    haveI p_w3 : PrevWorld w3 _ := ⟨hk⟩
    clear hk
  · go_wp2_with fail
    refine (some_any _).mono ?_
    rintro e w4 ⟨A, B, C, a, b, rfl, hT, hk4⟩
    go_wp2_with fail
    exact ⟨hk4, rfl, A, B, C, a, b, rfl, hT⟩
  · go_wp2_with fail
    exact ⟨(by repeat (first | with_reducible exact HK.out | with_reducible exact Kept.refl _ _ | with_reducible refine Kept.prev ?_ | with_reducible refine Kept.alloc' ?_ _ | with_reducible refine Kept.drew' ?_ | with_reducible refine Kept.setB ?_ _ _ _ (by omega) | with_reducible refine Kept.row' ?_ _ _ (by omega) | with_reducible refine Kept.map' ?_ _ _ (by omega))), rfl, rfl⟩
  · simp only [given, allGiven, look, SP.eq_p, SP.ex_p, SP.exs_p, SP.asl_p, Nat.reduceEqDiff, reduceIte, if_true, if_false, and_true] at hg
    simp only [SP.tab_p] at hg
    obtain ⟨⟨A, B, C, a, b, e10, hT⟩, e11⟩ := hg
    have HT := Lib.hid hT
    clear hT
    go_wp2_with fail
    refine (Value_any _ (someV A B C) (someT a b) x n HT.out (HX.out _ (by repeat (first | with_reducible exact HK.out | with_reducible exact Kept.refl _ _ | with_reducible refine Kept.prev ?_ | with_reducible refine Kept.alloc' ?_ _ | with_reducible refine Kept.drew' ?_ | with_reducible refine Kept.setB ?_ _ _ _ (by omega) | with_reducible refine Kept.row' ?_ _ _ (by omega) | with_reducible refine Kept.map' ?_ _ _ (by omega))))).mono ?_
    rintro e w4 ⟨rfl, hk4⟩
    rw [HR.out]
    go_wp2_with fail
    exact ⟨hk4, rfl, rfl⟩
  · simp only [given, allGiven, look, SP.eq_p, SP.ex_p, SP.exs_p, SP.asl_p, Nat.reduceEqDiff, reduceIte, if_true, if_false, and_true] at hg
    go_wp2_with fail
    exact ⟨(by repeat (first | with_reducible exact HK.out | with_reducible exact Kept.refl _ _ | with_reducible refine Kept.prev ?_ | with_reducible refine Kept.alloc' ?_ _ | with_reducible refine Kept.drew' ?_ | with_reducible refine Kept.setB ?_ _ _ _ (by omega) | with_reducible refine Kept.row' ?_ _ _ (by omega) | with_reducible refine Kept.map' ?_ _ _ (by omega))), rfl, rfl⟩
  · simp only [given, allGiven, look, SP.eq_p, SP.ex_p, SP.exs_p, SP.asl_p, Nat.reduceEqDiff, reduceIte, if_true, if_false, and_true] at hg
    go_wp2_with fail
    exact ⟨(by repeat (first | with_reducible exact HK.out | with_reducible exact Kept.refl _ _ | with_reducible refine Kept.prev ?_ | with_reducible refine Kept.alloc' ?_ _ | with_reducible refine Kept.drew' ?_ | with_reducible refine Kept.setB ?_ _ _ _ (by omega) | with_reducible refine Kept.row' ?_ _ _ (by omega) | with_reducible refine Kept.map' ?_ _ _ (by omega))), rfl, rfl⟩
  · simp only [given, allGiven, look, SP.eq_p, SP.ex_p, SP.exs_p, SP.asl_p, Nat.reduceEqDiff, reduceIte, if_true, if_false, and_true] at hg
    go_wp2_with fail
    exact ⟨(by repeat (first | with_reducible exact HK.out | with_reducible exact Kept.refl _ _ | with_reducible refine Kept.prev ?_ | with_reducible refine Kept.alloc' ?_ _ | with_reducible refine Kept.drew' ?_ | with_reducible refine Kept.setB ?_ _ _ _ (by omega) | with_reducible refine Kept.row' ?_ _ _ (by omega) | with_reducible refine Kept.map' ?_ _ _ (by omega))), rfl, rfl⟩
  · simp only [given, allGiven, look, SP.eq_p, SP.ex_p, SP.exs_p, SP.asl_p, Nat.reduceEqDiff, reduceIte, if_true, if_false, and_true] at hg
    go_wp2_with fail
    exact ⟨(by repeat (first | with_reducible exact HK.out | with_reducible exact Kept.refl _ _ | with_reducible refine Kept.prev ?_ | with_reducible refine Kept.alloc' ?_ _ | with_reducible refine Kept.drew' ?_ | with_reducible refine Kept.setB ?_ _ _ _ (by omega) | with_reducible refine Kept.row' ?_ _ _ (by omega) | with_reducible refine Kept.map' ?_ _ _ (by omega))), rfl, rfl⟩
  · simp only [given, allGiven, look, SP.eq_p, SP.ex_p, SP.exs_p, SP.asl_p, Nat.reduceEqDiff, reduceIte, if_true, if_false, and_true] at hg
    go_wp2_with fail
    exact ⟨(by repeat (first | with_reducible exact HK.out | with_reducible exact Kept.refl _ _ | with_reducible refine Kept.prev ?_ | with_reducible refine Kept.alloc' ?_ _ | with_reducible refine Kept.drew' ?_ | with_reducible refine Kept.setB ?_ _ _ _ (by omega) | with_reducible refine Kept.row' ?_ _ _ (by omega) | with_reducible refine Kept.map' ?_ _ _ (by omega))), rfl, rfl⟩
  · simp only [given, allGiven, look, SP.eq_p, SP.ex_p, SP.exs_p, SP.asl_p, Nat.reduceEqDiff, reduceIte, if_true, if_false, and_true] at hg
    simp only [SP.tab_p] at hg
    obtain ⟨-, -, -, -, e13, e14, e7, e8⟩ := hg
    clear HX HR
    refine wpList_nil ?_
    cases h1 : (u == want)
    · go_wp2_with fail
      rw [h1]
      exact bodyPost_v rfl (res1 Try.results18 (resT rfl)) (by repeat (first | with_reducible exact HK.out | with_reducible exact Kept.refl _ _ | with_reducible refine Kept.prev ?_ | with_reducible refine Kept.alloc' ?_ _ | with_reducible refine Kept.drew' ?_ | with_reducible refine Kept.setB ?_ _ _ _ (by omega) | with_reducible refine Kept.row' ?_ _ _ (by omega) | with_reducible refine Kept.map' ?_ _ _ (by omega)))
    · go_wp2_with fail
      rw [h1]
      exact bodyPost_v rfl (res1 Try.results18 (resT rfl)) (by repeat (first | with_reducible exact HK.out | with_reducible exact Kept.refl _ _ | with_reducible refine Kept.prev ?_ | with_reducible refine Kept.alloc' ?_ _ | with_reducible refine Kept.drew' ?_ | with_reducible refine Kept.setB ?_ _ _ _ (by omega) | with_reducible refine Kept.row' ?_ _ _ (by omega) | with_reducible refine Kept.map' ?_ _ _ (by omega)))
theorem gives_true (w : World) (x : ExV) (n : Nat) (want wrong : Int) (hx : ExIn w n x) (hr : ∀ a b, valueP (someT a b) n x = (want, wrong)) :
    Calls Try.prog 18 #[.agg x.cells.toArray, .int .i64 want, .int .i64 wrong] w (RetV (.bool true) w) := by
  have := gives_any w x n want wrong want wrong hx hr
  simpa using this
end Go.Proofs.Ytgdjhhfbpalkdaa
