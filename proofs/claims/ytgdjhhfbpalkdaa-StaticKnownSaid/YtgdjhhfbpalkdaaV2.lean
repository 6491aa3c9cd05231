/- The operators. -/
import Derived.Test.YtgdjhhfbpalkdaaV1
import Derived.Test.YtgdjhhfbpalkdaaS10
import Derived.Laws.EntriesVeiled
namespace Go.Proofs.Ytgdjhhfbpalkdaa
open Go.RowKit

def cmpP (a b : Int) : Int := if a < b then -1 else if b < a then 1 else 0
theorem nan_any (w : World) (a : Int) : Calls Try.prog 47 #[.int .i64 a] w (RetV (.bool false) w) := by
  go_enter Try.func47, Try.ntmps47
  go_wp2_with fail
  exact bodyPost_v rfl (res1 Try.results47 (resT rfl)) (by repeat (first | with_reducible exact HK.out | with_reducible exact Kept.refl _ _ | with_reducible refine Kept.prev ?_ | with_reducible refine Kept.alloc' ?_ _ | with_reducible refine Kept.drew' ?_ | with_reducible refine Kept.setB ?_ _ _ _ (by omega) | with_reducible refine Kept.row' ?_ _ _ (by omega) | with_reducible refine Kept.map' ?_ _ _ (by omega)))
set_option maxRecDepth 100000 in
set_option maxHeartbeats 1000000 in
theorem compare_any (w : World) (a b : Int) : Calls Try.prog 32 #[.int .i64 a, .int .i64 b] w (RetV (.int .i64 (cmpP a b)) w) := by
  by_cases h1 : a < b
  · have HW : Hid (cmpP a b = -1) := by rw [Hid, cmpP, if_pos h1]
    go_enter Try.func32, Try.ntmps32
    go_wp2_with fail
    refine (nan_any _ _).mono ?_; rintro e w1 ⟨rfl, hk_w1⟩; haveI p_w1 : PrevWorld w1 _ := ⟨hk_w1⟩; have hz_w1 : w.heap.size ≤ w1.heap.size := Kept.size (by repeat (first | with_reducible exact HK.out | with_reducible exact Kept.refl _ _ | with_reducible refine Kept.prev ?_ | with_reducible refine Kept.alloc' ?_ _ | with_reducible refine Kept.drew' ?_ | with_reducible refine Kept.setB ?_ _ _ _ (by omega) | with_reducible refine Kept.row' ?_ _ _ (by omega) | with_reducible refine Kept.map' ?_ _ _ (by omega))); clear hk_w1
    go_wp2_with fail
    refine (nan_any _ _).mono ?_; rintro e w2 ⟨rfl, hk_w2⟩; haveI p_w2 : PrevWorld w2 _ := ⟨hk_w2⟩; have hz_w2 : w.heap.size ≤ w2.heap.size := Kept.size (by repeat (first | with_reducible exact HK.out | with_reducible exact Kept.refl _ _ | with_reducible refine Kept.prev ?_ | with_reducible refine Kept.alloc' ?_ _ | with_reducible refine Kept.drew' ?_ | with_reducible refine Kept.setB ?_ _ _ _ (by omega) | with_reducible refine Kept.row' ?_ _ _ (by omega) | with_reducible refine Kept.map' ?_ _ _ (by omega))); clear hk_w2
    go_wp2_with fail
    rw [HW.out]
    exact bodyPost_v rfl (res1 Try.results32 (resT rfl)) (by repeat (first | with_reducible exact HK.out | with_reducible exact Kept.refl _ _ | with_reducible refine Kept.prev ?_ | with_reducible refine Kept.alloc' ?_ _ | with_reducible refine Kept.drew' ?_ | with_reducible refine Kept.setB ?_ _ _ _ (by omega) | with_reducible refine Kept.row' ?_ _ _ (by omega) | with_reducible refine Kept.map' ?_ _ _ (by omega)))
  by_cases h2 : b < a
  · have HW : Hid (cmpP a b = 1) := by rw [Hid, cmpP, if_neg h1, if_pos h2]
    go_enter Try.func32, Try.ntmps32
    go_wp2_with fail
    refine (nan_any _ _).mono ?_; rintro e w1 ⟨rfl, hk_w1⟩; haveI p_w1 : PrevWorld w1 _ := ⟨hk_w1⟩; have hz_w1 : w.heap.size ≤ w1.heap.size := Kept.size (by repeat (first | with_reducible exact HK.out | with_reducible exact Kept.refl _ _ | with_reducible refine Kept.prev ?_ | with_reducible refine Kept.alloc' ?_ _ | with_reducible refine Kept.drew' ?_ | with_reducible refine Kept.setB ?_ _ _ _ (by omega) | with_reducible refine Kept.row' ?_ _ _ (by omega) | with_reducible refine Kept.map' ?_ _ _ (by omega))); clear hk_w1
    go_wp2_with fail
    refine (nan_any _ _).mono ?_; rintro e w2 ⟨rfl, hk_w2⟩; haveI p_w2 : PrevWorld w2 _ := ⟨hk_w2⟩; have hz_w2 : w.heap.size ≤ w2.heap.size := Kept.size (by repeat (first | with_reducible exact HK.out | with_reducible exact Kept.refl _ _ | with_reducible refine Kept.prev ?_ | with_reducible refine Kept.alloc' ?_ _ | with_reducible refine Kept.drew' ?_ | with_reducible refine Kept.setB ?_ _ _ _ (by omega) | with_reducible refine Kept.row' ?_ _ _ (by omega) | with_reducible refine Kept.map' ?_ _ _ (by omega))); clear hk_w2
    go_wp2_with fail
    rw [HW.out]
    exact bodyPost_v rfl (res1 Try.results32 (resT rfl)) (by repeat (first | with_reducible exact HK.out | with_reducible exact Kept.refl _ _ | with_reducible refine Kept.prev ?_ | with_reducible refine Kept.alloc' ?_ _ | with_reducible refine Kept.drew' ?_ | with_reducible refine Kept.setB ?_ _ _ _ (by omega) | with_reducible refine Kept.row' ?_ _ _ (by omega) | with_reducible refine Kept.map' ?_ _ _ (by omega)))
  have HW : Hid (cmpP a b = 0) := by rw [Hid, cmpP, if_neg h1, if_neg h2]
  have h3 : b ≤ a := by omega
  have h4 : a ≤ b := by omega
  go_enter Try.func32, Try.ntmps32
  go_wp2_with fail
  refine (nan_any _ _).mono ?_; rintro e w1 ⟨rfl, hk_w1⟩; haveI p_w1 : PrevWorld w1 _ := ⟨hk_w1⟩; have hz_w1 : w.heap.size ≤ w1.heap.size := Kept.size (by repeat (first | with_reducible exact HK.out | with_reducible exact Kept.refl _ _ | with_reducible refine Kept.prev ?_ | with_reducible refine Kept.alloc' ?_ _ | with_reducible refine Kept.drew' ?_ | with_reducible refine Kept.setB ?_ _ _ _ (by omega) | with_reducible refine Kept.row' ?_ _ _ (by omega) | with_reducible refine Kept.map' ?_ _ _ (by omega))); clear hk_w1
  go_wp2_with fail
  refine (nan_any _ _).mono ?_; rintro e w2 ⟨rfl, hk_w2⟩; haveI p_w2 : PrevWorld w2 _ := ⟨hk_w2⟩; have hz_w2 : w.heap.size ≤ w2.heap.size := Kept.size (by repeat (first | with_reducible exact HK.out | with_reducible exact Kept.refl _ _ | with_reducible refine Kept.prev ?_ | with_reducible refine Kept.alloc' ?_ _ | with_reducible refine Kept.drew' ?_ | with_reducible refine Kept.setB ?_ _ _ _ (by omega) | with_reducible refine Kept.row' ?_ _ _ (by omega) | with_reducible refine Kept.map' ?_ _ _ (by omega))); clear hk_w2
  go_wp2_with fail
  rw [HW.out]
  exact bodyPost_v rfl (res1 Try.results32 (resT rfl)) (by repeat (first | with_reducible exact HK.out | with_reducible exact Kept.refl _ _ | with_reducible refine Kept.prev ?_ | with_reducible refine Kept.alloc' ?_ _ | with_reducible refine Kept.drew' ?_ | with_reducible refine Kept.setB ?_ _ _ _ (by omega) | with_reducible refine Kept.row' ?_ _ _ (by omega) | with_reducible refine Kept.map' ?_ _ _ (by omega)))
theorem test0_any (w : World) (c : Int) : Calls Try.prog 81 #[.int .i64 c] w (RetV (.bool (c == 0)) w) := by
  go_enter Try.func81, Try.ntmps81
  go_wp2_with fail
  exact bodyPost_v rfl (res1 Try.results81 (resT rfl)) (by repeat (first | with_reducible exact HK.out | with_reducible exact Kept.refl _ _ | with_reducible refine Kept.prev ?_ | with_reducible refine Kept.alloc' ?_ _ | with_reducible refine Kept.drew' ?_ | with_reducible refine Kept.setB ?_ _ _ _ (by omega) | with_reducible refine Kept.row' ?_ _ _ (by omega) | with_reducible refine Kept.map' ?_ _ _ (by omega)))
theorem test1_any (w : World) (c : Int) : Calls Try.prog 82 #[.int .i64 c] w (RetV (.bool (c != 0)) w) := by
  go_enter Try.func82, Try.ntmps82
  go_wp2_with fail
  exact bodyPost_v rfl (res1 Try.results82 (resT rfl)) (by repeat (first | with_reducible exact HK.out | with_reducible exact Kept.refl _ _ | with_reducible refine Kept.prev ?_ | with_reducible refine Kept.alloc' ?_ _ | with_reducible refine Kept.drew' ?_ | with_reducible refine Kept.setB ?_ _ _ _ (by omega) | with_reducible refine Kept.row' ?_ _ _ (by omega) | with_reducible refine Kept.map' ?_ _ _ (by omega)))
theorem test2_any (w : World) (c : Int) : Calls Try.prog 83 #[.int .i64 c] w (RetV (.bool (decide (c < 0))) w) := by
  go_enter Try.func83, Try.ntmps83
  go_wp2_with fail
  exact bodyPost_v rfl (res1 Try.results83 (resT rfl)) (by repeat (first | with_reducible exact HK.out | with_reducible exact Kept.refl _ _ | with_reducible refine Kept.prev ?_ | with_reducible refine Kept.alloc' ?_ _ | with_reducible refine Kept.drew' ?_ | with_reducible refine Kept.setB ?_ _ _ _ (by omega) | with_reducible refine Kept.row' ?_ _ _ (by omega) | with_reducible refine Kept.map' ?_ _ _ (by omega)))
theorem test3_any (w : World) (c : Int) : Calls Try.prog 84 #[.int .i64 c] w (RetV (.bool (decide (c ≤ 0))) w) := by
  go_enter Try.func84, Try.ntmps84
  go_wp2_with fail
  exact bodyPost_v rfl (res1 Try.results84 (resT rfl)) (by repeat (first | with_reducible exact HK.out | with_reducible exact Kept.refl _ _ | with_reducible refine Kept.prev ?_ | with_reducible refine Kept.alloc' ?_ _ | with_reducible refine Kept.drew' ?_ | with_reducible refine Kept.setB ?_ _ _ _ (by omega) | with_reducible refine Kept.row' ?_ _ _ (by omega) | with_reducible refine Kept.map' ?_ _ _ (by omega)))
theorem test4_any (w : World) (c : Int) : Calls Try.prog 85 #[.int .i64 c] w (RetV (.bool (decide (0 < c))) w) := by
  go_enter Try.func85, Try.ntmps85
  go_wp2_with fail
  exact bodyPost_v rfl (res1 Try.results85 (resT rfl)) (by repeat (first | with_reducible exact HK.out | with_reducible exact Kept.refl _ _ | with_reducible refine Kept.prev ?_ | with_reducible refine Kept.alloc' ?_ _ | with_reducible refine Kept.drew' ?_ | with_reducible refine Kept.setB ?_ _ _ _ (by omega) | with_reducible refine Kept.row' ?_ _ _ (by omega) | with_reducible refine Kept.map' ?_ _ _ (by omega)))
theorem test5_any (w : World) (c : Int) : Calls Try.prog 86 #[.int .i64 c] w (RetV (.bool (decide (0 ≤ c))) w) := by
  go_enter Try.func86, Try.ntmps86
  go_wp2_with fail
  exact bodyPost_v rfl (res1 Try.results86 (resT rfl)) (by repeat (first | with_reducible exact HK.out | with_reducible exact Kept.refl _ _ | with_reducible refine Kept.prev ?_ | with_reducible refine Kept.alloc' ?_ _ | with_reducible refine Kept.drew' ?_ | with_reducible refine Kept.setB ?_ _ _ _ (by omega) | with_reducible refine Kept.row' ?_ _ _ (by omega) | with_reducible refine Kept.map' ?_ _ _ (by omega)))
/-- A test of a comparison's result. -/
structure TestF (K : Nat) (p : Int → Bool) : Prop where
  eg : ∀ args w, (callFunc K args).run Try.prog w = .ok (.enter K args) w
  run : ∀ W c, Calls Try.prog K #[.int .i64 c] W (RetV (.bool (p c)) W)

set_option maxRecDepth 100000 in
set_option maxHeartbeats 1000000 in
theorem cmpf_any (w : World) (B K : Nat) (p : Int → Bool) (a b : Int) (hK : TestF K p) [hB : BoxIs w B 147 #[.func (.func K) #[] #[]]] :
    Calls Try.prog 74 #[.int .i64 a, .int .i64 b, .pointer (some ⟨B, 0, none⟩)] w (RetV (.int .i64 (truthP (p (cmpP a b)))) w) := by
  have eg := hK.eg
  have HR := Lib.hid hK.run
  clear hK
  go_enter Try.func74, Try.ntmps74
  go_wp2_with fail
  refine wp_region_head 7 0 (fun _ => .cells #[] 0) (by kernel_rfl) (by kernel_rfl) (fun i o h1 h2 => by omega) (fun _ _ _ _ _ h => h) ?_; apply Exists.intro; refine ⟨fun U hU hN => ?_, ?_⟩; simp only [List.take_succ_cons, List.take_zero]
  · repeat (go_big_quiet_step (first | exact Calls.headV hU (compare_any _ _ _) | exact Calls.headV hU (HR.out _ _) | exact Calls.headV hU (truth_any _ _)))
    refine wpQuiet_nil ?_
    exact rfl
  simp only [List.drop_succ_cons, List.drop_zero, List.take_succ_cons, List.take_zero]
  intro w4 hk4 _
  haveI p_w4 : PrevWorld w4 _ := ⟨hk4⟩
  go_wp2_with fail
  exact bodyPost_v rfl (res1 Try.results74 (resT rfl)) (by repeat (first | with_reducible exact HK.out | with_reducible exact Kept.refl _ _ | with_reducible refine Kept.prev ?_ | with_reducible refine Kept.alloc' ?_ _ | with_reducible refine Kept.drew' ?_ | with_reducible refine Kept.setB ?_ _ _ _ (by omega) | with_reducible refine Kept.row' ?_ _ _ (by omega) | with_reducible refine Kept.map' ?_ _ _ (by omega)))

theorem Try.infoOp2 : (Try.prog.info? 124).map (·.size) = some 2 := by kernel_rfl
instance (w : World) (B : Nat) (cs : Array Value) [h : BoxIs w B 124 cs] [n : CsLen cs 2] : LoadsAs w 124 ⟨B, 0, none⟩ (.agg cs) := ⟨by
  have := run_loadVar_mid (P := Try.prog) w B 0 124 cs.toList _ (range_is (by simpa using h.has)) Try.underlying124 rfl (by rw [Try.infoOp2]; simp [n.len])
  simpa using this⟩
/-- A comparison's operator. -/
def RetCmp (K : Nat) (w : World) (e : Ending) (w' : World) : Prop := ∃ B, e = .returned (.agg #[.bool false, .func (.func 74) #[] #[.pointer (some ⟨B, 0, none⟩)]]) ∧ BoxIs w' B 147 #[.func (.func K) #[] #[]] ∧ Kept [] w w'
set_option maxRecDepth 100000 in
set_option maxHeartbeats 1000000 in
theorem opc_any (w : World) (K : Nat) : Calls Try.prog 73 #[.func (.func K) #[] #[]] w (RetCmp K w) := by
  go_enter Try.func73, Try.ntmps73
  go_wp2_with fail
  go_outline
  exact bodyPost_ret (res1 Try.results73 (resC rfl inferInstance)) rfl ⟨_, rfl, inferInstance, (by repeat (first | with_reducible exact HK.out | with_reducible exact Kept.refl _ _ | with_reducible refine Kept.prev ?_ | with_reducible refine Kept.alloc' ?_ _ | with_reducible refine Kept.drew' ?_ | with_reducible refine Kept.setB ?_ _ _ _ (by omega) | with_reducible refine Kept.row' ?_ _ _ (by omega) | with_reducible refine Kept.map' ?_ _ _ (by omega)))⟩
end Go.Proofs.Ytgdjhhfbpalkdaa
