/- slices.IndexFunc, slices.ContainsFunc over expressions; all. The operators. -/
import Derived.Test.YtgdjhhfbpalkdaaGreatS9
import Derived.Shelf.Abstract
import Derived.Test.YtgdjhhfbpalkdaaGreatV1
import Derived.Laws.EntriesVeiled
namespace Go.Proofs.YtgdjhhfbpalkdaaGreat
open Go.RowKit

@[go_sem] theorem Tryz.mkFunc (fn : Fn) (first cap : Array Value) (w : World) : (Instr.makeFunc fn first cap).run Tryz.prog w = .ok (.func fn first cap) w := rfl
theorem any_not (p : ExV → Bool) : ∀ l : List ExV, (l.any fun y => !p y) = !l.all p
  | [] => rfl
  | y :: l => by simp only [List.any_cons, List.all_cons, any_not p l, Bool.not_and]
/-- An index that is not negative, or -1. -/
def RetIdx (b : Bool) (w : World) (e : Ending) (w' : World) : Prop := ∃ i : Int, e = .returned (.int .i64 i) ∧ decide (0 ≤ i) = b ∧ Kept [] w w'

set_option maxRecDepth 100000 in
set_option maxHeartbeats 1000000 in
theorem indexE_any (w : World) (a : Option Addr) (c : Nat) (xs : List ExV) (hm : xs.length ≤ 140737488355328) (hI : RowsAt ExV 9 ExV.cells w a xs) (K : Nat) (caps : Array Value) (p : ExV → Bool) (eg : ∀ args w, (callFunc K args).run Tryz.prog w = .ok (.enter K args) w)
    (hp : ∀ W x, Kept [] w W → x ∈ xs → Calls Tryz.prog K (#[.agg x.cells.toArray] ++ caps) W (RetB (p x) W)) :
    Calls Tryz.prog 113 #[.slice a xs.length c, .func (.func K) #[] caps] w (RetIdx (xs.any p) w) := by
  have HI := Lib.hid hI
  have HP := Lib.hid hp
  clear hI hp
  go_enter Tryz.func113, Tryz.ntmps113
  go_wp2_with fail
  go_loopw [8] (fun i wr => ∃ k : Nat, k ≤ xs.length ∧ i = .int .i64 k ∧ (xs.take k).any p = false ∧ Kept [] w wr) (fun i _ => xs.length - (intOf i).toNat)
  case atStart => exact ⟨0, Nat.zero_le _, rfl, rfl, Kept.refl _ _⟩
  case round =>
    obtain ⟨k, hk, rfl, hn, hkr⟩ := hrel
    have HN := Lib.hid hn
    have HK := Lib.hid hkr
    clear hn hkr
    obtain ⟨wo, rfl⟩ : ∃ wo : World, wo = wr := ⟨_, rfl⟩
    by_cases hlt : k < xs.length
    · obtain ⟨x, hx⟩ : ∃ x, xs[k]? = some x := ⟨_, List.getElem?_eq_getElem hlt⟩
      have HX := Lib.hid hx
      rcases HI.out with h0 | ⟨b, o, rfl, hcx⟩
      · rw [h0] at hlt; simp at hlt
      · haveI ie : ExAt wo b (o + k * 9) x := ⟨fun j u hu => HK.out.cell (hcx k x hx j u hu) (by simp)⟩
        clear hcx hx
        go_wp2_with fail
        refine (HP.out _ _ HK.out (List.mem_of_getElem? HX.out)).mono ?_
        rintro e w2 ⟨rfl, hk2⟩
        have HK2 := Lib.hid (HK.out.trans hk2)
        have HS : Hid ((xs.take (k + 1)).any p = p x) := by
          obtain ⟨hk', e⟩ := List.getElem?_eq_some_iff.1 HX.out
          rw [Hid, List.take_succ_eq_append_getElem hk', e, List.any_append, HN.out]
          simp
        have HA : Hid (p x = true → xs.any p = true) := fun h => List.any_eq_true.2 ⟨x, List.mem_of_getElem? HX.out, h⟩
        clear hk2 HK ie
        cases hpx : p x
        · rw [hpx] at HS
          clear hpx HA
          go_wp2_with fail
          go_roundw
          case rel => exact ⟨k + 1, by omega, by go_num, HS.out, HK2.out⟩
          case measure => simp [intOf]; omega
        · have HA2 := Lib.hid (HA.out hpx)
          clear hpx HA HS
          go_wp2_with fail
          go_ret
          exact ⟨_, rfl, by rw [HA2.out]; simp, HK2.out⟩
    · obtain rfl : k = xs.length := by omega
      have HN2 := Lib.hid (by have := HN.out; rw [List.take_length] at this; exact this)
      clear HN
      go_wp2_with fail
      go_ret
      exact ⟨_, rfl, by rw [HN2.out]; simp, HK.out⟩

set_option maxHeartbeats 1000000 in
theorem containsE_any (w : World) (a : Option Addr) (c : Nat) (xs : List ExV) (hm : xs.length ≤ 140737488355328) (hI : RowsAt ExV 9 ExV.cells w a xs) (K : Nat) (caps : Array Value) (p : ExV → Bool) (eg : ∀ args w, (callFunc K args).run Tryz.prog w = .ok (.enter K args) w)
    (hp : ∀ W x, Kept [] w W → x ∈ xs → Calls Tryz.prog K (#[.agg x.cells.toArray] ++ caps) W (RetB (p x) W)) :
    Calls Tryz.prog 82 #[.slice a xs.length c, .func (.func K) #[] caps] w (RetB (xs.any p) w) := by
  have HC := Lib.hid (indexE_any w a c xs hm hI K caps p eg hp)
  clear hp hI eg
  go_enter Tryz.func82, Tryz.ntmps82
  go_wp2_with fail
  refine HC.out.mono ?_
  rintro e w2 ⟨i, rfl, hi, hk⟩
  have HI := Lib.hid hi
  have HK := Lib.hid hk
  clear hi hk HC
  go_wp2_with fail
  go_ret
  rw [HI.out]
  exact ⟨rfl, HK.out⟩

theorem Tryz.entersAll1 : ∀ args w, (callFunc 83 args).run Tryz.prog w = .ok (.enter 83 args) w := Go.Proofs.enters_of Tryz.func83 (by kernel_rfl) rfl

set_option maxRecDepth 100000 in
set_option maxHeartbeats 1000000 in
theorem all1_any (w : World) (B : Nat) (v : TabV) (t : Tab) (y : ExV) (n : Nat) (ih : IsAt v t n) [hB : BoxIs w B 61 (v.cells t)] (hT : TabIn w v t) (hy : ExIn w n y) :
    Calls Tryz.prog 83 #[.agg y.cells.toArray, .pointer (some ⟨B, 0, none⟩)] w (RetB (!isP t n y) w) := by
  have HS := Lib.hid (fun w' (hk : Kept [] w w') => ih w' y (hT.kept hk) (hy.kept hk))
  unfold TabV.cells at HS hB
  clear ih hT hy
  go_enter Tryz.func83, Tryz.ntmps83
  go_wp2_with fail
  refine (HS.out _ (by repeat (first | with_reducible exact HK.out | with_reducible exact Kept.refl _ _ | with_reducible refine Kept.prev ?_ | with_reducible refine Kept.alloc' ?_ _ | with_reducible refine Kept.drew' ?_ | with_reducible refine Kept.setB ?_ _ _ _ (by omega) | with_reducible refine Kept.row' ?_ _ _ (by omega) | with_reducible refine Kept.map' ?_ _ _ (by omega)))).mono ?_; rintro e w1 ⟨rfl, hk_w1⟩; haveI p_w1 : PrevWorld w1 _ := ⟨hk_w1⟩; have hz_w1 : w.heap.size ≤ w1.heap.size := Kept.size (by repeat (first | with_reducible exact HK.out | with_reducible exact Kept.refl _ _ | with_reducible refine Kept.prev ?_ | with_reducible refine Kept.alloc' ?_ _ | with_reducible refine Kept.drew' ?_ | with_reducible refine Kept.setB ?_ _ _ _ (by omega) | with_reducible refine Kept.row' ?_ _ _ (by omega) | with_reducible refine Kept.map' ?_ _ _ (by omega))); clear hk_w1
  go_wp2_with fail
  go_ret
  exact ⟨rfl, (by repeat (first | with_reducible exact HK.out | with_reducible exact Kept.refl _ _ | with_reducible refine Kept.prev ?_ | with_reducible refine Kept.alloc' ?_ _ | with_reducible refine Kept.drew' ?_ | with_reducible refine Kept.setB ?_ _ _ _ (by omega) | with_reducible refine Kept.row' ?_ _ _ (by omega) | with_reducible refine Kept.map' ?_ _ _ (by omega)))⟩

set_option maxRecDepth 100000 in
set_option maxHeartbeats 1000000 in
theorem all_any (w : World) (v : TabV) (t : Tab) (a : Option Addr) (c : Nat) (xs : List ExV) (n k : Nat) (ih : IsAt v t n) (hT : TabIn w v t) (hm : xs.length ≤ 140737488355328) (hI : RowsAt ExV 9 ExV.cells w a xs) (hx : ∀ y, y ∈ xs → ExIn w n y) :
    Calls Tryz.prog 55 #[.agg (v.cells t), .slice a xs.length c, .int .i64 (k : Int)] w (RetV (.bool (allF (isP t n) xs k)) w) := by
  have HV : Hid (allF (isP t n) xs k = (decide (xs.length = k) && xs.all (isP t n))) := rfl
  have HC : Hid (∀ w' (hk : Kept [] w w') (B : Nat) (hB : BoxIs w' B 61 (v.cells t)), Calls Tryz.prog 82 #[.slice a xs.length c, .func (.func 83) #[] #[.pointer (some ⟨B, 0, none⟩)]] w' (RetB (xs.any fun y => !isP t n y) w')) := fun w' hk B hB =>
    containsE_any w' a c xs hm (hI.kept hk) _ _ _ Tryz.entersAll1 (fun W y hW hy => by
      haveI : BoxIs W B 61 (v.cells t) := hB.kept hW
      exact all1_any W B v t y n ih (hT.kept (hk.trans hW)) ((hx y hy).kept (hk.trans hW)))
  have HN : Hid ((xs.any fun y => !isP t n y) = !xs.all (isP t n)) := any_not _ _
  unfold TabV.cells at *
  clear ih hT hI hx
  go_enter Tryz.func55, Tryz.ntmps55
  by_cases e : xs.length = k
  · have e2 : ((xs.length : Int) == (k : Int)) = true := by simp [e]
    have HE := Lib.hid e
    clear e
    go_wp2_with fail
    refine (HC.out _ (by repeat (first | with_reducible exact HK.out | with_reducible exact Kept.refl _ _ | with_reducible refine Kept.prev ?_ | with_reducible refine Kept.alloc' ?_ _ | with_reducible refine Kept.drew' ?_ | with_reducible refine Kept.setB ?_ _ _ _ (by omega) | with_reducible refine Kept.row' ?_ _ _ (by omega) | with_reducible refine Kept.map' ?_ _ _ (by omega))) _ (by infer_instance)).mono ?_
    rintro e w1 ⟨rfl, hk1⟩
    haveI p_w1 : PrevWorld w1 _ := ⟨hk1⟩
    clear hk1 HC
    rw [HN.out]
    clear HN
    generalize xs.all (isP t n) = q at *
    go_wp2_with fail
    rw [HV.out]
    exact bodyPost_v rfl (res1 Tryz.results55 (resT (by simp [HE.out]))) (by repeat (first | with_reducible exact HK.out | with_reducible exact Kept.refl _ _ | with_reducible refine Kept.prev ?_ | with_reducible refine Kept.alloc' ?_ _ | with_reducible refine Kept.drew' ?_ | with_reducible refine Kept.setB ?_ _ _ _ (by omega) | with_reducible refine Kept.row' ?_ _ _ (by omega) | with_reducible refine Kept.map' ?_ _ _ (by omega)))
  · have e2 : ((xs.length : Int) == (k : Int)) = false := by simp; omega
    have HW : Hid (allF (isP t n) xs k = false) := by rw [Hid, HV.out]; simp [e]
    clear HC HN HV e
    go_wp2_with fail
    rw [HW.out]
    exact bodyPost_v rfl (res1 Tryz.results55 (resT rfl)) (by repeat (first | with_reducible exact HK.out | with_reducible exact Kept.refl _ _ | with_reducible refine Kept.prev ?_ | with_reducible refine Kept.alloc' ?_ _ | with_reducible refine Kept.drew' ?_ | with_reducible refine Kept.setB ?_ _ _ _ (by omega) | with_reducible refine Kept.row' ?_ _ _ (by omega) | with_reducible refine Kept.map' ?_ _ _ (by omega)))
end Go.Proofs.YtgdjhhfbpalkdaaGreat
namespace Go.Proofs.YtgdjhhfbpalkdaaGreat
open Go.RowKit

def cmpP (a b : Int) : Int := if a < b then -1 else if b < a then 1 else 0
theorem nan_any (w : World) (a : Int) : Calls Tryz.prog 66 #[.int .i64 a] w (RetV (.bool false) w) := by
  go_enter Tryz.func66, Tryz.ntmps66
  go_wp2_with fail
  exact bodyPost_v rfl (res1 Tryz.results66 (resT rfl)) (by repeat (first | with_reducible exact HK.out | with_reducible exact Kept.refl _ _ | with_reducible refine Kept.prev ?_ | with_reducible refine Kept.alloc' ?_ _ | with_reducible refine Kept.drew' ?_ | with_reducible refine Kept.setB ?_ _ _ _ (by omega) | with_reducible refine Kept.row' ?_ _ _ (by omega) | with_reducible refine Kept.map' ?_ _ _ (by omega)))
set_option maxRecDepth 100000 in
set_option maxHeartbeats 1000000 in
theorem compare_any (w : World) (a b : Int) : Calls Tryz.prog 42 #[.int .i64 a, .int .i64 b] w (RetV (.int .i64 (cmpP a b)) w) := by
  by_cases h1 : a < b
  · have HW : Hid (cmpP a b = -1) := by rw [Hid, cmpP, if_pos h1]
    go_enter Tryz.func42, Tryz.ntmps42
    go_wp2_with fail
    refine (nan_any _ _).mono ?_; rintro e w1 ⟨rfl, hk_w1⟩; haveI p_w1 : PrevWorld w1 _ := ⟨hk_w1⟩; have hz_w1 : w.heap.size ≤ w1.heap.size := Kept.size (by repeat (first | with_reducible exact HK.out | with_reducible exact Kept.refl _ _ | with_reducible refine Kept.prev ?_ | with_reducible refine Kept.alloc' ?_ _ | with_reducible refine Kept.drew' ?_ | with_reducible refine Kept.setB ?_ _ _ _ (by omega) | with_reducible refine Kept.row' ?_ _ _ (by omega) | with_reducible refine Kept.map' ?_ _ _ (by omega))); clear hk_w1
    go_wp2_with fail
    refine (nan_any _ _).mono ?_; rintro e w2 ⟨rfl, hk_w2⟩; haveI p_w2 : PrevWorld w2 _ := ⟨hk_w2⟩; have hz_w2 : w.heap.size ≤ w2.heap.size := Kept.size (by repeat (first | with_reducible exact HK.out | with_reducible exact Kept.refl _ _ | with_reducible refine Kept.prev ?_ | with_reducible refine Kept.alloc' ?_ _ | with_reducible refine Kept.drew' ?_ | with_reducible refine Kept.setB ?_ _ _ _ (by omega) | with_reducible refine Kept.row' ?_ _ _ (by omega) | with_reducible refine Kept.map' ?_ _ _ (by omega))); clear hk_w2
    go_wp2_with fail
    rw [HW.out]
    exact bodyPost_v rfl (res1 Tryz.results42 (resT rfl)) (by repeat (first | with_reducible exact HK.out | with_reducible exact Kept.refl _ _ | with_reducible refine Kept.prev ?_ | with_reducible refine Kept.alloc' ?_ _ | with_reducible refine Kept.drew' ?_ | with_reducible refine Kept.setB ?_ _ _ _ (by omega) | with_reducible refine Kept.row' ?_ _ _ (by omega) | with_reducible refine Kept.map' ?_ _ _ (by omega)))
  by_cases h2 : b < a
  · have HW : Hid (cmpP a b = 1) := by rw [Hid, cmpP, if_neg h1, if_pos h2]
    go_enter Tryz.func42, Tryz.ntmps42
    go_wp2_with fail
    refine (nan_any _ _).mono ?_; rintro e w1 ⟨rfl, hk_w1⟩; haveI p_w1 : PrevWorld w1 _ := ⟨hk_w1⟩; have hz_w1 : w.heap.size ≤ w1.heap.size := Kept.size (by repeat (first | with_reducible exact HK.out | with_reducible exact Kept.refl _ _ | with_reducible refine Kept.prev ?_ | with_reducible refine Kept.alloc' ?_ _ | with_reducible refine Kept.drew' ?_ | with_reducible refine Kept.setB ?_ _ _ _ (by omega) | with_reducible refine Kept.row' ?_ _ _ (by omega) | with_reducible refine Kept.map' ?_ _ _ (by omega))); clear hk_w1
    go_wp2_with fail
    refine (nan_any _ _).mono ?_; rintro e w2 ⟨rfl, hk_w2⟩; haveI p_w2 : PrevWorld w2 _ := ⟨hk_w2⟩; have hz_w2 : w.heap.size ≤ w2.heap.size := Kept.size (by repeat (first | with_reducible exact HK.out | with_reducible exact Kept.refl _ _ | with_reducible refine Kept.prev ?_ | with_reducible refine Kept.alloc' ?_ _ | with_reducible refine Kept.drew' ?_ | with_reducible refine Kept.setB ?_ _ _ _ (by omega) | with_reducible refine Kept.row' ?_ _ _ (by omega) | with_reducible refine Kept.map' ?_ _ _ (by omega))); clear hk_w2
    go_wp2_with fail
    rw [HW.out]
    exact bodyPost_v rfl (res1 Tryz.results42 (resT rfl)) (by repeat (first | with_reducible exact HK.out | with_reducible exact Kept.refl _ _ | with_reducible refine Kept.prev ?_ | with_reducible refine Kept.alloc' ?_ _ | with_reducible refine Kept.drew' ?_ | with_reducible refine Kept.setB ?_ _ _ _ (by omega) | with_reducible refine Kept.row' ?_ _ _ (by omega) | with_reducible refine Kept.map' ?_ _ _ (by omega)))
  have HW : Hid (cmpP a b = 0) := by rw [Hid, cmpP, if_neg h1, if_neg h2]
  have h3 : b ≤ a := by omega
  have h4 : a ≤ b := by omega
  go_enter Tryz.func42, Tryz.ntmps42
  go_wp2_with fail
  refine (nan_any _ _).mono ?_; rintro e w1 ⟨rfl, hk_w1⟩; haveI p_w1 : PrevWorld w1 _ := ⟨hk_w1⟩; have hz_w1 : w.heap.size ≤ w1.heap.size := Kept.size (by repeat (first | with_reducible exact HK.out | with_reducible exact Kept.refl _ _ | with_reducible refine Kept.prev ?_ | with_reducible refine Kept.alloc' ?_ _ | with_reducible refine Kept.drew' ?_ | with_reducible refine Kept.setB ?_ _ _ _ (by omega) | with_reducible refine Kept.row' ?_ _ _ (by omega) | with_reducible refine Kept.map' ?_ _ _ (by omega))); clear hk_w1
  go_wp2_with fail
  refine (nan_any _ _).mono ?_; rintro e w2 ⟨rfl, hk_w2⟩; haveI p_w2 : PrevWorld w2 _ := ⟨hk_w2⟩; have hz_w2 : w.heap.size ≤ w2.heap.size := Kept.size (by repeat (first | with_reducible exact HK.out | with_reducible exact Kept.refl _ _ | with_reducible refine Kept.prev ?_ | with_reducible refine Kept.alloc' ?_ _ | with_reducible refine Kept.drew' ?_ | with_reducible refine Kept.setB ?_ _ _ _ (by omega) | with_reducible refine Kept.row' ?_ _ _ (by omega) | with_reducible refine Kept.map' ?_ _ _ (by omega))); clear hk_w2
  go_wp2_with fail
  rw [HW.out]
  exact bodyPost_v rfl (res1 Tryz.results42 (resT rfl)) (by repeat (first | with_reducible exact HK.out | with_reducible exact Kept.refl _ _ | with_reducible refine Kept.prev ?_ | with_reducible refine Kept.alloc' ?_ _ | with_reducible refine Kept.drew' ?_ | with_reducible refine Kept.setB ?_ _ _ _ (by omega) | with_reducible refine Kept.row' ?_ _ _ (by omega) | with_reducible refine Kept.map' ?_ _ _ (by omega)))
theorem test0_any (w : World) (c : Int) : Calls Tryz.prog 104 #[.int .i64 c] w (RetV (.bool (c == 0)) w) := by
  go_enter Tryz.func104, Tryz.ntmps104
  go_wp2_with fail
  exact bodyPost_v rfl (res1 Tryz.results104 (resT rfl)) (by repeat (first | with_reducible exact HK.out | with_reducible exact Kept.refl _ _ | with_reducible refine Kept.prev ?_ | with_reducible refine Kept.alloc' ?_ _ | with_reducible refine Kept.drew' ?_ | with_reducible refine Kept.setB ?_ _ _ _ (by omega) | with_reducible refine Kept.row' ?_ _ _ (by omega) | with_reducible refine Kept.map' ?_ _ _ (by omega)))
theorem test1_any (w : World) (c : Int) : Calls Tryz.prog 105 #[.int .i64 c] w (RetV (.bool (c != 0)) w) := by
  go_enter Tryz.func105, Tryz.ntmps105
  go_wp2_with fail
  exact bodyPost_v rfl (res1 Tryz.results105 (resT rfl)) (by repeat (first | with_reducible exact HK.out | with_reducible exact Kept.refl _ _ | with_reducible refine Kept.prev ?_ | with_reducible refine Kept.alloc' ?_ _ | with_reducible refine Kept.drew' ?_ | with_reducible refine Kept.setB ?_ _ _ _ (by omega) | with_reducible refine Kept.row' ?_ _ _ (by omega) | with_reducible refine Kept.map' ?_ _ _ (by omega)))
theorem test2_any (w : World) (c : Int) : Calls Tryz.prog 106 #[.int .i64 c] w (RetV (.bool (decide (c < 0))) w) := by
  go_enter Tryz.func106, Tryz.ntmps106
  go_wp2_with fail
  exact bodyPost_v rfl (res1 Tryz.results106 (resT rfl)) (by repeat (first | with_reducible exact HK.out | with_reducible exact Kept.refl _ _ | with_reducible refine Kept.prev ?_ | with_reducible refine Kept.alloc' ?_ _ | with_reducible refine Kept.drew' ?_ | with_reducible refine Kept.setB ?_ _ _ _ (by omega) | with_reducible refine Kept.row' ?_ _ _ (by omega) | with_reducible refine Kept.map' ?_ _ _ (by omega)))
theorem test3_any (w : World) (c : Int) : Calls Tryz.prog 107 #[.int .i64 c] w (RetV (.bool (decide (c ≤ 0))) w) := by
  go_enter Tryz.func107, Tryz.ntmps107
  go_wp2_with fail
  exact bodyPost_v rfl (res1 Tryz.results107 (resT rfl)) (by repeat (first | with_reducible exact HK.out | with_reducible exact Kept.refl _ _ | with_reducible refine Kept.prev ?_ | with_reducible refine Kept.alloc' ?_ _ | with_reducible refine Kept.drew' ?_ | with_reducible refine Kept.setB ?_ _ _ _ (by omega) | with_reducible refine Kept.row' ?_ _ _ (by omega) | with_reducible refine Kept.map' ?_ _ _ (by omega)))
theorem test4_any (w : World) (c : Int) : Calls Tryz.prog 108 #[.int .i64 c] w (RetV (.bool (decide (0 < c))) w) := by
  go_enter Tryz.func108, Tryz.ntmps108
  go_wp2_with fail
  exact bodyPost_v rfl (res1 Tryz.results108 (resT rfl)) (by repeat (first | with_reducible exact HK.out | with_reducible exact Kept.refl _ _ | with_reducible refine Kept.prev ?_ | with_reducible refine Kept.alloc' ?_ _ | with_reducible refine Kept.drew' ?_ | with_reducible refine Kept.setB ?_ _ _ _ (by omega) | with_reducible refine Kept.row' ?_ _ _ (by omega) | with_reducible refine Kept.map' ?_ _ _ (by omega)))
theorem test5_any (w : World) (c : Int) : Calls Tryz.prog 109 #[.int .i64 c] w (RetV (.bool (decide (0 ≤ c))) w) := by
  go_enter Tryz.func109, Tryz.ntmps109
  go_wp2_with fail
  exact bodyPost_v rfl (res1 Tryz.results109 (resT rfl)) (by repeat (first | with_reducible exact HK.out | with_reducible exact Kept.refl _ _ | with_reducible refine Kept.prev ?_ | with_reducible refine Kept.alloc' ?_ _ | with_reducible refine Kept.drew' ?_ | with_reducible refine Kept.setB ?_ _ _ _ (by omega) | with_reducible refine Kept.row' ?_ _ _ (by omega) | with_reducible refine Kept.map' ?_ _ _ (by omega)))
/-- A test of a comparison's result. -/
structure TestF (K : Nat) (p : Int → Bool) : Prop where
  eg : ∀ args w, (callFunc K args).run Tryz.prog w = .ok (.enter K args) w
  run : ∀ W c, Calls Tryz.prog K #[.int .i64 c] W (RetV (.bool (p c)) W)

set_option maxRecDepth 100000 in
set_option maxHeartbeats 1000000 in
theorem cmpf_any (w : World) (B K : Nat) (p : Int → Bool) (a b : Int) (hK : TestF K p) [hB : BoxIs w B 168 #[.func (.func K) #[] #[]]] :
    Calls Tryz.prog 97 #[.int .i64 a, .int .i64 b, .pointer (some ⟨B, 0, none⟩)] w (RetV (.int .i64 (truthP (p (cmpP a b)))) w) := by
  have eg := hK.eg
  have HR := Lib.hid hK.run
  clear hK
  go_enter Tryz.func97, Tryz.ntmps97
  go_wp2_with fail
  refine wp_region_head 7 0 (fun _ => .cells #[] 0) (by kernel_rfl) (by kernel_rfl) (fun i o h1 h2 => by omega) (fun _ _ _ _ _ h => h) ?_; apply Exists.intro; refine ⟨fun U hU hN => ?_, ?_⟩; simp only [List.take_succ_cons, List.take_zero]
  · repeat (go_big_quiet_step (first | exact Calls.headV hU (compare_any _ _ _) | exact Calls.headV hU (HR.out _ _) | exact Calls.headV hU (truth_any _ _)))
    refine wpQuiet_nil ?_
    exact rfl
  simp only [List.drop_succ_cons, List.drop_zero, List.take_zero]
  intro w4 hk4 _
  haveI p_w4 : PrevWorld w4 _ := ⟨hk4⟩
  go_wp2_with fail
  exact bodyPost_v rfl (res1 Tryz.results97 (resT rfl)) (by repeat (first | with_reducible exact HK.out | with_reducible exact Kept.refl _ _ | with_reducible refine Kept.prev ?_ | with_reducible refine Kept.alloc' ?_ _ | with_reducible refine Kept.drew' ?_ | with_reducible refine Kept.setB ?_ _ _ _ (by omega) | with_reducible refine Kept.row' ?_ _ _ (by omega) | with_reducible refine Kept.map' ?_ _ _ (by omega)))

theorem Tryz.infoOp2 : (Tryz.prog.info? 144).map (·.size) = some 2 := by kernel_rfl
instance (w : World) (B : Nat) (cs : Array Value) [h : BoxIs w B 144 cs] [n : CsLen cs 2] : LoadsAs w 144 ⟨B, 0, none⟩ (.agg cs) := ⟨by
  have := run_loadVar_mid (P := Tryz.prog) w B 0 144 cs.toList _ (range_is (by simpa using h.has)) Tryz.underlying144 rfl (by rw [Tryz.infoOp2]; simp [n.len])
  simpa using this⟩
/-- A comparison's operator. -/
def RetCmp (K : Nat) (w : World) (e : Ending) (w' : World) : Prop := ∃ B, e = .returned (.agg #[.bool false, .func (.func 97) #[] #[.pointer (some ⟨B, 0, none⟩)]]) ∧ BoxIs w' B 168 #[.func (.func K) #[] #[]] ∧ Kept [] w w'
set_option maxRecDepth 100000 in
set_option maxHeartbeats 1000000 in
theorem opc_any (w : World) (K : Nat) : Calls Tryz.prog 96 #[.func (.func K) #[] #[]] w (RetCmp K w) := by
  go_enter Tryz.func96, Tryz.ntmps96
  go_wp2_with fail
  go_outline
  exact bodyPost_ret (res1 Tryz.results96 (resC rfl inferInstance)) rfl ⟨_, rfl, inferInstance, (by repeat (first | with_reducible exact HK.out | with_reducible exact Kept.refl _ _ | with_reducible refine Kept.prev ?_ | with_reducible refine Kept.alloc' ?_ _ | with_reducible refine Kept.drew' ?_ | with_reducible refine Kept.setB ?_ _ _ _ (by omega) | with_reducible refine Kept.row' ?_ _ _ (by omega) | with_reducible refine Kept.map' ?_ _ _ (by omega)))⟩
end Go.Proofs.YtgdjhhfbpalkdaaGreat
