/- Value; inside. Building the rows that Range goes over: an expression and a pointer. Rows of an expression and a pointer: what is loaded from them, what is stored. -/
import Derived.Test.YtgdjhhfbpalkdaaV14
import Derived.Test.YtgdjhhfbpalkdaaK15
import Derived.Test.YtgdjhhfbpalkdaaK12
namespace Go.Proofs.Ytgdjhhfbpalkdaa
open Go.RowKit

theorem Value_any (w : World) (v : TabV) (t : Tab) (x : ExV) (n : Nat) (hT : TabIn w v t) (hx : ExIn w n x) : Calls Try.prog 7 #[.agg (v.cells t), .agg x.cells.toArray] w (RetV (.tuple #[.int .i64 (valueP t n x).1, .int .i64 (valueP t n x).2]) w) :=
  Value_of w v t x n (val_any v t n) hT hx
/-- Whether a range is in a subtype: the error. -/
def insideP (t : Tab) (sub : Int) (b : Bd) : Int :=
  if b.1 ≤ b.2 then match rangeP t sub with
    | some r => if b.1 < r.1 ∨ r.2 < b.2 then 4 else 0
    | none => 4
  else 0
set_option maxRecDepth 100000 in
set_option maxHeartbeats 2000000 in
theorem inside_any (w : World) (v : TabV) (t : Tab) (sub : Int) (b : Bd) (hT : TabIn w v t) : Calls Try.prog 35 #[.agg (v.cells t), .int .i64 sub, .agg #[.int .i64 b.1, .int .i64 b.2]] w (RetV (.int .i64 (insideP t sub b)) w) := by
  have HR := Lib.hid (fun w' (hk : Kept [] w w') => range_any w' v t sub (hT.kept hk))
  have HM : Hid (insideP t sub b = if b.1 ≤ b.2 then (match rangeP t sub with
    | some r => if b.1 < r.1 ∨ r.2 < b.2 then (4 : Int) else 0
    | none => (4 : Int)) else 0) := rfl
  clear hT
  obtain ⟨lo, hi⟩ := b
  simp only at HM
  unfold TabV.cells at *
  unfold bd3V at HR
  by_cases c1 : lo ≤ hi
  rotate_left
  · have HW : Hid (insideP t sub (lo, hi) = 0) := by rw [Hid, HM.out, if_neg c1]
    go_enter Try.func35, Try.ntmps35
    go_wp2_with fail
    refine (HR.out _ (by repeat (first | with_reducible exact HK.out | with_reducible exact Kept.refl _ _ | with_reducible refine Kept.prev ?_ | with_reducible refine Kept.alloc' ?_ _ | with_reducible refine Kept.drew' ?_ | with_reducible refine Kept.setB ?_ _ _ _ (by omega) | with_reducible refine Kept.row' ?_ _ _ (by omega) | with_reducible refine Kept.map' ?_ _ _ (by omega)))).mono ?_; rintro e w2 ⟨rfl, hk_w2⟩; haveI p_w2 : PrevWorld w2 _ := ⟨hk_w2⟩; have hz_w2 : w.heap.size ≤ w2.heap.size := Kept.size (by repeat (first | with_reducible exact HK.out | with_reducible exact Kept.refl _ _ | with_reducible refine Kept.prev ?_ | with_reducible refine Kept.alloc' ?_ _ | with_reducible refine Kept.drew' ?_ | with_reducible refine Kept.setB ?_ _ _ _ (by omega) | with_reducible refine Kept.row' ?_ _ _ (by omega) | with_reducible refine Kept.map' ?_ _ _ (by omega))); clear hk_w2
    go_wp2_with fail
    rw [HW.out]
    exact bodyPost_v rfl (res1 Try.results35 (resT rfl)) (by repeat (first | with_reducible exact HK.out | with_reducible exact Kept.refl _ _ | with_reducible refine Kept.prev ?_ | with_reducible refine Kept.alloc' ?_ _ | with_reducible refine Kept.drew' ?_ | with_reducible refine Kept.setB ?_ _ _ _ (by omega) | with_reducible refine Kept.row' ?_ _ _ (by omega) | with_reducible refine Kept.map' ?_ _ _ (by omega)))
  cases hr : rangeP t sub with
  | none =>
    have HW : Hid (insideP t sub (lo, hi) = 4) := by rw [Hid, HM.out, if_pos c1, hr]
    rw [hr] at HR
    simp only [Option.getD_none, Option.isSome_none] at HR
    go_enter Try.func35, Try.ntmps35
    go_wp2_with fail
    refine (HR.out _ (by repeat (first | with_reducible exact HK.out | with_reducible exact Kept.refl _ _ | with_reducible refine Kept.prev ?_ | with_reducible refine Kept.alloc' ?_ _ | with_reducible refine Kept.drew' ?_ | with_reducible refine Kept.setB ?_ _ _ _ (by omega) | with_reducible refine Kept.row' ?_ _ _ (by omega) | with_reducible refine Kept.map' ?_ _ _ (by omega)))).mono ?_; rintro e w2 ⟨rfl, hk_w2⟩; haveI p_w2 : PrevWorld w2 _ := ⟨hk_w2⟩; have hz_w2 : w.heap.size ≤ w2.heap.size := Kept.size (by repeat (first | with_reducible exact HK.out | with_reducible exact Kept.refl _ _ | with_reducible refine Kept.prev ?_ | with_reducible refine Kept.alloc' ?_ _ | with_reducible refine Kept.drew' ?_ | with_reducible refine Kept.setB ?_ _ _ _ (by omega) | with_reducible refine Kept.row' ?_ _ _ (by omega) | with_reducible refine Kept.map' ?_ _ _ (by omega))); clear hk_w2
    go_wp2_with fail
    rw [HW.out]
    exact bodyPost_v rfl (res1 Try.results35 (resT rfl)) (by repeat (first | with_reducible exact HK.out | with_reducible exact Kept.refl _ _ | with_reducible refine Kept.prev ?_ | with_reducible refine Kept.alloc' ?_ _ | with_reducible refine Kept.drew' ?_ | with_reducible refine Kept.setB ?_ _ _ _ (by omega) | with_reducible refine Kept.row' ?_ _ _ (by omega) | with_reducible refine Kept.map' ?_ _ _ (by omega)))
  | some r =>
    obtain ⟨rl, rh⟩ := r
    have HM2 : Hid (insideP t sub (lo, hi) = if lo < rl ∨ rh < hi then 4 else 0) := by rw [Hid, HM.out, if_pos c1, hr]
    rw [hr] at HR
    simp only [Option.getD_some, Option.isSome_some] at HR
    clear HM hr
    by_cases c2 : lo < rl
    · have HW : Hid (insideP t sub (lo, hi) = 4) := by rw [Hid, HM2.out, if_pos (.inl c2)]
      go_enter Try.func35, Try.ntmps35
      go_wp2_with fail
      refine (HR.out _ (by repeat (first | with_reducible exact HK.out | with_reducible exact Kept.refl _ _ | with_reducible refine Kept.prev ?_ | with_reducible refine Kept.alloc' ?_ _ | with_reducible refine Kept.drew' ?_ | with_reducible refine Kept.setB ?_ _ _ _ (by omega) | with_reducible refine Kept.row' ?_ _ _ (by omega) | with_reducible refine Kept.map' ?_ _ _ (by omega)))).mono ?_; rintro e w2 ⟨rfl, hk_w2⟩; haveI p_w2 : PrevWorld w2 _ := ⟨hk_w2⟩; have hz_w2 : w.heap.size ≤ w2.heap.size := Kept.size (by repeat (first | with_reducible exact HK.out | with_reducible exact Kept.refl _ _ | with_reducible refine Kept.prev ?_ | with_reducible refine Kept.alloc' ?_ _ | with_reducible refine Kept.drew' ?_ | with_reducible refine Kept.setB ?_ _ _ _ (by omega) | with_reducible refine Kept.row' ?_ _ _ (by omega) | with_reducible refine Kept.map' ?_ _ _ (by omega))); clear hk_w2
      go_wp2_with fail
      rw [HW.out]
      exact bodyPost_v rfl (res1 Try.results35 (resT rfl)) (by repeat (first | with_reducible exact HK.out | with_reducible exact Kept.refl _ _ | with_reducible refine Kept.prev ?_ | with_reducible refine Kept.alloc' ?_ _ | with_reducible refine Kept.drew' ?_ | with_reducible refine Kept.setB ?_ _ _ _ (by omega) | with_reducible refine Kept.row' ?_ _ _ (by omega) | with_reducible refine Kept.map' ?_ _ _ (by omega)))
    by_cases c3 : rh < hi
    · have HW : Hid (insideP t sub (lo, hi) = 4) := by rw [Hid, HM2.out, if_pos (.inr c3)]
      go_enter Try.func35, Try.ntmps35
      go_wp2_with fail
      refine (HR.out _ (by repeat (first | with_reducible exact HK.out | with_reducible exact Kept.refl _ _ | with_reducible refine Kept.prev ?_ | with_reducible refine Kept.alloc' ?_ _ | with_reducible refine Kept.drew' ?_ | with_reducible refine Kept.setB ?_ _ _ _ (by omega) | with_reducible refine Kept.row' ?_ _ _ (by omega) | with_reducible refine Kept.map' ?_ _ _ (by omega)))).mono ?_; rintro e w2 ⟨rfl, hk_w2⟩; haveI p_w2 : PrevWorld w2 _ := ⟨hk_w2⟩; have hz_w2 : w.heap.size ≤ w2.heap.size := Kept.size (by repeat (first | with_reducible exact HK.out | with_reducible exact Kept.refl _ _ | with_reducible refine Kept.prev ?_ | with_reducible refine Kept.alloc' ?_ _ | with_reducible refine Kept.drew' ?_ | with_reducible refine Kept.setB ?_ _ _ _ (by omega) | with_reducible refine Kept.row' ?_ _ _ (by omega) | with_reducible refine Kept.map' ?_ _ _ (by omega))); clear hk_w2
      go_wp2_with fail
      rw [HW.out]
      exact bodyPost_v rfl (res1 Try.results35 (resT rfl)) (by repeat (first | with_reducible exact HK.out | with_reducible exact Kept.refl _ _ | with_reducible refine Kept.prev ?_ | with_reducible refine Kept.alloc' ?_ _ | with_reducible refine Kept.drew' ?_ | with_reducible refine Kept.setB ?_ _ _ _ (by omega) | with_reducible refine Kept.row' ?_ _ _ (by omega) | with_reducible refine Kept.map' ?_ _ _ (by omega)))
    have HW : Hid (insideP t sub (lo, hi) = 0) := by rw [Hid, HM2.out, if_neg (by rintro (h | h) <;> contradiction)]
    have c4 : rl ≤ lo := by omega
    have c5 : hi ≤ rh := by omega
    go_enter Try.func35, Try.ntmps35
    go_wp2_with fail
    refine (HR.out _ (by repeat (first | with_reducible exact HK.out | with_reducible exact Kept.refl _ _ | with_reducible refine Kept.prev ?_ | with_reducible refine Kept.alloc' ?_ _ | with_reducible refine Kept.drew' ?_ | with_reducible refine Kept.setB ?_ _ _ _ (by omega) | with_reducible refine Kept.row' ?_ _ _ (by omega) | with_reducible refine Kept.map' ?_ _ _ (by omega)))).mono ?_; rintro e w2 ⟨rfl, hk_w2⟩; haveI p_w2 : PrevWorld w2 _ := ⟨hk_w2⟩; have hz_w2 : w.heap.size ≤ w2.heap.size := Kept.size (by repeat (first | with_reducible exact HK.out | with_reducible exact Kept.refl _ _ | with_reducible refine Kept.prev ?_ | with_reducible refine Kept.alloc' ?_ _ | with_reducible refine Kept.drew' ?_ | with_reducible refine Kept.setB ?_ _ _ _ (by omega) | with_reducible refine Kept.row' ?_ _ _ (by omega) | with_reducible refine Kept.map' ?_ _ _ (by omega))); clear hk_w2
    go_wp2_with fail
    rw [HW.out]
    exact bodyPost_v rfl (res1 Try.results35 (resT rfl)) (by repeat (first | with_reducible exact HK.out | with_reducible exact Kept.refl _ _ | with_reducible refine Kept.prev ?_ | with_reducible refine Kept.alloc' ?_ _ | with_reducible refine Kept.drew' ?_ | with_reducible refine Kept.setB ?_ _ _ _ (by omega) | with_reducible refine Kept.row' ?_ _ _ (by omega) | with_reducible refine Kept.map' ?_ _ _ (by omega)))
end Go.Proofs.Ytgdjhhfbpalkdaa
namespace Go.Proofs.Ytgdjhhfbpalkdaa
open Go.RowKit
/-- The cells of an expression and a pointer. -/
def toCells (x : ExV) (p : Value) : List Value := x.cells ++ [p]
def buildTo (x p : Value) : Sem Next := do return .value (← Instr.build 97 #[(0, x), (1, p)])
@[go_sem ↓] theorem execOp_buildTo (ρ : Operand → Value) (dst : Option Tmp) (x p : Operand) (ty : TypeId) (pos : String) (after : Array Edge) (guard : Option (Nat × Bool)) :
    execOp ρ { dst, op := .build 97 #[(0, x), (1, p)], type := ty, pos, after, guard } = buildTo (ρ x) (ρ p) := by simp [execOp, buildTo]
@[go_sem] theorem run_buildTo (w : World) (x : ExV) (p : Addr) : Sem.run Try.prog (buildTo (.agg x.cells.toArray) (.pointer (some p))) w = .ok (.value (.agg (toCells x (.pointer (some p))).toArray)) w := by kernel_rfl
def buildTwo (a b : Value) : Sem Next := do return .value (← Instr.buildSlice 98 2 #[(0, a), (1, b)])
@[go_sem ↓] theorem execOp_buildTwo (ρ : Operand → Value) (dst : Option Tmp) (a b : Operand) (ty : TypeId) (pos : String) (after : Array Edge) (guard : Option (Nat × Bool)) :
    execOp ρ { dst, op := .buildSlice 98 2 #[(0, a), (1, b)], type := ty, pos, after, guard } = buildTwo (ρ a) (ρ b) := by simp [execOp, buildTwo]
@[go_sem] theorem run_buildTwo (w : World) (x y : ExV) (p q : Addr) : Sem.run Try.prog (buildTwo (.agg (toCells x (.pointer (some p))).toArray) (.agg (toCells y (.pointer (some q))).toArray)) w =
    .ok (.value (.slice (some ⟨w.heap.size, 0, none⟩) 2 2)) (w.alloc (.cells (toCells x (.pointer (some p)) ++ toCells y (.pointer (some q))).toArray 97)) := by kernel_rfl
end Go.Proofs.Ytgdjhhfbpalkdaa
namespace Go.Proofs.Ytgdjhhfbpalkdaa
open Go.RowKit
theorem to_len (x : ExV) (p : Value) : (toCells x p).length = 10 := rfl
theorem Try.infoTo (x : ExV) (p : Value) : (Try.prog.info? 97).map (·.size) = some (toCells x p).length := by
  show _ = some 10
  kernel_rfl
theorem to_one (x : ExV) (p : Addr) : (toCells x (.pointer (some p))).toArray.all (fun u => u.oneCell') = true := by simp [toCells, ExV.cells, Value.oneCell']
/-- A row lies at an address. -/
class ToAt (w : World) (b o : Nat) (x : outParam ExV) (p : outParam Addr) : Prop where
  range : w.rangeAt b o (toCells x (.pointer (some p)))
instance (w : World) (B : Nat) (x y : ExV) (p q : Addr) [h : BoxIs w B 97 (toCells x (.pointer (some p)) ++ toCells y (.pointer (some q))).toArray] : ToAt w B 0 x p := ⟨fun j u hu => by
  have := (List.getElem?_eq_some_iff.1 hu).1
  rw [Nat.zero_add, cell_of_row _ _ _ _ _ _ h.has]
  rw [List.getElem?_toArray, List.getElem?_append_left this]
  exact hu⟩
instance (w : World) (B : Nat) (x y : ExV) (p q : Addr) [h : BoxIs w B 97 (toCells x (.pointer (some p)) ++ toCells y (.pointer (some q))).toArray] : ToAt w B 10 y q := ⟨fun j u hu => by
  rw [cell_of_row _ _ _ _ _ _ h.has, List.getElem?_toArray, List.getElem?_append_right (by rw [to_len]; omega), to_len, Nat.add_sub_cancel_left]
  exact hu⟩
def loadTo (v : Value) : Sem Next := do return .value (← Instr.loadAt 97 v)
@[go_sem ↓] theorem execOp_loadTo (ρ : Operand → Value) (dst : Option Tmp) (x : Operand) (ty : TypeId) (pos : String) (after : Array Edge) (guard : Option (Nat × Bool)) :
    execOp ρ { dst, op := .load 97 x, type := ty, pos, after, guard } = loadTo (ρ x) := rfl
@[go_sem] theorem run_loadTo (w : World) (b o : Nat) (x : ExV) (p : Addr) [h : ToAt w b o x p] : Sem.run Try.prog (loadTo (.pointer (some ⟨b, o, none⟩))) w = .ok (.value (.agg (toCells x (.pointer (some p))).toArray)) w := by
  simp only [loadTo, Instr.loadAt, Instr.sureAddr, Sem.run_bind, Sem.run_pure, Result.andThen_ok, run_loadVar_mid w b o 97 (toCells x (.pointer (some p))) _ h.range Try.underlying97 rfl (Try.infoTo x _)]
instance (w : World) (B : Nat) (a0 a1 a2 a3 a4 a5 a6 a7 a8 a9 : Value) [h : BoxIs w B 97 #[a0, a1, a2, a3, a4, a5, a6, a7, a8, a9]] : BoxOf 97 10 w B := ⟨⟨_, h.has, rfl⟩⟩
@[go_sem] theorem Try.storeToBox (x : ExV) (p : Addr) (w : World) (B : Nat) [h : BoxOf 97 10 w B] : Sem.run Try.prog (storeCells ⟨B, 0, none⟩ (toCells x (.pointer (some p)))) w = .ok () (w.setRow B (toCells x (.pointer (some p))).toArray) := by
  obtain ⟨c, hc, hs⟩ := h.has
  have := run_storeVar_row (P := Try.prog) w B 97 97 c (toCells x (.pointer (some p))).toArray hc (by simpa using Try.infoTo x (.pointer (some p))) (by rw [hs]; rfl) (to_one x p)
  cases hq : Try.prog.info? 97 with
  | none => have h1 := Try.infoTo x (.pointer (some p)); rw [hq] at h1; cases h1
  | some i =>
    have hsz : (toCells x (.pointer (some p))).toArray.size = i.size := by have := Try.infoTo x (.pointer (some p)); simp [hq] at this; simp; omega
    simpa [storeVar, sizeOf, typeInfo, hq, Value.cells, hsz] using this
instance (w : World) (B : Nat) (x : ExV) (p : Value) [h : BoxIs w B 97 (toCells x p).toArray] : ExAt w B 0 x := ⟨fun j u hu => by
  have := (List.getElem?_eq_some_iff.1 hu).1
  rw [Nat.zero_add, cell_of_row _ _ _ _ _ _ h.has]
  rw [List.getElem?_toArray, toCells, List.getElem?_append_left this]
  exact hu⟩
@[go_sem] theorem to_9 (x : ExV) (p : Value) : (toCells x p).toArray[9]? = some p := rfl
@[go_sem] theorem to_get9 (x : ExV) (p : Value) (h : 9 < (toCells x p).length) : (toCells x p)[9]'h = p := rfl
end Go.Proofs.Ytgdjhhfbpalkdaa
