/- Building the rows that Range goes over: an expression and a pointer. Rows of an expression and a pointer: what is loaded from them, what is stored. Range. choice. -/
import Derived.Test.YtgdjhhfbpalkdaaGreatK15
import Derived.Test.YtgdjhhfbpalkdaaGreatV1
import Derived.Test.YtgdjhhfbpalkdaaGreatV15
import Derived.LoopN
import Derived.Test.YtgdjhhfbpalkdaaGreatO1
namespace Go.Proofs.YtgdjhhfbpalkdaaGreat
open Go.RowKit
/-- The cells of an expression and a pointer. -/
def toCells (x : ExV) (p : Value) : List Value := x.cells ++ [p]
def buildTo (x p : Value) : Sem Next := do return .value (← Instr.build 92 #[(0, x), (1, p)])
@[go_sem ↓] theorem execOp_buildTo (ρ : Operand → Value) (dst : Option Tmp) (x p : Operand) (ty : TypeId) (pos : String) (after : Array Edge) (guard : Option (Nat × Bool)) :
    execOp ρ { dst, op := .build 92 #[(0, x), (1, p)], type := ty, pos, after, guard } = buildTo (ρ x) (ρ p) := by simp [execOp, buildTo]
@[go_sem] theorem run_buildTo (w : World) (x : ExV) (p : Addr) : Sem.run Tryz.prog (buildTo (.agg x.cells.toArray) (.pointer (some p))) w = .ok (.value (.agg (toCells x (.pointer (some p))).toArray)) w := by kernel_rfl
def buildTwo (a b : Value) : Sem Next := do return .value (← Instr.buildSlice 93 2 #[(0, a), (1, b)])
@[go_sem ↓] theorem execOp_buildTwo (ρ : Operand → Value) (dst : Option Tmp) (a b : Operand) (ty : TypeId) (pos : String) (after : Array Edge) (guard : Option (Nat × Bool)) :
    execOp ρ { dst, op := .buildSlice 93 2 #[(0, a), (1, b)], type := ty, pos, after, guard } = buildTwo (ρ a) (ρ b) := by simp [execOp, buildTwo]
@[go_sem] theorem run_buildTwo (w : World) (x y : ExV) (p q : Addr) : Sem.run Tryz.prog (buildTwo (.agg (toCells x (.pointer (some p))).toArray) (.agg (toCells y (.pointer (some q))).toArray)) w =
    .ok (.value (.slice (some ⟨w.heap.size, 0, none⟩) 2 2)) (w.alloc (.cells (toCells x (.pointer (some p)) ++ toCells y (.pointer (some q))).toArray 92)) := by kernel_rfl
end Go.Proofs.YtgdjhhfbpalkdaaGreat
namespace Go.Proofs.YtgdjhhfbpalkdaaGreat
open Go.RowKit
theorem to_len (x : ExV) (p : Value) : (toCells x p).length = 10 := rfl
theorem Tryz.infoTo (x : ExV) (p : Value) : (Tryz.prog.info? 92).map (·.size) = some (toCells x p).length := by
  show _ = some 10
  kernel_rfl
theorem to_one (x : ExV) (p : Addr) : (toCells x (.pointer (some p))).toArray.all (fun u => u.oneCell') = true := by simp [toCells, ExV.cells, Value.oneCell']
/-- A row lies at an address. -/
class ToAt (w : World) (b o : Nat) (x : outParam ExV) (p : outParam Addr) : Prop where
  range : w.rangeAt b o (toCells x (.pointer (some p)))
instance (w : World) (B : Nat) (x y : ExV) (p q : Addr) [h : BoxIs w B 92 (toCells x (.pointer (some p)) ++ toCells y (.pointer (some q))).toArray] : ToAt w B 0 x p := ⟨fun j u hu => by
  have := (List.getElem?_eq_some_iff.1 hu).1
  rw [Nat.zero_add, cell_of_row _ _ _ _ _ _ h.has]
  rw [List.getElem?_toArray, List.getElem?_append_left this]
  exact hu⟩
instance (w : World) (B : Nat) (x y : ExV) (p q : Addr) [h : BoxIs w B 92 (toCells x (.pointer (some p)) ++ toCells y (.pointer (some q))).toArray] : ToAt w B 10 y q := ⟨fun j u hu => by
  rw [cell_of_row _ _ _ _ _ _ h.has, List.getElem?_toArray, List.getElem?_append_right (by rw [to_len]; omega), to_len, Nat.add_sub_cancel_left]
  exact hu⟩
def loadTo (v : Value) : Sem Next := do return .value (← Instr.loadAt 92 v)
@[go_sem ↓] theorem execOp_loadTo (ρ : Operand → Value) (dst : Option Tmp) (x : Operand) (ty : TypeId) (pos : String) (after : Array Edge) (guard : Option (Nat × Bool)) :
    execOp ρ { dst, op := .load 92 x, type := ty, pos, after, guard } = loadTo (ρ x) := rfl
@[go_sem] theorem run_loadTo (w : World) (b o : Nat) (x : ExV) (p : Addr) [h : ToAt w b o x p] : Sem.run Tryz.prog (loadTo (.pointer (some ⟨b, o, none⟩))) w = .ok (.value (.agg (toCells x (.pointer (some p))).toArray)) w := by
  simp only [loadTo, Instr.loadAt, Instr.sureAddr, Sem.run_bind, Sem.run_pure, Result.andThen_ok, run_loadVar_mid w b o 92 (toCells x (.pointer (some p))) _ h.range Tryz.underlying92 rfl (Tryz.infoTo x _)]
instance (w : World) (B : Nat) (a0 a1 a2 a3 a4 a5 a6 a7 a8 a9 : Value) [h : BoxIs w B 92 #[a0, a1, a2, a3, a4, a5, a6, a7, a8, a9]] : BoxOf 92 10 w B := ⟨⟨_, h.has, rfl⟩⟩
@[go_sem] theorem Tryz.storeToBox (x : ExV) (p : Addr) (w : World) (B : Nat) [h : BoxOf 92 10 w B] : Sem.run Tryz.prog (storeCells ⟨B, 0, none⟩ (toCells x (.pointer (some p)))) w = .ok () (w.setRow B (toCells x (.pointer (some p))).toArray) := by
  obtain ⟨c, hc, hs⟩ := h.has
  have := run_storeVar_row (P := Tryz.prog) w B 92 92 c (toCells x (.pointer (some p))).toArray hc (by simpa using Tryz.infoTo x (.pointer (some p))) (by rw [hs]; rfl) (to_one x p)
  cases hq : Tryz.prog.info? 92 with
  | none => have h1 := Tryz.infoTo x (.pointer (some p)); rw [hq] at h1; cases h1
  | some i =>
    have hsz : (toCells x (.pointer (some p))).toArray.size = i.size := by have := Tryz.infoTo x (.pointer (some p)); simp [hq] at this; simp; omega
    simpa [storeVar, sizeOf, typeInfo, hq, Value.cells, hsz] using this
instance (w : World) (B : Nat) (x : ExV) (p : Value) [h : BoxIs w B 92 (toCells x p).toArray] : ExAt w B 0 x := ⟨fun j u hu => by
  have := (List.getElem?_eq_some_iff.1 hu).1
  rw [Nat.zero_add, cell_of_row _ _ _ _ _ _ h.has]
  rw [List.getElem?_toArray, toCells, List.getElem?_append_left this]
  exact hu⟩
@[go_sem] theorem to_9 (x : ExV) (p : Value) : (toCells x p).toArray[9]? = some p := rfl
@[go_sem] theorem to_get9 (x : ExV) (p : Value) (h : 9 < (toCells x p).length) : (toCells x p)[9]'h = p := rfl
end Go.Proofs.YtgdjhhfbpalkdaaGreat
namespace Go.Proofs.YtgdjhhfbpalkdaaGreat
open Go.RowKit
/-- A range of two expressions, in a subtype; -1: no subtype. -/
def rngP (t : Tab) (n : Nat) (sub : Int) (x y : ExV) : Bd × Int :=
  if (valueP t n x).2 ≠ 0 then ((0, 0), (valueP t n x).2)
  else if (valueP t n y).2 ≠ 0 then ((0, 0), (valueP t n y).2)
  else if sub ≠ -1 ∧ insideP t sub ((valueP t n x).1, (valueP t n y).1) ≠ 0 then ((0, 0), 4)
  else (((valueP t n x).1, (valueP t n y).1), 0)
theorem rngP_eq (t : Tab) (n : Nat) (sub : Int) (x y : ExV) : rngP t n sub x y =
    if (valueP t n x).2 ≠ 0 then ((0, 0), (valueP t n x).2)
    else if (valueP t n y).2 ≠ 0 then ((0, 0), (valueP t n y).2)
    else if sub ≠ -1 ∧ insideP t sub ((valueP t n x).1, (valueP t n y).1) ≠ 0 then ((0, 0), 4)
    else (((valueP t n x).1, (valueP t n y).1), 0) := rfl
set_option maxRecDepth 100000 in
set_option maxHeartbeats 4000000 in
theorem Range_any (w : World) (v : TabV) (t : Tab) (sub : Int) (x y : ExV) (n : Nat) (hT : TabIn w v t) (hx : ExIn w n x) (hy : ExIn w n y) :
    Calls Tryz.prog 11 #[.agg (v.cells t), .int .i64 sub, .agg x.cells.toArray, .agg y.cells.toArray] w (RetV (.tuple #[.agg #[.int .i64 (rngP t n sub x y).1.1, .int .i64 (rngP t n sub x y).1.2], .int .i64 (rngP t n sub x y).2]) w) := by
  have HX := Lib.hid (fun w' (hk : Kept [] w w') => Value_any w' v t x n (hT.kept hk) (hx.kept hk))
  have HY := Lib.hid (fun w' (hk : Kept [] w w') => Value_any w' v t y n (hT.kept hk) (hy.kept hk))
  have HI := Lib.hid (fun w' b (hk : Kept [] w w') => inside_any w' v t sub b (hT.kept hk))
  have HR := Lib.hid (rngP_eq t n sub x y)
  clear hT hx hy
  generalize rngP t n sub x y = R at *
  generalize (valueP t n x).1 = vx at *
  generalize (valueP t n x).2 = ex at *
  generalize (valueP t n y).1 = vy at *
  generalize (valueP t n y).2 = ey at *
  unfold TabV.cells at *
  go_enter Tryz.func11, Tryz.ntmps11
  go_wp2_with fail
  refine wp_loop_rounds 3 ?_
  rw [rounds_succ]
  go_wp2_with fail
  refine (HX.out _ (by repeat (first | with_reducible exact HK.out | with_reducible exact Kept.refl _ _ | with_reducible refine Kept.prev ?_ | with_reducible refine Kept.alloc' ?_ _ | with_reducible refine Kept.drew' ?_ | with_reducible refine Kept.setB ?_ _ _ _ (by omega) | with_reducible refine Kept.row' ?_ _ _ (by omega) | with_reducible refine Kept.map' ?_ _ _ (by omega)))).mono ?_; rintro e w2 ⟨rfl, hk_w2⟩; haveI p_w2 : PrevWorld w2 _ := ⟨hk_w2⟩; have hz_w2 : w.heap.size ≤ w2.heap.size := Kept.size (by repeat (first | with_reducible exact HK.out | with_reducible exact Kept.refl _ _ | with_reducible refine Kept.prev ?_ | with_reducible refine Kept.alloc' ?_ _ | with_reducible refine Kept.drew' ?_ | with_reducible refine Kept.setB ?_ _ _ _ (by omega) | with_reducible refine Kept.row' ?_ _ _ (by omega) | with_reducible refine Kept.map' ?_ _ _ (by omega))); clear hk_w2
  by_cases c1 : ex = 0
  rotate_left
  · have HW : Hid (R = ((0, 0), ex)) := by rw [Hid, HR.out, if_pos c1]
    have c2 : (ex == 0) = false := by simp [c1]
    clear HR c1 HX HY HI
    go_wp2_with fail
    rw [HW.out]
    exact bodyPost_v rfl (res2 Tryz.results11 (resC rfl inferInstance) (resT rfl)) (by repeat (first | with_reducible exact HK.out | with_reducible exact Kept.refl _ _ | with_reducible refine Kept.prev ?_ | with_reducible refine Kept.alloc' ?_ _ | with_reducible refine Kept.drew' ?_ | with_reducible refine Kept.setB ?_ _ _ _ (by omega) | with_reducible refine Kept.row' ?_ _ _ (by omega) | with_reducible refine Kept.map' ?_ _ _ (by omega)))
  subst c1
  have HR2 : Hid (R = if ey ≠ 0 then ((0, 0), ey) else if sub ≠ -1 ∧ insideP t sub (vx, vy) ≠ 0 then ((0, 0), 4) else ((vx, vy), 0)) := by rw [Hid, HR.out]; rfl
  clear HR HX
  go_wp2_with fail
  rw [rounds_succ]
  go_wp2_with fail
  refine (HY.out _ (by repeat (first | with_reducible exact HK.out | with_reducible exact Kept.refl _ _ | with_reducible refine Kept.prev ?_ | with_reducible refine Kept.alloc' ?_ _ | with_reducible refine Kept.drew' ?_ | with_reducible refine Kept.setB ?_ _ _ _ (by omega) | with_reducible refine Kept.row' ?_ _ _ (by omega) | with_reducible refine Kept.map' ?_ _ _ (by omega)))).mono ?_; rintro e w3 ⟨rfl, hk_w3⟩; haveI p_w3 : PrevWorld w3 _ := ⟨hk_w3⟩; have hz_w3 : w.heap.size ≤ w3.heap.size := Kept.size (by repeat (first | with_reducible exact HK.out | with_reducible exact Kept.refl _ _ | with_reducible refine Kept.prev ?_ | with_reducible refine Kept.alloc' ?_ _ | with_reducible refine Kept.drew' ?_ | with_reducible refine Kept.setB ?_ _ _ _ (by omega) | with_reducible refine Kept.row' ?_ _ _ (by omega) | with_reducible refine Kept.map' ?_ _ _ (by omega))); clear hk_w3
  by_cases c1 : ey = 0
  rotate_left
  · have HW : Hid (R = ((0, 0), ey)) := by rw [Hid, HR2.out, if_pos c1]
    have c2 : (ey == 0) = false := by simp [c1]
    clear HR2 c1 HY HI
    go_wp2_with fail
    rw [HW.out]
    exact bodyPost_v rfl (res2 Tryz.results11 (resC rfl inferInstance) (resT rfl)) (by repeat (first | with_reducible exact HK.out | with_reducible exact Kept.refl _ _ | with_reducible refine Kept.prev ?_ | with_reducible refine Kept.alloc' ?_ _ | with_reducible refine Kept.drew' ?_ | with_reducible refine Kept.setB ?_ _ _ _ (by omega) | with_reducible refine Kept.row' ?_ _ _ (by omega) | with_reducible refine Kept.map' ?_ _ _ (by omega)))
  subst c1
  have HR3 : Hid (R = if sub ≠ -1 ∧ insideP t sub (vx, vy) ≠ 0 then ((0, 0), 4) else ((vx, vy), 0)) := by rw [Hid, HR2.out]; rfl
  clear HR2 HY
  have HI2 := Lib.hid (fun w' (hk : Kept [] w w') => HI.out w' (vx, vy) hk)
  clear HI
  by_cases c2 : sub = -1
  · have HW : Hid (R = ((vx, vy), 0)) := by rw [Hid, HR3.out, if_neg (fun h => h.1 c2)]
    subst c2
    clear HR3 HI2
    go_wp2_with fail
    rw [rounds_succ]
    go_wp2_with fail
    rw [HW.out]
    exact bodyPost_v rfl (res2 Tryz.results11 (resC rfl inferInstance) (resT rfl)) (by repeat (first | with_reducible exact HK.out | with_reducible exact Kept.refl _ _ | with_reducible refine Kept.prev ?_ | with_reducible refine Kept.alloc' ?_ _ | with_reducible refine Kept.drew' ?_ | with_reducible refine Kept.setB ?_ _ _ _ (by omega) | with_reducible refine Kept.row' ?_ _ _ (by omega) | with_reducible refine Kept.map' ?_ _ _ (by omega)))
  have c3 : (sub != -1) = true := by simp [c2]
  by_cases c4 : insideP t sub (vx, vy) = 0
  · have HW : Hid (R = ((vx, vy), 0)) := by rw [Hid, HR3.out, if_neg (fun h => h.2 c4)]
    rw [c4] at HI2
    clear HR3 c4 c2
    go_wp2_with fail
    rw [rounds_succ]
    go_wp2_with fail
    refine (HI2.out _ (by repeat (first | with_reducible exact HK.out | with_reducible exact Kept.refl _ _ | with_reducible refine Kept.prev ?_ | with_reducible refine Kept.alloc' ?_ _ | with_reducible refine Kept.drew' ?_ | with_reducible refine Kept.setB ?_ _ _ _ (by omega) | with_reducible refine Kept.row' ?_ _ _ (by omega) | with_reducible refine Kept.map' ?_ _ _ (by omega)))).mono ?_; rintro e w4 ⟨rfl, hk_w4⟩; haveI p_w4 : PrevWorld w4 _ := ⟨hk_w4⟩; have hz_w4 : w.heap.size ≤ w4.heap.size := Kept.size (by repeat (first | with_reducible exact HK.out | with_reducible exact Kept.refl _ _ | with_reducible refine Kept.prev ?_ | with_reducible refine Kept.alloc' ?_ _ | with_reducible refine Kept.drew' ?_ | with_reducible refine Kept.setB ?_ _ _ _ (by omega) | with_reducible refine Kept.row' ?_ _ _ (by omega) | with_reducible refine Kept.map' ?_ _ _ (by omega))); clear hk_w4
    go_wp2_with fail
    rw [HW.out]
    exact bodyPost_v rfl (res2 Tryz.results11 (resC rfl inferInstance) (resT rfl)) (by repeat (first | with_reducible exact HK.out | with_reducible exact Kept.refl _ _ | with_reducible refine Kept.prev ?_ | with_reducible refine Kept.alloc' ?_ _ | with_reducible refine Kept.drew' ?_ | with_reducible refine Kept.setB ?_ _ _ _ (by omega) | with_reducible refine Kept.row' ?_ _ _ (by omega) | with_reducible refine Kept.map' ?_ _ _ (by omega)))
  · have HW : Hid (R = ((0, 0), 4)) := by rw [Hid, HR3.out, if_pos ⟨c2, c4⟩]
    generalize insideP t sub (vx, vy) = z at *
    have c5 : (z != 0) = true := by simp [c4]
    clear HR3 c4 c2
    go_wp2_with fail
    rw [rounds_succ]
    go_wp2_with fail
    refine (HI2.out _ (by repeat (first | with_reducible exact HK.out | with_reducible exact Kept.refl _ _ | with_reducible refine Kept.prev ?_ | with_reducible refine Kept.alloc' ?_ _ | with_reducible refine Kept.drew' ?_ | with_reducible refine Kept.setB ?_ _ _ _ (by omega) | with_reducible refine Kept.row' ?_ _ _ (by omega) | with_reducible refine Kept.map' ?_ _ _ (by omega)))).mono ?_; rintro e w4 ⟨rfl, hk_w4⟩; haveI p_w4 : PrevWorld w4 _ := ⟨hk_w4⟩; have hz_w4 : w.heap.size ≤ w4.heap.size := Kept.size (by repeat (first | with_reducible exact HK.out | with_reducible exact Kept.refl _ _ | with_reducible refine Kept.prev ?_ | with_reducible refine Kept.alloc' ?_ _ | with_reducible refine Kept.drew' ?_ | with_reducible refine Kept.setB ?_ _ _ _ (by omega) | with_reducible refine Kept.row' ?_ _ _ (by omega) | with_reducible refine Kept.map' ?_ _ _ (by omega))); clear hk_w4
    go_wp2_with fail
    rw [HW.out]
    exact bodyPost_v rfl (res2 Tryz.results11 (resC rfl inferInstance) (resT rfl)) (by repeat (first | with_reducible exact HK.out | with_reducible exact Kept.refl _ _ | with_reducible refine Kept.prev ?_ | with_reducible refine Kept.alloc' ?_ _ | with_reducible refine Kept.drew' ?_ | with_reducible refine Kept.setB ?_ _ _ _ (by omega) | with_reducible refine Kept.row' ?_ _ _ (by omega) | with_reducible refine Kept.map' ?_ _ _ (by omega)))
end Go.Proofs.YtgdjhhfbpalkdaaGreat
namespace Go.Proofs.YtgdjhhfbpalkdaaGreat
open Go.RowKit
def c0 (x : ChV) : ExV := x.ls.getD 0 default
def c1 (x : ChV) : ExV := x.ls.getD 1 default
/-- The bounds of a choice that is not others, or the error. -/
def choiceP (t : Tab) (n : Nat) (x : ChV) : Bd × Int :=
  if x.kind = 2 ∧ x.ls.length = 2 then rngP t n (-1) (c0 x) (c1 x)
  else if x.kind ≠ 1 ∨ x.ls.length ≠ 1 then ((0, 0), 70)
  else if (namedP (c0 x) && typedP (entP t (c0 x).ent)) = true then (if (markX t (c0 x)).2.2 = true then ((markX t (c0 x)).1, 0) else ((0, 0), 70))
  else (((valueP t n (c0 x)).1, (valueP t n (c0 x)).1), (valueP t n (c0 x)).2)
theorem choiceP_eq (t : Tab) (n : Nat) (x : ChV) : choiceP t n x = if x.kind = 2 ∧ x.ls.length = 2 then rngP t n (-1) (c0 x) (c1 x)
  else if x.kind ≠ 1 ∨ x.ls.length ≠ 1 then ((0, 0), 70)
  else if (namedP (c0 x) && typedP (entP t (c0 x).ent)) = true then (if (markX t (c0 x)).2.2 = true then ((markX t (c0 x)).1, 0) else ((0, 0), 70))
  else (((valueP t n (c0 x)).1, (valueP t n (c0 x)).1), (valueP t n (c0 x)).2) := rfl
theorem ch_at {w : World} {n : Nat} {x : ChV} (h : ChIn w n x) (hl : 0 < x.ls.length) : ∃ b o, x.la = some ⟨b, o, none⟩ ∧ ExAt w b o (c0 x) ∧ ExIn w n (c0 x) ∧ (1 < x.ls.length → ExAt w b (o + 9) (c1 x) ∧ ExIn w n (c1 x)) := by
  obtain ⟨y, hy⟩ : ∃ y, x.ls[0]? = some y := ⟨_, List.getElem?_eq_getElem hl⟩
  obtain ⟨b, o, ha, hr⟩ := h.rows.some_ hy
  refine ⟨b, o, ha, ?_, ?_, fun h1 => ?_⟩
  · have e : c0 x = y := by simp [c0, List.getD_eq_getElem?_getD, hy]
    rw [e]
    exact ⟨by simpa using hr 0 y hy⟩
  · have e : c0 x = y := by simp [c0, List.getD_eq_getElem?_getD, hy]
    rw [e]
    exact h.all y (List.mem_of_getElem? hy)
  · obtain ⟨z, hz⟩ : ∃ z, x.ls[1]? = some z := ⟨_, List.getElem?_eq_getElem h1⟩
    have e : c1 x = z := by simp [c1, List.getD_eq_getElem?_getD, hz]
    rw [e]
    exact ⟨⟨by simpa using hr 1 z hz⟩, h.all z (List.mem_of_getElem? hz)⟩
set_option maxRecDepth 100000 in
set_option maxHeartbeats 4000000 in
theorem choice_any (w : World) (v : TabV) (t : Tab) (x : ChV) (n : Nat) (hT : TabIn w v t) (hx : ChIn w n x) :
    Calls Tryz.prog 38 #[.agg (v.cells t), .agg #[.int .u8 x.kind, .slice x.la x.ls.length x.lc]] w (RetV (.tuple #[.agg #[.int .i64 (choiceP t n x).1.1, .int .i64 (choiceP t n x).1.2], .int .i64 (choiceP t n x).2]) w) := by
  have HT := Lib.hid hT
  have HR := Lib.hid (choiceP_eq t n x)
  have HA := Lib.hid (ch_at hx)
  clear hT hx
  generalize choiceP t n x = R at *
  generalize c0 x = y at *
  generalize c1 x = z at *
  obtain ⟨k, la, lc, ls⟩ := x
  simp only at *
  by_cases k2 : k = 2 ∧ ls.length = 2
  · obtain ⟨rfl, l2⟩ := k2
    obtain ⟨b, o, ha, ha0, hi0, h1⟩ := HA.out (by omega)
    obtain ⟨ha1, hi1⟩ := h1 (by omega)
    have HG := Lib.hid (fun w' (hk : Kept [] w w') => Range_any w' v t (-1) y z n (HT.out.kept hk) (hi0.kept hk) (hi1.kept hk))
    have HW : Hid (R = rngP t n (-1) y z) := by rw [Hid, HR.out, if_pos ⟨rfl, l2⟩]
    clear HR HA HT hi0 hi1 h1
    unfold TabV.cells at *
    rw [ha, l2]
    clear ha l2
    generalize rngP t n (-1) y z = r at *
    go_enter Tryz.func38, Tryz.ntmps38
    go_wp2_with fail
    refine wp_region_head 12 0 (fun _ => .cells #[] 0) (by kernel_rfl) (by kernel_rfl) (fun i o h1 h2 => by omega) (fun _ _ _ _ _ h => h) ?_; apply Exists.intro; refine ⟨fun U hU hN => ?_, ?_⟩; simp only [List.take_succ_cons, List.take_zero]
    · repeat (go_big_quiet_step (exact Calls.headV hU (HG.out _ (Kept.trans (by repeat (first | with_reducible exact HK.out | with_reducible exact Kept.refl _ _ | with_reducible refine Kept.prev ?_ | with_reducible refine Kept.alloc' ?_ _ | with_reducible refine Kept.drew' ?_ | with_reducible refine Kept.setB ?_ _ _ _ (by omega) | with_reducible refine Kept.row' ?_ _ _ (by omega) | with_reducible refine Kept.map' ?_ _ _ (by omega))) (AfterU.prop _)))))
      refine wpQuiet_nil ?_
      exact rfl
    simp only [List.drop_succ_cons, List.drop_zero, List.take_zero]
    intro w4 hk4 _
    haveI p_w4 : PrevWorld w4 _ := ⟨hk4⟩
    clear hk4
    go_wp2_with fail
    rw [HW.out]
    exact bodyPost_v rfl (res2 Tryz.results38 (resC rfl inferInstance) (resT rfl)) (by repeat (first | with_reducible exact HK.out | with_reducible exact Kept.refl _ _ | with_reducible refine Kept.prev ?_ | with_reducible refine Kept.alloc' ?_ _ | with_reducible refine Kept.drew' ?_ | with_reducible refine Kept.setB ?_ _ _ _ (by omega) | with_reducible refine Kept.row' ?_ _ _ (by omega) | with_reducible refine Kept.map' ?_ _ _ (by omega)))
  have HR2 : Hid (R = if k ≠ 1 ∨ ls.length ≠ 1 then ((0, 0), 70)
      else if (namedP y && typedP (entP t y.ent)) = true then (if (markX t y).2.2 = true then ((markX t y).1, 0) else ((0, 0), 70))
      else (((valueP t n y).1, (valueP t n y).1), (valueP t n y).2)) := by rw [Hid, HR.out, if_neg k2]
  clear HR
  by_cases k1 : k = 1
  rotate_left
  · have HW : Hid (R = ((0, 0), 70)) := by rw [Hid, HR2.out, if_pos (.inl k1)]
    have e1 : (k != 1) = true := by simp [k1]
    unfold TabV.cells at *
    by_cases c2 : k = 2
    · subst c2
      have e2 : ((ls.length : Int) == 2) = false := by
        rw [beq_eq_false_iff_ne]
        exact fun h => k2 ⟨rfl, by omega⟩
      clear k2 k1 HR2 HT HA e1
      go_enter Tryz.func38, Tryz.ntmps38
      go_wp2_with fail
      rw [HW.out]
      exact bodyPost_v rfl (res2 Tryz.results38 (resC rfl inferInstance) (resT rfl)) (by repeat (first | with_reducible exact HK.out | with_reducible exact Kept.refl _ _ | with_reducible refine Kept.prev ?_ | with_reducible refine Kept.alloc' ?_ _ | with_reducible refine Kept.drew' ?_ | with_reducible refine Kept.setB ?_ _ _ _ (by omega) | with_reducible refine Kept.row' ?_ _ _ (by omega) | with_reducible refine Kept.map' ?_ _ _ (by omega)))
    · have e2 : (k == 2) = false := by simp [c2]
      clear k2 k1 HR2 HT HA c2
      go_enter Tryz.func38, Tryz.ntmps38
      go_wp2_with fail
      rw [HW.out]
      exact bodyPost_v rfl (res2 Tryz.results38 (resC rfl inferInstance) (resT rfl)) (by repeat (first | with_reducible exact HK.out | with_reducible exact Kept.refl _ _ | with_reducible refine Kept.prev ?_ | with_reducible refine Kept.alloc' ?_ _ | with_reducible refine Kept.drew' ?_ | with_reducible refine Kept.setB ?_ _ _ _ (by omega) | with_reducible refine Kept.row' ?_ _ _ (by omega) | with_reducible refine Kept.map' ?_ _ _ (by omega)))
  subst k1
  by_cases l1 : ls.length = 1
  rotate_left
  · have HW : Hid (R = ((0, 0), 70)) := by rw [Hid, HR2.out, if_pos (.inr l1)]
    unfold TabV.cells at *
    have e2 : ((ls.length : Int) != 1) = true := by
      rw [bne_iff_ne]
      omega
    clear k2 HR2 HT HA l1
    go_enter Tryz.func38, Tryz.ntmps38
    go_wp2_with fail
    rw [HW.out]
    exact bodyPost_v rfl (res2 Tryz.results38 (resC rfl inferInstance) (resT rfl)) (by repeat (first | with_reducible exact HK.out | with_reducible exact Kept.refl _ _ | with_reducible refine Kept.prev ?_ | with_reducible refine Kept.alloc' ?_ _ | with_reducible refine Kept.drew' ?_ | with_reducible refine Kept.setB ?_ _ _ _ (by omega) | with_reducible refine Kept.row' ?_ _ _ (by omega) | with_reducible refine Kept.map' ?_ _ _ (by omega)))
  obtain ⟨b, o, ha, ha0, hi0, _⟩ := HA.out (by omega)
  have HR3 : Hid (R = if (namedP y && typedP (entP t y.ent)) = true then (if (markX t y).2.2 = true then ((markX t y).1, 0) else ((0, 0), 70))
      else (((valueP t n y).1, (valueP t n y).1), (valueP t n y).2)) := by rw [Hid, HR2.out, if_neg (by simp [l1])]
  clear HR2 HA k2
  have HE := Lib.hid (fun w' (hk : Kept [] w w') => entity_any w' v t y (HT.out.kept hk))
  have HM := Lib.hid (fun w' (hk : Kept [] w w') => mark_any w' v t y (HT.out.kept hk))
  have HV := Lib.hid (fun w' (hk : Kept [] w w') => Value_any w' v t y n (HT.out.kept hk) (hi0.kept hk))
  have HN := Lib.hid (fun w' => named_any w' y)
  have HY := Lib.hid (fun w' => typed_any w' (entP t y.ent))
  clear HT hi0
  unfold TabV.cells at *
  rw [ha, l1]
  clear ha l1
  unfold entA at HE
  generalize entP t y.ent = e at *
  cases hn : namedP y
  · rw [hn] at HN HR3
    have HW : Hid (R = (((valueP t n y).1, (valueP t n y).1), (valueP t n y).2)) := HR3.out
    generalize (valueP t n y).1 = vy at *
    generalize (valueP t n y).2 = ey at *
    clear hn HR3 HE HM HY
    go_enter Tryz.func38, Tryz.ntmps38
    go_wp2_with fail
    refine wp_region_head 14 0 (fun _ => .cells #[] 0) (by kernel_rfl) (by kernel_rfl) (fun i o h1 h2 => by omega) (fun _ _ _ _ _ h => h) ?_; apply Exists.intro; refine ⟨fun U hU hN => ?_, ?_⟩; simp only [List.take_succ_cons, List.take_zero]
    · repeat (go_big_quiet_step (exact Calls.headV hU (HN.out _)))
      refine wpQuiet_nil ?_
      exact rfl
    simp only [List.drop_succ_cons, List.drop_zero, List.take_zero]
    intro w4 hk4 _
    haveI p_w4 : PrevWorld w4 _ := ⟨hk4⟩
    clear hk4 HN
    go_wp2_with fail
    refine wp_region_head 11 0 (fun _ => .cells #[] 0) (by kernel_rfl) (by kernel_rfl) (fun i o h1 h2 => by omega) (fun _ _ _ _ _ h => h) ?_; apply Exists.intro; refine ⟨fun U hU hN => ?_, ?_⟩; simp only [List.take_succ_cons, List.take_zero]
    · repeat (go_big_quiet_step (exact Calls.headV hU (HV.out _ (Kept.trans (by repeat (first | with_reducible exact HK.out | with_reducible exact Kept.refl _ _ | with_reducible refine Kept.prev ?_ | with_reducible refine Kept.alloc' ?_ _ | with_reducible refine Kept.drew' ?_ | with_reducible refine Kept.setB ?_ _ _ _ (by omega) | with_reducible refine Kept.row' ?_ _ _ (by omega) | with_reducible refine Kept.map' ?_ _ _ (by omega))) (AfterU.prop _)))))
      refine wpQuiet_nil ?_
      exact rfl
    simp only [List.drop_succ_cons, List.drop_zero, List.take_zero]
    intro w5 hk5 _
    haveI p_w5 : PrevWorld w5 _ := ⟨hk5⟩
    clear hk5 HV
    go_wp2_with fail
    rw [HW.out]
    exact bodyPost_v rfl (res2 Tryz.results38 (resC rfl inferInstance) (resT rfl)) (by repeat (first | with_reducible exact HK.out | with_reducible exact Kept.refl _ _ | with_reducible refine Kept.prev ?_ | with_reducible refine Kept.alloc' ?_ _ | with_reducible refine Kept.drew' ?_ | with_reducible refine Kept.setB ?_ _ _ _ (by omega) | with_reducible refine Kept.row' ?_ _ _ (by omega) | with_reducible refine Kept.map' ?_ _ _ (by omega)))
  rw [hn, Bool.true_and] at HR3
  rw [hn] at HN
  clear hn
  cases hy : typedP e
  · rw [hy] at HY HR3
    have HW : Hid (R = (((valueP t n y).1, (valueP t n y).1), (valueP t n y).2)) := HR3.out
    generalize (valueP t n y).1 = vy at *
    generalize (valueP t n y).2 = ey at *
    clear hy HR3 HM
    go_enter Tryz.func38, Tryz.ntmps38
    go_wp2_with fail
    refine wp_region_head 14 0 (fun _ => .cells #[] 0) (by kernel_rfl) (by kernel_rfl) (fun i o h1 h2 => by omega) (fun _ _ _ _ _ h => h) ?_; apply Exists.intro; refine ⟨fun U hU hN => ?_, ?_⟩; simp only [List.take_succ_cons, List.take_zero]
    · iterate 5 (go_big_quiet_step (exact Calls.headV hU (HN.out _)))
      repeat (go_big_quiet_step (first | exact Calls.headV hU (HY.out _) | exact Calls.headV hU (HE.out _ (Kept.trans (by repeat (first | with_reducible exact HK.out | with_reducible exact Kept.refl _ _ | with_reducible refine Kept.prev ?_ | with_reducible refine Kept.alloc' ?_ _ | with_reducible refine Kept.drew' ?_ | with_reducible refine Kept.setB ?_ _ _ _ (by omega) | with_reducible refine Kept.row' ?_ _ _ (by omega) | with_reducible refine Kept.map' ?_ _ _ (by omega))) (AfterU.prop _)))))
      refine wpQuiet_nil ?_
      exact rfl
    simp only [List.drop_succ_cons, List.drop_zero, List.take_zero]
    intro w4 hk4 _
    haveI p_w4 : PrevWorld w4 _ := ⟨hk4⟩
    clear hk4 HN HE HY
    go_wp2_with fail
    refine wp_region_head 11 0 (fun _ => .cells #[] 0) (by kernel_rfl) (by kernel_rfl) (fun i o h1 h2 => by omega) (fun _ _ _ _ _ h => h) ?_; apply Exists.intro; refine ⟨fun U hU hN => ?_, ?_⟩; simp only [List.take_succ_cons, List.take_zero]
    · repeat (go_big_quiet_step (exact Calls.headV hU (HV.out _ (Kept.trans (by repeat (first | with_reducible exact HK.out | with_reducible exact Kept.refl _ _ | with_reducible refine Kept.prev ?_ | with_reducible refine Kept.alloc' ?_ _ | with_reducible refine Kept.drew' ?_ | with_reducible refine Kept.setB ?_ _ _ _ (by omega) | with_reducible refine Kept.row' ?_ _ _ (by omega) | with_reducible refine Kept.map' ?_ _ _ (by omega))) (AfterU.prop _)))))
      refine wpQuiet_nil ?_
      exact rfl
    simp only [List.drop_succ_cons, List.drop_zero, List.take_zero]
    intro w5 hk5 _
    haveI p_w5 : PrevWorld w5 _ := ⟨hk5⟩
    clear hk5 HV
    go_wp2_with fail
    rw [HW.out]
    exact bodyPost_v rfl (res2 Tryz.results38 (resC rfl inferInstance) (resT rfl)) (by repeat (first | with_reducible exact HK.out | with_reducible exact Kept.refl _ _ | with_reducible refine Kept.prev ?_ | with_reducible refine Kept.alloc' ?_ _ | with_reducible refine Kept.drew' ?_ | with_reducible refine Kept.setB ?_ _ _ _ (by omega) | with_reducible refine Kept.row' ?_ _ _ (by omega) | with_reducible refine Kept.map' ?_ _ _ (by omega)))
  · rw [hy] at HY HR3
    generalize markX t y = m at *
    unfold pvV at HM
    obtain ⟨mb, ma, mo⟩ := m
    have HR4 : Hid (R = if mo = true then (mb, 0) else ((0, 0), 70)) := HR3.out
    clear hy HR3 HV
    simp only at HM
    go_enter Tryz.func38, Tryz.ntmps38
    go_wp2_with fail
    refine wp_region_head 14 0 (fun _ => .cells #[] 0) (by kernel_rfl) (by kernel_rfl) (fun i o h1 h2 => by omega) (fun _ _ _ _ _ h => h) ?_; apply Exists.intro; refine ⟨fun U hU hN => ?_, ?_⟩; simp only [List.take_succ_cons, List.take_zero]
    · iterate 5 (go_big_quiet_step (exact Calls.headV hU (HN.out _)))
      repeat (go_big_quiet_step (first | exact Calls.headV hU (HY.out _) | exact Calls.headV hU (HE.out _ (Kept.trans (by repeat (first | with_reducible exact HK.out | with_reducible exact Kept.refl _ _ | with_reducible refine Kept.prev ?_ | with_reducible refine Kept.alloc' ?_ _ | with_reducible refine Kept.drew' ?_ | with_reducible refine Kept.setB ?_ _ _ _ (by omega) | with_reducible refine Kept.row' ?_ _ _ (by omega) | with_reducible refine Kept.map' ?_ _ _ (by omega))) (AfterU.prop _)))))
      refine wpQuiet_nil ?_
      exact rfl
    simp only [List.drop_succ_cons, List.drop_zero, List.take_zero]
    intro w4 hk4 _
    haveI p_w4 : PrevWorld w4 _ := ⟨hk4⟩
    clear hk4 HN HE HY
    go_wp2_with fail
    refine wp_region_head 10 2 (fun _ => .cells #[.int .i64 0, .int .i64 0] 43) (by kernel_rfl) (by kernel_rfl) (fun i o h1 h2 h3 => by obtain rfl | rfl : i = 10 ∨ i = 11 := (by omega); all_goals (obtain rfl := Option.some.inj h3; exact alc_of rfl rfl Tryz.zeroBd)) (fun _ _ _ _ _ h => h) ?_; apply Exists.intro; refine ⟨fun U hU hN => ?_, ?_⟩; simp only [List.take_succ_cons, List.take_zero]
    · repeat (go_big_quiet_step (exact Calls.headV hU (HM.out _ (Kept.trans (by repeat (first | with_reducible exact HK.out | with_reducible exact Kept.refl _ _ | with_reducible refine Kept.prev ?_ | with_reducible refine Kept.alloc' ?_ _ | with_reducible refine Kept.drew' ?_ | with_reducible refine Kept.setB ?_ _ _ _ (by omega) | with_reducible refine Kept.row' ?_ _ _ (by omega) | with_reducible refine Kept.map' ?_ _ _ (by omega))) (AfterU.prop _)))))
      refine wpQuiet_nil ?_
      exact rfl
    simp only [List.drop_succ_cons, List.drop_zero, List.take_succ_cons, List.take_zero]
    intro B2 hB2 _ B3 hB3 hne w6 hk6 hh
    haveI p_w6 : PrevWorld w6 _ := ⟨hk6⟩
    haveI bx2 : BoxIs w6 B2 43 #[.int .i64 0, .int .i64 0] := box_of hh (by simp)
    haveI bx3 : BoxIs w6 B3 43 #[.int .i64 0, .int .i64 0] := box_of hh (by simp)
    have hne2 := ne_of hne
    haveI ap1 : Apart B2 B3 := ⟨hne2⟩
    haveI ap2 : Apart B3 B2 := ⟨hne2.symm⟩
    haveI g2 : BornAfter B2 _ := ⟨hB2⟩
    haveI g3 : BornAfter B3 _ := ⟨hB3⟩
    have hz2 : w.heap.size ≤ B2 := Nat.le_trans (Kept.size (X := []) (by repeat (first | with_reducible exact HK.out | with_reducible exact Kept.refl _ _ | with_reducible refine Kept.prev ?_ | with_reducible refine Kept.alloc' ?_ _ | with_reducible refine Kept.drew' ?_ | with_reducible refine Kept.setB ?_ _ _ _ (by omega) | with_reducible refine Kept.row' ?_ _ _ (by omega) | with_reducible refine Kept.map' ?_ _ _ (by omega)))) hB2
    have hz3 : w.heap.size ≤ B3 := Nat.le_trans (Kept.size (X := []) (by repeat (first | with_reducible exact HK.out | with_reducible exact Kept.refl _ _ | with_reducible refine Kept.prev ?_ | with_reducible refine Kept.alloc' ?_ _ | with_reducible refine Kept.drew' ?_ | with_reducible refine Kept.setB ?_ _ _ _ (by omega) | with_reducible refine Kept.row' ?_ _ _ (by omega) | with_reducible refine Kept.map' ?_ _ _ (by omega)))) hB3
    clear hk6 hh hne
    clear HM
    cases mo
    · have HW : Hid (R = ((0, 0), 70)) := HR4.out
      clear HR4
      go_wp2_with fail
      rw [HW.out]
      exact bodyPost_v rfl (res2 Tryz.results38 (resC rfl inferInstance) (resT rfl)) (by repeat (first | with_reducible exact HK.out | with_reducible exact Kept.refl _ _ | with_reducible refine Kept.prev ?_ | with_reducible refine Kept.alloc' ?_ _ | with_reducible refine Kept.drew' ?_ | with_reducible refine Kept.setB ?_ _ _ _ (by omega) | with_reducible refine Kept.row' ?_ _ _ (by omega) | with_reducible refine Kept.map' ?_ _ _ (by omega)))
    · have HW : Hid (R = (mb, 0)) := HR4.out
      clear HR4
      go_wp2_with fail
      rw [HW.out]
      exact bodyPost_v rfl (res2 Tryz.results38 (resC rfl inferInstance) (resT rfl)) (by repeat (first | with_reducible exact HK.out | with_reducible exact Kept.refl _ _ | with_reducible refine Kept.prev ?_ | with_reducible refine Kept.alloc' ?_ _ | with_reducible refine Kept.drew' ?_ | with_reducible refine Kept.setB ?_ _ _ _ (by omega) | with_reducible refine Kept.row' ?_ _ _ (by omega) | with_reducible refine Kept.map' ?_ _ _ (by omega)))
end Go.Proofs.YtgdjhhfbpalkdaaGreat
