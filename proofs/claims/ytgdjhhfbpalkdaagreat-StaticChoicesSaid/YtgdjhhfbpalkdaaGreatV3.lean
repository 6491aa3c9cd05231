/- The map of operators. -/
import Derived.Test.YtgdjhhfbpalkdaaGreatV2
namespace Go.Proofs.YtgdjhhfbpalkdaaGreat
open Go.RowKit

theorem run_insert_at {P : Program} {T K E : TypeId} {d : TypeDesc} (w : World) (hT : P.underlying T = some (.map K E)) (hK : P.underlying K = some d) (r : Nat) (es : Array MapEntry) (c : Nat) (hb : w.heap[r]? = some (.map es c)) (key v : Value) (hk : plainKey d key = true) (hf : Instr.findNow d key es.toList 0 = some none) :
    (Instr.mapUpdate T (.map (some r)) key v).run P w = .ok () (setMap w r (.map (es.push { key := key, val := v, born := c }) (c + 1))) := by
  unfold Instr.mapUpdate
  simp only [Sem.run_bind, run_underlying hT, Result.andThen_ok, getObj, Sem.run, hb, run_checkKey _ hK hk, Instr.findKey, run_underlying hK, hf, Sem.run_pure, setObj]
  rfl
/-- No entry has the key. -/
def keyFree (k : Int) : List MapEntry → Bool
  | [] => true
  | e :: l => (match e.key with | .int .u8 j => k != j | _ => false) && keyFree k l
@[go_sem] theorem keyFree_nil (k : Int) : keyFree k [] = true := by rw [keyFree]
@[go_sem] theorem keyFree_cons (k j : Int) (v : Value) (b : Nat) (l : List MapEntry) : keyFree k ({ key := .int .u8 j, val := v, born := b } :: l) = ((k != j) && keyFree k l) := by rw [keyFree]
def keyFreeA (k : Int) (es : Array MapEntry) : Bool := keyFree k es.toList
@[go_sem] theorem keyFreeA_lit (k : Int) (l : List MapEntry) : keyFreeA k l.toArray = keyFree k l := by rw [keyFreeA]
theorem keyFree_find (k : Int) : ∀ (l : List MapEntry) (i : Nat), keyFree k l = true → Instr.findNow (.int .u8) (.int .u8 k) l i = some none
  | [], _, _ => rfl
  | e :: l, i, h => by
    simp only [keyFree, Bool.and_eq_true] at h
    obtain ⟨h1, h2⟩ := h
    unfold Instr.findNow
    split at h1
    · rename_i j hj
      have : (k == j) = false := by simpa using h1
      simp only [hj, Instr.sameNow, if_true, this]
      exact keyFree_find k l (i + 1) h2
    · cases h1
@[go_sem] theorem setMap_again (w : World) (r : Nat) (o o' : Obj) : setMap (setMap w r o) r o' = setMap w r o' := by simp [setMap, Array.setIfInBounds_setIfInBounds]
def insOp (m k x : Value) : Sem Next := do Instr.mapUpdate 146 m k x; pure .skip
@[go_sem ↓] theorem execOp_insOp (ρ : Operand → Value) (dst : Option Tmp) (m k x : Operand) (ty : TypeId) (pos : String) (after : Array Edge) (guard : Option (Nat × Bool)) :
    execOp ρ { dst, op := .insert 146 m k x, type := ty, pos, after, guard } = insOp (ρ m) (ρ k) (ρ x) := rfl
@[go_sem] theorem run_insOp (w : World) (r : Nat) (es : Array MapEntry) (c : Nat) (k : Int) (v : Value) [h : MapIs w r es c] (hf : keyFreeA k es = true) :
    Sem.run Tryz.prog (insOp (.map (some r)) (.int .u8 k) v) w = .ok .skip (setMap w r (.map (es.push { key := .int .u8 k, val := v, born := c }) (c + 1))) := by
  simp only [insOp, Sem.run_bind, run_insert_at w Tryz.underlying146 Tryz.underlying30 r es c h.has (.int .u8 k) v rfl (keyFree_find k _ 0 hf), Result.andThen_ok, Sem.run_pure]

/-- What the call of operators leaves. -/
def opsE (B7 B8 B9 B10 B11 B12 : Nat) : Array MapEntry :=
  #[⟨.int .u8 1, .agg #[.bool false, .func (.func 98) #[] #[]], 0⟩, ⟨.int .u8 2, .agg #[.bool false, .func (.func 99) #[] #[]], 1⟩, ⟨.int .u8 3, .agg #[.bool false, .func (.func 100) #[] #[]], 2⟩,
    ⟨.int .u8 4, .agg #[.bool true, .func (.func 101) #[] #[]], 3⟩, ⟨.int .u8 6, .agg #[.bool true, .func (.func 102) #[] #[]], 4⟩, ⟨.int .u8 5, .agg #[.bool true, .func (.func 103) #[] #[]], 5⟩,
    ⟨.int .u8 7, .agg #[.bool false, .func (.func 97) #[] #[.pointer (some ⟨B7, 0, none⟩)]], 6⟩, ⟨.int .u8 8, .agg #[.bool false, .func (.func 97) #[] #[.pointer (some ⟨B8, 0, none⟩)]], 7⟩, ⟨.int .u8 9, .agg #[.bool false, .func (.func 97) #[] #[.pointer (some ⟨B9, 0, none⟩)]], 8⟩,
    ⟨.int .u8 10, .agg #[.bool false, .func (.func 97) #[] #[.pointer (some ⟨B10, 0, none⟩)]], 9⟩, ⟨.int .u8 11, .agg #[.bool false, .func (.func 97) #[] #[.pointer (some ⟨B11, 0, none⟩)]], 10⟩, ⟨.int .u8 12, .agg #[.bool false, .func (.func 97) #[] #[.pointer (some ⟨B12, 0, none⟩)]], 11⟩,
    ⟨.int .u8 13, .agg #[.bool false, .func (.func 110) #[] #[]], 12⟩, ⟨.int .u8 14, .agg #[.bool false, .func (.func 111) #[] #[]], 13⟩, ⟨.int .u8 15, .agg #[.bool false, .func (.func 112) #[] #[]], 14⟩]
structure OpsAt (w : World) (r B7 B8 B9 B10 B11 B12 : Nat) : Prop where
  map : MapIs w r (opsE B7 B8 B9 B10 B11 B12) 15
  b7 : BoxIs w B7 168 #[.func (.func 104) #[] #[]]
  b8 : BoxIs w B8 168 #[.func (.func 105) #[] #[]]
  b9 : BoxIs w B9 168 #[.func (.func 106) #[] #[]]
  b10 : BoxIs w B10 168 #[.func (.func 107) #[] #[]]
  b11 : BoxIs w B11 168 #[.func (.func 108) #[] #[]]
  b12 : BoxIs w B12 168 #[.func (.func 109) #[] #[]]
def RetOps (w : World) (e : Ending) (w' : World) : Prop := ∃ r B7 B8 B9 B10 B11 B12, e = .returned (.map (some r)) ∧ OpsAt w' r B7 B8 B9 B10 B11 B12 ∧ Kept [] w w'

set_option maxRecDepth 100000 in
set_option maxHeartbeats 4000000 in
theorem operators_any (w : World) : Calls Tryz.prog 75 #[] w (RetOps w) := by
  go_enter Tryz.func75, Tryz.ntmps75
  go_wp2_with fail
  refine (opc_any _ _).mono ?_
  rintro e w7 ⟨B7, rfl, hb7, hk7⟩
  haveI p_w7 : PrevWorld w7 _ := ⟨hk7⟩
  have hz_w7 : w.heap.size ≤ w7.heap.size := Kept.size (X := []) (by repeat (first | with_reducible exact HK.out | with_reducible exact Kept.refl _ _ | with_reducible refine Kept.prev ?_ | with_reducible refine Kept.alloc' ?_ _ | with_reducible refine Kept.drew' ?_ | with_reducible refine Kept.setB ?_ _ _ _ (by omega) | with_reducible refine Kept.row' ?_ _ _ (by omega) | with_reducible refine Kept.map' ?_ _ _ (by omega)))
  clear hk7
  go_wp2_with fail
  refine (opc_any _ _).mono ?_
  rintro e w8 ⟨B8, rfl, hb8, hk8⟩
  haveI p_w8 : PrevWorld w8 _ := ⟨hk8⟩
  have hz_w8 : w.heap.size ≤ w8.heap.size := Kept.size (X := []) (by repeat (first | with_reducible exact HK.out | with_reducible exact Kept.refl _ _ | with_reducible refine Kept.prev ?_ | with_reducible refine Kept.alloc' ?_ _ | with_reducible refine Kept.drew' ?_ | with_reducible refine Kept.setB ?_ _ _ _ (by omega) | with_reducible refine Kept.row' ?_ _ _ (by omega) | with_reducible refine Kept.map' ?_ _ _ (by omega)))
  clear hk8
  go_wp2_with fail
  refine (opc_any _ _).mono ?_
  rintro e w9 ⟨B9, rfl, hb9, hk9⟩
  haveI p_w9 : PrevWorld w9 _ := ⟨hk9⟩
  have hz_w9 : w.heap.size ≤ w9.heap.size := Kept.size (X := []) (by repeat (first | with_reducible exact HK.out | with_reducible exact Kept.refl _ _ | with_reducible refine Kept.prev ?_ | with_reducible refine Kept.alloc' ?_ _ | with_reducible refine Kept.drew' ?_ | with_reducible refine Kept.setB ?_ _ _ _ (by omega) | with_reducible refine Kept.row' ?_ _ _ (by omega) | with_reducible refine Kept.map' ?_ _ _ (by omega)))
  clear hk9
  go_wp2_with fail
  refine (opc_any _ _).mono ?_
  rintro e w10 ⟨B10, rfl, hb10, hk10⟩
  haveI p_w10 : PrevWorld w10 _ := ⟨hk10⟩
  have hz_w10 : w.heap.size ≤ w10.heap.size := Kept.size (X := []) (by repeat (first | with_reducible exact HK.out | with_reducible exact Kept.refl _ _ | with_reducible refine Kept.prev ?_ | with_reducible refine Kept.alloc' ?_ _ | with_reducible refine Kept.drew' ?_ | with_reducible refine Kept.setB ?_ _ _ _ (by omega) | with_reducible refine Kept.row' ?_ _ _ (by omega) | with_reducible refine Kept.map' ?_ _ _ (by omega)))
  clear hk10
  go_wp2_with fail
  refine (opc_any _ _).mono ?_
  rintro e w11 ⟨B11, rfl, hb11, hk11⟩
  haveI p_w11 : PrevWorld w11 _ := ⟨hk11⟩
  have hz_w11 : w.heap.size ≤ w11.heap.size := Kept.size (X := []) (by repeat (first | with_reducible exact HK.out | with_reducible exact Kept.refl _ _ | with_reducible refine Kept.prev ?_ | with_reducible refine Kept.alloc' ?_ _ | with_reducible refine Kept.drew' ?_ | with_reducible refine Kept.setB ?_ _ _ _ (by omega) | with_reducible refine Kept.row' ?_ _ _ (by omega) | with_reducible refine Kept.map' ?_ _ _ (by omega)))
  clear hk11
  go_wp2_with fail
  refine (opc_any _ _).mono ?_
  rintro e w12 ⟨B12, rfl, hb12, hk12⟩
  haveI p_w12 : PrevWorld w12 _ := ⟨hk12⟩
  have hz_w12 : w.heap.size ≤ w12.heap.size := Kept.size (X := []) (by repeat (first | with_reducible exact HK.out | with_reducible exact Kept.refl _ _ | with_reducible refine Kept.prev ?_ | with_reducible refine Kept.alloc' ?_ _ | with_reducible refine Kept.drew' ?_ | with_reducible refine Kept.setB ?_ _ _ _ (by omega) | with_reducible refine Kept.row' ?_ _ _ (by omega) | with_reducible refine Kept.map' ?_ _ _ (by omega)))
  clear hk12
  go_wp2_with fail
  exact bodyPost_ret (res1 Tryz.results75 (resT rfl)) rfl ⟨_, B7, B8, B9, B10, B11, B12, rfl, ⟨⟨MapIs.has⟩, inferInstance, inferInstance, inferInstance, inferInstance, inferInstance, inferInstance⟩, (by repeat (first | with_reducible exact HK.out | with_reducible exact Kept.refl _ _ | with_reducible refine Kept.prev ?_ | with_reducible refine Kept.alloc' ?_ _ | with_reducible refine Kept.drew' ?_ | with_reducible refine Kept.setB ?_ _ _ _ (by omega) | with_reducible refine Kept.row' ?_ _ _ (by omega) | with_reducible refine Kept.map' ?_ _ _ (by omega)))⟩
end Go.Proofs.YtgdjhhfbpalkdaaGreat
