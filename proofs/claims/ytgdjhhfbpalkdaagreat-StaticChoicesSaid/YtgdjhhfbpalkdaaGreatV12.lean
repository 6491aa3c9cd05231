/- raw of two operands. -/
import Derived.Test.YtgdjhhfbpalkdaaGreatK15
import Derived.Deep.RegionWith
namespace Go.Proofs.YtgdjhhfbpalkdaaGreat
open Go.RowKit
def lookOp (m k : Value) : Sem Next := do return .value (← Instr.lookup 146 m k true)
@[go_sem ↓] theorem execOp_lookOp (ρ : Operand → Value) (dst : Option Tmp) (m k : Operand) (ty : TypeId) (pos : String) (after : Array Edge) (guard : Option (Nat × Bool)) :
    execOp ρ { dst, op := .lookup 146 m k true, type := ty, pos, after, guard } = lookOp (ρ m) (ρ k) := rfl
theorem Tryz.zeroOper (w : World) : (zeroValue 144).run Tryz.prog w = .ok (.agg #[.bool false, .nilFunc]) w := by kernel_rfl
/-- What a look into the map of operators gives. -/
class LooksOp (w : World) (r : Nat) (k : Int) (v : outParam Value) (ok : outParam Bool) : Prop where
  has : ∃ (es : Array MapEntry) (c : Nat) (q : Option (Nat × Value)), w.heap[r]? = some (.map es c) ∧ Instr.findNow (.int .u8) (.int .u8 k) es.toList 0 = some q ∧ (q.map (·.2)).getD (.agg #[.bool false, .nilFunc]) = v ∧ q.isSome = ok
section
variable (w : World) (r : Nat) (k : Int) (v : Value) (ok : Bool)
theorem LooksOp.kept {w w' : World} {r : Nat} {k : Int} {v : Value} {ok : Bool} (h : LooksOp w r k v ok) (hk : Kept [] w w') : LooksOp w' r k v ok := by
  obtain ⟨es, c, q, h1, h2⟩ := h.has
  exact ⟨es, c, q, hk.obj h1 (by simp), h2⟩
instance (ob : Obj) [h : LooksOp w r k v ok] : LooksOp (w.alloc ob) r k v ok := h.kept (Kept.alloc _ _ _)
instance [h : LooksOp w r k v ok] : LooksOp w.drew r k v ok := h.kept (Kept.drew _ _)
instance (w' : World) [p : PrevWorld w' w] [h : LooksOp w r k v ok] : LooksOp w' r k v ok := h.kept p.kept
@[go_sem] theorem run_lookOp [h : LooksOp w r k v ok] : Sem.run Tryz.prog (lookOp (.map (some r)) (.int .u8 k)) w = .ok (.value (.tuple #[v, .bool ok])) w := by
  obtain ⟨es, c, q, h1, h2, h3, h4⟩ := h.has
  simp only [lookOp, Sem.run_bind, run_lookup_ok w Tryz.underlying146 Tryz.underlying30 (Tryz.zeroOper w) r es c h1 (.int .u8 k) rfl q h2, Result.andThen_ok, Sem.run_pure, h3, h4]
end
theorem looks_some {w : World} {r c : Nat} {es : Array MapEntry} (h : MapIs w r es c) {k : Int} {i : Nat} {v : Value} (hf : Instr.findNow (.int .u8) (.int .u8 k) es.toList 0 = some (some (i, v))) : LooksOp w r k v true := ⟨es, c, _, h.has, hf, rfl, rfl⟩
theorem looks_none {w : World} {r c : Nat} {es : Array MapEntry} (h : MapIs w r es c) {k : Int} (hf : Instr.findNow (.int .u8) (.int .u8 k) es.toList 0 = some none) : LooksOp w r k (.agg #[.bool false, .nilFunc]) false := ⟨es, c, _, h.has, hf, rfl, rfl⟩
/-- What lies there behind the look. -/
def Cut43 (w7 : World) (f : Bool) (o : Int) (v19 v20 : Value) (wc : World) : Prop :=
  Kept [] w7 wc ∧ v20 = .bool f ∧ ∃ B, v19 = .pointer (some ⟨B, 0, none⟩) ∧ (f = true → ∃ K caps, BoxIs wc B 144 #[.bool (divB o), .func (.func K) #[] caps] ∧ DoesOp wc K caps o)
theorem DoesOp.kept {w w' : World} {K : Nat} {caps : Array Value} {o : Int} (h : DoesOp w K caps o) (hk : Kept [] w w') : DoesOp w' K caps o := ⟨h.eg, fun W a b hW => h.run W a b (hk.trans hW)⟩
theorem OpsAt.setO {w : World} {r B7 B8 B9 B10 B11 B12 B j : Nat} {cs : Array Value} {u : Value} (h : OpsAt w r B7 B8 B9 B10 B11 B12) (hb : BoxIs w B 144 cs) : OpsAt (w.setCell ⟨B, j, none⟩ u) r B7 B8 B9 B10 B11 B12 := by
  have ne : ∀ (k : Nat) (cs2 : Array Value), BoxIs w k 168 cs2 → BoxIs (w.setCell ⟨B, j, none⟩ u) k 168 cs2 := fun k cs2 hk => by
    have hne : B ≠ k := fun e => by
      subst e
      have h1 := hk.has
      rw [hb.has] at h1
      simp at h1
    haveI : Apart B k := ⟨hne⟩
    haveI := hk
    infer_instance
  have hm : r ≠ B := fun e => by
    subst e
    have h1 := h.map.has
    rw [hb.has] at h1
    simp at h1
  exact ⟨⟨(heap_setCell_other w ⟨B, j, none⟩ r u hm).trans h.map.has⟩, ne _ _ h.b7, ne _ _ h.b8, ne _ _ h.b9, ne _ _ h.b10, ne _ _ h.b11, ne _ _ h.b12⟩
theorem does_at {w : World} {r B7 B8 B9 B10 B11 B12 : Nat} (h : OpsAt w r B7 B8 B9 B10 B11 B12) {o : Int} (h1 : 1 ≤ o) (h2 : o ≤ 15) {i K : Nat} {caps : Array Value}
    (hf : Instr.findNow (.int .u8) (.int .u8 o) (opsE B7 B8 B9 B10 B11 B12).toList 0 = some (some (i, .agg #[.bool (divB o), .func (.func K) #[] caps]))) : DoesOp w K caps o := by
  obtain ⟨i', K', caps', hf', hd⟩ := ops_find h h1 h2
  rw [hf] at hf'
  simp only [Option.some.injEq, Prod.mk.injEq, Value.agg.injEq, Array.mk.injEq, List.cons.injEq, Value.func.injEq, Fn.func.injEq, true_and, and_true] at hf'
  obtain ⟨_, rfl, rfl⟩ := hf'
  exact hd

theorem dy_none {V : ExV → Option Int} {x : ExV} (h : V (l0 x) = none) : dyV V x = none := by unfold dyV; rw [h]
theorem dy_16 {V : ExV → Option Int} {x : ExV} (h : V (l0 x) = some 0) (ho : x.oper = 16) : dyV V x = some 0 := by unfold dyV; rw [h]; simp [ho]
theorem dy_17 {V : ExV → Option Int} {x : ExV} {a : Int} (h : V (l0 x) = some a) (ho : x.oper = 17) (ha : a ≠ 0) : dyV V x = some 1 := by unfold dyV; rw [h]; simp [ho, ha]
theorem dy_s {V : ExV → Option Int} {x : ExV} {a : Int} (h : V (l0 x) = some a) (ho : x.oper = 16 ∧ a ≠ 0 ∨ x.oper = 17 ∧ a = 0) : dyV V x = V (l1 x) := by
  unfold dyV
  rw [h]
  rcases ho with ⟨h1, h2⟩ | ⟨h1, h2⟩
  · simp only [h1, h2]
    cases V (l1 x) <;> simp
  · simp only [h1, h2]
    cases V (l1 x) <;> simp
theorem dy_o0 {V : ExV → Option Int} {x : ExV} {a : Int} (h : V (l0 x) = some a) (h1 : x.oper ≠ 16) (h2 : x.oper ≠ 17) (hb : V (l1 x) = none) : dyV V x = none := by
  unfold dyV
  rw [h, hb]
  simp [h1, h2]
theorem dy_o1 {V : ExV → Option Int} {x : ExV} {a b : Int} (h : V (l0 x) = some a) (h1 : x.oper ≠ 16) (h2 : x.oper ≠ 17) (hb : V (l1 x) = some b) : dyV V x = opP x.oper a b := by
  unfold dyV
  rw [h, hb]
  simp [h1, h2]

set_option maxRecDepth 100000 in
set_option maxHeartbeats 8000000 in
theorem raw_two (w : World) (v : TabV) (t : Tab) (x : ExV) (n : Nat) (ih : ValAt v t n) (hT : TabIn w v t) (hx : ExIn w (n + 1) x) (hI : allF (isP t n) x.ls 2 = true) (ho : 1 ≤ x.oper ∧ x.oper ≤ 17) (hk : x.kind = 12) : RawIs w v t x n := by
  unfold RawIs
  obtain ⟨hl, hI⟩ := all_of hI
  obtain ⟨b0, o0, ha, hat, hat1, hi0, hi1⟩ := ex_second hx (by omega)
  have HV := Lib.hid (fun w' (hk : Kept [] w w') => ih w' (l0 x) (hT.kept hk) (hi0.kept hk) (hI _ (mem_l (by omega))))
  have HV1 := Lib.hid (fun w' (hk : Kept [] w w') => ih w' (l1 x) (hT.kept hk) (hi1.kept hk) (hI _ (mem_l (by omega))))
  have HB := Lib.hid (fun z (h : valP t n (l0 x) = some z) => val_bd hT.ll h)
  have HB1 := Lib.hid (fun z (h : valP t n (l1 x) = some z) => val_bd hT.ll h)
  have hr : rawF (valP t n) t x = dyV (valP t n) x := by
    rw [rawF]
    simp only [hk]
    rfl
  have D0 := Lib.hid (fun h => hr.trans (dy_none (V := valP t n) (x := x) h))
  have D16 := Lib.hid (fun h ho => hr.trans (dy_16 (V := valP t n) (x := x) h ho))
  have D17 := Lib.hid (fun a h ho ha => hr.trans (dy_17 (V := valP t n) (x := x) (a := a) h ho ha))
  have DS := Lib.hid (fun a h ho => hr.trans (dy_s (V := valP t n) (x := x) (a := a) h ho))
  have DO0 := Lib.hid (fun a h h1 h2 hb => hr.trans (dy_o0 (V := valP t n) (x := x) (a := a) h h1 h2 hb))
  have DO1 := Lib.hid (fun a b h h1 h2 hb => hr.trans (dy_o1 (V := valP t n) (x := x) (a := a) (b := b) h h1 h2 hb))
  have q1 := hx.2.2.2.2.1
  have hl2 : (0 : Int) < (x.ls.length : Int) := by omega
  have hl3 : (1 : Int) < (x.ls.length : Int) := by omega
  obtain ⟨o16, o17⟩ := ho
  clear ih hT hx hl hI hi0 hi1 hr
  unfold TabV.cells at *
  generalize valP t n (l0 x) = o at *
  generalize valP t n (l1 x) = o1 at *
  generalize l0 x = y at *
  generalize l1 x = z at *
  go_enter Tryz.func48, Tryz.ntmps48
  go_wp2_with fail
  refine wp_region_heads [0,1,2,3,4] [5,6] (by kernel_rfl) (by kernel_rfl) (fun _ _ _ _ _ h => h) ?_; apply Exists.intro; refine ⟨fun U hU hN => ?_, ?_⟩; simp only [pick, List.flatMap_cons, List.flatMap_nil, List.getElem?_cons_zero, List.getElem?_cons_succ, Option.toList_some, List.cons_append, List.nil_append]
  · repeat (go_big_quiet_step (fail))
    refine wpQuiet_nil ?_
    exact rfl
  simp only [pick, List.flatMap_cons, List.flatMap_nil, List.getElem?_cons_zero, List.getElem?_cons_succ, Option.toList_some, List.cons_append, List.nil_append]
  intro w4 hk4
  haveI p_w4 : PrevWorld w4 _ := ⟨hk4⟩
  clear hk4
  go_wp2_with fail
  cases o with
  | none =>
    have HW : Hid (rawF (valP t n) t x = none) := D0.out rfl
    refine (Calls.retP (HV.out _ (by repeat (first | with_reducible exact HK.out | with_reducible exact Kept.refl _ _ | with_reducible refine Kept.prev ?_ | with_reducible refine Kept.alloc' ?_ _ | with_reducible refine Kept.drew' ?_ | with_reducible refine Kept.setB ?_ _ _ _ (by omega) | with_reducible refine Kept.row' ?_ _ _ (by omega) | with_reducible refine Kept.map' ?_ _ _ (by omega)))) rfl).mono ?_; rintro e w5 ⟨rfl, hk_w5⟩; haveI p_w5 : PrevWorld w5 _ := ⟨hk_w5⟩; have hz_w5 : w.heap.size ≤ w5.heap.size := Kept.size (by repeat (first | with_reducible exact HK.out | with_reducible exact Kept.refl _ _ | with_reducible refine Kept.prev ?_ | with_reducible refine Kept.alloc' ?_ _ | with_reducible refine Kept.drew' ?_ | with_reducible refine Kept.setB ?_ _ _ _ (by omega) | with_reducible refine Kept.row' ?_ _ _ (by omega) | with_reducible refine Kept.map' ?_ _ _ (by omega))); clear hk_w5
    show bodyPost _ _ _ (.panic failC) _ _
    rw [HW.out]
    exact bodyPost_p rfl (by repeat (first | with_reducible exact HK.out | with_reducible exact Kept.refl _ _ | with_reducible refine Kept.prev ?_ | with_reducible refine Kept.alloc' ?_ _ | with_reducible refine Kept.drew' ?_ | with_reducible refine Kept.setB ?_ _ _ _ (by omega) | with_reducible refine Kept.row' ?_ _ _ (by omega) | with_reducible refine Kept.map' ?_ _ _ (by omega)))
  | some a =>
  obtain ⟨a1, a2⟩ := HB.out a rfl
  refine (Calls.retV (HV.out _ (by repeat (first | with_reducible exact HK.out | with_reducible exact Kept.refl _ _ | with_reducible refine Kept.prev ?_ | with_reducible refine Kept.alloc' ?_ _ | with_reducible refine Kept.drew' ?_ | with_reducible refine Kept.setB ?_ _ _ _ (by omega) | with_reducible refine Kept.row' ?_ _ _ (by omega) | with_reducible refine Kept.map' ?_ _ _ (by omega)))) rfl).mono ?_; rintro e w5 ⟨rfl, hk_w5⟩; haveI p_w5 : PrevWorld w5 _ := ⟨hk_w5⟩; have hz_w5 : w.heap.size ≤ w5.heap.size := Kept.size (by repeat (first | with_reducible exact HK.out | with_reducible exact Kept.refl _ _ | with_reducible refine Kept.prev ?_ | with_reducible refine Kept.alloc' ?_ _ | with_reducible refine Kept.drew' ?_ | with_reducible refine Kept.setB ?_ _ _ _ (by omega) | with_reducible refine Kept.row' ?_ _ _ (by omega) | with_reducible refine Kept.map' ?_ _ _ (by omega))); clear hk_w5
  clear HV HB
  have H16 := Lib.hid (fun (h : a = 0) => D16.out (by rw [h]))
  have H17 := Lib.hid (D17.out a rfl)
  have HS := Lib.hid (DS.out a rfl)
  have HO0 := Lib.hid (DO0.out a rfl)
  have HO1 := Lib.hid (fun b => DO1.out a b rfl)
  clear D0 D16 D17 DS DO0 DO1
  by_cases c16 : x.oper = 16
  · by_cases c0 : a = 0
    · have HW : Hid (rawF (valP t n) t x = some (truthP false)) := H16.out c0 c16
      subst c0
      clear H16 H17 HS HO0 HO1 HV1 HB1
      go_wp2_with fail
      refine (truth_any _ _).mono ?_; rintro e w6 ⟨rfl, hk_w6⟩; haveI p_w6 : PrevWorld w6 _ := ⟨hk_w6⟩; have hz_w6 : w.heap.size ≤ w6.heap.size := Kept.size (by repeat (first | with_reducible exact HK.out | with_reducible exact Kept.refl _ _ | with_reducible refine Kept.prev ?_ | with_reducible refine Kept.alloc' ?_ _ | with_reducible refine Kept.drew' ?_ | with_reducible refine Kept.setB ?_ _ _ _ (by omega) | with_reducible refine Kept.row' ?_ _ _ (by omega) | with_reducible refine Kept.map' ?_ _ _ (by omega))); clear hk_w6
      go_wp2_with fail
      rw [HW.out]
      exact bodyPost_o rfl (res1 Tryz.results48 (resT rfl)) (by repeat (first | with_reducible exact HK.out | with_reducible exact Kept.refl _ _ | with_reducible refine Kept.prev ?_ | with_reducible refine Kept.alloc' ?_ _ | with_reducible refine Kept.drew' ?_ | with_reducible refine Kept.setB ?_ _ _ _ (by omega) | with_reducible refine Kept.row' ?_ _ _ (by omega) | with_reducible refine Kept.map' ?_ _ _ (by omega)))
    · have c1 : (a == 0) = false := by simp [c0]
      have HM : Hid (rawF (valP t n) t x = o1) := HS.out (.inl ⟨c16, c0⟩)
      clear H16 H17 HS HO0 HO1 c0
      go_wp2_with fail
      refine wp_region_heads [0,1,2,3,4] [5,6] (by kernel_rfl) (by kernel_rfl) (fun _ _ _ _ _ h => h) ?_; apply Exists.intro; refine ⟨fun U hU hN => ?_, ?_⟩; simp only [pick, List.flatMap_cons, List.flatMap_nil, List.getElem?_cons_zero, List.getElem?_cons_succ, Option.toList_some, List.cons_append, List.nil_append]
      · repeat (go_big_quiet_step (fail))
        refine wpQuiet_nil ?_
        exact rfl
      simp only [pick, List.flatMap_cons, List.flatMap_nil, List.getElem?_cons_zero, List.getElem?_cons_succ, Option.toList_some, List.cons_append, List.nil_append]
      intro w6 hk6
      haveI p_w6 : PrevWorld w6 _ := ⟨hk6⟩
      clear hk6
      go_wp2_with fail
      cases o1 with
      | none =>
        have HW : Hid (rawF (valP t n) t x = none) := HM.out
        refine (Calls.retP (HV1.out _ (by repeat (first | with_reducible exact HK.out | with_reducible exact Kept.refl _ _ | with_reducible refine Kept.prev ?_ | with_reducible refine Kept.alloc' ?_ _ | with_reducible refine Kept.drew' ?_ | with_reducible refine Kept.setB ?_ _ _ _ (by omega) | with_reducible refine Kept.row' ?_ _ _ (by omega) | with_reducible refine Kept.map' ?_ _ _ (by omega)))) rfl).mono ?_; rintro e w7 ⟨rfl, hk_w7⟩; haveI p_w7 : PrevWorld w7 _ := ⟨hk_w7⟩; have hz_w7 : w.heap.size ≤ w7.heap.size := Kept.size (by repeat (first | with_reducible exact HK.out | with_reducible exact Kept.refl _ _ | with_reducible refine Kept.prev ?_ | with_reducible refine Kept.alloc' ?_ _ | with_reducible refine Kept.drew' ?_ | with_reducible refine Kept.setB ?_ _ _ _ (by omega) | with_reducible refine Kept.row' ?_ _ _ (by omega) | with_reducible refine Kept.map' ?_ _ _ (by omega))); clear hk_w7
        show bodyPost _ _ _ (.panic failC) _ _
        rw [HW.out]
        exact bodyPost_p rfl (by repeat (first | with_reducible exact HK.out | with_reducible exact Kept.refl _ _ | with_reducible refine Kept.prev ?_ | with_reducible refine Kept.alloc' ?_ _ | with_reducible refine Kept.drew' ?_ | with_reducible refine Kept.setB ?_ _ _ _ (by omega) | with_reducible refine Kept.row' ?_ _ _ (by omega) | with_reducible refine Kept.map' ?_ _ _ (by omega)))
      | some b =>
      obtain ⟨b1, b2⟩ := HB1.out b rfl
      refine (Calls.retV (HV1.out _ (by repeat (first | with_reducible exact HK.out | with_reducible exact Kept.refl _ _ | with_reducible refine Kept.prev ?_ | with_reducible refine Kept.alloc' ?_ _ | with_reducible refine Kept.drew' ?_ | with_reducible refine Kept.setB ?_ _ _ _ (by omega) | with_reducible refine Kept.row' ?_ _ _ (by omega) | with_reducible refine Kept.map' ?_ _ _ (by omega)))) rfl).mono ?_; rintro e w7 ⟨rfl, hk_w7⟩; haveI p_w7 : PrevWorld w7 _ := ⟨hk_w7⟩; have hz_w7 : w.heap.size ≤ w7.heap.size := Kept.size (by repeat (first | with_reducible exact HK.out | with_reducible exact Kept.refl _ _ | with_reducible refine Kept.prev ?_ | with_reducible refine Kept.alloc' ?_ _ | with_reducible refine Kept.drew' ?_ | with_reducible refine Kept.setB ?_ _ _ _ (by omega) | with_reducible refine Kept.row' ?_ _ _ (by omega) | with_reducible refine Kept.map' ?_ _ _ (by omega))); clear hk_w7
      clear HV1 HB1
      go_wp2_with fail
      go_cut [19, 20] (fun v19 v20 wc => Cut43 w7 false x.oper v19 v20 wc)
      case first =>
        go_region_with (go_at_call 75
                        refine (operators_any _).mono ?_
                        rintro e w9 ⟨r, B7, B8, B9, B10, B11, B12, rfl, hops, hk9⟩
                        haveI p_w9 : PrevWorld w9 _ := ⟨hk9⟩
                        have hz9 := hk9.size
                        haveI lo := looks_none hops.map (ops_none B7 B8 B9 B10 B11 B12 (o := 16) (.inl rfl))
                        clear hk9)
        all_goals
          go_wp2_with fail
          go_meet
          exact ⟨(by repeat (first | with_reducible exact HK.out | with_reducible exact Kept.refl _ _ | with_reducible refine Kept.prev ?_ | with_reducible refine Kept.alloc' ?_ _ | with_reducible refine Kept.drew' ?_ | with_reducible refine Kept.setB ?_ _ _ _ (by omega) | with_reducible refine Kept.row' ?_ _ _ (by omega) | with_reducible refine Kept.map' ?_ _ _ (by omega))), rfl, _, rfl, fun h => by cases h⟩
      case rest =>
      obtain ⟨hk10, rfl, B, rfl, hf⟩ := hcut
      haveI p_wc : PrevWorld wc _ := ⟨hk10⟩
      clear hk10 hf
      have HW : Hid (rawF (valP t n) t x = some b) := HM.out
      go_wp2_with fail
      rw [HW.out]
      exact bodyPost_o rfl (res1 Tryz.results48 (resT rfl)) (by repeat (first | with_reducible exact HK.out | with_reducible exact Kept.refl _ _ | with_reducible refine Kept.prev ?_ | with_reducible refine Kept.alloc' ?_ _ | with_reducible refine Kept.drew' ?_ | with_reducible refine Kept.setB ?_ _ _ _ (by omega) | with_reducible refine Kept.row' ?_ _ _ (by omega) | with_reducible refine Kept.map' ?_ _ _ (by omega)))
  by_cases c17 : x.oper = 17
  · by_cases c0 : a = 0
    · have HM : Hid (rawF (valP t n) t x = o1) := HS.out (.inr ⟨c17, c0⟩)
      subst c0
      clear H16 H17 HS HO0 HO1 c16
      go_wp2_with fail
      refine wp_region_heads [0,1,2,3,4] [5,6] (by kernel_rfl) (by kernel_rfl) (fun _ _ _ _ _ h => h) ?_; apply Exists.intro; refine ⟨fun U hU hN => ?_, ?_⟩; simp only [pick, List.flatMap_cons, List.flatMap_nil, List.getElem?_cons_zero, List.getElem?_cons_succ, Option.toList_some, List.cons_append, List.nil_append]
      · repeat (go_big_quiet_step (fail))
        refine wpQuiet_nil ?_
        exact rfl
      simp only [pick, List.flatMap_cons, List.flatMap_nil, List.getElem?_cons_zero, List.getElem?_cons_succ, Option.toList_some, List.cons_append, List.nil_append]
      intro w6 hk6
      haveI p_w6 : PrevWorld w6 _ := ⟨hk6⟩
      clear hk6
      go_wp2_with fail
      cases o1 with
      | none =>
        have HW : Hid (rawF (valP t n) t x = none) := HM.out
        refine (Calls.retP (HV1.out _ (by repeat (first | with_reducible exact HK.out | with_reducible exact Kept.refl _ _ | with_reducible refine Kept.prev ?_ | with_reducible refine Kept.alloc' ?_ _ | with_reducible refine Kept.drew' ?_ | with_reducible refine Kept.setB ?_ _ _ _ (by omega) | with_reducible refine Kept.row' ?_ _ _ (by omega) | with_reducible refine Kept.map' ?_ _ _ (by omega)))) rfl).mono ?_; rintro e w7 ⟨rfl, hk_w7⟩; haveI p_w7 : PrevWorld w7 _ := ⟨hk_w7⟩; have hz_w7 : w.heap.size ≤ w7.heap.size := Kept.size (by repeat (first | with_reducible exact HK.out | with_reducible exact Kept.refl _ _ | with_reducible refine Kept.prev ?_ | with_reducible refine Kept.alloc' ?_ _ | with_reducible refine Kept.drew' ?_ | with_reducible refine Kept.setB ?_ _ _ _ (by omega) | with_reducible refine Kept.row' ?_ _ _ (by omega) | with_reducible refine Kept.map' ?_ _ _ (by omega))); clear hk_w7
        show bodyPost _ _ _ (.panic failC) _ _
        rw [HW.out]
        exact bodyPost_p rfl (by repeat (first | with_reducible exact HK.out | with_reducible exact Kept.refl _ _ | with_reducible refine Kept.prev ?_ | with_reducible refine Kept.alloc' ?_ _ | with_reducible refine Kept.drew' ?_ | with_reducible refine Kept.setB ?_ _ _ _ (by omega) | with_reducible refine Kept.row' ?_ _ _ (by omega) | with_reducible refine Kept.map' ?_ _ _ (by omega)))
      | some b =>
      obtain ⟨b1, b2⟩ := HB1.out b rfl
      refine (Calls.retV (HV1.out _ (by repeat (first | with_reducible exact HK.out | with_reducible exact Kept.refl _ _ | with_reducible refine Kept.prev ?_ | with_reducible refine Kept.alloc' ?_ _ | with_reducible refine Kept.drew' ?_ | with_reducible refine Kept.setB ?_ _ _ _ (by omega) | with_reducible refine Kept.row' ?_ _ _ (by omega) | with_reducible refine Kept.map' ?_ _ _ (by omega)))) rfl).mono ?_; rintro e w7 ⟨rfl, hk_w7⟩; haveI p_w7 : PrevWorld w7 _ := ⟨hk_w7⟩; have hz_w7 : w.heap.size ≤ w7.heap.size := Kept.size (by repeat (first | with_reducible exact HK.out | with_reducible exact Kept.refl _ _ | with_reducible refine Kept.prev ?_ | with_reducible refine Kept.alloc' ?_ _ | with_reducible refine Kept.drew' ?_ | with_reducible refine Kept.setB ?_ _ _ _ (by omega) | with_reducible refine Kept.row' ?_ _ _ (by omega) | with_reducible refine Kept.map' ?_ _ _ (by omega))); clear hk_w7
      clear HV1 HB1
      go_wp2_with fail
      go_cut [19, 20] (fun v19 v20 wc => Cut43 w7 false x.oper v19 v20 wc)
      case first =>
        go_region_with (go_at_call 75
                        refine (operators_any _).mono ?_
                        rintro e w9 ⟨r, B7, B8, B9, B10, B11, B12, rfl, hops, hk9⟩
                        haveI p_w9 : PrevWorld w9 _ := ⟨hk9⟩
                        have hz9 := hk9.size
                        haveI lo := looks_none hops.map (ops_none B7 B8 B9 B10 B11 B12 (o := 17) (.inr rfl))
                        clear hk9)
        all_goals
          go_wp2_with fail
          go_meet
          exact ⟨(by repeat (first | with_reducible exact HK.out | with_reducible exact Kept.refl _ _ | with_reducible refine Kept.prev ?_ | with_reducible refine Kept.alloc' ?_ _ | with_reducible refine Kept.drew' ?_ | with_reducible refine Kept.setB ?_ _ _ _ (by omega) | with_reducible refine Kept.row' ?_ _ _ (by omega) | with_reducible refine Kept.map' ?_ _ _ (by omega))), rfl, _, rfl, fun h => by cases h⟩
      case rest =>
      obtain ⟨hk10, rfl, B, rfl, hf⟩ := hcut
      haveI p_wc : PrevWorld wc _ := ⟨hk10⟩
      clear hk10 hf
      have HW : Hid (rawF (valP t n) t x = some b) := HM.out
      go_wp2_with fail
      rw [HW.out]
      exact bodyPost_o rfl (res1 Tryz.results48 (resT rfl)) (by repeat (first | with_reducible exact HK.out | with_reducible exact Kept.refl _ _ | with_reducible refine Kept.prev ?_ | with_reducible refine Kept.alloc' ?_ _ | with_reducible refine Kept.drew' ?_ | with_reducible refine Kept.setB ?_ _ _ _ (by omega) | with_reducible refine Kept.row' ?_ _ _ (by omega) | with_reducible refine Kept.map' ?_ _ _ (by omega)))
    · have HW : Hid (rawF (valP t n) t x = some (truthP true)) := H17.out c17 c0
      have c1 : (a != 0) = true := by simp [c0]
      clear H16 H17 HS HO0 HO1 HV1 HB1 c16 c0
      go_wp2_with fail
      refine (truth_any _ _).mono ?_; rintro e w6 ⟨rfl, hk_w6⟩; haveI p_w6 : PrevWorld w6 _ := ⟨hk_w6⟩; have hz_w6 : w.heap.size ≤ w6.heap.size := Kept.size (by repeat (first | with_reducible exact HK.out | with_reducible exact Kept.refl _ _ | with_reducible refine Kept.prev ?_ | with_reducible refine Kept.alloc' ?_ _ | with_reducible refine Kept.drew' ?_ | with_reducible refine Kept.setB ?_ _ _ _ (by omega) | with_reducible refine Kept.row' ?_ _ _ (by omega) | with_reducible refine Kept.map' ?_ _ _ (by omega))); clear hk_w6
      go_wp2_with fail
      rw [HW.out]
      exact bodyPost_o rfl (res1 Tryz.results48 (resT rfl)) (by repeat (first | with_reducible exact HK.out | with_reducible exact Kept.refl _ _ | with_reducible refine Kept.prev ?_ | with_reducible refine Kept.alloc' ?_ _ | with_reducible refine Kept.drew' ?_ | with_reducible refine Kept.setB ?_ _ _ _ (by omega) | with_reducible refine Kept.row' ?_ _ _ (by omega) | with_reducible refine Kept.map' ?_ _ _ (by omega)))
  have o15 : x.oper ≤ 15 := by omega
  have e16 : (x.oper == 16) = false := by simp [c16]
  have e17 : (x.oper == 17) = false := by simp [c17]
  replace HO0 := Lib.hid (HO0.out c16 c17)
  replace HO1 := Lib.hid (fun b => HO1.out b c16 c17)
  clear H16 H17 HS c16 c17
  go_wp2_with fail
  refine wp_region_heads [0,1,2,3,4] [5,6] (by kernel_rfl) (by kernel_rfl) (fun _ _ _ _ _ h => h) ?_; apply Exists.intro; refine ⟨fun U hU hN => ?_, ?_⟩; simp only [pick, List.flatMap_cons, List.flatMap_nil, List.getElem?_cons_zero, List.getElem?_cons_succ, Option.toList_some, List.cons_append, List.nil_append]
  · repeat (go_big_quiet_step (fail))
    refine wpQuiet_nil ?_
    exact rfl
  simp only [pick, List.flatMap_cons, List.flatMap_nil, List.getElem?_cons_zero, List.getElem?_cons_succ, Option.toList_some, List.cons_append, List.nil_append]
  intro w6 hk6
  haveI p_w6 : PrevWorld w6 _ := ⟨hk6⟩
  clear hk6
  go_wp2_with fail
  cases o1 with
  | none =>
    have HW : Hid (rawF (valP t n) t x = none) := HO0.out rfl
    refine (Calls.retP (HV1.out _ (by repeat (first | with_reducible exact HK.out | with_reducible exact Kept.refl _ _ | with_reducible refine Kept.prev ?_ | with_reducible refine Kept.alloc' ?_ _ | with_reducible refine Kept.drew' ?_ | with_reducible refine Kept.setB ?_ _ _ _ (by omega) | with_reducible refine Kept.row' ?_ _ _ (by omega) | with_reducible refine Kept.map' ?_ _ _ (by omega)))) rfl).mono ?_; rintro e w7 ⟨rfl, hk_w7⟩; haveI p_w7 : PrevWorld w7 _ := ⟨hk_w7⟩; have hz_w7 : w.heap.size ≤ w7.heap.size := Kept.size (by repeat (first | with_reducible exact HK.out | with_reducible exact Kept.refl _ _ | with_reducible refine Kept.prev ?_ | with_reducible refine Kept.alloc' ?_ _ | with_reducible refine Kept.drew' ?_ | with_reducible refine Kept.setB ?_ _ _ _ (by omega) | with_reducible refine Kept.row' ?_ _ _ (by omega) | with_reducible refine Kept.map' ?_ _ _ (by omega))); clear hk_w7
    show bodyPost _ _ _ (.panic failC) _ _
    rw [HW.out]
    exact bodyPost_p rfl (by repeat (first | with_reducible exact HK.out | with_reducible exact Kept.refl _ _ | with_reducible refine Kept.prev ?_ | with_reducible refine Kept.alloc' ?_ _ | with_reducible refine Kept.drew' ?_ | with_reducible refine Kept.setB ?_ _ _ _ (by omega) | with_reducible refine Kept.row' ?_ _ _ (by omega) | with_reducible refine Kept.map' ?_ _ _ (by omega)))
  | some b =>
  obtain ⟨b1, b2⟩ := HB1.out b rfl
  have HM : Hid (rawF (valP t n) t x = opP x.oper a b) := HO1.out b rfl
  refine (Calls.retV (HV1.out _ (by repeat (first | with_reducible exact HK.out | with_reducible exact Kept.refl _ _ | with_reducible refine Kept.prev ?_ | with_reducible refine Kept.alloc' ?_ _ | with_reducible refine Kept.drew' ?_ | with_reducible refine Kept.setB ?_ _ _ _ (by omega) | with_reducible refine Kept.row' ?_ _ _ (by omega) | with_reducible refine Kept.map' ?_ _ _ (by omega)))) rfl).mono ?_; rintro e w7 ⟨rfl, hk_w7⟩; haveI p_w7 : PrevWorld w7 _ := ⟨hk_w7⟩; have hz_w7 : w.heap.size ≤ w7.heap.size := Kept.size (by repeat (first | with_reducible exact HK.out | with_reducible exact Kept.refl _ _ | with_reducible refine Kept.prev ?_ | with_reducible refine Kept.alloc' ?_ _ | with_reducible refine Kept.drew' ?_ | with_reducible refine Kept.setB ?_ _ _ _ (by omega) | with_reducible refine Kept.row' ?_ _ _ (by omega) | with_reducible refine Kept.map' ?_ _ _ (by omega))); clear hk_w7
  clear HV1 HB1 HO0 HO1
  go_wp2_with fail
  go_cut [19, 20] (fun v19 v20 wc => Cut43 w7 true x.oper v19 v20 wc)
  case first =>
    go_region_with (go_at_call 75
                    refine (operators_any _).mono ?_
                    rintro e w9 ⟨r, B7, B8, B9, B10, B11, B12, rfl, hops, hk9⟩
                    haveI p_w9 : PrevWorld w9 _ := ⟨hk9⟩
                    have hz9 := hk9.size
                    obtain ⟨i, K, caps, hf, hd⟩ := ops_find hops o16 o15
                    haveI lo := looks_some hops.map hf
                    have HD := Lib.hid hd
                    have HF := Lib.hid hf
                    have HOP := Lib.hid hops
                    clear hf hd hops
                    clear hk9)
    all_goals
      go_wp2_with fail
      go_meet
      first
        | exact ⟨(by repeat (first | with_reducible exact HK.out | with_reducible exact Kept.refl _ _ | with_reducible refine Kept.prev ?_ | with_reducible refine Kept.alloc' ?_ _ | with_reducible refine Kept.drew' ?_ | with_reducible refine Kept.setB ?_ _ _ _ (by omega) | with_reducible refine Kept.row' ?_ _ _ (by omega) | with_reducible refine Kept.map' ?_ _ _ (by omega))), rfl, _, rfl, fun _ => ⟨_, _, by infer_instance, does_at ((HOP.out.setO (by infer_instance)).setO (by infer_instance)) o16 o15 HF.out⟩⟩
        | exact ⟨(by repeat (first | with_reducible exact HK.out | with_reducible exact Kept.refl _ _ | with_reducible refine Kept.prev ?_ | with_reducible refine Kept.alloc' ?_ _ | with_reducible refine Kept.drew' ?_ | with_reducible refine Kept.setB ?_ _ _ _ (by omega) | with_reducible refine Kept.row' ?_ _ _ (by omega) | with_reducible refine Kept.map' ?_ _ _ (by omega))), rfl, _, rfl, fun _ => ⟨_, _, by infer_instance, HD.out.kept (by repeat (first | with_reducible exact HK.out | with_reducible exact Kept.refl _ _ | with_reducible refine Kept.prev ?_ | with_reducible refine Kept.alloc' ?_ _ | with_reducible refine Kept.drew' ?_ | with_reducible refine Kept.setB ?_ _ _ _ (by omega) | with_reducible refine Kept.row' ?_ _ _ (by omega) | with_reducible refine Kept.map' ?_ _ _ (by omega)))⟩⟩
  case rest =>
  obtain ⟨hk10, rfl, B, rfl, hf⟩ := hcut
  obtain ⟨K, caps, hb, hd⟩ := hf rfl
  haveI p_wc : PrevWorld wc _ := ⟨hk10⟩
  haveI bxo := hb
  have eg := hd.eg
  have HD := Lib.hid hd
  have hz_wc : w.heap.size ≤ wc.heap.size := Kept.size (X := []) (by repeat (first | with_reducible exact HK.out | with_reducible exact Kept.refl _ _ | with_reducible refine Kept.prev ?_ | with_reducible refine Kept.alloc' ?_ _ | with_reducible refine Kept.drew' ?_ | with_reducible refine Kept.setB ?_ _ _ _ (by omega) | with_reducible refine Kept.row' ?_ _ _ (by omega) | with_reducible refine Kept.map' ?_ _ _ (by omega)))
  clear hk10 hf hb hd
  cases hv : divB x.oper with
  | true =>
    by_cases c0 : b = 0
    · have HW : Hid (rawF (valP t n) t x = none) := by rw [Hid, HM.out, opG_opP, if_pos ⟨hv, c0⟩]
      rw [hv] at bxo
      subst c0
      clear HM HD eg
      go_wp2_with fail
      refine (fail_any _).mono ?_; rintro e w11 ⟨rfl, hk_w11⟩; haveI p_w11 : PrevWorld w11 _ := ⟨hk_w11⟩; have hz_w11 : w.heap.size ≤ w11.heap.size := Kept.size (by repeat (first | with_reducible exact HK.out | with_reducible exact Kept.refl _ _ | with_reducible refine Kept.prev ?_ | with_reducible refine Kept.alloc' ?_ _ | with_reducible refine Kept.drew' ?_ | with_reducible refine Kept.setB ?_ _ _ _ (by omega) | with_reducible refine Kept.row' ?_ _ _ (by omega) | with_reducible refine Kept.map' ?_ _ _ (by omega))); clear hk_w11
      show bodyPost _ _ _ (.panic failC) _ _
      rw [HW.out]
      exact bodyPost_p rfl (by repeat (first | with_reducible exact HK.out | with_reducible exact Kept.refl _ _ | with_reducible refine Kept.prev ?_ | with_reducible refine Kept.alloc' ?_ _ | with_reducible refine Kept.drew' ?_ | with_reducible refine Kept.setB ?_ _ _ _ (by omega) | with_reducible refine Kept.row' ?_ _ _ (by omega) | with_reducible refine Kept.map' ?_ _ _ (by omega)))
    · have HW : Hid (rawF (valP t n) t x = some (opG x.oper a b)) := by rw [Hid, HM.out, opG_opP, if_neg (fun h => c0 h.2)]
      have HR := Lib.hid (fun W (hk : Kept [] wc W) => HD.out.run W a b hk ⟨a1, a2⟩ ⟨b1, b2⟩ (fun _ => c0))
      have c1 : (b == 0) = false := by simp [c0]
      rw [hv] at bxo
      clear HM HD c0
      go_wp2_with fail
      refine (HR.out _ (by repeat (first | with_reducible exact HK.out | with_reducible exact Kept.refl _ _ | with_reducible refine Kept.prev ?_ | with_reducible refine Kept.alloc' ?_ _ | with_reducible refine Kept.drew' ?_ | with_reducible refine Kept.setB ?_ _ _ _ (by omega) | with_reducible refine Kept.row' ?_ _ _ (by omega) | with_reducible refine Kept.map' ?_ _ _ (by omega)))).mono ?_; rintro e w11 ⟨rfl, hk_w11⟩; haveI p_w11 : PrevWorld w11 _ := ⟨hk_w11⟩; have hz_w11 : w.heap.size ≤ w11.heap.size := Kept.size (by repeat (first | with_reducible exact HK.out | with_reducible exact Kept.refl _ _ | with_reducible refine Kept.prev ?_ | with_reducible refine Kept.alloc' ?_ _ | with_reducible refine Kept.drew' ?_ | with_reducible refine Kept.setB ?_ _ _ _ (by omega) | with_reducible refine Kept.row' ?_ _ _ (by omega) | with_reducible refine Kept.map' ?_ _ _ (by omega))); clear hk_w11
      go_wp2_with fail
      rw [HW.out]
      exact bodyPost_o rfl (res1 Tryz.results48 (resT rfl)) (by repeat (first | with_reducible exact HK.out | with_reducible exact Kept.refl _ _ | with_reducible refine Kept.prev ?_ | with_reducible refine Kept.alloc' ?_ _ | with_reducible refine Kept.drew' ?_ | with_reducible refine Kept.setB ?_ _ _ _ (by omega) | with_reducible refine Kept.row' ?_ _ _ (by omega) | with_reducible refine Kept.map' ?_ _ _ (by omega)))
  | false =>
    have HW : Hid (rawF (valP t n) t x = some (opG x.oper a b)) := by rw [Hid, HM.out, opG_opP, if_neg (fun h => by rw [hv] at h; cases h.1)]
    have HR := Lib.hid (fun W (hk : Kept [] wc W) => HD.out.run W a b hk ⟨a1, a2⟩ ⟨b1, b2⟩ (fun h => by rw [hv] at h; cases h))
    rw [hv] at bxo
    clear HM HD
    go_wp2_with fail
    refine (HR.out _ (by repeat (first | with_reducible exact HK.out | with_reducible exact Kept.refl _ _ | with_reducible refine Kept.prev ?_ | with_reducible refine Kept.alloc' ?_ _ | with_reducible refine Kept.drew' ?_ | with_reducible refine Kept.setB ?_ _ _ _ (by omega) | with_reducible refine Kept.row' ?_ _ _ (by omega) | with_reducible refine Kept.map' ?_ _ _ (by omega)))).mono ?_; rintro e w11 ⟨rfl, hk_w11⟩; haveI p_w11 : PrevWorld w11 _ := ⟨hk_w11⟩; have hz_w11 : w.heap.size ≤ w11.heap.size := Kept.size (by repeat (first | with_reducible exact HK.out | with_reducible exact Kept.refl _ _ | with_reducible refine Kept.prev ?_ | with_reducible refine Kept.alloc' ?_ _ | with_reducible refine Kept.drew' ?_ | with_reducible refine Kept.setB ?_ _ _ _ (by omega) | with_reducible refine Kept.row' ?_ _ _ (by omega) | with_reducible refine Kept.map' ?_ _ _ (by omega))); clear hk_w11
    go_wp2_with fail
    rw [HW.out]
    exact bodyPost_o rfl (res1 Tryz.results48 (resT rfl)) (by repeat (first | with_reducible exact HK.out | with_reducible exact Kept.refl _ _ | with_reducible refine Kept.prev ?_ | with_reducible refine Kept.alloc' ?_ _ | with_reducible refine Kept.drew' ?_ | with_reducible refine Kept.setB ?_ _ _ _ (by omega) | with_reducible refine Kept.row' ?_ _ _ (by omega) | with_reducible refine Kept.map' ?_ _ _ (by omega)))
end Go.Proofs.YtgdjhhfbpalkdaaGreat
