/- The regions around a place: the iterator. -/
import Derived.Test.YtlgcboaojdhneaaA6
import Derived.RangeFuncNested
import Derived.RangeFuncBound
import Derived.RangeFuncCalls
import Derived.RangeFuncLeaves
import Derived.Shelf.Abstract
import Derived.Shelf.RegionOpen
import Derived.OwnWalkIn
import Derived.TacticsInMore
import Derived.LoopNIn
import Derived.LoopIn
namespace Go.Proofs.Ytlgcboaojdhneaa
open Go.RowKit Go.Shelf
attribute [local go_sem] Oper.semAt_some

/-- All cells but those of X are as they were. -/
structure KeptC (X : List Nat) (w w' : World) : Prop where
  os : w'.os = w.os
  tape : w'.tape = w.tape
  output : w'.output = w.output
  size : w.heap.size ≤ w'.heap.size
  block : ∀ k o, w.heap[k]? = some o → o.isCells = true → k ∉ X → w'.heap[k]? = some o
theorem KeptC.refl (X : List Nat) (w : World) : KeptC X w w := ⟨rfl, rfl, rfl, Nat.le_refl _, fun _ _ h _ _ => h⟩
theorem KeptC.trans {X : List Nat} {a b c : World} (h : KeptC X a b) (k : KeptC X b c) : KeptC X a c :=
  ⟨k.os.trans h.os, k.tape.trans h.tape, k.output.trans h.output, Nat.le_trans h.size k.size, fun i o hi ho hx => k.block i o (h.block i o hi ho hx) ho hx⟩
theorem Kept.toC {X : List Nat} {a b : World} (h : Kept X a b) : KeptC X a b :=
  ⟨h.os, h.tape, h.output, h.size, fun i o hi _ hx => h.obj hi hx⟩
theorem KeptC.mono {X Y : List Nat} {a b : World} (h : KeptC X a b) (hs : ∀ x, x ∈ X → x ∈ Y) : KeptC Y a b :=
  ⟨h.os, h.tape, h.output, h.size, fun i o hi ho hx => h.block i o hi ho (fun hm => hx (hs i hm))⟩
theorem KeptC.cell {X : List Nat} {w w' : World} (h : KeptC X w w') {p : Addr} {v : Value} (hc : w.cell? p = some v) (hx : p.block ∉ X) : w'.cell? p = some v := by
  obtain ⟨o, ho, hk⟩ := cells_of_cell hc
  exact (World.cell?_of_block ((h.block _ o ho hk hx).trans ho.symm)).trans hc
theorem KeptC.putObj {X : List Nat} (W : World) (l : Nat) (o o' : Obj) (h : W.heap[l]? = some o) (ho : o.isCells = false) : KeptC X W (W.putObj l o') :=
  ⟨rfl, rfl, rfl, by simp, fun k u hk hu _ => by
    have e : k ≠ l := fun e => by subst e; rw [h] at hk; injection hk with hk; subst hk; rw [ho] at hu; cases hu
    rw [World.putObj_heap_other e]; exact hk⟩

theorem RowsAt.keptC {α : Type} {k : Nat} {cells : α → List Value} {X : List Nat} {w w' : World} {A : Option Addr} {l : List α} (h : RowsAt α k cells w A l) (hk : KeptC X w w') (hX : ∀ x, x ∈ X → w.heap.size ≤ x) : RowsAt α k cells w' A l := by
  rcases h with h | ⟨b, o, e, hc⟩
  · exact .inl h
  · refine .inr ⟨b, o, e, fun j r hr i u hu => ?_⟩
    have h0 := hc j r hr i u hu
    exact hk.cell h0 (fun hm => by have h1 := World.block_lt_of_cell? w _ h0; have h2 := hX _ hm; simp only at h1 h2; omega)
theorem TabIn.keptC {X : List Nat} {w w' : World} {v : TabV} {t : Tab} (h : TabIn w v t) (hk : KeptC X w w') (hX : ∀ x, x ∈ X → w.heap.size ≤ x) : TabIn w' v t :=
  ⟨h.es.keptC hk hX, fun x hx => (h.ps x hx).keptC hk hX, h.ok, h.ss.keptC hk hX, h.el, h.em, h.e0, h.sl, h.sm⟩

def regN (t : Tab) : Nat → Int → List Int
  | 0, _ => []
  | k + 1, e => match rowR t e with
    | none => []
    | some x => e :: (if e ≤ x.owner then [] else regN t k x.owner)
/-- The regions around a place, the innermost one first. -/
def regs (t : Tab) (e : Int) : List Int := regN t (e + 1).toNat e
theorem row_nonneg {t : Tab} {e : Int} {x : EntV} (h : rowR t e = some x) : 0 ≤ e := by
  unfold rowR at h
  by_cases h0 : e < 0
  · simp [h0] at h
  · omega
theorem row_neg {t : Tab} {e : Int} (h : e < 0) : rowR t e = none := by simp [rowR, h]
theorem regN_up (t : Tab) : ∀ (k : Nat) (e : Int), (e + 1).toNat ≤ k → regN t (k + 1) e = regN t k e := by
  intro k
  induction k with
  | zero =>
    intro e h
    simp [regN, row_neg (show e < 0 by omega)]
  | succ k ih =>
    intro e h
    rw [regN, regN]
    cases hr : rowR t e with
    | none => rfl
    | some x =>
      have h0 := row_nonneg hr
      simp only
      by_cases hx : e ≤ x.owner
      · rw [if_pos hx, if_pos hx]
      · rw [if_neg hx, if_neg hx, ih x.owner (by omega)]
theorem regN_eq (t : Tab) (e : Int) : ∀ (k : Nat), (e + 1).toNat ≤ k → regN t k e = regs t e := by
  intro k h
  induction k with
  | zero => unfold regs; rw [show (e + 1).toNat = 0 by omega]
  | succ k ih =>
    by_cases hk : (e + 1).toNat ≤ k
    · rw [regN_up t k e hk, ih hk]
    · unfold regs; rw [show (e + 1).toNat = k + 1 by omega]
theorem regs_none {t : Tab} {e : Int} (h : rowR t e = none) : regs t e = [] := by
  unfold regs
  cases (e + 1).toNat with
  | zero => rfl
  | succ k => rw [regN, h]
theorem regs_some {t : Tab} {e : Int} {x : EntV} (h : rowR t e = some x) : regs t e = e :: (if e ≤ x.owner then [] else regs t x.owner) := by
  have h0 := row_nonneg h
  obtain ⟨q, hq⟩ : ∃ q, (e + 1).toNat = q + 1 := ⟨e.toNat, by omega⟩
  unfold regs
  rw [hq, regN, h]
  simp only
  by_cases hx : e ≤ x.owner
  · rw [if_pos hx, if_pos hx]
  · rw [if_neg hx, if_neg hx, regN_eq t x.owner q (by omega)]
    rfl

set_option maxRecDepth 100000 in
set_option maxHeartbeats 400000 in
theorem outwards_any (w : World) (v : TabV) (t : Tab) (r : Int) :
    Calls Try.prog 47 #[.agg (v.cells t), .int .i64 r] w fun e w' => e = .returned (.func (.func 79) #[] #[.pointer (some ⟨w.heap.size + 1, 0, none⟩), .pointer (some ⟨w.heap.size, 0, none⟩)]) ∧ w' = (w.alloc (.cells (v.cells t) 74)).alloc (.cells #[.int .i64 r] 3) := by
  unfold TabV.cells
  go_enter Try.func47, Try.ntmps47
  go_wp2_with fail
  go_ret
  exact ⟨rfl, rfl⟩

set_option maxRecDepth 100000 in
set_option maxHeartbeats 4000000 in
/-- The iterator, for every body that keeps the table and entities of the iterator's own. -/
theorem outwards1_in (n : Nat) (hn : 1 ≤ n) (l Be Bv : Nat) (v : TabV) (t : Tab) (r : Int) (Kp : World → World → Prop) (wb : World) (J Jx : List Int → World → Prop)
    (hKt : ∀ {A B C : World}, Kp A B → Kp B C → Kp A C) (hKk : ∀ {A B : World}, Kept [] A B → Kp A B) (hK43 : ∀ {A B : World} {k : Nat} {x : EntV}, Kp A B → A.heap[k]? = some (.cells x.cells.toArray 43 (0, 0)) → B.heap[k]? = some (.cells x.cells.toArray 43 (0, 0)))
    (hT : ∀ W, Kp wb W → TabIn W v t ∧ ViewBox W Bv v t) (hR : wb.cell? ⟨Be, 0, none⟩ = some (.int .i64 r))
    (hY : ∀ pre x W, J pre W → pre.length < (regs t r).length → YieldAt Fence.wide (n - 1) Try.prog l #[.int .i64 x] W fun e W' =>
      (e = .returned (.bool true) ∧ J (pre ++ [x]) W' ∧ Kp W W') ∨ (e = .returned (.bool false) ∧ Jx (pre ++ [x]) W'))
    (W : World) (hW : Below wb.heap.size wb W) (hJ : AbidesFrom W.heap.size J) (h0 : J [] W) :
    CallsIn Fence.wide n Try.prog 79 #[.func (.yield l) #[] #[], .pointer (some ⟨Be, 0, none⟩), .pointer (some ⟨Bv, 0, none⟩)] W fun e W' => (∃ v, e = .returned v) ∧
      ((∃ ys, ys = regs t r ∧ J ys W') ∨ (∃ pre, pre <+: regs t r ∧ Jx pre W')) := by
  have HT := Lib.hid hT
  have HKT : Hid (∀ {A B C : World}, Kp A B → Kp B C → Kp A C) := hKt
  have HKK : Hid (∀ {A B : World}, Kept [] A B → Kp A B) := hKk
  have HK43 : Hid (∀ {A B : World} {k : Nat} {x : EntV}, Kp A B → A.heap[k]? = some (.cells x.cells.toArray 43 (0, 0)) → B.heap[k]? = some (.cells x.cells.toArray 43 (0, 0))) := hK43
  have HJ := Lib.hid hJ
  have HY := Lib.hid hY
  have hkw : Kp wb W := hKk (Kept.of_below hW)
  have HKW := Lib.hid hkw
  have hBe : W.cell? ⟨Be, 0, none⟩ = some (.int .i64 r) := (Kept.of_below (X := []) hW).cell hR (by simp)
  clear hT hJ hY hkw hW hR hKt hKk hK43
  refine callsIn_of_wp Try.func79 rfl trivial ?_ rfl
  simp only [Try.ntmps79, List.size_toArray, List.length_cons, List.length_nil, Nat.reduceAdd, Nat.reduceSub, Array.replicate_succ, Array.replicate_zero, List.push_toArray, List.append_toArray, List.nil_append, List.cons_append]
  gi_wp2
  gi_loopw [4] (fun p wr => ∃ (pre : List Int) (e : Int), p = .int .i64 e ∧ regs t r = pre ++ regs t e ∧ Kp wb wr ∧ J pre wr) (fun p _ => (intOf p + 1).toNat)
  case atStart => exact ⟨[], r, rfl, rfl, HKW.out, h0⟩
  case round =>
    obtain ⟨pre, e, rfl, hre, hkr, hj⟩ := hrel
    have HRE := Lib.hid hre
    have HKR := Lib.hid hkr
    have HJ0 := Lib.hid hj
    have HTR := Lib.hid (HT.out wr hkr).1
    have hvb : ViewBox wr Bv v t := (HT.out wr hkr).2
    obtain ⟨c0, c1, c2, c3, c4⟩ := hvb.cells
    clear hre hkr hj hvb
    gi_wp2
    refine ⟨trivial, ?_⟩
    refine (callsIn_wide.2 (row_any wr v t e HTR.out)).mono ?_
    rintro ee w1 ⟨rfl, hk1⟩
    have hg1 : wr.grownBy w1 none := ⟨hk1.os, hk1.tape, hk1.output, hk1.size, fun k hk _ => hk1.block k hk (by simp)⟩
    have HK1 := Lib.hid hk1
    have HJ1 : Hid (J pre w1) := HJ.out _ _ _ _ HJ0.out hg1 (fun q hq => by cases hq)
    clear hk1 hg1 c0 c1 c2 c3 c4
    cases hr : rowR t e with
    | none =>
      have HE : Hid (regs t r = pre) := by rw [Hid, HRE.out, regs_none hr, List.append_nil]
      have hxe : rowE t e = zeroE := by unfold rowE; rw [hr]; rfl
      rw [hxe]
      have HJ2 : Hid (J pre (w1.alloc (.cells zeroE.cells.toArray 43))) := HJ.out _ _ _ _ HJ1.out (World.grownBy_alloc _ _ none) (fun q hq => by cases hq)
      clear hr hxe
      gi_wp2
      refine ⟨fun _ _ => trivial, ?_⟩
      gi_wp2
      refine bodyPost_ret (results_none rfl _ _ _) rfl ?_
      exact ⟨⟨_, rfl⟩, .inl ⟨pre, HE.out.symm, HJ2.out⟩⟩
    | some x =>
      have hxe : rowE t e = x := by unfold rowE; rw [hr]; rfl
      rw [hxe]
      have HRS := Lib.hid (regs_some hr)
      have hge := row_nonneg hr
      have HKX : Hid (Kp wb (w1.alloc (.cells x.cells.toArray 43))) := HKT.out HKR.out (HKK.out (HK1.out.trans (Kept.alloc _ _ _)))
      have HJ2 : Hid (J pre (w1.alloc (.cells x.cells.toArray 43))) := HJ.out _ _ _ _ HJ1.out (World.grownBy_alloc _ _ none) (fun q hq => by cases hq)
      have HX5 : Hid ((w1.alloc (.cells x.cells.toArray 43)).heap[w1.heap.size]? = some (.cells x.cells.toArray 43 (0, 0))) := heap_alloc_new _ _
      obtain ⟨fn, tmps, assign, body, hy, hR⟩ := HY.out pre e (w1.alloc (.cells x.cells.toArray 43)) HJ2.out (by rw [HRE.out, HRS.out]; simp)
      have HRR := Lib.hid hR
      clear hr hxe hR
      gi_wp2
      refine HRR.out.mono ?_
      rintro ee W3 (⟨rfl, hJ3, hk3⟩ | ⟨rfl, hJx3⟩)
      · have HJ3 := Lib.hid hJ3
        have HK3 := Lib.hid (HKT.out HKX.out hk3)
        have q2 := ent_cell (x := x) (HK43.out hk3 HX5.out) 2 rfl
        clear hJ3 hk3 hy
        by_cases ho : e ≤ x.owner
        · have HE : Hid (regs t r = pre ++ [e]) := by rw [Hid, HRE.out, HRS.out, if_pos ho]
          gi_wp2
          refine bodyPost_ret (results_none rfl _ _ _) rfl ?_
          exact ⟨⟨_, rfl⟩, .inl ⟨pre ++ [e], HE.out.symm, HJ3.out⟩⟩
        · have HE : Hid (regs t r = pre ++ [e] ++ regs t x.owner) := by rw [Hid, HRE.out, HRS.out, if_neg ho]; simp
          gi_wp2
          go_roundw
          case rel => exact ⟨pre ++ [e], x.owner, rfl, HE.out, HK3.out, HJ3.out⟩
          case measure => simp [intOf]; omega
      · have HP : Hid (pre ++ [e] <+: regs t r) := by
          rw [Hid, HRE.out, HRS.out]
          exact ⟨_, by rw [List.append_assoc]; rfl⟩
        gi_wp2
        refine bodyPost_ret (results_none rfl _ _ _) rfl ?_
        exact ⟨⟨_, rfl⟩, .inr ⟨pre ++ [e], HP.out, hJx3⟩⟩

theorem outwards_stops (n : Nat) (hn : 1 ≤ n) (Be Bv : Nat) (v : TabV) (t : Tab) (r : Int) (Kp : World → World → Prop) (wb : World)
    (hKt : ∀ {A B C : World}, Kp A B → Kp B C → Kp A C) (hKk : ∀ {A B : World}, Kept [] A B → Kp A B) (hK43 : ∀ {A B : World} {k : Nat} {x : EntV}, Kp A B → A.heap[k]? = some (.cells x.cells.toArray 43 (0, 0)) → B.heap[k]? = some (.cells x.cells.toArray 43 (0, 0)))
    (hT : ∀ W, Kp wb W → TabIn W v t ∧ ViewBox W Bv v t) (hR : wb.cell? ⟨Be, 0, none⟩ = some (.int .i64 r)) :
    SeqStopsK Fence.wide n Try.prog 79 #[.pointer (some ⟨Be, 0, none⟩), .pointer (some ⟨Bv, 0, none⟩)] (fun x : Int => #[Value.int .i64 x]) Kp (fun ys => ys = regs t r) (fun pre => pre <+: regs t r) (regs t r).length wb :=
  fun l J Jx W hW hJ _ hY h0 => outwards1_in n hn l Be Bv v t r Kp wb J Jx hKt hKk hK43 hT hR hY W hW hJ h0
end Go.Proofs.Ytlgcboaojdhneaa
