/- The laws' arguments opened: a table, a place, an entity. -/
import Derived.Test.YtlgcboaojdhneaaD9
import Derived.ProofKit
import Derived.ChangeOld
import Derived.Lib.SmallJoins
import Derived.OpenShut
namespace Go.Proofs.Ytlgcboaojdhneaa
open Go.ChangeShapes Go.WideShapes Go.ChangeAt Go.RowKit Go.Deep

section
variable {H : Type} {enc : TypeId × Value → H} {P : Program} {w : World} {base : Nat} {spare : Nat → Bool} {held : Bool}

/-- A struct: each field's cells and reading. -/
theorem rowo_open {e : TypeId} {fs : Array Field} {n : Nat} {cs : List Value} {y : DataW H × List MemPlace} (he : P.underlying e = some (.struct fs))
    (h : DataW.trod enc P w base spare held n e cs = some y) (hs : SzD P e y.1) :
    cs.length = P.cellsOf e ∧ ∃ m, ∀ (j : Nat) (f : Field), fs[j]? = some f → ∃ z : DataW H × List MemPlace, DataW.trod enc P w base spare held m f.type ((cs.drop f.offset).take (P.cellsOf f.type)) = some z ∧ SzD P f.type z.1 := by
  obtain ⟨ys, m, _, hy, hlen, hyl, hf⟩ := DataW.trod_struct he h
  refine ⟨hlen, m, fun j f hj => ?_⟩
  have hjl : j < fs.size := (Array.getElem?_eq_some_iff.1 hj).1
  have hys : ys[j]? = some (ys[j]'(by omega)) := List.getElem?_eq_getElem (by omega)
  refine ⟨_, (hf j f hj).trans hys, ?_⟩
  have hy1 : y.1 = .agg (ys.map (·.1)) := by rw [hy]
  rw [hy1] at hs
  exact hs.field he hj (by rw [List.getElem?_map, hys]; rfl)
end
section
variable {H : Type} {enc : TypeId × Value → H} {w : World} {base : Nat} {spare : Nat → Bool} {held : Bool}
theorem reach_ok {n : Nat} (h : n ≤ reachBytes) : n ≤ 140737488355328 := by have := reachBytes_lt; omega
theorem max_ok {n : Nat} (h : n ≤ maxLen) : n ≤ 9223372036854775807 := by unfold maxLen at h; exact h

theorem cells2 : Try.prog.cellsOf 2 = 1 := by kernel_rfl
theorem cells3 : Try.prog.cellsOf 3 = 1 := by kernel_rfl
theorem cells4 : Try.prog.cellsOf 4 = 1 := by kernel_rfl
theorem cells9 : Try.prog.cellsOf 9 = 1 := by kernel_rfl
theorem cells22 : Try.prog.cellsOf 22 = 1 := by kernel_rfl
theorem cells23 : Try.prog.cellsOf 23 = 1 := by kernel_rfl
theorem cells24 : Try.prog.cellsOf 24 = 1 := by kernel_rfl
theorem cells25 : Try.prog.cellsOf 25 = 1 := by kernel_rfl
theorem cells26 : Try.prog.cellsOf 26 = 1 := by kernel_rfl
theorem cells29 : Try.prog.cellsOf 29 = 1 := by kernel_rfl
theorem cells37 : Try.prog.cellsOf 37 = 1 := by kernel_rfl
theorem cells38 : Try.prog.cellsOf 38 = 1 := by kernel_rfl
theorem cells39 : Try.prog.cellsOf 39 = 1 := by kernel_rfl
theorem cells40 : Try.prog.cellsOf 40 = 1 := by kernel_rfl
theorem cells41 : Try.prog.cellsOf 41 = 3 := by kernel_rfl
theorem cells64 : Try.prog.cellsOf 64 = 3 := by kernel_rfl
theorem cells66 : Try.prog.cellsOf 66 = 1 := by kernel_rfl
theorem cells67 : Try.prog.cellsOf 67 = 1 := by kernel_rfl
theorem cells68 : Try.prog.cellsOf 68 = 1 := by kernel_rfl
theorem cells69 : Try.prog.cellsOf 69 = 1 := by kernel_rfl
theorem cells100 : Try.prog.cellsOf 100 = 1 := by kernel_rfl
theorem cells101 : Try.prog.cellsOf 101 = 1 := by kernel_rfl
theorem cells102 : Try.prog.cellsOf 102 = 1 := by kernel_rfl
theorem cells103 : Try.prog.cellsOf 103 = 1 := by kernel_rfl
theorem cells105 : Try.prog.cellsOf 105 = 9 := by kernel_rfl
theorem cells139 : Try.prog.cellsOf 139 = 1 := by kernel_rfl
theorem list3 {α : Type} {cs : List α} (h : cs.length = 3) : ∃ a0 a1 a2, cs = [a0, a1, a2] := by
  match cs, h with
  | [a0, a1, a2], _ => exact ⟨_, _, _, rfl⟩
theorem list4 {α : Type} {cs : List α} (h : cs.length = 4) : ∃ a0 a1 a2 a3, cs = [a0, a1, a2, a3] := by
  match cs, h with
  | [a0, a1, a2, a3], _ => exact ⟨_, _, _, _, rfl⟩
theorem list5 {α : Type} {cs : List α} (h : cs.length = 5) : ∃ a0 a1 a2 a3 a4, cs = [a0, a1, a2, a3, a4] := by
  match cs, h with
  | [a0, a1, a2, a3, a4], _ => exact ⟨_, _, _, _, _, rfl⟩
theorem list6 {α : Type} {cs : List α} (h : cs.length = 6) : ∃ a0 a1 a2 a3 a4 a5, cs = [a0, a1, a2, a3, a4, a5] := by
  match cs, h with
  | [a0, a1, a2, a3, a4, a5], _ => exact ⟨_, _, _, _, _, _, rfl⟩
theorem list9 {α : Type} {cs : List α} (h : cs.length = 9) : ∃ a0 a1 a2 a3 a4 a5 a6 a7 a8, cs = [a0, a1, a2, a3, a4, a5, a6, a7, a8] := by
  match cs, h with
  | [a0, a1, a2, a3, a4, a5, a6, a7, a8], _ => exact ⟨_, _, _, _, _, _, _, _, _, rfl⟩
theorem list13 {α : Type} {cs : List α} (h : cs.length = 13) : ∃ a0 a1 a2 a3 a4 a5 a6 a7 a8 a9 a10 a11 a12, cs = [a0, a1, a2, a3, a4, a5, a6, a7, a8, a9, a10, a11, a12] := by
  match cs, h with
  | [a0, a1, a2, a3, a4, a5, a6, a7, a8, a9, a10, a11, a12], _ => exact ⟨_, _, _, _, _, _, _, _, _, _, _, _, _, rfl⟩
theorem list18 {α : Type} {cs : List α} (h : cs.length = 18) : ∃ a0 a1 a2 a3 a4 a5 a6 a7 a8 a9 a10 a11 a12 a13 a14 a15 a16 a17, cs = [a0, a1, a2, a3, a4, a5, a6, a7, a8, a9, a10, a11, a12, a13, a14, a15, a16, a17] := by
  match cs, h with
  | [a0, a1, a2, a3, a4, a5, a6, a7, a8, a9, a10, a11, a12, a13, a14, a15, a16, a17], _ => exact ⟨_, _, _, _, _, _, _, _, _, _, _, _, _, _, _, _, _, _, rfl⟩
theorem list22 {α : Type} {cs : List α} (h : cs.length = 22) : ∃ a0 a1 a2 a3 a4 a5 a6 a7 a8 a9 a10 a11 a12 a13 a14 a15 a16 a17 a18 a19 a20 a21, cs = [a0, a1, a2, a3, a4, a5, a6, a7, a8, a9, a10, a11, a12, a13, a14, a15, a16, a17, a18, a19, a20, a21] := by
  match cs, h with
  | [a0, a1, a2, a3, a4, a5, a6, a7, a8, a9, a10, a11, a12, a13, a14, a15, a16, a17, a18, a19, a20, a21], _ => exact ⟨_, _, _, _, _, _, _, _, _, _, _, _, _, _, _, _, _, _, _, _, _, _, rfl⟩
theorem sub_open {n : Nat} {cs : List Value} {y : DataW H × List MemPlace} (h : DataW.trod enc Try.prog w base spare held n 64 cs = some y) (hs : SzD Try.prog 64 y.1) : ∃ r : SubtV, cs = r.cells := by
  obtain ⟨hl0, m, hf⟩ := rowo_open Try.underlying64 h hs
  have hl : cs.length = 3 := hl0.trans (by kernel_rfl)
  clear hl0
  obtain ⟨a0, a1, a2, rfl⟩ := list3 hl
  obtain ⟨z0, r0, q0⟩ := hf 0 _ rfl
  have v0 : DataW.trod enc Try.prog w base spare held m 3 (List.take (Try.prog.cellsOf 3) (List.drop 0 [a0, a1, a2])) = some z0 := r0
  have s0 : SzD Try.prog 3 z0.1 := q0
  rw [cells3] at v0
  have t0 : DataW.trod enc Try.prog w base spare held m 3 [a0] = some z0 := v0
  clear r0 q0 v0
  obtain ⟨z1, r1, q1⟩ := hf 1 _ rfl
  have v1 : DataW.trod enc Try.prog w base spare held m 2 (List.take (Try.prog.cellsOf 2) (List.drop 1 [a0, a1, a2])) = some z1 := r1
  have s1 : SzD Try.prog 2 z1.1 := q1
  rw [cells2] at v1
  have t1 : DataW.trod enc Try.prog w base spare held m 2 [a1] = some z1 := v1
  clear r1 q1 v1
  obtain ⟨z2, r2, q2⟩ := hf 2 _ rfl
  have v2 : DataW.trod enc Try.prog w base spare held m 2 (List.take (Try.prog.cellsOf 2) (List.drop 2 [a0, a1, a2])) = some z2 := r2
  have s2 : SzD Try.prog 2 z2.1 := q2
  rw [cells2] at v2
  have t2 : DataW.trod enc Try.prog w base spare held m 2 [a2] = some z2 := v2
  clear r2 q2 v2
  clear hf
  obtain ⟨x0, e0, _, w0⟩ := DataW.trod_int Try.underlying3 t0
  simp only [List.cons.injEq, and_true] at e0
  subst e0
  obtain ⟨x1, e1, _, w1⟩ := DataW.trod_int Try.underlying2 t1
  simp only [List.cons.injEq, and_true] at e1
  subst e1
  obtain ⟨x2, e2, _, w2⟩ := DataW.trod_int Try.underlying2 t2
  simp only [List.cons.injEq, and_true] at e2
  subst e2
  exact ⟨⟨x0, x1, x2⟩, rfl⟩

theorem expr_open {n : Nat} {cs : List Value} {y : DataW H × List MemPlace} (h : DataW.trod enc Try.prog w base spare held n 105 cs = some y) (hs : SzD Try.prog 105 y.1) :
    ∃ (dkind doper dn : Int) (ds : ByteArray) (dla : Option Addr) (dll dlc : Nat) (daa : Option Addr) (dal dac : Nat) (dline dent dt : Int), cs = [.int .u8 dkind, .int .u8 doper, .int .i64 dn, .string ds, .slice dla dll dlc, .slice daa dal dac, .int .i64 dline, .int .i64 dent, .int .i64 dt] := by
  obtain ⟨hl0, m, hf⟩ := rowo_open Try.underlying105 h hs
  have hl : cs.length = 9 := hl0.trans (by kernel_rfl)
  clear hl0
  obtain ⟨a0, a1, a2, a3, a4, a5, a6, a7, a8, rfl⟩ := list9 hl
  obtain ⟨z0, r0, q0⟩ := hf 0 _ rfl
  have v0 : DataW.trod enc Try.prog w base spare held m 100 (List.take (Try.prog.cellsOf 100) (List.drop 0 [a0, a1, a2, a3, a4, a5, a6, a7, a8])) = some z0 := r0
  have s0 : SzD Try.prog 100 z0.1 := q0
  rw [cells100] at v0
  have t0 : DataW.trod enc Try.prog w base spare held m 100 [a0] = some z0 := v0
  clear r0 q0 v0
  obtain ⟨z1, r1, q1⟩ := hf 1 _ rfl
  have v1 : DataW.trod enc Try.prog w base spare held m 101 (List.take (Try.prog.cellsOf 101) (List.drop 1 [a0, a1, a2, a3, a4, a5, a6, a7, a8])) = some z1 := r1
  have s1 : SzD Try.prog 101 z1.1 := q1
  rw [cells101] at v1
  have t1 : DataW.trod enc Try.prog w base spare held m 101 [a1] = some z1 := v1
  clear r1 q1 v1
  obtain ⟨z2, r2, q2⟩ := hf 2 _ rfl
  have v2 : DataW.trod enc Try.prog w base spare held m 2 (List.take (Try.prog.cellsOf 2) (List.drop 2 [a0, a1, a2, a3, a4, a5, a6, a7, a8])) = some z2 := r2
  have s2 : SzD Try.prog 2 z2.1 := q2
  rw [cells2] at v2
  have t2 : DataW.trod enc Try.prog w base spare held m 2 [a2] = some z2 := v2
  clear r2 q2 v2
  obtain ⟨z3, r3, q3⟩ := hf 3 _ rfl
  have v3 : DataW.trod enc Try.prog w base spare held m 9 (List.take (Try.prog.cellsOf 9) (List.drop 3 [a0, a1, a2, a3, a4, a5, a6, a7, a8])) = some z3 := r3
  have s3 : SzD Try.prog 9 z3.1 := q3
  rw [cells9] at v3
  have t3 : DataW.trod enc Try.prog w base spare held m 9 [a3] = some z3 := v3
  clear r3 q3 v3
  obtain ⟨z4, r4, q4⟩ := hf 4 _ rfl
  have v4 : DataW.trod enc Try.prog w base spare held m 102 (List.take (Try.prog.cellsOf 102) (List.drop 4 [a0, a1, a2, a3, a4, a5, a6, a7, a8])) = some z4 := r4
  have s4 : SzD Try.prog 102 z4.1 := q4
  rw [cells102] at v4
  have t4 : DataW.trod enc Try.prog w base spare held m 102 [a4] = some z4 := v4
  clear r4 q4 v4
  obtain ⟨z5, r5, q5⟩ := hf 5 _ rfl
  have v5 : DataW.trod enc Try.prog w base spare held m 103 (List.take (Try.prog.cellsOf 103) (List.drop 5 [a0, a1, a2, a3, a4, a5, a6, a7, a8])) = some z5 := r5
  have s5 : SzD Try.prog 103 z5.1 := q5
  rw [cells103] at v5
  have t5 : DataW.trod enc Try.prog w base spare held m 103 [a5] = some z5 := v5
  clear r5 q5 v5
  obtain ⟨z6, r6, q6⟩ := hf 6 _ rfl
  have v6 : DataW.trod enc Try.prog w base spare held m 3 (List.take (Try.prog.cellsOf 3) (List.drop 6 [a0, a1, a2, a3, a4, a5, a6, a7, a8])) = some z6 := r6
  have s6 : SzD Try.prog 3 z6.1 := q6
  rw [cells3] at v6
  have t6 : DataW.trod enc Try.prog w base spare held m 3 [a6] = some z6 := v6
  clear r6 q6 v6
  obtain ⟨z7, r7, q7⟩ := hf 7 _ rfl
  have v7 : DataW.trod enc Try.prog w base spare held m 3 (List.take (Try.prog.cellsOf 3) (List.drop 7 [a0, a1, a2, a3, a4, a5, a6, a7, a8])) = some z7 := r7
  have s7 : SzD Try.prog 3 z7.1 := q7
  rw [cells3] at v7
  have t7 : DataW.trod enc Try.prog w base spare held m 3 [a7] = some z7 := v7
  clear r7 q7 v7
  obtain ⟨z8, r8, q8⟩ := hf 8 _ rfl
  have v8 : DataW.trod enc Try.prog w base spare held m 3 (List.take (Try.prog.cellsOf 3) (List.drop 8 [a0, a1, a2, a3, a4, a5, a6, a7, a8])) = some z8 := r8
  have s8 : SzD Try.prog 3 z8.1 := q8
  rw [cells3] at v8
  have t8 : DataW.trod enc Try.prog w base spare held m 3 [a8] = some z8 := v8
  clear r8 q8 v8
  clear hf
  obtain ⟨x0, e0, _, w0⟩ := DataW.trod_int Try.underlying100 t0
  simp only [List.cons.injEq, and_true] at e0
  subst e0
  obtain ⟨x1, e1, _, w1⟩ := DataW.trod_int Try.underlying101 t1
  simp only [List.cons.injEq, and_true] at e1
  subst e1
  obtain ⟨x2, e2, _, w2⟩ := DataW.trod_int Try.underlying2 t2
  simp only [List.cons.injEq, and_true] at e2
  subst e2
  obtain ⟨x3, e3, y3, _⟩ := DataW.trod_string Try.underlying9 t3
  simp only [List.cons.injEq, and_true] at e3
  subst e3
  obtain ⟨A4, k4, c4, e4, _⟩ := slice_len Try.underlying102 t4
  subst e4
  obtain ⟨A5, k5, c5, e5, _⟩ := slice_len Try.underlying103 t5
  subst e5
  obtain ⟨x6, e6, _, w6⟩ := DataW.trod_int Try.underlying3 t6
  simp only [List.cons.injEq, and_true] at e6
  subst e6
  obtain ⟨x7, e7, _, w7⟩ := DataW.trod_int Try.underlying3 t7
  simp only [List.cons.injEq, and_true] at e7
  subst e7
  obtain ⟨x8, e8, _, w8⟩ := DataW.trod_int Try.underlying3 t8
  simp only [List.cons.injEq, and_true] at e8
  subst e8
  exact ⟨x0, x1, x2, x3, A4, k4, c4, A5, k5, c5, x6, x7, x8, rfl⟩

theorem par_open {n : Nat} {cs : List Value} {y : DataW H × List MemPlace} (h : DataW.trod enc Try.prog w base spare held n 107 cs = some y) (hs : SzD Try.prog 107 y.1) : ∃ r : ParamV, cs = r.cells := by
  obtain ⟨hl0, m, hf⟩ := rowo_open Try.underlying107 h hs
  have hl : cs.length = 13 := hl0.trans (by kernel_rfl)
  clear hl0
  obtain ⟨a0, a1, a2, a3, a4, a5, a6, a7, a8, a9, a10, a11, a12, rfl⟩ := list13 hl
  obtain ⟨z0, r0, q0⟩ := hf 0 _ rfl
  have v0 : DataW.trod enc Try.prog w base spare held m 9 (List.take (Try.prog.cellsOf 9) (List.drop 0 [a0, a1, a2, a3, a4, a5, a6, a7, a8, a9, a10, a11, a12])) = some z0 := r0
  have s0 : SzD Try.prog 9 z0.1 := q0
  rw [cells9] at v0
  have t0 : DataW.trod enc Try.prog w base spare held m 9 [a0] = some z0 := v0
  clear r0 q0 v0
  obtain ⟨z1, r1, q1⟩ := hf 1 _ rfl
  have v1 : DataW.trod enc Try.prog w base spare held m 40 (List.take (Try.prog.cellsOf 40) (List.drop 1 [a0, a1, a2, a3, a4, a5, a6, a7, a8, a9, a10, a11, a12])) = some z1 := r1
  have s1 : SzD Try.prog 40 z1.1 := q1
  rw [cells40] at v1
  have t1 : DataW.trod enc Try.prog w base spare held m 40 [a1] = some z1 := v1
  clear r1 q1 v1
  obtain ⟨z2, r2, q2⟩ := hf 2 _ rfl
  have v2 : DataW.trod enc Try.prog w base spare held m 3 (List.take (Try.prog.cellsOf 3) (List.drop 2 [a0, a1, a2, a3, a4, a5, a6, a7, a8, a9, a10, a11, a12])) = some z2 := r2
  have s2 : SzD Try.prog 3 z2.1 := q2
  rw [cells3] at v2
  have t2 : DataW.trod enc Try.prog w base spare held m 3 [a2] = some z2 := v2
  clear r2 q2 v2
  obtain ⟨z3, r3, q3⟩ := hf 3 _ rfl
  have v3 : DataW.trod enc Try.prog w base spare held m 105 (List.take (Try.prog.cellsOf 105) (List.drop 3 [a0, a1, a2, a3, a4, a5, a6, a7, a8, a9, a10, a11, a12])) = some z3 := r3
  have s3 : SzD Try.prog 105 z3.1 := q3
  rw [cells105] at v3
  have t3 : DataW.trod enc Try.prog w base spare held m 105 [a3, a4, a5, a6, a7, a8, a9, a10, a11] = some z3 := v3
  clear r3 q3 v3
  obtain ⟨z4, r4, q4⟩ := hf 4 _ rfl
  have v4 : DataW.trod enc Try.prog w base spare held m 3 (List.take (Try.prog.cellsOf 3) (List.drop 12 [a0, a1, a2, a3, a4, a5, a6, a7, a8, a9, a10, a11, a12])) = some z4 := r4
  have s4 : SzD Try.prog 3 z4.1 := q4
  rw [cells3] at v4
  have t4 : DataW.trod enc Try.prog w base spare held m 3 [a12] = some z4 := v4
  clear r4 q4 v4
  clear hf
  obtain ⟨x0, e0, y0, _⟩ := DataW.trod_string Try.underlying9 t0
  simp only [List.cons.injEq, and_true] at e0
  subst e0
  obtain ⟨x1, e1, _, w1⟩ := DataW.trod_int Try.underlying40 t1
  simp only [List.cons.injEq, and_true] at e1
  subst e1
  obtain ⟨x2, e2, _, w2⟩ := DataW.trod_int Try.underlying3 t2
  simp only [List.cons.injEq, and_true] at e2
  subst e2
  obtain ⟨b0, b1, b2, b3, b4, b5, b6, b7, b8, b9, b10, b11, b12, e3⟩ := expr_open t3 s3
  simp only [List.cons.injEq, and_true] at e3
  obtain ⟨rfl, rfl, rfl, rfl, rfl, rfl, rfl, rfl, rfl⟩ := e3
  obtain ⟨x4, e4, _, w4⟩ := DataW.trod_int Try.underlying3 t4
  simp only [List.cons.injEq, and_true] at e4
  subst e4
  exact ⟨⟨x0, x1, x2, b0, b1, b2, b3, b4, b5, b6, b7, b8, b9, b10, b11, b12, x4⟩, rfl⟩

theorem asp_open {n : Nat} {cs : List Value} {y : DataW H × List MemPlace} (h : DataW.trod enc Try.prog w base spare held n 41 cs = some y) : ∃ a b c : Int, cs = [.int .i64 a, .int .i64 b, .int .i64 c] := by
  obtain ⟨xs, m, _, _, hl, hx, hf⟩ := DataW.trod_array Try.underlying41 h
  rw [cells41] at hl
  rw [cells2] at hf
  obtain ⟨a0, a1, a2, rfl⟩ := list3 hl
  · have g : ∀ i, i < 3 → ∃ z, xs[i]? = some z := fun i hi => ⟨_, List.getElem?_eq_getElem (by omega)⟩
    obtain ⟨z0, h0⟩ := g 0 (by omega)
    obtain ⟨z1, h1⟩ := g 1 (by omega)
    obtain ⟨z2, h2⟩ := g 2 (by omega)
    obtain ⟨x0, e0, _⟩ := DataW.trod_int Try.underlying2 (show DataW.trod enc Try.prog w base spare held m 2 [a0] = some z0 from (hf 0 (by omega)).trans h0)
    obtain ⟨x1, e1, _⟩ := DataW.trod_int Try.underlying2 (show DataW.trod enc Try.prog w base spare held m 2 [a1] = some z1 from (hf 1 (by omega)).trans h1)
    obtain ⟨x2, e2, _⟩ := DataW.trod_int Try.underlying2 (show DataW.trod enc Try.prog w base spare held m 2 [a2] = some z2 from (hf 2 (by omega)).trans h2)
    simp only [List.cons.injEq, and_true] at e0 e1 e2
    subst e0 e1 e2
    exact ⟨x0, x1, x2, rfl⟩

theorem ent_open {n : Nat} {cs : List Value} {y : DataW H × List MemPlace} (h : DataW.trod enc Try.prog w base spare held n 43 cs = some y) (hs : SzD Try.prog 43 y.1) : ∃ r : EntV, cs = r.cells ∧ RowsAt ParamV 13 ParamV.cells w r.pa r.params ∧ r.Ok ∧ (Lit.int .i64 r.owner).wf = true := by
  obtain ⟨hl0, m, hf⟩ := rowo_open Try.underlying43 h hs
  have hl : cs.length = 22 := hl0.trans (by kernel_rfl)
  clear hl0
  obtain ⟨a0, a1, a2, a3, a4, a5, a6, a7, a8, a9, a10, a11, a12, a13, a14, a15, a16, a17, a18, a19, a20, a21, rfl⟩ := list22 hl
  obtain ⟨z0, r0, q0⟩ := hf 0 _ rfl
  have v0 : DataW.trod enc Try.prog w base spare held m 37 (List.take (Try.prog.cellsOf 37) (List.drop 0 [a0, a1, a2, a3, a4, a5, a6, a7, a8, a9, a10, a11, a12, a13, a14, a15, a16, a17, a18, a19, a20, a21])) = some z0 := r0
  have s0 : SzD Try.prog 37 z0.1 := q0
  rw [cells37] at v0
  have t0 : DataW.trod enc Try.prog w base spare held m 37 [a0] = some z0 := v0
  clear r0 q0 v0
  obtain ⟨z1, r1, q1⟩ := hf 1 _ rfl
  have v1 : DataW.trod enc Try.prog w base spare held m 9 (List.take (Try.prog.cellsOf 9) (List.drop 1 [a0, a1, a2, a3, a4, a5, a6, a7, a8, a9, a10, a11, a12, a13, a14, a15, a16, a17, a18, a19, a20, a21])) = some z1 := r1
  have s1 : SzD Try.prog 9 z1.1 := q1
  rw [cells9] at v1
  have t1 : DataW.trod enc Try.prog w base spare held m 9 [a1] = some z1 := v1
  clear r1 q1 v1
  obtain ⟨z2, r2, q2⟩ := hf 2 _ rfl
  have v2 : DataW.trod enc Try.prog w base spare held m 3 (List.take (Try.prog.cellsOf 3) (List.drop 2 [a0, a1, a2, a3, a4, a5, a6, a7, a8, a9, a10, a11, a12, a13, a14, a15, a16, a17, a18, a19, a20, a21])) = some z2 := r2
  have s2 : SzD Try.prog 3 z2.1 := q2
  rw [cells3] at v2
  have t2 : DataW.trod enc Try.prog w base spare held m 3 [a2] = some z2 := v2
  clear r2 q2 v2
  obtain ⟨z3, r3, q3⟩ := hf 3 _ rfl
  have v3 : DataW.trod enc Try.prog w base spare held m 38 (List.take (Try.prog.cellsOf 38) (List.drop 3 [a0, a1, a2, a3, a4, a5, a6, a7, a8, a9, a10, a11, a12, a13, a14, a15, a16, a17, a18, a19, a20, a21])) = some z3 := r3
  have s3 : SzD Try.prog 38 z3.1 := q3
  rw [cells38] at v3
  have t3 : DataW.trod enc Try.prog w base spare held m 38 [a3] = some z3 := v3
  clear r3 q3 v3
  obtain ⟨z4, r4, q4⟩ := hf 4 _ rfl
  have v4 : DataW.trod enc Try.prog w base spare held m 3 (List.take (Try.prog.cellsOf 3) (List.drop 4 [a0, a1, a2, a3, a4, a5, a6, a7, a8, a9, a10, a11, a12, a13, a14, a15, a16, a17, a18, a19, a20, a21])) = some z4 := r4
  have s4 : SzD Try.prog 3 z4.1 := q4
  rw [cells3] at v4
  have t4 : DataW.trod enc Try.prog w base spare held m 3 [a4] = some z4 := v4
  clear r4 q4 v4
  obtain ⟨z5, r5, q5⟩ := hf 5 _ rfl
  have v5 : DataW.trod enc Try.prog w base spare held m 3 (List.take (Try.prog.cellsOf 3) (List.drop 5 [a0, a1, a2, a3, a4, a5, a6, a7, a8, a9, a10, a11, a12, a13, a14, a15, a16, a17, a18, a19, a20, a21])) = some z5 := r5
  have s5 : SzD Try.prog 3 z5.1 := q5
  rw [cells3] at v5
  have t5 : DataW.trod enc Try.prog w base spare held m 3 [a5] = some z5 := v5
  clear r5 q5 v5
  obtain ⟨z6, r6, q6⟩ := hf 6 _ rfl
  have v6 : DataW.trod enc Try.prog w base spare held m 39 (List.take (Try.prog.cellsOf 39) (List.drop 6 [a0, a1, a2, a3, a4, a5, a6, a7, a8, a9, a10, a11, a12, a13, a14, a15, a16, a17, a18, a19, a20, a21])) = some z6 := r6
  have s6 : SzD Try.prog 39 z6.1 := q6
  rw [cells39] at v6
  have t6 : DataW.trod enc Try.prog w base spare held m 39 [a6] = some z6 := v6
  clear r6 q6 v6
  obtain ⟨z7, r7, q7⟩ := hf 7 _ rfl
  have v7 : DataW.trod enc Try.prog w base spare held m 3 (List.take (Try.prog.cellsOf 3) (List.drop 7 [a0, a1, a2, a3, a4, a5, a6, a7, a8, a9, a10, a11, a12, a13, a14, a15, a16, a17, a18, a19, a20, a21])) = some z7 := r7
  have s7 : SzD Try.prog 3 z7.1 := q7
  rw [cells3] at v7
  have t7 : DataW.trod enc Try.prog w base spare held m 3 [a7] = some z7 := v7
  clear r7 q7 v7
  obtain ⟨z8, r8, q8⟩ := hf 8 _ rfl
  have v8 : DataW.trod enc Try.prog w base spare held m 4 (List.take (Try.prog.cellsOf 4) (List.drop 8 [a0, a1, a2, a3, a4, a5, a6, a7, a8, a9, a10, a11, a12, a13, a14, a15, a16, a17, a18, a19, a20, a21])) = some z8 := r8
  have s8 : SzD Try.prog 4 z8.1 := q8
  rw [cells4] at v8
  have t8 : DataW.trod enc Try.prog w base spare held m 4 [a8] = some z8 := v8
  clear r8 q8 v8
  obtain ⟨z9, r9, q9⟩ := hf 9 _ rfl
  have v9 : DataW.trod enc Try.prog w base spare held m 3 (List.take (Try.prog.cellsOf 3) (List.drop 9 [a0, a1, a2, a3, a4, a5, a6, a7, a8, a9, a10, a11, a12, a13, a14, a15, a16, a17, a18, a19, a20, a21])) = some z9 := r9
  have s9 : SzD Try.prog 3 z9.1 := q9
  rw [cells3] at v9
  have t9 : DataW.trod enc Try.prog w base spare held m 3 [a9] = some z9 := v9
  clear r9 q9 v9
  obtain ⟨z10, r10, q10⟩ := hf 10 _ rfl
  have v10 : DataW.trod enc Try.prog w base spare held m 2 (List.take (Try.prog.cellsOf 2) (List.drop 10 [a0, a1, a2, a3, a4, a5, a6, a7, a8, a9, a10, a11, a12, a13, a14, a15, a16, a17, a18, a19, a20, a21])) = some z10 := r10
  have s10 : SzD Try.prog 2 z10.1 := q10
  rw [cells2] at v10
  have t10 : DataW.trod enc Try.prog w base spare held m 2 [a10] = some z10 := v10
  clear r10 q10 v10
  obtain ⟨z11, r11, q11⟩ := hf 11 _ rfl
  have v11 : DataW.trod enc Try.prog w base spare held m 4 (List.take (Try.prog.cellsOf 4) (List.drop 11 [a0, a1, a2, a3, a4, a5, a6, a7, a8, a9, a10, a11, a12, a13, a14, a15, a16, a17, a18, a19, a20, a21])) = some z11 := r11
  have s11 : SzD Try.prog 4 z11.1 := q11
  rw [cells4] at v11
  have t11 : DataW.trod enc Try.prog w base spare held m 4 [a11] = some z11 := v11
  clear r11 q11 v11
  obtain ⟨z12, r12, q12⟩ := hf 12 _ rfl
  have v12 : DataW.trod enc Try.prog w base spare held m 4 (List.take (Try.prog.cellsOf 4) (List.drop 12 [a0, a1, a2, a3, a4, a5, a6, a7, a8, a9, a10, a11, a12, a13, a14, a15, a16, a17, a18, a19, a20, a21])) = some z12 := r12
  have s12 : SzD Try.prog 4 z12.1 := q12
  rw [cells4] at v12
  have t12 : DataW.trod enc Try.prog w base spare held m 4 [a12] = some z12 := v12
  clear r12 q12 v12
  obtain ⟨z13, r13, q13⟩ := hf 13 _ rfl
  have v13 : DataW.trod enc Try.prog w base spare held m 40 (List.take (Try.prog.cellsOf 40) (List.drop 13 [a0, a1, a2, a3, a4, a5, a6, a7, a8, a9, a10, a11, a12, a13, a14, a15, a16, a17, a18, a19, a20, a21])) = some z13 := r13
  have s13 : SzD Try.prog 40 z13.1 := q13
  rw [cells40] at v13
  have t13 : DataW.trod enc Try.prog w base spare held m 40 [a13] = some z13 := v13
  clear r13 q13 v13
  obtain ⟨z14, r14, q14⟩ := hf 14 _ rfl
  have v14 : DataW.trod enc Try.prog w base spare held m 41 (List.take (Try.prog.cellsOf 41) (List.drop 14 [a0, a1, a2, a3, a4, a5, a6, a7, a8, a9, a10, a11, a12, a13, a14, a15, a16, a17, a18, a19, a20, a21])) = some z14 := r14
  have s14 : SzD Try.prog 41 z14.1 := q14
  rw [cells41] at v14
  have t14 : DataW.trod enc Try.prog w base spare held m 41 [a14, a15, a16] = some z14 := v14
  clear r14 q14 v14
  obtain ⟨z15, r15, q15⟩ := hf 15 _ rfl
  have v15 : DataW.trod enc Try.prog w base spare held m 4 (List.take (Try.prog.cellsOf 4) (List.drop 17 [a0, a1, a2, a3, a4, a5, a6, a7, a8, a9, a10, a11, a12, a13, a14, a15, a16, a17, a18, a19, a20, a21])) = some z15 := r15
  have s15 : SzD Try.prog 4 z15.1 := q15
  rw [cells4] at v15
  have t15 : DataW.trod enc Try.prog w base spare held m 4 [a17] = some z15 := v15
  clear r15 q15 v15
  obtain ⟨z16, r16, q16⟩ := hf 16 _ rfl
  have v16 : DataW.trod enc Try.prog w base spare held m 4 (List.take (Try.prog.cellsOf 4) (List.drop 18 [a0, a1, a2, a3, a4, a5, a6, a7, a8, a9, a10, a11, a12, a13, a14, a15, a16, a17, a18, a19, a20, a21])) = some z16 := r16
  have s16 : SzD Try.prog 4 z16.1 := q16
  rw [cells4] at v16
  have t16 : DataW.trod enc Try.prog w base spare held m 4 [a18] = some z16 := v16
  clear r16 q16 v16
  obtain ⟨z17, r17, q17⟩ := hf 17 _ rfl
  have v17 : DataW.trod enc Try.prog w base spare held m 3 (List.take (Try.prog.cellsOf 3) (List.drop 19 [a0, a1, a2, a3, a4, a5, a6, a7, a8, a9, a10, a11, a12, a13, a14, a15, a16, a17, a18, a19, a20, a21])) = some z17 := r17
  have s17 : SzD Try.prog 3 z17.1 := q17
  rw [cells3] at v17
  have t17 : DataW.trod enc Try.prog w base spare held m 3 [a19] = some z17 := v17
  clear r17 q17 v17
  obtain ⟨z18, r18, q18⟩ := hf 18 _ rfl
  have v18 : DataW.trod enc Try.prog w base spare held m 3 (List.take (Try.prog.cellsOf 3) (List.drop 20 [a0, a1, a2, a3, a4, a5, a6, a7, a8, a9, a10, a11, a12, a13, a14, a15, a16, a17, a18, a19, a20, a21])) = some z18 := r18
  have s18 : SzD Try.prog 3 z18.1 := q18
  rw [cells3] at v18
  have t18 : DataW.trod enc Try.prog w base spare held m 3 [a20] = some z18 := v18
  clear r18 q18 v18
  obtain ⟨z19, r19, q19⟩ := hf 19 _ rfl
  have v19 : DataW.trod enc Try.prog w base spare held m 3 (List.take (Try.prog.cellsOf 3) (List.drop 21 [a0, a1, a2, a3, a4, a5, a6, a7, a8, a9, a10, a11, a12, a13, a14, a15, a16, a17, a18, a19, a20, a21])) = some z19 := r19
  have s19 : SzD Try.prog 3 z19.1 := q19
  rw [cells3] at v19
  have t19 : DataW.trod enc Try.prog w base spare held m 3 [a21] = some z19 := v19
  clear r19 q19 v19
  clear hf
  obtain ⟨x0, e0, _, w0⟩ := DataW.trod_int Try.underlying37 t0
  simp only [List.cons.injEq, and_true] at e0
  subst e0
  obtain ⟨x1, e1, y1, _⟩ := DataW.trod_string Try.underlying9 t1
  simp only [List.cons.injEq, and_true] at e1
  subst e1
  obtain ⟨x2, e2, _, w2⟩ := DataW.trod_int Try.underlying3 t2
  simp only [List.cons.injEq, and_true] at e2
  subst e2
  obtain ⟨x3, e3, _, w3⟩ := DataW.trod_int Try.underlying38 t3
  simp only [List.cons.injEq, and_true] at e3
  subst e3
  obtain ⟨x4, e4, _, w4⟩ := DataW.trod_int Try.underlying3 t4
  simp only [List.cons.injEq, and_true] at e4
  subst e4
  obtain ⟨x5, e5, _, w5⟩ := DataW.trod_int Try.underlying3 t5
  simp only [List.cons.injEq, and_true] at e5
  subst e5
  obtain ⟨A6, c6, l6, e6, i6, j6, n6, r6, _, b6⟩ := rows_open (α := ParamV) (k := 13) (cells := ParamV.cells) (G := fun _ => True) Try.underlying39 (by kernel_rfl) (by decide) t6 s6 (fun n cs' y h hs => by obtain ⟨r, hr⟩ := par_open h hs; exact ⟨r, hr, trivial⟩)
  simp only [List.cons.injEq, and_true] at e6
  subst e6
  obtain ⟨x7, e7, _, w7⟩ := DataW.trod_int Try.underlying3 t7
  simp only [List.cons.injEq, and_true] at e7
  subst e7
  obtain ⟨x8, e8, _⟩ := DataW.trod_bool Try.underlying4 t8
  simp only [List.cons.injEq, and_true] at e8
  subst e8
  obtain ⟨x9, e9, _, w9⟩ := DataW.trod_int Try.underlying3 t9
  simp only [List.cons.injEq, and_true] at e9
  subst e9
  obtain ⟨x10, e10, _, w10⟩ := DataW.trod_int Try.underlying2 t10
  simp only [List.cons.injEq, and_true] at e10
  subst e10
  obtain ⟨x11, e11, _⟩ := DataW.trod_bool Try.underlying4 t11
  simp only [List.cons.injEq, and_true] at e11
  subst e11
  obtain ⟨x12, e12, _⟩ := DataW.trod_bool Try.underlying4 t12
  simp only [List.cons.injEq, and_true] at e12
  subst e12
  obtain ⟨x13, e13, _, w13⟩ := DataW.trod_int Try.underlying40 t13
  simp only [List.cons.injEq, and_true] at e13
  subst e13
  obtain ⟨p0, p1, p2, e14⟩ := asp_open t14
  simp only [List.cons.injEq, and_true] at e14
  obtain ⟨rfl, rfl, rfl⟩ := e14
  obtain ⟨x15, e15, _⟩ := DataW.trod_bool Try.underlying4 t15
  simp only [List.cons.injEq, and_true] at e15
  subst e15
  obtain ⟨x16, e16, _⟩ := DataW.trod_bool Try.underlying4 t16
  simp only [List.cons.injEq, and_true] at e16
  subst e16
  obtain ⟨x17, e17, _, w17⟩ := DataW.trod_int Try.underlying3 t17
  simp only [List.cons.injEq, and_true] at e17
  subst e17
  obtain ⟨x18, e18, _, w18⟩ := DataW.trod_int Try.underlying3 t18
  simp only [List.cons.injEq, and_true] at e18
  subst e18
  obtain ⟨x19, e19, _, w19⟩ := DataW.trod_int Try.underlying3 t19
  simp only [List.cons.injEq, and_true] at e19
  subst e19
  refine ⟨⟨x0, x1, x2, x3, x4, x5, A6, c6, l6, x7, x8, x9, x10, x11, x12, x13, p0, p1, p2, x15, x16, x17, x18, x19⟩, rfl, r6, ⟨i6, max_ok j6, n6, ?_, ?_⟩, w2⟩
  · have hb : Try.prog.bytesOf 107 = 144 := by kernel_rfl
    rw [hb] at b6
    have := reachBytes_lt
    show l6.length ≤ _
    omega
  · rw [y1] at s1
    have := reach_ok s1.str
    show x1.data.size ≤ _
    simpa using this

theorem comp_open {n : Nat} {cs : List Value} {y : DataW H × List MemPlace} (h : DataW.trod enc Try.prog w base spare held n 141 cs = some y) (hs : SzD Try.prog 141 y.1) : ∃ r : CompV, cs = r.cells := by
  obtain ⟨hl0, m, hf⟩ := rowo_open Try.underlying141 h hs
  have hl : cs.length = 6 := hl0.trans (by kernel_rfl)
  clear hl0
  obtain ⟨a0, a1, a2, a3, a4, a5, rfl⟩ := list6 hl
  obtain ⟨z0, r0, q0⟩ := hf 0 _ rfl
  have v0 : DataW.trod enc Try.prog w base spare held m 9 (List.take (Try.prog.cellsOf 9) (List.drop 0 [a0, a1, a2, a3, a4, a5])) = some z0 := r0
  have s0 : SzD Try.prog 9 z0.1 := q0
  rw [cells9] at v0
  have t0 : DataW.trod enc Try.prog w base spare held m 9 [a0] = some z0 := v0
  clear r0 q0 v0
  obtain ⟨z1, r1, q1⟩ := hf 1 _ rfl
  have v1 : DataW.trod enc Try.prog w base spare held m 3 (List.take (Try.prog.cellsOf 3) (List.drop 1 [a0, a1, a2, a3, a4, a5])) = some z1 := r1
  have s1 : SzD Try.prog 3 z1.1 := q1
  rw [cells3] at v1
  have t1 : DataW.trod enc Try.prog w base spare held m 3 [a1] = some z1 := v1
  clear r1 q1 v1
  obtain ⟨z2, r2, q2⟩ := hf 2 _ rfl
  have v2 : DataW.trod enc Try.prog w base spare held m 4 (List.take (Try.prog.cellsOf 4) (List.drop 2 [a0, a1, a2, a3, a4, a5])) = some z2 := r2
  have s2 : SzD Try.prog 4 z2.1 := q2
  rw [cells4] at v2
  have t2 : DataW.trod enc Try.prog w base spare held m 4 [a2] = some z2 := v2
  clear r2 q2 v2
  obtain ⟨z3, r3, q3⟩ := hf 3 _ rfl
  have v3 : DataW.trod enc Try.prog w base spare held m 2 (List.take (Try.prog.cellsOf 2) (List.drop 3 [a0, a1, a2, a3, a4, a5])) = some z3 := r3
  have s3 : SzD Try.prog 2 z3.1 := q3
  rw [cells2] at v3
  have t3 : DataW.trod enc Try.prog w base spare held m 2 [a3] = some z3 := v3
  clear r3 q3 v3
  obtain ⟨z4, r4, q4⟩ := hf 4 _ rfl
  have v4 : DataW.trod enc Try.prog w base spare held m 4 (List.take (Try.prog.cellsOf 4) (List.drop 4 [a0, a1, a2, a3, a4, a5])) = some z4 := r4
  have s4 : SzD Try.prog 4 z4.1 := q4
  rw [cells4] at v4
  have t4 : DataW.trod enc Try.prog w base spare held m 4 [a4] = some z4 := v4
  clear r4 q4 v4
  obtain ⟨z5, r5, q5⟩ := hf 5 _ rfl
  have v5 : DataW.trod enc Try.prog w base spare held m 139 (List.take (Try.prog.cellsOf 139) (List.drop 5 [a0, a1, a2, a3, a4, a5])) = some z5 := r5
  have s5 : SzD Try.prog 139 z5.1 := q5
  rw [cells139] at v5
  have t5 : DataW.trod enc Try.prog w base spare held m 139 [a5] = some z5 := v5
  clear r5 q5 v5
  clear hf
  obtain ⟨x0, e0, y0, _⟩ := DataW.trod_string Try.underlying9 t0
  simp only [List.cons.injEq, and_true] at e0
  subst e0
  obtain ⟨x1, e1, _, w1⟩ := DataW.trod_int Try.underlying3 t1
  simp only [List.cons.injEq, and_true] at e1
  subst e1
  obtain ⟨x2, e2, _⟩ := DataW.trod_bool Try.underlying4 t2
  simp only [List.cons.injEq, and_true] at e2
  subst e2
  obtain ⟨x3, e3, _, w3⟩ := DataW.trod_int Try.underlying2 t3
  simp only [List.cons.injEq, and_true] at e3
  subst e3
  obtain ⟨x4, e4, _⟩ := DataW.trod_bool Try.underlying4 t4
  simp only [List.cons.injEq, and_true] at e4
  subst e4
  obtain ⟨A5, k5, c5, e5, _⟩ := slice_len Try.underlying139 t5
  subst e5
  exact ⟨⟨x0, x1, x2, x3, x4, A5, c5, List.replicate k5 0⟩, by simp [CompV.cells]⟩

theorem ty_open {n : Nat} {cs : List Value} {y : DataW H × List MemPlace} (h : DataW.trod enc Try.prog w base spare held n 71 cs = some y) (hs : SzD Try.prog 71 y.1) : ∃ r : TyV, cs = r.cells := by
  obtain ⟨hl0, m, hf⟩ := rowo_open Try.underlying71 h hs
  have hl : cs.length = 18 := hl0.trans (by kernel_rfl)
  clear hl0
  obtain ⟨a0, a1, a2, a3, a4, a5, a6, a7, a8, a9, a10, a11, a12, a13, a14, a15, a16, a17, rfl⟩ := list18 hl
  obtain ⟨z0, r0, q0⟩ := hf 0 _ rfl
  have v0 : DataW.trod enc Try.prog w base spare held m 66 (List.take (Try.prog.cellsOf 66) (List.drop 0 [a0, a1, a2, a3, a4, a5, a6, a7, a8, a9, a10, a11, a12, a13, a14, a15, a16, a17])) = some z0 := r0
  have s0 : SzD Try.prog 66 z0.1 := q0
  rw [cells66] at v0
  have t0 : DataW.trod enc Try.prog w base spare held m 66 [a0] = some z0 := v0
  clear r0 q0 v0
  obtain ⟨z1, r1, q1⟩ := hf 1 _ rfl
  have v1 : DataW.trod enc Try.prog w base spare held m 9 (List.take (Try.prog.cellsOf 9) (List.drop 1 [a0, a1, a2, a3, a4, a5, a6, a7, a8, a9, a10, a11, a12, a13, a14, a15, a16, a17])) = some z1 := r1
  have s1 : SzD Try.prog 9 z1.1 := q1
  rw [cells9] at v1
  have t1 : DataW.trod enc Try.prog w base spare held m 9 [a1] = some z1 := v1
  clear r1 q1 v1
  obtain ⟨z2, r2, q2⟩ := hf 2 _ rfl
  have v2 : DataW.trod enc Try.prog w base spare held m 3 (List.take (Try.prog.cellsOf 3) (List.drop 2 [a0, a1, a2, a3, a4, a5, a6, a7, a8, a9, a10, a11, a12, a13, a14, a15, a16, a17])) = some z2 := r2
  have s2 : SzD Try.prog 3 z2.1 := q2
  rw [cells3] at v2
  have t2 : DataW.trod enc Try.prog w base spare held m 3 [a2] = some z2 := v2
  clear r2 q2 v2
  obtain ⟨z3, r3, q3⟩ := hf 3 _ rfl
  have v3 : DataW.trod enc Try.prog w base spare held m 3 (List.take (Try.prog.cellsOf 3) (List.drop 3 [a0, a1, a2, a3, a4, a5, a6, a7, a8, a9, a10, a11, a12, a13, a14, a15, a16, a17])) = some z3 := r3
  have s3 : SzD Try.prog 3 z3.1 := q3
  rw [cells3] at v3
  have t3 : DataW.trod enc Try.prog w base spare held m 3 [a3] = some z3 := v3
  clear r3 q3 v3
  obtain ⟨z4, r4, q4⟩ := hf 4 _ rfl
  have v4 : DataW.trod enc Try.prog w base spare held m 67 (List.take (Try.prog.cellsOf 67) (List.drop 4 [a0, a1, a2, a3, a4, a5, a6, a7, a8, a9, a10, a11, a12, a13, a14, a15, a16, a17])) = some z4 := r4
  have s4 : SzD Try.prog 67 z4.1 := q4
  rw [cells67] at v4
  have t4 : DataW.trod enc Try.prog w base spare held m 67 [a4] = some z4 := v4
  clear r4 q4 v4
  obtain ⟨z5, r5, q5⟩ := hf 5 _ rfl
  have v5 : DataW.trod enc Try.prog w base spare held m 3 (List.take (Try.prog.cellsOf 3) (List.drop 5 [a0, a1, a2, a3, a4, a5, a6, a7, a8, a9, a10, a11, a12, a13, a14, a15, a16, a17])) = some z5 := r5
  have s5 : SzD Try.prog 3 z5.1 := q5
  rw [cells3] at v5
  have t5 : DataW.trod enc Try.prog w base spare held m 3 [a5] = some z5 := v5
  clear r5 q5 v5
  obtain ⟨z6, r6, q6⟩ := hf 6 _ rfl
  have v6 : DataW.trod enc Try.prog w base spare held m 3 (List.take (Try.prog.cellsOf 3) (List.drop 6 [a0, a1, a2, a3, a4, a5, a6, a7, a8, a9, a10, a11, a12, a13, a14, a15, a16, a17])) = some z6 := r6
  have s6 : SzD Try.prog 3 z6.1 := q6
  rw [cells3] at v6
  have t6 : DataW.trod enc Try.prog w base spare held m 3 [a6] = some z6 := v6
  clear r6 q6 v6
  obtain ⟨z7, r7, q7⟩ := hf 7 _ rfl
  have v7 : DataW.trod enc Try.prog w base spare held m 3 (List.take (Try.prog.cellsOf 3) (List.drop 7 [a0, a1, a2, a3, a4, a5, a6, a7, a8, a9, a10, a11, a12, a13, a14, a15, a16, a17])) = some z7 := r7
  have s7 : SzD Try.prog 3 z7.1 := q7
  rw [cells3] at v7
  have t7 : DataW.trod enc Try.prog w base spare held m 3 [a7] = some z7 := v7
  clear r7 q7 v7
  obtain ⟨z8, r8, q8⟩ := hf 8 _ rfl
  have v8 : DataW.trod enc Try.prog w base spare held m 9 (List.take (Try.prog.cellsOf 9) (List.drop 8 [a0, a1, a2, a3, a4, a5, a6, a7, a8, a9, a10, a11, a12, a13, a14, a15, a16, a17])) = some z8 := r8
  have s8 : SzD Try.prog 9 z8.1 := q8
  rw [cells9] at v8
  have t8 : DataW.trod enc Try.prog w base spare held m 9 [a8] = some z8 := v8
  clear r8 q8 v8
  obtain ⟨z9, r9, q9⟩ := hf 9 _ rfl
  have v9 : DataW.trod enc Try.prog w base spare held m 4 (List.take (Try.prog.cellsOf 4) (List.drop 9 [a0, a1, a2, a3, a4, a5, a6, a7, a8, a9, a10, a11, a12, a13, a14, a15, a16, a17])) = some z9 := r9
  have s9 : SzD Try.prog 4 z9.1 := q9
  rw [cells4] at v9
  have t9 : DataW.trod enc Try.prog w base spare held m 4 [a9] = some z9 := v9
  clear r9 q9 v9
  obtain ⟨z10, r10, q10⟩ := hf 10 _ rfl
  have v10 : DataW.trod enc Try.prog w base spare held m 2 (List.take (Try.prog.cellsOf 2) (List.drop 10 [a0, a1, a2, a3, a4, a5, a6, a7, a8, a9, a10, a11, a12, a13, a14, a15, a16, a17])) = some z10 := r10
  have s10 : SzD Try.prog 2 z10.1 := q10
  rw [cells2] at v10
  have t10 : DataW.trod enc Try.prog w base spare held m 2 [a10] = some z10 := v10
  clear r10 q10 v10
  obtain ⟨z11, r11, q11⟩ := hf 11 _ rfl
  have v11 : DataW.trod enc Try.prog w base spare held m 68 (List.take (Try.prog.cellsOf 68) (List.drop 11 [a0, a1, a2, a3, a4, a5, a6, a7, a8, a9, a10, a11, a12, a13, a14, a15, a16, a17])) = some z11 := r11
  have s11 : SzD Try.prog 68 z11.1 := q11
  rw [cells68] at v11
  have t11 : DataW.trod enc Try.prog w base spare held m 68 [a11] = some z11 := v11
  clear r11 q11 v11
  obtain ⟨z12, r12, q12⟩ := hf 12 _ rfl
  have v12 : DataW.trod enc Try.prog w base spare held m 3 (List.take (Try.prog.cellsOf 3) (List.drop 12 [a0, a1, a2, a3, a4, a5, a6, a7, a8, a9, a10, a11, a12, a13, a14, a15, a16, a17])) = some z12 := r12
  have s12 : SzD Try.prog 3 z12.1 := q12
  rw [cells3] at v12
  have t12 : DataW.trod enc Try.prog w base spare held m 3 [a12] = some z12 := v12
  clear r12 q12 v12
  obtain ⟨z13, r13, q13⟩ := hf 13 _ rfl
  have v13 : DataW.trod enc Try.prog w base spare held m 69 (List.take (Try.prog.cellsOf 69) (List.drop 13 [a0, a1, a2, a3, a4, a5, a6, a7, a8, a9, a10, a11, a12, a13, a14, a15, a16, a17])) = some z13 := r13
  have s13 : SzD Try.prog 69 z13.1 := q13
  rw [cells69] at v13
  have t13 : DataW.trod enc Try.prog w base spare held m 69 [a13] = some z13 := v13
  clear r13 q13 v13
  obtain ⟨z14, r14, q14⟩ := hf 14 _ rfl
  have v14 : DataW.trod enc Try.prog w base spare held m 4 (List.take (Try.prog.cellsOf 4) (List.drop 14 [a0, a1, a2, a3, a4, a5, a6, a7, a8, a9, a10, a11, a12, a13, a14, a15, a16, a17])) = some z14 := r14
  have s14 : SzD Try.prog 4 z14.1 := q14
  rw [cells4] at v14
  have t14 : DataW.trod enc Try.prog w base spare held m 4 [a14] = some z14 := v14
  clear r14 q14 v14
  obtain ⟨z15, r15, q15⟩ := hf 15 _ rfl
  have v15 : DataW.trod enc Try.prog w base spare held m 3 (List.take (Try.prog.cellsOf 3) (List.drop 15 [a0, a1, a2, a3, a4, a5, a6, a7, a8, a9, a10, a11, a12, a13, a14, a15, a16, a17])) = some z15 := r15
  have s15 : SzD Try.prog 3 z15.1 := q15
  rw [cells3] at v15
  have t15 : DataW.trod enc Try.prog w base spare held m 3 [a15] = some z15 := v15
  clear r15 q15 v15
  obtain ⟨z16, r16, q16⟩ := hf 16 _ rfl
  have v16 : DataW.trod enc Try.prog w base spare held m 3 (List.take (Try.prog.cellsOf 3) (List.drop 16 [a0, a1, a2, a3, a4, a5, a6, a7, a8, a9, a10, a11, a12, a13, a14, a15, a16, a17])) = some z16 := r16
  have s16 : SzD Try.prog 3 z16.1 := q16
  rw [cells3] at v16
  have t16 : DataW.trod enc Try.prog w base spare held m 3 [a16] = some z16 := v16
  clear r16 q16 v16
  obtain ⟨z17, r17, q17⟩ := hf 17 _ rfl
  have v17 : DataW.trod enc Try.prog w base spare held m 3 (List.take (Try.prog.cellsOf 3) (List.drop 17 [a0, a1, a2, a3, a4, a5, a6, a7, a8, a9, a10, a11, a12, a13, a14, a15, a16, a17])) = some z17 := r17
  have s17 : SzD Try.prog 3 z17.1 := q17
  rw [cells3] at v17
  have t17 : DataW.trod enc Try.prog w base spare held m 3 [a17] = some z17 := v17
  clear r17 q17 v17
  clear hf
  obtain ⟨x0, e0, _, w0⟩ := DataW.trod_int Try.underlying66 t0
  simp only [List.cons.injEq, and_true] at e0
  subst e0
  obtain ⟨x1, e1, y1, _⟩ := DataW.trod_string Try.underlying9 t1
  simp only [List.cons.injEq, and_true] at e1
  subst e1
  obtain ⟨x2, e2, _, w2⟩ := DataW.trod_int Try.underlying3 t2
  simp only [List.cons.injEq, and_true] at e2
  subst e2
  obtain ⟨x3, e3, _, w3⟩ := DataW.trod_int Try.underlying3 t3
  simp only [List.cons.injEq, and_true] at e3
  subst e3
  obtain ⟨A4, k4, c4, e4, _⟩ := slice_len Try.underlying67 t4
  subst e4
  obtain ⟨x5, e5, _, w5⟩ := DataW.trod_int Try.underlying3 t5
  simp only [List.cons.injEq, and_true] at e5
  subst e5
  obtain ⟨x6, e6, _, w6⟩ := DataW.trod_int Try.underlying3 t6
  simp only [List.cons.injEq, and_true] at e6
  subst e6
  obtain ⟨x7, e7, _, w7⟩ := DataW.trod_int Try.underlying3 t7
  simp only [List.cons.injEq, and_true] at e7
  subst e7
  obtain ⟨x8, e8, y8, _⟩ := DataW.trod_string Try.underlying9 t8
  simp only [List.cons.injEq, and_true] at e8
  subst e8
  obtain ⟨x9, e9, _⟩ := DataW.trod_bool Try.underlying4 t9
  simp only [List.cons.injEq, and_true] at e9
  subst e9
  obtain ⟨x10, e10, _, w10⟩ := DataW.trod_int Try.underlying2 t10
  simp only [List.cons.injEq, and_true] at e10
  subst e10
  obtain ⟨A11, k11, c11, e11, _⟩ := slice_len Try.underlying68 t11
  subst e11
  obtain ⟨x12, e12, _, w12⟩ := DataW.trod_int Try.underlying3 t12
  simp only [List.cons.injEq, and_true] at e12
  subst e12
  obtain ⟨x13, e13, _, w13⟩ := DataW.trod_int Try.underlying69 t13
  simp only [List.cons.injEq, and_true] at e13
  subst e13
  obtain ⟨x14, e14, _⟩ := DataW.trod_bool Try.underlying4 t14
  simp only [List.cons.injEq, and_true] at e14
  subst e14
  obtain ⟨x15, e15, _, w15⟩ := DataW.trod_int Try.underlying3 t15
  simp only [List.cons.injEq, and_true] at e15
  subst e15
  obtain ⟨x16, e16, _, w16⟩ := DataW.trod_int Try.underlying3 t16
  simp only [List.cons.injEq, and_true] at e16
  subst e16
  obtain ⟨x17, e17, _, w17⟩ := DataW.trod_int Try.underlying3 t17
  simp only [List.cons.injEq, and_true] at e17
  subst e17
  exact ⟨⟨x0, x1, x2, x3, A4, c4, List.replicate k4 ⟨#[]⟩, x5, x6, x7, x8, x9, x10, A11, c11, List.replicate k11 ⟨⟨#[]⟩, 0, false, 0, false, none, 0, []⟩, x12, x13, x14, x15, x16, x17⟩, by simp [TyV.cells]⟩

theorem tab_open {n : Nat} {cs : List Value} {y : DataW H × List MemPlace} (h : DataW.trod enc Try.prog w base spare held n 28 cs = some y) (hs : SzD Try.prog 28 y.1) : ∃ (v : TabV) (t : Tab), cs = (v.cells t).toList ∧ TabIn w v t ∧ TypIn w v t ∧ ∀ x, x ∈ t.ents → (Lit.int .i64 x.owner).wf = true := by
  obtain ⟨hl0, m, hf⟩ := rowo_open Try.underlying28 h hs
  have hl : cs.length = 5 := hl0.trans (by kernel_rfl)
  clear hl0
  obtain ⟨a0, a1, a2, a3, a4, rfl⟩ := list5 hl
  obtain ⟨z0, r0, q0⟩ := hf 0 _ rfl
  have v0 : DataW.trod enc Try.prog w base spare held m 22 (List.take (Try.prog.cellsOf 22) (List.drop 0 [a0, a1, a2, a3, a4])) = some z0 := r0
  have s0 : SzD Try.prog 22 z0.1 := q0
  rw [cells22] at v0
  have t0 : DataW.trod enc Try.prog w base spare held m 22 [a0] = some z0 := v0
  clear r0 q0 v0
  obtain ⟨z1, r1, q1⟩ := hf 1 _ rfl
  have v1 : DataW.trod enc Try.prog w base spare held m 23 (List.take (Try.prog.cellsOf 23) (List.drop 1 [a0, a1, a2, a3, a4])) = some z1 := r1
  have s1 : SzD Try.prog 23 z1.1 := q1
  rw [cells23] at v1
  have t1 : DataW.trod enc Try.prog w base spare held m 23 [a1] = some z1 := v1
  clear r1 q1 v1
  obtain ⟨z2, r2, q2⟩ := hf 2 _ rfl
  have v2 : DataW.trod enc Try.prog w base spare held m 24 (List.take (Try.prog.cellsOf 24) (List.drop 2 [a0, a1, a2, a3, a4])) = some z2 := r2
  have s2 : SzD Try.prog 24 z2.1 := q2
  rw [cells24] at v2
  have t2 : DataW.trod enc Try.prog w base spare held m 24 [a2] = some z2 := v2
  clear r2 q2 v2
  obtain ⟨z3, r3, q3⟩ := hf 3 _ rfl
  have v3 : DataW.trod enc Try.prog w base spare held m 25 (List.take (Try.prog.cellsOf 25) (List.drop 3 [a0, a1, a2, a3, a4])) = some z3 := r3
  have s3 : SzD Try.prog 25 z3.1 := q3
  rw [cells25] at v3
  have t3 : DataW.trod enc Try.prog w base spare held m 25 [a3] = some z3 := v3
  clear r3 q3 v3
  obtain ⟨z4, r4, q4⟩ := hf 4 _ rfl
  have v4 : DataW.trod enc Try.prog w base spare held m 26 (List.take (Try.prog.cellsOf 26) (List.drop 4 [a0, a1, a2, a3, a4])) = some z4 := r4
  have s4 : SzD Try.prog 26 z4.1 := q4
  rw [cells26] at v4
  have t4 : DataW.trod enc Try.prog w base spare held m 26 [a4] = some z4 := v4
  clear r4 q4 v4
  clear hf
  obtain ⟨A0, c0, l0, e0, i0, j0, n0, r0, g0, b0⟩ := rows_open (α := TyV) (k := 18) (cells := TyV.cells) (G := fun _ => True) Try.underlying22 (by kernel_rfl) (by decide) t0 s0 (fun n cs' y h hs => by obtain ⟨r, hr⟩ := ty_open h hs; exact ⟨r, hr, trivial⟩)
  simp only [List.cons.injEq, and_true] at e0
  subst e0
  obtain ⟨A1, c1, l1, e1, i1, j1, n1, r1, g1, b1⟩ := rows_open (α := SubtV) (k := 3) (cells := SubtV.cells) (G := fun _ => True) Try.underlying23 (by kernel_rfl) (by decide) t1 s1 (fun n cs' y h hs => by obtain ⟨r, hr⟩ := sub_open h hs; exact ⟨r, hr, trivial⟩)
  simp only [List.cons.injEq, and_true] at e1
  subst e1
  obtain ⟨A2, c2, l2, e2, i2, j2, n2, r2, g2, b2⟩ := rows_open (α := EntV) (k := 22) (cells := EntV.cells) (G := fun r => RowsAt ParamV 13 ParamV.cells w r.pa r.params ∧ r.Ok ∧ (Lit.int .i64 r.owner).wf = true) Try.underlying24 (by kernel_rfl) (by decide) t2 s2 (fun n cs' y h hs => ent_open h hs)
  simp only [List.cons.injEq, and_true] at e2
  subst e2
  obtain ⟨A3, k3, c3, e3, _⟩ := slice_len Try.underlying25 t3
  subst e3
  obtain ⟨A4, k4, c4, e4, _⟩ := slice_len Try.underlying26 t4
  subst e4
  refine ⟨⟨A0, c0, A1, c1, A2, c2, A3, k3, c3, A4, k4, c4⟩, ⟨l0, l1, l2⟩, rfl, ⟨r2, fun x hx => (g2 x hx).1, fun x hx => (g2 x hx).2.1, r1, i2, max_ok j2, n2, i1, max_ok j1⟩, ⟨r0, i0, max_ok j0⟩, fun x hx => (g2 x hx).2.2⟩

theorem ints_rows {w : World} {A : Option Addr} {l : List Int} (h : RowsAt Int 1 (fun x => [Value.int .i64 x]) w A l) : IntsIn w A l := by
  rcases h with h | ⟨b, o, e, hc⟩
  · exact .inl h
  · refine .inr ⟨b, o, e, fun j x hx => ?_⟩
    have := hc j x hx 0 (.int .i64 x) rfl
    rwa [Nat.mul_one, Nat.add_zero] at this

theorem where_open {n : Nat} {cs : List Value} {y : DataW H × List MemPlace} (h : DataW.trod enc Try.prog w base spare held n 31 cs = some y) (hs : SzD Try.prog 31 y.1) : ∃ h : WhV, cs = h.cells ∧ WhIn w h ∧ (h.ua = none → h.uc = 0) ∧ (h.sa = none → h.sc = 0) ∧ (Lit.int .i64 h.region).wf = true ∧ (Lit.int .i64 h.after).wf = true := by
  obtain ⟨hl0, m, hf⟩ := rowo_open Try.underlying31 h hs
  have hl : cs.length = 4 := hl0.trans (by kernel_rfl)
  clear hl0
  obtain ⟨a0, a1, a2, a3, rfl⟩ := list4 hl
  obtain ⟨z0, r0, q0⟩ := hf 0 _ rfl
  have v0 : DataW.trod enc Try.prog w base spare held m 3 (List.take (Try.prog.cellsOf 3) (List.drop 0 [a0, a1, a2, a3])) = some z0 := r0
  have s0 : SzD Try.prog 3 z0.1 := q0
  rw [cells3] at v0
  have t0 : DataW.trod enc Try.prog w base spare held m 3 [a0] = some z0 := v0
  clear r0 q0 v0
  obtain ⟨z1, r1, q1⟩ := hf 1 _ rfl
  have v1 : DataW.trod enc Try.prog w base spare held m 3 (List.take (Try.prog.cellsOf 3) (List.drop 1 [a0, a1, a2, a3])) = some z1 := r1
  have s1 : SzD Try.prog 3 z1.1 := q1
  rw [cells3] at v1
  have t1 : DataW.trod enc Try.prog w base spare held m 3 [a1] = some z1 := v1
  clear r1 q1 v1
  obtain ⟨z2, r2, q2⟩ := hf 2 _ rfl
  have v2 : DataW.trod enc Try.prog w base spare held m 29 (List.take (Try.prog.cellsOf 29) (List.drop 2 [a0, a1, a2, a3])) = some z2 := r2
  have s2 : SzD Try.prog 29 z2.1 := q2
  rw [cells29] at v2
  have t2 : DataW.trod enc Try.prog w base spare held m 29 [a2] = some z2 := v2
  clear r2 q2 v2
  obtain ⟨z3, r3, q3⟩ := hf 3 _ rfl
  have v3 : DataW.trod enc Try.prog w base spare held m 29 (List.take (Try.prog.cellsOf 29) (List.drop 3 [a0, a1, a2, a3])) = some z3 := r3
  have s3 : SzD Try.prog 29 z3.1 := q3
  rw [cells29] at v3
  have t3 : DataW.trod enc Try.prog w base spare held m 29 [a3] = some z3 := v3
  clear r3 q3 v3
  clear hf
  obtain ⟨x0, e0, _, w0⟩ := DataW.trod_int Try.underlying3 t0
  simp only [List.cons.injEq, and_true] at e0
  subst e0
  obtain ⟨x1, e1, _, w1⟩ := DataW.trod_int Try.underlying3 t1
  simp only [List.cons.injEq, and_true] at e1
  subst e1
  obtain ⟨A2, c2, l2, e2, i2, j2, n2, r2, g2, b2⟩ := rows_open (α := Int) (k := 1) (cells := fun x => [Value.int .i64 x]) (G := fun x => (Lit.int .i64 x).wf = true) Try.underlying29 (by kernel_rfl) (by decide) t2 s2 (fun n cs' y h hs => by obtain ⟨x, e, _, hw⟩ := DataW.trod_int Try.underlying3 h; exact ⟨x, e, hw⟩)
  simp only [List.cons.injEq, and_true] at e2
  subst e2
  obtain ⟨A3, c3, l3, e3, i3, j3, n3, r3, g3, b3⟩ := rows_open (α := Int) (k := 1) (cells := fun x => [Value.int .i64 x]) (G := fun x => (Lit.int .i64 x).wf = true) Try.underlying29 (by kernel_rfl) (by decide) t3 s3 (fun n cs' y h hs => by obtain ⟨x, e, _, hw⟩ := DataW.trod_int Try.underlying3 h; exact ⟨x, e, hw⟩)
  simp only [List.cons.injEq, and_true] at e3
  subst e3
  exact ⟨⟨x0, x1, A2, c2, l2, A3, c3, l3⟩, rfl, ⟨ints_rows r2, i2, max_ok j2, ints_rows r3, i3, max_ok j3⟩, n2, n3, w0, w1⟩

end
end Go.Proofs.Ytlgcboaojdhneaa
