/- The laws' arguments opened: a table, an expression with all below it, lists of choices. -/
import Derived.Test.YtgdjhhfbpalkdaaGreatP0
import Derived.ProofKit
import Derived.ChangeOld
import Derived.Lib.SmallJoins
import Derived.OpenShut
namespace Go.Proofs.YtgdjhhfbpalkdaaGreat
open Go.ChangeShapes Go.WideShapes Go.ChangeAt Go.RowKit Go.Deep

/-- A choice, with its expressions. -/
structure ChV where
  kind : Int
  la : Option Addr
  lc : Nat
  ls : List ExV
deriving Inhabited
def ChV.cells (x : ChV) : List Value := [.int .u8 x.kind, .slice x.la x.ls.length x.lc]
theorem ChV.len (x : ChV) : x.cells.length = 2 := rfl
structure ChIn (w : World) (n : Nat) (x : ChV) : Prop where
  rows : RowsAt ExV 9 ExV.cells w x.la x.ls
  all : ∀ y, y ∈ x.ls → ExIn w n y
  len : x.ls.length ≤ 140737488355328
theorem ChIn.kept {w w' : World} {n : Nat} {x : ChV} (h : ChIn w n x) (hk : Kept [] w w') : ChIn w' n x := ⟨h.rows.kept hk, fun y hy => (h.all y hy).kept hk, h.len⟩
theorem ChIn.mono {w : World} {n m : Nat} {x : ChV} (h : ChIn w n x) (hm : n ≤ m) : ChIn w m x := ⟨h.rows, fun y hy => (h.all y hy).mono hm, h.len⟩
/-- A list of choices. -/
structure ChL where
  a : Option Addr
  c : Nat
  l : List ChV
deriving Inhabited
def ChL.cells (x : ChL) : List Value := [.slice x.a x.l.length x.c]
theorem ChL.len (x : ChL) : x.cells.length = 1 := rfl
structure ChLIn (w : World) (n : Nat) (x : ChL) : Prop where
  rows : RowsAt ChV 2 ChV.cells w x.a x.l
  all : ∀ y, y ∈ x.l → ChIn w n y
  len : x.l.length ≤ 140737488355328
  cap : x.l.length ≤ x.c
  max : x.c ≤ 9223372036854775807
  non : x.a = none → x.c = 0
theorem ChLIn.kept {w w' : World} {n : Nat} {x : ChL} (h : ChLIn w n x) (hk : Kept [] w w') : ChLIn w' n x := ⟨h.rows.kept hk, fun y hy => (h.all y hy).kept hk, h.len, h.cap, h.max, h.non⟩
theorem ChLIn.mono {w : World} {n m : Nat} {x : ChL} (h : ChLIn w n x) (hm : n ≤ m) : ChLIn w m x := ⟨h.rows, fun y hy => (h.all y hy).mono hm, h.len, h.cap, h.max, h.non⟩

section
variable {H : Type} {enc : TypeId × Value → H} {P : Program} {w : World} {base : Nat} {spare : Nat → Bool} {held : Bool}

/-- A struct: each field's cells and reading. -/
theorem rowo_open {e : TypeId} {fs : Array Field} {n : Nat} {cs : List Value} {y : DataW H × List MemPlace} (he : P.underlying e = some (.struct fs))
    (h : DataW.trod enc P w base spare held n e cs = some y) (hs : SzD P e y.1) :
    cs.length = P.cellsOf e ∧ ∃ m, n = m + 1 ∧ ∀ (j : Nat) (f : Field), fs[j]? = some f → ∃ z : DataW H × List MemPlace, DataW.trod enc P w base spare held m f.type ((cs.drop f.offset).take (P.cellsOf f.type)) = some z ∧ SzD P f.type z.1 := by
  obtain ⟨ys, m, hnm, hy, hlen, hyl, hf⟩ := DataW.trod_struct he h
  refine ⟨hlen, m, hnm, fun j f hj => ?_⟩
  have hjl : j < fs.size := (Array.getElem?_eq_some_iff.1 hj).1
  have hys : ys[j]? = some (ys[j]'(by omega)) := List.getElem?_eq_getElem (by omega)
  refine ⟨_, (hf j f hj).trans hys, ?_⟩
  have hy1 : y.1 = .agg (ys.map (·.1)) := by rw [hy]
  rw [hy1] at hs
  exact hs.field he hj (by rw [List.getElem?_map, hys]; rfl)
theorem rows_openN {α : Type} [Inhabited α] {k : Nat} {cells : α → List Value} {G : α → Prop} {t e : TypeId} {fuel : Nat} {cs : List Value} {x : DataW H × List MemPlace}
    (ht : P.underlying t = some (.slice e)) (hk : P.cellsOf e = k) (h0 : 0 < k) (hb0 : 0 < P.bytesOf e) (h : DataW.trod enc P w base spare held fuel t cs = some x) (hs : SzD P t x.1)
    (R : ∀ n cs' y, n < fuel → DataW.trod enc P w base spare held n e cs' = some y → SzD P e y.1 → ∃ r : α, cs' = cells r ∧ G r) :
    ∃ (A : Option Addr) (c : Nat) (l : List α), cs = [.slice A l.length c] ∧ l.length ≤ c ∧ c ≤ maxLen ∧ (A = none → c = 0) ∧ RowsAt α k cells w A l ∧ (∀ r, r ∈ l → G r) ∧ l.length ≤ 140737488355328 := by
  rcases DataW.trod_slice ht h with ⟨rfl, _⟩ | ⟨a, len, cap, elems, rest, n, hfu, rfl, rfl, hb, hl, hm, hlen, hel, _, _⟩
  · exact ⟨none, 0, [], rfl, Nat.le_refl _, Nat.zero_le _, fun _ => rfl, .inl rfl, (fun r hr => by simp at hr), by simp⟩
  · have hr : ∀ i, i < len → ∃ r : α, w.cells? base (a.add (i * k)) k = some (cells r) ∧ G r := by
      intro i hil
      have h1 := hel i hil
      rw [List.getElem?_eq_getElem (by omega)] at h1
      obtain ⟨cs', hc, ht'⟩ := Option.bind_eq_some_iff.1 h1
      rw [hk] at hc
      obtain ⟨r, rfl, hG⟩ := R n cs' _ (by omega) ht' (hs.elem ht (List.mem_map.2 ⟨_, List.getElem_mem (by omega), rfl⟩))
      exact ⟨r, hc, hG⟩
    obtain ⟨f, hf⟩ := choose_lt hr
    refine ⟨some a, cap, (List.range len).map f, by simp, by simpa using hl, hm, (fun h => by cases h), ?_, ?_, ?_⟩
    · rcases Nat.eq_zero_or_pos len with rfl | hpos
      · exact .inl rfl
      · have hc0 := (World.cells?_some (hf 0 hpos).1)
        obtain ⟨b, o, sp⟩ := a
        have hsp : sp = none := by
          have := hc0.2.2 0 h0
          have hlt : 0 < (cells (f 0)).length := by rw [hc0.2.1]; exact h0
          rw [List.getElem?_eq_getElem hlt] at this
          simpa [Addr.add] using World.cell?_spot this
        subst hsp
        refine .inr ⟨b, o, rfl, fun j r hj => ?_⟩
        rw [List.getElem?_map] at hj
        have hjl : j < len := by
          rcases Nat.lt_or_ge j len with h | h
          · exact h
          · rw [List.getElem?_eq_none (by simpa using h)] at hj; simp at hj
        rw [List.getElem?_range hjl] at hj
        simp only [Option.map_some, Option.some.injEq] at hj
        subst hj
        obtain ⟨_, hcl, hat⟩ := World.cells?_some (hf j hjl).1
        intro i u hu
        have hik : i < k := by
          rw [← hcl]
          exact (List.getElem?_eq_some_iff.1 hu).1
        have h1 := hat i hik
        rw [Go.Deep.add_add, Addr.add_mid] at h1
        rw [Nat.add_assoc, h1, hu]
    · intro r hr'
      obtain ⟨i, hi', rfl⟩ := List.mem_map.1 hr'
      exact (hf i (List.mem_range.1 hi')).2
    · have h2 := hs.len ht
      rw [List.length_map, List.length_range]
      rw [List.length_map, hlen] at h2
      have h3 : len ≤ (len + (rest.map (·.1)).length) * P.bytesOf e := Nat.le_trans (Nat.le_add_right _ _) (Nat.le_mul_of_pos_right _ hb0)
      have := reachBytes_lt
      omega
end
section
variable {H : Type} {enc : TypeId × Value → H} {w : World} {base : Nat} {spare : Nat → Bool} {held : Bool}
theorem max_ok {n : Nat} (h : n ≤ maxLen) : n ≤ 9223372036854775807 := by unfold maxLen at h; exact h
theorem i64_ok {x : Int} (h : (Lit.int .i64 x).wf = true) : -9223372036854775808 ≤ x ∧ x ≤ 9223372036854775807 := by
  simp only [Lit.wf, Bool.and_eq_true, decide_eq_true_eq] at h
  exact h

theorem cells_ek : Tryz.prog.cellsOf 68 = 1 := by kernel_rfl
theorem cells_pk : Tryz.prog.cellsOf 69 = 1 := by kernel_rfl
theorem cells_mk : Tryz.prog.cellsOf 71 = 1 := by kernel_rfl
theorem cells_str : Tryz.prog.cellsOf 9 = 1 := by kernel_rfl
theorem cells_int : Tryz.prog.cellsOf 3 = 1 := by kernel_rfl
theorem cells_i64 : Tryz.prog.cellsOf 2 = 1 := by kernel_rfl
theorem cells_bool : Tryz.prog.cellsOf 4 = 1 := by kernel_rfl
theorem cells_asp : Tryz.prog.cellsOf 72 = 3 := by kernel_rfl
theorem cells_pars : Tryz.prog.cellsOf 70 = 1 := by kernel_rfl
theorem cells_tk : Tryz.prog.cellsOf 111 = 1 := by kernel_rfl
theorem cells_lits : Tryz.prog.cellsOf 112 = 1 := by kernel_rfl
theorem cells_comps : Tryz.prog.cellsOf 113 = 1 := by kernel_rfl
theorem cells_fk : Tryz.prog.cellsOf 114 = 1 := by kernel_rfl
theorem cells_xk : Tryz.prog.cellsOf 29 = 1 := by kernel_rfl
theorem cells_op : Tryz.prog.cellsOf 30 = 1 := by kernel_rfl
theorem cells_exs : Tryz.prog.cellsOf 31 = 1 := by kernel_rfl
theorem cells_ass : Tryz.prog.cellsOf 32 = 1 := by kernel_rfl
theorem cells_ex : Tryz.prog.cellsOf 34 = 9 := by kernel_rfl
theorem cells_chs : Tryz.prog.cellsOf 50 = 1 := by kernel_rfl
theorem cells_ck : Tryz.prog.cellsOf 88 = 1 := by kernel_rfl
theorem cells_tys : Tryz.prog.cellsOf 22 = 1 := by kernel_rfl
theorem cells_subs : Tryz.prog.cellsOf 23 = 1 := by kernel_rfl
theorem cells_ents : Tryz.prog.cellsOf 24 = 1 := by kernel_rfl
theorem cells_gens : Tryz.prog.cellsOf 25 = 1 := by kernel_rfl
theorem cells_insts : Tryz.prog.cellsOf 26 = 1 := by kernel_rfl
theorem lst2 {α : Type} {cs : List α} (h : cs.length = 2) : ∃ a0 a1, cs = [a0, a1] := by
  match cs, h with
  | [a0, a1], _ => exact ⟨_, _, rfl⟩
theorem lst3 {α : Type} {cs : List α} (h : cs.length = 3) : ∃ a0 a1 a2, cs = [a0, a1, a2] := by
  match cs, h with
  | [a0, a1, a2], _ => exact ⟨_, _, _, rfl⟩
theorem lst5 {α : Type} {cs : List α} (h : cs.length = 5) : ∃ a0 a1 a2 a3 a4, cs = [a0, a1, a2, a3, a4] := by
  match cs, h with
  | [a0, a1, a2, a3, a4], _ => exact ⟨_, _, _, _, _, rfl⟩
theorem lst9 {α : Type} {cs : List α} (h : cs.length = 9) : ∃ a0 a1 a2 a3 a4 a5 a6 a7 a8, cs = [a0, a1, a2, a3, a4, a5, a6, a7, a8] := by
  match cs, h with
  | [a0, a1, a2, a3, a4, a5, a6, a7, a8], _ => exact ⟨_, _, _, _, _, _, _, _, _, rfl⟩
theorem lst10 {α : Type} {cs : List α} (h : cs.length = 10) : ∃ a0 a1 a2 a3 a4 a5 a6 a7 a8 a9, cs = [a0, a1, a2, a3, a4, a5, a6, a7, a8, a9] := by
  match cs, h with
  | [a0, a1, a2, a3, a4, a5, a6, a7, a8, a9], _ => exact ⟨_, _, _, _, _, _, _, _, _, _, rfl⟩
theorem lst18 {α : Type} {cs : List α} (h : cs.length = 18) : ∃ a0 a1 a2 a3 a4 a5 a6 a7 a8 a9 a10 a11 a12 a13 a14 a15 a16 a17, cs = [a0, a1, a2, a3, a4, a5, a6, a7, a8, a9, a10, a11, a12, a13, a14, a15, a16, a17] := by
  match cs, h with
  | [a0, a1, a2, a3, a4, a5, a6, a7, a8, a9, a10, a11, a12, a13, a14, a15, a16, a17], _ => exact ⟨_, _, _, _, _, _, _, _, _, _, _, _, _, _, _, _, _, _, rfl⟩
theorem lst22 {α : Type} {cs : List α} (h : cs.length = 22) : ∃ a0 a1 a2 a3 a4 a5 a6 a7 a8 a9 a10 a11 a12 a13 a14 a15 a16 a17 a18 a19 a20 a21, cs = [a0, a1, a2, a3, a4, a5, a6, a7, a8, a9, a10, a11, a12, a13, a14, a15, a16, a17, a18, a19, a20, a21] := by
  match cs, h with
  | [a0, a1, a2, a3, a4, a5, a6, a7, a8, a9, a10, a11, a12, a13, a14, a15, a16, a17, a18, a19, a20, a21], _ => exact ⟨_, _, _, _, _, _, _, _, _, _, _, _, _, _, _, _, _, _, _, _, _, _, rfl⟩
theorem sub_open {n : Nat} {cs : List Value} {y : DataW H × List MemPlace} (h : DataW.trod enc Tryz.prog w base spare held n 121 cs = some y) (hs : SzD Tryz.prog 121 y.1) : ∃ r : SubtV, cs = r.cells ∧ (-9223372036854775808 ≤ r.lo ∧ r.lo ≤ 9223372036854775807) ∧ (-9223372036854775808 ≤ r.hi ∧ r.hi ≤ 9223372036854775807) := by
  obtain ⟨hl0, m, hnm, hf⟩ := rowo_open Tryz.underlying121 h hs
  have hl : cs.length = 3 := hl0.trans (by kernel_rfl)
  clear hl0
  obtain ⟨a0, a1, a2, rfl⟩ := lst3 hl
  obtain ⟨z0, r0, q0⟩ := hf 0 _ rfl
  have v0 : DataW.trod enc Tryz.prog w base spare held m 3 (List.take (Tryz.prog.cellsOf 3) (List.drop 0 [a0, a1, a2])) = some z0 := r0
  have s0 : SzD Tryz.prog 3 z0.1 := q0
  rw [cells_int] at v0
  have t0 : DataW.trod enc Tryz.prog w base spare held m 3 [a0] = some z0 := v0
  clear r0 q0 v0
  obtain ⟨z1, r1, q1⟩ := hf 1 _ rfl
  have v1 : DataW.trod enc Tryz.prog w base spare held m 2 (List.take (Tryz.prog.cellsOf 2) (List.drop 1 [a0, a1, a2])) = some z1 := r1
  have s1 : SzD Tryz.prog 2 z1.1 := q1
  rw [cells_i64] at v1
  have t1 : DataW.trod enc Tryz.prog w base spare held m 2 [a1] = some z1 := v1
  clear r1 q1 v1
  obtain ⟨z2, r2, q2⟩ := hf 2 _ rfl
  have v2 : DataW.trod enc Tryz.prog w base spare held m 2 (List.take (Tryz.prog.cellsOf 2) (List.drop 2 [a0, a1, a2])) = some z2 := r2
  have s2 : SzD Tryz.prog 2 z2.1 := q2
  rw [cells_i64] at v2
  have t2 : DataW.trod enc Tryz.prog w base spare held m 2 [a2] = some z2 := v2
  clear r2 q2 v2
  clear hf
  obtain ⟨x0, e0, _, w0⟩ := DataW.trod_int Tryz.underlying3 t0
  simp only [List.cons.injEq, and_true] at e0
  subst e0
  obtain ⟨x1, e1, _, w1⟩ := DataW.trod_int Tryz.underlying2 t1
  simp only [List.cons.injEq, and_true] at e1
  subst e1
  obtain ⟨x2, e2, _, w2⟩ := DataW.trod_int Tryz.underlying2 t2
  simp only [List.cons.injEq, and_true] at e2
  subst e2
  exact ⟨⟨x0, x1, x2⟩, rfl, i64_ok w1, i64_ok w2⟩

theorem asp_open {n : Nat} {cs : List Value} {y : DataW H × List MemPlace} (h : DataW.trod enc Tryz.prog w base spare held n 72 cs = some y) : ∃ a b c : Int, cs = [.int .i64 a, .int .i64 b, .int .i64 c] := by
  obtain ⟨xs, m, _, _, hl, hx, hf⟩ := DataW.trod_array Tryz.underlying72 h
  rw [cells_asp] at hl
  rw [cells_i64] at hf
  obtain ⟨a0, a1, a2, rfl⟩ := lst3 hl
  · have g : ∀ i, i < 3 → ∃ z, xs[i]? = some z := fun i hi => ⟨_, List.getElem?_eq_getElem (by omega)⟩
    obtain ⟨z0, h0⟩ := g 0 (by omega)
    obtain ⟨z1, h1⟩ := g 1 (by omega)
    obtain ⟨z2, h2⟩ := g 2 (by omega)
    obtain ⟨x0, e0, _⟩ := DataW.trod_int Tryz.underlying2 (show DataW.trod enc Tryz.prog w base spare held m 2 [a0] = some z0 from (hf 0 (by omega)).trans h0)
    obtain ⟨x1, e1, _⟩ := DataW.trod_int Tryz.underlying2 (show DataW.trod enc Tryz.prog w base spare held m 2 [a1] = some z1 from (hf 1 (by omega)).trans h1)
    obtain ⟨x2, e2, _⟩ := DataW.trod_int Tryz.underlying2 (show DataW.trod enc Tryz.prog w base spare held m 2 [a2] = some z2 from (hf 2 (by omega)).trans h2)
    simp only [List.cons.injEq, and_true] at e0 e1 e2
    subst e0 e1 e2
    exact ⟨x0, x1, x2, rfl⟩

theorem ent_open {n : Nat} {cs : List Value} {y : DataW H × List MemPlace} (h : DataW.trod enc Tryz.prog w base spare held n 74 cs = some y) (hs : SzD Tryz.prog 74 y.1) : ∃ r : EntV, cs = r.cells ∧ -9223372036854775808 ≤ r.value ∧ r.value ≤ 9223372036854775807 := by
  obtain ⟨hl0, m, hnm, hf⟩ := rowo_open Tryz.underlying74 h hs
  have hl : cs.length = 22 := hl0.trans (by kernel_rfl)
  clear hl0
  obtain ⟨a0, a1, a2, a3, a4, a5, a6, a7, a8, a9, a10, a11, a12, a13, a14, a15, a16, a17, a18, a19, a20, a21, rfl⟩ := lst22 hl
  obtain ⟨z0, r0, q0⟩ := hf 0 _ rfl
  have v0 : DataW.trod enc Tryz.prog w base spare held m 68 (List.take (Tryz.prog.cellsOf 68) (List.drop 0 [a0, a1, a2, a3, a4, a5, a6, a7, a8, a9, a10, a11, a12, a13, a14, a15, a16, a17, a18, a19, a20, a21])) = some z0 := r0
  have s0 : SzD Tryz.prog 68 z0.1 := q0
  rw [cells_ek] at v0
  have t0 : DataW.trod enc Tryz.prog w base spare held m 68 [a0] = some z0 := v0
  clear r0 q0 v0
  obtain ⟨z1, r1, q1⟩ := hf 1 _ rfl
  have v1 : DataW.trod enc Tryz.prog w base spare held m 9 (List.take (Tryz.prog.cellsOf 9) (List.drop 1 [a0, a1, a2, a3, a4, a5, a6, a7, a8, a9, a10, a11, a12, a13, a14, a15, a16, a17, a18, a19, a20, a21])) = some z1 := r1
  have s1 : SzD Tryz.prog 9 z1.1 := q1
  rw [cells_str] at v1
  have t1 : DataW.trod enc Tryz.prog w base spare held m 9 [a1] = some z1 := v1
  clear r1 q1 v1
  obtain ⟨z2, r2, q2⟩ := hf 2 _ rfl
  have v2 : DataW.trod enc Tryz.prog w base spare held m 3 (List.take (Tryz.prog.cellsOf 3) (List.drop 2 [a0, a1, a2, a3, a4, a5, a6, a7, a8, a9, a10, a11, a12, a13, a14, a15, a16, a17, a18, a19, a20, a21])) = some z2 := r2
  have s2 : SzD Tryz.prog 3 z2.1 := q2
  rw [cells_int] at v2
  have t2 : DataW.trod enc Tryz.prog w base spare held m 3 [a2] = some z2 := v2
  clear r2 q2 v2
  obtain ⟨z3, r3, q3⟩ := hf 3 _ rfl
  have v3 : DataW.trod enc Tryz.prog w base spare held m 69 (List.take (Tryz.prog.cellsOf 69) (List.drop 3 [a0, a1, a2, a3, a4, a5, a6, a7, a8, a9, a10, a11, a12, a13, a14, a15, a16, a17, a18, a19, a20, a21])) = some z3 := r3
  have s3 : SzD Tryz.prog 69 z3.1 := q3
  rw [cells_pk] at v3
  have t3 : DataW.trod enc Tryz.prog w base spare held m 69 [a3] = some z3 := v3
  clear r3 q3 v3
  obtain ⟨z4, r4, q4⟩ := hf 4 _ rfl
  have v4 : DataW.trod enc Tryz.prog w base spare held m 3 (List.take (Tryz.prog.cellsOf 3) (List.drop 4 [a0, a1, a2, a3, a4, a5, a6, a7, a8, a9, a10, a11, a12, a13, a14, a15, a16, a17, a18, a19, a20, a21])) = some z4 := r4
  have s4 : SzD Tryz.prog 3 z4.1 := q4
  rw [cells_int] at v4
  have t4 : DataW.trod enc Tryz.prog w base spare held m 3 [a4] = some z4 := v4
  clear r4 q4 v4
  obtain ⟨z5, r5, q5⟩ := hf 5 _ rfl
  have v5 : DataW.trod enc Tryz.prog w base spare held m 3 (List.take (Tryz.prog.cellsOf 3) (List.drop 5 [a0, a1, a2, a3, a4, a5, a6, a7, a8, a9, a10, a11, a12, a13, a14, a15, a16, a17, a18, a19, a20, a21])) = some z5 := r5
  have s5 : SzD Tryz.prog 3 z5.1 := q5
  rw [cells_int] at v5
  have t5 : DataW.trod enc Tryz.prog w base spare held m 3 [a5] = some z5 := v5
  clear r5 q5 v5
  obtain ⟨z6, r6, q6⟩ := hf 6 _ rfl
  have v6 : DataW.trod enc Tryz.prog w base spare held m 70 (List.take (Tryz.prog.cellsOf 70) (List.drop 6 [a0, a1, a2, a3, a4, a5, a6, a7, a8, a9, a10, a11, a12, a13, a14, a15, a16, a17, a18, a19, a20, a21])) = some z6 := r6
  have s6 : SzD Tryz.prog 70 z6.1 := q6
  rw [cells_pars] at v6
  have t6 : DataW.trod enc Tryz.prog w base spare held m 70 [a6] = some z6 := v6
  clear r6 q6 v6
  obtain ⟨z7, r7, q7⟩ := hf 7 _ rfl
  have v7 : DataW.trod enc Tryz.prog w base spare held m 3 (List.take (Tryz.prog.cellsOf 3) (List.drop 7 [a0, a1, a2, a3, a4, a5, a6, a7, a8, a9, a10, a11, a12, a13, a14, a15, a16, a17, a18, a19, a20, a21])) = some z7 := r7
  have s7 : SzD Tryz.prog 3 z7.1 := q7
  rw [cells_int] at v7
  have t7 : DataW.trod enc Tryz.prog w base spare held m 3 [a7] = some z7 := v7
  clear r7 q7 v7
  obtain ⟨z8, r8, q8⟩ := hf 8 _ rfl
  have v8 : DataW.trod enc Tryz.prog w base spare held m 4 (List.take (Tryz.prog.cellsOf 4) (List.drop 8 [a0, a1, a2, a3, a4, a5, a6, a7, a8, a9, a10, a11, a12, a13, a14, a15, a16, a17, a18, a19, a20, a21])) = some z8 := r8
  have s8 : SzD Tryz.prog 4 z8.1 := q8
  rw [cells_bool] at v8
  have t8 : DataW.trod enc Tryz.prog w base spare held m 4 [a8] = some z8 := v8
  clear r8 q8 v8
  obtain ⟨z9, r9, q9⟩ := hf 9 _ rfl
  have v9 : DataW.trod enc Tryz.prog w base spare held m 3 (List.take (Tryz.prog.cellsOf 3) (List.drop 9 [a0, a1, a2, a3, a4, a5, a6, a7, a8, a9, a10, a11, a12, a13, a14, a15, a16, a17, a18, a19, a20, a21])) = some z9 := r9
  have s9 : SzD Tryz.prog 3 z9.1 := q9
  rw [cells_int] at v9
  have t9 : DataW.trod enc Tryz.prog w base spare held m 3 [a9] = some z9 := v9
  clear r9 q9 v9
  obtain ⟨z10, r10, q10⟩ := hf 10 _ rfl
  have v10 : DataW.trod enc Tryz.prog w base spare held m 2 (List.take (Tryz.prog.cellsOf 2) (List.drop 10 [a0, a1, a2, a3, a4, a5, a6, a7, a8, a9, a10, a11, a12, a13, a14, a15, a16, a17, a18, a19, a20, a21])) = some z10 := r10
  have s10 : SzD Tryz.prog 2 z10.1 := q10
  rw [cells_i64] at v10
  have t10 : DataW.trod enc Tryz.prog w base spare held m 2 [a10] = some z10 := v10
  clear r10 q10 v10
  obtain ⟨z11, r11, q11⟩ := hf 11 _ rfl
  have v11 : DataW.trod enc Tryz.prog w base spare held m 4 (List.take (Tryz.prog.cellsOf 4) (List.drop 11 [a0, a1, a2, a3, a4, a5, a6, a7, a8, a9, a10, a11, a12, a13, a14, a15, a16, a17, a18, a19, a20, a21])) = some z11 := r11
  have s11 : SzD Tryz.prog 4 z11.1 := q11
  rw [cells_bool] at v11
  have t11 : DataW.trod enc Tryz.prog w base spare held m 4 [a11] = some z11 := v11
  clear r11 q11 v11
  obtain ⟨z12, r12, q12⟩ := hf 12 _ rfl
  have v12 : DataW.trod enc Tryz.prog w base spare held m 4 (List.take (Tryz.prog.cellsOf 4) (List.drop 12 [a0, a1, a2, a3, a4, a5, a6, a7, a8, a9, a10, a11, a12, a13, a14, a15, a16, a17, a18, a19, a20, a21])) = some z12 := r12
  have s12 : SzD Tryz.prog 4 z12.1 := q12
  rw [cells_bool] at v12
  have t12 : DataW.trod enc Tryz.prog w base spare held m 4 [a12] = some z12 := v12
  clear r12 q12 v12
  obtain ⟨z13, r13, q13⟩ := hf 13 _ rfl
  have v13 : DataW.trod enc Tryz.prog w base spare held m 71 (List.take (Tryz.prog.cellsOf 71) (List.drop 13 [a0, a1, a2, a3, a4, a5, a6, a7, a8, a9, a10, a11, a12, a13, a14, a15, a16, a17, a18, a19, a20, a21])) = some z13 := r13
  have s13 : SzD Tryz.prog 71 z13.1 := q13
  rw [cells_mk] at v13
  have t13 : DataW.trod enc Tryz.prog w base spare held m 71 [a13] = some z13 := v13
  clear r13 q13 v13
  obtain ⟨z14, r14, q14⟩ := hf 14 _ rfl
  have v14 : DataW.trod enc Tryz.prog w base spare held m 72 (List.take (Tryz.prog.cellsOf 72) (List.drop 14 [a0, a1, a2, a3, a4, a5, a6, a7, a8, a9, a10, a11, a12, a13, a14, a15, a16, a17, a18, a19, a20, a21])) = some z14 := r14
  have s14 : SzD Tryz.prog 72 z14.1 := q14
  rw [cells_asp] at v14
  have t14 : DataW.trod enc Tryz.prog w base spare held m 72 [a14, a15, a16] = some z14 := v14
  clear r14 q14 v14
  obtain ⟨z15, r15, q15⟩ := hf 15 _ rfl
  have v15 : DataW.trod enc Tryz.prog w base spare held m 4 (List.take (Tryz.prog.cellsOf 4) (List.drop 17 [a0, a1, a2, a3, a4, a5, a6, a7, a8, a9, a10, a11, a12, a13, a14, a15, a16, a17, a18, a19, a20, a21])) = some z15 := r15
  have s15 : SzD Tryz.prog 4 z15.1 := q15
  rw [cells_bool] at v15
  have t15 : DataW.trod enc Tryz.prog w base spare held m 4 [a17] = some z15 := v15
  clear r15 q15 v15
  obtain ⟨z16, r16, q16⟩ := hf 16 _ rfl
  have v16 : DataW.trod enc Tryz.prog w base spare held m 4 (List.take (Tryz.prog.cellsOf 4) (List.drop 18 [a0, a1, a2, a3, a4, a5, a6, a7, a8, a9, a10, a11, a12, a13, a14, a15, a16, a17, a18, a19, a20, a21])) = some z16 := r16
  have s16 : SzD Tryz.prog 4 z16.1 := q16
  rw [cells_bool] at v16
  have t16 : DataW.trod enc Tryz.prog w base spare held m 4 [a18] = some z16 := v16
  clear r16 q16 v16
  obtain ⟨z17, r17, q17⟩ := hf 17 _ rfl
  have v17 : DataW.trod enc Tryz.prog w base spare held m 3 (List.take (Tryz.prog.cellsOf 3) (List.drop 19 [a0, a1, a2, a3, a4, a5, a6, a7, a8, a9, a10, a11, a12, a13, a14, a15, a16, a17, a18, a19, a20, a21])) = some z17 := r17
  have s17 : SzD Tryz.prog 3 z17.1 := q17
  rw [cells_int] at v17
  have t17 : DataW.trod enc Tryz.prog w base spare held m 3 [a19] = some z17 := v17
  clear r17 q17 v17
  obtain ⟨z18, r18, q18⟩ := hf 18 _ rfl
  have v18 : DataW.trod enc Tryz.prog w base spare held m 3 (List.take (Tryz.prog.cellsOf 3) (List.drop 20 [a0, a1, a2, a3, a4, a5, a6, a7, a8, a9, a10, a11, a12, a13, a14, a15, a16, a17, a18, a19, a20, a21])) = some z18 := r18
  have s18 : SzD Tryz.prog 3 z18.1 := q18
  rw [cells_int] at v18
  have t18 : DataW.trod enc Tryz.prog w base spare held m 3 [a20] = some z18 := v18
  clear r18 q18 v18
  obtain ⟨z19, r19, q19⟩ := hf 19 _ rfl
  have v19 : DataW.trod enc Tryz.prog w base spare held m 3 (List.take (Tryz.prog.cellsOf 3) (List.drop 21 [a0, a1, a2, a3, a4, a5, a6, a7, a8, a9, a10, a11, a12, a13, a14, a15, a16, a17, a18, a19, a20, a21])) = some z19 := r19
  have s19 : SzD Tryz.prog 3 z19.1 := q19
  rw [cells_int] at v19
  have t19 : DataW.trod enc Tryz.prog w base spare held m 3 [a21] = some z19 := v19
  clear r19 q19 v19
  clear hf
  obtain ⟨x0, e0, _, w0⟩ := DataW.trod_int Tryz.underlying68 t0
  simp only [List.cons.injEq, and_true] at e0
  subst e0
  obtain ⟨x1, e1, y1, _⟩ := DataW.trod_string Tryz.underlying9 t1
  simp only [List.cons.injEq, and_true] at e1
  subst e1
  obtain ⟨x2, e2, _, w2⟩ := DataW.trod_int Tryz.underlying3 t2
  simp only [List.cons.injEq, and_true] at e2
  subst e2
  obtain ⟨x3, e3, _, w3⟩ := DataW.trod_int Tryz.underlying69 t3
  simp only [List.cons.injEq, and_true] at e3
  subst e3
  obtain ⟨x4, e4, _, w4⟩ := DataW.trod_int Tryz.underlying3 t4
  simp only [List.cons.injEq, and_true] at e4
  subst e4
  obtain ⟨x5, e5, _, w5⟩ := DataW.trod_int Tryz.underlying3 t5
  simp only [List.cons.injEq, and_true] at e5
  subst e5
  obtain ⟨A6, k6, c6, e6, _⟩ := slice_len Tryz.underlying70 t6
  subst e6
  obtain ⟨x7, e7, _, w7⟩ := DataW.trod_int Tryz.underlying3 t7
  simp only [List.cons.injEq, and_true] at e7
  subst e7
  obtain ⟨x8, e8, _⟩ := DataW.trod_bool Tryz.underlying4 t8
  simp only [List.cons.injEq, and_true] at e8
  subst e8
  obtain ⟨x9, e9, _, w9⟩ := DataW.trod_int Tryz.underlying3 t9
  simp only [List.cons.injEq, and_true] at e9
  subst e9
  obtain ⟨x10, e10, _, w10⟩ := DataW.trod_int Tryz.underlying2 t10
  simp only [List.cons.injEq, and_true] at e10
  subst e10
  obtain ⟨x11, e11, _⟩ := DataW.trod_bool Tryz.underlying4 t11
  simp only [List.cons.injEq, and_true] at e11
  subst e11
  obtain ⟨x12, e12, _⟩ := DataW.trod_bool Tryz.underlying4 t12
  simp only [List.cons.injEq, and_true] at e12
  subst e12
  obtain ⟨x13, e13, _, w13⟩ := DataW.trod_int Tryz.underlying71 t13
  simp only [List.cons.injEq, and_true] at e13
  subst e13
  obtain ⟨p0, p1, p2, e14⟩ := asp_open t14
  simp only [List.cons.injEq, and_true] at e14
  obtain ⟨rfl, rfl, rfl⟩ := e14
  obtain ⟨x15, e15, _⟩ := DataW.trod_bool Tryz.underlying4 t15
  simp only [List.cons.injEq, and_true] at e15
  subst e15
  obtain ⟨x16, e16, _⟩ := DataW.trod_bool Tryz.underlying4 t16
  simp only [List.cons.injEq, and_true] at e16
  subst e16
  obtain ⟨x17, e17, _, w17⟩ := DataW.trod_int Tryz.underlying3 t17
  simp only [List.cons.injEq, and_true] at e17
  subst e17
  obtain ⟨x18, e18, _, w18⟩ := DataW.trod_int Tryz.underlying3 t18
  simp only [List.cons.injEq, and_true] at e18
  subst e18
  obtain ⟨x19, e19, _, w19⟩ := DataW.trod_int Tryz.underlying3 t19
  simp only [List.cons.injEq, and_true] at e19
  subst e19
  exact ⟨⟨x0, x1, x2, x3, x4, x5, A6, c6, List.replicate k6 default, x7, x8, x9, x10, x11, x12, x13, p0, p1, p2, x15, x16, x17, x18, x19⟩, by simp [EntV.cells], i64_ok w10⟩

theorem ty_open {n : Nat} {cs : List Value} {y : DataW H × List MemPlace} (h : DataW.trod enc Tryz.prog w base spare held n 116 cs = some y) (hs : SzD Tryz.prog 116 y.1) : ∃ r : TyV, cs = r.cells ∧ r.lits.length ≤ 140737488355328 := by
  obtain ⟨hl0, m, hnm, hf⟩ := rowo_open Tryz.underlying116 h hs
  have hl : cs.length = 18 := hl0.trans (by kernel_rfl)
  clear hl0
  obtain ⟨a0, a1, a2, a3, a4, a5, a6, a7, a8, a9, a10, a11, a12, a13, a14, a15, a16, a17, rfl⟩ := lst18 hl
  obtain ⟨z0, r0, q0⟩ := hf 0 _ rfl
  have v0 : DataW.trod enc Tryz.prog w base spare held m 111 (List.take (Tryz.prog.cellsOf 111) (List.drop 0 [a0, a1, a2, a3, a4, a5, a6, a7, a8, a9, a10, a11, a12, a13, a14, a15, a16, a17])) = some z0 := r0
  have s0 : SzD Tryz.prog 111 z0.1 := q0
  rw [cells_tk] at v0
  have t0 : DataW.trod enc Tryz.prog w base spare held m 111 [a0] = some z0 := v0
  clear r0 q0 v0
  obtain ⟨z1, r1, q1⟩ := hf 1 _ rfl
  have v1 : DataW.trod enc Tryz.prog w base spare held m 9 (List.take (Tryz.prog.cellsOf 9) (List.drop 1 [a0, a1, a2, a3, a4, a5, a6, a7, a8, a9, a10, a11, a12, a13, a14, a15, a16, a17])) = some z1 := r1
  have s1 : SzD Tryz.prog 9 z1.1 := q1
  rw [cells_str] at v1
  have t1 : DataW.trod enc Tryz.prog w base spare held m 9 [a1] = some z1 := v1
  clear r1 q1 v1
  obtain ⟨z2, r2, q2⟩ := hf 2 _ rfl
  have v2 : DataW.trod enc Tryz.prog w base spare held m 3 (List.take (Tryz.prog.cellsOf 3) (List.drop 2 [a0, a1, a2, a3, a4, a5, a6, a7, a8, a9, a10, a11, a12, a13, a14, a15, a16, a17])) = some z2 := r2
  have s2 : SzD Tryz.prog 3 z2.1 := q2
  rw [cells_int] at v2
  have t2 : DataW.trod enc Tryz.prog w base spare held m 3 [a2] = some z2 := v2
  clear r2 q2 v2
  obtain ⟨z3, r3, q3⟩ := hf 3 _ rfl
  have v3 : DataW.trod enc Tryz.prog w base spare held m 3 (List.take (Tryz.prog.cellsOf 3) (List.drop 3 [a0, a1, a2, a3, a4, a5, a6, a7, a8, a9, a10, a11, a12, a13, a14, a15, a16, a17])) = some z3 := r3
  have s3 : SzD Tryz.prog 3 z3.1 := q3
  rw [cells_int] at v3
  have t3 : DataW.trod enc Tryz.prog w base spare held m 3 [a3] = some z3 := v3
  clear r3 q3 v3
  obtain ⟨z4, r4, q4⟩ := hf 4 _ rfl
  have v4 : DataW.trod enc Tryz.prog w base spare held m 112 (List.take (Tryz.prog.cellsOf 112) (List.drop 4 [a0, a1, a2, a3, a4, a5, a6, a7, a8, a9, a10, a11, a12, a13, a14, a15, a16, a17])) = some z4 := r4
  have s4 : SzD Tryz.prog 112 z4.1 := q4
  rw [cells_lits] at v4
  have t4 : DataW.trod enc Tryz.prog w base spare held m 112 [a4] = some z4 := v4
  clear r4 q4 v4
  obtain ⟨z5, r5, q5⟩ := hf 5 _ rfl
  have v5 : DataW.trod enc Tryz.prog w base spare held m 3 (List.take (Tryz.prog.cellsOf 3) (List.drop 5 [a0, a1, a2, a3, a4, a5, a6, a7, a8, a9, a10, a11, a12, a13, a14, a15, a16, a17])) = some z5 := r5
  have s5 : SzD Tryz.prog 3 z5.1 := q5
  rw [cells_int] at v5
  have t5 : DataW.trod enc Tryz.prog w base spare held m 3 [a5] = some z5 := v5
  clear r5 q5 v5
  obtain ⟨z6, r6, q6⟩ := hf 6 _ rfl
  have v6 : DataW.trod enc Tryz.prog w base spare held m 3 (List.take (Tryz.prog.cellsOf 3) (List.drop 6 [a0, a1, a2, a3, a4, a5, a6, a7, a8, a9, a10, a11, a12, a13, a14, a15, a16, a17])) = some z6 := r6
  have s6 : SzD Tryz.prog 3 z6.1 := q6
  rw [cells_int] at v6
  have t6 : DataW.trod enc Tryz.prog w base spare held m 3 [a6] = some z6 := v6
  clear r6 q6 v6
  obtain ⟨z7, r7, q7⟩ := hf 7 _ rfl
  have v7 : DataW.trod enc Tryz.prog w base spare held m 3 (List.take (Tryz.prog.cellsOf 3) (List.drop 7 [a0, a1, a2, a3, a4, a5, a6, a7, a8, a9, a10, a11, a12, a13, a14, a15, a16, a17])) = some z7 := r7
  have s7 : SzD Tryz.prog 3 z7.1 := q7
  rw [cells_int] at v7
  have t7 : DataW.trod enc Tryz.prog w base spare held m 3 [a7] = some z7 := v7
  clear r7 q7 v7
  obtain ⟨z8, r8, q8⟩ := hf 8 _ rfl
  have v8 : DataW.trod enc Tryz.prog w base spare held m 9 (List.take (Tryz.prog.cellsOf 9) (List.drop 8 [a0, a1, a2, a3, a4, a5, a6, a7, a8, a9, a10, a11, a12, a13, a14, a15, a16, a17])) = some z8 := r8
  have s8 : SzD Tryz.prog 9 z8.1 := q8
  rw [cells_str] at v8
  have t8 : DataW.trod enc Tryz.prog w base spare held m 9 [a8] = some z8 := v8
  clear r8 q8 v8
  obtain ⟨z9, r9, q9⟩ := hf 9 _ rfl
  have v9 : DataW.trod enc Tryz.prog w base spare held m 4 (List.take (Tryz.prog.cellsOf 4) (List.drop 9 [a0, a1, a2, a3, a4, a5, a6, a7, a8, a9, a10, a11, a12, a13, a14, a15, a16, a17])) = some z9 := r9
  have s9 : SzD Tryz.prog 4 z9.1 := q9
  rw [cells_bool] at v9
  have t9 : DataW.trod enc Tryz.prog w base spare held m 4 [a9] = some z9 := v9
  clear r9 q9 v9
  obtain ⟨z10, r10, q10⟩ := hf 10 _ rfl
  have v10 : DataW.trod enc Tryz.prog w base spare held m 2 (List.take (Tryz.prog.cellsOf 2) (List.drop 10 [a0, a1, a2, a3, a4, a5, a6, a7, a8, a9, a10, a11, a12, a13, a14, a15, a16, a17])) = some z10 := r10
  have s10 : SzD Tryz.prog 2 z10.1 := q10
  rw [cells_i64] at v10
  have t10 : DataW.trod enc Tryz.prog w base spare held m 2 [a10] = some z10 := v10
  clear r10 q10 v10
  obtain ⟨z11, r11, q11⟩ := hf 11 _ rfl
  have v11 : DataW.trod enc Tryz.prog w base spare held m 113 (List.take (Tryz.prog.cellsOf 113) (List.drop 11 [a0, a1, a2, a3, a4, a5, a6, a7, a8, a9, a10, a11, a12, a13, a14, a15, a16, a17])) = some z11 := r11
  have s11 : SzD Tryz.prog 113 z11.1 := q11
  rw [cells_comps] at v11
  have t11 : DataW.trod enc Tryz.prog w base spare held m 113 [a11] = some z11 := v11
  clear r11 q11 v11
  obtain ⟨z12, r12, q12⟩ := hf 12 _ rfl
  have v12 : DataW.trod enc Tryz.prog w base spare held m 3 (List.take (Tryz.prog.cellsOf 3) (List.drop 12 [a0, a1, a2, a3, a4, a5, a6, a7, a8, a9, a10, a11, a12, a13, a14, a15, a16, a17])) = some z12 := r12
  have s12 : SzD Tryz.prog 3 z12.1 := q12
  rw [cells_int] at v12
  have t12 : DataW.trod enc Tryz.prog w base spare held m 3 [a12] = some z12 := v12
  clear r12 q12 v12
  obtain ⟨z13, r13, q13⟩ := hf 13 _ rfl
  have v13 : DataW.trod enc Tryz.prog w base spare held m 114 (List.take (Tryz.prog.cellsOf 114) (List.drop 13 [a0, a1, a2, a3, a4, a5, a6, a7, a8, a9, a10, a11, a12, a13, a14, a15, a16, a17])) = some z13 := r13
  have s13 : SzD Tryz.prog 114 z13.1 := q13
  rw [cells_fk] at v13
  have t13 : DataW.trod enc Tryz.prog w base spare held m 114 [a13] = some z13 := v13
  clear r13 q13 v13
  obtain ⟨z14, r14, q14⟩ := hf 14 _ rfl
  have v14 : DataW.trod enc Tryz.prog w base spare held m 4 (List.take (Tryz.prog.cellsOf 4) (List.drop 14 [a0, a1, a2, a3, a4, a5, a6, a7, a8, a9, a10, a11, a12, a13, a14, a15, a16, a17])) = some z14 := r14
  have s14 : SzD Tryz.prog 4 z14.1 := q14
  rw [cells_bool] at v14
  have t14 : DataW.trod enc Tryz.prog w base spare held m 4 [a14] = some z14 := v14
  clear r14 q14 v14
  obtain ⟨z15, r15, q15⟩ := hf 15 _ rfl
  have v15 : DataW.trod enc Tryz.prog w base spare held m 3 (List.take (Tryz.prog.cellsOf 3) (List.drop 15 [a0, a1, a2, a3, a4, a5, a6, a7, a8, a9, a10, a11, a12, a13, a14, a15, a16, a17])) = some z15 := r15
  have s15 : SzD Tryz.prog 3 z15.1 := q15
  rw [cells_int] at v15
  have t15 : DataW.trod enc Tryz.prog w base spare held m 3 [a15] = some z15 := v15
  clear r15 q15 v15
  obtain ⟨z16, r16, q16⟩ := hf 16 _ rfl
  have v16 : DataW.trod enc Tryz.prog w base spare held m 3 (List.take (Tryz.prog.cellsOf 3) (List.drop 16 [a0, a1, a2, a3, a4, a5, a6, a7, a8, a9, a10, a11, a12, a13, a14, a15, a16, a17])) = some z16 := r16
  have s16 : SzD Tryz.prog 3 z16.1 := q16
  rw [cells_int] at v16
  have t16 : DataW.trod enc Tryz.prog w base spare held m 3 [a16] = some z16 := v16
  clear r16 q16 v16
  obtain ⟨z17, r17, q17⟩ := hf 17 _ rfl
  have v17 : DataW.trod enc Tryz.prog w base spare held m 3 (List.take (Tryz.prog.cellsOf 3) (List.drop 17 [a0, a1, a2, a3, a4, a5, a6, a7, a8, a9, a10, a11, a12, a13, a14, a15, a16, a17])) = some z17 := r17
  have s17 : SzD Tryz.prog 3 z17.1 := q17
  rw [cells_int] at v17
  have t17 : DataW.trod enc Tryz.prog w base spare held m 3 [a17] = some z17 := v17
  clear r17 q17 v17
  clear hf
  obtain ⟨x0, e0, _, w0⟩ := DataW.trod_int Tryz.underlying111 t0
  simp only [List.cons.injEq, and_true] at e0
  subst e0
  obtain ⟨x1, e1, y1, _⟩ := DataW.trod_string Tryz.underlying9 t1
  simp only [List.cons.injEq, and_true] at e1
  subst e1
  obtain ⟨x2, e2, _, w2⟩ := DataW.trod_int Tryz.underlying3 t2
  simp only [List.cons.injEq, and_true] at e2
  subst e2
  obtain ⟨x3, e3, _, w3⟩ := DataW.trod_int Tryz.underlying3 t3
  simp only [List.cons.injEq, and_true] at e3
  subst e3
  obtain ⟨A4, c4, l4, e4, i4, j4, n4, r4, g4, b4⟩ := rows_openN (α := ByteArray) (k := 1) (cells := fun x => [Value.string x]) (G := fun _ => True) Tryz.underlying112 (by kernel_rfl) (by decide) (of_decide_eq_true (by kernel_rfl)) t4 s4 (fun n' cs' y hn h hs => by obtain ⟨x, e, _⟩ := DataW.trod_string Tryz.underlying9 h; exact ⟨x, e, trivial⟩)
  simp only [List.cons.injEq, and_true] at e4
  subst e4
  obtain ⟨x5, e5, _, w5⟩ := DataW.trod_int Tryz.underlying3 t5
  simp only [List.cons.injEq, and_true] at e5
  subst e5
  obtain ⟨x6, e6, _, w6⟩ := DataW.trod_int Tryz.underlying3 t6
  simp only [List.cons.injEq, and_true] at e6
  subst e6
  obtain ⟨x7, e7, _, w7⟩ := DataW.trod_int Tryz.underlying3 t7
  simp only [List.cons.injEq, and_true] at e7
  subst e7
  obtain ⟨x8, e8, y8, _⟩ := DataW.trod_string Tryz.underlying9 t8
  simp only [List.cons.injEq, and_true] at e8
  subst e8
  obtain ⟨x9, e9, _⟩ := DataW.trod_bool Tryz.underlying4 t9
  simp only [List.cons.injEq, and_true] at e9
  subst e9
  obtain ⟨x10, e10, _, w10⟩ := DataW.trod_int Tryz.underlying2 t10
  simp only [List.cons.injEq, and_true] at e10
  subst e10
  obtain ⟨A11, k11, c11, e11, _⟩ := slice_len Tryz.underlying113 t11
  subst e11
  obtain ⟨x12, e12, _, w12⟩ := DataW.trod_int Tryz.underlying3 t12
  simp only [List.cons.injEq, and_true] at e12
  subst e12
  obtain ⟨x13, e13, _, w13⟩ := DataW.trod_int Tryz.underlying114 t13
  simp only [List.cons.injEq, and_true] at e13
  subst e13
  obtain ⟨x14, e14, _⟩ := DataW.trod_bool Tryz.underlying4 t14
  simp only [List.cons.injEq, and_true] at e14
  subst e14
  obtain ⟨x15, e15, _, w15⟩ := DataW.trod_int Tryz.underlying3 t15
  simp only [List.cons.injEq, and_true] at e15
  subst e15
  obtain ⟨x16, e16, _, w16⟩ := DataW.trod_int Tryz.underlying3 t16
  simp only [List.cons.injEq, and_true] at e16
  subst e16
  obtain ⟨x17, e17, _, w17⟩ := DataW.trod_int Tryz.underlying3 t17
  simp only [List.cons.injEq, and_true] at e17
  subst e17
  exact ⟨⟨x0, x1, x2, x3, A4, c4, l4, x5, x6, x7, x8, x9, x10, A11, c11, List.replicate k11 default, x12, x13, x14, x15, x16, x17⟩, by simp [TyV.cells], b4⟩

theorem tab_open {n : Nat} {cs : List Value} {y : DataW H × List MemPlace} (h : DataW.trod enc Tryz.prog w base spare held n 28 cs = some y) (hs : SzD Tryz.prog 28 y.1) : ∃ (v : TabV) (t : Tab), cs = (v.cells t).toList ∧ TabIn w v t := by
  obtain ⟨hl0, m, hnm, hf⟩ := rowo_open Tryz.underlying28 h hs
  have hl : cs.length = 5 := hl0.trans (by kernel_rfl)
  clear hl0
  obtain ⟨a0, a1, a2, a3, a4, rfl⟩ := lst5 hl
  obtain ⟨z0, r0, q0⟩ := hf 0 _ rfl
  have v0 : DataW.trod enc Tryz.prog w base spare held m 22 (List.take (Tryz.prog.cellsOf 22) (List.drop 0 [a0, a1, a2, a3, a4])) = some z0 := r0
  have s0 : SzD Tryz.prog 22 z0.1 := q0
  rw [cells_tys] at v0
  have t0 : DataW.trod enc Tryz.prog w base spare held m 22 [a0] = some z0 := v0
  clear r0 q0 v0
  obtain ⟨z1, r1, q1⟩ := hf 1 _ rfl
  have v1 : DataW.trod enc Tryz.prog w base spare held m 23 (List.take (Tryz.prog.cellsOf 23) (List.drop 1 [a0, a1, a2, a3, a4])) = some z1 := r1
  have s1 : SzD Tryz.prog 23 z1.1 := q1
  rw [cells_subs] at v1
  have t1 : DataW.trod enc Tryz.prog w base spare held m 23 [a1] = some z1 := v1
  clear r1 q1 v1
  obtain ⟨z2, r2, q2⟩ := hf 2 _ rfl
  have v2 : DataW.trod enc Tryz.prog w base spare held m 24 (List.take (Tryz.prog.cellsOf 24) (List.drop 2 [a0, a1, a2, a3, a4])) = some z2 := r2
  have s2 : SzD Tryz.prog 24 z2.1 := q2
  rw [cells_ents] at v2
  have t2 : DataW.trod enc Tryz.prog w base spare held m 24 [a2] = some z2 := v2
  clear r2 q2 v2
  obtain ⟨z3, r3, q3⟩ := hf 3 _ rfl
  have v3 : DataW.trod enc Tryz.prog w base spare held m 25 (List.take (Tryz.prog.cellsOf 25) (List.drop 3 [a0, a1, a2, a3, a4])) = some z3 := r3
  have s3 : SzD Tryz.prog 25 z3.1 := q3
  rw [cells_gens] at v3
  have t3 : DataW.trod enc Tryz.prog w base spare held m 25 [a3] = some z3 := v3
  clear r3 q3 v3
  obtain ⟨z4, r4, q4⟩ := hf 4 _ rfl
  have v4 : DataW.trod enc Tryz.prog w base spare held m 26 (List.take (Tryz.prog.cellsOf 26) (List.drop 4 [a0, a1, a2, a3, a4])) = some z4 := r4
  have s4 : SzD Tryz.prog 26 z4.1 := q4
  rw [cells_insts] at v4
  have t4 : DataW.trod enc Tryz.prog w base spare held m 26 [a4] = some z4 := v4
  clear r4 q4 v4
  clear hf
  obtain ⟨A0, c0, l0, e0, i0, j0, n0, r0, g0, b0⟩ := rows_openN (α := TyV) (k := 18) (cells := TyV.cells) (G := fun r => r.lits.length ≤ 140737488355328) Tryz.underlying22 (by kernel_rfl) (by decide) (of_decide_eq_true (by kernel_rfl)) t0 s0 (fun n' cs' y hn h hs => ty_open h hs)
  simp only [List.cons.injEq, and_true] at e0
  subst e0
  obtain ⟨A1, c1, l1, e1, i1, j1, n1, r1, g1, b1⟩ := rows_openN (α := SubtV) (k := 3) (cells := SubtV.cells) (G := fun r => (-9223372036854775808 ≤ r.lo ∧ r.lo ≤ 9223372036854775807) ∧ (-9223372036854775808 ≤ r.hi ∧ r.hi ≤ 9223372036854775807)) Tryz.underlying23 (by kernel_rfl) (by decide) (of_decide_eq_true (by kernel_rfl)) t1 s1 (fun n' cs' y hn h hs => sub_open h hs)
  simp only [List.cons.injEq, and_true] at e1
  subst e1
  obtain ⟨A2, c2, l2, e2, i2, j2, n2, r2, g2, b2⟩ := rows_openN (α := EntV) (k := 22) (cells := EntV.cells) (G := fun r => -9223372036854775808 ≤ r.value ∧ r.value ≤ 9223372036854775807) Tryz.underlying24 (by kernel_rfl) (by decide) (of_decide_eq_true (by kernel_rfl)) t2 s2 (fun n' cs' y hn h hs => ent_open h hs)
  simp only [List.cons.injEq, and_true] at e2
  subst e2
  obtain ⟨A3, k3, c3, e3, _⟩ := slice_len Tryz.underlying25 t3
  subst e3
  obtain ⟨A4, k4, c4, e4, _⟩ := slice_len Tryz.underlying26 t4
  subst e4
  exact ⟨⟨A0, c0, A1, c1, A2, c2, A3, k3, c3, A4, k4, c4⟩, ⟨l0, l1, l2⟩, rfl, ⟨r2, r1, r0, b2, b1, b0, g0, g1, g2⟩⟩

/-- An expression lies to the depth of its reading. -/
theorem ex_open (n : Nat) : ∀ {cs : List Value} {y : DataW H × List MemPlace}, DataW.trod enc Tryz.prog w base spare held n 34 cs = some y → SzD Tryz.prog 34 y.1 → ∃ r : ExV, cs = r.cells ∧ ExIn w n r := by
  induction n using Nat.strongRecOn with
  | ind n ih =>
  intro cs y h hs
  obtain ⟨hl0, m, hnm, hf⟩ := rowo_open Tryz.underlying34 h hs
  have hl : cs.length = 9 := hl0.trans (by kernel_rfl)
  clear hl0
  obtain ⟨a0, a1, a2, a3, a4, a5, a6, a7, a8, rfl⟩ := lst9 hl
  obtain ⟨z0, r0, q0⟩ := hf 0 _ rfl
  have v0 : DataW.trod enc Tryz.prog w base spare held m 29 (List.take (Tryz.prog.cellsOf 29) (List.drop 0 [a0, a1, a2, a3, a4, a5, a6, a7, a8])) = some z0 := r0
  have s0 : SzD Tryz.prog 29 z0.1 := q0
  rw [cells_xk] at v0
  have t0 : DataW.trod enc Tryz.prog w base spare held m 29 [a0] = some z0 := v0
  clear r0 q0 v0
  obtain ⟨z1, r1, q1⟩ := hf 1 _ rfl
  have v1 : DataW.trod enc Tryz.prog w base spare held m 30 (List.take (Tryz.prog.cellsOf 30) (List.drop 1 [a0, a1, a2, a3, a4, a5, a6, a7, a8])) = some z1 := r1
  have s1 : SzD Tryz.prog 30 z1.1 := q1
  rw [cells_op] at v1
  have t1 : DataW.trod enc Tryz.prog w base spare held m 30 [a1] = some z1 := v1
  clear r1 q1 v1
  obtain ⟨z2, r2, q2⟩ := hf 2 _ rfl
  have v2 : DataW.trod enc Tryz.prog w base spare held m 2 (List.take (Tryz.prog.cellsOf 2) (List.drop 2 [a0, a1, a2, a3, a4, a5, a6, a7, a8])) = some z2 := r2
  have s2 : SzD Tryz.prog 2 z2.1 := q2
  rw [cells_i64] at v2
  have t2 : DataW.trod enc Tryz.prog w base spare held m 2 [a2] = some z2 := v2
  clear r2 q2 v2
  obtain ⟨z3, r3, q3⟩ := hf 3 _ rfl
  have v3 : DataW.trod enc Tryz.prog w base spare held m 9 (List.take (Tryz.prog.cellsOf 9) (List.drop 3 [a0, a1, a2, a3, a4, a5, a6, a7, a8])) = some z3 := r3
  have s3 : SzD Tryz.prog 9 z3.1 := q3
  rw [cells_str] at v3
  have t3 : DataW.trod enc Tryz.prog w base spare held m 9 [a3] = some z3 := v3
  clear r3 q3 v3
  obtain ⟨z4, r4, q4⟩ := hf 4 _ rfl
  have v4 : DataW.trod enc Tryz.prog w base spare held m 31 (List.take (Tryz.prog.cellsOf 31) (List.drop 4 [a0, a1, a2, a3, a4, a5, a6, a7, a8])) = some z4 := r4
  have s4 : SzD Tryz.prog 31 z4.1 := q4
  rw [cells_exs] at v4
  have t4 : DataW.trod enc Tryz.prog w base spare held m 31 [a4] = some z4 := v4
  clear r4 q4 v4
  obtain ⟨z5, r5, q5⟩ := hf 5 _ rfl
  have v5 : DataW.trod enc Tryz.prog w base spare held m 32 (List.take (Tryz.prog.cellsOf 32) (List.drop 5 [a0, a1, a2, a3, a4, a5, a6, a7, a8])) = some z5 := r5
  have s5 : SzD Tryz.prog 32 z5.1 := q5
  rw [cells_ass] at v5
  have t5 : DataW.trod enc Tryz.prog w base spare held m 32 [a5] = some z5 := v5
  clear r5 q5 v5
  obtain ⟨z6, r6, q6⟩ := hf 6 _ rfl
  have v6 : DataW.trod enc Tryz.prog w base spare held m 3 (List.take (Tryz.prog.cellsOf 3) (List.drop 6 [a0, a1, a2, a3, a4, a5, a6, a7, a8])) = some z6 := r6
  have s6 : SzD Tryz.prog 3 z6.1 := q6
  rw [cells_int] at v6
  have t6 : DataW.trod enc Tryz.prog w base spare held m 3 [a6] = some z6 := v6
  clear r6 q6 v6
  obtain ⟨z7, r7, q7⟩ := hf 7 _ rfl
  have v7 : DataW.trod enc Tryz.prog w base spare held m 3 (List.take (Tryz.prog.cellsOf 3) (List.drop 7 [a0, a1, a2, a3, a4, a5, a6, a7, a8])) = some z7 := r7
  have s7 : SzD Tryz.prog 3 z7.1 := q7
  rw [cells_int] at v7
  have t7 : DataW.trod enc Tryz.prog w base spare held m 3 [a7] = some z7 := v7
  clear r7 q7 v7
  obtain ⟨z8, r8, q8⟩ := hf 8 _ rfl
  have v8 : DataW.trod enc Tryz.prog w base spare held m 3 (List.take (Tryz.prog.cellsOf 3) (List.drop 8 [a0, a1, a2, a3, a4, a5, a6, a7, a8])) = some z8 := r8
  have s8 : SzD Tryz.prog 3 z8.1 := q8
  rw [cells_int] at v8
  have t8 : DataW.trod enc Tryz.prog w base spare held m 3 [a8] = some z8 := v8
  clear r8 q8 v8
  clear hf
  obtain ⟨x0, e0, _, w0⟩ := DataW.trod_int Tryz.underlying29 t0
  simp only [List.cons.injEq, and_true] at e0
  subst e0
  obtain ⟨x1, e1, _, w1⟩ := DataW.trod_int Tryz.underlying30 t1
  simp only [List.cons.injEq, and_true] at e1
  subst e1
  obtain ⟨x2, e2, _, w2⟩ := DataW.trod_int Tryz.underlying2 t2
  simp only [List.cons.injEq, and_true] at e2
  subst e2
  obtain ⟨x3, e3, y3, _⟩ := DataW.trod_string Tryz.underlying9 t3
  simp only [List.cons.injEq, and_true] at e3
  subst e3
  obtain ⟨A4, c4, l4, e4, i4, j4, n4, r4, g4, b4⟩ := rows_openN (α := ExV) (k := 9) (cells := ExV.cells) (G := fun r => ExIn w m r) Tryz.underlying31 (by kernel_rfl) (by decide) (of_decide_eq_true (by kernel_rfl)) t4 s4 (fun n' cs' y hn h hs => by obtain ⟨r, e, h1⟩ := ih n' (by omega) h hs; exact ⟨r, e, h1.mono (by omega)⟩)
  simp only [List.cons.injEq, and_true] at e4
  subst e4
  obtain ⟨A5, c5, l5, e5, i5, j5, n5, r5, g5, b5⟩ := rows_openN (α := AsV) (k := 10) (cells := AsV.cells) (G := fun r => ExIn w m r.2.2.2) Tryz.underlying32 (by kernel_rfl) (by decide) (of_decide_eq_true (by kernel_rfl)) t5 s5 (fun n' cs' y hn h hs => by
    have key : ∀ {cs : List Value} {y : DataW H × List MemPlace}, DataW.trod enc Tryz.prog w base spare held n' 124 cs = some y → SzD Tryz.prog 124 y.1 → ∃ r : AsV, cs = r.cells ∧ ExIn w m r.2.2.2 := by
      intro cs y h hs
      obtain ⟨hl0, p, hnp, hf⟩ := rowo_open Tryz.underlying124 h hs
      have hl : cs.length = 10 := hl0.trans (by kernel_rfl)
      clear hl0
      obtain ⟨a0, a1, a2, a3, a4, a5, a6, a7, a8, a9, rfl⟩ := lst10 hl
      obtain ⟨z0, r0, q0⟩ := hf 0 _ rfl
      have v0 : DataW.trod enc Tryz.prog w base spare held p 50 (List.take (Tryz.prog.cellsOf 50) (List.drop 0 [a0, a1, a2, a3, a4, a5, a6, a7, a8, a9])) = some z0 := r0
      rw [cells_chs] at v0
      have t0 : DataW.trod enc Tryz.prog w base spare held p 50 [a0] = some z0 := v0
      obtain ⟨z1, r1, q1⟩ := hf 1 _ rfl
      have v1 : DataW.trod enc Tryz.prog w base spare held p 34 (List.take (Tryz.prog.cellsOf 34) (List.drop 1 [a0, a1, a2, a3, a4, a5, a6, a7, a8, a9])) = some z1 := r1
      rw [cells_ex] at v1
      have t1 : DataW.trod enc Tryz.prog w base spare held p 34 [a1, a2, a3, a4, a5, a6, a7, a8, a9] = some z1 := v1
      obtain ⟨A, k, c, e0, _⟩ := slice_len Tryz.underlying50 t0
      subst e0
      obtain ⟨r, e1, h1⟩ := ih p (by omega) t1 q1
      exact ⟨(A, k, c, r), by simp [AsV.cells, e1], h1.mono (by omega)⟩
    exact key h hs)
  simp only [List.cons.injEq, and_true] at e5
  subst e5
  obtain ⟨x6, e6, _, w6⟩ := DataW.trod_int Tryz.underlying3 t6
  simp only [List.cons.injEq, and_true] at e6
  subst e6
  obtain ⟨x7, e7, _, w7⟩ := DataW.trod_int Tryz.underlying3 t7
  simp only [List.cons.injEq, and_true] at e7
  subst e7
  obtain ⟨x8, e8, _, w8⟩ := DataW.trod_int Tryz.underlying3 t8
  simp only [List.cons.injEq, and_true] at e8
  subst e8
  subst hnm
  exact ⟨.mk x0 x1 x2 x3 A4 c4 l4 A5 c5 l5 x6 x7 x8, rfl, r4, g4, r5, g5, b4, b5, (i64_ok w2).1, (i64_ok w2).2⟩

theorem ch_open {n : Nat} {cs : List Value} {y : DataW H × List MemPlace} (h : DataW.trod enc Tryz.prog w base spare held n 90 cs = some y) (hs : SzD Tryz.prog 90 y.1) : ∃ r : ChV, cs = r.cells ∧ ChIn w n r := by
  obtain ⟨hl0, m, hnm, hf⟩ := rowo_open Tryz.underlying90 h hs
  have hl : cs.length = 2 := hl0.trans (by kernel_rfl)
  clear hl0
  obtain ⟨a0, a1, rfl⟩ := lst2 hl
  obtain ⟨z0, r0, q0⟩ := hf 0 _ rfl
  have v0 : DataW.trod enc Tryz.prog w base spare held m 88 (List.take (Tryz.prog.cellsOf 88) (List.drop 0 [a0, a1])) = some z0 := r0
  have s0 : SzD Tryz.prog 88 z0.1 := q0
  rw [cells_ck] at v0
  have t0 : DataW.trod enc Tryz.prog w base spare held m 88 [a0] = some z0 := v0
  clear r0 q0 v0
  obtain ⟨z1, r1, q1⟩ := hf 1 _ rfl
  have v1 : DataW.trod enc Tryz.prog w base spare held m 31 (List.take (Tryz.prog.cellsOf 31) (List.drop 1 [a0, a1])) = some z1 := r1
  have s1 : SzD Tryz.prog 31 z1.1 := q1
  rw [cells_exs] at v1
  have t1 : DataW.trod enc Tryz.prog w base spare held m 31 [a1] = some z1 := v1
  clear r1 q1 v1
  clear hf
  obtain ⟨x0, e0, _, w0⟩ := DataW.trod_int Tryz.underlying88 t0
  simp only [List.cons.injEq, and_true] at e0
  subst e0
  obtain ⟨A1, c1, l1, e1, i1, j1, n1, r1, g1, b1⟩ := rows_openN (α := ExV) (k := 9) (cells := ExV.cells) (G := fun r => ExIn w n r) Tryz.underlying31 (by kernel_rfl) (by decide) (of_decide_eq_true (by kernel_rfl)) t1 s1 (fun n' cs' y hn h hs => by obtain ⟨r, e, h1⟩ := ex_open n' h hs; exact ⟨r, e, h1.mono (by omega)⟩)
  simp only [List.cons.injEq, and_true] at e1
  subst e1
  exact ⟨⟨x0, A1, c1, l1⟩, rfl, ⟨r1, g1, b1⟩⟩

theorem chl_open {n : Nat} {cs : List Value} {y : DataW H × List MemPlace} (h : DataW.trod enc Tryz.prog w base spare held n 50 cs = some y) (hs : SzD Tryz.prog 50 y.1) : ∃ r : ChL, cs = r.cells ∧ ChLIn w n r := by
  obtain ⟨A, c, l, e, i, j, k, r, g, b⟩ := rows_openN (α := ChV) (k := 2) (cells := ChV.cells) (G := fun r => ChIn w n r) Tryz.underlying50 (by kernel_rfl) (by decide) (of_decide_eq_true (by kernel_rfl)) h hs (fun n' cs' y hn h hs => by obtain ⟨r, e, h1⟩ := ch_open h hs; exact ⟨r, e, h1.mono (by omega)⟩)
  subst e
  exact ⟨⟨A, c, l⟩, rfl, ⟨r, g, b, i, max_ok j, k⟩⟩
theorem lists_open {n : Nat} {cs : List Value} {y : DataW H × List MemPlace} (h : DataW.trod enc Tryz.prog w base spare held n 49 cs = some y) (hs : SzD Tryz.prog 49 y.1) :
    ∃ (A : Option Addr) (c : Nat) (l : List ChL), cs = [.slice A l.length c] ∧ RowsAt ChL 1 ChL.cells w A l ∧ (∀ x, x ∈ l → ChLIn w n x) ∧ l.length ≤ 140737488355328 := by
  obtain ⟨A, c, l, e, i, j, k, r, g, b⟩ := rows_openN (α := ChL) (k := 1) (cells := ChL.cells) (G := fun r => ChLIn w n r) Tryz.underlying49 (by kernel_rfl) (by decide) (of_decide_eq_true (by kernel_rfl)) h hs (fun n' cs' y hn h hs => by obtain ⟨r, e, h1⟩ := chl_open h hs; exact ⟨r, e, h1.mono (by omega)⟩)
  exact ⟨A, c, l, e, r, g, b⟩
end
end Go.Proofs.YtgdjhhfbpalkdaaGreat
