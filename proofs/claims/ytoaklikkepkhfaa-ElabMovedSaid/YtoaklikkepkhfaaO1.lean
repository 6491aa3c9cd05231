/- The laws' arguments opened: units, subprograms. -/
import Derived.Test.YtoaklikkepkhfaaL4
import Derived.ProofKit
import Derived.ChangeOld
import Derived.Lib.SmallJoins
namespace Go.Proofs.Ytoaklikkepkhfaa
open Go.ChangeShapes Go.WideShapes Go.ChangeAt Go.RowKit Go.Deep

section
variable {H : Type} {enc : TypeId × Value → H} {w : World} {base : Nat} {spare : Nat → Bool} {held : Bool}

theorem size_of (x : ByteArray) (h : x.data.toList.length ≤ reachBytes) : x.size ≤ 140737488355328 := by
  have h3 : x.data.toList.length = x.size := Array.length_toList
  have := reachBytes_lt
  omega
theorem int_open {n : Nat} {cs : List Value} {y : DataW H × List MemPlace} (h : DataW.trod enc Try.prog w base spare held n 3 cs = some y) : ∃ x : Int, cs = [.int .i64 x] ∧ (Lit.int .i64 x).wf = true := by
  match cs, h with
  | [v], h =>
    obtain ⟨x, e, _, hw⟩ := DataW.trod_int Try.underlying3 h
    simp only [List.cons.injEq, and_true] at e
    subst e
    exact ⟨x, rfl, hw⟩
  | [], h => cases n <;> simp [DataW.trod, Try.underlying3] at h
  | a :: b :: c, h => cases n <;> simp [DataW.trod, Try.underlying3] at h
theorem ints_open {n : Nat} {v : Value} {x : DataW H × List MemPlace} (h : DataW.trod enc Try.prog w base spare held n 26 [v] = some x) (hs : SzD Try.prog 26 x.1) :
    ∃ (A : Option Addr) (c : Nat) (l : List Int), v = .slice A l.length c ∧ l.length ≤ c ∧ c ≤ 9223372036854775807 ∧ (A = none → c = 0) ∧ IntsIn w A l ∧ l.length ≤ 140737488355328 := by
  obtain ⟨A, c, l, e, h1, h2, h3, h4, _, h6⟩ := rows_open (α := Int) (k := 1) (cells := fun x => [.int .i64 x]) (G := fun _ => True) Try.underlying26 (by kernel_rfl) (by decide) h hs (fun n cs' y h _ => by obtain ⟨r, hr, _⟩ := int_open h; exact ⟨r, hr, trivial⟩)
  refine ⟨A, c, l, by simpa using e, h1, by unfold maxLen at h2; omega, h3, ?_, ?_⟩
  · rcases h4 with h4 | ⟨b, o, e, hc⟩
    · exact .inl h4
    · exact .inr ⟨b, o, e, fun j x hx => by have := hc j x hx 0 _ rfl; simpa using this⟩
  · have hb : Try.prog.bytesOf 3 = 8 := by kernel_rfl
    rw [hb] at h6
    have := reachBytes_lt
    omega

theorem unit_open {n : Nat} {cs : List Value} {y : DataW H × List MemPlace} (h : DataW.trod enc Try.prog w base spare held n 44 cs = some y) (hs : SzD Try.prog 44 y.1) : ∃ r : UnitV, cs = r.cells ∧ r.Ok ∧ IntsIn w r.na r.needs ∧ IntsIn w r.ca r.calls := by
  obtain ⟨hl, m, hf⟩ := row_open Try.underlying44 (by kernel_rfl) (by kernel_rfl) h hs
  obtain ⟨v0, z0, c0, t0, s0⟩ := hf 0 _ rfl
  obtain ⟨v1, z1, c1, t1, _⟩ := hf 1 _ rfl
  obtain ⟨v2, z2, c2, t2, s2⟩ := hf 2 _ rfl
  obtain ⟨v3, z3, c3, t3, s3⟩ := hf 3 _ rfl
  obtain ⟨x0, e0, hz0⟩ := DataW.trod_string Try.underlying9 t0
  obtain ⟨x1, e1, _⟩ := DataW.trod_bool Try.underlying4 t1
  obtain ⟨A2, k2, l2, e2, n1, n2, n3, n4, n5⟩ := ints_open t2 s2
  obtain ⟨A3, k3, l3, e3, m1, m2, m3, m4, m5⟩ := ints_open t3 s3
  simp only [List.cons.injEq, and_true] at e0 e1
  subst e0 e1 e2 e3
  have hsz : x0.size ≤ 140737488355328 := by
    rw [hz0.1] at s0
    exact size_of x0 (SzD.str s0)
  refine ⟨⟨x0, x1, A2, k2, l2, A3, k3, l3⟩, ?_, ⟨n1, n2, n3, n5, m1, m2, m3, m5, hsz⟩, n4, m4⟩
  match cs, hl with
  | [a0, a1, a2, a3], _ =>
    simp only [List.getElem?_cons_zero, List.getElem?_cons_succ, Option.some.injEq] at c0 c1 c2 c3
    subst c0 c1 c2 c3
    rfl

theorem sub_open {n : Nat} {cs : List Value} {y : DataW H × List MemPlace} (h : DataW.trod enc Try.prog w base spare held n 42 cs = some y) (hs : SzD Try.prog 42 y.1) : ∃ r : SubV, cs = r.cells ∧ r.Ok ∧ IntsIn w r.ca r.calls := by
  obtain ⟨hl, m, hf⟩ := row_open Try.underlying42 (by kernel_rfl) (by kernel_rfl) h hs
  obtain ⟨v0, z0, c0, t0, _⟩ := hf 0 _ rfl
  obtain ⟨v1, z1, c1, t1, s1⟩ := hf 1 _ rfl
  obtain ⟨x0, e0, _, w0⟩ := DataW.trod_int Try.underlying3 t0
  obtain ⟨A3, k3, l3, e3, m1, m2, m3, m4, m5⟩ := ints_open t1 s1
  simp only [List.cons.injEq, and_true] at e0
  subst e0 e3
  refine ⟨⟨x0, A3, k3, l3⟩, ?_, ⟨w0, m1, m2, m3, m5⟩, m4⟩
  match cs, hl with
  | [a0, a1], _ =>
    simp only [List.getElem?_cons_zero, List.getElem?_cons_succ, Option.some.injEq] at c0 c1
    subst c0 c1
    rfl

set_option maxRecDepth 100000 in
/-- Units and subprograms, as a law is handed them. -/
theorem env_open {v0 v1 : Value} {d0 d1 : DataW H} {p0 p1 : List MemPlace} (h0 : DataW.Trod enc Try.prog w base spare held 22 v0 d0 p0) (h1 : DataW.Trod enc Try.prog w base spare held 23 v1 d1 p1)
    {r : Go.Reach} {b0 : Nat} (hv : Value.okWide Try.prog w r b0 22 v0) (hv1 : Value.okWide Try.prog w r b0 23 v1) (hs0 : SzD Try.prog 22 d0) (hs1 : SzD Try.prog 23 d1) :
    ∃ (ua : Option Addr) (uc : Nat) (l : List UnitV) (sa : Option Addr) (sc : Nat) (subs : List SubV), v0 = .slice ua l.length uc ∧ v1 = .slice sa subs.length sc ∧ Env w ua uc l sa sc subs := by
  obtain ⟨n0, h0⟩ := h0
  obtain ⟨n1, h1⟩ := h1
  obtain ⟨a1, m1, c1, rfl⟩ := okWide_slice Try.underlying22 hv
  obtain ⟨a2, m2, c2, rfl⟩ := okWide_slice Try.underlying23 hv1
  obtain ⟨A, c, l, e, i1, i2, i3, i4, i5, _⟩ := rows_open (α := UnitV) (k := 4) (cells := UnitV.cells) (G := fun r => r.Ok ∧ IntsIn w r.na r.needs ∧ IntsIn w r.ca r.calls) Try.underlying22 (by kernel_rfl) (by decide) h0 hs0 (fun n cs' y h hs => unit_open h hs)
  obtain ⟨A', c', l', e', j1, j2, j3, j4, j5, _⟩ := rows_open (α := SubV) (k := 2) (cells := SubV.cells) (G := fun r => r.Ok ∧ IntsIn w r.ca r.calls) Try.underlying23 (by kernel_rfl) (by decide) h1 hs1 (fun n cs' y h hs => sub_open h hs)
  refine ⟨A, c, l, A', c', l', ?_, ?_, i4, fun x hx => (i5 x hx).2.1, fun x hx => (i5 x hx).2.2, fun x hx => (i5 x hx).1, j4, fun x hx => (j5 x hx).2, fun x hx => (j5 x hx).1, i1, ?_, i3, j1, ?_, j3⟩
  · simpa [Value.cells] using e
  · simpa [Value.cells] using e'
  · unfold maxLen at i2; omega
  · unfold maxLen at j2; omega
end
end Go.Proofs.Ytoaklikkepkhfaa
