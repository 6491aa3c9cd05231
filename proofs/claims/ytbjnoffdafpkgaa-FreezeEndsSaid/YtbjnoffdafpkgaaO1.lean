/- The laws' arguments opened: a table by value, events. -/
import Derived.Test.YtbjnoffdafpkgaaO0
import Derived.Test.YtbjnoffdafpkgaaW1
import Derived.ProofKit
import Derived.ChangeOld
import Derived.Lib.SmallJoins
namespace Go.Proofs.Ytbjnoffdafpkgaa
open Go.ChangeShapes Go.WideShapes Go.ChangeAt Go.RowKit Go.Deep

section
variable {H : Type} {enc : TypeId × Value → H} {w : World} {base : Nat} {spare : Nat → Bool} {held : Bool}

instance : Inhabited CRow := ⟨⟨⟨#[]⟩, 0, false, 0, false, none, 0, 0⟩⟩
instance : Inhabited TyRow := ⟨⟨0, ⟨#[]⟩, 0, 0, none, 0, 0, 0, 0, 0, ⟨#[]⟩, false, 0, none, 0, [], 0, 0, false, 0, 0, 0⟩⟩
instance : Inhabited EvV := ⟨⟨0, 0, 0⟩⟩

theorem crow_open {n : Nat} {cs : List Value} {y : DataW H × List MemPlace} (h : DataW.trod enc Try.prog w base spare held n 75 cs = some y) (hs : SzD Try.prog 75 y.1) : ∃ r : CRow, cs = r.cells := by
  obtain ⟨hl, m, hf⟩ := row_open Try.underlying75 (by kernel_rfl) (by kernel_rfl) h hs
  obtain ⟨v0, z0, c0, t0, _⟩ := hf 0 _ rfl
  obtain ⟨v1, z1, c1, t1, _⟩ := hf 1 _ rfl
  obtain ⟨v2, z2, c2, t2, _⟩ := hf 2 _ rfl
  obtain ⟨v3, z3, c3, t3, _⟩ := hf 3 _ rfl
  obtain ⟨v4, z4, c4, t4, _⟩ := hf 4 _ rfl
  obtain ⟨v5, z5, c5, t5, _⟩ := hf 5 _ rfl
  obtain ⟨x0, e0, _⟩ := DataW.trod_string Try.underlying9 t0
  obtain ⟨x1, e1, _⟩ := DataW.trod_int Try.underlying3 t1
  obtain ⟨x2, e2, _⟩ := DataW.trod_bool Try.underlying4 t2
  obtain ⟨x3, e3, _⟩ := DataW.trod_int Try.underlying2 t3
  obtain ⟨x4, e4, _⟩ := DataW.trod_bool Try.underlying4 t4
  obtain ⟨A, k, c, e5, _⟩ := slice_len Try.underlying73 t5
  simp only [List.cons.injEq, and_true] at e0 e1 e2 e3 e4
  subst e0 e1 e2 e3 e4 e5
  refine ⟨⟨x0, x1, x2, x3, x4, A, k, c⟩, ?_⟩
  match cs, hl with
  | [a0, a1, a2, a3, a4, a5], _ =>
    simp only [List.getElem?_cons_zero, List.getElem?_cons_succ, Option.some.injEq] at c0 c1 c2 c3 c4 c5
    subst c0 c1 c2 c3 c4 c5
    rfl

theorem tyrow_open {n : Nat} {cs : List Value} {y : DataW H × List MemPlace} (h : DataW.trod enc Try.prog w base spare held n 51 cs = some y) (hs : SzD Try.prog 51 y.1) : ∃ r : TyRow, cs = r.cells ∧ CompsIn w r.compsA r.comps ∧ r.comps.length ≤ 140737488355328 := by
  obtain ⟨hl, m, hf⟩ := row_open Try.underlying51 (by kernel_rfl) (by kernel_rfl) h hs
  obtain ⟨v0, z0, c0, t0, _⟩ := hf 0 _ rfl
  obtain ⟨v1, z1, c1, t1, _⟩ := hf 1 _ rfl
  obtain ⟨v2, z2, c2, t2, _⟩ := hf 2 _ rfl
  obtain ⟨v3, z3, c3, t3, _⟩ := hf 3 _ rfl
  obtain ⟨v4, z4, c4, t4, _⟩ := hf 4 _ rfl
  obtain ⟨v5, z5, c5, t5, _⟩ := hf 5 _ rfl
  obtain ⟨v6, z6, c6, t6, _⟩ := hf 6 _ rfl
  obtain ⟨v7, z7, c7, t7, _⟩ := hf 7 _ rfl
  obtain ⟨v8, z8, c8, t8, _⟩ := hf 8 _ rfl
  obtain ⟨v9, z9, c9, t9, _⟩ := hf 9 _ rfl
  obtain ⟨v10, z10, c10, t10, _⟩ := hf 10 _ rfl
  obtain ⟨v11, z11, c11, t11, s11⟩ := hf 11 _ rfl
  obtain ⟨v12, z12, c12, t12, _⟩ := hf 12 _ rfl
  obtain ⟨v13, z13, c13, t13, _⟩ := hf 13 _ rfl
  obtain ⟨v14, z14, c14, t14, _⟩ := hf 14 _ rfl
  obtain ⟨v15, z15, c15, t15, _⟩ := hf 15 _ rfl
  obtain ⟨v16, z16, c16, t16, _⟩ := hf 16 _ rfl
  obtain ⟨v17, z17, c17, t17, _⟩ := hf 17 _ rfl
  obtain ⟨x0, e0, _⟩ := DataW.trod_int Try.underlying46 t0
  obtain ⟨x1, e1, _⟩ := DataW.trod_string Try.underlying9 t1
  obtain ⟨x2, e2, _⟩ := DataW.trod_int Try.underlying3 t2
  obtain ⟨x3, e3, _⟩ := DataW.trod_int Try.underlying3 t3
  obtain ⟨A4, k4, c4', e4, _⟩ := slice_len Try.underlying47 t4
  obtain ⟨x5, e5, _⟩ := DataW.trod_int Try.underlying3 t5
  obtain ⟨x6, e6, _⟩ := DataW.trod_int Try.underlying3 t6
  obtain ⟨x7, e7, _⟩ := DataW.trod_int Try.underlying3 t7
  obtain ⟨x8, e8, _⟩ := DataW.trod_string Try.underlying9 t8
  obtain ⟨x9, e9, _⟩ := DataW.trod_bool Try.underlying4 t9
  obtain ⟨x10, e10, _⟩ := DataW.trod_int Try.underlying2 t10
  obtain ⟨A11, c11', l11, e11, _, _, _, r11, _, b11⟩ := rows_open (α := CRow) (k := 6) (cells := CRow.cells) (G := fun _ => True) Try.underlying48 (by kernel_rfl) (by decide) t11 s11 (fun n cs' y h hs => by obtain ⟨r, hr⟩ := crow_open h hs; exact ⟨r, hr, trivial⟩)
  obtain ⟨x12, e12, _⟩ := DataW.trod_int Try.underlying3 t12
  obtain ⟨x13, e13, _⟩ := DataW.trod_int Try.underlying49 t13
  obtain ⟨x14, e14, _⟩ := DataW.trod_bool Try.underlying4 t14
  obtain ⟨x15, e15, _⟩ := DataW.trod_int Try.underlying3 t15
  obtain ⟨x16, e16, _⟩ := DataW.trod_int Try.underlying3 t16
  obtain ⟨x17, e17, _⟩ := DataW.trod_int Try.underlying3 t17
  simp only [List.cons.injEq, and_true] at e0 e1 e2 e3 e5 e6 e7 e8 e9 e10 e11 e12 e13 e14 e15 e16 e17
  subst e0 e1 e2 e3 e4 e5 e6 e7 e8 e9 e10 e11 e12 e13 e14 e15 e16 e17
  refine ⟨⟨x0, x1, x2, x3, A4, k4, c4', x5, x6, x7, x8, x9, x10, A11, c11', l11, x12, x13, x14, x15, x16, x17⟩, ?_, ?_, ?_⟩
  · match cs, hl with
    | [a0, a1, a2, a3, a4, a5, a6, a7, a8, a9, a10, a11, a12, a13, a14, a15, a16, a17], _ =>
      simp only [List.getElem?_cons_zero, List.getElem?_cons_succ, Option.some.injEq] at c0 c1 c2 c3 c4 c5 c6 c7 c8 c9 c10 c11 c12 c13 c14 c15 c16 c17
      subst c0 c1 c2 c3 c4 c5 c6 c7 c8 c9 c10 c11 c12 c13 c14 c15 c16 c17
      rfl
  · intro k x hx
    rcases r11 with h | ⟨b, o, hA, h⟩
    · have : l11 = [] := h
      simp [this] at hx
    · exact ⟨b, o, hA, h k x hx⟩
  · have hb : Try.prog.bytesOf 75 = 72 := by kernel_rfl
    rw [hb] at b11
    have := reachBytes_lt
    show l11.length ≤ _
    omega

theorem ev_open {n : Nat} {cs : List Value} {y : DataW H × List MemPlace} (h : DataW.trod enc Try.prog w base spare held n 45 cs = some y) (hs : SzD Try.prog 45 y.1) : ∃ r : EvV, cs = r.cells ∧ r.wf := by
  obtain ⟨hl, m, hf⟩ := row_open Try.underlying45 (by kernel_rfl) (by kernel_rfl) h hs
  obtain ⟨v0, z0, c0, t0, _⟩ := hf 0 _ rfl
  obtain ⟨v1, z1, c1, t1, _⟩ := hf 1 _ rfl
  obtain ⟨v2, z2, c2, t2, _⟩ := hf 2 _ rfl
  obtain ⟨x0, e0, _⟩ := DataW.trod_int Try.underlying43 t0
  obtain ⟨x1, e1, _, w1⟩ := DataW.trod_int Try.underlying3 t1
  obtain ⟨x2, e2, _, w2⟩ := DataW.trod_int Try.underlying3 t2
  simp only [List.cons.injEq, and_true] at e0 e1 e2
  subst e0 e1 e2
  refine ⟨⟨x0, x1, x2⟩, ?_, w1, w2⟩
  match cs, hl with
  | [a0, a1, a2], _ =>
    simp only [List.getElem?_cons_zero, List.getElem?_cons_succ, Option.some.injEq] at c0 c1 c2
    subst c0 c1 c2
    rfl

theorem sub_open {n : Nat} {cs : List Value} {y : DataW H × List MemPlace} (h : DataW.trod enc Try.prog w base spare held n 72 cs = some y) (hs : SzD Try.prog 72 y.1) : ∃ r : Int × Int × Int, cs = [.int .i64 r.1, .int .i64 r.2.1, .int .i64 r.2.2] := by
  obtain ⟨hl, m, hf⟩ := row_open Try.underlying72 (by kernel_rfl) (by kernel_rfl) h hs
  obtain ⟨v0, z0, c0, t0, _⟩ := hf 0 _ rfl
  obtain ⟨v1, z1, c1, t1, _⟩ := hf 1 _ rfl
  obtain ⟨v2, z2, c2, t2, _⟩ := hf 2 _ rfl
  obtain ⟨x0, e0, _⟩ := DataW.trod_int Try.underlying3 t0
  obtain ⟨x1, e1, _⟩ := DataW.trod_int Try.underlying2 t1
  obtain ⟨x2, e2, _⟩ := DataW.trod_int Try.underlying2 t2
  simp only [List.cons.injEq, and_true] at e0 e1 e2
  subst e0 e1 e2
  refine ⟨⟨x0, x1, x2⟩, ?_⟩
  match cs, hl with
  | [a0, a1, a2], _ =>
    simp only [List.getElem?_cons_zero, List.getElem?_cons_succ, Option.some.injEq] at c0 c1 c2
    subst c0 c1 c2
    rfl

theorem tab_open {n : Nat} {cs : List Value} {y : DataW H × List MemPlace} (h : DataW.trod enc Try.prog w base spare held n 28 cs = some y) (hs : SzD Try.prog 28 y.1) :
    ∃ (v : TabV) (t : Tab), cs = (v.cells t).toList ∧ TabIn w v t ∧ Comps47 t := by
  obtain ⟨hl, m, hf⟩ := row_open Try.underlying28 (by kernel_rfl) (by kernel_rfl) h hs
  obtain ⟨v0, z0, c0, t0, s0⟩ := hf 0 _ rfl
  obtain ⟨v1, z1, c1, t1, s1⟩ := hf 1 _ rfl
  obtain ⟨v2, z2, c2, t2, _⟩ := hf 2 _ rfl
  obtain ⟨v3, z3, c3, t3, _⟩ := hf 3 _ rfl
  obtain ⟨v4, z4, c4, t4, _⟩ := hf 4 _ rfl
  obtain ⟨A0, k0, l0, e0, i0, j0, _, r0, g0, b0⟩ := rows_open (α := TyRow) (k := 18) (cells := TyRow.cells) (G := fun r => CompsIn w r.compsA r.comps ∧ r.comps.length ≤ 140737488355328) Try.underlying22 (by kernel_rfl) (by decide) t0 s0 (fun n cs' y h hs => tyrow_open h hs)
  obtain ⟨A1, k1, l1, e1, i1, j1, _, r1, _, b1⟩ := rows_open (α := Int × Int × Int) (k := 3) (cells := fun r => [.int .i64 r.1, .int .i64 r.2.1, .int .i64 r.2.2]) (G := fun _ => True) Try.underlying23 (by kernel_rfl) (by decide) t1 s1 (fun n cs' y h hs => by obtain ⟨r, hr⟩ := sub_open h hs; exact ⟨r, hr, trivial⟩)
  obtain ⟨A2, n2, k2, e2, _⟩ := slice_len Try.underlying24 t2
  obtain ⟨A3, n3, k3, e3, _⟩ := slice_len Try.underlying25 t3
  obtain ⟨A4, n4, k4, e4, _⟩ := slice_len Try.underlying26 t4
  simp only [List.cons.injEq, and_true] at e0 e1
  subst e0 e1 e2 e3 e4
  refine ⟨⟨A0, k0, A1, k1, A2, n2, k2, A3, n3, k3, A4, n4, k4⟩, ⟨l0, l1.map (·.1)⟩, ?_, ⟨?_, ?_, ?_, ?_⟩, fun x hx => (g0 x hx).2⟩
  · match cs, hl with
    | [a0, a1, a2, a3, a4], _ =>
      simp only [List.getElem?_cons_zero, List.getElem?_cons_succ, Option.some.injEq] at c0 c1 c2 c3 c4
      subst c0 c1 c2 c3 c4
      simp [TabV.cells]
  · intro k x hx
    rcases r0 with h | ⟨b, o, hA, h⟩
    · have : l0 = [] := h
      simp [this] at hx
    · exact ⟨b, o, hA, h k x hx, (g0 x (List.mem_of_getElem? hx)).1⟩
  · intro s hs'
    rcases r1 with h | ⟨b, o, hA, h⟩
    · have : l1 = [] := h
      simp [this] at hs'
    · have hs2 : s < l1.length := by simpa using hs'
      refine ⟨b, o, hA, ?_⟩
      have := h s l1[s] (List.getElem?_eq_getElem hs2) 0 _ rfl
      rw [Nat.add_zero] at this
      rw [this]
      simp [List.getD, hs2]
  · unfold maxLen at j0; show l0.length ≤ _; omega
  · unfold maxLen at j1; show (l1.map (·.1)).length ≤ _; rw [List.length_map]; omega

set_option maxRecDepth 100000 in
/-- A table by value and events, as a law is handed them. -/
theorem genv_open {v0 v1 : Value} {d0 d1 : DataW H} {p0 p1 : List MemPlace} (h0 : DataW.Trod enc Try.prog w base spare held 28 v0 d0 p0) (h1 : DataW.Trod enc Try.prog w base spare held 29 v1 d1 p1)
    {r : Go.Reach} {b0 : Nat} (hv : Value.okWide Try.prog w r b0 28 v0) (hv1 : Value.okWide Try.prog w r b0 29 v1) (hs0 : SzD Try.prog 28 d0) (hs1 : SzD Try.prog 29 d1) :
    ∃ (v : TabV) (t : Tab) (a : Option Addr) (c : Nat) (l : List EvV), v0 = .agg (v.cells t) ∧ v1 = .slice a l.length c ∧ GEnv w v t a c l := by
  obtain ⟨n0, h0⟩ := h0
  obtain ⟨n1, h1⟩ := h1
  obtain ⟨cs, rfl, hsz⟩ := okWide_struct Try.underlying28 hv
  obtain ⟨a1, m1, c1, rfl⟩ := okWide_slice Try.underlying29 hv1
  have hc : (Value.agg cs).cells.toList = cs.toList := by simp [Value.cells]
  obtain ⟨v, t, hcs, hT, h47⟩ := tab_open h0 hs0
  obtain ⟨A, c, l, e, hlc, hcm, _, hr, hG, _⟩ := rows_open (α := EvV) (k := 3) (cells := EvV.cells) (G := EvV.wf) Try.underlying29 (by kernel_rfl) (by decide) h1 hs1 (fun n cs' y h hs => ev_open h hs)
  refine ⟨v, t, A, c, l, ?_, ?_, hT, hr, hG, h47, hlc, by unfold maxLen at hcm; omega⟩
  · rw [hc] at hcs
    rw [show cs = v.cells t from Array.toList_inj.1 hcs]
  · simpa [Value.cells] using e
end
end Go.Proofs.Ytbjnoffdafpkgaa
