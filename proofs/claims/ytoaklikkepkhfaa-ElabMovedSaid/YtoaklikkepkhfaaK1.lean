/- Units and subprograms in memory. -/
import Derived.Test.YtoaklikkepkhfaaK0
import Derived.Test.YtoaklikkepkhfaaP1
namespace Go.Proofs.Ytoaklikkepkhfaa
open Go.RowKit

/-- Ints at an address. -/
def IntsIn (w : World) (A : Option Addr) (xs : List Int) : Prop := xs = [] ∨ ∃ b o, A = some ⟨b, o, none⟩ ∧ ∀ (j : Nat) (x : Int), xs[j]? = some x → w.cell? ⟨b, o + j, none⟩ = some (.int .i64 x)
theorem IntsIn.kept {w w' : World} {A : Option Addr} {xs : List Int} (h : IntsIn w A xs) (hk : Kept [] w w') : IntsIn w' A xs := by
  rcases h with h | ⟨b, o, e, hc⟩
  · exact .inl h
  · exact .inr ⟨b, o, e, fun j x hx => hk.cell (hc j x hx) (by simp)⟩
theorem IntsIn.src {w : World} {A : Option Addr} {xs : List Int} (h : IntsIn w A xs) : SrcAt w 1 A xs.length (xs.map (Value.int .i64)) := by
  rcases h with rfl | ⟨b, o, rfl, hc⟩
  · exact SrcAt.zero _ _ _
  · exact src_drop 0 hc
theorem IntsC.at_ {w : World} {a : Option Addr} {n c : Nat} {xs : List Int} (h : IntsC w (.slice a n c) xs) : n = xs.length ∧ IntsIn w a xs ∧ xs.length ≤ c ∧ c ≤ 9223372036854775807 ∧ (a = none → c = 0) := by
  obtain ⟨a', c', e, h1, h2, h3, h4⟩ := h
  injection e with e1 e2 e3
  subst e1 e2 e3
  exact ⟨rfl, h4, h1, h2, h3⟩
theorem IntsIn.c {w : World} {a : Option Addr} {c : Nat} {xs : List Int} (h : IntsIn w a xs) (h1 : xs.length ≤ c) (h2 : c ≤ 9223372036854775807) (h3 : a = none → c = 0) : IntsC w (.slice a xs.length c) xs := ⟨a, c, rfl, h1, h2, h3, h⟩

def UnitV.cells (x : UnitV) : List Value := [.string x.name, .bool x.body, .slice x.na x.needs.length x.nc, .slice x.ca x.calls.length x.cc]
def SubV.cells (x : SubV) : List Value := [.int .i64 x.unit, .slice x.ca x.calls.length x.cc]

/-- Lengths, capacities. -/
structure UnitV.Ok (x : UnitV) : Prop where
  n1 : x.needs.length ≤ x.nc
  n2 : x.nc ≤ 9223372036854775807
  n3 : x.na = none → x.nc = 0
  n4 : x.needs.length ≤ 140737488355328
  c1 : x.calls.length ≤ x.cc
  c2 : x.cc ≤ 9223372036854775807
  c3 : x.ca = none → x.cc = 0
  c4 : x.calls.length ≤ 140737488355328
  s4 : x.name.size ≤ 140737488355328
structure SubV.Ok (x : SubV) : Prop where
  u : (Lit.int .i64 x.unit).wf = true
  c1 : x.calls.length ≤ x.cc
  c2 : x.cc ≤ 9223372036854775807
  c3 : x.ca = none → x.cc = 0
  c4 : x.calls.length ≤ 140737488355328

theorem RowsAt.kept {α : Type} {k : Nat} {cells : α → List Value} {w w' : World} {A : Option Addr} {l : List α} (h : RowsAt α k cells w A l) (hk : Kept [] w w') : RowsAt α k cells w' A l := by
  rcases h with h | ⟨b, o, e, hc⟩
  · exact .inl h
  · exact .inr ⟨b, o, e, fun j r hr i u hu => hk.cell (hc j r hr i u hu) (by simp)⟩

/-- Lists of units and of subprograms, as a call is handed them. -/
structure Env (w : World) (ua : Option Addr) (uc : Nat) (l : List UnitV) (sa : Option Addr) (sc : Nat) (subs : List SubV) : Prop where
  us : RowsAt UnitV 4 UnitV.cells w ua l
  un : ∀ x, x ∈ l → IntsIn w x.na x.needs
  uk : ∀ x, x ∈ l → IntsIn w x.ca x.calls
  uok : ∀ x, x ∈ l → x.Ok
  ss : RowsAt SubV 2 SubV.cells w sa subs
  sk : ∀ x, x ∈ subs → IntsIn w x.ca x.calls
  sok : ∀ x, x ∈ subs → x.Ok
  ul : l.length ≤ uc
  um : uc ≤ 9223372036854775807
  u0 : ua = none → uc = 0
  sl : subs.length ≤ sc
  sm : sc ≤ 9223372036854775807
  s0 : sa = none → sc = 0
theorem Env.kept {w w' : World} {ua : Option Addr} {uc : Nat} {l : List UnitV} {sa : Option Addr} {sc : Nat} {subs : List SubV} (h : Env w ua uc l sa sc subs) (hk : Kept [] w w') : Env w' ua uc l sa sc subs :=
  ⟨h.us.kept hk, fun x hx => (h.un x hx).kept hk, fun x hx => (h.uk x hx).kept hk, h.uok, h.ss.kept hk, fun x hx => (h.sk x hx).kept hk, h.sok, h.ul, h.um, h.u0, h.sl, h.sm, h.s0⟩

theorem unit_cells {w : World} {b o j : Nat} {x : UnitV} (h : w.rangeAt b (o + j * 4) x.cells) : w.cell? ⟨b, o + j * 4, none⟩ = some (.string x.name) ∧ w.cell? ⟨b, o + j * 4 + 1, none⟩ = some (.bool x.body) ∧ w.cell? ⟨b, o + j * 4 + 2, none⟩ = some (.slice x.na x.needs.length x.nc) ∧ w.cell? ⟨b, o + j * 4 + 3, none⟩ = some (.slice x.ca x.calls.length x.cc) :=
  ⟨h 0 _ rfl, h 1 _ rfl, h 2 _ rfl, h 3 _ rfl⟩
theorem sub_cells {w : World} {b o j : Nat} {x : SubV} (h : w.rangeAt b (o + j * 2) x.cells) : w.cell? ⟨b, o + j * 2, none⟩ = some (.int .i64 x.unit) ∧ w.cell? ⟨b, o + j * 2 + 1, none⟩ = some (.slice x.ca x.calls.length x.cc) :=
  ⟨h 0 _ rfl, h 1 _ rfl⟩
theorem RowsAt.split {α : Type} {k : Nat} {cells : α → List Value} {w : World} {A : Option Addr} {l : List α} (h : RowsAt α k cells w A l) : l.length ≤ 0 ∨ ∃ b o, A = some ⟨b, o, none⟩ ∧ ∀ j r, l[j]? = some r → w.rangeAt b (o + j * k) (cells r) := by
  rcases h with h | h
  · left; rw [h]; exact Nat.le_refl _
  · exact .inr h
theorem RowsAt.some_ {α : Type} {k : Nat} {cells : α → List Value} {w : World} {A : Option Addr} {l : List α} (h : RowsAt α k cells w A l) {j : Nat} {x : α} (hx : l[j]? = some x) : ∃ b o, A = some ⟨b, o, none⟩ ∧ ∀ j r, l[j]? = some r → w.rangeAt b (o + j * k) (cells r) := by
  rcases h with h | h
  · subst h; simp at hx
  · exact h
end Go.Proofs.Ytoaklikkepkhfaa
