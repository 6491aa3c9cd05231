/- The sample in memory; head; great. -/
import Derived.Test.YtoaklikkepkhfaaL1
namespace Go.Proofs.Ytoaklikkepkhfaa
open Go.RowKit

theorem intsIn_block {W : World} {b : Nat} {xs : List Int} (h : W.heap[b]? = some (.cells (xs.map (Value.int .i64)).toArray 3 (0, 0))) : IntsIn W (some ⟨b, 0, none⟩) xs :=
  .inr ⟨b, 0, rfl, fun j x hx => by rw [cell_of_row _ _ _ _ _ _ h, Nat.zero_add]; simp [hx]⟩
theorem rows_block {α : Type} {k : Nat} {cells : α → List Value} {W : World} {b : Nat} {ty : TypeId} {l : List α} (h : W.heap[b]? = some (.cells (l.map cells).flatten.toArray ty (0, 0))) (hk : ∀ x, (cells x).length = k) : RowsAt α k cells W (some ⟨b, 0, none⟩) l :=
  .inr ⟨b, 0, rfl, fun j x hx => range_of_block h (fun r hr => by obtain ⟨x, _, rfl⟩ := List.mem_map.1 hr; exact hk x) (by rw [List.getElem?_map, hx]; rfl)⟩

theorem sub1_env {W : World} {b : Nat} (h : W.heap[b]? = some (.cells (sub1.map SubV.cells).flatten.toArray 42 (0, 0))) : RowsAt SubV 2 SubV.cells W (some ⟨b, 0, none⟩) sub1 := rows_block h (fun _ => rfl)

/-- Units alone. -/
structure UEnv (w : World) (ua : Option Addr) (uc : Nat) (l : List UnitV) : Prop where
  us : RowsAt UnitV 4 UnitV.cells w ua l
  un : ∀ x, x ∈ l → IntsIn w x.na x.needs
  uk : ∀ x, x ∈ l → IntsIn w x.ca x.calls
  uok : ∀ x, x ∈ l → x.Ok
  ul : l.length ≤ uc
  um : uc ≤ 9223372036854775807
  u0 : ua = none → uc = 0
structure SEnv (w : World) (sa : Option Addr) (sc : Nat) (subs : List SubV) : Prop where
  ss : RowsAt SubV 2 SubV.cells w sa subs
  sk : ∀ x, x ∈ subs → IntsIn w x.ca x.calls
  sok : ∀ x, x ∈ subs → x.Ok
  sl : subs.length ≤ sc
  sm : sc ≤ 9223372036854775807
  s0 : sa = none → sc = 0
theorem UEnv.env {w : World} {ua : Option Addr} {uc : Nat} {l : List UnitV} {sa : Option Addr} {sc : Nat} {subs : List SubV} (h : UEnv w ua uc l) (h' : SEnv w sa sc subs) : Env w ua uc l sa sc subs :=
  ⟨h.us, h.un, h.uk, h.uok, h'.ss, h'.sk, h'.sok, h.ul, h.um, h.u0, h'.sl, h'.sm, h'.s0⟩
theorem UEnv.kept {w w' : World} {ua : Option Addr} {uc : Nat} {l : List UnitV} (h : UEnv w ua uc l) (hk : Kept [] w w') : UEnv w' ua uc l :=
  ⟨h.us.kept hk, fun x hx => (h.un x hx).kept hk, fun x hx => (h.uk x hx).kept hk, h.uok, h.ul, h.um, h.u0⟩
theorem SEnv.kept {w w' : World} {sa : Option Addr} {sc : Nat} {subs : List SubV} (h : SEnv w sa sc subs) (hk : Kept [] w w') : SEnv w' sa sc subs :=
  ⟨h.ss.kept hk, fun x hx => (h.sk x hx).kept hk, h.sok, h.sl, h.sm, h.s0⟩
theorem ok_nil (u : Int) (h : (Lit.int .i64 u).wf = true) : (⟨u, none, 0, []⟩ : SubV).Ok := ⟨h, Nat.le_refl _, Nat.zero_le _, fun _ => rfl, Nat.zero_le _⟩

theorem sample_units {W : World} {N : Nat} (q0 : W.heap[N]? = some (.cells #[.int .i64 0] 3 (0, 0))) (q1 : W.heap[N + 1]? = some (.cells #[.int .i64 0] 3 (0, 0))) (q2 : W.heap[N + 2]? = some (.cells #[.int .i64 0] 3 (0, 0))) (q3 : W.heap[N + 3]? = some (.cells #[.int .i64 0, .int .i64 2] 3 (0, 0)))
    (q4 : W.heap[N + 4]? = some (.cells ((sampleU N).map UnitV.cells).flatten.toArray 44 (0, 0))) : UEnv W (some ⟨N + 4, 0, none⟩) 4 (sampleU N) := by
  have i0 : IntsIn W (some ⟨N, 0, none⟩) [0] := intsIn_block q0
  have i1 : IntsIn W (some ⟨N + 1, 0, none⟩) [0] := intsIn_block q1
  have i2 : IntsIn W (some ⟨N + 2, 0, none⟩) [0] := intsIn_block q2
  have i3 : IntsIn W (some ⟨N + 3, 0, none⟩) [0, 2] := intsIn_block q3
  have iz : ∀ a, IntsIn W a [] := fun a => .inl rfl
  refine ⟨rows_block q4 (fun _ => rfl), fun x hx => ?_, fun x hx => ?_, fun x hx => ?_, Nat.le_refl _, by decide, fun h => by cases h⟩
  · simp [sampleU] at hx
    rcases hx with rfl | rfl | rfl | rfl
    · exact iz _
    · exact i0
    · exact i1
    · exact i3
  · simp [sampleU] at hx
    rcases hx with rfl | rfl | rfl | rfl
    · exact iz _
    · exact iz _
    · exact i2
    · exact iz _
  · simp [sampleU] at hx
    rcases hx with rfl | rfl | rfl | rfl
    all_goals (constructor <;> first | (simp; done) | (simp [ByteArray.size]; done))

def SamplePost (w : World) (e : Ending) (w' : World) : Prop :=
  e = .returned (.tuple #[.slice (some ⟨w.heap.size + 4, 0, none⟩) 4 4, .slice (some ⟨w.heap.size + 5, 0, none⟩) 1 1]) ∧ UEnv w' (some ⟨w.heap.size + 4, 0, none⟩) 4 (sampleU w.heap.size) ∧ SEnv w' (some ⟨w.heap.size + 5, 0, none⟩) 1 sub1 ∧ Kept [] w w'

set_option maxRecDepth 100000 in
set_option maxHeartbeats 1000000 in
theorem sample_any (w : World) : Calls Try.prog 18 #[] w (SamplePost w) := by
  go_enter Try.func18, Try.ntmps18
  go_wp2_with fail
  go_ret2
  simp only [Nat.add_assoc, Nat.reduceAdd]
  refine ⟨rfl, sample_units ?_ ?_ ?_ ?_ ?_, ⟨sub1_env ?_, fun x hx => ?_, fun x hx => ?_, Nat.le_refl _, by decide, fun h => by cases h⟩, ?_⟩
  · exact obj_old (obj_old (obj_old (obj_old (obj_old (obj_new rfl) (by simp)) (by first | (simp; done) | (simp; omega))) (by first | (simp; done) | (simp; omega))) (by first | (simp; done) | (simp; omega))) (by first | (simp; done) | (simp; omega))
  · exact obj_old (obj_old (obj_old (obj_old (obj_new (by simp)) (by first | (simp; done) | (simp; omega))) (by first | (simp; done) | (simp; omega))) (by first | (simp; done) | (simp; omega))) (by first | (simp; done) | (simp; omega))
  · exact obj_old (obj_old (obj_old (obj_new (by simp)) (by first | (simp; done) | (simp; omega))) (by first | (simp; done) | (simp; omega))) (by first | (simp; done) | (simp; omega))
  · exact obj_old (obj_old (obj_new (by simp)) (by first | (simp; done) | (simp; omega))) (by first | (simp; done) | (simp; omega))
  · exact obj_old (obj_new (by simp)) (by first | (simp; done) | (simp; omega))
  · exact obj_new (by simp)
  · simp [sub1] at hx; subst hx; exact .inl rfl
  · simp [sub1] at hx; subst hx; exact ok_nil 1 (by decide)
  · exact (((((Kept.alloc _ _ _).trans (Kept.alloc _ _ _)).trans (Kept.alloc _ _ _)).trans (Kept.alloc _ _ _)).trans (Kept.alloc _ _ _)).trans (Kept.alloc _ _ _)
end Go.Proofs.Ytoaklikkepkhfaa
