/- Cover, whole; lists of choices in memory; what Cover tells of short lists. -/
import Derived.Test.YtgdjhhfbpalkdaaGreatV20
import Derived.Test.YtgdjhhfbpalkdaaGreatV21
namespace Go.Proofs.YtgdjhhfbpalkdaaGreat
open Go.RowKit
theorem Cover_any (w : World) (v : TabV) (t : Tab) (sub : Int) (a : Option Addr) (c : Nat) (ls : List ChL) (n : Nat) (hT : TabIn w v t) (hR : RowsAt ChL 1 ChL.cells w a ls) (hA : ∀ y, y ∈ ls → RowsAt ChV 2 ChV.cells w y.a y.l ∧ (∀ z, z ∈ y.l → ChIn w n z) ∧ y.l.length ≤ 1000) (hl : ls.length ≤ 1000) :
    Calls Tryz.prog 16 #[.agg (v.cells t), .int .i64 sub, .slice a ls.length c] w (RetCov t n sub ls w) := Cover_of sort_any w v t sub a c ls n hT hR hA hl
/-- A list of choices lies. -/
def ChsAt (w : World) (d : Nat) (L : ChL) : Prop := RowsAt ChV 2 ChV.cells w L.a L.l ∧ ∀ z, z ∈ L.l → ChIn w d z
theorem ChsAt.kept {w w' : World} {d : Nat} {L : ChL} (h : ChsAt w d L) (hk : Kept [] w w') : ChsAt w' d L := ⟨h.1.kept hk, fun z hz => (h.2 z hz).kept hk⟩
def SP.chl (d : Nat) (p : List ChV → Prop) : SP := ⟨fun v w => ∃ L : ChL, v = .slice L.a L.l.length L.c ∧ p L.l ∧ ChsAt w d L, fun _ _ _ ⟨L, h1, h2, h3⟩ hk => ⟨L, h1, h2, h3.kept hk⟩⟩
theorem SP.chl_p (d : Nat) (p : List ChV → Prop) (v : Value) (w : World) : (SP.chl d p).p v w = ∃ L : ChL, v = .slice L.a L.l.length L.c ∧ p L.l ∧ ChsAt w d L := rfl
def ListsAt (w : World) (d D : Nat) (ls : List ChL) : Prop := w.heap[D]? = some (.cells (ls.map ChL.cells).flatten.toArray 50 (0, 0)) ∧ ∀ L, L ∈ ls → ChsAt w d L
theorem ListsAt.kept {w w' : World} {d D : Nat} {ls : List ChL} (h : ListsAt w d D ls) (hk : Kept [] w w') : ListsAt w' d D ls := ⟨hk.obj h.1 (by simp), fun L hL => (h.2 L hL).kept hk⟩
def SP.lists (d : Nat) (p : List (List ChV) → Prop) : SP := ⟨fun v w => ∃ (D : Nat) (ls : List ChL), v = .slice (some ⟨D, 0, none⟩) ls.length ls.length ∧ p (ls.map ChL.l) ∧ ListsAt w d D ls, fun _ _ _ ⟨D, ls, h1, h2, h3⟩ hk => ⟨D, ls, h1, h2, h3.kept hk⟩⟩
theorem SP.lists_p (d : Nat) (p : List (List ChV) → Prop) (v : Value) (w : World) : (SP.lists d p).p v w = ∃ (D : Nat) (ls : List ChL), v = .slice (some ⟨D, 0, none⟩) ls.length ls.length ∧ p (ls.map ChL.l) ∧ ListsAt w d D ls := rfl
/-- Cover of lists that lie, where what it tells is known. -/
theorem cover_val (w : World) (v : TabV) (t : Tab) (sub : Int) (D : Nat) (ls : List ChL) (n : Nat) (r : Int) (hT : TabIn w v t) (hL : ListsAt w n D ls) (hl : ls.length ≤ 1000) (hl2 : ∀ L, L ∈ ls → L.l.length ≤ 1000) (hr : ∀ q, CovIs t n sub ls q → q = r) :
    Calls Tryz.prog 16 #[.agg (v.cells t), .int .i64 sub, .slice (some ⟨D, 0, none⟩) ls.length ls.length] w (RetV (.int .i64 r) w) := by
  refine (Cover_any w v t sub _ _ ls n hT (rows_block hL.1 (fun _ => rfl)) (fun y hy => ⟨(hL.2 y hy).1, (hL.2 y hy).2, hl2 y hy⟩) hl).mono ?_
  rintro e w' ⟨q, rfl, hq, hk⟩
  rw [hr q hq]
  exact ⟨rfl, hk⟩
theorem perm_one {α : Type} {a : α} {s : List α} (h : s.Perm [a]) : s = [a] := List.perm_singleton.1 h
theorem perm_two {α : Type} {a b : α} {s : List α} (h : s.Perm [a, b]) : s = [a, b] ∨ s = [b, a] := by
  match s, h with
  | [], h => exact absurd h.length_eq (by simp)
  | [_], h => exact absurd h.length_eq (by simp)
  | _ :: _ :: _ :: _, h => exact absurd h.length_eq (by simp)
  | [x, y], h =>
    have hx : x ∈ [a, b] := h.mem_iff.1 (by simp)
    simp only [List.mem_cons, List.not_mem_nil, or_false] at hx
    rcases hx with rfl | rfl
    · left
      rw [perm_one (List.Perm.cons_inv h)]
    · right
      have h2 := h.trans (List.Perm.swap x a [])
      rw [perm_one (List.Perm.cons_inv h2)]
theorem cov_ok {t : Tab} {n : Nat} {sub : Int} {ls : List ChL} {q : Int} (h : CovIs t n sub ls q) (hE : ∀ L, L ∈ ls → chE t n sub L.l = 0) :
    ∃ s : List Bd, s.Perm (allTo t n sub ls ls.length) ∧ s.Pairwise (fun a b => a.1 ≤ b.1) ∧ q = coverQ (rangeP t sub) (wrongTo t n sub ls ls.length) (restTo t n sub ls ls.length) s := by
  rcases h with ⟨j, x, hx, _, hne, _⟩ | ⟨_, h⟩
  · exact absurd (hE x (List.mem_of_getElem? hx)) hne
  · exact h
theorem map_one {ls : List ChL} {l1 : List ChV} (h : ls.map ChL.l = [l1]) : ∃ A c, ls = [⟨A, c, l1⟩] := by
  match ls, h with
  | [⟨A, c, l⟩], h =>
    simp only [List.map_cons, List.map_nil, List.cons.injEq, and_true] at h
    subst h
    exact ⟨A, c, rfl⟩
theorem map_two {ls : List ChL} {l1 l2 : List ChV} (h : ls.map ChL.l = [l1, l2]) : ∃ A c B d, ls = [⟨A, c, l1⟩, ⟨B, d, l2⟩] := by
  match ls, h with
  | [⟨A, c, l⟩, ⟨B, d, k⟩], h =>
    simp only [List.map_cons, List.map_nil, List.cons.injEq, and_true] at h
    obtain ⟨rfl, rfl⟩ := h
    exact ⟨A, c, B, d, rfl⟩
theorem exat_of {w : World} {C : Nat} {x : ExV} {ty : TypeId} (h : w.heap[C]? = some (.cells ([x].map ExV.cells).flatten.toArray ty (0, 0))) : ExAt w C 0 x := ⟨by
  have := range_of_block h (m := 9) (fun r hr => by obtain ⟨x, _, rfl⟩ := List.mem_map.1 hr; rfl) (k := 0) (r := x.cells) rfl
  simpa using this⟩
theorem chs_one {w : World} {d : Nat} {a : Option Addr} {c : Nat} {y : ChV} (h : RowsAt ChV 2 ChV.cells w a [y]) (hy : ChIn w d y) : ChsAt w d ⟨a, c, [y]⟩ := ⟨h, all_one hy⟩
end Go.Proofs.YtgdjhhfbpalkdaaGreat
