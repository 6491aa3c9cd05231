/- The sample; head: plain. -/
import Derived.Test.YtoaklikkepkhfaaE9
namespace Go.Proofs.Ytoaklikkepkhfaa
open Go.RowKit

def sampleU (N : Nat) : List UnitV :=
  [⟨⟨#[80]⟩, false, none, 0, [], none, 0, []⟩, ⟨⟨#[80]⟩, true, some ⟨N, 0, none⟩, 1, [0], none, 0, []⟩,
   ⟨⟨#[81]⟩, false, some ⟨N + 1, 0, none⟩, 1, [0], some ⟨N + 2, 0, none⟩, 1, [0]⟩, ⟨⟨#[77, 97, 105, 110]⟩, true, some ⟨N + 3, 0, none⟩, 2, [0, 2], none, 0, []⟩]
def sub1 : List SubV := [⟨1, none, 0, []⟩]
def sub4 : List SubV := [⟨4, none, 0, []⟩]
def sub2 (a : Option Addr) : List SubV := [⟨1, a, 1, [1]⟩, ⟨3, none, 0, []⟩]

theorem reach_in {subs : List SubV} {start : List Int} (R : Int → Prop) (h0 : ∀ s, s ∈ start → R s) (h1 : ∀ s, R s → ∀ t, t ∈ callsOf subs s → R t) {s : Int} (h : Reach subs start s) : R s := by
  induction h with
  | base h => exact h0 _ h
  | step _ h ih => exact h1 _ ih _ h
theorem reach_nil {subs : List SubV} {s : Int} (h : Reach subs [] s) : False := reach_in (fun _ => False) (fun _ h => by simp at h) (fun _ h => h.elim) h

theorem mem1 {a n : Int} : n ∈ [a] ↔ n = a := by simp
theorem name0 (N : Nat) : nameOf (sampleU N) 0 = [80] := by simp [nameOf, sampleU, Lib.toList_data]
theorem name1 (N : Nat) : nameOf (sampleU N) 1 = [80] := by simp [nameOf, sampleU, Lib.toList_data]
theorem name2 (N : Nat) : nameOf (sampleU N) 2 = [81] := by simp [nameOf, sampleU, Lib.toList_data]
theorem name3 (N : Nat) : nameOf (sampleU N) 3 = [77, 97, 105, 110] := by simp [nameOf, sampleU, Lib.toList_data]

theorem names_sample (N : Nat) : NamesOk (sampleU N) [3, 0, 1, 2] := by
  refine ⟨?_, fun i => ?_⟩
  · have h30 : beforeB (sampleU N) 3 0 = true := by unfold beforeB; rw [name3, name0]; rfl
    have h31 : beforeB (sampleU N) 3 1 = true := by unfold beforeB; rw [name3, name1]; rfl
    have h32 : beforeB (sampleU N) 3 2 = true := by unfold beforeB; rw [name3, name2]; rfl
    have h01 : beforeB (sampleU N) 0 1 = true := by unfold beforeB; rw [name0, name1]; rfl
    have h02 : beforeB (sampleU N) 0 2 = true := by unfold beforeB; rw [name0, name2]; rfl
    have h12 : beforeB (sampleU N) 1 2 = true := by unfold beforeB; rw [name1, name2]; rfl
    simp [h30, h31, h32, h01, h02, h12]
  · show i ∈ [3, 0, 1, 2] ↔ i < 4
    simp
    omega

theorem need_plain {l : List UnitV} {subs : List SubV} {u : Nat} {x : UnitV} {out : List Int} (hx : l[u]? = some x) (hs : out.Pairwise (· < ·)) (R : Int → Prop) (hR : ∀ s, Reach subs x.calls s ↔ R s)
    (h : ∀ n, n ∈ out ↔ n ≠ (u : Int) ∧ (n ∈ x.needs ∨ ∃ s, R s ∧ unitOf subs s = n)) : NeedList l subs u out := by
  refine ⟨hs, fun n => ?_⟩
  rw [h n]
  unfold NeedP
  constructor
  · rintro ⟨h1, h2⟩
    refine ⟨h1, x, hx, ?_⟩
    rcases h2 with h2 | ⟨s, h2, h3⟩
    · exact .inl h2
    · exact .inr ⟨s, (hR s).2 h2, h3⟩
  · rintro ⟨h1, y, hy, h2⟩
    rw [hx] at hy
    injection hy with hy
    subst hy
    refine ⟨h1, ?_⟩
    rcases h2 with h2 | ⟨s, h2, h3⟩
    · exact .inl h2
    · exact .inr ⟨s, (hR s).1 h2, h3⟩
theorem reach_none (subs : List SubV) : ∀ s, Reach subs [] s ↔ False := fun s => ⟨reach_nil, False.elim⟩
theorem reach_1 : ∀ s, Reach sub1 [0] s ↔ s = 0 := fun s => ⟨fun h => reach_in (fun s => s = 0) (fun s hs => by simpa using hs) (fun s hs t ht => by subst hs; simp [callsOf, sub1] at ht) h, fun h => .base (by simp [h])⟩
theorem reach_2 (a : Option Addr) : ∀ s, Reach (sub2 a) [0] s ↔ (s = 0 ∨ s = 1) := fun s =>
  ⟨fun h => reach_in (fun s => s = 0 ∨ s = 1) (fun s hs => .inl (by simpa using hs)) (fun s hs t ht => by
    rcases hs with rfl | rfl
    · right; simpa [callsOf, sub2] using ht
    · simp [callsOf, sub2] at ht) h, fun h => by
    have h0 : Reach (sub2 a) [0] 0 := .base (by simp)
    rcases h with rfl | rfl
    · exact h0
    · exact .step h0 (by simp [callsOf, sub2])⟩

theorem may_1 (N : Nat) : mayR (sampleU N) sub1 = true := by simp [mayR, sampleU, sub1, unitOk, subOk, withinR, inR]
theorem may_4 (N : Nat) : mayR (sampleU N) sub4 = false := by simp [mayR, sampleU, sub4, unitOk, subOk, withinR, inR]
theorem may_2 (N : Nat) (a : Option Addr) : mayR (sampleU N) (sub2 a) = true := by simp [mayR, sampleU, sub2, unitOk, subOk, withinR, inR]

theorem nl0 (N : Nat) (subs : List SubV) : NeedList (sampleU N) subs 0 [] := need_plain (x := ⟨⟨#[80]⟩, false, none, 0, [], none, 0, []⟩) rfl (by simp) (fun _ => False) (reach_none subs) (fun n => by simp)
theorem nl1 (N : Nat) (subs : List SubV) : NeedList (sampleU N) subs 1 [0] := need_plain (x := ⟨⟨#[80]⟩, true, some ⟨N, 0, none⟩, 1, [0], none, 0, []⟩) rfl (by simp) (fun _ => False) (reach_none subs) (fun n => by simp; omega)
theorem nl3 (N : Nat) (subs : List SubV) : NeedList (sampleU N) subs 3 [0, 2] := need_plain (x := ⟨⟨#[77, 97, 105, 110]⟩, true, some ⟨N + 3, 0, none⟩, 2, [0, 2], none, 0, []⟩) rfl (by simp) (fun _ => False) (reach_none subs) (fun n => by simp; omega)
theorem nl2a (N : Nat) : NeedList (sampleU N) sub1 2 [0, 1] := need_plain (x := ⟨⟨#[81]⟩, false, some ⟨N + 1, 0, none⟩, 1, [0], some ⟨N + 2, 0, none⟩, 1, [0]⟩) rfl (by simp) (fun s => s = 0) reach_1 (fun n => by
  have hu : unitOf sub1 0 = 1 := rfl
  constructor
  · intro h
    simp at h
    rcases h with rfl | rfl
    · exact ⟨by decide, .inl (by simp)⟩
    · exact ⟨by decide, .inr ⟨0, rfl, hu⟩⟩
  · rintro ⟨_, h | ⟨s, rfl, h⟩⟩
    · simp at h; simp [h]
    · rw [hu] at h; simp [← h])
theorem nl2b (N : Nat) (a : Option Addr) : NeedList (sampleU N) (sub2 a) 2 [0, 1, 3] := need_plain (x := ⟨⟨#[81]⟩, false, some ⟨N + 1, 0, none⟩, 1, [0], some ⟨N + 2, 0, none⟩, 1, [0]⟩) rfl (by simp) (fun s => s = 0 ∨ s = 1) (reach_2 a) (fun n => by
  have hu : unitOf (sub2 a) 0 = 1 := rfl
  have hu1 : unitOf (sub2 a) 1 = 3 := rfl
  constructor
  · intro h
    simp at h
    rcases h with rfl | rfl | rfl
    · exact ⟨by decide, .inl (by simp)⟩
    · exact ⟨by decide, .inr ⟨0, .inl rfl, hu⟩⟩
    · exact ⟨by decide, .inr ⟨1, .inr rfl, hu1⟩⟩
  · rintro ⟨_, h | ⟨s, rfl | rfl, h⟩⟩
    · simp at h; simp [h]
    · rw [hu] at h; simp [← h]
    · rw [hu1] at h; simp [← h])

theorem needsOk_4 {l : List UnitV} {subs : List SubV} {a b c d : List Int} (hl : l.length = 4) (h0 : NeedList l subs 0 a) (h1 : NeedList l subs 1 b) (h2 : NeedList l subs 2 c) (h3 : NeedList l subs 3 d) : NeedsOk l subs [a, b, c, d] := by
  refine ⟨by rw [hl]; rfl, fun u x hx => ?_⟩
  match u, hx with
  | 0, hx => simp at hx; rw [← hx]; exact h0
  | 1, hx => simp at hx; rw [← hx]; exact h1
  | 2, hx => simp at hx; rw [← hx]; exact h2
  | 3, hx => simp at hx; rw [← hx]; exact h3
  | n + 4, hx => simp at hx

theorem head_a (N : Nat) {xs : List Int} {er : Int} (h : NeedsRes (sampleU N) sub1 2 xs er) : xs = [0, 1] ∧ er = 0 :=
  h.uniq (.inr (.inr ⟨may_1 N, by simp [inR, sampleU], nl2a N, rfl⟩))
theorem head_c (N : Nat) {xs : List Int} {er : Int} (h : NeedsRes (sampleU N) sub1 4 xs er) : er = 4 :=
  (h.uniq (ys := []) (fr := 4) (.inr (.inl ⟨may_1 N, by simp [inR, sampleU], rfl, rfl⟩))).2
theorem head_b (N : Nat) {xs : List Int} {er : Int} (h : OrderRes (sampleU N) sub1 xs er) : xs = [0, 1, 2, 3] ∧ er = 0 :=
  h.uniq (.inr ⟨may_1 N, [3, 0, 1, 2], [[], [0], [0, 1], [0, 2]], names_sample N, needsOk_4 rfl (nl0 N _) (nl1 N _) (nl2a N) (nl3 N _), rfl, rfl⟩)
theorem head_d (N : Nat) {xs : List Int} {er : Int} (h : OrderRes (sampleU N) sub4 xs er) : er = 2 := (h.uniq (ys := []) (fr := 2) (.inl ⟨may_4 N, rfl, rfl⟩)).2
theorem head_e (N : Nat) (a : Option Addr) {xs : List Int} {er : Int} (h : OrderRes (sampleU N) (sub2 a) xs er) : er = 150 :=
  (h.uniq (ys := []) (fr := 150) (.inr ⟨may_2 N a, [3, 0, 1, 2], [[], [0], [0, 1, 3], [0, 2]], names_sample N, needsOk_4 rfl (nl0 N _) (nl1 N _) (nl2b N a) (nl3 N _), rfl, rfl⟩)).2
theorem room_sample (N : Nat) (subs : List SubV) (h : allCalls subs ≤ 1000) : Room (sampleU N) subs := by
  refine ⟨fun x hx => ?_, fun x hx => ?_, by simp [sampleU]⟩
  · simp [sampleU] at hx; rcases hx with rfl | rfl | rfl | rfl <;> simp
  · simp [sampleU] at hx; rcases hx with rfl | rfl | rfl | rfl <;> simp <;> omega
end Go.Proofs.Ytoaklikkepkhfaa
