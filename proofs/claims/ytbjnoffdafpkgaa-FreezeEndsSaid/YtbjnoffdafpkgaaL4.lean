/- The sample in memory. -/
import Derived.Test.YtbjnoffdafpkgaaL3
namespace Go.Proofs.Ytbjnoffdafpkgaa
open Go.RowKit

theorem flat_get {m : Nat} : ∀ (L : List (List Value)), (∀ r, r ∈ L → r.length = m) → ∀ (k : Nat) (r : List Value), L[k]? = some r → ∀ (j : Nat) (u : Value), r[j]? = some u → L.flatten[k * m + j]? = some u := by
  intro L
  induction L with
  | nil => intro _ k r h; simp at h
  | cons a L ih =>
    intro hm k r hk j u hu
    have ha := hm a (by simp)
    rw [List.flatten_cons]
    cases k with
    | zero =>
      simp at hk
      subst hk
      have hj := (List.getElem?_eq_some_iff.1 hu).1
      rw [Nat.zero_mul, Nat.zero_add, List.getElem?_append_left hj]
      exact hu
    | succ k =>
      simp at hk
      rw [List.getElem?_append_right (by rw [ha, Nat.succ_mul]; omega), ha]
      have e : (k + 1) * m + j - m = k * m + j := by rw [Nat.succ_mul]; omega
      rw [e]
      exact ih (fun r hr => hm r (by simp [hr])) k r hk j u hu

theorem range_of_block {w : World} {b m : Nat} {ty : TypeId} {L : List (List Value)} (h : w.heap[b]? = some (.cells L.flatten.toArray ty (0, 0))) (hm : ∀ r, r ∈ L → r.length = m) {k : Nat} {r : List Value} (hk : L[k]? = some r) : w.rangeAt b (0 + k * m) r := by
  intro j u hu
  rw [cell_of_row _ _ _ _ _ _ h]
  have := flat_get L hm k r hk j u hu
  rw [Nat.zero_add]
  simpa using this

def SamplePost (w : World) (e : Ending) (w' : World) : Prop :=
  e = .returned (.agg ((sampleV w.heap.size).cells (sampleT w.heap.size))) ∧ TabIn w' (sampleV w.heap.size) (sampleT w.heap.size) ∧ Kept [] w w'

theorem sample_mem {w : World} {c0 : Array Value} :
    SamplePost w (.returned (.agg #[.slice (some ⟨w.heap.size + 2, 0, none⟩) 6 6, .slice (some ⟨w.heap.size + 3, 0, none⟩) 6 6, .slice none 0 0, .slice none 0 0, .slice none 0 0]))
      ((((w.alloc (.cells c0 28)).alloc (.cells ([compX].map CRow.cells).flatten.toArray 75)).alloc (.cells ((sampleT w.heap.size).types.map TyRow.cells).flatten.toArray 51)).alloc (.cells ((sampleT w.heap.size).subs.map (fun x => [.int .i64 x, .int .i64 0, .int .i64 0])).flatten.toArray 72)) := by
  generalize hW : ((((w.alloc (.cells c0 28)).alloc (.cells ([compX].map CRow.cells).flatten.toArray 75)).alloc (.cells ((sampleT w.heap.size).types.map TyRow.cells).flatten.toArray 51)).alloc (.cells ((sampleT w.heap.size).subs.map (fun x => [.int .i64 x, .int .i64 0, .int .i64 0])).flatten.toArray 72)) = W
  have q1 : W.heap[w.heap.size + 1]? = some (.cells ([compX].map CRow.cells).flatten.toArray 75 (0, 0)) := by
    rw [← hW]
    exact obj_old (obj_old (obj_new (by simp)) (by simp)) (by simp)
  have q2 : W.heap[w.heap.size + 2]? = some (.cells ((sampleT w.heap.size).types.map TyRow.cells).flatten.toArray 51 (0, 0)) := by
    rw [← hW]
    exact obj_old (obj_new (by simp)) (by simp)
  have q3 : W.heap[w.heap.size + 3]? = some (.cells ((sampleT w.heap.size).subs.map (fun x => [.int .i64 x, .int .i64 0, .int .i64 0])).flatten.toArray 72 (0, 0)) := by
    rw [← hW]
    exact obj_new (by simp)
  have hk : Kept [] w W := by
    rw [← hW]
    exact (((Kept.alloc _ _ _).trans (Kept.alloc _ _ _)).trans (Kept.alloc _ _ _)).trans (Kept.alloc _ _ _)
  clear hW
  refine ⟨rfl, ⟨fun k x hx => ?_, fun s hs => ?_, ?_, ?_⟩, hk⟩
  · refine ⟨w.heap.size + 2, 0, rfl, range_of_block q2 (fun r hr => ?_) (by rw [List.getElem?_map, hx]; rfl), ?_⟩
    · obtain ⟨x, _, rfl⟩ := List.mem_map.1 hr
      rfl
    · have hxm := List.mem_of_getElem? hx
      simp only [sampleT, List.mem_cons, List.not_mem_nil, or_false] at hxm
      rcases hxm with rfl | rfl | rfl | rfl | rfl | rfl
      · intro k x hx; simp [rowZ] at hx
      · intro k x hx; simp [rowZ] at hx
      · intro k x hx; simp [rowZ] at hx
      · intro k x hx; simp [rowZ] at hx
      · intro k x hx
        refine ⟨w.heap.size + 1, 0, rfl, range_of_block q1 (fun r hr => ?_) (by rw [List.getElem?_map]; rw [show ([compX] : List CRow)[k]? = some x from hx]; rfl)⟩
        obtain ⟨x, _, rfl⟩ := List.mem_map.1 hr
        rfl
      · intro k x hx; simp [rowZ] at hx
  · refine ⟨w.heap.size + 3, 0, rfl, ?_⟩
    have hg : (sampleT w.heap.size).subs[s]? = some ((sampleT w.heap.size).subs.getD s 0) := by
      rw [List.getD, List.getElem?_eq_getElem hs]; rfl
    have := range_of_block (m := 3) q3 (fun r hr => by obtain ⟨x, _, rfl⟩ := List.mem_map.1 hr; rfl) (k := s) (by rw [List.getElem?_map, hg]; rfl) 0 _ rfl
    simpa using this
  · show 6 ≤ _; decide
  · show 6 ≤ _; decide

set_option maxRecDepth 100000 in
set_option maxHeartbeats 1000000 in
theorem sample_any (w : World) : Calls Try.prog 17 #[] w (SamplePost w) := by
  go_enter Try.func17, Try.ntmps17
  go_wp2_with fail
  refine bodyPost_ret (v := .agg #[.slice (some ⟨w.heap.size + 2, 0, none⟩) 6 6, .slice (some ⟨w.heap.size + 3, 0, none⟩) 6 6, .slice none 0 0, .slice none 0 0, .slice none 0 0]) (by simp [results, Try.results17, go_sem]) rfl ?_
  exact sample_mem
#print axioms sample_any
end Go.Proofs.Ytbjnoffdafpkgaa
