/- head. -/
import Derived.Test.YtoaklikkepkhfaaL2
namespace Go.Proofs.Ytoaklikkepkhfaa
open Go.RowKit

theorem senv_4 {W : World} {b : Nat} (h : W.heap[b]? = some (.cells #[.int .i64 4, .slice none 0 0] 42 (0, 0))) : SEnv W (some ⟨b, 0, none⟩) 1 sub4 :=
  ⟨rows_block (l := sub4) h (fun _ => rfl), fun x hx => by simp [sub4] at hx; subst hx; exact .inl rfl, fun x hx => by simp [sub4] at hx; subst hx; exact ok_nil 4 (by decide), Nat.le_refl _, by decide, fun h => by cases h⟩
theorem senv_2 {W : World} {b c : Nat} (h : W.heap[b]? = some (.cells #[.int .i64 1, .slice (some ⟨c, 0, none⟩) 1 1, .int .i64 3, .slice none 0 0] 42 (0, 0))) (hc : W.heap[c]? = some (.cells #[.int .i64 1] 3 (0, 0))) : SEnv W (some ⟨b, 0, none⟩) 2 (sub2 (some ⟨c, 0, none⟩)) := by
  have i1 : IntsIn W (some ⟨c, 0, none⟩) [1] := intsIn_block hc
  refine ⟨rows_block (l := sub2 (some ⟨c, 0, none⟩)) h (fun _ => rfl), fun x hx => ?_, fun x hx => ?_, Nat.le_refl _, by decide, fun h => by cases h⟩
  · simp [sub2] at hx
    rcases hx with rfl | rfl
    · exact i1
    · exact .inl rfl
  · simp [sub2] at hx
    rcases hx with rfl | rfl
    · constructor <;> first | (simp; done) | decide | (show (Lit.int .i64 1).wf = true; decide)
    · exact ok_nil 3 (by decide)
theorem ints_of_block {W : World} {b : Nat} {l : List Int} (h : W.heap[b]? = some (.cells (l.map (Value.int .i64)).toArray 3 (0, 0))) (hl : l.length ≤ 9223372036854775807) : IntsAt W (.slice (some ⟨b, 0, none⟩) l.length l.length) l := (IntsC.of_block h hl).ints
theorem IntsC.atk {w w' : World} {v : Value} {xs : List Int} (h : IntsC w v xs) (hk : Kept [] w w') : IntsAt w' v xs := (h.kept hk).ints

set_option maxRecDepth 100000 in
set_option maxHeartbeats 2000000 in
theorem head_any (w : World) : Calls Try.prog 8 #[] w (RetB true w) := by
  go_enter Try.func8, Try.ntmps8
  go_wp2_with fail
  refine (sample_any w).mono ?_
  rintro e w1 ⟨rfl, hu, hs, hk1⟩
  have HU := Lib.hid hu
  have HS := Lib.hid hs
  have HK1 := Lib.hid hk1
  clear hu hs hk1
  generalize hN : w.heap.size = N at *
  clear hN
  go_wp2_with fail
  refine (needsTop_any w1 (some ⟨N + 4, 0, none⟩) 4 (sampleU N) (some ⟨N + 5, 0, none⟩) 1 sub1 2 (HU.out.env HS.out) (room_sample N _ (by decide))).mono ?_
  rintro e w2 ⟨v3, xs, er, rfl, hres, hi3, hk2⟩
  obtain ⟨rfl, rfl⟩ := head_a N hres
  have HI3 := Lib.hid hi3
  have HK2 := Lib.hid hk2
  have HKK2 := Lib.hid (HK1.out.trans hk2)
  clear hres hi3 hk2
  go_wp2_with fail
  refine (order_any w2 (some ⟨N + 4, 0, none⟩) 4 (sampleU N) (some ⟨N + 5, 0, none⟩) 1 sub1 ((HU.out.env HS.out).kept HK2.out) (room_sample N _ (by decide))).mono ?_
  rintro e w3 ⟨v5, xs, er, rfl, hres, hi5, hk3⟩
  obtain ⟨rfl, rfl⟩ := head_b N hres
  have HI5 := Lib.hid hi5
  have HK3 := Lib.hid hk3
  clear hres hi5 hk3
  go_wp2_with fail
  refine (needsTop_any w3 (some ⟨N + 4, 0, none⟩) 4 (sampleU N) (some ⟨N + 5, 0, none⟩) 1 sub1 4 ((HU.out.env HS.out).kept (HK2.out.trans HK3.out)) (room_sample N _ (by decide))).mono ?_
  rintro e w4 ⟨v7, xs, er, rfl, hres, hi7, hk4⟩
  obtain rfl := head_c N hres
  have HK4 := Lib.hid hk4
  have HU4 := Lib.hid (HU.out.kept ((HK2.out.trans HK3.out).trans hk4))
  clear hres hi7 hk4
  go_wp2_with fail
  refine (order_any _ (some ⟨N + 4, 0, none⟩) 4 (sampleU N) (some ⟨w4.heap.size, 0, none⟩) 1 sub4 ((HU4.out.kept (Kept.alloc _ _ _)).env (senv_4 (heap_alloc_new _ _))) (room_sample N _ (by decide))).mono ?_
  rintro e w5 ⟨v9, xs, er, rfl, hres, hi9, hk5⟩
  obtain rfl := head_d N hres
  have HK5 : Hid (Kept [] w4 w5) := (Kept.alloc _ _ _).trans hk5
  have HU5 := Lib.hid (HU4.out.kept HK5.out)
  clear hres hi9 hk5
  go_wp2_with fail
  refine (order_any _ (some ⟨N + 4, 0, none⟩) 4 (sampleU N) (some ⟨w5.heap.size + 1, 0, none⟩) 2 (sub2 (some ⟨w5.heap.size, 0, none⟩)) ((HU5.out.kept ((Kept.alloc _ _ _).trans (Kept.alloc _ _ _))).env (senv_2 (obj_new (by simp)) (obj_old (obj_new rfl) (by simp)))) (room_sample N _ (by simp [allCalls, sub2]))).mono ?_
  rintro e w6 ⟨v11, xs, er, rfl, hres, hi11, hk6⟩
  obtain rfl := head_e N _ hres
  have HK6 : Hid (Kept [] w5 w6) := ((Kept.alloc _ _ _).trans (Kept.alloc _ _ _)).trans hk6
  clear hres hi11 hk6
  go_wp2_with fail
  refine (sameInts_any _ v3 _ [0, 1] [0, 1] (HI3.out.atk ((((HK3.out.trans HK4.out).trans HK5.out).trans HK6.out).trans (Kept.alloc _ _ _))) (ints_of_block (l := [0, 1]) (obj_new rfl) (by decide))).mono ?_
  rintro e w7 ⟨rfl, hk7⟩
  have HK7 : Hid (Kept [] w6 w7) := (Kept.alloc _ _ _).trans hk7
  clear hk7
  rw [show sameI [0, 1] [0, 1] = true from rfl]
  go_wp2_with fail
  refine (sameInts_any _ v5 _ [0, 1, 2, 3] [0, 1, 2, 3] (HI5.out.atk ((((HK4.out.trans HK5.out).trans HK6.out).trans HK7.out).trans (Kept.alloc _ _ _))) (ints_of_block (l := [0, 1, 2, 3]) (obj_new rfl) (by decide))).mono ?_
  rintro e w8 ⟨rfl, hk8⟩
  have HK8 : Hid (Kept [] w7 w8) := (Kept.alloc _ _ _).trans hk8
  clear hk8
  rw [show sameI [0, 1, 2, 3] [0, 1, 2, 3] = true from rfl]
  go_wp2_with fail
  go_ret
  exact ⟨rfl, (((((HKK2.out.trans HK3.out).trans HK4.out).trans HK5.out).trans HK6.out).trans HK7.out).trans HK8.out⟩

/-- Small lists. -/
structure SmallE (l : List UnitV) (subs : List SubV) : Prop where
  l40 : l.length ≤ 40
  s80 : subs.length ≤ 80
  room : Room l subs
  n2 : ∀ x, x ∈ l → x.needs.length ≤ 2000
  c2 : ∀ x, x ∈ l → x.calls.length ≤ 2000
  s2 : ∀ x, x ∈ subs → x.calls.length ≤ 2000
  ac : allCalls subs ≤ 3000
/-- What great counts. -/
def cntU (x : UnitV) : Nat := x.needs.length + x.calls.length + x.name.size / 10
def sumU (l : List UnitV) (k : Nat) : Nat := ((l.take k).map cntU).sum
def sumS (subs : List SubV) (k : Nat) : Nat := ((subs.take k).map fun x => x.calls.length).sum
def RetGreat (l : List UnitV) (subs : List SubV) (w : World) (e : Ending) (w' : World) : Prop := ∃ b, e = .returned (.bool b) ∧ (b = false → SmallE l subs) ∧ Kept [] w w'
theorem sumU_succ {l : List UnitV} {k : Nat} {x : UnitV} (hx : l[k]? = some x) : sumU l (k + 1) = sumU l k + cntU x := by
  obtain ⟨h, rfl⟩ := List.getElem?_eq_some_iff.1 hx
  unfold sumU
  rw [List.take_succ_eq_append_getElem h, List.map_append, List.sum_append]
  simp
theorem sumS_succ {l : List SubV} {k : Nat} {x : SubV} (hx : l[k]? = some x) : sumS l (k + 1) = sumS l k + x.calls.length := by
  obtain ⟨h, rfl⟩ := List.getElem?_eq_some_iff.1 hx
  unfold sumS
  rw [List.take_succ_eq_append_getElem h, List.map_append, List.sum_append]
  simp
theorem le_sum {α : Type} (f : α → Nat) : ∀ (l : List α) (x : α), x ∈ l → f x ≤ (l.map f).sum := by
  intro l
  induction l with
  | nil => intro x h; simp at h
  | cons a l ih =>
    intro x h
    rw [List.map_cons, List.sum_cons]
    rcases List.mem_cons.1 h with rfl | h
    · omega
    · have := ih x h; omega
theorem allCalls_le (subs : List SubV) : allCalls subs = (subs.map fun x => x.calls.length).sum + subs.length := by
  unfold allCalls
  induction subs with
  | nil => rfl
  | cons a l ih => simp only [List.map_cons, List.sum_cons, List.length_cons]; omega
theorem small_of {l : List UnitV} {subs : List SubV} (h1 : l.length ≤ 40) (h2 : subs.length ≤ 80) (h3 : sumU l l.length + sumS subs subs.length ≤ 2000) : SmallE l subs := by
  unfold sumU sumS at h3
  rw [List.take_length, List.take_length] at h3
  have hu : ∀ x, x ∈ l → cntU x ≤ 2000 := fun x hx => by have := le_sum cntU l x hx; omega
  have hs : ∀ x, x ∈ subs → x.calls.length ≤ 2000 := fun x hx => by have := le_sum (fun x : SubV => x.calls.length) subs x hx; omega
  have ha := allCalls_le subs
  refine ⟨h1, h2, ⟨fun x hx => ?_, fun x hx => ?_, by omega⟩, fun x hx => ?_, fun x hx => ?_, hs, by omega⟩
  all_goals (have := hu x hx; unfold cntU at this; omega)
end Go.Proofs.Ytoaklikkepkhfaa
