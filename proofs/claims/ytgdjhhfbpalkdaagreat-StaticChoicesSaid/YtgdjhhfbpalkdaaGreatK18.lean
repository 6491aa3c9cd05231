/- The comparison of bounds. What a sort of bounds leaves. Regions that draw their order, in which each operation's result is known by what holds of it, then and later: one proof an operation. -/
import Derived.Test.YtgdjhhfbpalkdaaGreatV18
import Derived.Test.YtgdjhhfbpalkdaaGreatK15
namespace Go.Proofs.YtgdjhhfbpalkdaaGreat
open Go.RowKit Go.Sort
set_option maxRecDepth 100000 in
set_option maxHeartbeats 1000000 in
theorem nanX (w : World) (a : Int) : Calls Tryz.prog 66 #[.int .i64 a] w (fun e w' => e = .returned (.bool false) ∧ w' = w) := by
  go_enter Tryz.func66, Tryz.ntmps66
  go_wp2_with fail
  exact bodyPost_ret (res1 Tryz.results66 (resT rfl)) rfl ⟨rfl, rfl⟩
set_option maxRecDepth 100000 in
set_option maxHeartbeats 1000000 in
theorem cmpX (w : World) (a b : Int) : Calls Tryz.prog 42 #[.int .i64 a, .int .i64 b] w (fun e w' => e = .returned (.int .i64 (cmpP a b)) ∧ w' = w) := by
  have HZ : Hid (cmpP a b = if a < b then -1 else if b < a then 1 else 0) := rfl
  generalize cmpP a b = z at *
  by_cases c1 : a < b
  · have HW : Hid (z = -1) := by rw [Hid, HZ.out, if_pos c1]
    clear HZ
    go_enter Tryz.func42, Tryz.ntmps42
    go_wp2_with fail
    refine (nanX _ _).mono ?_
    rintro e w' ⟨rfl, hw⟩
    subst hw
    go_wp2_with fail
    refine (nanX _ _).mono ?_
    rintro e w' ⟨rfl, hw⟩
    subst hw
    go_wp2_with fail
    rw [HW.out]
    exact bodyPost_ret (res1 Tryz.results42 (resT rfl)) rfl ⟨rfl, rfl⟩
  by_cases c2 : b < a
  · have HW : Hid (z = 1) := by rw [Hid, HZ.out, if_neg c1, if_pos c2]
    have c3 : decide (a < b) = false := by simp; omega
    clear HZ c1
    go_enter Tryz.func42, Tryz.ntmps42
    go_wp2_with fail
    refine (nanX _ _).mono ?_
    rintro e w' ⟨rfl, hw⟩
    subst hw
    go_wp2_with fail
    refine (nanX _ _).mono ?_
    rintro e w' ⟨rfl, hw⟩
    subst hw
    go_wp2_with fail
    rw [HW.out]
    exact bodyPost_ret (res1 Tryz.results42 (resT rfl)) rfl ⟨rfl, rfl⟩
  · have HW : Hid (z = 0) := by rw [Hid, HZ.out, if_neg c1, if_neg c2]
    have c3 : decide (a < b) = false := by simp; omega
    have c4 : decide (b < a) = false := by simp; omega
    clear HZ c1 c2
    go_enter Tryz.func42, Tryz.ntmps42
    go_wp2_with fail
    refine (nanX _ _).mono ?_
    rintro e w' ⟨rfl, hw⟩
    subst hw
    go_wp2_with fail
    refine (nanX _ _).mono ?_
    rintro e w' ⟨rfl, hw⟩
    subst hw
    go_wp2_with fail
    rw [HW.out]
    exact bodyPost_ret (res1 Tryz.results42 (resT rfl)) rfl ⟨rfl, rfl⟩
theorem grow_two (w : World) (a b : Obj) : (w.alloc a).alloc b = grow (w.drewN 0) #[a, b] := by
  show (w.alloc a).alloc b = grow w #[a, b]
  rw [alloc_eq_grow, alloc_eq_grow, grow_grow]
  rfl
set_option maxRecDepth 100000 in
set_option maxHeartbeats 1000000 in
theorem less_any (w : World) (a b : Bd) : Calls Tryz.prog 41 #[.agg #[.int .i64 a.1, .int .i64 a.2], .agg #[.int .i64 b.1, .int .i64 b.2]] w (fun e w' => e = .returned (.int .i64 (cmpP a.1 b.1)) ∧ ∃ q os', w' = grow (w.drewN q) os') := by
  go_enter Tryz.func41, Tryz.ntmps41
  go_wp2_with fail
  refine (cmpX _ _ _).mono ?_
  rintro e w' ⟨rfl, hw⟩
  subst hw
  go_wp2_with fail
  refine bodyPost_ret (res1 Tryz.results41 (resT rfl)) rfl ⟨rfl, 0, #[.cells #[.int .i64 a.1, .int .i64 a.2] 43, .cells #[.int .i64 b.1, .int .i64 b.2] 43], ?_⟩
  exact grow_two _ _ _
end Go.Proofs.YtgdjhhfbpalkdaaGreat
namespace Go.Proofs.YtgdjhhfbpalkdaaGreat
open Go.RowKit Go.Sort
/-- What the sort leaves. -/
def RetSort (A : Option Addr) (base : Nat) (l : List Bd) (w : World) (e : Ending) (w' : World) : Prop :=
  e = .returned (.tuple #[]) ∧ ∃ s : List Bd, s.Perm l ∧ s.Pairwise (fun a b => a.1 ≤ b.1) ∧ RowsAt Bd 2 bdC w' A s ∧ ∀ W, Kept [] W w → W.heap.size ≤ base → Kept [] W w'
def SortAll : Prop := ∀ (w : World) (A : Option Addr) (c n base : Nat) (l : List Bd), w.ownsRow base 43 2 (.slice A n c) n (bdsC l) → l.length = n → n ≤ 1000000 →
    Calls Tryz.prog 40 #[.slice A n c, .func (.func 41) #[] #[]] w (RetSort A base l w)
end Go.Proofs.YtgdjhhfbpalkdaaGreat
namespace Go.Proofs.YtgdjhhfbpalkdaaGreat
open Go.RowKit

/-- What holds of a value in a world, and in all later ones. -/
structure SP where
  p : Value → World → Prop
  st : ∀ v w w', p v w → Kept [] w w' → p v w'
/-- An expression that lies, and goes on lying whatever is done to some blocks. -/
def ExK (X : List Nat) (w : World) (d : Nat) (x : ExV) : Prop := ∀ w', Kept X w w' → ExIn w' d x
theorem ExK.kept {X : List Nat} {w w' : World} {d : Nat} {x : ExV} (h : ExK X w d x) (hk : Kept [] w w') : ExK X w' d x := fun _ h2 => h _ ((hk.mono (by simp)).trans h2)
theorem ExK.in {X : List Nat} {w : World} {d : Nat} {x : ExV} (h : ExK X w d x) : ExIn w d x := h _ (Kept.refl _ _)
theorem ExK.mono {X : List Nat} {w : World} {d e : Nat} {x : ExV} (h : ExK X w d x) (hd : d ≤ e) : ExK X w e x := fun _ hk => (h _ hk).mono hd
theorem ExK.nil {w : World} {d : Nat} {x : ExV} (h : ExIn w d x) : ExK [] w d x := fun _ hk => h.kept hk
def SP.ex (X : List Nat) (d : Nat) (p : ExV → Prop) : SP := ⟨fun v w => ∃ x : ExV, v = .agg x.cells.toArray ∧ p x ∧ ExK X w d x, fun _ _ _ ⟨x, h1, h2, h3⟩ hk => ⟨x, h1, h2, h3.kept hk⟩⟩
/-- A slice of expressions. -/
def SP.exs (X : List Nat) (d : Nat) (p : List ExV → Prop) : SP := ⟨fun v w => ∃ (C : Nat) (ls : List ExV), v = .slice (some ⟨C, 0, none⟩) ls.length ls.length ∧ p ls ∧ w.heap[C]? = some (.cells (ls.map ExV.cells).flatten.toArray 34 (0, 0)) ∧ C ∉ X ∧ ∀ y, y ∈ ls → ExK X w d y,
  fun _ _ _ ⟨C, ls, h1, h2, h3, hx, h4⟩ hk => ⟨C, ls, h1, h2, hk.obj h3 (by simp), hx, fun y hy => (h4 y hy).kept hk⟩⟩
/-- A slice of associations. -/
def SP.asl (X : List Nat) (d : Nat) (p : List AsV → Prop) : SP := ⟨fun v w => ∃ (C : Nat) (ls : List AsV), v = .slice (some ⟨C, 0, none⟩) ls.length ls.length ∧ p ls ∧ w.heap[C]? = some (.cells (ls.map AsV.cells).flatten.toArray 124 (0, 0)) ∧ C ∉ X ∧ ∀ y, y ∈ ls → ExK X w d y.2.2.2,
  fun _ _ _ ⟨C, ls, h1, h2, h3, hx, h4⟩ hk => ⟨C, ls, h1, h2, hk.obj h3 (by simp), hx, fun y hy => (h4 y hy).kept hk⟩⟩
def SP.eq (u : Value) : SP := ⟨fun v _ => v = u, fun _ _ _ h _ => h⟩
theorem SP.eq_p (u v : Value) (w : World) : (SP.eq u).p v w = (v = u) := rfl
theorem SP.ex_p (X : List Nat) (d : Nat) (p : ExV → Prop) (v : Value) (w : World) : (SP.ex X d p).p v w = ∃ x : ExV, v = .agg x.cells.toArray ∧ p x ∧ ExK X w d x := rfl
theorem SP.exs_p (X : List Nat) (d : Nat) (p : List ExV → Prop) (v : Value) (w : World) : (SP.exs X d p).p v w = ∃ (C : Nat) (ls : List ExV), v = .slice (some ⟨C, 0, none⟩) ls.length ls.length ∧ p ls ∧ w.heap[C]? = some (.cells (ls.map ExV.cells).flatten.toArray 34 (0, 0)) ∧ C ∉ X ∧ ∀ y, y ∈ ls → ExK X w d y := rfl
theorem SP.asl_p (X : List Nat) (d : Nat) (p : List AsV → Prop) (v : Value) (w : World) : (SP.asl X d p).p v w = ∃ (C : Nat) (ls : List AsV), v = .slice (some ⟨C, 0, none⟩) ls.length ls.length ∧ p ls ∧ w.heap[C]? = some (.cells (ls.map AsV.cells).flatten.toArray 124 (0, 0)) ∧ C ∉ X ∧ ∀ y, y ∈ ls → ExK X w d y.2.2.2 := rfl
/-- An operation: where its result lies, what it waits for, what holds of its result. -/
structure PSp where
  d : Nat
  deps : List Nat
  sp : SP
def look : List PSp → Nat → Value → World → Prop
  | [], _ => fun _ _ => True
  | s :: r, d => if s.d = d then s.sp.p else look r d
def given (S : List PSp) (vs : Nat → Value) (w : World) : List Nat → Prop
  | [] => True
  | d :: r => look S d (vs d) w ∧ given S vs w r
def allGiven (vs : Nat → Value) (w : World) : List PSp → Prop
  | [] => True
  | s :: r => s.sp.p (vs s.d) w ∧ allGiven vs w r
def fill (D : List Nat) (vs : Nat → Value) (a : Act) : Act := { a with tmps := a.tmps.mapIdx fun s v => if s ∈ D then vs s else v }
def updV (vs : Nat → Value) (d : Nat) (v : Value) : Nat → Value := fun s => if s = d then v else vs s
theorem fill_put {D : List Nat} {vs : Nat → Value} {a : Act} {d : Nat} {v : Value} (hd : d ∈ D) : (fill D vs a).put (some d) v = fill D (updV vs d v) a := by
  unfold fill Act.put
  simp only
  congr 1
  apply Array.ext
  · simp
  · intro s h1 h2
    by_cases c : d = s
    · subst c
      simp [hd, updV]
    · have c' : ¬ s = d := fun h => c h.symm
      rw [Array.getElem_setIfInBounds (by simpa using h1), if_neg c]
      simp [c', updV]
theorem fill_cons (d : Nat) (D : List Nat) (vs : Nat → Value) (a : Act) : fill (d :: D) vs a = fill D vs (a.put (some d) (vs d)) := by
  unfold fill Act.put
  simp only
  congr 1
  apply Array.ext
  · simp
  · intro s h1 h2
    simp only [Array.getElem_mapIdx]
    by_cases c : d = s
    · subst c
      simp
    · have c' : ¬ s = d := fun h => c h.symm
      rw [Array.getElem_setIfInBounds (by simpa using h1), if_neg c]
      simp [c']
theorem fill_nil (vs : Nat → Value) (a : Act) : fill [] vs a = a := by
  unfold fill
  cases a
  congr 1
  apply Array.ext
  · simp
  · intro s h1 h2
    simp
def puts (vs : Nat → Value) : List Nat → Act → Act
  | [], a => a
  | d :: D, a => puts vs D (a.put (some d) (vs d))
theorem fill_puts (vs : Nat → Value) : ∀ (D : List Nat) (a : Act), fill D vs a = puts vs D a
  | [], a => fill_nil vs a
  | d :: D, a => (fill_cons d D vs a).trans (fill_puts vs D _)
theorem fill_self (D : List Nat) (a : Act) : fill D (fun s => a.tmps.getD s undef) a = a := by
  unfold fill
  cases a with
  | mk tmps defers =>
    simp only
    congr 1
    apply Array.ext
    · simp
    · intro s h1 h2
      simp only [Array.getElem_mapIdx]
      split
      · simp []
      · rfl
theorem fill_slot {D : List Nat} {vs : Nat → Value} {a : Act} {d : Nat} (hd : d ∈ D) (hs : d < a.tmps.size) : (fill D vs a).tmps.getD d undef = vs d := by
  unfold fill
  simp [Array.getD, hs, hd]

section
variable {P : Program} {md : Region.Mode} {ops : Array Oper} {Q : Exit → Act → World → Prop} {w0 : World}
/-- What each operation owes. -/
def obls (P : Program) (ops : Array Oper) (Q : Exit → Act → World → Prop) (w0 : World) (S : List PSp) (A : (Nat → Value) → Act) : List PSp → List Oper → Prop
  | s :: ss, o :: os => (∀ vs w', Kept [] w0 w' → given S vs w' s.deps → wpList P ops (OnlyK (fun a w'' => Kept [] w' w'' ∧ a.defers = (A vs).defers ∧ s.sp.p (a.tmps.getD s.d undef) w'') Q) [o] (A vs) w') ∧ obls P ops Q w0 S A ss os
  | _, _ => True
theorem obls_at {S : List PSp} {A : (Nat → Value) → Act} : ∀ {ss : List PSp} {os : List Oper} {i : Nat} {s : PSp} {o : Oper}, obls P ops Q w0 S A ss os → ss[i]? = some s → os[i]? = some o →
    ∀ vs w', Kept [] w0 w' → given S vs w' s.deps → wpList P ops (OnlyK (fun a w'' => Kept [] w' w'' ∧ a.defers = (A vs).defers ∧ s.sp.p (a.tmps.getD s.d undef) w'') Q) [o] (A vs) w'
  | [], _, _, _, _, _, h1, _ => by simp at h1
  | _ :: _, [], _, _, _, _, _, h2 => by simp at h2
  | s :: ss, o :: os, 0, _, _, h, h1, h2 => by
    simp only [List.getElem?_cons_zero, Option.some.injEq] at h1 h2
    subst h1 h2
    exact h.1
  | s :: ss, o :: os, i + 1, _, _, h, h1, h2 => obls_at h.2 (by simpa using h1) (by simpa using h2)

theorem cons_ne {α : Type} (x : α) : ∀ l : List α, x :: l ≠ l
  | [], h => by cases h
  | _ :: l, h => by
    injection h with h1 h2
    exact cons_ne _ l h2
theorem wpOp_of_one {i : Nat} {o : Oper} {a : Act} {w : World} {K : Act → World → Prop} (h0 : ops[i]? = some o) (hd : ∀ a' w', K a' w' → a'.defers = a.defers) (h : wpList P ops (OnlyK K Q) [o] a w) :
    wpOp P ops Q i (fun a' w' => K a' w' ∧ ∃ v, a' = a.put o.dst v) a w := by
  unfold wpOp
  simp only [h0]
  simp only [wpList] at h
  split
  · rename_i hw
    rw [if_pos hw] at h
    rcases h with h | ⟨h, h5⟩
    · left
      unfold Oper.wp at *
      generalize (execOp a.eval o).run P w = r at *
      cases r with
      | ok n w' =>
        cases n <;> simp only [Oper.upon] at h ⊢
        case value u => exact ⟨h, u, rfl⟩
        case skip => exact ⟨h, _, rfl⟩
        case defer d =>
          have h1 := hd _ _ h
          have h2 : (({ a with defers := d :: a.defers } : Act).put o.dst undef).defers = d :: a.defers := by cases o.dst <;> rfl
          exact absurd (h2.symm.trans h1) (cons_ne _ _)
        case enter f args =>
          refine Calls.mono h fun e w'' he => ?_
          cases e with
          | returned u => exact ⟨he, u, rfl⟩
          | panicked c => exact he
          | outgrown => exact he
        case row row args => exact Rows.mono h fun u w'' he => ⟨he, u, rfl⟩
      | halt x w' =>
        cases x <;> simp only [Oper.upon] at h ⊢
        case panic u => exact h
    · exact .inr ⟨h, h5⟩
  · rename_i hw
    rw [if_neg hw] at h
    exact ⟨h, _, rfl⟩

def nodupB : List Nat → Bool
  | [] => true
  | d :: r => !r.contains d && nodupB r
def dstsP : List PSp → List Oper → Bool
  | s :: ss, o :: os => decide (o.dst = some s.d) && dstsP ss os
  | [], _ => true
  | _ :: _, [] => false
def depsP (md : Region.Mode) (S : List PSp) : List PSp → List Oper → Bool
  | s :: ss, o :: os => (s.deps.all fun d => o.after.toList.any fun e => Region.binds md e && (((S[e.on]?).map (·.d)) == some d)) && depsP md S ss os
  | [], _ => true
  | _ :: _, [] => false
def edgesP (md : Region.Mode) : Nat → List Oper → Bool
  | _, [] => true
  | i, o :: os => (o.after.toList.all fun e => !Region.binds md e || decide (e.on < i)) && edgesP md (i + 1) os
def canon (n m : Nat) : Array Bool := ((List.range m).map fun i => decide (i < n)).toArray
theorem dstsP_at : ∀ {ss : List PSp} {os : List Oper} {i : Nat} {s : PSp}, dstsP ss os = true → ss[i]? = some s → ∃ o, os[i]? = some o ∧ o.dst = some s.d
  | [], _, _, _, _, h => by simp at h
  | _ :: _, [], _, _, h, _ => by cases h
  | s :: ss, o :: os, 0, _, h, h1 => by
    simp only [List.getElem?_cons_zero, Option.some.injEq] at h1
    subst h1
    simp only [dstsP, Bool.and_eq_true, decide_eq_true_eq] at h
    exact ⟨o, rfl, h.1⟩
  | s :: ss, o :: os, i + 1, _, h, h1 => by
    simp only [dstsP, Bool.and_eq_true] at h
    simpa using dstsP_at (i := i) h.2 (by simpa using h1)
theorem depsP_at {S : List PSp} : ∀ {ss : List PSp} {os : List Oper} {i : Nat} {s : PSp} {o : Oper}, depsP md S ss os = true → ss[i]? = some s → os[i]? = some o →
    ∀ d ∈ s.deps, ∃ e ∈ o.after, Region.binds md e = true ∧ ∃ t, S[e.on]? = some t ∧ t.d = d
  | [], _, _, _, _, _, h, _ => by simp at h
  | _ :: _, [], _, _, _, h, _, _ => by cases h
  | s :: ss, o :: os, 0, _, _, h, h1, h2 => by
    simp only [List.getElem?_cons_zero, Option.some.injEq] at h1 h2
    subst h1 h2
    simp only [depsP, Bool.and_eq_true] at h
    intro d hd
    have := List.all_eq_true.1 h.1 d hd
    obtain ⟨e, he, hb⟩ := List.any_eq_true.1 this
    simp only [Bool.and_eq_true, beq_iff_eq, Option.map_eq_some_iff] at hb
    exact ⟨e, by simpa using he, hb.1, hb.2⟩
  | s :: ss, o :: os, i + 1, _, _, h, h1, h2 => by
    simp only [depsP, Bool.and_eq_true] at h
    exact depsP_at h.2 (by simpa using h1) (by simpa using h2)
theorem edgesP_at : ∀ {os : List Oper} {j i : Nat} {o : Oper}, edgesP md j os = true → os[i]? = some o → ∀ e ∈ o.after, Region.binds md e = true → e.on < j + i
  | [], _, _, _, _, h => by simp at h
  | o :: os, j, 0, _, h, h1 => by
    simp only [List.getElem?_cons_zero, Option.some.injEq] at h1
    subst h1
    simp only [edgesP, Bool.and_eq_true] at h
    intro e he hb
    have := List.all_eq_true.1 h.1 e (by simpa using he)
    simpa [hb] using this
  | o :: os, j, i + 1, _, h, h1 => by
    simp only [edgesP, Bool.and_eq_true] at h
    intro e he hb
    have := edgesP_at h.2 (by simpa using h1) e he hb
    omega
theorem nodup_at : ∀ {S : List PSp} {i j : Nat} {s t : PSp}, nodupB (S.map (·.d)) = true → S[i]? = some s → S[j]? = some t → s.d = t.d → i = j
  | [], _, _, _, _, _, h, _, _ => by simp at h
  | s :: S, 0, 0, _, _, _, _, _, _ => rfl
  | s :: S, 0, j + 1, _, t, h, h1, h2, e => by
    simp only [List.getElem?_cons_zero, Option.some.injEq, List.getElem?_cons_succ] at h1 h2
    subst h1
    simp only [List.map_cons, nodupB, Bool.and_eq_true, Bool.not_eq_true'] at h
    have : (S.map (·.d)).contains s.d = true := by
      rw [e]
      simp only [List.contains_iff_mem, List.mem_map]
      exact ⟨t, List.mem_of_getElem? h2, rfl⟩
    rw [h.1] at this
    cases this
  | s :: S, i + 1, 0, t, _, h, h1, h2, e => by
    simp only [List.getElem?_cons_zero, Option.some.injEq, List.getElem?_cons_succ] at h1 h2
    subst h2
    simp only [List.map_cons, nodupB, Bool.and_eq_true, Bool.not_eq_true'] at h
    have : (S.map (·.d)).contains s.d = true := by
      rw [← e]
      simp only [List.contains_iff_mem, List.mem_map]
      exact ⟨t, List.mem_of_getElem? h1, rfl⟩
    rw [h.1] at this
    cases this
  | s :: S, i + 1, j + 1, _, _, h, h1, h2, e => by
    simp only [List.map_cons, nodupB, Bool.and_eq_true] at h
    have := nodup_at h.2 (by simpa using h1) (by simpa using h2) e
    omega
theorem look_at : ∀ {S : List PSp} {i : Nat} {s : PSp}, nodupB (S.map (·.d)) = true → S[i]? = some s → look S s.d = s.sp.p
  | [], _, _, _, h => by simp at h
  | t :: S, 0, s, _, h => by
    simp only [List.getElem?_cons_zero, Option.some.injEq] at h
    subst h
    simp [look]
  | t :: S, i + 1, s, h, h1 => by
    have hne : t.d ≠ s.d := fun e => by
      have := nodup_at (S := t :: S) (i := 0) (j := i + 1) h rfl h1 e
      omega
    simp only [List.map_cons, nodupB, Bool.and_eq_true] at h
    simp only [look, if_neg hne]
    exact look_at h.2 (by simpa using h1)
theorem given_of {S : List PSp} {vs : Nat → Value} {w : World} : ∀ {ds : List Nat}, (∀ d ∈ ds, look S d (vs d) w) → given S vs w ds
  | [], _ => trivial
  | _ :: _, h => ⟨h _ (by simp), given_of fun d hd => h d (by simp [hd])⟩
theorem allGiven_of {vs : Nat → Value} {w : World} : ∀ {S : List PSp}, (∀ (i : Nat) s, S[i]? = some s → s.sp.p (vs s.d) w) → allGiven vs w S
  | [], _ => trivial
  | s :: S, h => ⟨h 0 s rfl, allGiven_of fun i t ht => h (i + 1) t (by simpa using ht)⟩

/-- How many of the first are still to be done. -/
def cntU (done : Array Bool) : Nat → Nat
  | 0 => 0
  | i + 1 => cntU done i + (if done.getD i true = true then 0 else 1)
theorem cntU_same {done : Array Bool} {j : Nat} : ∀ {m : Nat}, m ≤ j → cntU (done.setIfInBounds j true) m = cntU done m
  | 0, _ => rfl
  | m + 1, h => by
    have : (done.setIfInBounds j true).getD m true = done.getD m true := getD_set_ne true (by omega)
    simp only [cntU, this, cntU_same (done := done) (j := j) (m := m) (by omega)]
theorem cntU_set {done : Array Bool} {j : Nat} (hj : done.getD j true = false) : ∀ {m : Nat}, j < m → cntU (done.setIfInBounds j true) m + 1 = cntU done m
  | 0, h => by omega
  | m + 1, h => by
    by_cases e : j = m
    · subst e
      have hlt : j < done.size := by
        rcases Nat.lt_or_ge j done.size with h | h
        · exact h
        · simp [Array.getD, Nat.not_lt.2 h] at hj
      have h1 : (done.setIfInBounds j true).getD j true = true := by simp [Array.getD, hlt]
      simp only [cntU, h1, hj, cntU_same (Nat.le_refl j)]
      simp
    · have h1 : (done.setIfInBounds j true).getD m true = done.getD m true := getD_set_ne true e
      have h2 := cntU_set hj (m := m) (by omega)
      simp only [cntU, h1]
      omega
theorem cntU_zero {done : Array Bool} : ∀ {m : Nat}, cntU done m = 0 → ∀ i, i < m → done.getD i true = true
  | 0, _, _, h => by omega
  | m + 1, h, i, hi => by
    simp only [cntU] at h
    by_cases e : i = m
    · subst e
      cases hd : done.getD i true with
      | true => rfl
      | false => simp [hd] at h
    · exact cntU_zero (m := m) (by omega) i (by omega)
theorem cntU_some {done : Array Bool} : ∀ {m : Nat}, cntU done m ≠ 0 → ∃ i, i < m ∧ done.getD i true = false ∧ ∀ k, k < i → done.getD k true = true
  | 0, h => absurd rfl h
  | m + 1, h => by
    by_cases e : cntU done m = 0
    · refine ⟨m, by omega, ?_, fun k hk => cntU_zero e k hk⟩
      simp only [cntU, e] at h
      cases hd : done.getD m true with
      | false => rfl
      | true => simp [hd] at h
    · obtain ⟨i, h1, h2, h3⟩ := cntU_some e
      exact ⟨i, by omega, h2, h3⟩
theorem pick_drop (l : List Oper) : ∀ (k n : Nat), n + k = l.length → pick l (List.range' n k) = l.drop n
  | 0, n, h => by simp [pick, List.drop_eq_nil_of_le (show l.length ≤ n by omega)]
  | k + 1, n, h => by
    have hn : n < l.length := by omega
    have := pick_drop l k (n + 1) (by omega)
    rw [List.range'_succ, List.drop_eq_getElem_cons hn, ← this]
    simp [pick, hn]

def checkP (l : List Oper) (S : List PSp) (size : Nat) : Bool :=
  decide (S.length ≤ l.length) && dstsP S l && (S.all fun s => decide (s.d < size)) && nodupB (S.map (·.d)) && depsP .any S S l &&
  ((List.range S.length).all fun i => heldBy .any l.toArray (List.range S.length) i) && edgesP .any 0 (l.take S.length) &&
  seqL .any l.toArray (List.range' S.length (l.length - S.length)) (canon S.length l.length)

theorem AnyR {l : List Oper} {S : List PSp} {a : Act} (hB : checkP l S a.tmps.size = true)
    (hO : obls P l.toArray Q w0 S (fun vs => fill (S.map (·.d)) vs a) S l)
    (hT : ∀ vs w', Kept [] w0 w' → allGiven vs w' S → wpList P l.toArray Q (l.drop S.length) (fill (S.map (·.d)) vs a) w') :
    ∀ (k : Nat) (done : Array Bool) (vs : Nat → Value) (w' : World), Closed .any l.toArray done → done.size = l.length → (∀ t, S.length ≤ t → done.getD t false = false) → Kept [] w0 w' →
      (∀ (i : Nat) s, S[i]? = some s → done.getD i false = true → s.sp.p (vs s.d) w') → cntU done S.length = k → wpAny P .any l.toArray Q (k + (l.length - S.length)) done (fill (S.map (·.d)) vs a) w' := by
  simp only [checkP, Bool.and_eq_true, decide_eq_true_eq, List.all_eq_true] at hB
  obtain ⟨⟨⟨⟨⟨⟨⟨b1, b2⟩, b3⟩, b4⟩, b5⟩, b6⟩, b7⟩, b8⟩ := hB
  intro k
  induction k with
  | zero =>
    intro done vs w' hc hs ht hk hp h0
    have hd : done = canon S.length l.length := by
      apply Array.ext
      · simp [canon, hs]
      · intro i h1 h2
        have e1 : done.getD i true = done[i] := by simp [Array.getD, h1]
        have e2 : done.getD i false = done[i] := by simp [Array.getD, h1]
        by_cases c : i < S.length
        · rw [← e1, cntU_zero h0 i c]
          simp [canon, c]
        · rw [← e2, ht i (by omega)]
          simp [canon, c]
    subst hd
    have h1 := hT vs w' hk (allGiven_of fun i s hi => hp i s hi (by
      have hil := (List.getElem?_eq_some_iff.1 hi).1
      have hil2 : i < l.length := by omega
      simp [canon, Array.getD, hil, hil2]))
    rw [← pick_drop l (l.length - S.length) S.length (by omega)] at h1
    have := wpAny_of_seqL (P := P) (md := .any) (ops := l.toArray) (Q := Q) (l := l) rfl (List.range' S.length (l.length - S.length)) (canon S.length l.length) _ w' (fun i hi => by
      have := List.mem_range'.1 hi
      omega) b8 h1
    rw [List.length_range'] at this
    rw [Nat.zero_add]
    exact this
  | succ k ih =>
    intro done vs w' hc hs ht hk hp h0
    obtain ⟨m, hm1, hm2, hm3⟩ := cntU_some (done := done) (m := S.length) (by omega)
    have hml : m < l.length := by omega
    have hmr : m ∈ Region.ready .any l.toArray done := by
      refine mem_ready.2 ⟨hm2, l[m], by simp [hml], fun e he hb => ?_⟩
      have := edgesP_at b7 (i := m) (o := l[m]) (by rw [List.getElem?_take_of_lt hm1]; simp [hml]) e he hb
      have h3 := hm3 e.on (by omega)
      have hlt : e.on < done.size := by omega
      simpa [Array.getD, hlt] using h3
    rw [show k + 1 + (l.length - S.length) = (k + (l.length - S.length)) + 1 by omega]
    refine ⟨fun h => by rw [h] at hmr; simp at hmr, fun i hi => ?_⟩
    have hin : i < S.length := by
      rcases Nat.lt_or_ge i S.length with h | h
      · exact h
      · exact absurd hi (heldBy_spec (b6 m (List.mem_range.2 hm1)) hc hm2 i (by simp [h]))
    obtain ⟨s, hsi⟩ : ∃ s, S[i]? = some s := ⟨_, List.getElem?_eq_getElem hin⟩
    obtain ⟨o, ho, hod⟩ := dstsP_at b2 hsi
    have ho2 : l.toArray[i]? = some o := by simpa using ho
    obtain ⟨hun, o', ho', hall⟩ := mem_ready.1 hi
    obtain rfl : o' = o := Option.some.inj (ho'.symm.trans ho2)
    have hgv : given S vs w' s.deps := given_of fun d hd => by
      obtain ⟨e, he, hb, t, ht1, ht2⟩ := depsP_at b5 hsi ho d hd
      have h1 := hp _ t ht1 (hall e he hb)
      rw [← ht2, look_at b4 ht1]
      exact h1
    have hone := obls_at hO hsi ho vs w' hk hgv
    have h2 := wpOp_of_one (P := P) (ops := l.toArray) (Q := Q) ho2 (fun a' w'' h => h.2.1) hone
    refine wpOp_mono ?_ h2
    rintro a' w'' ⟨⟨hk2, _, hps⟩, v, hv⟩
    have hdm : s.d ∈ S.map (·.d) := List.mem_map.2 ⟨s, List.mem_of_getElem? hsi, rfl⟩
    have hdl : s.d < a.tmps.size := by
      have := b3 s (List.mem_of_getElem? hsi)
      simpa using this
    rw [hod, fill_put hdm] at hv
    subst hv
    rw [fill_slot hdm hdl] at hps
    have hil : i < done.size := by omega
    refine ih (done.setIfInBounds i true) (updV vs s.d v) w'' (hc.set hi) (by simpa using hs) (fun t htn => ?_) (hk.trans hk2) (fun j t htj hdj => ?_) ?_
    · have := ht t htn
      have hne : i ≠ t := by omega
      rw [getD_set_ne false hne]
      exact this
    · by_cases e : j = i
      · subst e
        rw [hsi] at htj
        cases htj
        exact hps
      · have hne : t.d ≠ s.d := fun h => e (nodup_at b4 htj hsi h)
        have hdj2 : done.getD j false = true := by rwa [getD_set_ne false (fun h => e h.symm)] at hdj
        have h1 := hp j t htj hdj2
        have h3 : updV vs s.d v t.d = vs t.d := by simp [updV, hne]
        rw [h3]
        exact t.sp.st _ _ _ h1 hk2
    · have := cntU_set hun (m := S.length) hin
      omega

/-- Whatever order: one proof an operation, then the tail. -/
theorem wp_region_each {id : Nat} {a : Act} {w : World} {l : List Oper} (S : List PSp) (hm : P.follows .mixedOrders = true) (hB : checkP l S a.tmps.size = true)
    (h : ∃ A : (Nat → Value) → Act, (∀ vs, puts vs (S.map (·.d)) a = A vs) ∧ obls P l.toArray Q w S A S l ∧
      ∀ vs w', Kept [] w w' → allGiven vs w' S → wpList P l.toArray Q (l.drop S.length) (A vs) w') :
    (Code.region id l.toArray true).wp P Q a w := by
  obtain ⟨A, hA, h1, h2⟩ := h
  have hA2 : A = fun vs => fill (S.map (·.d)) vs a := by
    funext vs
    rw [fill_puts]
    exact (hA vs).symm
  subst hA2
  have hsz : l.toArray.size = l.length := by simp
  refine wp_region_any hm ?_
  have hle : S.length ≤ l.length := by
    simp only [checkP, Bool.and_eq_true, decide_eq_true_eq] at hB
    exact hB.1.1.1.1.1.1.1
  have hcnt : ∀ m, m ≤ l.length → cntU (Array.replicate l.length false) m = m := by
    intro m
    induction m with
    | zero => intro _; rfl
    | succ m ih =>
      intro hml
      have : (Array.replicate l.length false).getD m true = false := by simp [Array.getD, show m < l.length by omega]
      simp only [cntU, ih (by omega), this]
      simp
  have key := AnyR (P := P) (Q := Q) (w0 := w) (a := a) hB h1 h2 S.length (Array.replicate l.length false) (fun s => a.tmps.getD s undef) { w with drawn := w.drawn + 1 }
    (by simpa using Closed.none (md := .any) (ops := l.toArray)) (by simp) (fun t _ => by simp [Array.getD]) ⟨rfl, rfl, rfl, Nat.le_refl _, fun _ _ _ => rfl⟩ (fun i s _ hd => by simp [Array.getD] at hd) (hcnt _ hle)
  rw [fill_self] at key
  rw [show S.length + (l.length - S.length) = l.length by omega] at key
  rw [hsz]
  exact key
end
end Go.Proofs.YtgdjhhfbpalkdaaGreat
