/- Expressions in boxes, as rows of nine cells; slice literals of expressions. The examples' expressions. -/
import Derived.Test.YtgdjhhfbpalkdaaGreatK18
namespace Go.Proofs.YtgdjhhfbpalkdaaGreat
open Go.RowKit
instance (a b c d e f g h i : Value) : CsLen #[a, b, c, d, e, f, g, h, i] 9 := ⟨rfl⟩
theorem Tryz.infoEx9 : (Tryz.prog.info? 34).map (·.size) = some 9 := by kernel_rfl
instance (priority := low) (w : World) (B : Nat) (cs : Array Value) [h : BoxIs w B 34 cs] [n : CsLen cs 9] : LoadsAs w 34 ⟨B, 0, none⟩ (.agg cs) := ⟨by
  have := run_loadVar_mid (P := Tryz.prog) w B 0 34 cs.toList _ (range_is (by simpa using h.has)) Tryz.underlying34 rfl (by rw [Tryz.infoEx9]; simp [n.len])
  simpa using this⟩
instance (w : World) (B : Nat) (a0 a1 a2 a3 a4 a5 a6 a7 a8 : Value) [h : BoxIs w B 34 #[a0, a1, a2, a3, a4, a5, a6, a7, a8]] : BoxOf 34 9 w B := ⟨⟨_, h.has, rfl⟩⟩
instance (w : World) (B : Nat) (x : ExV) [h : BoxIs w B 34 x.cells.toArray] : BoxOf 34 9 w B := ⟨⟨_, h.has, rfl⟩⟩
@[go_sem] theorem Tryz.storeExBox (x : ExV) (w : World) (B : Nat) [h : BoxOf 34 9 w B] : Sem.run Tryz.prog (storeCells ⟨B, 0, none⟩ x.cells) w = .ok () (w.setRow B x.cells.toArray) := by
  obtain ⟨c, hc, hs⟩ := h.has
  have := run_storeVar_row (P := Tryz.prog) w B 34 34 c x.cells.toArray hc (by simpa using Tryz.infoEx x) (by rw [hs]; rfl) x.one
  cases hq : Tryz.prog.info? 34 with
  | none => have h1 := Tryz.infoEx x; rw [hq] at h1; cases h1
  | some i =>
    have hsz : x.cells.toArray.size = i.size := by have := Tryz.infoEx x; simp [hq] at this; simp; omega
    simpa [storeVar, sizeOf, typeInfo, hq, Value.cells, hsz] using this
/-- A new expression. -/
def RetX (X : List Nat) (d : Nat) (p : ExV → Prop) (w : World) (e : Ending) (w' : World) : Prop := ∃ x, e = .returned (.agg x.cells.toArray) ∧ p x ∧ ExK X w' d x ∧ Kept [] w w'
theorem rows_ex {w : World} {B : Nat} {l : List ExV} {ty : TypeId} (h : w.heap[B]? = some (.cells (l.map ExV.cells).flatten.toArray ty (0, 0))) : RowsAt ExV 9 ExV.cells w (some ⟨B, 0, none⟩) l := rows_block h (fun _ => rfl)
def buildE1 (a : Value) : Sem Next := do return .value (← Instr.buildSlice 31 1 #[(0, a)])
@[go_sem ↓] theorem execOp_buildE1 (ρ : Operand → Value) (dst : Option Tmp) (a : Operand) (ty : TypeId) (pos : String) (after : Array Edge) (guard : Option (Nat × Bool)) :
    execOp ρ { dst, op := .buildSlice 31 1 #[(0, a)], type := ty, pos, after, guard } = buildE1 (ρ a) := by simp [execOp, buildE1]
@[go_sem] theorem run_buildE1 (w : World) (x : ExV) : Sem.run Tryz.prog (buildE1 (.agg x.cells.toArray)) w =
    .ok (.value (.slice (some ⟨w.heap.size, 0, none⟩) 1 1)) (w.alloc (.cells ([x].map ExV.cells).flatten.toArray 34)) := by kernel_rfl
def buildE2 (a b : Value) : Sem Next := do return .value (← Instr.buildSlice 31 2 #[(0, a), (1, b)])
@[go_sem ↓] theorem execOp_buildE2 (ρ : Operand → Value) (dst : Option Tmp) (a b : Operand) (ty : TypeId) (pos : String) (after : Array Edge) (guard : Option (Nat × Bool)) :
    execOp ρ { dst, op := .buildSlice 31 2 #[(0, a), (1, b)], type := ty, pos, after, guard } = buildE2 (ρ a) (ρ b) := by simp [execOp, buildE2]
@[go_sem] theorem run_buildE2 (w : World) (x y : ExV) : Sem.run Tryz.prog (buildE2 (.agg x.cells.toArray) (.agg y.cells.toArray)) w =
    .ok (.value (.slice (some ⟨w.heap.size, 0, none⟩) 2 2)) (w.alloc (.cells ([x, y].map ExV.cells).flatten.toArray 34)) := by kernel_rfl
def buildE3 (a b c : Value) : Sem Next := do return .value (← Instr.buildSlice 31 3 #[(0, a), (1, b), (2, c)])
@[go_sem ↓] theorem execOp_buildE3 (ρ : Operand → Value) (dst : Option Tmp) (a b c : Operand) (ty : TypeId) (pos : String) (after : Array Edge) (guard : Option (Nat × Bool)) :
    execOp ρ { dst, op := .buildSlice 31 3 #[(0, a), (1, b), (2, c)], type := ty, pos, after, guard } = buildE3 (ρ a) (ρ b) (ρ c) := by simp [execOp, buildE3]
@[go_sem] theorem run_buildE3 (w : World) (x y z : ExV) : Sem.run Tryz.prog (buildE3 (.agg x.cells.toArray) (.agg y.cells.toArray) (.agg z.cells.toArray)) w =
    .ok (.value (.slice (some ⟨w.heap.size, 0, none⟩) 3 3)) (w.alloc (.cells ([x, y, z].map ExV.cells).flatten.toArray 34)) := by kernel_rfl
def buildAs (a : Value) : Sem Next := do return .value (← Instr.build 124 #[(1, a)])
@[go_sem ↓] theorem execOp_buildAs (ρ : Operand → Value) (dst : Option Tmp) (a : Operand) (ty : TypeId) (pos : String) (after : Array Edge) (guard : Option (Nat × Bool)) :
    execOp ρ { dst, op := .build 124 #[(1, a)], type := ty, pos, after, guard } = buildAs (ρ a) := by simp [execOp, buildAs]
def asX (x : ExV) : AsV := (none, 0, 0, x)
@[go_sem] theorem run_buildAs (w : World) (x : ExV) : Sem.run Tryz.prog (buildAs (.agg x.cells.toArray)) w = .ok (.value (.agg (AsV.cells (asX x)).toArray)) w := by kernel_rfl
def buildA1 (a : Value) : Sem Next := do return .value (← Instr.buildSlice 32 1 #[(0, a)])
@[go_sem ↓] theorem execOp_buildA1 (ρ : Operand → Value) (dst : Option Tmp) (a : Operand) (ty : TypeId) (pos : String) (after : Array Edge) (guard : Option (Nat × Bool)) :
    execOp ρ { dst, op := .buildSlice 32 1 #[(0, a)], type := ty, pos, after, guard } = buildA1 (ρ a) := by simp [execOp, buildA1]
@[go_sem] theorem run_buildA1 (w : World) (x : ExV) : Sem.run Tryz.prog (buildA1 (.agg (AsV.cells (asX x)).toArray)) w =
    .ok (.value (.slice (some ⟨w.heap.size, 0, none⟩) 1 1)) (w.alloc (.cells ([asX x].map AsV.cells).flatten.toArray 124)) := by kernel_rfl
end Go.Proofs.YtgdjhhfbpalkdaaGreat
namespace Go.Proofs.YtgdjhhfbpalkdaaGreat
open Go.RowKit
def numX (n t : Int) : ExV := .mk 1 0 n ⟨#[]⟩ none 0 [] none 0 [] 0 (-1) t
def nameX (e t : Int) : ExV := .mk 3 0 0 ⟨#[120]⟩ none 0 [] none 0 [] 0 e t
def twoX (B : Nat) (o : Int) (a b : ExV) (t : Int) : ExV := .mk 12 o 0 ⟨#[]⟩ (some ⟨B, 0, none⟩) 2 [a, b] none 0 [] 0 (-1) t
def atX (B : Nat) (e : Int) (s : ByteArray) (t : Int) : ExV := .mk 6 0 0 s (some ⟨B, 0, none⟩) 1 [nameX e 3] none 0 [] 0 (-1) t
def caX (B C D : Nat) (e : Int) (s : ByteArray) (a : ExV) (t : Int) : ExV := .mk 7 0 0 ⟨#[]⟩ (some ⟨C, 0, none⟩) 1 [atX B e s t] (some ⟨D, 0, none⟩) 1 [asX a] 0 (-1) t
theorem ex_mk {w : World} {d : Nat} {k o n : Int} {s : ByteArray} {la : Option Addr} {lc : Nat} {ls : List ExV} {aa : Option Addr} {ac : Nat} {al : List AsV} {li e t : Int} (h1 : RowsAt ExV 9 ExV.cells w la ls) (h2 : ∀ y, y ∈ ls → ExIn w d y)
    (h3 : RowsAt AsV 10 AsV.cells w aa al) (h4 : ∀ y, y ∈ al → ExIn w d y.2.2.2) (hl : ls.length ≤ 1000) (ha : al.length ≤ 1000) (hn : -9223372036854775808 ≤ n ∧ n ≤ 9223372036854775807) : ExIn w (d + 1) (.mk k o n s la lc ls aa ac al li e t) :=
  ⟨h1, h2, h3, h4, Nat.le_trans hl (by decide), Nat.le_trans ha (by decide), hn.1, hn.2⟩
theorem ex_nil {w : World} {d : Nat} {k o n : Int} {s : ByteArray} {lc ac : Nat} {li e t : Int} (hn : -9223372036854775808 ≤ n ∧ n ≤ 9223372036854775807) : ExIn w (d + 1) (.mk k o n s none lc [] none ac [] li e t) :=
  ex_mk (.inl rfl) (fun y hy => by cases hy) (.inl rfl) (fun y hy => by cases hy) (by simp) (by simp) hn
theorem kept_obj {X : List Nat} {w w' : World} (hk : Kept X w w') {B : Nat} {ty : TypeId} {cs : Array Value} [h : BoxIs w B ty cs] (hx : B ∉ X) : w'.heap[B]? = some (.cells cs ty (0, 0)) := hk.obj h.has hx
/-- A new node over expressions that lie. -/
theorem exk_list {X : List Nat} {w : World} {d B : Nat} {k o n : Int} {s : ByteArray} {lc ac : Nat} {ls : List ExV} {li e t : Int} (h1 : w.heap[B]? = some (.cells (ls.map ExV.cells).flatten.toArray 34 (0, 0))) (hB : B ∉ X) (h2 : ∀ y, y ∈ ls → ExK X w d y) (hl : ls.length ≤ 1000)
    (hn : -9223372036854775808 ≤ n ∧ n ≤ 9223372036854775807) : ExK X w (d + 1) (.mk k o n s (some ⟨B, 0, none⟩) lc ls none ac [] li e t) := fun w' hk =>
  ex_mk (rows_ex (hk.obj h1 hB)) (fun y hy => h2 y hy w' hk) (.inl rfl) (fun y hy => by cases hy) hl (by simp) hn
theorem exk_two {X : List Nat} {w : World} {d B C : Nat} {k o n : Int} {s : ByteArray} {lc ac : Nat} {ls : List ExV} {al : List AsV} {li e t : Int} (h1 : w.heap[B]? = some (.cells (ls.map ExV.cells).flatten.toArray 34 (0, 0))) (hB : B ∉ X) (h2 : ∀ y, y ∈ ls → ExK X w d y)
    (h3 : w.heap[C]? = some (.cells (al.map AsV.cells).flatten.toArray 124 (0, 0))) (hC : C ∉ X) (h4 : ∀ y, y ∈ al → ExK X w d y.2.2.2) (hl : ls.length ≤ 1000) (ha : al.length ≤ 1000)
    (hn : -9223372036854775808 ≤ n ∧ n ≤ 9223372036854775807) : ExK X w (d + 1) (.mk k o n s (some ⟨B, 0, none⟩) lc ls (some ⟨C, 0, none⟩) ac al li e t) := fun w' hk =>
  ex_mk (rows_ex (hk.obj h1 hB)) (fun y hy => h2 y hy w' hk) (rows_block (hk.obj h3 hC) AsV.len) (fun y hy => h4 y hy w' hk) hl ha hn
theorem exk_nil {X : List Nat} {w : World} {d : Nat} {k o n : Int} {s : ByteArray} {lc ac : Nat} {li e t : Int} (hn : -9223372036854775808 ≤ n ∧ n ≤ 9223372036854775807) : ExK X w (d + 1) (.mk k o n s none lc [] none ac [] li e t) := fun _ _ => ex_nil hn
theorem all_one {α : Type} {p : α → Prop} {a : α} (h : p a) : ∀ y, y ∈ [a] → p y := fun y hy => by
  rcases List.mem_cons.1 hy with rfl | hy
  · exact h
  · cases hy
theorem all_two {α : Type} {p : α → Prop} {a b : α} (h1 : p a) (h2 : p b) : ∀ y, y ∈ [a, b] → p y := fun y hy => by
  rcases List.mem_cons.1 hy with rfl | hy
  · exact h1
  · exact all_one h2 y hy
theorem all_three {α : Type} {p : α → Prop} {a b c : α} (h1 : p a) (h2 : p b) (h3 : p c) : ∀ y, y ∈ [a, b, c] → p y := fun y hy => by
  rcases List.mem_cons.1 hy with rfl | hy
  · exact h1
  · exact all_two h2 h3 y hy
theorem new_not {X : List Nat} {w : World} {B : Nat} (hX : ∀ q ∈ X, q < w.heap.size) (hB : w.heap.size ≤ B) : B ∉ X := fun h => by
  have := hX _ h
  omega
theorem num_in (w : World) (n t : Int) (d : Nat) (h : -9223372036854775808 ≤ n ∧ n ≤ 9223372036854775807) : ExIn w (d + 1) (numX n t) := ex_nil h
theorem name_in (w : World) (e t : Int) (d : Nat) : ExIn w (d + 1) (nameX e t) := ex_nil (by decide)
theorem box_at (w : World) (B : Nat) {ty : TypeId} {cs : Array Value} [h : BoxIs w B ty cs] : w.heap[B]? = some (.cells cs ty (0, 0)) := h.has
set_option maxRecDepth 100000 in
set_option maxHeartbeats 1000000 in
theorem number_any (w : World) (n t : Int) : Calls Tryz.prog 30 #[.int .i64 n, .int .i64 t] w (RetV (.agg (numX n t).cells.toArray) w) := by
  go_enter Tryz.func30, Tryz.ntmps30
  go_wp2_with fail
  exact bodyPost_ret (res1 Tryz.results30 (resC rfl inferInstance)) rfl ⟨rfl, (by repeat (first | with_reducible exact HK.out | with_reducible exact Kept.refl _ _ | with_reducible refine Kept.prev ?_ | with_reducible refine Kept.alloc' ?_ _ | with_reducible refine Kept.drew' ?_ | with_reducible refine Kept.setB ?_ _ _ _ (by omega) | with_reducible refine Kept.row' ?_ _ _ (by omega) | with_reducible refine Kept.map' ?_ _ _ (by omega)))⟩
set_option maxRecDepth 100000 in
set_option maxHeartbeats 1000000 in
theorem name_any (w : World) (e t : Int) : Calls Tryz.prog 28 #[.int .i64 e, .int .i64 t] w (RetV (.agg (nameX e t).cells.toArray) w) := by
  go_enter Tryz.func28, Tryz.ntmps28
  go_wp2_with fail
  exact bodyPost_ret (res1 Tryz.results28 (resC rfl inferInstance)) rfl ⟨rfl, (by repeat (first | with_reducible exact HK.out | with_reducible exact Kept.refl _ _ | with_reducible refine Kept.prev ?_ | with_reducible refine Kept.alloc' ?_ _ | with_reducible refine Kept.drew' ?_ | with_reducible refine Kept.setB ?_ _ _ _ (by omega) | with_reducible refine Kept.row' ?_ _ _ (by omega) | with_reducible refine Kept.map' ?_ _ _ (by omega)))⟩
set_option maxRecDepth 100000 in
set_option maxHeartbeats 1000000 in
theorem two_any (X : List Nat) (w : World) (o : Int) (a b : ExV) (t : Int) (d : Nat) (hX : ∀ q ∈ X, q < w.heap.size) (ha : ExK X w d a) (hb : ExK X w d b) : Calls Tryz.prog 29 #[.int .u8 o, .agg a.cells.toArray, .agg b.cells.toArray, .int .i64 t] w (RetX X (d + 1) (fun x => ∃ B, x = twoX B o a b t) w) := by
  have HA := Lib.hid (fun w' (hk : Kept [] w w') => ha.kept hk)
  have HB := Lib.hid (fun w' (hk : Kept [] w w') => hb.kept hk)
  have HX := Lib.hid hX
  clear ha hb hX
  go_enter Tryz.func29, Tryz.ntmps29
  go_wp2_with fail
  refine bodyPost_ret (res1 Tryz.results29 (resC rfl inferInstance)) rfl ?_
  exact ⟨twoX _ o a b t, rfl, ⟨_, rfl⟩, exk_list (box_at _ _) (new_not HX.out (by omega)) (all_two (HA.out _ (by repeat (first | with_reducible exact HK.out | with_reducible exact Kept.refl _ _ | with_reducible refine Kept.prev ?_ | with_reducible refine Kept.alloc' ?_ _ | with_reducible refine Kept.drew' ?_ | with_reducible refine Kept.setB ?_ _ _ _ (by omega) | with_reducible refine Kept.row' ?_ _ _ (by omega) | with_reducible refine Kept.map' ?_ _ _ (by omega)))) (HB.out _ (by repeat (first | with_reducible exact HK.out | with_reducible exact Kept.refl _ _ | with_reducible refine Kept.prev ?_ | with_reducible refine Kept.alloc' ?_ _ | with_reducible refine Kept.drew' ?_ | with_reducible refine Kept.setB ?_ _ _ _ (by omega) | with_reducible refine Kept.row' ?_ _ _ (by omega) | with_reducible refine Kept.map' ?_ _ _ (by omega))))) (by simp) (by decide), (by repeat (first | with_reducible exact HK.out | with_reducible exact Kept.refl _ _ | with_reducible refine Kept.prev ?_ | with_reducible refine Kept.alloc' ?_ _ | with_reducible refine Kept.drew' ?_ | with_reducible refine Kept.setB ?_ _ _ _ (by omega) | with_reducible refine Kept.row' ?_ _ _ (by omega) | with_reducible refine Kept.map' ?_ _ _ (by omega)))⟩
set_option maxRecDepth 100000 in
set_option maxHeartbeats 1000000 in
theorem attr_any (X : List Nat) (w : World) (e : Int) (s : ByteArray) (t : Int) (hX : ∀ q ∈ X, q < w.heap.size) : Calls Tryz.prog 33 #[.int .i64 e, .string s, .int .i64 t] w (RetX X 2 (fun x => ∃ B, x = atX B e s t) w) := by
  have HX := Lib.hid hX
  clear hX
  go_enter Tryz.func33, Tryz.ntmps33
  go_wp2_with fail
  refine (name_any _ _ _).mono ?_; rintro e w2 ⟨rfl, hk_w2⟩; haveI p_w2 : PrevWorld w2 _ := ⟨hk_w2⟩; have hz_w2 : w.heap.size ≤ w2.heap.size := Kept.size (by repeat (first | with_reducible exact HK.out | with_reducible exact Kept.refl _ _ | with_reducible refine Kept.prev ?_ | with_reducible refine Kept.alloc' ?_ _ | with_reducible refine Kept.drew' ?_ | with_reducible refine Kept.setB ?_ _ _ _ (by omega) | with_reducible refine Kept.row' ?_ _ _ (by omega) | with_reducible refine Kept.map' ?_ _ _ (by omega))); clear hk_w2
  go_wp2_with fail
  refine bodyPost_ret (res1 Tryz.results33 (resC rfl inferInstance)) rfl ?_
  exact ⟨atX _ e s t, rfl, ⟨_, rfl⟩, exk_list (box_at _ _) (new_not HX.out (by omega)) (all_one (exk_nil (by decide))) (by simp) (by decide), (by repeat (first | with_reducible exact HK.out | with_reducible exact Kept.refl _ _ | with_reducible refine Kept.prev ?_ | with_reducible refine Kept.alloc' ?_ _ | with_reducible refine Kept.drew' ?_ | with_reducible refine Kept.setB ?_ _ _ _ (by omega) | with_reducible refine Kept.row' ?_ _ _ (by omega) | with_reducible refine Kept.map' ?_ _ _ (by omega)))⟩
set_option maxRecDepth 100000 in
set_option maxHeartbeats 1000000 in
theorem calls_any (X : List Nat) (w : World) (e : Int) (s : ByteArray) (a : ExV) (t : Int) (d : Nat) (hX : ∀ q ∈ X, q < w.heap.size) (ha : ExK X w d a) : Calls Tryz.prog 32 #[.int .i64 e, .string s, .agg a.cells.toArray, .int .i64 t] w (RetX X (d + 3) (fun x => ∃ B C D, x = caX B C D e s a t) w) := by
  have HX := Lib.hid (show ∀ q ∈ (w.heap.size + 1) :: X, q < w.heap.size + 1 + 1 from fun q hq => by
    rcases List.mem_cons.1 hq with rfl | hq
    · omega
    · have := hX q hq
      omega)
  have HA : Hid (∀ w', Kept [] w w' → ExK X w' d a) := fun w' hk => ha.kept hk
  have HA2 : Hid (∀ w', Kept [] w w' → ExK ((w.heap.size + 1) :: X) w' d a) := fun w' hk w2 h2 => ha _ ((hk.mono (by simp)).trans h2 |>.mono' (fun x hx hl => by
    rcases List.mem_cons.1 hx with rfl | hx
    · omega
    · exact hx))
  clear hX ha
  go_enter Tryz.func32, Tryz.ntmps32
  go_wp2_with fail
  generalize hXX : (w.heap.size + 1) :: X = XX at *
  refine wp_region_each [⟨9, [], .eq (.int .i64 e)⟩, ⟨10, [], .eq (.string s)⟩, ⟨11, [], .eq (.int .i64 t)⟩, ⟨12, [9, 10, 11], .ex XX 2 (fun x => ∃ B, x = atX B e s t)⟩, ⟨13, [12], .exs XX 2 (fun l => ∃ B, l = [atX B e s t])⟩,
    ⟨14, [], .eq (.agg a.cells.toArray)⟩, ⟨15, [14], .eq (.agg (AsV.cells (asX a)).toArray)⟩, ⟨16, [15], .asl XX d (fun l => l = [asX a])⟩, ⟨17, [], .eq (.int .i64 t)⟩, ⟨18, [13, 16, 17], .ex XX (d + 3) (fun x => ∃ B C D, x = caX B C D e s a t)⟩] (by kernel_rfl) (by kernel_rfl) ?_
  apply Exists.intro
  refine ⟨fun vs => ?_, ?_⟩
  · simp only [List.map_cons, List.map_nil, puts, Act.put, List.setIfInBounds_toArray, List.set_cons_zero, List.set_cons_succ]
    exact rfl
  refine ⟨⟨fun vs w3 hk hg => ?_, fun vs w3 hk hg => ?_, fun vs w3 hk hg => ?_, fun vs w3 hk hg => ?_, fun vs w3 hk hg => ?_, fun vs w3 hk hg => ?_, fun vs w3 hk hg => ?_, fun vs w3 hk hg => ?_, fun vs w3 hk hg => ?_, fun vs w3 hk hg => ?_, trivial⟩, fun vs w3 hk hg => ?_⟩
  all_goals
    haveI p_w3 : PrevWorld w3 _ := ⟨hk⟩
    have hz3 : w.heap.size + 1 + 1 ≤ w3.heap.size := by simpa using hk.size
    clear hk
  · go_wp2_with fail
    exact ⟨(by repeat (first | with_reducible exact HK.out | with_reducible exact Kept.refl _ _ | with_reducible refine Kept.prev ?_ | with_reducible refine Kept.alloc' ?_ _ | with_reducible refine Kept.drew' ?_ | with_reducible refine Kept.setB ?_ _ _ _ (by omega) | with_reducible refine Kept.row' ?_ _ _ (by omega) | with_reducible refine Kept.map' ?_ _ _ (by omega))), rfl, rfl⟩
  · go_wp2_with fail
    exact ⟨(by repeat (first | with_reducible exact HK.out | with_reducible exact Kept.refl _ _ | with_reducible refine Kept.prev ?_ | with_reducible refine Kept.alloc' ?_ _ | with_reducible refine Kept.drew' ?_ | with_reducible refine Kept.setB ?_ _ _ _ (by omega) | with_reducible refine Kept.row' ?_ _ _ (by omega) | with_reducible refine Kept.map' ?_ _ _ (by omega))), rfl, rfl⟩
  · go_wp2_with fail
    exact ⟨(by repeat (first | with_reducible exact HK.out | with_reducible exact Kept.refl _ _ | with_reducible refine Kept.prev ?_ | with_reducible refine Kept.alloc' ?_ _ | with_reducible refine Kept.drew' ?_ | with_reducible refine Kept.setB ?_ _ _ _ (by omega) | with_reducible refine Kept.row' ?_ _ _ (by omega) | with_reducible refine Kept.map' ?_ _ _ (by omega))), rfl, rfl⟩
  · simp only [given, look, SP.eq_p, Nat.reduceEqDiff, reduceIte, if_true, if_false, and_true] at hg
    obtain ⟨e9, e10, e11⟩ := hg
    go_wp2_with fail
    refine (attr_any XX _ _ _ _ (fun q hq => Nat.lt_of_lt_of_le (HX.out q hq) hz3)).mono ?_
    rintro e w4 ⟨x, rfl, hp, hi, hk4⟩
    go_wp2_with fail
    exact ⟨hk4, rfl, x, rfl, hp, hi⟩
  · simp only [given, look, SP.ex_p, Nat.reduceEqDiff, reduceIte, if_true, if_false, and_true] at hg
    obtain ⟨x12, e12, ⟨B12, rfl⟩, i12⟩ := hg
    go_wp2_with fail
    exact ⟨(by repeat (first | with_reducible exact HK.out | with_reducible exact Kept.refl _ _ | with_reducible refine Kept.prev ?_ | with_reducible refine Kept.alloc' ?_ _ | with_reducible refine Kept.drew' ?_ | with_reducible refine Kept.setB ?_ _ _ _ (by omega) | with_reducible refine Kept.row' ?_ _ _ (by omega) | with_reducible refine Kept.map' ?_ _ _ (by omega))), rfl, _, [atX B12 e s t], rfl, ⟨_, rfl⟩, box_at _ _, new_not (fun q hq => Nat.lt_of_lt_of_le (HX.out q hq) hz3) (Nat.le_refl _), all_one (i12.kept (by repeat (first | with_reducible exact HK.out | with_reducible exact Kept.refl _ _ | with_reducible refine Kept.prev ?_ | with_reducible refine Kept.alloc' ?_ _ | with_reducible refine Kept.drew' ?_ | with_reducible refine Kept.setB ?_ _ _ _ (by omega) | with_reducible refine Kept.row' ?_ _ _ (by omega) | with_reducible refine Kept.map' ?_ _ _ (by omega))))⟩
  · go_wp2_with fail
    exact ⟨(by repeat (first | with_reducible exact HK.out | with_reducible exact Kept.refl _ _ | with_reducible refine Kept.prev ?_ | with_reducible refine Kept.alloc' ?_ _ | with_reducible refine Kept.drew' ?_ | with_reducible refine Kept.setB ?_ _ _ _ (by omega) | with_reducible refine Kept.row' ?_ _ _ (by omega) | with_reducible refine Kept.map' ?_ _ _ (by omega))), rfl, rfl⟩
  · simp only [given, look, SP.eq_p, Nat.reduceEqDiff, reduceIte, if_true, if_false, and_true] at hg
    go_wp2_with fail
    exact ⟨(by repeat (first | with_reducible exact HK.out | with_reducible exact Kept.refl _ _ | with_reducible refine Kept.prev ?_ | with_reducible refine Kept.alloc' ?_ _ | with_reducible refine Kept.drew' ?_ | with_reducible refine Kept.setB ?_ _ _ _ (by omega) | with_reducible refine Kept.row' ?_ _ _ (by omega) | with_reducible refine Kept.map' ?_ _ _ (by omega))), rfl, rfl⟩
  · simp only [given, look, SP.eq_p, Nat.reduceEqDiff, reduceIte, if_true, if_false, and_true] at hg
    go_wp2_with fail
    exact ⟨(by repeat (first | with_reducible exact HK.out | with_reducible exact Kept.refl _ _ | with_reducible refine Kept.prev ?_ | with_reducible refine Kept.alloc' ?_ _ | with_reducible refine Kept.drew' ?_ | with_reducible refine Kept.setB ?_ _ _ _ (by omega) | with_reducible refine Kept.row' ?_ _ _ (by omega) | with_reducible refine Kept.map' ?_ _ _ (by omega))), rfl, _, [asX a], rfl, rfl, box_at _ _, new_not (fun q hq => Nat.lt_of_lt_of_le (HX.out q hq) hz3) (Nat.le_refl _), all_one (HA2.out _ (by repeat (first | with_reducible exact HK.out | with_reducible exact Kept.refl _ _ | with_reducible refine Kept.prev ?_ | with_reducible refine Kept.alloc' ?_ _ | with_reducible refine Kept.drew' ?_ | with_reducible refine Kept.setB ?_ _ _ _ (by omega) | with_reducible refine Kept.row' ?_ _ _ (by omega) | with_reducible refine Kept.map' ?_ _ _ (by omega))))⟩
  · go_wp2_with fail
    exact ⟨(by repeat (first | with_reducible exact HK.out | with_reducible exact Kept.refl _ _ | with_reducible refine Kept.prev ?_ | with_reducible refine Kept.alloc' ?_ _ | with_reducible refine Kept.drew' ?_ | with_reducible refine Kept.setB ?_ _ _ _ (by omega) | with_reducible refine Kept.row' ?_ _ _ (by omega) | with_reducible refine Kept.map' ?_ _ _ (by omega))), rfl, rfl⟩
  · simp only [given, look, SP.eq_p, SP.exs_p, SP.asl_p, Nat.reduceEqDiff, reduceIte, if_true, if_false, and_true] at hg
    obtain ⟨⟨C, l1, e13, ⟨B, rfl⟩, h13, x13, i13⟩, ⟨D, l2, e16, rfl, h16, x16, i16⟩, e17⟩ := hg
    go_wp2_with fail
    exact ⟨(by repeat (first | with_reducible exact HK.out | with_reducible exact Kept.refl _ _ | with_reducible refine Kept.prev ?_ | with_reducible refine Kept.alloc' ?_ _ | with_reducible refine Kept.drew' ?_ | with_reducible refine Kept.setB ?_ _ _ _ (by omega) | with_reducible refine Kept.row' ?_ _ _ (by omega) | with_reducible refine Kept.map' ?_ _ _ (by omega))), rfl, caX B C D e s a t, rfl, ⟨_, _, _, rfl⟩, exk_two h13 x13 (fun y hy => (i13 y hy).mono (by omega)) h16 x16 (fun y hy => (i16 y hy).mono (by omega)) (by simp) (by simp) (by decide)⟩
  · simp only [allGiven, SP.eq_p, SP.ex_p, SP.exs_p, SP.asl_p, and_true] at hg
    obtain ⟨-, -, -, -, -, -, -, -, -, ⟨x18, e18, ⟨B, C, D, rfl⟩, i18⟩⟩ := hg
    go_wp2_with fail
    refine bodyPost_ret (res1 Tryz.results32 (resC rfl inferInstance)) rfl ?_
    refine ⟨caX B C D e s a t, rfl, ⟨_, _, _, rfl⟩, fun w5 hk5 => i18 _ (Kept.trans (Kept.setRow w3 _ _ (by rw [← hXX]; simp)) (hk5.mono (fun q hq => by rw [← hXX]; exact List.mem_cons_of_mem _ hq))), (by repeat (first | with_reducible exact HK.out | with_reducible exact Kept.refl _ _ | with_reducible refine Kept.prev ?_ | with_reducible refine Kept.alloc' ?_ _ | with_reducible refine Kept.drew' ?_ | with_reducible refine Kept.setB ?_ _ _ _ (by omega) | with_reducible refine Kept.row' ?_ _ _ (by omega) | with_reducible refine Kept.map' ?_ _ _ (by omega)))⟩
end Go.Proofs.YtgdjhhfbpalkdaaGreat
