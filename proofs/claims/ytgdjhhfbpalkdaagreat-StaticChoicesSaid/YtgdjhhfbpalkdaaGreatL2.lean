/- The table of the examples. -/
import Derived.Test.YtgdjhhfbpalkdaaGreatL1
namespace Go.Proofs.YtgdjhhfbpalkdaaGreat
open Go.RowKit
def rowT (k : Int) (n : ByteArray) (f : Int) : TyV := ⟨k, n, -1, f, none, 0, [], -1, -1, -1, ⟨#[]⟩, false, 0, none, 0, [], -1, 0, false, -1, 0, 0⟩
def buildBl (a b c d e f g h : Value) : Sem Next := do return .value (← Instr.build 116 #[(0, a), (2, b), (3, c), (5, d), (6, e), (7, f), (12, g), (15, h)])
@[go_sem ↓] theorem execOp_buildBl (ρ : Operand → Value) (dst : Option Tmp) (a b c d e f g h : Operand) (ty : TypeId) (pos : String) (after : Array Edge) (guard : Option (Nat × Bool)) :
    execOp ρ { dst, op := .build 116 #[(0, a), (2, b), (3, c), (5, d), (6, e), (7, f), (12, g), (15, h)], type := ty, pos, after, guard } = buildBl (ρ a) (ρ b) (ρ c) (ρ d) (ρ e) (ρ f) (ρ g) (ρ h) := by simp [execOp, buildBl]
@[go_sem] theorem run_buildBl (w : World) (k : Int) : Sem.run Tryz.prog (buildBl (.int .u8 k) (.int .i64 (-1)) (.int .i64 (-1)) (.int .i64 (-1)) (.int .i64 (-1)) (.int .i64 (-1)) (.int .i64 (-1)) (.int .i64 (-1))) w = .ok (.value (.agg (rowT k ⟨#[]⟩ (-1)).cells.toArray)) w := by kernel_rfl
set_option maxRecDepth 100000 in
set_option maxHeartbeats 1000000 in
theorem blank_any (w : World) (k : Int) : Calls Tryz.prog 60 #[.int .u8 k] w (RetV (.agg (rowT k ⟨#[]⟩ (-1)).cells.toArray) w) := by
  go_enter Tryz.func60, Tryz.ntmps60
  go_wp2_with fail
  exact bodyPost_v rfl (res1 Tryz.results60 (resC rfl inferInstance)) (by repeat (first | with_reducible exact HK.out | with_reducible exact Kept.refl _ _ | with_reducible refine Kept.prev ?_ | with_reducible refine Kept.alloc' ?_ _ | with_reducible refine Kept.drew' ?_ | with_reducible refine Kept.setB ?_ _ _ _ (by omega) | with_reducible refine Kept.row' ?_ _ _ (by omega) | with_reducible refine Kept.map' ?_ _ _ (by omega)))
set_option maxRecDepth 100000 in
set_option maxHeartbeats 1000000 in
theorem trow_any (w : World) (k : Int) (n : ByteArray) (f : Int) : Calls Tryz.prog 59 #[.int .u8 k, .string n, .int .i64 f] w (RetV (.agg (rowT k n f).cells.toArray) w) := by
  go_enter Tryz.func59, Tryz.ntmps59
  go_wp2_with fail
  refine (blank_any _ _).mono ?_; rintro e w2 ⟨rfl, hk_w2⟩; haveI p_w2 : PrevWorld w2 _ := ⟨hk_w2⟩; have hz_w2 : w.heap.size ≤ w2.heap.size := Kept.size (by repeat (first | with_reducible exact HK.out | with_reducible exact Kept.refl _ _ | with_reducible refine Kept.prev ?_ | with_reducible refine Kept.alloc' ?_ _ | with_reducible refine Kept.drew' ?_ | with_reducible refine Kept.setB ?_ _ _ _ (by omega) | with_reducible refine Kept.row' ?_ _ _ (by omega) | with_reducible refine Kept.map' ?_ _ _ (by omega))); clear hk_w2
  go_upto_region 3 with fail
  have hc : ((rowT k ⟨#[]⟩ (-1)).cells.set 1 (.string n)).set 3 (.int .i64 f) = (rowT k n f).cells := rfl
  rw [hc]
  clear hc
  go_wp2_with fail
  exact bodyPost_v rfl (res1 Tryz.results59 (resC rfl inferInstance)) (by repeat (first | with_reducible exact HK.out | with_reducible exact Kept.refl _ _ | with_reducible refine Kept.prev ?_ | with_reducible refine Kept.alloc' ?_ _ | with_reducible refine Kept.drew' ?_ | with_reducible refine Kept.setB ?_ _ _ _ (by omega) | with_reducible refine Kept.row' ?_ _ _ (by omega) | with_reducible refine Kept.map' ?_ _ _ (by omega)))
def boolT (A : Option Addr) : TyV := { rowT 3 ⟨#[66, 111, 111, 108, 101, 97, 110]⟩ 1 with la := A, lc := 2, lits := [⟨#[70, 97, 108, 115, 101]⟩, ⟨#[84, 114, 117, 101]⟩] }
def colorT (A : Option Addr) : TyV := { rowT 3 ⟨#[67, 111, 108, 111, 114]⟩ 2 with la := A, lc := 3, lits := [⟨#[82, 101, 100]⟩, ⟨#[71, 114, 101, 101, 110]⟩, ⟨#[66, 108, 117, 101]⟩] }
def intT : TyV := rowT 2 ⟨#[73, 110, 116, 101, 103, 101, 114]⟩ 0
def entA3 (k t s : Int) : EntV := { zeroE with kind := k, t := t, sub := s }
def entAv (k t v : Int) : EntV := { zeroE with kind := k, t := t, value := v }
def entAc (k t s v : Int) (c : Bool) : EntV := { zeroE with kind := k, t := t, sub := s, static := c, value := v }
def buildN3 (a b c : Value) : Sem Next := do return .value (← Instr.build 74 #[(0, a), (4, b), (5, c)])
@[go_sem ↓] theorem execOp_buildN3 (ρ : Operand → Value) (dst : Option Tmp) (a b c : Operand) (ty : TypeId) (pos : String) (after : Array Edge) (guard : Option (Nat × Bool)) :
    execOp ρ { dst, op := .build 74 #[(0, a), (4, b), (5, c)], type := ty, pos, after, guard } = buildN3 (ρ a) (ρ b) (ρ c) := by simp [execOp, buildN3]
@[go_sem] theorem run_buildN3 (w : World) (k t s : Int) : Sem.run Tryz.prog (buildN3 (.int .u8 k) (.int .i64 t) (.int .i64 s)) w = .ok (.value (.agg (entA3 k t s).cells.toArray)) w := by kernel_rfl
def buildN2 (a b : Value) : Sem Next := do return .value (← Instr.build 74 #[(0, a), (4, b)])
@[go_sem ↓] theorem execOp_buildN2 (ρ : Operand → Value) (dst : Option Tmp) (a b : Operand) (ty : TypeId) (pos : String) (after : Array Edge) (guard : Option (Nat × Bool)) :
    execOp ρ { dst, op := .build 74 #[(0, a), (4, b)], type := ty, pos, after, guard } = buildN2 (ρ a) (ρ b) := by simp [execOp, buildN2]
@[go_sem] theorem run_buildN2 (w : World) (k t : Int) : Sem.run Tryz.prog (buildN2 (.int .u8 k) (.int .i64 t)) w = .ok (.value (.agg (entAv k t 0).cells.toArray)) w := by kernel_rfl
def buildNv (a b c : Value) : Sem Next := do return .value (← Instr.build 74 #[(0, a), (4, b), (10, c)])
@[go_sem ↓] theorem execOp_buildNv (ρ : Operand → Value) (dst : Option Tmp) (a b c : Operand) (ty : TypeId) (pos : String) (after : Array Edge) (guard : Option (Nat × Bool)) :
    execOp ρ { dst, op := .build 74 #[(0, a), (4, b), (10, c)], type := ty, pos, after, guard } = buildNv (ρ a) (ρ b) (ρ c) := by simp [execOp, buildNv]
@[go_sem] theorem run_buildNv (w : World) (k t v : Int) : Sem.run Tryz.prog (buildNv (.int .u8 k) (.int .i64 t) (.int .i64 v)) w = .ok (.value (.agg (entAv k t v).cells.toArray)) w := by kernel_rfl
def buildN5 (a b c d e : Value) : Sem Next := do return .value (← Instr.build 74 #[(0, a), (4, b), (5, c), (11, d), (10, e)])
@[go_sem ↓] theorem execOp_buildN5 (ρ : Operand → Value) (dst : Option Tmp) (a b c d e : Operand) (ty : TypeId) (pos : String) (after : Array Edge) (guard : Option (Nat × Bool)) :
    execOp ρ { dst, op := .build 74 #[(0, a), (4, b), (5, c), (11, d), (10, e)], type := ty, pos, after, guard } = buildN5 (ρ a) (ρ b) (ρ c) (ρ d) (ρ e) := by simp [execOp, buildN5]
@[go_sem] theorem run_buildN5 (w : World) (k t s v : Int) (c : Bool) : Sem.run Tryz.prog (buildN5 (.int .u8 k) (.int .i64 t) (.int .i64 s) (.bool c) (.int .i64 v)) w = .ok (.value (.agg (entAc k t s v c).cells.toArray)) w := by kernel_rfl
def buildN7 (a b c d e f g : Value) : Sem Next := do return .value (← Instr.buildSlice 24 7 #[(0, a), (1, b), (2, c), (3, d), (4, e), (5, f), (6, g)])
@[go_sem ↓] theorem execOp_buildN7 (ρ : Operand → Value) (dst : Option Tmp) (a b c d e f g : Operand) (ty : TypeId) (pos : String) (after : Array Edge) (guard : Option (Nat × Bool)) :
    execOp ρ { dst, op := .buildSlice 24 7 #[(0, a), (1, b), (2, c), (3, d), (4, e), (5, f), (6, g)], type := ty, pos, after, guard } = buildN7 (ρ a) (ρ b) (ρ c) (ρ d) (ρ e) (ρ f) (ρ g) := by simp [execOp, buildN7]
@[go_sem] theorem run_buildN7 (w : World) (a b c d e f g : EntV) : Sem.run Tryz.prog (buildN7 (.agg a.cells.toArray) (.agg b.cells.toArray) (.agg c.cells.toArray) (.agg d.cells.toArray) (.agg e.cells.toArray) (.agg f.cells.toArray) (.agg g.cells.toArray)) w =
    .ok (.value (.slice (some ⟨w.heap.size, 0, none⟩) 7 7)) (w.alloc (.cells ([a, b, c, d, e, f, g].map EntV.cells).flatten.toArray 74)) := by kernel_rfl
def buildT4 (a b c d : Value) : Sem Next := do return .value (← Instr.buildSlice 22 4 #[(0, a), (1, b), (2, c), (3, d)])
@[go_sem ↓] theorem execOp_buildT4 (ρ : Operand → Value) (dst : Option Tmp) (a b c d : Operand) (ty : TypeId) (pos : String) (after : Array Edge) (guard : Option (Nat × Bool)) :
    execOp ρ { dst, op := .buildSlice 22 4 #[(0, a), (1, b), (2, c), (3, d)], type := ty, pos, after, guard } = buildT4 (ρ a) (ρ b) (ρ c) (ρ d) := by simp [execOp, buildT4]
@[go_sem] theorem run_buildT4 (w : World) (a b c d : TyV) : Sem.run Tryz.prog (buildT4 (.agg a.cells.toArray) (.agg b.cells.toArray) (.agg c.cells.toArray) (.agg d.cells.toArray)) w =
    .ok (.value (.slice (some ⟨w.heap.size, 0, none⟩) 4 4)) (w.alloc (.cells ([a, b, c, d].map TyV.cells).flatten.toArray 116)) := by kernel_rfl
theorem Tryz.infoTab5 : (Tryz.prog.info? 28).map (·.size) = some 5 := by kernel_rfl
instance (w : World) (B : Nat) (cs : Array Value) [h : BoxIs w B 28 cs] [n : CsLen cs 5] : LoadsAs w 28 ⟨B, 0, none⟩ (.agg cs) := ⟨by
  have := run_loadVar_mid (P := Tryz.prog) w B 0 28 cs.toList _ (range_is (by simpa using h.has)) Tryz.underlying28 rfl (by rw [Tryz.infoTab5]; simp [n.len])
  simpa using this⟩
def SP.row (n : Nat) (ty : TypeId) (cs : Array Value) : SP := ⟨fun v w => ∃ C : Nat, v = .slice (some ⟨C, 0, none⟩) n n ∧ w.heap[C]? = some (.cells cs ty (0, 0)), fun _ _ _ ⟨C, h1, h2⟩ hk => ⟨C, h1, hk.obj h2 (by simp)⟩⟩
theorem SP.row_p (n : Nat) (ty : TypeId) (cs : Array Value) (v : Value) (w : World) : (SP.row n ty cs).p v w = ∃ C : Nat, v = .slice (some ⟨C, 0, none⟩) n n ∧ w.heap[C]? = some (.cells cs ty (0, 0)) := rfl
def SP.box (b : Nat) (ty : TypeId) (cs : Array Value) : SP := ⟨fun v w => ∃ B : Nat, v = .pointer (some ⟨B, 0, none⟩) ∧ b ≤ B ∧ w.heap[B]? = some (.cells cs ty (0, 0)), fun _ _ _ ⟨C, h1, hb, h2⟩ hk => ⟨C, h1, hb, hk.obj h2 (by simp)⟩⟩
theorem SP.box_p (b : Nat) (ty : TypeId) (cs : Array Value) (v : Value) (w : World) : (SP.box b ty cs).p v w = ∃ B : Nat, v = .pointer (some ⟨B, 0, none⟩) ∧ b ≤ B ∧ w.heap[B]? = some (.cells cs ty (0, 0)) := rfl
def someEs : List EntV := [entA3 5 3 2, entA3 6 3 3, entAv 10 3 0, entAv 10 3 1, entAv 10 3 2, entAc 8 1 0 3 true, entA3 7 1 0]
def someSs : List SubtV := [⟨1, -2147483648, 2147483647⟩, ⟨2, 0, 1⟩, ⟨3, 0, 2⟩, ⟨3, 0, 1⟩]
def someTs (a b : Option Addr) : List TyV := [rowT 1 ⟨#[]⟩ (-1), intT, boolT a, colorT b]
def someT (a b : Option Addr) : Tab := ⟨someTs a b, someSs, someEs⟩
def someV (A B C : Nat) : TabV := ⟨some ⟨A, 0, none⟩, 4, some ⟨B, 0, none⟩, 4, some ⟨C, 0, none⟩, 7, none, 0, 0, none, 0, 0⟩
def RetSome (w : World) (e : Ending) (w' : World) : Prop := ∃ A B C a b, e = .returned (.agg ((someV A B C).cells (someT a b))) ∧ TabIn w' (someV A B C) (someT a b) ∧ Kept [] w w'
set_option maxRecDepth 100000 in
set_option maxHeartbeats 1000000 in
theorem some_any (w : World) : Calls Tryz.prog 34 #[] w (RetSome w) := by
  go_enter Tryz.func34, Tryz.ntmps34
  go_wp2_with fail
  refine (trow_any _ _ _ _).mono ?_; rintro e w2 ⟨rfl, hk_w2⟩; haveI p_w2 : PrevWorld w2 _ := ⟨hk_w2⟩; have hz_w2 : w.heap.size ≤ w2.heap.size := Kept.size (by repeat (first | with_reducible exact HK.out | with_reducible exact Kept.refl _ _ | with_reducible refine Kept.prev ?_ | with_reducible refine Kept.alloc' ?_ _ | with_reducible refine Kept.drew' ?_ | with_reducible refine Kept.setB ?_ _ _ _ (by omega) | with_reducible refine Kept.row' ?_ _ _ (by omega) | with_reducible refine Kept.map' ?_ _ _ (by omega))); clear hk_w2
  go_wp2_with fail
  refine (trow_any _ _ _ _).mono ?_; rintro e w3 ⟨rfl, hk_w3⟩; haveI p_w3 : PrevWorld w3 _ := ⟨hk_w3⟩; have hz_w3 : w.heap.size ≤ w3.heap.size := Kept.size (by repeat (first | with_reducible exact HK.out | with_reducible exact Kept.refl _ _ | with_reducible refine Kept.prev ?_ | with_reducible refine Kept.alloc' ?_ _ | with_reducible refine Kept.drew' ?_ | with_reducible refine Kept.setB ?_ _ _ _ (by omega) | with_reducible refine Kept.row' ?_ _ _ (by omega) | with_reducible refine Kept.map' ?_ _ _ (by omega))); clear hk_w3
  go_upto_region 3 with fail
  refine wp_gen' ?_
  intro w4 hw4
  haveI p_w4 : PrevWorld w4 w3 := ⟨by rw [hw4]; exact (by repeat (first | with_reducible exact HK.out | with_reducible exact Kept.refl _ _ | with_reducible refine Kept.prev ?_ | with_reducible refine Kept.alloc' ?_ _ | with_reducible refine Kept.drew' ?_ | with_reducible refine Kept.setB ?_ _ _ _ (by omega) | with_reducible refine Kept.row' ?_ _ _ (by omega) | with_reducible refine Kept.map' ?_ _ _ (by omega)))⟩
  haveI bx1 : BoxIs w4 w3.heap.size 116 (boolT (some ⟨w3.heap.size + 1 + 1, 0, none⟩)).cells.toArray := by
    rw [hw4]
    show BoxIs _ _ _ ((rowT 3 ⟨#[66, 111, 111, 108, 101, 97, 110]⟩ 1).cells.toArray.setIfInBounds 4 (.slice (some ⟨w3.heap.size + 1 + 1, 0, none⟩) 2 2))
    infer_instance
  haveI bx2 : BoxIs w4 (w3.heap.size + 1) 116 (colorT (some ⟨w3.heap.size + 1 + 1 + 1, 0, none⟩)).cells.toArray := by
    rw [hw4]
    show BoxIs _ _ _ ((rowT 3 ⟨#[67, 111, 108, 111, 114]⟩ 2).cells.toArray.setIfInBounds 4 (.slice (some ⟨w3.heap.size + 1 + 1 + 1, 0, none⟩) 3 3))
    infer_instance
  haveI bx0 : BoxIs w4 w.heap.size 28 _ := by
    rw [hw4]
    infer_instance
  have hz4 : w.heap.size + 1 ≤ w4.heap.size := by
    have h1 : w2.heap.size ≤ w4.heap.size := Kept.size (X := []) (by repeat (first | with_reducible exact HK.out | with_reducible exact Kept.refl _ _ | with_reducible refine Kept.prev ?_ | with_reducible refine Kept.alloc' ?_ _ | with_reducible refine Kept.drew' ?_ | with_reducible refine Kept.setB ?_ _ _ _ (by omega) | with_reducible refine Kept.row' ?_ _ _ (by omega) | with_reducible refine Kept.map' ?_ _ _ (by omega)))
    have h2 := (p_w2.kept).size
    simp at h2
    omega
  clear hw4
  generalize (some ⟨w3.heap.size + 1 + 1, 0, none⟩ : Option Addr) = A1 at *
  generalize (some ⟨w3.heap.size + 1 + 1 + 1, 0, none⟩ : Option Addr) = A2 at *
  refine wp_region_each [⟨10, [], .eq (.agg (rowT 1 ⟨#[]⟩ (-1)).cells.toArray)⟩, ⟨11, [], .eq (.agg intT.cells.toArray)⟩, ⟨12, [], .eq (.agg (boolT A1).cells.toArray)⟩, ⟨13, [], .eq (.agg (colorT A2).cells.toArray)⟩,
    ⟨14, [10, 11, 12, 13], .row 4 116 ((someTs A1 A2).map TyV.cells).flatten.toArray⟩, ⟨15, [], .eq (.agg #[.int .i64 1, .int .i64 (-2147483648), .int .i64 2147483647])⟩, ⟨16, [], .eq (.agg #[.int .i64 2, .int .i64 0, .int .i64 1])⟩,
    ⟨17, [], .eq (.agg #[.int .i64 3, .int .i64 0, .int .i64 2])⟩, ⟨18, [], .eq (.agg #[.int .i64 3, .int .i64 0, .int .i64 1])⟩, ⟨19, [15, 16, 17, 18], .row 4 121 (someSs.map SubtV.cells).flatten.toArray⟩,
    ⟨20, [14, 19], ⟨fun v w => ∃ C D : Nat, v = .agg #[.slice (some ⟨C, 0, none⟩) 4 4, .slice (some ⟨D, 0, none⟩) 4 4, .slice none 0 0, .slice none 0 0, .slice none 0 0] ∧ w.heap[C]? = some (.cells ((someTs A1 A2).map TyV.cells).flatten.toArray 116 (0, 0)) ∧ w.heap[D]? = some (.cells (someSs.map SubtV.cells).flatten.toArray 121 (0, 0)),
      fun _ _ _ ⟨C, D, h1, h2, h3⟩ hk => ⟨C, D, h1, hk.obj h2 (by simp), hk.obj h3 (by simp)⟩⟩⟩,
    ⟨3, [], .box w4.heap.size 28 #[.slice none 0 0, .slice none 0 0, .slice none 0 0, .slice none 0 0, .slice none 0 0]⟩] (by kernel_rfl) (by kernel_rfl) ?_
  apply Exists.intro
  refine ⟨fun vs => ?_, ?_⟩
  · simp only [List.map_cons, List.map_nil, puts, Act.put, List.setIfInBounds_toArray, List.set_cons_zero, List.set_cons_succ]
    exact rfl
  refine ⟨⟨fun vs w5 hk hg => ?_, fun vs w5 hk hg => ?_, fun vs w5 hk hg => ?_, fun vs w5 hk hg => ?_, fun vs w5 hk hg => ?_, fun vs w5 hk hg => ?_, fun vs w5 hk hg => ?_, fun vs w5 hk hg => ?_, fun vs w5 hk hg => ?_, fun vs w5 hk hg => ?_, fun vs w5 hk hg => ?_, fun vs w5 hk hg => ?_, trivial⟩, fun vs w5 hk hg => ?_⟩
  all_goals
    haveI p_w5 : PrevWorld w5 _ := ⟨hk⟩
    have hz5 : w4.heap.size ≤ w5.heap.size := hk.size
    clear hk
  · go_wp2_with fail
    refine (blank_any _ _).mono ?_
    rintro e w6 ⟨rfl, hk6⟩
    go_wp2_with fail
    exact ⟨hk6, rfl, rfl⟩
  · go_wp2_with fail
    refine (trow_any _ _ _ _).mono ?_
    rintro e w6 ⟨rfl, hk6⟩
    go_wp2_with fail
    exact ⟨hk6, rfl, rfl⟩
  · go_wp2_with fail
    exact ⟨(by repeat (first | with_reducible exact HK.out | with_reducible exact Kept.refl _ _ | with_reducible refine Kept.prev ?_ | with_reducible refine Kept.alloc' ?_ _ | with_reducible refine Kept.drew' ?_ | with_reducible refine Kept.setB ?_ _ _ _ (by omega) | with_reducible refine Kept.row' ?_ _ _ (by omega) | with_reducible refine Kept.map' ?_ _ _ (by omega))), rfl, rfl⟩
  · go_wp2_with fail
    exact ⟨(by repeat (first | with_reducible exact HK.out | with_reducible exact Kept.refl _ _ | with_reducible refine Kept.prev ?_ | with_reducible refine Kept.alloc' ?_ _ | with_reducible refine Kept.drew' ?_ | with_reducible refine Kept.setB ?_ _ _ _ (by omega) | with_reducible refine Kept.row' ?_ _ _ (by omega) | with_reducible refine Kept.map' ?_ _ _ (by omega))), rfl, rfl⟩
  · simp only [given, look, SP.eq_p, Nat.reduceEqDiff, reduceIte, if_true, if_false, and_true] at hg
    obtain ⟨e10, e11, e12, e13⟩ := hg
    go_wp2_with fail
    exact ⟨(by repeat (first | with_reducible exact HK.out | with_reducible exact Kept.refl _ _ | with_reducible refine Kept.prev ?_ | with_reducible refine Kept.alloc' ?_ _ | with_reducible refine Kept.drew' ?_ | with_reducible refine Kept.setB ?_ _ _ _ (by omega) | with_reducible refine Kept.row' ?_ _ _ (by omega) | with_reducible refine Kept.map' ?_ _ _ (by omega))), rfl, _, rfl, box_at _ _⟩
  · go_wp2_with fail
    exact ⟨(by repeat (first | with_reducible exact HK.out | with_reducible exact Kept.refl _ _ | with_reducible refine Kept.prev ?_ | with_reducible refine Kept.alloc' ?_ _ | with_reducible refine Kept.drew' ?_ | with_reducible refine Kept.setB ?_ _ _ _ (by omega) | with_reducible refine Kept.row' ?_ _ _ (by omega) | with_reducible refine Kept.map' ?_ _ _ (by omega))), rfl, rfl⟩
  · go_wp2_with fail
    exact ⟨(by repeat (first | with_reducible exact HK.out | with_reducible exact Kept.refl _ _ | with_reducible refine Kept.prev ?_ | with_reducible refine Kept.alloc' ?_ _ | with_reducible refine Kept.drew' ?_ | with_reducible refine Kept.setB ?_ _ _ _ (by omega) | with_reducible refine Kept.row' ?_ _ _ (by omega) | with_reducible refine Kept.map' ?_ _ _ (by omega))), rfl, rfl⟩
  · go_wp2_with fail
    exact ⟨(by repeat (first | with_reducible exact HK.out | with_reducible exact Kept.refl _ _ | with_reducible refine Kept.prev ?_ | with_reducible refine Kept.alloc' ?_ _ | with_reducible refine Kept.drew' ?_ | with_reducible refine Kept.setB ?_ _ _ _ (by omega) | with_reducible refine Kept.row' ?_ _ _ (by omega) | with_reducible refine Kept.map' ?_ _ _ (by omega))), rfl, rfl⟩
  · go_wp2_with fail
    exact ⟨(by repeat (first | with_reducible exact HK.out | with_reducible exact Kept.refl _ _ | with_reducible refine Kept.prev ?_ | with_reducible refine Kept.alloc' ?_ _ | with_reducible refine Kept.drew' ?_ | with_reducible refine Kept.setB ?_ _ _ _ (by omega) | with_reducible refine Kept.row' ?_ _ _ (by omega) | with_reducible refine Kept.map' ?_ _ _ (by omega))), rfl, rfl⟩
  · simp only [given, look, SP.eq_p, Nat.reduceEqDiff, reduceIte, if_true, if_false, and_true] at hg
    obtain ⟨e15, e16, e17, e18⟩ := hg
    go_wp2_with fail
    exact ⟨(by repeat (first | with_reducible exact HK.out | with_reducible exact Kept.refl _ _ | with_reducible refine Kept.prev ?_ | with_reducible refine Kept.alloc' ?_ _ | with_reducible refine Kept.drew' ?_ | with_reducible refine Kept.setB ?_ _ _ _ (by omega) | with_reducible refine Kept.row' ?_ _ _ (by omega) | with_reducible refine Kept.map' ?_ _ _ (by omega))), rfl, _, rfl, box_at _ _⟩
  · simp only [given, look, Nat.reduceEqDiff, reduceIte, if_true, if_false, and_true] at hg
    simp only [SP.row_p] at hg
    obtain ⟨⟨C, e14, h14⟩, ⟨D, e19, h19⟩⟩ := hg
    go_wp2_with fail
    exact ⟨(by repeat (first | with_reducible exact HK.out | with_reducible exact Kept.refl _ _ | with_reducible refine Kept.prev ?_ | with_reducible refine Kept.alloc' ?_ _ | with_reducible refine Kept.drew' ?_ | with_reducible refine Kept.setB ?_ _ _ _ (by omega) | with_reducible refine Kept.row' ?_ _ _ (by omega) | with_reducible refine Kept.map' ?_ _ _ (by omega))), rfl, C, D, rfl, h14, h19⟩
  · go_wp2_with fail
    exact ⟨(by repeat (first | with_reducible exact HK.out | with_reducible exact Kept.refl _ _ | with_reducible refine Kept.prev ?_ | with_reducible refine Kept.alloc' ?_ _ | with_reducible refine Kept.drew' ?_ | with_reducible refine Kept.setB ?_ _ _ _ (by omega) | with_reducible refine Kept.row' ?_ _ _ (by omega) | with_reducible refine Kept.map' ?_ _ _ (by omega))), rfl, _, rfl, hz5, box_at _ _⟩
  · simp only [allGiven, SP.eq_p, and_true] at hg
    simp only [SP.row_p, SP.box_p] at hg
    obtain ⟨-, -, -, -, -, -, -, -, -, -, ⟨C, D, e20, hC, hD⟩, ⟨B, e3, hB, h3⟩⟩ := hg
    have hBC : B ≠ C := fun e => by
      subst e
      rw [h3] at hC
      simp at hC
    have hBD : B ≠ D := fun e => by
      subst e
      rw [h3] at hD
      simp at hD
    haveI bx3 : BoxIs w5 B 28 _ := ⟨h3⟩
    haveI bxC : BoxIs w5 C 116 _ := ⟨hC⟩
    haveI bxD : BoxIs w5 D 121 _ := ⟨hD⟩
    haveI a1 : Apart B C := ⟨hBC⟩
    haveI a2 : Apart B D := ⟨hBD⟩
    clear h3 hC hD
    have hB0 : w.heap.size < B := by omega
    go_upto_region 4 with fail
    refine wp_gen' ?_
    intro w6 hw6
    have HK6 : Hid (Kept [] w4 w6) := by
      rw [Hid, hw6]
      refine Kept.setB (Kept.setB (Kept.setB (Kept.setB (Kept.setB p_w5.kept _ _ _ hB) _ _ _ hB) _ _ _ hB) _ _ _ hB) _ _ _ hB
    haveI p_w6 : PrevWorld w6 w4 := ⟨HK6.out⟩
    haveI cx3 : BoxIs w6 B 28 #[.slice (some ⟨C, 0, none⟩) 4 4, .slice (some ⟨D, 0, none⟩) 4 4, .slice none 0 0, .slice none 0 0, .slice none 0 0] := by
      rw [hw6]
      infer_instance
    haveI cxC : BoxIs w6 C _ _ := by rw [hw6]; infer_instance
    haveI cxD : BoxIs w6 D _ _ := by rw [hw6]; infer_instance
    have hz6 : B < w6.heap.size := cx3.lt
    clear hw6 bx3 bxC bxD bx1 bx2 p_w5 e20
    go_upto_region 5 with fail
    refine wp_gen' ?_
    intro w7 hw7
    have HK7 : Hid (Kept [] w4 w7) := by
      rw [Hid, hw7]
      exact (Kept.setB HK6.out _ _ _ hB).trans (Kept.alloc _ _ _)
    haveI p_w7 : PrevWorld w7 w4 := ⟨HK7.out⟩
    haveI dx3 : BoxIs w7 B 28 #[.slice (some ⟨C, 0, none⟩) 4 4, .slice (some ⟨D, 0, none⟩) 4 4, .slice (some ⟨w6.heap.size, 0, none⟩) 7 7, .slice none 0 0, .slice none 0 0] := by
      rw [hw7]
      infer_instance
    haveI dxC : BoxIs w7 C _ _ := by rw [hw7]; infer_instance
    haveI dxD : BoxIs w7 D _ _ := by rw [hw7]; infer_instance
    haveI dxE : BoxIs w7 w6.heap.size 74 (someEs.map EntV.cells).flatten.toArray := by
      rw [hw7]
      refine ⟨obj_new ?_⟩
      simp
    haveI dx0 : BoxIs w7 w.heap.size 28 _ := inferInstance
    have nC : w.heap.size ≠ C := fun e => by
      have h1 := dx0.has
      rw [e, dxC.has] at h1
      simp at h1
    have nD : w.heap.size ≠ D := fun e => by
      have h1 := dx0.has
      rw [e, dxD.has] at h1
      simp at h1
    have nE : w.heap.size ≠ w6.heap.size := by omega
    have HKw := Lib.hid (show Kept [] w w7 from (by repeat (first | with_reducible exact HK.out | with_reducible exact Kept.refl _ _ | with_reducible refine Kept.prev ?_ | with_reducible refine Kept.alloc' ?_ _ | with_reducible refine Kept.drew' ?_ | with_reducible refine Kept.setB ?_ _ _ _ (by omega) | with_reducible refine Kept.row' ?_ _ _ (by omega) | with_reducible refine Kept.map' ?_ _ _ (by omega))))
    have HC := Lib.hid dxC.has
    have HD := Lib.hid dxD.has
    have HE := Lib.hid dxE.has
    generalize w6.heap.size = E at *
    clear hw7 HK7 HK6 cx3 cxC cxD p_w6 hz6 bx0 dxC dxD dxE
    go_wp2_with fail
    refine bodyPost_ret (res1 Tryz.results34 (resC rfl inferInstance)) rfl ?_
    refine ⟨C, D, E, A1, A2, rfl, ?_, (by repeat (first | with_reducible exact HK.out | with_reducible exact Kept.refl _ _ | with_reducible refine Kept.prev ?_ | with_reducible refine Kept.alloc' ?_ _ | with_reducible refine Kept.drew' ?_ | with_reducible refine Kept.setB ?_ _ _ _ (by omega) | with_reducible refine Kept.row' ?_ _ _ (by omega) | with_reducible refine Kept.map' ?_ _ _ (by omega)))⟩
    have hk : ∀ (k : Nat) (ob : Obj), w.heap.size ≠ k → w7.heap[k]? = some ob → (((((w7.setCell ⟨w.heap.size, 0, none⟩ (.slice (some ⟨C, 0, none⟩) 4 4)).setCell ⟨w.heap.size, 1, none⟩ (.slice (some ⟨D, 0, none⟩) 4 4)).setCell ⟨w.heap.size, 2, none⟩ (.slice (some ⟨E, 0, none⟩) 7 7)).setCell ⟨w.heap.size, 3, none⟩ (.slice none 0 0)).setCell ⟨w.heap.size, 4, none⟩ (.slice none 0 0)).heap[k]? = some ob := fun k ob hne h => by
      have e : ∀ (W : World) (j : Nat) (u : Value), (W.setCell ⟨w.heap.size, j, none⟩ u).heap[k]? = W.heap[k]? := fun W j u => heap_setCell_other W _ k u (Ne.symm hne)
      rw [e, e, e, e, e]
      exact h
    refine ⟨?_, ?_, ?_, (show (7 : Nat) ≤ 140737488355328 by decide), (show (4 : Nat) ≤ 140737488355328 by decide), (show (4 : Nat) ≤ 140737488355328 by decide), ?_, ?_, ?_⟩
    · exact rows_block (hk E _ nE HE.out) EntV.len
    · exact rows_block (hk D _ nD HD.out) SubtV.len
    · exact rows_block (hk C _ nC HC.out) TyV.len
    · intro y hy
      simp only [someT, someTs, List.mem_cons, List.not_mem_nil, or_false] at hy
      rcases hy with rfl | rfl | rfl | rfl
      all_goals (simp [rowT, intT, boolT, colorT])
    · intro y hy
      simp only [someT, someSs, List.mem_cons, List.not_mem_nil, or_false] at hy
      rcases hy with rfl | rfl | rfl | rfl
      all_goals simp
    · intro y hy
      simp only [someT, someEs, List.mem_cons, List.not_mem_nil, or_false] at hy
      rcases hy with rfl | rfl | rfl | rfl | rfl | rfl | rfl
      all_goals (simp [entA3, entAv, entAc, zeroE])
end Go.Proofs.YtgdjhhfbpalkdaaGreat
