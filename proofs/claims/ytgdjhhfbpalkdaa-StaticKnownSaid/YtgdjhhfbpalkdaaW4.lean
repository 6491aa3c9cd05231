/- The walk of StaticKnown. -/
import Derived.Test.YtgdjhhfbpalkdaaL6
import Derived.Test.YtgdjhhfbpalkdaaK20
namespace Go.Proofs.Ytgdjhhfbpalkdaa
open Go.RowKit
def monX (B : Nat) (a : ExV) : ExV := .mk 11 19 0 ⟨#[]⟩ (some ⟨B, 0, none⟩) 1 [a] none 0 [] 0 (-1) 0
theorem mon_k {w : World} {B d : Nat} {a : ExV} (h : w.heap[B]? = some (.cells ([a].map ExV.cells).flatten.toArray 34 (0, 0))) (ha : ExK [] w d a) : ExK [] w (d + 1) (monX B a) := exk_list h (by simp) (all_one ha) (by simp) (by decide)
def qualX (B : Nat) : ExV := .mk 8 0 0 ⟨#[]⟩ (some ⟨B, 0, none⟩) 2 [nameX 1 3, nameX 4 3] none 0 [] 0 1 3
def convX (B C : Nat) : ExV := .mk 7 0 0 ⟨#[]⟩ (some ⟨B, 0, none⟩) 1 [nameX 1 3] (some ⟨C, 0, none⟩) 1 [asX (nameX 3 3)] 0 1 3
def inX (k : Int) (B : Nat) : ExV := .mk k 0 0 ⟨#[]⟩ (some ⟨B, 0, none⟩) 2 [nameX 4 3, nameX 1 3] none 0 [] 0 (-1) 2
def condX (C B D : Nat) : ExV := .mk 10 0 0 ⟨#[]⟩ (some ⟨C, 0, none⟩) 3 [inX 13 B, twoX D 4 (numX 7 0) (numX 0 0) 0, numX 3 0] none 0 [] 0 (-1) 0
theorem BoxIs.conv {w : World} {B : Nat} {ty : TypeId} {cs cs' : Array Value} (h : BoxIs w B ty cs) (e : cs = cs') : BoxIs w B ty cs' := e ▸ h
instance (w : World) (B : Nat) (x : ExV) [h : BoxIs w B 34 ([x].map ExV.cells).flatten.toArray] : ExAt w B 0 x := exat_of h.has
def zeroX : ExV := .mk 0 0 0 ⟨#[]⟩ none 0 [] none 0 [] 0 0 0
def nullX : ExV := .mk 2 0 0 ⟨#[]⟩ none 0 [] none 0 [] 0 0 0
def ifX (B S : Nat) : ExV := .mk 10 0 0 ⟨#[]⟩ (some ⟨B, 0, none⟩) 2 [inX 13 S, numX 7 0] none 0 [] 0 0 0
def sLen : ByteArray := ⟨#[76, 101, 110, 103, 116, 104]⟩
def neverL (B1 B2 B3 B4 S : Nat) : List ExV := [zeroX, nameX (-1) 1, nameX 99 1, nameX 6 1, numX 1 9, atX B1 0 sLen 0, atX B2 0 sPos 0, twoX B3 21 (numX 7 0) (numX 3 0) 0, nullX, ifX B4 S]
def fixX : ExV → ExV | .mk k o n s la lc ls aa ac al li e t => if k = 0 then .mk k o n s la lc ls aa ac al li (-1) t else .mk k o n s la lc ls aa ac al li e t
theorem fix_no {x : ExV} (h : x.kind ≠ 0) : fixX x = x := by
  cases x
  exact if_neg h
theorem fix_yes {x : ExV} (h : x.kind = 0) : (fixX x).cells = x.cells.set 7 (.int .i64 (-1)) := by
  cases x
  rename_i k o n s la lc ls aa ac al li e t
  have h0 : k = 0 := h
  subst h0
  rfl
theorem fix_in {w : World} {d : Nat} {x : ExV} (h : ExIn w d x) : ExIn w d (fixX x) := by
  cases d with
  | zero => exact h.elim
  | succ d =>
    cases x
    rename_i k o n s la lc ls aa ac al li e t
    show ExIn w (d + 1) (if k = 0 then .mk k o n s la lc ls aa ac al li (-1) t else .mk k o n s la lc ls aa ac al li e t)
    by_cases hk : k = 0
    · rw [if_pos hk]; exact h
    · rw [if_neg hk]; exact h
theorem never_val (w : World) (A B C : Nat) (a b : Option Addr) (x : ExV) (n : Nat) (hT : TabIn w (someV A B C) (someT a b)) (hx : ExIn w n x) (h : isP (someT a b) n x = false) :
    Calls Try.prog 7 #[.agg ((someV A B C).cells (someT a b)), .agg x.cells.toArray] w (RetV (.tuple #[.int .i64 0, .int .i64 70]) w) := by
  have h1 := Value_any w _ _ x n hT hx
  have h2 : valueP (someT a b) n x = (0, 70) := by
    have h3 : valueP (someT a b) n x = if isP (someT a b) n x then (match valP (someT a b) n x with | some v => (v, (0 : Int)) | none => ((0 : Int), (71 : Int))) else ((0 : Int), (70 : Int)) := rfl
    rw [h3, h]
    rfl
  rw [h2] at h1
  exact h1
theorem never_is (w : World) (A B C : Nat) (a b : Option Addr) (x : ExV) (n : Nat) (hT : TabIn w (someV A B C) (someT a b)) (hx : ExIn w n x) (h : isP (someT a b) n x = false) :
    Calls Try.prog 9 #[.agg ((someV A B C).cells (someT a b)), .agg x.cells.toArray] w (RetV (.bool false) w) := by
  have h1 := Is_any w _ _ x n hT hx
  rw [h] at h1
  exact h1
theorem range_val (w : World) (A B C : Nat) (a b : Option Addr) (sub : Int) (x y : ExV) (n : Nat) (hT : TabIn w (someV A B C) (someT a b)) (hx : ExIn w n x) (hy : ExIn w n y) (lo hi e : Int) (hr : rngP (someT a b) n sub x y = ((lo, hi), e)) :
    Calls Try.prog 22 #[.agg ((someV A B C).cells (someT a b)), .int .i64 sub, .agg x.cells.toArray, .agg y.cells.toArray] w (RetV (.tuple #[.agg #[.int .i64 lo, .int .i64 hi], .int .i64 e]) w) := by
  have h1 := Range_any w (someV A B C) (someT a b) sub x y n hT hx hy
  rw [hr] at h1
  exact h1
theorem ev_cover4 (a b : Option Addr) (A1 l1 : Option Addr) (c1 k1 : Nat) : ∀ q, CovIs (someT a b) 1 3 [⟨A1, c1, [⟨1, l1, k1, [nameX 4 3]⟩]⟩] q → q = 4 := by
  intro q h
  have hE : chE (someT a b) 1 3 [⟨1, l1, k1, [nameX 4 3]⟩] = 4 := by kernel_rfl
  rcases h with ⟨j, x, hx, _, _, hq⟩ | ⟨h, _⟩
  · match j, hx with
    | 0, hx =>
      cases hx
      exact hq.trans hE
  · exact absurd ((h 0 _ rfl).symm.trans hE) (by decide)
theorem ev_cover5 (a b : Option Addr) (n : Nat) : ∀ q, CovIs (someT a b) n 2 [] q → q = 72 := by
  intro q h
  obtain ⟨s, hp, _, hq⟩ := cov_ok h (fun L hL => by cases hL)
  have hp2 : s.Perm [] := hp
  have hs := hp2.eq_nil
  subst hs
  have hE : coverQ (rangeP (someT a b) 2) (wrongTo (someT a b) n 2 [] 0) (restTo (someT a b) n 2 [] 0) [] = 72 := by kernel_rfl
  exact hq.trans hE
theorem ev_cover6 (a b : Option Addr) (A1 A2 l2 : Option Addr) (c1 c2 k2 : Nat) : ∀ q, CovIs (someT a b) 1 2 [⟨A1, c1, [⟨3, none, 0, []⟩]⟩, ⟨A2, c2, [⟨1, l2, k2, [nameX 2 3]⟩]⟩] q → q = 72 := by
  intro q h
  obtain ⟨s, hp, _, rfl⟩ := cov_ok h (all_two (by kernel_rfl) (by kernel_rfl))
  rcases perm_one (show s.Perm [(0, 0)] from hp) with rfl
  kernel_rfl
theorem cover_nil (w : World) (A B C : Nat) (a b : Option Addr) (hT : TabIn w (someV A B C) (someT a b)) :
    Calls Try.prog 16 #[.agg ((someV A B C).cells (someT a b)), .int .i64 2, .slice none 0 0] w (RetV (.int .i64 72) w) := by
  refine (Cover_any w (someV A B C) (someT a b) 2 none 0 [] 1 hT (.inl rfl) (fun y hy => by cases hy) (by simp)).mono ?_
  rintro e w' ⟨q, rfl, hq, hk⟩
  rw [ev_cover5 a b 1 q hq]
  exact ⟨rfl, hk⟩
theorem never_all (a b : Option Addr) (B1 B2 B3 B4 S : Nat) : ∀ x, x ∈ neverL B1 B2 B3 B4 S → isP (someT a b) 3 (fixX x) = false := by
  intro x hx
  simp only [neverL, List.mem_cons, List.not_mem_nil, or_false] at hx
  rcases hx with rfl | rfl | rfl | rfl | rfl | rfl | rfl | rfl | rfl | rfl
  all_goals kernel_rfl
def buildE10 (a b c d e f g h i j : Value) : Sem Next := do return .value (← Instr.buildSlice 31 10 #[(0, a), (1, b), (2, c), (3, d), (4, e), (5, f), (6, g), (7, h), (8, i), (9, j)])
@[go_sem ↓] theorem execOp_buildE10 (ρ : Operand → Value) (dst : Option Tmp) (a b c d e f g h i j : Operand) (ty : TypeId) (pos : String) (after : Array Edge) (guard : Option (Nat × Bool)) :
    execOp ρ { dst, op := .buildSlice 31 10 #[(0, a), (1, b), (2, c), (3, d), (4, e), (5, f), (6, g), (7, h), (8, i), (9, j)], type := ty, pos, after, guard } = buildE10 (ρ a) (ρ b) (ρ c) (ρ d) (ρ e) (ρ f) (ρ g) (ρ h) (ρ i) (ρ j) := by simp [execOp, buildE10]
@[go_sem] theorem run_buildE10 (w : World) (a b c d e f g h i j : ExV) : Sem.run Try.prog (buildE10 (.agg a.cells.toArray) (.agg b.cells.toArray) (.agg c.cells.toArray) (.agg d.cells.toArray) (.agg e.cells.toArray) (.agg f.cells.toArray) (.agg g.cells.toArray) (.agg h.cells.toArray) (.agg i.cells.toArray) (.agg j.cells.toArray)) w =
    .ok (.value (.slice (some ⟨w.heap.size, 0, none⟩) 10 10)) (w.alloc (.cells ([a, b, c, d, e, f, g, h, i, j].map ExV.cells).flatten.toArray 34)) := by kernel_rfl
theorem qual_k {w : World} {B : Nat} (h : w.heap[B]? = some (.cells ([nameX 1 3, nameX 4 3].map ExV.cells).flatten.toArray 34 (0, 0))) : ExK [] w 2 (qualX B) := exk_list h (by simp) (all_two (.nil (name_in _ _ _ _)) (.nil (name_in _ _ _ _))) (by simp) (by decide)
theorem in_k {w : World} {B : Nat} {k : Int} (h : w.heap[B]? = some (.cells ([nameX 4 3, nameX 1 3].map ExV.cells).flatten.toArray 34 (0, 0))) : ExK [] w 2 (inX k B) := exk_list h (by simp) (all_two (.nil (name_in _ _ _ _)) (.nil (name_in _ _ _ _))) (by simp) (by decide)
theorem conv_k {w : World} {B C : Nat} (h : w.heap[B]? = some (.cells ([nameX 1 3].map ExV.cells).flatten.toArray 34 (0, 0))) (h2 : w.heap[C]? = some (.cells ([asX (nameX 3 3)].map AsV.cells).flatten.toArray 60 (0, 0))) : ExK [] w 2 (convX B C) :=
  exk_two h (by simp) (all_one (.nil (name_in _ _ _ _))) h2 (by simp) (all_one (.nil (name_in _ _ _ _))) (by simp) (by simp) (by decide)
set_option maxRecDepth 100000 in
set_option maxHeartbeats 8000000 in
theorem known_law (w : World) : Calls Try.prog 6 #[] w (RetV (.bool true) w) := by
  go_enter Try.func6, Try.ntmps6
  go_wp2_with fail
  refine (number_any _ _ _).mono ?_; rintro e w2 ⟨rfl, hk_w2⟩; haveI p_w2 : PrevWorld w2 _ := ⟨hk_w2⟩; have hz_w2 : w.heap.size ≤ w2.heap.size := Kept.size (by repeat (first | with_reducible exact HK.out | with_reducible exact Kept.refl _ _ | with_reducible refine Kept.prev ?_ | with_reducible refine Kept.alloc' ?_ _ | with_reducible refine Kept.drew' ?_ | with_reducible refine Kept.setB ?_ _ _ _ (by omega) | with_reducible refine Kept.row' ?_ _ _ (by omega) | with_reducible refine Kept.map' ?_ _ _ (by omega))); clear hk_w2
  go_wp2_with fail
  refine (number_any _ _ _).mono ?_; rintro e w3 ⟨rfl, hk_w3⟩; haveI p_w3 : PrevWorld w3 _ := ⟨hk_w3⟩; have hz_w3 : w.heap.size ≤ w3.heap.size := Kept.size (by repeat (first | with_reducible exact HK.out | with_reducible exact Kept.refl _ _ | with_reducible refine Kept.prev ?_ | with_reducible refine Kept.alloc' ?_ _ | with_reducible refine Kept.drew' ?_ | with_reducible refine Kept.setB ?_ _ _ _ (by omega) | with_reducible refine Kept.row' ?_ _ _ (by omega) | with_reducible refine Kept.map' ?_ _ _ (by omega))); clear hk_w3
  go_wp2_with fail
  refine (number_any _ _ _).mono ?_; rintro e w4 ⟨rfl, hk_w4⟩; haveI p_w4 : PrevWorld w4 _ := ⟨hk_w4⟩; have hz_w4 : w.heap.size ≤ w4.heap.size := Kept.size (by repeat (first | with_reducible exact HK.out | with_reducible exact Kept.refl _ _ | with_reducible refine Kept.prev ?_ | with_reducible refine Kept.alloc' ?_ _ | with_reducible refine Kept.drew' ?_ | with_reducible refine Kept.setB ?_ _ _ _ (by omega) | with_reducible refine Kept.row' ?_ _ _ (by omega) | with_reducible refine Kept.map' ?_ _ _ (by omega))); clear hk_w4
  go_upto_region 2 with fail
  refine wp_gen' ?_
  intro w5 hw5
  haveI p_w5 : PrevWorld w5 w4 := ⟨by rw [hw5]; exact (by repeat (first | with_reducible exact HK.out | with_reducible exact Kept.refl _ _ | with_reducible refine Kept.prev ?_ | with_reducible refine Kept.alloc' ?_ _ | with_reducible refine Kept.drew' ?_ | with_reducible refine Kept.setB ?_ _ _ _ (by omega) | with_reducible refine Kept.row' ?_ _ _ (by omega) | with_reducible refine Kept.map' ?_ _ _ (by omega)))⟩
  haveI b1 : BoxIs w5 (w4.heap.size + 1) 34 (numX 7 0).cells.toArray := by rw [hw5]; infer_instance
  haveI b2 : BoxIs w5 (w4.heap.size + 1 + 1) 34 (numX 3 0).cells.toArray := by rw [hw5]; infer_instance
  haveI b3 : BoxIs w5 (w4.heap.size + 1 + 1 + 1) 34 (monX w4.heap.size (numX 7 0)).cells.toArray := by rw [hw5]; exact BoxIs.conv inferInstance rfl
  haveI b3s : BoxIs w5 w4.heap.size 34 ([numX 7 0].map ExV.cells).flatten.toArray := by rw [hw5]; exact BoxIs.conv inferInstance rfl
  have H3 := Lib.hid (fun w' (hk : Kept [] w5 w') => (mon_k (d := 1) b3s.has (num_k _ _ _ _ (by decide))).kept hk)
  clear hw5 b3s
  generalize w4.heap.size + 1 = P1 at *
  generalize w4.heap.size = S3 at *
  go_upto_region 3 with fail
  refine wp_gen' ?_
  intro w6 hw6
  haveI p_w6 : PrevWorld w6 w5 := ⟨by rw [hw6]; exact (by repeat (first | with_reducible exact HK.out | with_reducible exact Kept.refl _ _ | with_reducible refine Kept.prev ?_ | with_reducible refine Kept.alloc' ?_ _ | with_reducible refine Kept.drew' ?_ | with_reducible refine Kept.setB ?_ _ _ _ (by omega) | with_reducible refine Kept.row' ?_ _ _ (by omega) | with_reducible refine Kept.map' ?_ _ _ (by omega)))⟩
  haveI b4 : BoxIs w6 (w5.heap.size + 1) 34 (monX w5.heap.size (numX 3 0)).cells.toArray := by rw [hw6]; exact BoxIs.conv inferInstance rfl
  haveI b4s : BoxIs w6 w5.heap.size 34 ([numX 3 0].map ExV.cells).flatten.toArray := by rw [hw6]; exact BoxIs.conv inferInstance rfl
  have H4 := Lib.hid (fun w' (hk : Kept [] w6 w') => (mon_k (d := 1) b4s.has (num_k _ _ _ _ (by decide))).kept hk)
  clear hw6 b4s
  generalize w5.heap.size + 1 = P4 at *
  generalize w5.heap.size = S4 at *
  refine wp_region_each [⟨37, [], .eq (.agg (monX S3 (numX 7 0)).cells.toArray)⟩, ⟨38, [], .eq (.agg (numX 3 0).cells.toArray)⟩, ⟨39, [37, 38], .ex [] 3 (fun x => ∃ B, x = twoX B 5 (monX S3 (numX 7 0)) (numX 3 0) 0)⟩, ⟨40, [39], .eq (.bool true)⟩, ⟨41, [40], .eq (.bool true)⟩, ⟨42, [41], .eq (.agg (monX S3 (numX 7 0)).cells.toArray)⟩, ⟨43, [41], .eq (.agg (numX 3 0).cells.toArray)⟩, ⟨44, [42, 43, 41], .ex [] 3 (fun x => ∃ B, x = twoX B 6 (monX S3 (numX 7 0)) (numX 3 0) 0)⟩, ⟨45, [44, 41], .eq (.bool true)⟩, ⟨46, [41, 45], .eq (.bool true)⟩, ⟨47, [46], .eq (.bool true)⟩, ⟨48, [47], .eq (.agg (numX 7 0).cells.toArray)⟩, ⟨49, [47], .eq (.agg (monX S4 (numX 3 0)).cells.toArray)⟩, ⟨50, [48, 49, 47], .ex [] 3 (fun x => ∃ B, x = twoX B 5 (numX 7 0) (monX S4 (numX 3 0)) 0)⟩, ⟨51, [50, 47], .eq (.bool true)⟩, ⟨52, [47, 51], .eq (.bool true)⟩, ⟨53, [52], .eq (.bool true)⟩, ⟨54, [53], .eq (.agg (numX 7 0).cells.toArray)⟩, ⟨55, [53], .eq (.agg (numX 2 0).cells.toArray)⟩, ⟨56, [55, 53], .exs [] 1 (fun l => l = [numX 2 0])⟩, ⟨57, [56, 53], .ex [] 2 (fun x => ∃ B, x = monX B (numX 2 0))⟩, ⟨58, [54, 57, 53], .ex [] 3 (fun x => ∃ B C, x = twoX B 4 (numX 7 0) (monX C (numX 2 0)) 0)⟩, ⟨59, [58, 53], .eq (.bool true)⟩, ⟨60, [53, 59], .eq (.bool true)⟩, ⟨5, [60], .eq (.bool true)⟩] (by kernel_rfl) (by kernel_rfl) ?_
  apply Exists.intro
  refine ⟨fun vs => ?_, ?_⟩
  · simp only [List.map_cons, List.map_nil, puts, Act.put, List.setIfInBounds_toArray, List.set_cons_zero, List.set_cons_succ]
    exact rfl
  refine ⟨⟨fun vs w7 hk hg => ?_, fun vs w7 hk hg => ?_, fun vs w7 hk hg => ?_, fun vs w7 hk hg => ?_, fun vs w7 hk hg => ?_, fun vs w7 hk hg => ?_, fun vs w7 hk hg => ?_, fun vs w7 hk hg => ?_, fun vs w7 hk hg => ?_, fun vs w7 hk hg => ?_, fun vs w7 hk hg => ?_, fun vs w7 hk hg => ?_, fun vs w7 hk hg => ?_, fun vs w7 hk hg => ?_, fun vs w7 hk hg => ?_, fun vs w7 hk hg => ?_, fun vs w7 hk hg => ?_, fun vs w7 hk hg => ?_, fun vs w7 hk hg => ?_, fun vs w7 hk hg => ?_, fun vs w7 hk hg => ?_, fun vs w7 hk hg => ?_, fun vs w7 hk hg => ?_, fun vs w7 hk hg => ?_, fun vs w7 hk hg => ?_, trivial⟩, fun vs w7 hk hg => ?_⟩
  all_goals
    haveI p_w7 : PrevWorld w7 _ := ⟨hk⟩
    have hz_w7 := hk.size
    clear hk
    (try simp only [given, allGiven, look, SP.eq_p, SP.ex_p, SP.exs_p, SP.asl_p, Nat.reduceEqDiff, reduceIte, and_true] at hg)
    (try simp only [SP.tab_p, SP.row_p, SP.box_p] at hg)
  · clear hg
    go_wp2_with fail
    exact ⟨(by repeat (first | with_reducible exact HK.out | with_reducible exact Kept.refl _ _ | with_reducible refine Kept.prev ?_ | with_reducible refine Kept.alloc' ?_ _ | with_reducible refine Kept.drew' ?_ | with_reducible refine Kept.setB ?_ _ _ _ (by omega) | with_reducible refine Kept.row' ?_ _ _ (by omega) | with_reducible refine Kept.map' ?_ _ _ (by omega))), rfl, rfl⟩
  · clear hg
    go_wp2_with fail
    exact ⟨(by repeat (first | with_reducible exact HK.out | with_reducible exact Kept.refl _ _ | with_reducible refine Kept.prev ?_ | with_reducible refine Kept.alloc' ?_ _ | with_reducible refine Kept.drew' ?_ | with_reducible refine Kept.setB ?_ _ _ _ (by omega) | with_reducible refine Kept.row' ?_ _ _ (by omega) | with_reducible refine Kept.map' ?_ _ _ (by omega))), rfl, rfl⟩
  · obtain ⟨e37, e38⟩ := hg
    (try simp only [e37, e38])
    go_wp2_with fail
    refine (two_any [] _ 5 (monX S3 (numX 7 0)) (numX 3 0) 0 2 no_q (H3.out _ (by repeat (first | with_reducible exact HK.out | with_reducible exact Kept.refl _ _ | with_reducible refine Kept.prev ?_ | with_reducible refine Kept.alloc' ?_ _ | with_reducible refine Kept.drew' ?_ | with_reducible refine Kept.setB ?_ _ _ _ (by omega) | with_reducible refine Kept.row' ?_ _ _ (by omega) | with_reducible refine Kept.map' ?_ _ _ (by omega)))) (num_k _ _ _ 1 (by decide))).mono ?_
    rintro e w9 ⟨x, rfl, hp, hi, hk9⟩
    go_wp2_with fail
    exact ⟨hk9, rfl, x, rfl, hp, hi⟩
  · obtain ⟨x39, e39, ⟨B39, rfl⟩, i39⟩ := hg
    go_wp2_with fail
    refine (gives_true _ _ 3 2 0 i39.in (fun a b => by kernel_rfl)).mono ?_
    rintro e w9 ⟨rfl, hk9⟩
    go_wp2_with fail
    exact ⟨hk9, rfl, rfl⟩
  · obtain e40 := hg
    (try simp only [e40])
    go_wp2_with fail
    exact ⟨(by repeat (first | with_reducible exact HK.out | with_reducible exact Kept.refl _ _ | with_reducible refine Kept.prev ?_ | with_reducible refine Kept.alloc' ?_ _ | with_reducible refine Kept.drew' ?_ | with_reducible refine Kept.setB ?_ _ _ _ (by omega) | with_reducible refine Kept.row' ?_ _ _ (by omega) | with_reducible refine Kept.map' ?_ _ _ (by omega))), rfl, rfl⟩
  · obtain e41 := hg
    (try simp only [e41])
    go_wp2_with fail
    exact ⟨(by repeat (first | with_reducible exact HK.out | with_reducible exact Kept.refl _ _ | with_reducible refine Kept.prev ?_ | with_reducible refine Kept.alloc' ?_ _ | with_reducible refine Kept.drew' ?_ | with_reducible refine Kept.setB ?_ _ _ _ (by omega) | with_reducible refine Kept.row' ?_ _ _ (by omega) | with_reducible refine Kept.map' ?_ _ _ (by omega))), rfl, rfl⟩
  · obtain e41 := hg
    (try simp only [e41])
    go_wp2_with fail
    exact ⟨(by repeat (first | with_reducible exact HK.out | with_reducible exact Kept.refl _ _ | with_reducible refine Kept.prev ?_ | with_reducible refine Kept.alloc' ?_ _ | with_reducible refine Kept.drew' ?_ | with_reducible refine Kept.setB ?_ _ _ _ (by omega) | with_reducible refine Kept.row' ?_ _ _ (by omega) | with_reducible refine Kept.map' ?_ _ _ (by omega))), rfl, rfl⟩
  · obtain ⟨e42, e43, e41⟩ := hg
    (try simp only [e42, e43, e41])
    go_wp2_with fail
    refine (two_any [] _ 6 (monX S3 (numX 7 0)) (numX 3 0) 0 2 no_q (H3.out _ (by repeat (first | with_reducible exact HK.out | with_reducible exact Kept.refl _ _ | with_reducible refine Kept.prev ?_ | with_reducible refine Kept.alloc' ?_ _ | with_reducible refine Kept.drew' ?_ | with_reducible refine Kept.setB ?_ _ _ _ (by omega) | with_reducible refine Kept.row' ?_ _ _ (by omega) | with_reducible refine Kept.map' ?_ _ _ (by omega)))) (num_k _ _ _ 1 (by decide))).mono ?_
    rintro e w9 ⟨x, rfl, hp, hi, hk9⟩
    go_wp2_with fail
    exact ⟨hk9, rfl, x, rfl, hp, hi⟩
  · obtain ⟨⟨x44, e44, ⟨B44, rfl⟩, i44⟩, e41⟩ := hg
    (try simp only [e41])
    go_wp2_with fail
    refine (gives_true _ _ 3 (-1) 0 i44.in (fun a b => by kernel_rfl)).mono ?_
    rintro e w9 ⟨rfl, hk9⟩
    go_wp2_with fail
    exact ⟨hk9, rfl, rfl⟩
  · obtain ⟨e41, e45⟩ := hg
    (try simp only [e41, e45])
    go_wp2_with fail
    exact ⟨(by repeat (first | with_reducible exact HK.out | with_reducible exact Kept.refl _ _ | with_reducible refine Kept.prev ?_ | with_reducible refine Kept.alloc' ?_ _ | with_reducible refine Kept.drew' ?_ | with_reducible refine Kept.setB ?_ _ _ _ (by omega) | with_reducible refine Kept.row' ?_ _ _ (by omega) | with_reducible refine Kept.map' ?_ _ _ (by omega))), rfl, rfl⟩
  · obtain e46 := hg
    (try simp only [e46])
    go_wp2_with fail
    exact ⟨(by repeat (first | with_reducible exact HK.out | with_reducible exact Kept.refl _ _ | with_reducible refine Kept.prev ?_ | with_reducible refine Kept.alloc' ?_ _ | with_reducible refine Kept.drew' ?_ | with_reducible refine Kept.setB ?_ _ _ _ (by omega) | with_reducible refine Kept.row' ?_ _ _ (by omega) | with_reducible refine Kept.map' ?_ _ _ (by omega))), rfl, rfl⟩
  · obtain e47 := hg
    (try simp only [e47])
    go_wp2_with fail
    exact ⟨(by repeat (first | with_reducible exact HK.out | with_reducible exact Kept.refl _ _ | with_reducible refine Kept.prev ?_ | with_reducible refine Kept.alloc' ?_ _ | with_reducible refine Kept.drew' ?_ | with_reducible refine Kept.setB ?_ _ _ _ (by omega) | with_reducible refine Kept.row' ?_ _ _ (by omega) | with_reducible refine Kept.map' ?_ _ _ (by omega))), rfl, rfl⟩
  · obtain e47 := hg
    (try simp only [e47])
    go_wp2_with fail
    exact ⟨(by repeat (first | with_reducible exact HK.out | with_reducible exact Kept.refl _ _ | with_reducible refine Kept.prev ?_ | with_reducible refine Kept.alloc' ?_ _ | with_reducible refine Kept.drew' ?_ | with_reducible refine Kept.setB ?_ _ _ _ (by omega) | with_reducible refine Kept.row' ?_ _ _ (by omega) | with_reducible refine Kept.map' ?_ _ _ (by omega))), rfl, rfl⟩
  · obtain ⟨e48, e49, e47⟩ := hg
    (try simp only [e48, e49, e47])
    go_wp2_with fail
    refine (two_any [] _ 5 (numX 7 0) (monX S4 (numX 3 0)) 0 2 no_q (num_k _ _ _ 1 (by decide)) (H4.out _ (by repeat (first | with_reducible exact HK.out | with_reducible exact Kept.refl _ _ | with_reducible refine Kept.prev ?_ | with_reducible refine Kept.alloc' ?_ _ | with_reducible refine Kept.drew' ?_ | with_reducible refine Kept.setB ?_ _ _ _ (by omega) | with_reducible refine Kept.row' ?_ _ _ (by omega) | with_reducible refine Kept.map' ?_ _ _ (by omega))))).mono ?_
    rintro e w9 ⟨x, rfl, hp, hi, hk9⟩
    go_wp2_with fail
    exact ⟨hk9, rfl, x, rfl, hp, hi⟩
  · obtain ⟨⟨x50, e50, ⟨B50, rfl⟩, i50⟩, e47⟩ := hg
    (try simp only [e47])
    go_wp2_with fail
    refine (gives_true _ _ 3 (-2) 0 i50.in (fun a b => by kernel_rfl)).mono ?_
    rintro e w9 ⟨rfl, hk9⟩
    go_wp2_with fail
    exact ⟨hk9, rfl, rfl⟩
  · obtain ⟨e47, e51⟩ := hg
    (try simp only [e47, e51])
    go_wp2_with fail
    exact ⟨(by repeat (first | with_reducible exact HK.out | with_reducible exact Kept.refl _ _ | with_reducible refine Kept.prev ?_ | with_reducible refine Kept.alloc' ?_ _ | with_reducible refine Kept.drew' ?_ | with_reducible refine Kept.setB ?_ _ _ _ (by omega) | with_reducible refine Kept.row' ?_ _ _ (by omega) | with_reducible refine Kept.map' ?_ _ _ (by omega))), rfl, rfl⟩
  · obtain e52 := hg
    (try simp only [e52])
    go_wp2_with fail
    exact ⟨(by repeat (first | with_reducible exact HK.out | with_reducible exact Kept.refl _ _ | with_reducible refine Kept.prev ?_ | with_reducible refine Kept.alloc' ?_ _ | with_reducible refine Kept.drew' ?_ | with_reducible refine Kept.setB ?_ _ _ _ (by omega) | with_reducible refine Kept.row' ?_ _ _ (by omega) | with_reducible refine Kept.map' ?_ _ _ (by omega))), rfl, rfl⟩
  · obtain e53 := hg
    (try simp only [e53])
    go_wp2_with fail
    exact ⟨(by repeat (first | with_reducible exact HK.out | with_reducible exact Kept.refl _ _ | with_reducible refine Kept.prev ?_ | with_reducible refine Kept.alloc' ?_ _ | with_reducible refine Kept.drew' ?_ | with_reducible refine Kept.setB ?_ _ _ _ (by omega) | with_reducible refine Kept.row' ?_ _ _ (by omega) | with_reducible refine Kept.map' ?_ _ _ (by omega))), rfl, rfl⟩
  · obtain e53 := hg
    (try simp only [e53])
    go_wp2_with fail
    refine (number_any _ _ _).mono ?_
    rintro e w9 ⟨rfl, hk9⟩
    go_wp2_with fail
    exact ⟨hk9, rfl, rfl⟩
  · obtain ⟨e55, e53⟩ := hg
    (try simp only [e55, e53])
    go_wp2_with fail
    exact ⟨(by repeat (first | with_reducible exact HK.out | with_reducible exact Kept.refl _ _ | with_reducible refine Kept.prev ?_ | with_reducible refine Kept.alloc' ?_ _ | with_reducible refine Kept.drew' ?_ | with_reducible refine Kept.setB ?_ _ _ _ (by omega) | with_reducible refine Kept.row' ?_ _ _ (by omega) | with_reducible refine Kept.map' ?_ _ _ (by omega))), rfl, _, [numX 2 0], rfl, rfl, box_at _ _, (fun h => by cases h), all_one (num_k _ _ _ _ (by decide))⟩
  · obtain ⟨⟨C56, _, e56, rfl, h56, _, i56⟩, e53⟩ := hg
    (try simp only [e53])
    go_wp2_with fail
    exact ⟨(by repeat (first | with_reducible exact HK.out | with_reducible exact Kept.refl _ _ | with_reducible refine Kept.prev ?_ | with_reducible refine Kept.alloc' ?_ _ | with_reducible refine Kept.drew' ?_ | with_reducible refine Kept.setB ?_ _ _ _ (by omega) | with_reducible refine Kept.row' ?_ _ _ (by omega) | with_reducible refine Kept.map' ?_ _ _ (by omega))), rfl, monX C56 (numX 2 0), rfl, ⟨_, rfl⟩, mon_k h56 (num_k _ _ _ _ (by decide))⟩
  · obtain ⟨e54, ⟨x57, e57, ⟨B57, rfl⟩, i57⟩, e53⟩ := hg
    (try simp only [e54, e53])
    go_wp2_with fail
    refine (two_any [] _ 4 (numX 7 0) (monX B57 (numX 2 0)) 0 2 no_q (num_k _ _ _ 1 (by decide)) i57).mono ?_
    rintro e w9 ⟨x, rfl, ⟨B, rfl⟩, hi, hk9⟩
    go_wp2_with fail
    exact ⟨hk9, rfl, _, rfl, ⟨B, B57, rfl⟩, hi⟩
  · obtain ⟨⟨x58, e58, ⟨B58, C58, rfl⟩, i58⟩, e53⟩ := hg
    (try simp only [e53])
    go_wp2_with fail
    refine (gives_true _ _ 3 (-3) 0 i58.in (fun a b => by kernel_rfl)).mono ?_
    rintro e w9 ⟨rfl, hk9⟩
    go_wp2_with fail
    exact ⟨hk9, rfl, rfl⟩
  · obtain ⟨e53, e59⟩ := hg
    (try simp only [e53, e59])
    go_wp2_with fail
    exact ⟨(by repeat (first | with_reducible exact HK.out | with_reducible exact Kept.refl _ _ | with_reducible refine Kept.prev ?_ | with_reducible refine Kept.alloc' ?_ _ | with_reducible refine Kept.drew' ?_ | with_reducible refine Kept.setB ?_ _ _ _ (by omega) | with_reducible refine Kept.row' ?_ _ _ (by omega) | with_reducible refine Kept.map' ?_ _ _ (by omega))), rfl, rfl⟩
  · obtain e60 := hg
    (try simp only [e60])
    go_wp2_with fail
    exact ⟨(by repeat (first | with_reducible exact HK.out | with_reducible exact Kept.refl _ _ | with_reducible refine Kept.prev ?_ | with_reducible refine Kept.alloc' ?_ _ | with_reducible refine Kept.drew' ?_ | with_reducible refine Kept.setB ?_ _ _ _ (by omega) | with_reducible refine Kept.row' ?_ _ _ (by omega) | with_reducible refine Kept.map' ?_ _ _ (by omega))), rfl, rfl⟩
  obtain ⟨-, -, -, -, -, -, -, -, -, -, -, -, -, -, -, -, -, -, -, -, -, -, -, -, e5⟩ := hg
  refine wpList_nil ?_
  simp only [e5]
  clear e5 H4
  go_wp2_with fail
  refine (name_any _ _ _).mono ?_; rintro e w8 ⟨rfl, hk_w8⟩; haveI p_w8 : PrevWorld w8 _ := ⟨hk_w8⟩; have hz_w8 : w.heap.size ≤ w8.heap.size := Kept.size (by repeat (first | with_reducible exact HK.out | with_reducible exact Kept.refl _ _ | with_reducible refine Kept.prev ?_ | with_reducible refine Kept.alloc' ?_ _ | with_reducible refine Kept.drew' ?_ | with_reducible refine Kept.setB ?_ _ _ _ (by omega) | with_reducible refine Kept.row' ?_ _ _ (by omega) | with_reducible refine Kept.map' ?_ _ _ (by omega))); clear hk_w8
  go_wp2_with fail
  refine (name_any _ _ _).mono ?_; rintro e w9 ⟨rfl, hk_w9⟩; haveI p_w9 : PrevWorld w9 _ := ⟨hk_w9⟩; have hz_w9 : w.heap.size ≤ w9.heap.size := Kept.size (by repeat (first | with_reducible exact HK.out | with_reducible exact Kept.refl _ _ | with_reducible refine Kept.prev ?_ | with_reducible refine Kept.alloc' ?_ _ | with_reducible refine Kept.drew' ?_ | with_reducible refine Kept.setB ?_ _ _ _ (by omega) | with_reducible refine Kept.row' ?_ _ _ (by omega) | with_reducible refine Kept.map' ?_ _ _ (by omega))); clear hk_w9
  go_upto_region 5 with fail
  refine wp_gen' ?_
  intro w10 hw10
  haveI p_w10 : PrevWorld w10 w9 := ⟨by rw [hw10]; exact (by repeat (first | with_reducible exact HK.out | with_reducible exact Kept.refl _ _ | with_reducible refine Kept.prev ?_ | with_reducible refine Kept.alloc' ?_ _ | with_reducible refine Kept.drew' ?_ | with_reducible refine Kept.setB ?_ _ _ _ (by omega) | with_reducible refine Kept.row' ?_ _ _ (by omega) | with_reducible refine Kept.map' ?_ _ _ (by omega)))⟩
  haveI b6 : BoxIs w10 (w9.heap.size + 1) 34 (qualX w9.heap.size).cells.toArray := by rw [hw10]; exact BoxIs.conv inferInstance rfl
  haveI b6s : BoxIs w10 w9.heap.size 34 ([nameX 1 3, nameX 4 3].map ExV.cells).flatten.toArray := by rw [hw10]; exact BoxIs.conv inferInstance rfl
  have H6 := Lib.hid (fun w' (hk : Kept [] w10 w') => (qual_k b6s.has).kept hk)
  clear hw10 b6s
  generalize w9.heap.size + 1 = P6 at *
  generalize w9.heap.size = S6 at *
  go_wp2_with fail
  refine (name_any _ _ _).mono ?_; rintro e w11 ⟨rfl, hk_w11⟩; haveI p_w11 : PrevWorld w11 _ := ⟨hk_w11⟩; have hz_w11 : w.heap.size ≤ w11.heap.size := Kept.size (by repeat (first | with_reducible exact HK.out | with_reducible exact Kept.refl _ _ | with_reducible refine Kept.prev ?_ | with_reducible refine Kept.alloc' ?_ _ | with_reducible refine Kept.drew' ?_ | with_reducible refine Kept.setB ?_ _ _ _ (by omega) | with_reducible refine Kept.row' ?_ _ _ (by omega) | with_reducible refine Kept.map' ?_ _ _ (by omega))); clear hk_w11
  go_wp2_with fail
  refine (name_any _ _ _).mono ?_; rintro e w12 ⟨rfl, hk_w12⟩; haveI p_w12 : PrevWorld w12 _ := ⟨hk_w12⟩; have hz_w12 : w.heap.size ≤ w12.heap.size := Kept.size (by repeat (first | with_reducible exact HK.out | with_reducible exact Kept.refl _ _ | with_reducible refine Kept.prev ?_ | with_reducible refine Kept.alloc' ?_ _ | with_reducible refine Kept.drew' ?_ | with_reducible refine Kept.setB ?_ _ _ _ (by omega) | with_reducible refine Kept.row' ?_ _ _ (by omega) | with_reducible refine Kept.map' ?_ _ _ (by omega))); clear hk_w12
  go_upto_region 6 with fail
  refine wp_gen' ?_
  intro w13 hw13
  haveI p_w13 : PrevWorld w13 w12 := ⟨by rw [hw13]; exact (by repeat (first | with_reducible exact HK.out | with_reducible exact Kept.refl _ _ | with_reducible refine Kept.prev ?_ | with_reducible refine Kept.alloc' ?_ _ | with_reducible refine Kept.drew' ?_ | with_reducible refine Kept.setB ?_ _ _ _ (by omega) | with_reducible refine Kept.row' ?_ _ _ (by omega) | with_reducible refine Kept.map' ?_ _ _ (by omega)))⟩
  haveI b7 : BoxIs w13 (w12.heap.size + 1) 34 (convX w11.heap.size w12.heap.size).cells.toArray := by rw [hw13]; exact BoxIs.conv inferInstance rfl
  haveI b7s : BoxIs w13 w11.heap.size 34 ([nameX 1 3].map ExV.cells).flatten.toArray := by rw [hw13]; exact BoxIs.conv inferInstance rfl
  haveI b7t : BoxIs w13 w12.heap.size 60 ([asX (nameX 3 3)].map AsV.cells).flatten.toArray := by rw [hw13]; exact BoxIs.conv inferInstance rfl
  have H7 := Lib.hid (fun w' (hk : Kept [] w13 w') => (conv_k b7s.has b7t.has).kept hk)
  clear hw13 b7s b7t
  generalize w12.heap.size + 1 = P7 at *
  generalize w11.heap.size = S7 at *
  generalize w12.heap.size = T7 at *
  go_wp2_with fail
  refine (name_any _ _ _).mono ?_; rintro e w14 ⟨rfl, hk_w14⟩; haveI p_w14 : PrevWorld w14 _ := ⟨hk_w14⟩; have hz_w14 : w.heap.size ≤ w14.heap.size := Kept.size (by repeat (first | with_reducible exact HK.out | with_reducible exact Kept.refl _ _ | with_reducible refine Kept.prev ?_ | with_reducible refine Kept.alloc' ?_ _ | with_reducible refine Kept.drew' ?_ | with_reducible refine Kept.setB ?_ _ _ _ (by omega) | with_reducible refine Kept.row' ?_ _ _ (by omega) | with_reducible refine Kept.map' ?_ _ _ (by omega))); clear hk_w14
  go_wp2_with fail
  refine (name_any _ _ _).mono ?_; rintro e w15 ⟨rfl, hk_w15⟩; haveI p_w15 : PrevWorld w15 _ := ⟨hk_w15⟩; have hz_w15 : w.heap.size ≤ w15.heap.size := Kept.size (by repeat (first | with_reducible exact HK.out | with_reducible exact Kept.refl _ _ | with_reducible refine Kept.prev ?_ | with_reducible refine Kept.alloc' ?_ _ | with_reducible refine Kept.drew' ?_ | with_reducible refine Kept.setB ?_ _ _ _ (by omega) | with_reducible refine Kept.row' ?_ _ _ (by omega) | with_reducible refine Kept.map' ?_ _ _ (by omega))); clear hk_w15
  go_upto_region 7 with fail
  refine wp_gen' ?_
  intro w18 hw18
  haveI p_w18 : PrevWorld w18 w15 := ⟨by rw [hw18]; exact (by repeat (first | with_reducible exact HK.out | with_reducible exact Kept.refl _ _ | with_reducible refine Kept.prev ?_ | with_reducible refine Kept.alloc' ?_ _ | with_reducible refine Kept.drew' ?_ | with_reducible refine Kept.setB ?_ _ _ _ (by omega) | with_reducible refine Kept.row' ?_ _ _ (by omega) | with_reducible refine Kept.map' ?_ _ _ (by omega)))⟩
  haveI b8 : BoxIs w18 (w15.heap.size + 1) 34 (inX 13 w15.heap.size).cells.toArray := by rw [hw18]; exact BoxIs.conv inferInstance rfl
  haveI b8s : BoxIs w18 w15.heap.size 34 ([nameX 4 3, nameX 1 3].map ExV.cells).flatten.toArray := by rw [hw18]; exact BoxIs.conv inferInstance rfl
  have H8 := Lib.hid (fun w' k (hk : Kept [] w18 w') => (in_k (k := k) b8s.has).kept hk)
  clear hw18 b8s
  generalize w15.heap.size + 1 = P8 at *
  generalize w15.heap.size = S8 at *
  go_upto_region 9 with fail
  refine wp_gen' ?_
  intro w16 hw16
  haveI p_w16 : PrevWorld w16 w18 := ⟨by rw [hw16]; exact (by repeat (first | with_reducible exact HK.out | with_reducible exact Kept.refl _ _ | with_reducible refine Kept.prev ?_ | with_reducible refine Kept.alloc' ?_ _ | with_reducible refine Kept.drew' ?_ | with_reducible refine Kept.setB ?_ _ _ _ (by omega) | with_reducible refine Kept.row' ?_ _ _ (by omega) | with_reducible refine Kept.map' ?_ _ _ (by omega)))⟩
  haveI b9 : BoxIs w16 w18.heap.size 34 (inX 14 S8).cells.toArray := by rw [hw16]; exact BoxIs.conv inferInstance rfl
  clear hw16
  generalize w18.heap.size = P9 at *
  refine wp_region_each [⟨77, [], .eq (.agg (inX 13 S8).cells.toArray)⟩, ⟨78, [], .eq (.agg (numX 7 0).cells.toArray)⟩, ⟨79, [], .eq (.agg (numX 0 0).cells.toArray)⟩, ⟨80, [78, 79], .ex [] 2 (fun x => ∃ B, x = twoX B 4 (numX 7 0) (numX 0 0) 0)⟩, ⟨81, [], .eq (.agg (numX 3 0).cells.toArray)⟩, ⟨82, [77, 80, 81], ⟨fun v w => ∃ C D : Nat, v = .slice (some ⟨C, 0, none⟩) 3 3 ∧ w.heap[C]? = some (.cells ([inX 13 S8, twoX D 4 (numX 7 0) (numX 0 0) 0, numX 3 0].map ExV.cells).flatten.toArray 34 (0, 0)) ∧ ExK [] w 2 (twoX D 4 (numX 7 0) (numX 0 0) 0), fun _ _ _ ⟨C, D, h1, h2, h3⟩ hk => ⟨C, D, h1, hk.obj h2 (by simp), h3.kept hk⟩⟩⟩, ⟨83, [82], ⟨fun v w => ∃ C D : Nat, v = .agg (condX C S8 D).cells.toArray ∧ w.heap[C]? = some (.cells ([inX 13 S8, twoX D 4 (numX 7 0) (numX 0 0) 0, numX 3 0].map ExV.cells).flatten.toArray 34 (0, 0)) ∧ ExK [] w 2 (twoX D 4 (numX 7 0) (numX 0 0) 0), fun _ _ _ ⟨C, D, h1, h2, h3⟩ hk => ⟨C, D, h1, hk.obj h2 (by simp), h3.kept hk⟩⟩⟩, ⟨10, [], .box w16.heap.size 34 (ExV.mk 0 0 0 ⟨#[]⟩ none 0 [] none 0 [] 0 0 0).cells.toArray⟩] (by kernel_rfl) (by kernel_rfl) ?_
  apply Exists.intro
  refine ⟨fun vs => ?_, ?_⟩
  · simp only [List.map_cons, List.map_nil, puts, Act.put, List.setIfInBounds_toArray, List.set_cons_zero, List.set_cons_succ]
    exact rfl
  refine ⟨⟨fun vs w17 hk hg => ?_, fun vs w17 hk hg => ?_, fun vs w17 hk hg => ?_, fun vs w17 hk hg => ?_, fun vs w17 hk hg => ?_, fun vs w17 hk hg => ?_, fun vs w17 hk hg => ?_, fun vs w17 hk hg => ?_, trivial⟩, fun vs w17 hk hg => ?_⟩
  all_goals
    haveI p_w17 : PrevWorld w17 _ := ⟨hk⟩
    have hz_w17 := hk.size
    clear hk
    (try simp only [given, allGiven, look, SP.eq_p, SP.ex_p, SP.exs_p, SP.asl_p, Nat.reduceEqDiff, reduceIte, and_true] at hg)
    (try simp only [SP.tab_p, SP.row_p, SP.box_p] at hg)
  · clear hg
    go_wp2_with fail
    exact ⟨(by repeat (first | with_reducible exact HK.out | with_reducible exact Kept.refl _ _ | with_reducible refine Kept.prev ?_ | with_reducible refine Kept.alloc' ?_ _ | with_reducible refine Kept.drew' ?_ | with_reducible refine Kept.setB ?_ _ _ _ (by omega) | with_reducible refine Kept.row' ?_ _ _ (by omega) | with_reducible refine Kept.map' ?_ _ _ (by omega))), rfl, rfl⟩
  · clear hg
    go_wp2_with fail
    exact ⟨(by repeat (first | with_reducible exact HK.out | with_reducible exact Kept.refl _ _ | with_reducible refine Kept.prev ?_ | with_reducible refine Kept.alloc' ?_ _ | with_reducible refine Kept.drew' ?_ | with_reducible refine Kept.setB ?_ _ _ _ (by omega) | with_reducible refine Kept.row' ?_ _ _ (by omega) | with_reducible refine Kept.map' ?_ _ _ (by omega))), rfl, rfl⟩
  · clear hg
    go_wp2_with fail
    refine (number_any _ _ _).mono ?_
    rintro e w9 ⟨rfl, hk9⟩
    go_wp2_with fail
    exact ⟨hk9, rfl, rfl⟩
  · obtain ⟨e78, e79⟩ := hg
    (try simp only [e78, e79])
    go_wp2_with fail
    refine (two_any [] _ 4 (numX 7 0) (numX 0 0) 0 1 no_q (num_k _ _ _ _ (by decide)) (num_k _ _ _ _ (by decide))).mono ?_
    rintro e w9 ⟨x, rfl, hp, hi, hk9⟩
    go_wp2_with fail
    exact ⟨hk9, rfl, x, rfl, hp, hi⟩
  · clear hg
    go_wp2_with fail
    exact ⟨(by repeat (first | with_reducible exact HK.out | with_reducible exact Kept.refl _ _ | with_reducible refine Kept.prev ?_ | with_reducible refine Kept.alloc' ?_ _ | with_reducible refine Kept.drew' ?_ | with_reducible refine Kept.setB ?_ _ _ _ (by omega) | with_reducible refine Kept.row' ?_ _ _ (by omega) | with_reducible refine Kept.map' ?_ _ _ (by omega))), rfl, rfl⟩
  · obtain ⟨e77, ⟨x80, e80, ⟨B80, rfl⟩, i80⟩, e81⟩ := hg
    (try simp only [e77, e81])
    go_wp2_with fail
    exact ⟨(by repeat (first | with_reducible exact HK.out | with_reducible exact Kept.refl _ _ | with_reducible refine Kept.prev ?_ | with_reducible refine Kept.alloc' ?_ _ | with_reducible refine Kept.drew' ?_ | with_reducible refine Kept.setB ?_ _ _ _ (by omega) | with_reducible refine Kept.row' ?_ _ _ (by omega) | with_reducible refine Kept.map' ?_ _ _ (by omega))), rfl, _, B80, rfl, box_at _ _, i80.kept (by repeat (first | with_reducible exact HK.out | with_reducible exact Kept.refl _ _ | with_reducible refine Kept.prev ?_ | with_reducible refine Kept.alloc' ?_ _ | with_reducible refine Kept.drew' ?_ | with_reducible refine Kept.setB ?_ _ _ _ (by omega) | with_reducible refine Kept.row' ?_ _ _ (by omega) | with_reducible refine Kept.map' ?_ _ _ (by omega)))⟩
  · obtain ⟨C82, D82, e82, h82, i82⟩ := hg
    go_wp2_with fail
    exact ⟨(by repeat (first | with_reducible exact HK.out | with_reducible exact Kept.refl _ _ | with_reducible refine Kept.prev ?_ | with_reducible refine Kept.alloc' ?_ _ | with_reducible refine Kept.drew' ?_ | with_reducible refine Kept.setB ?_ _ _ _ (by omega) | with_reducible refine Kept.row' ?_ _ _ (by omega) | with_reducible refine Kept.map' ?_ _ _ (by omega))), rfl, C82, D82, rfl, h82, i82⟩
  · clear hg
    go_wp2_with fail
    exact ⟨(by repeat (first | with_reducible exact HK.out | with_reducible exact Kept.refl _ _ | with_reducible refine Kept.prev ?_ | with_reducible refine Kept.alloc' ?_ _ | with_reducible refine Kept.drew' ?_ | with_reducible refine Kept.setB ?_ _ _ _ (by omega) | with_reducible refine Kept.row' ?_ _ _ (by omega) | with_reducible refine Kept.map' ?_ _ _ (by omega))), rfl, _, rfl, hz_w17, box_at _ _⟩
  obtain ⟨-, -, -, -, -, -, ⟨C83, D83, e83, h83, i83⟩, ⟨B10, e10, hB10, h10⟩⟩ := hg
  have hC : B10 ≠ C83 := fun e => by
    subst e
    rw [h10] at h83
    have := congrArg (fun o : Option Obj => match o with | some (.cells cs _ _) => cs.size | _ => 0) h83
    simp at this
    have h9 : (9 : Nat) = 9 + (9 + 9) := this
    omega
  have hD : B10 ≠ D83 := fun e => by
    subst e
    obtain ⟨b, o, ha, hr⟩ := (i83.in.1).some_ (j := 1) (x := numX 0 0) rfl
    have h1 := hr 1 _ rfl 0 _ rfl
    cases ha
    rw [cell_of_row _ _ _ _ _ _ h10] at h1
    cases h1
  have HD : Hid (∀ W cs, W = w17.setRow B10 cs → ExK [] W 2 (twoX D83 4 (numX 7 0) (numX 0 0) 0)) := fun W cs hW => by
    subst hW
    refine .nil (ex_mk ?_ (all_two (num_in _ _ _ _ (by decide)) (num_in _ _ _ _ (by decide))) (.inl rfl) (fun y hy => by cases hy) (by simp) (by simp) (by decide))
    rcases i83.in.1 with h | ⟨b, o, ha, hr⟩
    · cases h
    · cases ha
      exact .inr ⟨D83, 0, rfl, fun j r hj => range_setRow (hr j r hj) B10 cs hD⟩
  haveI bx10 : BoxIs w17 B10 34 _ := ⟨h10⟩
  have hBw : w.heap.size ≤ B10 := Nat.le_trans (Kept.size (X := []) (show Kept [] w w16 from (by repeat (first | with_reducible exact HK.out | with_reducible exact Kept.refl _ _ | with_reducible refine Kept.prev ?_ | with_reducible refine Kept.alloc' ?_ _ | with_reducible refine Kept.drew' ?_ | with_reducible refine Kept.setB ?_ _ _ _ (by omega) | with_reducible refine Kept.row' ?_ _ _ (by omega) | with_reducible refine Kept.map' ?_ _ _ (by omega))))) hB10
  have hB18 : w18.heap.size ≤ B10 := Nat.le_trans (Kept.size (X := []) (show Kept [] w18 w16 from (by repeat (first | with_reducible exact HK.out | with_reducible exact Kept.refl _ _ | with_reducible refine Kept.prev ?_ | with_reducible refine Kept.alloc' ?_ _ | with_reducible refine Kept.drew' ?_ | with_reducible refine Kept.setB ?_ _ _ _ (by omega) | with_reducible refine Kept.row' ?_ _ _ (by omega) | with_reducible refine Kept.map' ?_ _ _ (by omega))))) hB10
  have HC83 : Hid (∀ cs, (w17.setRow B10 cs).heap[C83]? = some (.cells ([inX 13 S8, twoX D83 4 (numX 7 0) (numX 0 0) 0, numX 3 0].map ExV.cells).flatten.toArray 34 (0, 0))) := fun cs => by
    simp only [World.setRow, Array.getElem?_modify, if_neg hC]
    exact h83
  clear h10 h83 i83
  go_upto_region 10 with fail
  refine wp_gen' ?_
  intro w19 hw19
  have HK19 : Hid (Kept [] w16 w19) := by
    rw [Hid, hw19]
    exact Kept.row' p_w17.kept _ _ hB10
  haveI p_w19 : PrevWorld w19 w16 := ⟨HK19.out⟩
  haveI b10 : BoxIs w19 B10 34 (condX C83 S8 D83).cells.toArray := by rw [hw19]; infer_instance
  have H10 := Lib.hid (fun w' (hk : Kept [] w19 w') => (show ExK [] w19 3 (condX C83 S8 D83) from
    exk_list (by rw [hw19]; exact HC83.out _) (by simp) (all_three (H8.out _ 13 (by repeat (first | with_reducible exact HK.out | with_reducible exact Kept.refl _ _ | with_reducible refine Kept.prev ?_ | with_reducible refine Kept.alloc' ?_ _ | with_reducible refine Kept.drew' ?_ | with_reducible refine Kept.setB ?_ _ _ _ (by omega) | with_reducible refine Kept.row' ?_ _ _ (by omega) | with_reducible refine Kept.map' ?_ _ _ (by omega)))) (HD.out _ _ hw19) (num_k _ _ _ _ (by decide))) (by simp) (by decide)).kept hk)
  clear hw19 HK19 HD HC83 bx10 p_w17
  go_wp2_with fail
  refine (gives_true _ (qualX S6) 2 0 71 ((H6.out _ (by repeat (first | with_reducible exact HK.out | with_reducible exact Kept.refl _ _ | with_reducible refine Kept.prev ?_ | with_reducible refine Kept.alloc' ?_ _ | with_reducible refine Kept.drew' ?_ | with_reducible refine Kept.setB ?_ _ _ _ (by omega) | with_reducible refine Kept.row' ?_ _ _ (by omega) | with_reducible refine Kept.map' ?_ _ _ (by omega)))).in) (fun a b => by kernel_rfl)).mono ?_; rintro e w20 ⟨rfl, hk_w20⟩; haveI p_w20 : PrevWorld w20 _ := ⟨hk_w20⟩; have hz_w20 : w.heap.size ≤ w20.heap.size := Kept.size (by repeat (first | with_reducible exact HK.out | with_reducible exact Kept.refl _ _ | with_reducible refine Kept.prev ?_ | with_reducible refine Kept.alloc' ?_ _ | with_reducible refine Kept.drew' ?_ | with_reducible refine Kept.setB ?_ _ _ _ (by omega) | with_reducible refine Kept.row' ?_ _ _ (by omega) | with_reducible refine Kept.map' ?_ _ _ (by omega))); clear hk_w20
  go_wp2_with fail
  refine (gives_true _ (convX S7 T7) 2 1 0 ((H7.out _ (by repeat (first | with_reducible exact HK.out | with_reducible exact Kept.refl _ _ | with_reducible refine Kept.prev ?_ | with_reducible refine Kept.alloc' ?_ _ | with_reducible refine Kept.drew' ?_ | with_reducible refine Kept.setB ?_ _ _ _ (by omega) | with_reducible refine Kept.row' ?_ _ _ (by omega) | with_reducible refine Kept.map' ?_ _ _ (by omega)))).in) (fun a b => by kernel_rfl)).mono ?_; rintro e w21 ⟨rfl, hk_w21⟩; haveI p_w21 : PrevWorld w21 _ := ⟨hk_w21⟩; have hz_w21 : w.heap.size ≤ w21.heap.size := Kept.size (by repeat (first | with_reducible exact HK.out | with_reducible exact Kept.refl _ _ | with_reducible refine Kept.prev ?_ | with_reducible refine Kept.alloc' ?_ _ | with_reducible refine Kept.drew' ?_ | with_reducible refine Kept.setB ?_ _ _ _ (by omega) | with_reducible refine Kept.row' ?_ _ _ (by omega) | with_reducible refine Kept.map' ?_ _ _ (by omega))); clear hk_w21
  go_wp2_with fail
  refine (gives_true _ (inX 13 S8) 2 0 0 ((H8.out _ 13 (by repeat (first | with_reducible exact HK.out | with_reducible exact Kept.refl _ _ | with_reducible refine Kept.prev ?_ | with_reducible refine Kept.alloc' ?_ _ | with_reducible refine Kept.drew' ?_ | with_reducible refine Kept.setB ?_ _ _ _ (by omega) | with_reducible refine Kept.row' ?_ _ _ (by omega) | with_reducible refine Kept.map' ?_ _ _ (by omega)))).in) (fun a b => by kernel_rfl)).mono ?_; rintro e w22 ⟨rfl, hk_w22⟩; haveI p_w22 : PrevWorld w22 _ := ⟨hk_w22⟩; have hz_w22 : w.heap.size ≤ w22.heap.size := Kept.size (by repeat (first | with_reducible exact HK.out | with_reducible exact Kept.refl _ _ | with_reducible refine Kept.prev ?_ | with_reducible refine Kept.alloc' ?_ _ | with_reducible refine Kept.drew' ?_ | with_reducible refine Kept.setB ?_ _ _ _ (by omega) | with_reducible refine Kept.row' ?_ _ _ (by omega) | with_reducible refine Kept.map' ?_ _ _ (by omega))); clear hk_w22
  go_wp2_with fail
  refine (gives_true _ (inX 14 S8) 2 1 0 ((H8.out _ 14 (by repeat (first | with_reducible exact HK.out | with_reducible exact Kept.refl _ _ | with_reducible refine Kept.prev ?_ | with_reducible refine Kept.alloc' ?_ _ | with_reducible refine Kept.drew' ?_ | with_reducible refine Kept.setB ?_ _ _ _ (by omega) | with_reducible refine Kept.row' ?_ _ _ (by omega) | with_reducible refine Kept.map' ?_ _ _ (by omega)))).in) (fun a b => by kernel_rfl)).mono ?_; rintro e w23 ⟨rfl, hk_w23⟩; haveI p_w23 : PrevWorld w23 _ := ⟨hk_w23⟩; have hz_w23 : w.heap.size ≤ w23.heap.size := Kept.size (by repeat (first | with_reducible exact HK.out | with_reducible exact Kept.refl _ _ | with_reducible refine Kept.prev ?_ | with_reducible refine Kept.alloc' ?_ _ | with_reducible refine Kept.drew' ?_ | with_reducible refine Kept.setB ?_ _ _ _ (by omega) | with_reducible refine Kept.row' ?_ _ _ (by omega) | with_reducible refine Kept.map' ?_ _ _ (by omega))); clear hk_w23
  go_wp2_with fail
  refine (gives_true _ (condX C83 S8 D83) 3 3 0 ((H10.out _ (by repeat (first | with_reducible exact HK.out | with_reducible exact Kept.refl _ _ | with_reducible refine Kept.prev ?_ | with_reducible refine Kept.alloc' ?_ _ | with_reducible refine Kept.drew' ?_ | with_reducible refine Kept.setB ?_ _ _ _ (by omega) | with_reducible refine Kept.row' ?_ _ _ (by omega) | with_reducible refine Kept.map' ?_ _ _ (by omega)))).in) (fun a b => by kernel_rfl)).mono ?_; rintro e w24 ⟨rfl, hk_w24⟩; haveI p_w24 : PrevWorld w24 _ := ⟨hk_w24⟩; have hz_w24 : w.heap.size ≤ w24.heap.size := Kept.size (by repeat (first | with_reducible exact HK.out | with_reducible exact Kept.refl _ _ | with_reducible refine Kept.prev ?_ | with_reducible refine Kept.alloc' ?_ _ | with_reducible refine Kept.drew' ?_ | with_reducible refine Kept.setB ?_ _ _ _ (by omega) | with_reducible refine Kept.row' ?_ _ _ (by omega) | with_reducible refine Kept.map' ?_ _ _ (by omega))); clear hk_w24
  clear H6 H7 H10
  go_wp2_with fail
  refine (name_any _ _ _).mono ?_; rintro e w25 ⟨rfl, hk_w25⟩; haveI p_w25 : PrevWorld w25 _ := ⟨hk_w25⟩; have hz_w25 : w.heap.size ≤ w25.heap.size := Kept.size (by repeat (first | with_reducible exact HK.out | with_reducible exact Kept.refl _ _ | with_reducible refine Kept.prev ?_ | with_reducible refine Kept.alloc' ?_ _ | with_reducible refine Kept.drew' ?_ | with_reducible refine Kept.setB ?_ _ _ _ (by omega) | with_reducible refine Kept.row' ?_ _ _ (by omega) | with_reducible refine Kept.map' ?_ _ _ (by omega))); clear hk_w25
  go_wp2_with fail
  refine (calls_any [] _ 0 ⟨#[80, 111, 115]⟩ (nameX 4 3) 0 1 no_q (.nil (name_in _ _ _ _))).mono ?_
  rintro e w26 ⟨_, rfl, ⟨B1, B2, B3, rfl⟩, i1, hk1⟩
  haveI p_w26 : PrevWorld w26 _ := ⟨hk1⟩
  clear hk1
  go_wp2_with fail
  refine (gives_true _ (caX B1 B2 B3 0 ⟨#[80, 111, 115]⟩ (nameX 4 3) 0) 4 2 0 i1.in (fun a b => by kernel_rfl)).mono ?_; rintro e w27 ⟨rfl, hk_w27⟩; haveI p_w27 : PrevWorld w27 _ := ⟨hk_w27⟩; have hz_w27 : w.heap.size ≤ w27.heap.size := Kept.size (by repeat (first | with_reducible exact HK.out | with_reducible exact Kept.refl _ _ | with_reducible refine Kept.prev ?_ | with_reducible refine Kept.alloc' ?_ _ | with_reducible refine Kept.drew' ?_ | with_reducible refine Kept.setB ?_ _ _ _ (by omega) | with_reducible refine Kept.row' ?_ _ _ (by omega) | with_reducible refine Kept.map' ?_ _ _ (by omega))); clear hk_w27
  clear i1
  go_wp2_with fail
  refine (number_any _ _ _).mono ?_; rintro e w28 ⟨rfl, hk_w28⟩; haveI p_w28 : PrevWorld w28 _ := ⟨hk_w28⟩; have hz_w28 : w.heap.size ≤ w28.heap.size := Kept.size (by repeat (first | with_reducible exact HK.out | with_reducible exact Kept.refl _ _ | with_reducible refine Kept.prev ?_ | with_reducible refine Kept.alloc' ?_ _ | with_reducible refine Kept.drew' ?_ | with_reducible refine Kept.setB ?_ _ _ _ (by omega) | with_reducible refine Kept.row' ?_ _ _ (by omega) | with_reducible refine Kept.map' ?_ _ _ (by omega))); clear hk_w28
  go_wp2_with fail
  refine (calls_any [] _ 0 ⟨#[86, 97, 108]⟩ (numX 3 0) 3 1 no_q (num_k _ _ _ _ (by decide))).mono ?_
  rintro e w29 ⟨_, rfl, ⟨B1, B2, B3, rfl⟩, i1, hk1⟩
  haveI p_w29 : PrevWorld w29 _ := ⟨hk1⟩
  clear hk1
  go_wp2_with fail
  refine (gives_true _ (caX B1 B2 B3 0 ⟨#[86, 97, 108]⟩ (numX 3 0) 3) 4 0 71 i1.in (fun a b => by kernel_rfl)).mono ?_; rintro e w30 ⟨rfl, hk_w30⟩; haveI p_w30 : PrevWorld w30 _ := ⟨hk_w30⟩; have hz_w30 : w.heap.size ≤ w30.heap.size := Kept.size (by repeat (first | with_reducible exact HK.out | with_reducible exact Kept.refl _ _ | with_reducible refine Kept.prev ?_ | with_reducible refine Kept.alloc' ?_ _ | with_reducible refine Kept.drew' ?_ | with_reducible refine Kept.setB ?_ _ _ _ (by omega) | with_reducible refine Kept.row' ?_ _ _ (by omega) | with_reducible refine Kept.map' ?_ _ _ (by omega))); clear hk_w30
  clear i1
  go_wp2_with fail
  refine (number_any _ _ _).mono ?_; rintro e w31 ⟨rfl, hk_w31⟩; haveI p_w31 : PrevWorld w31 _ := ⟨hk_w31⟩; have hz_w31 : w.heap.size ≤ w31.heap.size := Kept.size (by repeat (first | with_reducible exact HK.out | with_reducible exact Kept.refl _ _ | with_reducible refine Kept.prev ?_ | with_reducible refine Kept.alloc' ?_ _ | with_reducible refine Kept.drew' ?_ | with_reducible refine Kept.setB ?_ _ _ _ (by omega) | with_reducible refine Kept.row' ?_ _ _ (by omega) | with_reducible refine Kept.map' ?_ _ _ (by omega))); clear hk_w31
  go_wp2_with fail
  refine (calls_any [] _ 0 ⟨#[86, 97, 108]⟩ (numX 2 0) 3 1 no_q (num_k _ _ _ _ (by decide))).mono ?_
  rintro e w32 ⟨_, rfl, ⟨B1, B2, B3, rfl⟩, i1, hk1⟩
  haveI p_w32 : PrevWorld w32 _ := ⟨hk1⟩
  clear hk1
  go_wp2_with fail
  refine (gives_true _ (caX B1 B2 B3 0 ⟨#[86, 97, 108]⟩ (numX 2 0) 3) 4 2 0 i1.in (fun a b => by kernel_rfl)).mono ?_; rintro e w33 ⟨rfl, hk_w33⟩; haveI p_w33 : PrevWorld w33 _ := ⟨hk_w33⟩; have hz_w33 : w.heap.size ≤ w33.heap.size := Kept.size (by repeat (first | with_reducible exact HK.out | with_reducible exact Kept.refl _ _ | with_reducible refine Kept.prev ?_ | with_reducible refine Kept.alloc' ?_ _ | with_reducible refine Kept.drew' ?_ | with_reducible refine Kept.setB ?_ _ _ _ (by omega) | with_reducible refine Kept.row' ?_ _ _ (by omega) | with_reducible refine Kept.map' ?_ _ _ (by omega))); clear hk_w33
  clear i1
  go_wp2_with fail
  refine (number_any _ _ _).mono ?_; rintro e w34 ⟨rfl, hk_w34⟩; haveI p_w34 : PrevWorld w34 _ := ⟨hk_w34⟩; have hz_w34 : w.heap.size ≤ w34.heap.size := Kept.size (by repeat (first | with_reducible exact HK.out | with_reducible exact Kept.refl _ _ | with_reducible refine Kept.prev ?_ | with_reducible refine Kept.alloc' ?_ _ | with_reducible refine Kept.drew' ?_ | with_reducible refine Kept.setB ?_ _ _ _ (by omega) | with_reducible refine Kept.row' ?_ _ _ (by omega) | with_reducible refine Kept.map' ?_ _ _ (by omega))); clear hk_w34
  go_wp2_with fail
  refine (gives_true _ (numX 4611686018427387904 0) 1 4611686018427387904 0 (num_in _ _ _ _ (by decide)) (fun a b => by kernel_rfl)).mono ?_; rintro e w35 ⟨rfl, hk_w35⟩; haveI p_w35 : PrevWorld w35 _ := ⟨hk_w35⟩; have hz_w35 : w.heap.size ≤ w35.heap.size := Kept.size (by repeat (first | with_reducible exact HK.out | with_reducible exact Kept.refl _ _ | with_reducible refine Kept.prev ?_ | with_reducible refine Kept.alloc' ?_ _ | with_reducible refine Kept.drew' ?_ | with_reducible refine Kept.setB ?_ _ _ _ (by omega) | with_reducible refine Kept.row' ?_ _ _ (by omega) | with_reducible refine Kept.map' ?_ _ _ (by omega))); clear hk_w35
  go_wp2_with fail
  refine (two_any [] _ 1 (numX 4611686018427387904 0) (numX 4611686018427387904 0) 0 1 no_q (num_k _ _ _ _ (by decide)) (num_k _ _ _ _ (by decide))).mono ?_
  rintro e w36 ⟨_, rfl, ⟨B1, rfl⟩, i1, hk1⟩
  haveI p_w36 : PrevWorld w36 _ := ⟨hk1⟩
  clear hk1
  go_wp2_with fail
  refine (gives_true _ (twoX B1 1 (numX 4611686018427387904 0) (numX 4611686018427387904 0) 0) 2 0 71 i1.in (fun a b => by kernel_rfl)).mono ?_; rintro e w37 ⟨rfl, hk_w37⟩; haveI p_w37 : PrevWorld w37 _ := ⟨hk_w37⟩; have hz_w37 : w.heap.size ≤ w37.heap.size := Kept.size (by repeat (first | with_reducible exact HK.out | with_reducible exact Kept.refl _ _ | with_reducible refine Kept.prev ?_ | with_reducible refine Kept.alloc' ?_ _ | with_reducible refine Kept.drew' ?_ | with_reducible refine Kept.setB ?_ _ _ _ (by omega) | with_reducible refine Kept.row' ?_ _ _ (by omega) | with_reducible refine Kept.map' ?_ _ _ (by omega))); clear hk_w37
  clear i1
  go_wp2_with fail
  refine (two_any [] _ 3 (numX 4611686018427387904 0) (numX 4611686018427387904 0) 0 1 no_q (num_k _ _ _ _ (by decide)) (num_k _ _ _ _ (by decide))).mono ?_
  rintro e w38 ⟨_, rfl, ⟨B1, rfl⟩, i1, hk1⟩
  haveI p_w38 : PrevWorld w38 _ := ⟨hk1⟩
  clear hk1
  go_wp2_with fail
  refine (gives_true _ (twoX B1 3 (numX 4611686018427387904 0) (numX 4611686018427387904 0) 0) 2 0 71 i1.in (fun a b => by kernel_rfl)).mono ?_; rintro e w39 ⟨rfl, hk_w39⟩; haveI p_w39 : PrevWorld w39 _ := ⟨hk_w39⟩; have hz_w39 : w.heap.size ≤ w39.heap.size := Kept.size (by repeat (first | with_reducible exact HK.out | with_reducible exact Kept.refl _ _ | with_reducible refine Kept.prev ?_ | with_reducible refine Kept.alloc' ?_ _ | with_reducible refine Kept.drew' ?_ | with_reducible refine Kept.setB ?_ _ _ _ (by omega) | with_reducible refine Kept.row' ?_ _ _ (by omega) | with_reducible refine Kept.map' ?_ _ _ (by omega))); clear hk_w39
  clear i1
  go_wp2_with fail
  refine (number_any _ _ _).mono ?_; rintro e w40 ⟨rfl, hk_w40⟩; haveI p_w40 : PrevWorld w40 _ := ⟨hk_w40⟩; have hz_w40 : w.heap.size ≤ w40.heap.size := Kept.size (by repeat (first | with_reducible exact HK.out | with_reducible exact Kept.refl _ _ | with_reducible refine Kept.prev ?_ | with_reducible refine Kept.alloc' ?_ _ | with_reducible refine Kept.drew' ?_ | with_reducible refine Kept.setB ?_ _ _ _ (by omega) | with_reducible refine Kept.row' ?_ _ _ (by omega) | with_reducible refine Kept.map' ?_ _ _ (by omega))); clear hk_w40
  go_wp2_with fail
  refine (gives_true _ (numX 4611686018427387905 0) 1 0 71 (num_in _ _ _ _ (by decide)) (fun a b => by kernel_rfl)).mono ?_; rintro e w41 ⟨rfl, hk_w41⟩; haveI p_w41 : PrevWorld w41 _ := ⟨hk_w41⟩; have hz_w41 : w.heap.size ≤ w41.heap.size := Kept.size (by repeat (first | with_reducible exact HK.out | with_reducible exact Kept.refl _ _ | with_reducible refine Kept.prev ?_ | with_reducible refine Kept.alloc' ?_ _ | with_reducible refine Kept.drew' ?_ | with_reducible refine Kept.setB ?_ _ _ _ (by omega) | with_reducible refine Kept.row' ?_ _ _ (by omega) | with_reducible refine Kept.map' ?_ _ _ (by omega))); clear hk_w41
  go_wp2_with fail
  refine (number_any _ _ _).mono ?_; rintro e w42 ⟨rfl, hk_w42⟩; haveI p_w42 : PrevWorld w42 _ := ⟨hk_w42⟩; have hz_w42 : w.heap.size ≤ w42.heap.size := Kept.size (by repeat (first | with_reducible exact HK.out | with_reducible exact Kept.refl _ _ | with_reducible refine Kept.prev ?_ | with_reducible refine Kept.alloc' ?_ _ | with_reducible refine Kept.drew' ?_ | with_reducible refine Kept.setB ?_ _ _ _ (by omega) | with_reducible refine Kept.row' ?_ _ _ (by omega) | with_reducible refine Kept.map' ?_ _ _ (by omega))); clear hk_w42
  go_wp2_with fail
  refine (gives_true _ (numX 2147483648 1) 1 0 71 (num_in _ _ _ _ (by decide)) (fun a b => by kernel_rfl)).mono ?_; rintro e w43 ⟨rfl, hk_w43⟩; haveI p_w43 : PrevWorld w43 _ := ⟨hk_w43⟩; have hz_w43 : w.heap.size ≤ w43.heap.size := Kept.size (by repeat (first | with_reducible exact HK.out | with_reducible exact Kept.refl _ _ | with_reducible refine Kept.prev ?_ | with_reducible refine Kept.alloc' ?_ _ | with_reducible refine Kept.drew' ?_ | with_reducible refine Kept.setB ?_ _ _ _ (by omega) | with_reducible refine Kept.row' ?_ _ _ (by omega) | with_reducible refine Kept.map' ?_ _ _ (by omega))); clear hk_w43
  go_wp2_with fail
  refine (some_any _).mono ?_
  rintro e w70 ⟨A, B, C, a, b, rfl, hT, hk70⟩
  haveI p_w70 : PrevWorld w70 _ := ⟨hk70⟩
  have HT := Lib.hid (fun w' (hk : Kept [] w70 w') => hT.kept hk)
  clear hk70 hT
  unfold TabV.cells
  go_wp2_with fail
  have HEV := Lib.hid (fun B1 B2 B3 B4 x hx => never_all a b B1 B2 B3 B4 S8 x hx)
  refine wp_region_each [⟨141, [], .eq (.agg zeroX.cells.toArray)⟩, ⟨142, [], .eq (.agg (nameX (-1) 1).cells.toArray)⟩, ⟨143, [], .eq (.agg (nameX 99 1).cells.toArray)⟩, ⟨144, [], .eq (.agg (nameX 6 1).cells.toArray)⟩, ⟨145, [], .eq (.agg (numX 1 9).cells.toArray)⟩, ⟨146, [], .ex [] 2 (fun x => ∃ B, x = atX B 0 sLen 0)⟩, ⟨147, [], .ex [] 2 (fun x => ∃ B, x = atX B 0 sPos 0)⟩, ⟨148, [], .eq (.agg (numX 7 0).cells.toArray)⟩, ⟨149, [], .eq (.agg (numX 3 0).cells.toArray)⟩, ⟨150, [148, 149], .ex [] 2 (fun x => ∃ B, x = twoX B 21 (numX 7 0) (numX 3 0) 0)⟩, ⟨151, [], .eq (.agg nullX.cells.toArray)⟩, ⟨152, [], .eq (.agg (inX 13 S8).cells.toArray)⟩, ⟨153, [], .eq (.agg (numX 7 0).cells.toArray)⟩, ⟨154, [152, 153], .exs [] 2 (fun l => l = [inX 13 S8, numX 7 0])⟩, ⟨155, [154], .ex [] 3 (fun x => ∃ B, x = ifX B S8)⟩, ⟨156, [141, 142, 143, 144, 145, 146, 147, 150, 151, 155], .exs [] 3 (fun l => ∃ B1 B2 B3 B4, l = neverL B1 B2 B3 B4 S8)⟩, ⟨157, [156], .eq (.int .i64 10)⟩, ⟨158, [], .eq (.int .i64 0)⟩] (by kernel_rfl) (by kernel_rfl) ?_
  apply Exists.intro
  refine ⟨fun vs => ?_, ?_⟩
  · simp only [List.map_cons, List.map_nil, puts, Act.put, List.setIfInBounds_toArray, List.set_cons_zero, List.set_cons_succ]
    exact rfl
  refine ⟨⟨fun vs w71 hk hg => ?_, fun vs w71 hk hg => ?_, fun vs w71 hk hg => ?_, fun vs w71 hk hg => ?_, fun vs w71 hk hg => ?_, fun vs w71 hk hg => ?_, fun vs w71 hk hg => ?_, fun vs w71 hk hg => ?_, fun vs w71 hk hg => ?_, fun vs w71 hk hg => ?_, fun vs w71 hk hg => ?_, fun vs w71 hk hg => ?_, fun vs w71 hk hg => ?_, fun vs w71 hk hg => ?_, fun vs w71 hk hg => ?_, fun vs w71 hk hg => ?_, fun vs w71 hk hg => ?_, fun vs w71 hk hg => ?_, trivial⟩, fun vs w71 hk hg => ?_⟩
  all_goals
    haveI p_w71 : PrevWorld w71 _ := ⟨hk⟩
    have hz_w71 := hk.size
    clear hk
    (try simp only [given, allGiven, look, SP.eq_p, SP.ex_p, SP.exs_p, SP.asl_p, Nat.reduceEqDiff, reduceIte, and_true] at hg)
    (try simp only [SP.tab_p, SP.row_p, SP.box_p] at hg)
  · clear hg
    go_wp2_with fail
    exact ⟨(by repeat (first | with_reducible exact HK.out | with_reducible exact Kept.refl _ _ | with_reducible refine Kept.prev ?_ | with_reducible refine Kept.alloc' ?_ _ | with_reducible refine Kept.drew' ?_ | with_reducible refine Kept.setB ?_ _ _ _ (by omega) | with_reducible refine Kept.row' ?_ _ _ (by omega) | with_reducible refine Kept.map' ?_ _ _ (by omega))), rfl, rfl⟩
  · clear hg
    go_wp2_with fail
    refine (name_any _ _ _).mono ?_
    rintro e w9 ⟨rfl, hk9⟩
    go_wp2_with fail
    exact ⟨hk9, rfl, rfl⟩
  · clear hg
    go_wp2_with fail
    refine (name_any _ _ _).mono ?_
    rintro e w9 ⟨rfl, hk9⟩
    go_wp2_with fail
    exact ⟨hk9, rfl, rfl⟩
  · clear hg
    go_wp2_with fail
    refine (name_any _ _ _).mono ?_
    rintro e w9 ⟨rfl, hk9⟩
    go_wp2_with fail
    exact ⟨hk9, rfl, rfl⟩
  · clear hg
    go_wp2_with fail
    refine (number_any _ _ _).mono ?_
    rintro e w9 ⟨rfl, hk9⟩
    go_wp2_with fail
    exact ⟨hk9, rfl, rfl⟩
  · clear hg
    go_wp2_with fail
    refine (attr_any [] _ 0 sLen 0 no_q).mono ?_
    rintro e w9 ⟨x, rfl, hp, hi, hk9⟩
    go_wp2_with fail
    exact ⟨hk9, rfl, x, rfl, hp, hi⟩
  · clear hg
    go_wp2_with fail
    refine (attr_any [] _ 0 sPos 0 no_q).mono ?_
    rintro e w9 ⟨x, rfl, hp, hi, hk9⟩
    go_wp2_with fail
    exact ⟨hk9, rfl, x, rfl, hp, hi⟩
  · clear hg
    go_wp2_with fail
    exact ⟨(by repeat (first | with_reducible exact HK.out | with_reducible exact Kept.refl _ _ | with_reducible refine Kept.prev ?_ | with_reducible refine Kept.alloc' ?_ _ | with_reducible refine Kept.drew' ?_ | with_reducible refine Kept.setB ?_ _ _ _ (by omega) | with_reducible refine Kept.row' ?_ _ _ (by omega) | with_reducible refine Kept.map' ?_ _ _ (by omega))), rfl, rfl⟩
  · clear hg
    go_wp2_with fail
    exact ⟨(by repeat (first | with_reducible exact HK.out | with_reducible exact Kept.refl _ _ | with_reducible refine Kept.prev ?_ | with_reducible refine Kept.alloc' ?_ _ | with_reducible refine Kept.drew' ?_ | with_reducible refine Kept.setB ?_ _ _ _ (by omega) | with_reducible refine Kept.row' ?_ _ _ (by omega) | with_reducible refine Kept.map' ?_ _ _ (by omega))), rfl, rfl⟩
  · obtain ⟨e148, e149⟩ := hg
    (try simp only [e148, e149])
    go_wp2_with fail
    refine (two_any [] _ 21 (numX 7 0) (numX 3 0) 0 1 no_q (num_k _ _ _ _ (by decide)) (num_k _ _ _ _ (by decide))).mono ?_
    rintro e w9 ⟨x, rfl, hp, hi, hk9⟩
    go_wp2_with fail
    exact ⟨hk9, rfl, x, rfl, hp, hi⟩
  · clear hg
    go_wp2_with fail
    exact ⟨(by repeat (first | with_reducible exact HK.out | with_reducible exact Kept.refl _ _ | with_reducible refine Kept.prev ?_ | with_reducible refine Kept.alloc' ?_ _ | with_reducible refine Kept.drew' ?_ | with_reducible refine Kept.setB ?_ _ _ _ (by omega) | with_reducible refine Kept.row' ?_ _ _ (by omega) | with_reducible refine Kept.map' ?_ _ _ (by omega))), rfl, rfl⟩
  · clear hg
    go_wp2_with fail
    exact ⟨(by repeat (first | with_reducible exact HK.out | with_reducible exact Kept.refl _ _ | with_reducible refine Kept.prev ?_ | with_reducible refine Kept.alloc' ?_ _ | with_reducible refine Kept.drew' ?_ | with_reducible refine Kept.setB ?_ _ _ _ (by omega) | with_reducible refine Kept.row' ?_ _ _ (by omega) | with_reducible refine Kept.map' ?_ _ _ (by omega))), rfl, rfl⟩
  · clear hg
    go_wp2_with fail
    exact ⟨(by repeat (first | with_reducible exact HK.out | with_reducible exact Kept.refl _ _ | with_reducible refine Kept.prev ?_ | with_reducible refine Kept.alloc' ?_ _ | with_reducible refine Kept.drew' ?_ | with_reducible refine Kept.setB ?_ _ _ _ (by omega) | with_reducible refine Kept.row' ?_ _ _ (by omega) | with_reducible refine Kept.map' ?_ _ _ (by omega))), rfl, rfl⟩
  · obtain ⟨e152, e153⟩ := hg
    (try simp only [e152, e153])
    go_wp2_with fail
    exact ⟨(by repeat (first | with_reducible exact HK.out | with_reducible exact Kept.refl _ _ | with_reducible refine Kept.prev ?_ | with_reducible refine Kept.alloc' ?_ _ | with_reducible refine Kept.drew' ?_ | with_reducible refine Kept.setB ?_ _ _ _ (by omega) | with_reducible refine Kept.row' ?_ _ _ (by omega) | with_reducible refine Kept.map' ?_ _ _ (by omega))), rfl, _, [inX 13 S8, numX 7 0], rfl, rfl, box_at _ _, (fun h => by cases h), all_two (H8.out _ 13 (by repeat (first | with_reducible exact HK.out | with_reducible exact Kept.refl _ _ | with_reducible refine Kept.prev ?_ | with_reducible refine Kept.alloc' ?_ _ | with_reducible refine Kept.drew' ?_ | with_reducible refine Kept.setB ?_ _ _ _ (by omega) | with_reducible refine Kept.row' ?_ _ _ (by omega) | with_reducible refine Kept.map' ?_ _ _ (by omega)))) (num_k _ _ _ _ (by decide))⟩
  · obtain ⟨C154, _, e154, rfl, h154, _, i154⟩ := hg
    go_wp2_with fail
    exact ⟨(by repeat (first | with_reducible exact HK.out | with_reducible exact Kept.refl _ _ | with_reducible refine Kept.prev ?_ | with_reducible refine Kept.alloc' ?_ _ | with_reducible refine Kept.drew' ?_ | with_reducible refine Kept.setB ?_ _ _ _ (by omega) | with_reducible refine Kept.row' ?_ _ _ (by omega) | with_reducible refine Kept.map' ?_ _ _ (by omega))), rfl, ifX C154 S8, rfl, ⟨_, rfl⟩, exk_list h154 (by simp) i154 (by simp) (by decide)⟩
  · obtain ⟨e141, e142, e143, e144, e145, ⟨x146, e146, ⟨B146, rfl⟩, i146⟩, ⟨x147, e147, ⟨B147, rfl⟩, i147⟩, ⟨x150, e150, ⟨B150, rfl⟩, i150⟩, e151, ⟨x155, e155, ⟨B155, rfl⟩, i155⟩⟩ := hg
    (try simp only [e141, e142, e143, e144, e145, e151])
    go_wp2_with fail
    refine ⟨(by repeat (first | with_reducible exact HK.out | with_reducible exact Kept.refl _ _ | with_reducible refine Kept.prev ?_ | with_reducible refine Kept.alloc' ?_ _ | with_reducible refine Kept.drew' ?_ | with_reducible refine Kept.setB ?_ _ _ _ (by omega) | with_reducible refine Kept.row' ?_ _ _ (by omega) | with_reducible refine Kept.map' ?_ _ _ (by omega))), rfl, _, neverL B146 B147 B150 B155 S8, rfl, ⟨_, _, _, _, rfl⟩, box_at _ _, (fun h => by cases h), ?_⟩
    intro y hy
    simp only [neverL, List.mem_cons, List.not_mem_nil, or_false] at hy
    rcases hy with rfl | rfl | rfl | rfl | rfl | rfl | rfl | rfl | rfl | rfl
    · exact exk_nil (by decide)
    · exact exk_nil (by decide)
    · exact exk_nil (by decide)
    · exact exk_nil (by decide)
    · exact exk_nil (by decide)
    · exact (i146.mono (by omega)).kept (by repeat (first | with_reducible exact HK.out | with_reducible exact Kept.refl _ _ | with_reducible refine Kept.prev ?_ | with_reducible refine Kept.alloc' ?_ _ | with_reducible refine Kept.drew' ?_ | with_reducible refine Kept.setB ?_ _ _ _ (by omega) | with_reducible refine Kept.row' ?_ _ _ (by omega) | with_reducible refine Kept.map' ?_ _ _ (by omega)))
    · exact (i147.mono (by omega)).kept (by repeat (first | with_reducible exact HK.out | with_reducible exact Kept.refl _ _ | with_reducible refine Kept.prev ?_ | with_reducible refine Kept.alloc' ?_ _ | with_reducible refine Kept.drew' ?_ | with_reducible refine Kept.setB ?_ _ _ _ (by omega) | with_reducible refine Kept.row' ?_ _ _ (by omega) | with_reducible refine Kept.map' ?_ _ _ (by omega)))
    · exact (i150.mono (by omega)).kept (by repeat (first | with_reducible exact HK.out | with_reducible exact Kept.refl _ _ | with_reducible refine Kept.prev ?_ | with_reducible refine Kept.alloc' ?_ _ | with_reducible refine Kept.drew' ?_ | with_reducible refine Kept.setB ?_ _ _ _ (by omega) | with_reducible refine Kept.row' ?_ _ _ (by omega) | with_reducible refine Kept.map' ?_ _ _ (by omega)))
    · exact exk_nil (by decide)
    · exact i155.kept (by repeat (first | with_reducible exact HK.out | with_reducible exact Kept.refl _ _ | with_reducible refine Kept.prev ?_ | with_reducible refine Kept.alloc' ?_ _ | with_reducible refine Kept.drew' ?_ | with_reducible refine Kept.setB ?_ _ _ _ (by omega) | with_reducible refine Kept.row' ?_ _ _ (by omega) | with_reducible refine Kept.map' ?_ _ _ (by omega)))
  · obtain ⟨C156, _, e156, ⟨D1, D2, D3, D4, rfl⟩, h156, _, i156⟩ := hg
    go_wp2_with fail
    exact ⟨(by repeat (first | with_reducible exact HK.out | with_reducible exact Kept.refl _ _ | with_reducible refine Kept.prev ?_ | with_reducible refine Kept.alloc' ?_ _ | with_reducible refine Kept.drew' ?_ | with_reducible refine Kept.setB ?_ _ _ _ (by omega) | with_reducible refine Kept.row' ?_ _ _ (by omega) | with_reducible refine Kept.map' ?_ _ _ (by omega))), rfl, rfl⟩
  · clear hg
    go_wp2_with fail
    exact ⟨(by repeat (first | with_reducible exact HK.out | with_reducible exact Kept.refl _ _ | with_reducible refine Kept.prev ?_ | with_reducible refine Kept.alloc' ?_ _ | with_reducible refine Kept.drew' ?_ | with_reducible refine Kept.setB ?_ _ _ _ (by omega) | with_reducible refine Kept.row' ?_ _ _ (by omega) | with_reducible refine Kept.map' ?_ _ _ (by omega))), rfl, rfl⟩
  obtain ⟨-, -, -, -, -, -, -, -, -, -, -, -, -, -, -, ⟨C156, _, e156, ⟨D1, D2, D3, D4, rfl⟩, h156, _, i156⟩, e157, e158⟩ := hg
  have hlen : (neverL D1 D2 D3 D4 S8).length = 10 := rfl
  rw [hlen] at e156
  refine wpList_nil ?_
  simp only [e156, e157, e158]
  have HI := Lib.hid (fun w' (hk : Kept [] w71 w') x hx => (i156 x hx).kept hk)
  have HB := Lib.hid h156
  clear e156 e157 e158 h156 i156 H8
  go_wp2_with fail
  go_loopw [15, 158] (fun v15 i wr => v15 = .bool true ∧ ∃ k : Nat, k ≤ 10 ∧ i = .int .i64 k ∧ Kept [] w71 wr) (fun _ i _ => 10 - (intOf i).toNat)
  case atStart => exact ⟨rfl, 0, by omega, rfl, Kept.refl _ _⟩
  case round =>
    obtain ⟨rfl, k, hk, rfl, hkr⟩ := hrel
    haveI p_wr : PrevWorld wr w71 := ⟨hkr⟩
    have hkz := hkr.size
    have HKR := Lib.hid hkr
    clear hkr
    by_cases hlt : k < 10
    · obtain ⟨x, hx⟩ : ∃ x, (neverL D1 D2 D3 D4 S8)[k]? = some x := ⟨_, List.getElem?_eq_getElem (by rw [hlen]; exact hlt)⟩
      have HF := Lib.hid (HEV.out D1 D2 D3 D4 x (List.mem_of_getElem? hx))
      have HX := Lib.hid (fun w' (hk : Kept [] w71 w') => fix_in (HI.out w' hk x (List.mem_of_getElem? hx)).in)
      haveI xa : ExAt w71 C156 (k * 9) x := ⟨by
        have := range_of_block HB.out (m := 9) (fun r hr => by obtain ⟨x, _, rfl⟩ := List.mem_map.1 hr; rfl) (k := k) (r := x.cells) (by simp [hx])
        simpa using this⟩
      have j1 : (0 : Int) ≤ (k : Int) := by omega
      have j2 : (k : Int) < 10 := by omega
      clear hx HEV HI HB
      by_cases hz : x.kind = 0
      · have e1 : (x.kind == 0) = true := by simp [hz]
        go_upto_region 21 with fail
        refine wp_gen' ?_
        intro w72 hw72
        haveI p_w72 : PrevWorld w72 wr := ⟨by rw [hw72]; exact (by repeat (first | with_reducible exact HK.out | with_reducible exact Kept.refl _ _ | with_reducible refine Kept.prev ?_ | with_reducible refine Kept.alloc' ?_ _ | with_reducible refine Kept.drew' ?_ | with_reducible refine Kept.setB ?_ _ _ _ (by omega) | with_reducible refine Kept.row' ?_ _ _ (by omega) | with_reducible refine Kept.map' ?_ _ _ (by omega)))⟩
        haveI b18 : BoxIs w72 (wr.heap.size + 1) 34 (fixX x).cells.toArray := by rw [hw72]; exact BoxIs.conv inferInstance (by rw [fix_yes hz])
        clear hw72 hz e1
        go_wp2_with fail
        refine (never_val _ A B C a b (fixX x) 3 (HT.out _ (by repeat (first | with_reducible exact HK.out | with_reducible exact Kept.refl _ _ | with_reducible refine Kept.prev ?_ | with_reducible refine Kept.alloc' ?_ _ | with_reducible refine Kept.drew' ?_ | with_reducible refine Kept.setB ?_ _ _ _ (by omega) | with_reducible refine Kept.row' ?_ _ _ (by omega) | with_reducible refine Kept.map' ?_ _ _ (by omega)))) (HX.out _ (by repeat (first | with_reducible exact HK.out | with_reducible exact Kept.refl _ _ | with_reducible refine Kept.prev ?_ | with_reducible refine Kept.alloc' ?_ _ | with_reducible refine Kept.drew' ?_ | with_reducible refine Kept.setB ?_ _ _ _ (by omega) | with_reducible refine Kept.row' ?_ _ _ (by omega) | with_reducible refine Kept.map' ?_ _ _ (by omega)))) HF.out).mono ?_; rintro e w73 ⟨rfl, hk_w73⟩; haveI p_w73 : PrevWorld w73 _ := ⟨hk_w73⟩; have hz_w73 : w.heap.size ≤ w73.heap.size := Kept.size (by repeat (first | with_reducible exact HK.out | with_reducible exact Kept.refl _ _ | with_reducible refine Kept.prev ?_ | with_reducible refine Kept.alloc' ?_ _ | with_reducible refine Kept.drew' ?_ | with_reducible refine Kept.setB ?_ _ _ _ (by omega) | with_reducible refine Kept.row' ?_ _ _ (by omega) | with_reducible refine Kept.map' ?_ _ _ (by omega))); clear hk_w73
        go_wp2_with fail
        refine (never_is _ A B C a b (fixX x) 3 (HT.out _ (by repeat (first | with_reducible exact HK.out | with_reducible exact Kept.refl _ _ | with_reducible refine Kept.prev ?_ | with_reducible refine Kept.alloc' ?_ _ | with_reducible refine Kept.drew' ?_ | with_reducible refine Kept.setB ?_ _ _ _ (by omega) | with_reducible refine Kept.row' ?_ _ _ (by omega) | with_reducible refine Kept.map' ?_ _ _ (by omega)))) (HX.out _ (by repeat (first | with_reducible exact HK.out | with_reducible exact Kept.refl _ _ | with_reducible refine Kept.prev ?_ | with_reducible refine Kept.alloc' ?_ _ | with_reducible refine Kept.drew' ?_ | with_reducible refine Kept.setB ?_ _ _ _ (by omega) | with_reducible refine Kept.row' ?_ _ _ (by omega) | with_reducible refine Kept.map' ?_ _ _ (by omega)))) HF.out).mono ?_; rintro e w74 ⟨rfl, hk_w74⟩; haveI p_w74 : PrevWorld w74 _ := ⟨hk_w74⟩; have hz_w74 : w.heap.size ≤ w74.heap.size := Kept.size (by repeat (first | with_reducible exact HK.out | with_reducible exact Kept.refl _ _ | with_reducible refine Kept.prev ?_ | with_reducible refine Kept.alloc' ?_ _ | with_reducible refine Kept.drew' ?_ | with_reducible refine Kept.setB ?_ _ _ _ (by omega) | with_reducible refine Kept.row' ?_ _ _ (by omega) | with_reducible refine Kept.map' ?_ _ _ (by omega))); clear hk_w74
        go_wp2_with fail
        go_roundw
        case rel => exact ⟨rfl, k + 1, by omega, by go_num, (by repeat (first | with_reducible exact HK.out | with_reducible exact Kept.refl _ _ | with_reducible refine Kept.prev ?_ | with_reducible refine Kept.alloc' ?_ _ | with_reducible refine Kept.drew' ?_ | with_reducible refine Kept.setB ?_ _ _ _ (by omega) | with_reducible refine Kept.row' ?_ _ _ (by omega) | with_reducible refine Kept.map' ?_ _ _ (by omega)))⟩
        case measure => simp [intOf]; omega
      · have e1 : (x.kind == 0) = false := by simp [hz]
        rw [fix_no hz] at HF HX
        go_wp2_with fail
        refine (never_val _ A B C a b x 3 (HT.out _ (by repeat (first | with_reducible exact HK.out | with_reducible exact Kept.refl _ _ | with_reducible refine Kept.prev ?_ | with_reducible refine Kept.alloc' ?_ _ | with_reducible refine Kept.drew' ?_ | with_reducible refine Kept.setB ?_ _ _ _ (by omega) | with_reducible refine Kept.row' ?_ _ _ (by omega) | with_reducible refine Kept.map' ?_ _ _ (by omega)))) (HX.out _ (by repeat (first | with_reducible exact HK.out | with_reducible exact Kept.refl _ _ | with_reducible refine Kept.prev ?_ | with_reducible refine Kept.alloc' ?_ _ | with_reducible refine Kept.drew' ?_ | with_reducible refine Kept.setB ?_ _ _ _ (by omega) | with_reducible refine Kept.row' ?_ _ _ (by omega) | with_reducible refine Kept.map' ?_ _ _ (by omega)))) HF.out).mono ?_; rintro e w73 ⟨rfl, hk_w73⟩; haveI p_w73 : PrevWorld w73 _ := ⟨hk_w73⟩; have hz_w73 : w.heap.size ≤ w73.heap.size := Kept.size (by repeat (first | with_reducible exact HK.out | with_reducible exact Kept.refl _ _ | with_reducible refine Kept.prev ?_ | with_reducible refine Kept.alloc' ?_ _ | with_reducible refine Kept.drew' ?_ | with_reducible refine Kept.setB ?_ _ _ _ (by omega) | with_reducible refine Kept.row' ?_ _ _ (by omega) | with_reducible refine Kept.map' ?_ _ _ (by omega))); clear hk_w73
        go_wp2_with fail
        refine (never_is _ A B C a b x 3 (HT.out _ (by repeat (first | with_reducible exact HK.out | with_reducible exact Kept.refl _ _ | with_reducible refine Kept.prev ?_ | with_reducible refine Kept.alloc' ?_ _ | with_reducible refine Kept.drew' ?_ | with_reducible refine Kept.setB ?_ _ _ _ (by omega) | with_reducible refine Kept.row' ?_ _ _ (by omega) | with_reducible refine Kept.map' ?_ _ _ (by omega)))) (HX.out _ (by repeat (first | with_reducible exact HK.out | with_reducible exact Kept.refl _ _ | with_reducible refine Kept.prev ?_ | with_reducible refine Kept.alloc' ?_ _ | with_reducible refine Kept.drew' ?_ | with_reducible refine Kept.setB ?_ _ _ _ (by omega) | with_reducible refine Kept.row' ?_ _ _ (by omega) | with_reducible refine Kept.map' ?_ _ _ (by omega)))) HF.out).mono ?_; rintro e w74 ⟨rfl, hk_w74⟩; haveI p_w74 : PrevWorld w74 _ := ⟨hk_w74⟩; have hz_w74 : w.heap.size ≤ w74.heap.size := Kept.size (by repeat (first | with_reducible exact HK.out | with_reducible exact Kept.refl _ _ | with_reducible refine Kept.prev ?_ | with_reducible refine Kept.alloc' ?_ _ | with_reducible refine Kept.drew' ?_ | with_reducible refine Kept.setB ?_ _ _ _ (by omega) | with_reducible refine Kept.row' ?_ _ _ (by omega) | with_reducible refine Kept.map' ?_ _ _ (by omega))); clear hk_w74
        go_wp2_with fail
        go_roundw
        case rel => exact ⟨rfl, k + 1, by omega, by go_num, (by repeat (first | with_reducible exact HK.out | with_reducible exact Kept.refl _ _ | with_reducible refine Kept.prev ?_ | with_reducible refine Kept.alloc' ?_ _ | with_reducible refine Kept.drew' ?_ | with_reducible refine Kept.setB ?_ _ _ _ (by omega) | with_reducible refine Kept.row' ?_ _ _ (by omega) | with_reducible refine Kept.map' ?_ _ _ (by omega)))⟩
        case measure => simp [intOf]; omega
    · obtain rfl : k = 10 := by omega
      clear HEV HI HB
      go_upto_region 24 with fail
      refine wp_region_late [⟨186, [], .eq (.agg ((someV A B C).cells (someT a b)))⟩, ⟨187, [], .eq (.agg (nameX 2 3).cells.toArray)⟩, ⟨188, [], .eq (.agg (nameX 4 3).cells.toArray)⟩, ⟨189, [186, 187, 188], .eq (.tuple #[.agg #[.int .i64 0, .int .i64 0], .int .i64 4])⟩, ⟨185, [189], .eq (.tuple #[.agg #[.int .i64 0, .int .i64 0], .int .i64 4])⟩, ⟨190, [185], .eq (.agg #[.int .i64 0, .int .i64 0])⟩, ⟨191, [185], .eq (.int .i64 4)⟩, ⟨21, [], .box wr.heap.size 55 #[.int .i64 0, .int .i64 0]⟩] 6 (by kernel_rfl) (by kernel_rfl) (fun _ _ _ _ _ h => h) ?_
      apply Exists.intro
      refine ⟨fun vs => ?_, ?_⟩
      · simp only [List.map_cons, List.map_nil, puts, Act.put, List.setIfInBounds_toArray, List.set_cons_zero, List.set_cons_succ]
        exact rfl
      refine ⟨⟨fun vs w75 hk hg => ?_, fun vs w75 hk hg => ?_, fun vs w75 hk hg => ?_, fun vs w75 hk hg => ?_, fun vs w75 hk hg => ?_, fun vs w75 hk hg => ?_, fun vs w75 hk hg => ?_, fun vs w75 hk hg => ?_, trivial⟩, fun vs w75 hk hg => ?_⟩
      all_goals
        haveI p_w75 : PrevWorld w75 _ := ⟨hk⟩
        have hz_w75 := hk.size
        clear hk
        (try simp only [given, allGiven, look, SP.eq_p, SP.ex_p, SP.exs_p, SP.asl_p, Nat.reduceEqDiff, reduceIte, and_true] at hg)
        (try simp only [SP.tab_p, SP.row_p, SP.box_p] at hg)
      · clear hg
        go_wp2_with fail
        exact ⟨(by repeat (first | with_reducible exact HK.out | with_reducible exact Kept.refl _ _ | with_reducible refine Kept.prev ?_ | with_reducible refine Kept.alloc' ?_ _ | with_reducible refine Kept.drew' ?_ | with_reducible refine Kept.setB ?_ _ _ _ (by omega) | with_reducible refine Kept.row' ?_ _ _ (by omega) | with_reducible refine Kept.map' ?_ _ _ (by omega))), rfl, rfl⟩
      · clear hg
        go_wp2_with fail
        refine (name_any _ _ _).mono ?_
        rintro e w9 ⟨rfl, hk9⟩
        go_wp2_with fail
        exact ⟨hk9, rfl, rfl⟩
      · clear hg
        go_wp2_with fail
        refine (name_any _ _ _).mono ?_
        rintro e w9 ⟨rfl, hk9⟩
        go_wp2_with fail
        exact ⟨hk9, rfl, rfl⟩
      · obtain ⟨e186, e187, e188⟩ := hg
        (try simp only [e186, e187, e188])
        go_wp2_with fail
        refine (range_val _ A B C a b 3 (nameX 2 3) (nameX 4 3) 1 (HT.out _ (by repeat (first | with_reducible exact HK.out | with_reducible exact Kept.refl _ _ | with_reducible refine Kept.prev ?_ | with_reducible refine Kept.alloc' ?_ _ | with_reducible refine Kept.drew' ?_ | with_reducible refine Kept.setB ?_ _ _ _ (by omega) | with_reducible refine Kept.row' ?_ _ _ (by omega) | with_reducible refine Kept.map' ?_ _ _ (by omega)))) (name_in _ _ _ _) (name_in _ _ _ _) 0 0 4 (by kernel_rfl)).mono ?_
        rintro e w9 ⟨rfl, hk9⟩
        go_wp2_with fail
        exact ⟨hk9, rfl, rfl⟩
      · obtain e189 := hg
        (try simp only [e189])
        go_wp2_with fail
        exact ⟨(by repeat (first | with_reducible exact HK.out | with_reducible exact Kept.refl _ _ | with_reducible refine Kept.prev ?_ | with_reducible refine Kept.alloc' ?_ _ | with_reducible refine Kept.drew' ?_ | with_reducible refine Kept.setB ?_ _ _ _ (by omega) | with_reducible refine Kept.row' ?_ _ _ (by omega) | with_reducible refine Kept.map' ?_ _ _ (by omega))), rfl, rfl⟩
      · obtain e185 := hg
        (try simp only [e185])
        go_wp2_with fail
        exact ⟨(by repeat (first | with_reducible exact HK.out | with_reducible exact Kept.refl _ _ | with_reducible refine Kept.prev ?_ | with_reducible refine Kept.alloc' ?_ _ | with_reducible refine Kept.drew' ?_ | with_reducible refine Kept.setB ?_ _ _ _ (by omega) | with_reducible refine Kept.row' ?_ _ _ (by omega) | with_reducible refine Kept.map' ?_ _ _ (by omega))), rfl, rfl⟩
      · obtain e185 := hg
        (try simp only [e185])
        go_wp2_with fail
        exact ⟨(by repeat (first | with_reducible exact HK.out | with_reducible exact Kept.refl _ _ | with_reducible refine Kept.prev ?_ | with_reducible refine Kept.alloc' ?_ _ | with_reducible refine Kept.drew' ?_ | with_reducible refine Kept.setB ?_ _ _ _ (by omega) | with_reducible refine Kept.row' ?_ _ _ (by omega) | with_reducible refine Kept.map' ?_ _ _ (by omega))), rfl, rfl⟩
      · clear hg
        go_wp2_with fail
        exact ⟨(by repeat (first | with_reducible exact HK.out | with_reducible exact Kept.refl _ _ | with_reducible refine Kept.prev ?_ | with_reducible refine Kept.alloc' ?_ _ | with_reducible refine Kept.drew' ?_ | with_reducible refine Kept.setB ?_ _ _ _ (by omega) | with_reducible refine Kept.row' ?_ _ _ (by omega) | with_reducible refine Kept.map' ?_ _ _ (by omega))), rfl, _, rfl, hz_w75, box_at _ _⟩
      obtain ⟨-, -, -, -, -, e190, e191, ⟨B21, e21, hB21, h21⟩⟩ := hg
      simp only [e190, e191, e21]
      haveI bx21 : BoxIs w75 B21 55 _ := ⟨h21⟩
      clear h21 e190 e191 e21
      go_upto_region 25 with fail
      refine wp_gen' ?_
      intro w76 hw
      have HK : Hid (Kept [] wr w76) := by rw [Hid, hw]; exact (by repeat (first | with_reducible exact HK.out | with_reducible exact Kept.refl _ _ | with_reducible refine Kept.prev ?_ | with_reducible refine Kept.alloc' ?_ _ | with_reducible refine Kept.drew' ?_ | with_reducible refine Kept.setB ?_ _ _ _ (by omega) | with_reducible refine Kept.row' ?_ _ _ (by omega) | with_reducible refine Kept.map' ?_ _ _ (by omega)))
      haveI b21 : BoxIs w76 B21 55 #[.int .i64 0, .int .i64 0] := by rw [hw]; infer_instance
      haveI p_w76 : PrevWorld w76 wr := ⟨HK.out⟩
      clear hw p_w75 bx21 HK
      refine wp_region_late [⟨193, [], .eq (.agg ((someV A B C).cells (someT a b)))⟩, ⟨194, [], .eq (.agg (nameX 4 3).cells.toArray)⟩, ⟨195, [], .eq (.agg (nameX 2 3).cells.toArray)⟩, ⟨196, [193, 194, 195], .eq (.tuple #[.agg #[.int .i64 2, .int .i64 0], .int .i64 0])⟩, ⟨192, [196], .eq (.tuple #[.agg #[.int .i64 2, .int .i64 0], .int .i64 0])⟩, ⟨197, [192], .eq (.agg #[.int .i64 2, .int .i64 0])⟩, ⟨198, [192], .eq (.int .i64 0)⟩, ⟨23, [], .box w76.heap.size 55 #[.int .i64 0, .int .i64 0]⟩] 6 (by kernel_rfl) (by kernel_rfl) (fun _ _ _ _ _ h => h) ?_
      apply Exists.intro
      refine ⟨fun vs => ?_, ?_⟩
      · simp only [List.map_cons, List.map_nil, puts, Act.put, List.setIfInBounds_toArray, List.set_cons_zero, List.set_cons_succ]
        exact rfl
      refine ⟨⟨fun vs w77 hk hg => ?_, fun vs w77 hk hg => ?_, fun vs w77 hk hg => ?_, fun vs w77 hk hg => ?_, fun vs w77 hk hg => ?_, fun vs w77 hk hg => ?_, fun vs w77 hk hg => ?_, fun vs w77 hk hg => ?_, trivial⟩, fun vs w77 hk hg => ?_⟩
      all_goals
        haveI p_w77 : PrevWorld w77 _ := ⟨hk⟩
        have hz_w77 := hk.size
        clear hk
        (try simp only [given, allGiven, look, SP.eq_p, SP.ex_p, SP.exs_p, SP.asl_p, Nat.reduceEqDiff, reduceIte, and_true] at hg)
        (try simp only [SP.tab_p, SP.row_p, SP.box_p] at hg)
      · clear hg
        go_wp2_with fail
        exact ⟨(by repeat (first | with_reducible exact HK.out | with_reducible exact Kept.refl _ _ | with_reducible refine Kept.prev ?_ | with_reducible refine Kept.alloc' ?_ _ | with_reducible refine Kept.drew' ?_ | with_reducible refine Kept.setB ?_ _ _ _ (by omega) | with_reducible refine Kept.row' ?_ _ _ (by omega) | with_reducible refine Kept.map' ?_ _ _ (by omega))), rfl, rfl⟩
      · clear hg
        go_wp2_with fail
        refine (name_any _ _ _).mono ?_
        rintro e w9 ⟨rfl, hk9⟩
        go_wp2_with fail
        exact ⟨hk9, rfl, rfl⟩
      · clear hg
        go_wp2_with fail
        refine (name_any _ _ _).mono ?_
        rintro e w9 ⟨rfl, hk9⟩
        go_wp2_with fail
        exact ⟨hk9, rfl, rfl⟩
      · obtain ⟨e193, e194, e195⟩ := hg
        (try simp only [e193, e194, e195])
        go_wp2_with fail
        refine (range_val _ A B C a b 3 (nameX 4 3) (nameX 2 3) 1 (HT.out _ (by repeat (first | with_reducible exact HK.out | with_reducible exact Kept.refl _ _ | with_reducible refine Kept.prev ?_ | with_reducible refine Kept.alloc' ?_ _ | with_reducible refine Kept.drew' ?_ | with_reducible refine Kept.setB ?_ _ _ _ (by omega) | with_reducible refine Kept.row' ?_ _ _ (by omega) | with_reducible refine Kept.map' ?_ _ _ (by omega)))) (name_in _ _ _ _) (name_in _ _ _ _) 2 0 0 (by kernel_rfl)).mono ?_
        rintro e w9 ⟨rfl, hk9⟩
        go_wp2_with fail
        exact ⟨hk9, rfl, rfl⟩
      · obtain e196 := hg
        (try simp only [e196])
        go_wp2_with fail
        exact ⟨(by repeat (first | with_reducible exact HK.out | with_reducible exact Kept.refl _ _ | with_reducible refine Kept.prev ?_ | with_reducible refine Kept.alloc' ?_ _ | with_reducible refine Kept.drew' ?_ | with_reducible refine Kept.setB ?_ _ _ _ (by omega) | with_reducible refine Kept.row' ?_ _ _ (by omega) | with_reducible refine Kept.map' ?_ _ _ (by omega))), rfl, rfl⟩
      · obtain e192 := hg
        (try simp only [e192])
        go_wp2_with fail
        exact ⟨(by repeat (first | with_reducible exact HK.out | with_reducible exact Kept.refl _ _ | with_reducible refine Kept.prev ?_ | with_reducible refine Kept.alloc' ?_ _ | with_reducible refine Kept.drew' ?_ | with_reducible refine Kept.setB ?_ _ _ _ (by omega) | with_reducible refine Kept.row' ?_ _ _ (by omega) | with_reducible refine Kept.map' ?_ _ _ (by omega))), rfl, rfl⟩
      · obtain e192 := hg
        (try simp only [e192])
        go_wp2_with fail
        exact ⟨(by repeat (first | with_reducible exact HK.out | with_reducible exact Kept.refl _ _ | with_reducible refine Kept.prev ?_ | with_reducible refine Kept.alloc' ?_ _ | with_reducible refine Kept.drew' ?_ | with_reducible refine Kept.setB ?_ _ _ _ (by omega) | with_reducible refine Kept.row' ?_ _ _ (by omega) | with_reducible refine Kept.map' ?_ _ _ (by omega))), rfl, rfl⟩
      · clear hg
        go_wp2_with fail
        exact ⟨(by repeat (first | with_reducible exact HK.out | with_reducible exact Kept.refl _ _ | with_reducible refine Kept.prev ?_ | with_reducible refine Kept.alloc' ?_ _ | with_reducible refine Kept.drew' ?_ | with_reducible refine Kept.setB ?_ _ _ _ (by omega) | with_reducible refine Kept.row' ?_ _ _ (by omega) | with_reducible refine Kept.map' ?_ _ _ (by omega))), rfl, _, rfl, hz_w77, box_at _ _⟩
      obtain ⟨-, -, -, -, -, e197, e198, ⟨B23, e23, hB23, h23⟩⟩ := hg
      simp only [e197, e198, e23]
      haveI bx23 : BoxIs w77 B23 55 _ := ⟨h23⟩
      clear h23 e197 e198 e23
      go_upto_region 26 with fail
      refine wp_gen' ?_
      intro w78 hw
      have HK : Hid (Kept [] w76 w78) := by rw [Hid, hw]; exact (by repeat (first | with_reducible exact HK.out | with_reducible exact Kept.refl _ _ | with_reducible refine Kept.prev ?_ | with_reducible refine Kept.alloc' ?_ _ | with_reducible refine Kept.drew' ?_ | with_reducible refine Kept.setB ?_ _ _ _ (by omega) | with_reducible refine Kept.row' ?_ _ _ (by omega) | with_reducible refine Kept.map' ?_ _ _ (by omega)))
      haveI b23 : BoxIs w78 B23 55 #[.int .i64 2, .int .i64 0] := by rw [hw]; infer_instance
      haveI p_w78 : PrevWorld w78 w76 := ⟨HK.out⟩
      clear hw p_w77 bx23 HK
      refine wp_region_late [⟨200, [], .eq (.agg ((someV A B C).cells (someT a b)))⟩, ⟨201, [], .eq (.agg (numX (-5) 0).cells.toArray)⟩, ⟨202, [], .eq (.agg (numX 5 0).cells.toArray)⟩, ⟨203, [200, 201, 202], .eq (.tuple #[.agg #[.int .i64 (-5), .int .i64 5], .int .i64 0])⟩, ⟨199, [203], .eq (.tuple #[.agg #[.int .i64 (-5), .int .i64 5], .int .i64 0])⟩, ⟨204, [199], .eq (.agg #[.int .i64 (-5), .int .i64 5])⟩, ⟨205, [199], .eq (.int .i64 0)⟩, ⟨25, [], .box w78.heap.size 55 #[.int .i64 0, .int .i64 0]⟩] 6 (by kernel_rfl) (by kernel_rfl) (fun _ _ _ _ _ h => h) ?_
      apply Exists.intro
      refine ⟨fun vs => ?_, ?_⟩
      · simp only [List.map_cons, List.map_nil, puts, Act.put, List.setIfInBounds_toArray, List.set_cons_zero, List.set_cons_succ]
        exact rfl
      refine ⟨⟨fun vs w79 hk hg => ?_, fun vs w79 hk hg => ?_, fun vs w79 hk hg => ?_, fun vs w79 hk hg => ?_, fun vs w79 hk hg => ?_, fun vs w79 hk hg => ?_, fun vs w79 hk hg => ?_, fun vs w79 hk hg => ?_, trivial⟩, fun vs w79 hk hg => ?_⟩
      all_goals
        haveI p_w79 : PrevWorld w79 _ := ⟨hk⟩
        have hz_w79 := hk.size
        clear hk
        (try simp only [given, allGiven, look, SP.eq_p, SP.ex_p, SP.exs_p, SP.asl_p, Nat.reduceEqDiff, reduceIte, and_true] at hg)
        (try simp only [SP.tab_p, SP.row_p, SP.box_p] at hg)
      · clear hg
        go_wp2_with fail
        exact ⟨(by repeat (first | with_reducible exact HK.out | with_reducible exact Kept.refl _ _ | with_reducible refine Kept.prev ?_ | with_reducible refine Kept.alloc' ?_ _ | with_reducible refine Kept.drew' ?_ | with_reducible refine Kept.setB ?_ _ _ _ (by omega) | with_reducible refine Kept.row' ?_ _ _ (by omega) | with_reducible refine Kept.map' ?_ _ _ (by omega))), rfl, rfl⟩
      · clear hg
        go_wp2_with fail
        refine (number_any _ _ _).mono ?_
        rintro e w9 ⟨rfl, hk9⟩
        go_wp2_with fail
        exact ⟨hk9, rfl, rfl⟩
      · clear hg
        go_wp2_with fail
        refine (number_any _ _ _).mono ?_
        rintro e w9 ⟨rfl, hk9⟩
        go_wp2_with fail
        exact ⟨hk9, rfl, rfl⟩
      · obtain ⟨e200, e201, e202⟩ := hg
        (try simp only [e200, e201, e202])
        go_wp2_with fail
        refine (range_val _ A B C a b (-1) (numX (-5) 0) (numX 5 0) 1 (HT.out _ (by repeat (first | with_reducible exact HK.out | with_reducible exact Kept.refl _ _ | with_reducible refine Kept.prev ?_ | with_reducible refine Kept.alloc' ?_ _ | with_reducible refine Kept.drew' ?_ | with_reducible refine Kept.setB ?_ _ _ _ (by omega) | with_reducible refine Kept.row' ?_ _ _ (by omega) | with_reducible refine Kept.map' ?_ _ _ (by omega)))) (num_in _ _ _ _ (by decide)) (num_in _ _ _ _ (by decide)) (-5) 5 0 (by kernel_rfl)).mono ?_
        rintro e w9 ⟨rfl, hk9⟩
        go_wp2_with fail
        exact ⟨hk9, rfl, rfl⟩
      · obtain e203 := hg
        (try simp only [e203])
        go_wp2_with fail
        exact ⟨(by repeat (first | with_reducible exact HK.out | with_reducible exact Kept.refl _ _ | with_reducible refine Kept.prev ?_ | with_reducible refine Kept.alloc' ?_ _ | with_reducible refine Kept.drew' ?_ | with_reducible refine Kept.setB ?_ _ _ _ (by omega) | with_reducible refine Kept.row' ?_ _ _ (by omega) | with_reducible refine Kept.map' ?_ _ _ (by omega))), rfl, rfl⟩
      · obtain e199 := hg
        (try simp only [e199])
        go_wp2_with fail
        exact ⟨(by repeat (first | with_reducible exact HK.out | with_reducible exact Kept.refl _ _ | with_reducible refine Kept.prev ?_ | with_reducible refine Kept.alloc' ?_ _ | with_reducible refine Kept.drew' ?_ | with_reducible refine Kept.setB ?_ _ _ _ (by omega) | with_reducible refine Kept.row' ?_ _ _ (by omega) | with_reducible refine Kept.map' ?_ _ _ (by omega))), rfl, rfl⟩
      · obtain e199 := hg
        (try simp only [e199])
        go_wp2_with fail
        exact ⟨(by repeat (first | with_reducible exact HK.out | with_reducible exact Kept.refl _ _ | with_reducible refine Kept.prev ?_ | with_reducible refine Kept.alloc' ?_ _ | with_reducible refine Kept.drew' ?_ | with_reducible refine Kept.setB ?_ _ _ _ (by omega) | with_reducible refine Kept.row' ?_ _ _ (by omega) | with_reducible refine Kept.map' ?_ _ _ (by omega))), rfl, rfl⟩
      · clear hg
        go_wp2_with fail
        exact ⟨(by repeat (first | with_reducible exact HK.out | with_reducible exact Kept.refl _ _ | with_reducible refine Kept.prev ?_ | with_reducible refine Kept.alloc' ?_ _ | with_reducible refine Kept.drew' ?_ | with_reducible refine Kept.setB ?_ _ _ _ (by omega) | with_reducible refine Kept.row' ?_ _ _ (by omega) | with_reducible refine Kept.map' ?_ _ _ (by omega))), rfl, _, rfl, hz_w79, box_at _ _⟩
      obtain ⟨-, -, -, -, -, e204, e205, ⟨B25, e25, hB25, h25⟩⟩ := hg
      simp only [e204, e205, e25]
      haveI bx25 : BoxIs w79 B25 55 _ := ⟨h25⟩
      clear h25 e204 e205 e25
      go_upto_region 27 with fail
      refine wp_gen' ?_
      intro w80 hw
      have HK : Hid (Kept [] w78 w80) := by rw [Hid, hw]; exact (by repeat (first | with_reducible exact HK.out | with_reducible exact Kept.refl _ _ | with_reducible refine Kept.prev ?_ | with_reducible refine Kept.alloc' ?_ _ | with_reducible refine Kept.drew' ?_ | with_reducible refine Kept.setB ?_ _ _ _ (by omega) | with_reducible refine Kept.row' ?_ _ _ (by omega) | with_reducible refine Kept.map' ?_ _ _ (by omega)))
      haveI b25 : BoxIs w80 B25 55 #[.int .i64 (-5), .int .i64 5] := by rw [hw]; infer_instance
      haveI p_w80 : PrevWorld w80 w78 := ⟨HK.out⟩
      clear hw p_w79 bx25 HK
      go_wp2_with fail
      refine (name_any _ _ _).mono ?_; rintro e w81 ⟨rfl, hk_w81⟩; haveI p_w81 : PrevWorld w81 _ := ⟨hk_w81⟩; have hz_w81 : w.heap.size ≤ w81.heap.size := Kept.size (by repeat (first | with_reducible exact HK.out | with_reducible exact Kept.refl _ _ | with_reducible refine Kept.prev ?_ | with_reducible refine Kept.alloc' ?_ _ | with_reducible refine Kept.drew' ?_ | with_reducible refine Kept.setB ?_ _ _ _ (by omega) | with_reducible refine Kept.row' ?_ _ _ (by omega) | with_reducible refine Kept.map' ?_ _ _ (by omega))); clear hk_w81
      go_wp2_with fail
      refine (choose_any _ _ _ (nameX 2 3) 1 (name_in _ _ _ _)).mono ?_
      rintro e w82 ⟨A7, c7, l7, k7, rfl, hr7, hc7, hk82⟩
      haveI p_w82 : PrevWorld w82 _ := ⟨hk82⟩
      haveI bo : BoxIs w82 w80.heap.size 67 #[.int .u8 3, .slice none 0 0] := inferInstance
      have H7 := Lib.hid (fun w' (hk : Kept [] w82 w') => (chs_one (c := c7) hr7 hc7).kept hk)
      clear hk82 hr7 hc7
      go_wp2_with fail
      refine wp_gen' ?_
      intro w83 hw83
      haveI p_w83 : PrevWorld w83 w82 := ⟨by rw [hw83]; exact (by repeat (first | with_reducible exact HK.out | with_reducible exact Kept.refl _ _ | with_reducible refine Kept.prev ?_ | with_reducible refine Kept.alloc' ?_ _ | with_reducible refine Kept.drew' ?_ | with_reducible refine Kept.setB ?_ _ _ _ (by omega) | with_reducible refine Kept.row' ?_ _ _ (by omega) | with_reducible refine Kept.map' ?_ _ _ (by omega)))⟩
      have HL := Lib.hid (fun w' (hk : Kept [] w83 w') => (show ListsAt w83 1 w82.heap.size [⟨some ⟨w80.heap.size, 0, none⟩, 1, [⟨3, none, 0, []⟩]⟩, ⟨A7, c7, [⟨1, l7, k7, [nameX 2 3]⟩]⟩] from
        ⟨by rw [hw83]; exact box_at _ _, all_two ⟨rows_block (by rw [hw83]; exact box_at _ _) (fun _ => rfl), all_one ⟨.inl rfl, fun y hy => (by cases hy), by simp⟩⟩ (H7.out _ (by repeat (first | with_reducible exact HK.out | with_reducible exact Kept.refl _ _ | with_reducible refine Kept.prev ?_ | with_reducible refine Kept.alloc' ?_ _ | with_reducible refine Kept.drew' ?_ | with_reducible refine Kept.setB ?_ _ _ _ (by omega) | with_reducible refine Kept.row' ?_ _ _ (by omega) | with_reducible refine Kept.map' ?_ _ _ (by omega))))⟩).kept hk)
      clear hw83 H7 bo
      refine wp_region_each [⟨237, [], .eq (.bool true)⟩, ⟨238, [237], .eq (.bool true)⟩, ⟨239, [238], .eq (.bool true)⟩, ⟨240, [238, 239], .eq (.bool true)⟩, ⟨241, [240], .eq (.bool true)⟩, ⟨242, [241], .eq (.bool true)⟩, ⟨243, [241, 242], .eq (.bool true)⟩, ⟨244, [243], .eq (.bool true)⟩, ⟨245, [244], .eq (.bool true)⟩, ⟨246, [244, 245], .eq (.bool true)⟩, ⟨247, [246], .eq (.bool true)⟩, ⟨248, [247], .eq (.bool true)⟩, ⟨249, [247, 248], .eq (.bool true)⟩, ⟨250, [249], .eq (.bool true)⟩, ⟨251, [250], .eq (.agg ((someV A B C).cells (someT a b)))⟩, ⟨252, [250], .eq (.slice (some ⟨w82.heap.size, 0, none⟩) 2 2)⟩, ⟨253, [251, 252, 250], .eq (.int .i64 72)⟩, ⟨254, [253, 250], .eq (.bool true)⟩, ⟨255, [250, 254], .eq (.bool true)⟩, ⟨256, [255], .eq (.bool true)⟩, ⟨257, [256], .eq (.agg ((someV A B C).cells (someT a b)))⟩, ⟨258, [257, 256], .eq (.int .i64 72)⟩, ⟨259, [258, 256], .eq (.bool true)⟩, ⟨260, [256, 259], .eq (.bool true)⟩, ⟨261, [260], .eq (.bool true)⟩, ⟨262, [261], .eq (.agg ((someV A B C).cells (someT a b)))⟩, ⟨263, [261], .eq (.agg (nameX 4 3).cells.toArray)⟩, ⟨264, [263, 261], .exs [] 1 (fun l => l = [nameX 4 3])⟩, ⟨265, [264, 261], .chl 1 (fun l => ∃ la lc, l = [⟨1, la, lc, [nameX 4 3]⟩])⟩, ⟨266, [265, 261], .lists 1 (fun l => ∃ la lc, l = [[⟨1, la, lc, [nameX 4 3]⟩]])⟩, ⟨267, [262, 266, 261], .eq (.int .i64 4)⟩, ⟨268, [267, 261], .eq (.bool true)⟩, ⟨269, [261, 268], .eq (.bool true)⟩, ⟨270, [269], .eq (.bool true)⟩, ⟨271, [270], .eq (.bool true)⟩, ⟨272, [270, 271], .eq (.bool true)⟩, ⟨0, [272], .eq (.bool true)⟩] (by kernel_rfl) (by kernel_rfl) ?_
      apply Exists.intro
      refine ⟨fun vs => ?_, ?_⟩
      · simp only [List.map_cons, List.map_nil, puts, Act.put, List.setIfInBounds_toArray, List.set_cons_zero, List.set_cons_succ]
        exact rfl
      refine ⟨⟨fun vs w84 hk hg => ?_, fun vs w84 hk hg => ?_, fun vs w84 hk hg => ?_, fun vs w84 hk hg => ?_, fun vs w84 hk hg => ?_, fun vs w84 hk hg => ?_, fun vs w84 hk hg => ?_, fun vs w84 hk hg => ?_, fun vs w84 hk hg => ?_, fun vs w84 hk hg => ?_, fun vs w84 hk hg => ?_, fun vs w84 hk hg => ?_, fun vs w84 hk hg => ?_, fun vs w84 hk hg => ?_, fun vs w84 hk hg => ?_, fun vs w84 hk hg => ?_, fun vs w84 hk hg => ?_, fun vs w84 hk hg => ?_, fun vs w84 hk hg => ?_, fun vs w84 hk hg => ?_, fun vs w84 hk hg => ?_, fun vs w84 hk hg => ?_, fun vs w84 hk hg => ?_, fun vs w84 hk hg => ?_, fun vs w84 hk hg => ?_, fun vs w84 hk hg => ?_, fun vs w84 hk hg => ?_, fun vs w84 hk hg => ?_, fun vs w84 hk hg => ?_, fun vs w84 hk hg => ?_, fun vs w84 hk hg => ?_, fun vs w84 hk hg => ?_, fun vs w84 hk hg => ?_, fun vs w84 hk hg => ?_, fun vs w84 hk hg => ?_, fun vs w84 hk hg => ?_, fun vs w84 hk hg => ?_, trivial⟩, fun vs w84 hk hg => ?_⟩
      all_goals
        haveI p_w84 : PrevWorld w84 _ := ⟨hk⟩
        have hz_w84 := hk.size
        clear hk
        (try simp only [given, allGiven, look, SP.eq_p, SP.ex_p, SP.exs_p, SP.asl_p, Nat.reduceEqDiff, reduceIte, and_true] at hg)
        (try simp only [SP.tab_p, SP.row_p, SP.box_p] at hg)
      · clear hg
        go_wp2_with fail
        exact ⟨(by repeat (first | with_reducible exact HK.out | with_reducible exact Kept.refl _ _ | with_reducible refine Kept.prev ?_ | with_reducible refine Kept.alloc' ?_ _ | with_reducible refine Kept.drew' ?_ | with_reducible refine Kept.setB ?_ _ _ _ (by omega) | with_reducible refine Kept.row' ?_ _ _ (by omega) | with_reducible refine Kept.map' ?_ _ _ (by omega))), rfl, rfl⟩
      · obtain e237 := hg
        (try simp only [e237])
        go_wp2_with fail
        exact ⟨(by repeat (first | with_reducible exact HK.out | with_reducible exact Kept.refl _ _ | with_reducible refine Kept.prev ?_ | with_reducible refine Kept.alloc' ?_ _ | with_reducible refine Kept.drew' ?_ | with_reducible refine Kept.setB ?_ _ _ _ (by omega) | with_reducible refine Kept.row' ?_ _ _ (by omega) | with_reducible refine Kept.map' ?_ _ _ (by omega))), rfl, rfl⟩
      · obtain e238 := hg
        (try simp only [e238])
        go_wp2_with fail
        exact ⟨(by repeat (first | with_reducible exact HK.out | with_reducible exact Kept.refl _ _ | with_reducible refine Kept.prev ?_ | with_reducible refine Kept.alloc' ?_ _ | with_reducible refine Kept.drew' ?_ | with_reducible refine Kept.setB ?_ _ _ _ (by omega) | with_reducible refine Kept.row' ?_ _ _ (by omega) | with_reducible refine Kept.map' ?_ _ _ (by omega))), rfl, rfl⟩
      · obtain ⟨e238, e239⟩ := hg
        (try simp only [e238, e239])
        go_wp2_with fail
        exact ⟨(by repeat (first | with_reducible exact HK.out | with_reducible exact Kept.refl _ _ | with_reducible refine Kept.prev ?_ | with_reducible refine Kept.alloc' ?_ _ | with_reducible refine Kept.drew' ?_ | with_reducible refine Kept.setB ?_ _ _ _ (by omega) | with_reducible refine Kept.row' ?_ _ _ (by omega) | with_reducible refine Kept.map' ?_ _ _ (by omega))), rfl, rfl⟩
      · obtain e240 := hg
        (try simp only [e240])
        go_wp2_with fail
        exact ⟨(by repeat (first | with_reducible exact HK.out | with_reducible exact Kept.refl _ _ | with_reducible refine Kept.prev ?_ | with_reducible refine Kept.alloc' ?_ _ | with_reducible refine Kept.drew' ?_ | with_reducible refine Kept.setB ?_ _ _ _ (by omega) | with_reducible refine Kept.row' ?_ _ _ (by omega) | with_reducible refine Kept.map' ?_ _ _ (by omega))), rfl, rfl⟩
      · obtain e241 := hg
        (try simp only [e241])
        go_wp2_with fail
        exact ⟨(by repeat (first | with_reducible exact HK.out | with_reducible exact Kept.refl _ _ | with_reducible refine Kept.prev ?_ | with_reducible refine Kept.alloc' ?_ _ | with_reducible refine Kept.drew' ?_ | with_reducible refine Kept.setB ?_ _ _ _ (by omega) | with_reducible refine Kept.row' ?_ _ _ (by omega) | with_reducible refine Kept.map' ?_ _ _ (by omega))), rfl, rfl⟩
      · obtain ⟨e241, e242⟩ := hg
        (try simp only [e241, e242])
        go_wp2_with fail
        exact ⟨(by repeat (first | with_reducible exact HK.out | with_reducible exact Kept.refl _ _ | with_reducible refine Kept.prev ?_ | with_reducible refine Kept.alloc' ?_ _ | with_reducible refine Kept.drew' ?_ | with_reducible refine Kept.setB ?_ _ _ _ (by omega) | with_reducible refine Kept.row' ?_ _ _ (by omega) | with_reducible refine Kept.map' ?_ _ _ (by omega))), rfl, rfl⟩
      · obtain e243 := hg
        (try simp only [e243])
        go_wp2_with fail
        exact ⟨(by repeat (first | with_reducible exact HK.out | with_reducible exact Kept.refl _ _ | with_reducible refine Kept.prev ?_ | with_reducible refine Kept.alloc' ?_ _ | with_reducible refine Kept.drew' ?_ | with_reducible refine Kept.setB ?_ _ _ _ (by omega) | with_reducible refine Kept.row' ?_ _ _ (by omega) | with_reducible refine Kept.map' ?_ _ _ (by omega))), rfl, rfl⟩
      · obtain e244 := hg
        (try simp only [e244])
        go_wp2_with fail
        exact ⟨(by repeat (first | with_reducible exact HK.out | with_reducible exact Kept.refl _ _ | with_reducible refine Kept.prev ?_ | with_reducible refine Kept.alloc' ?_ _ | with_reducible refine Kept.drew' ?_ | with_reducible refine Kept.setB ?_ _ _ _ (by omega) | with_reducible refine Kept.row' ?_ _ _ (by omega) | with_reducible refine Kept.map' ?_ _ _ (by omega))), rfl, rfl⟩
      · obtain ⟨e244, e245⟩ := hg
        (try simp only [e244, e245])
        go_wp2_with fail
        exact ⟨(by repeat (first | with_reducible exact HK.out | with_reducible exact Kept.refl _ _ | with_reducible refine Kept.prev ?_ | with_reducible refine Kept.alloc' ?_ _ | with_reducible refine Kept.drew' ?_ | with_reducible refine Kept.setB ?_ _ _ _ (by omega) | with_reducible refine Kept.row' ?_ _ _ (by omega) | with_reducible refine Kept.map' ?_ _ _ (by omega))), rfl, rfl⟩
      · obtain e246 := hg
        (try simp only [e246])
        go_wp2_with fail
        exact ⟨(by repeat (first | with_reducible exact HK.out | with_reducible exact Kept.refl _ _ | with_reducible refine Kept.prev ?_ | with_reducible refine Kept.alloc' ?_ _ | with_reducible refine Kept.drew' ?_ | with_reducible refine Kept.setB ?_ _ _ _ (by omega) | with_reducible refine Kept.row' ?_ _ _ (by omega) | with_reducible refine Kept.map' ?_ _ _ (by omega))), rfl, rfl⟩
      · obtain e247 := hg
        (try simp only [e247])
        go_wp2_with fail
        exact ⟨(by repeat (first | with_reducible exact HK.out | with_reducible exact Kept.refl _ _ | with_reducible refine Kept.prev ?_ | with_reducible refine Kept.alloc' ?_ _ | with_reducible refine Kept.drew' ?_ | with_reducible refine Kept.setB ?_ _ _ _ (by omega) | with_reducible refine Kept.row' ?_ _ _ (by omega) | with_reducible refine Kept.map' ?_ _ _ (by omega))), rfl, rfl⟩
      · obtain ⟨e247, e248⟩ := hg
        (try simp only [e247, e248])
        go_wp2_with fail
        exact ⟨(by repeat (first | with_reducible exact HK.out | with_reducible exact Kept.refl _ _ | with_reducible refine Kept.prev ?_ | with_reducible refine Kept.alloc' ?_ _ | with_reducible refine Kept.drew' ?_ | with_reducible refine Kept.setB ?_ _ _ _ (by omega) | with_reducible refine Kept.row' ?_ _ _ (by omega) | with_reducible refine Kept.map' ?_ _ _ (by omega))), rfl, rfl⟩
      · obtain e249 := hg
        (try simp only [e249])
        go_wp2_with fail
        exact ⟨(by repeat (first | with_reducible exact HK.out | with_reducible exact Kept.refl _ _ | with_reducible refine Kept.prev ?_ | with_reducible refine Kept.alloc' ?_ _ | with_reducible refine Kept.drew' ?_ | with_reducible refine Kept.setB ?_ _ _ _ (by omega) | with_reducible refine Kept.row' ?_ _ _ (by omega) | with_reducible refine Kept.map' ?_ _ _ (by omega))), rfl, rfl⟩
      · obtain e250 := hg
        (try simp only [e250])
        go_wp2_with fail
        exact ⟨(by repeat (first | with_reducible exact HK.out | with_reducible exact Kept.refl _ _ | with_reducible refine Kept.prev ?_ | with_reducible refine Kept.alloc' ?_ _ | with_reducible refine Kept.drew' ?_ | with_reducible refine Kept.setB ?_ _ _ _ (by omega) | with_reducible refine Kept.row' ?_ _ _ (by omega) | with_reducible refine Kept.map' ?_ _ _ (by omega))), rfl, rfl⟩
      · obtain e250 := hg
        (try simp only [e250])
        go_wp2_with fail
        exact ⟨(by repeat (first | with_reducible exact HK.out | with_reducible exact Kept.refl _ _ | with_reducible refine Kept.prev ?_ | with_reducible refine Kept.alloc' ?_ _ | with_reducible refine Kept.drew' ?_ | with_reducible refine Kept.setB ?_ _ _ _ (by omega) | with_reducible refine Kept.row' ?_ _ _ (by omega) | with_reducible refine Kept.map' ?_ _ _ (by omega))), rfl, rfl⟩
      · obtain ⟨e251, e252, e250⟩ := hg
        (try simp only [e251, e252, e250])
        go_wp2_with fail
        refine (cover_val _ (someV A B C) (someT a b) 2 w82.heap.size [⟨some ⟨w80.heap.size, 0, none⟩, 1, [⟨3, none, 0, []⟩]⟩, ⟨A7, c7, [⟨1, l7, k7, [nameX 2 3]⟩]⟩] 1 72 (HT.out _ (by repeat (first | with_reducible exact HK.out | with_reducible exact Kept.refl _ _ | with_reducible refine Kept.prev ?_ | with_reducible refine Kept.alloc' ?_ _ | with_reducible refine Kept.drew' ?_ | with_reducible refine Kept.setB ?_ _ _ _ (by omega) | with_reducible refine Kept.row' ?_ _ _ (by omega) | with_reducible refine Kept.map' ?_ _ _ (by omega)))) (HL.out _ (by repeat (first | with_reducible exact HK.out | with_reducible exact Kept.refl _ _ | with_reducible refine Kept.prev ?_ | with_reducible refine Kept.alloc' ?_ _ | with_reducible refine Kept.drew' ?_ | with_reducible refine Kept.setB ?_ _ _ _ (by omega) | with_reducible refine Kept.row' ?_ _ _ (by omega) | with_reducible refine Kept.map' ?_ _ _ (by omega)))) (by simp) (all_two (by simp) (by simp)) (ev_cover6 _ _ _ _ _ _ _ _)).mono ?_
        rintro e w9 ⟨rfl, hk9⟩
        go_wp2_with fail
        exact ⟨hk9, rfl, rfl⟩
      · obtain ⟨e253, e250⟩ := hg
        (try simp only [e253, e250])
        go_wp2_with fail
        exact ⟨(by repeat (first | with_reducible exact HK.out | with_reducible exact Kept.refl _ _ | with_reducible refine Kept.prev ?_ | with_reducible refine Kept.alloc' ?_ _ | with_reducible refine Kept.drew' ?_ | with_reducible refine Kept.setB ?_ _ _ _ (by omega) | with_reducible refine Kept.row' ?_ _ _ (by omega) | with_reducible refine Kept.map' ?_ _ _ (by omega))), rfl, rfl⟩
      · obtain ⟨e250, e254⟩ := hg
        (try simp only [e250, e254])
        go_wp2_with fail
        exact ⟨(by repeat (first | with_reducible exact HK.out | with_reducible exact Kept.refl _ _ | with_reducible refine Kept.prev ?_ | with_reducible refine Kept.alloc' ?_ _ | with_reducible refine Kept.drew' ?_ | with_reducible refine Kept.setB ?_ _ _ _ (by omega) | with_reducible refine Kept.row' ?_ _ _ (by omega) | with_reducible refine Kept.map' ?_ _ _ (by omega))), rfl, rfl⟩
      · obtain e255 := hg
        (try simp only [e255])
        go_wp2_with fail
        exact ⟨(by repeat (first | with_reducible exact HK.out | with_reducible exact Kept.refl _ _ | with_reducible refine Kept.prev ?_ | with_reducible refine Kept.alloc' ?_ _ | with_reducible refine Kept.drew' ?_ | with_reducible refine Kept.setB ?_ _ _ _ (by omega) | with_reducible refine Kept.row' ?_ _ _ (by omega) | with_reducible refine Kept.map' ?_ _ _ (by omega))), rfl, rfl⟩
      · obtain e256 := hg
        (try simp only [e256])
        go_wp2_with fail
        exact ⟨(by repeat (first | with_reducible exact HK.out | with_reducible exact Kept.refl _ _ | with_reducible refine Kept.prev ?_ | with_reducible refine Kept.alloc' ?_ _ | with_reducible refine Kept.drew' ?_ | with_reducible refine Kept.setB ?_ _ _ _ (by omega) | with_reducible refine Kept.row' ?_ _ _ (by omega) | with_reducible refine Kept.map' ?_ _ _ (by omega))), rfl, rfl⟩
      · obtain ⟨e257, e256⟩ := hg
        (try simp only [e257, e256])
        go_wp2_with fail
        refine (cover_nil _ A B C a b (HT.out _ (by repeat (first | with_reducible exact HK.out | with_reducible exact Kept.refl _ _ | with_reducible refine Kept.prev ?_ | with_reducible refine Kept.alloc' ?_ _ | with_reducible refine Kept.drew' ?_ | with_reducible refine Kept.setB ?_ _ _ _ (by omega) | with_reducible refine Kept.row' ?_ _ _ (by omega) | with_reducible refine Kept.map' ?_ _ _ (by omega))))).mono ?_
        rintro e w9 ⟨rfl, hk9⟩
        go_wp2_with fail
        exact ⟨hk9, rfl, rfl⟩
      · obtain ⟨e258, e256⟩ := hg
        (try simp only [e258, e256])
        go_wp2_with fail
        exact ⟨(by repeat (first | with_reducible exact HK.out | with_reducible exact Kept.refl _ _ | with_reducible refine Kept.prev ?_ | with_reducible refine Kept.alloc' ?_ _ | with_reducible refine Kept.drew' ?_ | with_reducible refine Kept.setB ?_ _ _ _ (by omega) | with_reducible refine Kept.row' ?_ _ _ (by omega) | with_reducible refine Kept.map' ?_ _ _ (by omega))), rfl, rfl⟩
      · obtain ⟨e256, e259⟩ := hg
        (try simp only [e256, e259])
        go_wp2_with fail
        exact ⟨(by repeat (first | with_reducible exact HK.out | with_reducible exact Kept.refl _ _ | with_reducible refine Kept.prev ?_ | with_reducible refine Kept.alloc' ?_ _ | with_reducible refine Kept.drew' ?_ | with_reducible refine Kept.setB ?_ _ _ _ (by omega) | with_reducible refine Kept.row' ?_ _ _ (by omega) | with_reducible refine Kept.map' ?_ _ _ (by omega))), rfl, rfl⟩
      · obtain e260 := hg
        (try simp only [e260])
        go_wp2_with fail
        exact ⟨(by repeat (first | with_reducible exact HK.out | with_reducible exact Kept.refl _ _ | with_reducible refine Kept.prev ?_ | with_reducible refine Kept.alloc' ?_ _ | with_reducible refine Kept.drew' ?_ | with_reducible refine Kept.setB ?_ _ _ _ (by omega) | with_reducible refine Kept.row' ?_ _ _ (by omega) | with_reducible refine Kept.map' ?_ _ _ (by omega))), rfl, rfl⟩
      · obtain e261 := hg
        (try simp only [e261])
        go_wp2_with fail
        exact ⟨(by repeat (first | with_reducible exact HK.out | with_reducible exact Kept.refl _ _ | with_reducible refine Kept.prev ?_ | with_reducible refine Kept.alloc' ?_ _ | with_reducible refine Kept.drew' ?_ | with_reducible refine Kept.setB ?_ _ _ _ (by omega) | with_reducible refine Kept.row' ?_ _ _ (by omega) | with_reducible refine Kept.map' ?_ _ _ (by omega))), rfl, rfl⟩
      · obtain e261 := hg
        (try simp only [e261])
        go_wp2_with fail
        refine (name_any _ _ _).mono ?_
        rintro e w9 ⟨rfl, hk9⟩
        go_wp2_with fail
        exact ⟨hk9, rfl, rfl⟩
      · obtain ⟨e263, e261⟩ := hg
        (try simp only [e263, e261])
        go_wp2_with fail
        exact ⟨(by repeat (first | with_reducible exact HK.out | with_reducible exact Kept.refl _ _ | with_reducible refine Kept.prev ?_ | with_reducible refine Kept.alloc' ?_ _ | with_reducible refine Kept.drew' ?_ | with_reducible refine Kept.setB ?_ _ _ _ (by omega) | with_reducible refine Kept.row' ?_ _ _ (by omega) | with_reducible refine Kept.map' ?_ _ _ (by omega))), rfl, _, [nameX 4 3], rfl, rfl, box_at _ _, (fun h => by cases h), all_one (name_k _ _ _ _)⟩
      · obtain ⟨⟨C264, _, e264, rfl, h264, _, i264⟩, e261⟩ := hg
        (try simp only [e261])
        haveI x264 := exat_of h264
        go_wp2_with fail
        refine (choose_any _ C264 _ (nameX 4 3) 1 (name_in _ _ _ _)).mono ?_
        rintro e w9 ⟨a9, c9, la, lc, rfl, hr9, hc9, hk9⟩
        go_wp2_with fail
        exact ⟨hk9, rfl, ⟨a9, c9, [⟨1, la, lc, [nameX 4 3]⟩]⟩, rfl, ⟨_, _, rfl⟩, chs_one hr9 hc9⟩
      · obtain ⟨⟨⟨a265, c265, _⟩, e265, ⟨la265, lc265, rfl⟩, h265⟩, e261⟩ := hg
        (try simp only [e261])
        go_wp2_with fail
        exact ⟨(by repeat (first | with_reducible exact HK.out | with_reducible exact Kept.refl _ _ | with_reducible refine Kept.prev ?_ | with_reducible refine Kept.alloc' ?_ _ | with_reducible refine Kept.drew' ?_ | with_reducible refine Kept.setB ?_ _ _ _ (by omega) | with_reducible refine Kept.row' ?_ _ _ (by omega) | with_reducible refine Kept.map' ?_ _ _ (by omega))), rfl, _, [⟨a265, c265, _⟩], rfl, ⟨_, _, rfl⟩, box_at _ _, all_one (h265.kept (by repeat (first | with_reducible exact HK.out | with_reducible exact Kept.refl _ _ | with_reducible refine Kept.prev ?_ | with_reducible refine Kept.alloc' ?_ _ | with_reducible refine Kept.drew' ?_ | with_reducible refine Kept.setB ?_ _ _ _ (by omega) | with_reducible refine Kept.row' ?_ _ _ (by omega) | with_reducible refine Kept.map' ?_ _ _ (by omega))))⟩
      · obtain ⟨e262, ⟨D266, ls266, e266, ⟨la266, lc266, hp266⟩, h266⟩, e261⟩ := hg
        (try simp only [e262, e261])
        obtain ⟨A1, k1, rfl⟩ := map_one hp266
        go_wp2_with fail
        refine (cover_val _ (someV A B C) (someT a b) 3 D266 _ 1 4 (HT.out _ (by repeat (first | with_reducible exact HK.out | with_reducible exact Kept.refl _ _ | with_reducible refine Kept.prev ?_ | with_reducible refine Kept.alloc' ?_ _ | with_reducible refine Kept.drew' ?_ | with_reducible refine Kept.setB ?_ _ _ _ (by omega) | with_reducible refine Kept.row' ?_ _ _ (by omega) | with_reducible refine Kept.map' ?_ _ _ (by omega)))) h266 (by simp) (all_one (by simp)) (ev_cover4 _ _ _ _ _ _)).mono ?_
        rintro e w9 ⟨rfl, hk9⟩
        go_wp2_with fail
        exact ⟨hk9, rfl, rfl⟩
      · obtain ⟨e267, e261⟩ := hg
        (try simp only [e267, e261])
        go_wp2_with fail
        exact ⟨(by repeat (first | with_reducible exact HK.out | with_reducible exact Kept.refl _ _ | with_reducible refine Kept.prev ?_ | with_reducible refine Kept.alloc' ?_ _ | with_reducible refine Kept.drew' ?_ | with_reducible refine Kept.setB ?_ _ _ _ (by omega) | with_reducible refine Kept.row' ?_ _ _ (by omega) | with_reducible refine Kept.map' ?_ _ _ (by omega))), rfl, rfl⟩
      · obtain ⟨e261, e268⟩ := hg
        (try simp only [e261, e268])
        go_wp2_with fail
        exact ⟨(by repeat (first | with_reducible exact HK.out | with_reducible exact Kept.refl _ _ | with_reducible refine Kept.prev ?_ | with_reducible refine Kept.alloc' ?_ _ | with_reducible refine Kept.drew' ?_ | with_reducible refine Kept.setB ?_ _ _ _ (by omega) | with_reducible refine Kept.row' ?_ _ _ (by omega) | with_reducible refine Kept.map' ?_ _ _ (by omega))), rfl, rfl⟩
      · obtain e269 := hg
        (try simp only [e269])
        go_wp2_with fail
        exact ⟨(by repeat (first | with_reducible exact HK.out | with_reducible exact Kept.refl _ _ | with_reducible refine Kept.prev ?_ | with_reducible refine Kept.alloc' ?_ _ | with_reducible refine Kept.drew' ?_ | with_reducible refine Kept.setB ?_ _ _ _ (by omega) | with_reducible refine Kept.row' ?_ _ _ (by omega) | with_reducible refine Kept.map' ?_ _ _ (by omega))), rfl, rfl⟩
      · obtain e270 := hg
        (try simp only [e270])
        go_wp2_with fail
        refine (works_any _).mono ?_
        rintro e w9 ⟨rfl, hk9⟩
        go_wp2_with fail
        exact ⟨hk9, rfl, rfl⟩
      · obtain ⟨e270, e271⟩ := hg
        (try simp only [e270, e271])
        go_wp2_with fail
        exact ⟨(by repeat (first | with_reducible exact HK.out | with_reducible exact Kept.refl _ _ | with_reducible refine Kept.prev ?_ | with_reducible refine Kept.alloc' ?_ _ | with_reducible refine Kept.drew' ?_ | with_reducible refine Kept.setB ?_ _ _ _ (by omega) | with_reducible refine Kept.row' ?_ _ _ (by omega) | with_reducible refine Kept.map' ?_ _ _ (by omega))), rfl, rfl⟩
      · obtain e272 := hg
        (try simp only [e272])
        go_wp2_with fail
        exact ⟨(by repeat (first | with_reducible exact HK.out | with_reducible exact Kept.refl _ _ | with_reducible refine Kept.prev ?_ | with_reducible refine Kept.alloc' ?_ _ | with_reducible refine Kept.drew' ?_ | with_reducible refine Kept.setB ?_ _ _ _ (by omega) | with_reducible refine Kept.row' ?_ _ _ (by omega) | with_reducible refine Kept.map' ?_ _ _ (by omega))), rfl, rfl⟩
      obtain ⟨-, -, -, -, -, -, -, -, -, -, -, -, -, -, -, -, -, -, -, -, -, -, -, -, -, -, -, -, -, -, -, -, -, -, -, -, e0⟩ := hg
      refine wpList_nil ?_
      simp only [e0]
      clear e0 HT HL
      go_wp2_with fail
      exact bodyPost_v rfl (res1 Try.results6 (resT rfl)) (by repeat (first | with_reducible exact HK.out | with_reducible exact Kept.refl _ _ | with_reducible refine Kept.prev ?_ | with_reducible refine Kept.alloc' ?_ _ | with_reducible refine Kept.drew' ?_ | with_reducible refine Kept.setB ?_ _ _ _ (by omega) | with_reducible refine Kept.row' ?_ _ _ (by omega) | with_reducible refine Kept.map' ?_ _ _ (by omega)))
end Go.Proofs.Ytgdjhhfbpalkdaa
