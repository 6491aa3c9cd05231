/- What the operators for integers give of two numbers, in plain words. A 32-bit number's bounds. -/
import Derived.Test.YtgdjhhfbpalkdaaL6
namespace Go.Proofs.Ytgdjhhfbpalkdaa
open Go.RowKit
theorem num_is {t : Tab} {x ty : Int} {sp : Bd} (hs : spanP t ty = some sp) : isP t 1 (numX x ty) = true := by
  show ((spanP t ty).isSome && true) = true
  rw [hs]
  rfl
theorem num_val {t : Tab} {x ty : Int} {sp : Bd} (hs : spanP t ty = some sp) (hx : sp.1 ≤ x ∧ x ≤ sp.2) : valP t 1 (numX x ty) = some x := by
  show (match spanP t ty with | none => none | some b => withinP x b) = some x
  rw [hs]
  show withinP x sp = some x
  unfold withinP
  rw [if_neg (by omega)]
theorem two_is {t : Tab} {B : Nat} {o x y ty : Int} {sp : Bd} (hs : spanP t ty = some sp) (ho : 1 ≤ o ∧ o ≤ 17) : isP t 2 (twoX B o (numX x ty) (numX y ty) ty) = true := by
  show ((spanP t ty).isSome && (decide (1 ≤ o ∧ o ≤ 17) && (decide (2 = 2) && (isP t 1 (numX x ty) && (isP t 1 (numX y ty) && true))))) = true
  rw [hs, num_is hs, num_is hs]
  simp [ho]
theorem two_val {t : Tab} {B : Nat} {o x y ty : Int} {sp : Bd} (hs : spanP t ty = some sp) (hx : sp.1 ≤ x ∧ x ≤ sp.2) (hy : sp.1 ≤ y ∧ y ≤ sp.2) (ho : 1 ≤ o ∧ o ≤ 6) :
    valP t 2 (twoX B o (numX x ty) (numX y ty) ty) = match opP o x y with | none => none | some v => withinP v sp := by
  show (match (match valP t 1 (numX x ty) with
    | none => none
    | some a => if o = 16 ∧ a = 0 then some 0 else if o = 17 ∧ a ≠ 0 then some 1 else match valP t 1 (numX y ty) with
      | none => none
      | some b => if o = 16 ∨ o = 17 then some b else opP o a b) with
    | none => none
    | some v => match spanP t ty with | none => none | some b => withinP v b) = _
  rw [num_val hs hx, num_val hs hy, hs]
  simp only
  rw [if_neg (by omega), if_neg (by omega), if_neg (by omega)]
theorem two_value {t : Tab} {B : Nat} {o x y ty : Int} {sp : Bd} (hs : spanP t ty = some sp) (hx : sp.1 ≤ x ∧ x ≤ sp.2) (hy : sp.1 ≤ y ∧ y ≤ sp.2) (ho : 1 ≤ o ∧ o ≤ 6) :
    valueP t 2 (twoX B o (numX x ty) (numX y ty) ty) = match (match opP o x y with | none => none | some v => withinP v sp) with | none => (0, 71) | some v => (v, 0) := by
  unfold valueP
  rw [two_is hs (by omega), two_val hs hx hy ho, if_pos rfl]
  cases (match opP o x y with | none => none | some v => withinP v sp) <;> rfl
theorem span1 (a b : Option Addr) : spanP (someT a b) 1 = some (-2147483648, 2147483647) := by kernel_rfl
theorem span0 (a b : Option Addr) : spanP (someT a b) 0 = some (-4611686018427387904, 4611686018427387904) := by kernel_rfl
/-- What an operator gives where the result lies in the base range, and where not. -/
def sumP (v : Int) : Int × Int := if v < -2147483648 ∨ 2147483647 < v then (0, 71) else (v, 0)
theorem within_sum (v : Int) : (match withinP v ((-2147483648, 2147483647) : Bd) with | none => ((0 : Int), (71 : Int)) | some v => (v, 0)) = sumP v := by
  unfold withinP sumP
  by_cases c : v < -2147483648 ∨ 2147483647 < v
  · rw [if_pos c, if_pos c]
  · rw [if_neg c, if_neg c]
def In32 (x : Int) : Prop := -2147483648 ≤ x ∧ x ≤ 2147483647
theorem wrap_in {v : Int} (h1 : -9223372036854775808 ≤ v) (h2 : v ≤ 9223372036854775807) : wrap64 v = v := IntWalk.wrap64_in _ ⟨by omega, by omega⟩
theorem mul_in {x y : Int} (hx : In32 x) (hy : In32 y) : -4611686018427387904 ≤ x * y ∧ x * y ≤ 4611686018427387904 := by
  obtain ⟨x1, x2⟩ := hx
  obtain ⟨y1, y2⟩ := hy
  have hx3 : x.natAbs ≤ 2147483648 := by omega
  have hy3 : y.natAbs ≤ 2147483648 := by omega
  have h := Nat.mul_le_mul hx3 hy3
  rw [← Int.natAbs_mul] at h
  omega
theorem abs_eq (x : Int) : absP x = x.natAbs := by
  unfold absP
  split <;> omega
theorem prod_ok {x y : Int} (hx : In32 x) (hy : In32 y) : ¬ (y ≠ 0 ∧ absP x > (4611686018427387904 : Int).tdiv (absP y)) := by
  rintro ⟨h0, h⟩
  rw [abs_eq, abs_eq] at h
  obtain ⟨x1, x2⟩ := hx
  obtain ⟨y1, y2⟩ := hy
  have hy3 : 0 < (y.natAbs : Int) := by omega
  rw [Int.tdiv_eq_ediv_of_nonneg (by decide)] at h
  have h3 : (y.natAbs : Int) * 2147483648 ≤ 4611686018427387904 := by omega
  have h4 : (2147483648 : Int) ≤ 4611686018427387904 / (y.natAbs : Int) := (Int.le_ediv_iff_mul_le hy3).2 (by omega)
  omega
theorem op1 {x y : Int} (hx : In32 x) (hy : In32 y) (a b : Option Addr) (B : Nat) : valueP (someT a b) 2 (twoX B 1 (numX x 1) (numX y 1) 1) = sumP (x + y) := by
  obtain ⟨x1, x2⟩ := hx
  obtain ⟨y1, y2⟩ := hy
  rw [two_value (span1 a b) ⟨x1, x2⟩ ⟨y1, y2⟩ (by omega), ← within_sum]
  have : opP 1 x y = some (wrap64 (x + y)) := rfl
  rw [this, wrap_in (by omega) (by omega)]
theorem op2 {x y : Int} (hx : In32 x) (hy : In32 y) (a b : Option Addr) (B : Nat) : valueP (someT a b) 2 (twoX B 2 (numX x 1) (numX y 1) 1) = sumP (x - y) := by
  obtain ⟨x1, x2⟩ := hx
  obtain ⟨y1, y2⟩ := hy
  rw [two_value (span1 a b) ⟨x1, x2⟩ ⟨y1, y2⟩ (by omega), ← within_sum]
  have : opP 2 x y = some (wrap64 (x - y)) := rfl
  rw [this, wrap_in (by omega) (by omega)]
theorem op3 {x y : Int} (hx : In32 x) (hy : In32 y) (a b : Option Addr) (B : Nat) : valueP (someT a b) 2 (twoX B 3 (numX x 1) (numX y 1) 1) = sumP (x * y) := by
  rw [two_value (span1 a b) ⟨hx.1, hx.2⟩ ⟨hy.1, hy.2⟩ (by omega), ← within_sum]
  have : opP 3 x y = some (if y ≠ 0 ∧ absP x > (4611686018427387904 : Int).tdiv (absP y) then 4611686018427387905 else x * y) := rfl
  rw [this, if_neg (prod_ok hx hy)]
/-- Division by zero. -/
theorem op0 {x : Int} (hx : In32 x) (a b : Option Addr) (B : Nat) (o : Int) (ho : o = 4 ∨ o = 5 ∨ o = 6) : valueP (someT a b) 2 (twoX B o (numX x 0) (numX 0 0) 0) = (0, 71) := by
  obtain ⟨x1, x2⟩ := hx
  rw [two_value (span0 a b) (by simp only; omega) (by simp only; omega) (by omega)]
  rcases ho with rfl | rfl | rfl <;> rfl
theorem within_univ {v : Int} (h : -4611686018427387904 ≤ v ∧ v ≤ 4611686018427387904) : (match withinP v ((-4611686018427387904, 4611686018427387904) : Bd) with | none => ((0 : Int), (71 : Int)) | some v => (v, 0)) = (v, 0) := by
  unfold withinP
  rw [if_neg (by simp only; omega)]
theorem tdiv_in {x y : Int} (hx : In32 x) : -2147483648 ≤ x.tdiv y ∧ x.tdiv y ≤ 2147483648 := by
  obtain ⟨x1, x2⟩ := hx
  have h := Int.natAbs_tdiv_le_natAbs x y
  omega
theorem tmod_abs {x y : Int} (h0 : y ≠ 0) : (x.tmod y).natAbs < y.natAbs := by
  rw [Int.natAbs_tmod]
  exact Nat.mod_lt _ (by omega)
theorem tmod_sign {x y : Int} : (0 ≤ x → 0 ≤ x.tmod y) ∧ (x ≤ 0 → x.tmod y ≤ 0) := by
  refine ⟨fun h => Int.tmod_nonneg _ h, fun h => ?_⟩
  have h1 : 0 ≤ (-x).tmod y := Int.tmod_nonneg _ (by omega)
  rw [Int.neg_tmod] at h1
  omega
theorem op4 {x y : Int} (hx : In32 x) (hy : In32 y) (h0 : y ≠ 0) (a b : Option Addr) (B : Nat) : valueP (someT a b) 2 (twoX B 4 (numX x 0) (numX y 0) 0) = (x.tdiv y, 0) := by
  have h1 := tdiv_in (y := y) hx
  obtain ⟨x1, x2⟩ := hx
  obtain ⟨y1, y2⟩ := hy
  rw [two_value (span0 a b) (by simp only; omega) (by simp only; omega) (by omega)]
  have : opP 4 x y = some (x.tdiv y) := by
    show (if y = 0 then none else some (x.tdiv y)) = _
    rw [if_neg h0]
  rw [this]
  exact within_univ (by omega)
theorem op6 {x y : Int} (hx : In32 x) (hy : In32 y) (h0 : y ≠ 0) (a b : Option Addr) (B : Nat) : valueP (someT a b) 2 (twoX B 6 (numX x 0) (numX y 0) 0) = (x.tmod y, 0) := by
  have h1 := tmod_abs (x := x) h0
  obtain ⟨x1, x2⟩ := hx
  obtain ⟨y1, y2⟩ := hy
  rw [two_value (span0 a b) (by simp only; omega) (by simp only; omega) (by omega)]
  have : opP 6 x y = some (x.tmod y) := by
    show (if y = 0 then none else some (x.tmod y)) = _
    rw [if_neg h0]
  rw [this]
  exact within_univ (by omega)
/-- What mod promises. -/
theorem mod_law {x y : Int} (hx : In32 x) (hy : In32 y) (h0 : y ≠ 0) :
    (modP x y).natAbs < y.natAbs ∧ (modP x y ≠ 0 → (decide (modP x y < 0) = decide (y < 0))) ∧ (x - modP x y).tmod y = 0 := by
  have h1 := tmod_abs (x := x) h0
  have h2 := Int.mul_tdiv_add_tmod x y
  have e : modP x y = if x.tmod y ≠ 0 ∧ decide (x.tmod y < 0) ≠ decide (y < 0) then x.tmod y + y else x.tmod y := rfl
  rw [e]
  by_cases c : x.tmod y ≠ 0 ∧ decide (x.tmod y < 0) ≠ decide (y < 0)
  · rw [if_pos c]
    obtain ⟨c1, c2⟩ := c
    have c3 : (x.tmod y < 0 ∧ ¬ y < 0) ∨ (¬ x.tmod y < 0 ∧ y < 0) := by
      by_cases p : x.tmod y < 0 <;> by_cases q : y < 0 <;> simp_all
    refine ⟨by omega, fun _ => ?_, ?_⟩
    · rcases c3 with c3 | c3
      · rw [decide_eq_false (show ¬ (x.tmod y + y < 0) by omega), decide_eq_false c3.2]
      · rw [decide_eq_true (show x.tmod y + y < 0 by omega), decide_eq_true c3.2]
    · have e2 : x - (x.tmod y + y) = y * (x.tdiv y - 1) := by
        rw [Int.mul_sub, Int.mul_one]
        omega
      rw [e2]
      exact Int.mul_tmod_right _ _
  · rw [if_neg c]
    refine ⟨h1, fun hn => ?_, ?_⟩
    · apply Classical.byContradiction
      exact fun h => c ⟨hn, h⟩
    · have e2 : x - x.tmod y = y * x.tdiv y := by omega
      rw [e2]
      exact Int.mul_tmod_right _ _
theorem op5 {x y : Int} (hx : In32 x) (hy : In32 y) (h0 : y ≠ 0) (a b : Option Addr) (B : Nat) : valueP (someT a b) 2 (twoX B 5 (numX x 0) (numX y 0) 0) = (modP x y, 0) := by
  have h1 := (mod_law hx hy h0).1
  obtain ⟨x1, x2⟩ := hx
  obtain ⟨y1, y2⟩ := hy
  rw [two_value (span0 a b) (by simp only; omega) (by simp only; omega) (by omega)]
  have : opP 5 x y = some (modP x y) := by
    show (if y = 0 then none else some (modP x y)) = _
    rw [if_neg h0]
  rw [this]
  exact within_univ (by omega)
end Go.Proofs.Ytgdjhhfbpalkdaa
namespace Go.Proofs.Ytgdjhhfbpalkdaa
open Go.RowKit
theorem i32_ok {a : Int} (h : (Lit.int .i32 a).wf = true) : In32 a := by
  simp only [Lit.wf, Bool.and_eq_true, decide_eq_true_eq] at h
  exact ⟨h.1, h.2⟩
end Go.Proofs.Ytgdjhhfbpalkdaa
