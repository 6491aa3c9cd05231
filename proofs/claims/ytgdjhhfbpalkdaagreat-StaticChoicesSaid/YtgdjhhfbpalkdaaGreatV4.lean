/- What the operators do. -/
import Derived.Test.YtgdjhhfbpalkdaaGreatV3
namespace Go.Proofs.YtgdjhhfbpalkdaaGreat
open Go.RowKit

def divB (o : Int) : Bool := o == 4 || o == 5 || o == 6
/-- What an operator computes, where it divides by no zero. -/
def opG (o a b : Int) : Int :=
  if o = 1 then wrap64 (a + b)
  else if o = 2 then wrap64 (a - b)
  else if o = 3 then prodP a b
  else if o = 4 then a.tdiv b
  else if o = 5 then modP a b
  else if o = 6 then a.tmod b
  else if o = 7 then truthP (a == b)
  else if o = 8 then truthP (a != b)
  else if o = 9 then truthP (decide (a < b))
  else if o = 10 then truthP (decide (a ≤ b))
  else if o = 11 then truthP (decide (b < a))
  else if o = 12 then truthP (decide (b ≤ a))
  else if o = 13 then truthP (a == 1 && b == 1)
  else if o = 14 then truthP (a != 0 || b != 0)
  else truthP (a != b)
theorem opG_opP {o a b : Int} : opP o a b = if divB o = true ∧ b = 0 then none else some (opG o a b) := by
  unfold opP opG divB prodP
  by_cases h1 : o = 1
  · subst h1; simp
  by_cases h2 : o = 2
  · subst h2; simp
  by_cases h3 : o = 3
  · subst h3; simp
  by_cases h4 : o = 4
  · subst h4; by_cases hb : b = 0 <;> simp [hb]
  by_cases h5 : o = 5
  · subst h5; by_cases hb : b = 0 <;> simp [hb]
  by_cases h6 : o = 6
  · subst h6; by_cases hb : b = 0 <;> simp [hb]
  have hd : (o == 4 || o == 5 || o == 6) = false := by simp [h4, h5, h6]
  rw [hd]
  simp only [h1, h2, h3, h4, h5, h6, if_false, Bool.false_eq_true, false_and]
  repeat' (first | rfl | split)
theorem tdiv_bd {a b : Int} (ha : -4611686018427387904 ≤ a ∧ a ≤ 4611686018427387904) : -4611686018427387904 ≤ a.tdiv b ∧ a.tdiv b ≤ 4611686018427387904 := by
  have h : (a.tdiv b).natAbs ≤ a.natAbs := by rw [Int.natAbs_tdiv]; exact Nat.div_le_self _ _
  omega
abbrev InB (a : Int) : Prop := -4611686018427387904 ≤ a ∧ a ≤ 4611686018427387904
structure DoesOp (w : World) (K : Nat) (caps : Array Value) (o : Int) : Prop where
  eg : ∀ args w, (callFunc K args).run Tryz.prog w = .ok (.enter K args) w
  run : ∀ W a b, Kept [] w W → InB a → InB b → (divB o = true → b ≠ 0) → Calls Tryz.prog K (#[.int .i64 a, .int .i64 b] ++ caps) W (RetV (.int .i64 (opG o a b)) W)
set_option maxRecDepth 100000 in
theorem op1_any (w : World) (a b : Int) (ha : InB a) (hb : InB b) : Calls Tryz.prog 98 #[.int .i64 a, .int .i64 b] w (RetV (.int .i64 (wrap64 (a + b))) w) := by
  obtain ⟨t1, t2⟩ := tdiv_bd (b := b) ha
  obtain ⟨a1, a2⟩ := ha
  obtain ⟨b1, b2⟩ := hb
  go_enter Tryz.func98, Tryz.ntmps98
  go_wp2_with fail
  exact bodyPost_v rfl (res1 Tryz.results98 (resT rfl)) (by repeat (first | with_reducible exact HK.out | with_reducible exact Kept.refl _ _ | with_reducible refine Kept.prev ?_ | with_reducible refine Kept.alloc' ?_ _ | with_reducible refine Kept.drew' ?_ | with_reducible refine Kept.setB ?_ _ _ _ (by omega) | with_reducible refine Kept.row' ?_ _ _ (by omega) | with_reducible refine Kept.map' ?_ _ _ (by omega)))
set_option maxRecDepth 100000 in
theorem op2_any (w : World) (a b : Int) (ha : InB a) (hb : InB b) : Calls Tryz.prog 99 #[.int .i64 a, .int .i64 b] w (RetV (.int .i64 (wrap64 (a - b))) w) := by
  obtain ⟨t1, t2⟩ := tdiv_bd (b := b) ha
  obtain ⟨a1, a2⟩ := ha
  obtain ⟨b1, b2⟩ := hb
  go_enter Tryz.func99, Tryz.ntmps99
  go_wp2_with fail
  exact bodyPost_v rfl (res1 Tryz.results99 (resT rfl)) (by repeat (first | with_reducible exact HK.out | with_reducible exact Kept.refl _ _ | with_reducible refine Kept.prev ?_ | with_reducible refine Kept.alloc' ?_ _ | with_reducible refine Kept.drew' ?_ | with_reducible refine Kept.setB ?_ _ _ _ (by omega) | with_reducible refine Kept.row' ?_ _ _ (by omega) | with_reducible refine Kept.map' ?_ _ _ (by omega)))
set_option maxRecDepth 100000 in
theorem op4_any (w : World) (a b : Int) (ha : InB a) (hb : InB b) (h0 : ¬ b = 0) : Calls Tryz.prog 101 #[.int .i64 a, .int .i64 b] w (RetV (.int .i64 (a.tdiv b)) w) := by
  obtain ⟨t1, t2⟩ := tdiv_bd (b := b) ha
  obtain ⟨a1, a2⟩ := ha
  obtain ⟨b1, b2⟩ := hb
  go_enter Tryz.func101, Tryz.ntmps101
  go_wp2_with fail
  exact bodyPost_v rfl (res1 Tryz.results101 (resT rfl)) (by repeat (first | with_reducible exact HK.out | with_reducible exact Kept.refl _ _ | with_reducible refine Kept.prev ?_ | with_reducible refine Kept.alloc' ?_ _ | with_reducible refine Kept.drew' ?_ | with_reducible refine Kept.setB ?_ _ _ _ (by omega) | with_reducible refine Kept.row' ?_ _ _ (by omega) | with_reducible refine Kept.map' ?_ _ _ (by omega)))
set_option maxRecDepth 100000 in
theorem op6_any (w : World) (a b : Int) (ha : InB a) (hb : InB b) (h0 : ¬ b = 0) : Calls Tryz.prog 102 #[.int .i64 a, .int .i64 b] w (RetV (.int .i64 (a.tmod b)) w) := by
  obtain ⟨t1, t2⟩ := tdiv_bd (b := b) ha
  obtain ⟨a1, a2⟩ := ha
  obtain ⟨b1, b2⟩ := hb
  go_enter Tryz.func102, Tryz.ntmps102
  go_wp2_with fail
  exact bodyPost_v rfl (res1 Tryz.results102 (resT rfl)) (by repeat (first | with_reducible exact HK.out | with_reducible exact Kept.refl _ _ | with_reducible refine Kept.prev ?_ | with_reducible refine Kept.alloc' ?_ _ | with_reducible refine Kept.drew' ?_ | with_reducible refine Kept.setB ?_ _ _ _ (by omega) | with_reducible refine Kept.row' ?_ _ _ (by omega) | with_reducible refine Kept.map' ?_ _ _ (by omega)))
set_option maxRecDepth 100000 in
theorem op13_any (w : World) (a b : Int) : Calls Tryz.prog 110 #[.int .i64 a, .int .i64 b] w (RetV (.int .i64 (truthP (a == 1 && b == 1))) w) := by
  cases h : (a == 1)
  all_goals
    go_enter Tryz.func110, Tryz.ntmps110
    go_wp2_with fail
    refine (truth_any _ _).mono ?_; rintro e w1 ⟨rfl, hk_w1⟩; haveI p_w1 : PrevWorld w1 _ := ⟨hk_w1⟩; have hz_w1 : w.heap.size ≤ w1.heap.size := Kept.size (by repeat (first | with_reducible exact HK.out | with_reducible exact Kept.refl _ _ | with_reducible refine Kept.prev ?_ | with_reducible refine Kept.alloc' ?_ _ | with_reducible refine Kept.drew' ?_ | with_reducible refine Kept.setB ?_ _ _ _ (by omega) | with_reducible refine Kept.row' ?_ _ _ (by omega) | with_reducible refine Kept.map' ?_ _ _ (by omega))); clear hk_w1
    go_wp2_with fail
    exact bodyPost_v rfl (res1 Tryz.results110 (resT rfl)) (by repeat (first | with_reducible exact HK.out | with_reducible exact Kept.refl _ _ | with_reducible refine Kept.prev ?_ | with_reducible refine Kept.alloc' ?_ _ | with_reducible refine Kept.drew' ?_ | with_reducible refine Kept.setB ?_ _ _ _ (by omega) | with_reducible refine Kept.row' ?_ _ _ (by omega) | with_reducible refine Kept.map' ?_ _ _ (by omega)))
set_option maxRecDepth 100000 in
theorem op14_any (w : World) (a b : Int) : Calls Tryz.prog 111 #[.int .i64 a, .int .i64 b] w (RetV (.int .i64 (truthP (a != 0 || b != 0))) w) := by
  cases h : (a != 0)
  all_goals
    go_enter Tryz.func111, Tryz.ntmps111
    go_wp2_with fail
    refine (truth_any _ _).mono ?_; rintro e w1 ⟨rfl, hk_w1⟩; haveI p_w1 : PrevWorld w1 _ := ⟨hk_w1⟩; have hz_w1 : w.heap.size ≤ w1.heap.size := Kept.size (by repeat (first | with_reducible exact HK.out | with_reducible exact Kept.refl _ _ | with_reducible refine Kept.prev ?_ | with_reducible refine Kept.alloc' ?_ _ | with_reducible refine Kept.drew' ?_ | with_reducible refine Kept.setB ?_ _ _ _ (by omega) | with_reducible refine Kept.row' ?_ _ _ (by omega) | with_reducible refine Kept.map' ?_ _ _ (by omega))); clear hk_w1
    go_wp2_with fail
    exact bodyPost_v rfl (res1 Tryz.results111 (resT rfl)) (by repeat (first | with_reducible exact HK.out | with_reducible exact Kept.refl _ _ | with_reducible refine Kept.prev ?_ | with_reducible refine Kept.alloc' ?_ _ | with_reducible refine Kept.drew' ?_ | with_reducible refine Kept.setB ?_ _ _ _ (by omega) | with_reducible refine Kept.row' ?_ _ _ (by omega) | with_reducible refine Kept.map' ?_ _ _ (by omega)))
set_option maxRecDepth 100000 in
theorem op15_any (w : World) (a b : Int) : Calls Tryz.prog 112 #[.int .i64 a, .int .i64 b] w (RetV (.int .i64 (truthP (a != b))) w) := by
  go_enter Tryz.func112, Tryz.ntmps112
  go_wp2_with fail
  refine (truth_any _ _).mono ?_; rintro e w1 ⟨rfl, hk_w1⟩; haveI p_w1 : PrevWorld w1 _ := ⟨hk_w1⟩; have hz_w1 : w.heap.size ≤ w1.heap.size := Kept.size (by repeat (first | with_reducible exact HK.out | with_reducible exact Kept.refl _ _ | with_reducible refine Kept.prev ?_ | with_reducible refine Kept.alloc' ?_ _ | with_reducible refine Kept.drew' ?_ | with_reducible refine Kept.setB ?_ _ _ _ (by omega) | with_reducible refine Kept.row' ?_ _ _ (by omega) | with_reducible refine Kept.map' ?_ _ _ (by omega))); clear hk_w1
  go_wp2_with fail
  exact bodyPost_v rfl (res1 Tryz.results112 (resT rfl)) (by repeat (first | with_reducible exact HK.out | with_reducible exact Kept.refl _ _ | with_reducible refine Kept.prev ?_ | with_reducible refine Kept.alloc' ?_ _ | with_reducible refine Kept.drew' ?_ | with_reducible refine Kept.setB ?_ _ _ _ (by omega) | with_reducible refine Kept.row' ?_ _ _ (by omega) | with_reducible refine Kept.map' ?_ _ _ (by omega)))
theorem cmp_eq (a b : Int) : (cmpP a b == 0) = (a == b) := by
  unfold cmpP; rw [Bool.eq_iff_iff]; simp only [beq_iff_eq]; repeat' (first | omega | split)
theorem cmp_ne (a b : Int) : (cmpP a b != 0) = (a != b) := by rw [bne, bne, cmp_eq]
theorem cmp_lt (a b : Int) : decide (cmpP a b < 0) = decide (a < b) := by
  unfold cmpP; rw [Bool.eq_iff_iff]; simp only [decide_eq_true_eq]; repeat' (first | omega | split)
theorem cmp_le (a b : Int) : decide (cmpP a b ≤ 0) = decide (a ≤ b) := by
  unfold cmpP; rw [Bool.eq_iff_iff]; simp only [decide_eq_true_eq]; repeat' (first | omega | split)
theorem cmp_gt (a b : Int) : decide (0 < cmpP a b) = decide (b < a) := by
  unfold cmpP; rw [Bool.eq_iff_iff]; simp only [decide_eq_true_eq]; repeat' (first | omega | split)
theorem cmp_ge (a b : Int) : decide (0 ≤ cmpP a b) = decide (b ≤ a) := by
  unfold cmpP; rw [Bool.eq_iff_iff]; simp only [decide_eq_true_eq]; repeat' (first | omega | split)
def cmpF (o : Int) (c : Int) : Bool :=
  if o = 7 then c == 0 else if o = 8 then c != 0 else if o = 9 then decide (c < 0) else if o = 10 then decide (c ≤ 0) else if o = 11 then decide (0 < c) else decide (0 ≤ c)
theorem testF0 : TestF 104 (fun c => c == 0) := ⟨Go.Proofs.enters_of Tryz.func104 (by kernel_rfl) rfl, fun W c => test0_any W c⟩
theorem testF1 : TestF 105 (fun c => c != 0) := ⟨Go.Proofs.enters_of Tryz.func105 (by kernel_rfl) rfl, fun W c => test1_any W c⟩
theorem testF2 : TestF 106 (fun c => decide (c < 0)) := ⟨Go.Proofs.enters_of Tryz.func106 (by kernel_rfl) rfl, fun W c => test2_any W c⟩
theorem testF3 : TestF 107 (fun c => decide (c ≤ 0)) := ⟨Go.Proofs.enters_of Tryz.func107 (by kernel_rfl) rfl, fun W c => test3_any W c⟩
theorem testF4 : TestF 108 (fun c => decide (0 < c)) := ⟨Go.Proofs.enters_of Tryz.func108 (by kernel_rfl) rfl, fun W c => test4_any W c⟩
theorem testF5 : TestF 109 (fun c => decide (0 ≤ c)) := ⟨Go.Proofs.enters_of Tryz.func109 (by kernel_rfl) rfl, fun W c => test5_any W c⟩
theorem Tryz.entersCmp : ∀ args w, (callFunc 97 args).run Tryz.prog w = .ok (.enter 97 args) w := Go.Proofs.enters_of Tryz.func97 (by kernel_rfl) rfl
theorem does7 {w : World} {B : Nat} (h : BoxIs w B 168 #[.func (.func 104) #[] #[]]) : DoesOp w 97 #[.pointer (some ⟨B, 0, none⟩)] 7 := ⟨Tryz.entersCmp, fun W a b hk _ _ _ => by
  haveI := h.kept hk
  have := cmpf_any W B _ _ a b testF0
  rw [cmp_eq] at this
  exact this⟩
theorem does8 {w : World} {B : Nat} (h : BoxIs w B 168 #[.func (.func 105) #[] #[]]) : DoesOp w 97 #[.pointer (some ⟨B, 0, none⟩)] 8 := ⟨Tryz.entersCmp, fun W a b hk _ _ _ => by
  haveI := h.kept hk
  have := cmpf_any W B _ _ a b testF1
  rw [cmp_ne] at this
  exact this⟩
theorem does9 {w : World} {B : Nat} (h : BoxIs w B 168 #[.func (.func 106) #[] #[]]) : DoesOp w 97 #[.pointer (some ⟨B, 0, none⟩)] 9 := ⟨Tryz.entersCmp, fun W a b hk _ _ _ => by
  haveI := h.kept hk
  have := cmpf_any W B _ _ a b testF2
  rw [cmp_lt] at this
  exact this⟩
theorem does10 {w : World} {B : Nat} (h : BoxIs w B 168 #[.func (.func 107) #[] #[]]) : DoesOp w 97 #[.pointer (some ⟨B, 0, none⟩)] 10 := ⟨Tryz.entersCmp, fun W a b hk _ _ _ => by
  haveI := h.kept hk
  have := cmpf_any W B _ _ a b testF3
  rw [cmp_le] at this
  exact this⟩
theorem does11 {w : World} {B : Nat} (h : BoxIs w B 168 #[.func (.func 108) #[] #[]]) : DoesOp w 97 #[.pointer (some ⟨B, 0, none⟩)] 11 := ⟨Tryz.entersCmp, fun W a b hk _ _ _ => by
  haveI := h.kept hk
  have := cmpf_any W B _ _ a b testF4
  rw [cmp_gt] at this
  exact this⟩
theorem does12 {w : World} {B : Nat} (h : BoxIs w B 168 #[.func (.func 109) #[] #[]]) : DoesOp w 97 #[.pointer (some ⟨B, 0, none⟩)] 12 := ⟨Tryz.entersCmp, fun W a b hk _ _ _ => by
  haveI := h.kept hk
  have := cmpf_any W B _ _ a b testF5
  rw [cmp_ge] at this
  exact this⟩
theorem does1 (w : World) : DoesOp w 98 #[] 1 := ⟨Go.Proofs.enters_of Tryz.func98 (by kernel_rfl) rfl, fun W a b _ ha hb h0 => op1_any W a b ha hb⟩
theorem does2 (w : World) : DoesOp w 99 #[] 2 := ⟨Go.Proofs.enters_of Tryz.func99 (by kernel_rfl) rfl, fun W a b _ ha hb h0 => op2_any W a b ha hb⟩
theorem does3 (w : World) : DoesOp w 100 #[] 3 := ⟨Go.Proofs.enters_of Tryz.func100 (by kernel_rfl) rfl, fun W a b _ ha hb h0 => product_any W a b ha hb⟩
theorem does4 (w : World) : DoesOp w 101 #[] 4 := ⟨Go.Proofs.enters_of Tryz.func101 (by kernel_rfl) rfl, fun W a b _ ha hb h0 => op4_any W a b ha hb (h0 rfl)⟩
theorem does5 (w : World) : DoesOp w 103 #[] 5 := ⟨Go.Proofs.enters_of Tryz.func103 (by kernel_rfl) rfl, fun W a b _ ha hb h0 => modulo_any W a b ha hb (h0 rfl)⟩
theorem does6 (w : World) : DoesOp w 102 #[] 6 := ⟨Go.Proofs.enters_of Tryz.func102 (by kernel_rfl) rfl, fun W a b _ ha hb h0 => op6_any W a b ha hb (h0 rfl)⟩
theorem does13 (w : World) : DoesOp w 110 #[] 13 := ⟨Go.Proofs.enters_of Tryz.func110 (by kernel_rfl) rfl, fun W a b _ ha hb h0 => op13_any W a b⟩
theorem does14 (w : World) : DoesOp w 111 #[] 14 := ⟨Go.Proofs.enters_of Tryz.func111 (by kernel_rfl) rfl, fun W a b _ ha hb h0 => op14_any W a b⟩
theorem does15 (w : World) : DoesOp w 112 #[] 15 := ⟨Go.Proofs.enters_of Tryz.func112 (by kernel_rfl) rfl, fun W a b _ ha hb h0 => op15_any W a b⟩
theorem ops_find {w : World} {r B7 B8 B9 B10 B11 B12 : Nat} (h : OpsAt w r B7 B8 B9 B10 B11 B12) {o : Int} (h1 : 1 ≤ o) (h2 : o ≤ 15) :
    ∃ i K caps, Instr.findNow (.int .u8) (.int .u8 o) (opsE B7 B8 B9 B10 B11 B12).toList 0 = some (some (i, .agg #[.bool (divB o), .func (.func K) #[] caps])) ∧ DoesOp w K caps o := by
  have hc : o = 1 ∨ o = 2 ∨ o = 3 ∨ o = 4 ∨ o = 5 ∨ o = 6 ∨ o = 7 ∨ o = 8 ∨ o = 9 ∨ o = 10 ∨ o = 11 ∨ o = 12 ∨ o = 13 ∨ o = 14 ∨ o = 15 := by omega
  rcases hc with rfl | rfl | rfl | rfl | rfl | rfl | rfl | rfl | rfl | rfl | rfl | rfl | rfl | rfl | rfl
  · exact ⟨_, _, _, rfl, does1 w⟩
  · exact ⟨_, _, _, rfl, does2 w⟩
  · exact ⟨_, _, _, rfl, does3 w⟩
  · exact ⟨_, _, _, rfl, does4 w⟩
  · exact ⟨_, _, _, rfl, does5 w⟩
  · exact ⟨_, _, _, rfl, does6 w⟩
  · exact ⟨_, _, _, rfl, does7 h.b7⟩
  · exact ⟨_, _, _, rfl, does8 h.b8⟩
  · exact ⟨_, _, _, rfl, does9 h.b9⟩
  · exact ⟨_, _, _, rfl, does10 h.b10⟩
  · exact ⟨_, _, _, rfl, does11 h.b11⟩
  · exact ⟨_, _, _, rfl, does12 h.b12⟩
  · exact ⟨_, _, _, rfl, does13 w⟩
  · exact ⟨_, _, _, rfl, does14 w⟩
  · exact ⟨_, _, _, rfl, does15 w⟩
theorem ops_none (B7 B8 B9 B10 B11 B12 : Nat) {o : Int} (h : o = 16 ∨ o = 17) : Instr.findNow (.int .u8) (.int .u8 o) (opsE B7 B8 B9 B10 B11 B12).toList 0 = some none := by
  rcases h with rfl | rfl <;> rfl
end Go.Proofs.YtgdjhhfbpalkdaaGreat
