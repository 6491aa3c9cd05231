/- valid. -/
import Derived.Test.YtoaklikkepkhfaaShelf
import Derived.Test.YtoaklikkepkhfaaS2
namespace Go.Proofs.Ytoaklikkepkhfaa
open Go.RowKit Go.Shelf

theorem wp_gen' {P : Program} {c : Code} {Q : Exit → Act → World → Prop} {a : Act} {W : World} (h : ∀ w5, w5 = W → Code.wp P c Q a w5) : Code.wp P c Q a W := h W rfl

/-- The closure that valid makes of a length. -/
def outF (B : Nat) : Value := .func (.func 33) #[] #[.pointer (some ⟨B, 0, none⟩)]
set_option maxHeartbeats 400000 in
theorem outside_any (w : World) (n : Int) : Calls Try.prog 32 #[.int .i64 n] w fun e w' => e = .returned (.func (.func 33) #[] #[.pointer (some ⟨w.heap.size, 0, none⟩)]) ∧ w' = w.alloc (.cells #[.int .i64 n] 3) := by
  go_enter Try.func32, Try.ntmps32
  go_wp2_with fail
  go_ret
  exact ⟨rfl, rfl⟩

set_option maxHeartbeats 400000 in
theorem out_gives (B n : Nat) (x : Int) (W : World) (hc : W.cell? ⟨B, 0, none⟩ = some (.int .i64 n)) : Calls Try.prog 33 #[.int .i64 x, .pointer (some ⟨B, 0, none⟩)] W fun e w' => e = .returned (.bool (!inR n x)) ∧ W = w' := by
  by_cases h0 : 0 ≤ x
  · by_cases h1 : x < n
    · have HF : Hid ((!inR n x) = false) := by simp [Hid, inR, h0, h1]
      go_enter Try.func33, Try.ntmps33
      go_wp2_with fail
      go_ret
      rw [HF.out]
      exact ⟨by simp; omega, rfl⟩
    · have HF : Hid ((!inR n x) = true) := by simp [Hid, inR, h1]
      go_enter Try.func33, Try.ntmps33
      go_wp2_with fail
      go_ret
      rw [HF.out]
      exact ⟨rfl, rfl⟩
  · have HF : Hid ((!inR n x) = true) := by simp [Hid, inR, h0]
    go_enter Try.func33, Try.ntmps33
    go_wp2_with fail
    go_ret
    rw [HF.out]
    exact ⟨rfl, rfl⟩

theorem out_pred (B n : Nat) (w : World) (hB : B < w.heap.size) (hc : w.cell? ⟨B, 0, none⟩ = some (.int .i64 n)) : PredAt Try.prog 33 #[.pointer (some ⟨B, 0, none⟩)] (Value.int .i64) (fun x => !inR n x) w := fun W x hb => by
  have hc' : W.cell? ⟨B, 0, none⟩ = some (.int .i64 n) := (hb.cell (p := ⟨B, 0, none⟩) hB).trans hc
  exact (out_gives B n x W hc').mono fun e w' ⟨he, hw⟩ => ⟨he, 0, hw.symm⟩
theorem any_not (n : Nat) (xs : List Int) : (xs.any fun x => !inR n x) = !withinR n xs := by
  unfold withinR
  induction xs with
  | nil => rfl
  | cons x xs ih => rw [List.any_cons, List.all_cons, ih, Bool.not_and]

theorem eg33 : ∀ args w, (callFunc 33 args).run Try.prog w = .ok (.enter 33 args) w := enters_of Try.func33 (by kernel_rfl) rfl
theorem eg35 : ∀ args w, (callFunc 35 args).run Try.prog w = .ok (.enter 35 args) w := enters_of Try.func35 (by kernel_rfl) rfl
theorem eg37 : ∀ args w, (callFunc 37 args).run Try.prog w = .ok (.enter 37 args) w := enters_of Try.func37 (by kernel_rfl) rfl

/-- slices.ContainsFunc of a list of numbers and a closure of valid's. -/
theorem contains_out (w : World) (v : Value) (xs : List Int) (B n : Nat) (hv : IntsC w v xs) (hc : w.cell? ⟨B, 0, none⟩ = some (.int .i64 n)) :
    Calls Try.prog 28 #[v, .func (.func 33) #[] #[.pointer (some ⟨B, 0, none⟩)]] w fun e w' => e = .returned (.bool (!withinR n xs)) ∧ Kept [] w w' := by
  obtain ⟨a, c, rfl, h1, h2, h3, h4⟩ := hv
  rcases h4 with rfl | ⟨b, o, rfl, hx⟩
  · refine (Try.slices_ContainsFunc_empty (α := Int) a c _ w).mono ?_
    rintro e w' ⟨he, rfl⟩
    exact ⟨he, Kept.refl _ _⟩
  · have hB : B < w.heap.size := World.block_lt_of_cell? w _ hc
    have := Try.slices_ContainsFunc (Value.int .i64) (fun x => !inR n x) 33 #[.pointer (some ⟨B, 0, none⟩)] eg33 b o xs.length c xs w (out_pred B n w hB hc) (Nat.le_refl _) (by omega) (fun j hj => by
      rw [hx j xs[j] (List.getElem?_eq_getElem hj)]
      simp [getElem!_pos, hj])
    refine this.mono ?_
    rintro e w' ⟨he, q, rfl⟩
    rw [List.take_length, any_not] at he
    exact ⟨he, Kept.drewN _ _ _⟩

/-- What the two closures of valid read. -/
structure VEnv (w : World) (b1 b2 B1 B2 n m : Nat) : Prop where
  u : w.cell? ⟨b1, 0, none⟩ = some (.func (.func 33) #[] #[.pointer (some ⟨B1, 0, none⟩)])
  s : w.cell? ⟨b2, 0, none⟩ = some (.func (.func 33) #[] #[.pointer (some ⟨B2, 0, none⟩)])
  n : w.cell? ⟨B1, 0, none⟩ = some (.int .i64 n)
  m : w.cell? ⟨B2, 0, none⟩ = some (.int .i64 m)
theorem VEnv.kept {w w' : World} {b1 b2 B1 B2 n m : Nat} (h : VEnv w b1 b2 B1 B2 n m) (hk : Kept [] w w') : VEnv w' b1 b2 B1 B2 n m :=
  ⟨hk.cell h.u (by simp), hk.cell h.s (by simp), hk.cell h.n (by simp), hk.cell h.m (by simp)⟩

set_option maxHeartbeats 1000000 in
theorem unit_gives (W : World) (b1 b2 B1 B2 n m : Nat) (x : UnitV) (hv : VEnv W b1 b2 B1 B2 n m) (h1 : IntsC W (.slice x.na x.needs.length x.nc) x.needs) (h2 : IntsC W (.slice x.ca x.calls.length x.cc) x.calls) :
    Calls Try.prog 35 #[.agg #[.string x.name, .bool x.body, .slice x.na x.needs.length x.nc, .slice x.ca x.calls.length x.cc], .pointer (some ⟨b1, 0, none⟩), .pointer (some ⟨b2, 0, none⟩)] W (RetB (!unitOk n m x) W) := by
  have HV := Lib.hid hv
  have H1 := Lib.hid h1
  have H2 := Lib.hid h2
  clear hv h1 h2
  go_enter Try.func35, Try.ntmps35
  go_upto_region 1 with (fail)
  refine wp_gen' ?_
  intro w1 hw1
  have hk1 : Kept [] W w1 := by rw [hw1]; exact Kept.alloc _ _ _
  have hbox : w1.heap[W.heap.size]? = some (.cells #[.string x.name, .bool x.body, .slice x.na x.needs.length x.nc, .slice x.ca x.calls.length x.cc] 44 (0, 0)) := by rw [hw1]; exact heap_alloc_new _ _
  have HK1 := Lib.hid hk1
  have c2 : w1.cell? ⟨W.heap.size, 2, none⟩ = some (.slice x.na x.needs.length x.nc) := by rw [cell_of_row _ _ _ _ _ _ hbox]; rfl
  have c3 : w1.cell? ⟨W.heap.size, 3, none⟩ = some (.slice x.ca x.calls.length x.cc) := by rw [cell_of_row _ _ _ _ _ _ hbox]; rfl
  have v1 := (HV.out.kept hk1).u
  have v2 := (HV.out.kept hk1).s
  clear hw1 hbox hk1
  go_wp2_with fail
  refine (contains_out w1 _ x.needs B1 n (H1.out.kept HK1.out) (HV.out.kept HK1.out).n).mono ?_
  rintro e w2 ⟨rfl, hk2⟩
  have HK2 := Lib.hid (HK1.out.trans hk2)
  replace c3 := hk2.cell c3 (by simp)
  replace v2 := hk2.cell v2 (by simp)
  clear c2 v1 hk2
  cases hw : withinR n x.needs
  · have HF : Hid ((!unitOk n m x) = true) := by rw [Hid]; unfold unitOk; rw [hw]; rfl
    clear hw
    go_wp2_with fail
    go_ret
    rw [HF.out]
    exact ⟨rfl, HK2.out⟩
  · have HF : Hid ((!unitOk n m x) = !withinR m x.calls) := by rw [Hid]; unfold unitOk; rw [hw]; rfl
    clear hw
    go_wp2_with fail
    refine (contains_out w2 _ x.calls B2 m (H2.out.kept HK2.out) (HV.out.kept HK2.out).m).mono ?_
    rintro e w3 ⟨rfl, hk3⟩
    have HK3 := Lib.hid (HK2.out.trans hk3)
    clear hk3
    rw [← HF.out]
    go_wp2_with fail
    go_ret
    exact ⟨rfl, HK3.out⟩
end Go.Proofs.Ytoaklikkepkhfaa
