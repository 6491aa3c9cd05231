/- Contains, named, hidden. -/
import Derived.Test.YtlgcboaojdhneaaB3
namespace Go.Proofs.Ytlgcboaojdhneaa
open Go.RowKit

theorem hasI_take {xs : List Int} {k : Nat} {x n : Int} (hx : xs[k]? = some x) : hasI (xs.take (k + 1)) n = (hasI (xs.take k) n || n == x) := by
  obtain ⟨h, rfl⟩ := List.getElem?_eq_some_iff.1 hx
  rw [contains_take_succ xs k n h]
  congr 1
  simp only [List.getD_eq_getElem?_getD, List.getElem?_eq_getElem h, Option.getD_some]
  rw [Bool.eq_iff_iff, beq_iff_eq, beq_iff_eq]
  exact ⟨Eq.symm, Eq.symm⟩
theorem hasI_get {xs : List Int} {k : Nat} {x n : Int} (hx : xs[k]? = some x) (h : (n == x) = true) : hasI xs n = true := by
  have : n = x := by simpa using h
  subst this
  unfold hasI
  simpa using List.mem_of_getElem? hx
def RetIx (b : Bool) (w : World) (e : Ending) (w' : World) : Prop := ∃ i : Int, e = .returned (.int .i64 i) ∧ decide (0 ≤ i) = b ∧ w' = w

set_option maxRecDepth 100000 in
set_option maxHeartbeats 1000000 in
theorem indexI_any (w : World) (a : Option Addr) (c : Nat) (xs : List Int) (n : Int) (hc : xs.length ≤ c) (hm : c ≤ 9223372036854775807) (hI : IntsIn w a xs) :
    Calls Try.prog 88 #[.slice a xs.length c, .int .i64 n] w (RetIx (hasI xs n) w) := by
  have HI := Lib.hid hI
  clear hI
  go_enter Try.func88, Try.ntmps88
  go_wp2_with fail
  go_loopw [8] (fun i wr => ∃ k : Nat, k ≤ xs.length ∧ i = .int .i64 k ∧ hasI (xs.take k) n = false ∧ wr = w) (fun i _ => xs.length - (intOf i).toNat)
  case atStart => exact ⟨0, Nat.zero_le _, rfl, rfl, rfl⟩
  case round =>
    obtain ⟨k, hk, rfl, hn, rfl⟩ := hrel
    have HN := Lib.hid hn
    clear hn
    by_cases hlt : k < xs.length
    · obtain ⟨x, hx⟩ : ∃ x, xs[k]? = some x := ⟨_, List.getElem?_eq_getElem hlt⟩
      have HS : Hid (hasI (xs.take (k + 1)) n = (n == x)) := by rw [Hid, hasI_take hx, HN.out, Bool.false_or]
      have HG : Hid ((n == x) = true → hasI xs n = true) := hasI_get hx
      rcases HI.out with h0 | ⟨b, o, rfl, hcx⟩
      · rw [h0] at hlt; simp at hlt
      · have qx := hcx k x hx
        clear hcx hx
        cases hq : (n == x)
        · rw [hq] at HS
          clear HG
          go_wp2_with fail
          go_roundw
          case rel => exact ⟨k + 1, by omega, by go_num, HS.out, trivial⟩
          case measure => simp [intOf]; omega
        · have HG2 := Lib.hid (HG.out hq)
          clear HG HS
          go_wp2_with fail
          go_ret
          exact ⟨_, rfl, by rw [HG2.out]; simp, rfl⟩
    · obtain rfl : k = xs.length := by omega
      have HN2 := Lib.hid (by have := HN.out; rw [List.take_length] at this; exact this)
      clear HN
      go_wp2_with fail
      go_ret
      exact ⟨_, rfl, by rw [HN2.out]; simp, rfl⟩

set_option maxHeartbeats 1000000 in
theorem containsQ_any (w : World) (a : Option Addr) (c : Nat) (xs : List Int) (n : Int) (hc : xs.length ≤ c) (hm : c ≤ 9223372036854775807) (hI : IntsIn w a xs) :
    Calls Try.prog 69 #[.slice a xs.length c, .int .i64 n] w fun e w' => e = .returned (.bool (hasI xs n)) ∧ w' = w := by
  have HC := Lib.hid (indexI_any w a c xs n hc hm hI)
  clear hI
  go_enter Try.func69, Try.ntmps69
  go_wp2_with fail
  refine HC.out.mono ?_
  rintro e w2 ⟨i, rfl, hi, rfl⟩
  have HI := Lib.hid hi
  clear hi HC
  go_wp2_with fail
  go_ret
  rw [HI.out]
  exact ⟨rfl, rfl⟩
set_option maxHeartbeats 1000000 in
theorem containsI_any (w : World) (a : Option Addr) (c : Nat) (xs : List Int) (n : Int) (hc : xs.length ≤ c) (hm : c ≤ 9223372036854775807) (hI : IntsIn w a xs) :
    Calls Try.prog 69 #[.slice a xs.length c, .int .i64 n] w (RetB (hasI xs n) w) := by
  have HC := Lib.hid (indexI_any w a c xs n hc hm hI)
  clear hI
  go_enter Try.func69, Try.ntmps69
  go_wp2_with fail
  refine HC.out.mono ?_
  rintro e w2 ⟨i, rfl, hi, rfl⟩
  have HI := Lib.hid hi
  clear hi HC
  go_wp2_with fail
  go_ret
  rw [HI.out]
  exact ⟨rfl, Kept.refl _ _⟩

theorem FinderIn.cells {w : World} {F : Nat} {v : TabV} {t : Tab} {h : WhV} {name : ByteArray} {all : List Int} (hf : FinderIn w F v t h name all) : ∃ a c, IntsIn w a all ∧ all.length ≤ c ∧ c ≤ 9223372036854775807 ∧
    w.cell? ⟨F, 0, none⟩ = some (.slice v.ta t.types.length v.tc) ∧ w.cell? ⟨F, 1, none⟩ = some (.slice v.sa t.subs.length v.sc) ∧ w.cell? ⟨F, 2, none⟩ = some (.slice v.ea t.ents.length v.ec) ∧ w.cell? ⟨F, 3, none⟩ = some (.slice v.ga v.gn v.gc) ∧ w.cell? ⟨F, 4, none⟩ = some (.slice v.ia v.im v.ic) ∧
    w.cell? ⟨F, 5, none⟩ = some (.int .i64 h.region) ∧ w.cell? ⟨F, 6, none⟩ = some (.int .i64 h.after) ∧ w.cell? ⟨F, 7, none⟩ = some (.slice h.ua h.units.length h.uc) ∧ w.cell? ⟨F, 8, none⟩ = some (.slice h.sa h.uses.length h.sc) ∧ w.cell? ⟨F, 9, none⟩ = some (.string name) ∧ w.cell? ⟨F, 10, none⟩ = some (.slice a all.length c) := by
  obtain ⟨⟨a, c, h1, h2, h3, h4⟩, _, _⟩ := hf
  have hc : ∀ j, w.cell? ⟨F, j, none⟩ = (findC v t h name (.slice a all.length c))[j]? := fun j => cell_of_row _ _ _ _ _ _ h1
  exact ⟨a, c, h2, h3, h4, hc 0, hc 1, hc 2, hc 3, hc 4, hc 5, hc 6, hc 7, hc 8, hc 9, hc 10⟩

def namedR (t : Tab) (h : WhV) (e : Int) (x : EntV) : Bool := (((x.owner != 0) || decide (x.unit < 0)) || hasI h.units e) || insideR t h.region e

set_option maxRecDepth 100000 in
set_option maxHeartbeats 4000000 in
theorem named_any (w : World) (F : Nat) (v : TabV) (t : Tab) (h : WhV) (name : ByteArray) (all : List Int) (k : Nat) (x : EntV) (hx : t.ents[k]? = some x) (hF : FinderIn w F v t h name all) :
    Calls Try.prog 43 #[.pointer (some ⟨F, 0, none⟩), .int .i64 k] w (RetB (namedR t h k x) w) := by
  have HF := Lib.hid hF
  have HR : Hid (namedR t h k x = ((((x.owner != 0) || decide (x.unit < 0)) || hasI h.units k) || insideR t h.region k)) := rfl
  have q1 := hF.tab.el
  have q2 := hF.tab.em
  have hlt := (List.getElem?_eq_some_iff.1 hx).1
  obtain ⟨b, o, hea, hr⟩ := hF.tab.es.some_ hx
  have HROW := Lib.hid (hr k x hx)
  obtain ⟨a, c, hin, hl1, hl2, _, _, c2, _⟩ := hF.cells
  rw [hea] at c2
  clear hx hF hr hin hl1 hl2
  go_enter Try.func43, Try.ntmps43
  go_upto_region 2 with (refine wpList_load_mid rfl 43 (.tmp 13) rfl b (o + k * 22) rfl x.cells _ HROW.out Try.underlying43 rfl (Try.info43 x) ?_)
  refine wp_gen' ?_
  intro w0 hw0
  have hk0 : Kept [] w w0 := by rw [hw0]; exact Kept.alloc _ _ _
  have n2 : w0.cell? ⟨w.heap.size, 2, none⟩ = some (.int .i64 x.owner) := by rw [hw0]; exact ent_cell (x := x) (heap_alloc_new _ _) 2 rfl
  have n20 : w0.cell? ⟨w.heap.size, 20, none⟩ = some (.int .i64 x.unit) := by rw [hw0]; exact ent_cell (x := x) (heap_alloc_new _ _) 20 rfl
  have HK0 := Lib.hid hk0
  have HF0 := Lib.hid (HF.out.kept hk0)
  clear hw0 hk0 HF HROW c2
  obtain ⟨a', c', _, _, _, f0, f1, f2, f3, f4, f5, _, f7, _⟩ := HF0.out.cells
  have u1 := HF0.out.wh.u1
  have u2 := HF0.out.wh.u2
  clear hea
  cases h1 : (x.owner != 0)
  · rw [h1] at HR
    cases h2 : decide (x.unit < 0)
    · rw [h2] at HR
      cases h3 : hasI h.units k
      · rw [h3] at HR
        have HCO := Lib.hid h3
        have HF1 := Lib.hid (HF0.out.kept (Kept.drew _ _))
        have HK1 := Lib.hid (HK0.out.trans (Kept.drew _ _))
        have HQ : Hid (∀ W, Kept [] w0 W → Calls Try.prog 69 #[.slice h.ua h.units.length h.uc, .int .i64 k] W (fun e w'' => e = .returned (.bool false) ∧ w'' = W)) := fun W hk => by
          have hc := containsQ_any W h.ua h.uc h.units k u1 u2 (HF0.out.wh.u.kept hk)
          rw [h3] at hc
          exact hc
        clear h3
        go_still_tail 29, (by kernel_rfl)
        still_call (HQ.out _ (by first | exact Kept.drew _ _ | exact Kept.refl _ _))
        repeat still_step
        refine wpStill_nil ?_
        change wpList _ _ _ _ _ w0.drew
        generalize w0.drew = w1 at *
        go_wp2_with (first
          | (go_at_call 69; refine (containsQ_any _ h.ua h.uc h.units k u1 u2 HF1.out.wh.u).mono ?_; rintro e w5 ⟨rfl, rfl⟩; rw [HCO.out])
          | (go_at_call 17; refine (inside_any _ v t h.region k HF1.out.tab).mono ?_; rintro e w6 ⟨rfl, hk6⟩; have HK6 := Lib.hid (HK1.out.trans hk6); clear hk6))
        go_ret
        exact ⟨by rw [HR.out]; rfl, HK6.out⟩
      · rw [h3] at HR
        have HQ : Hid (∀ W, Kept [] w0 W → Calls Try.prog 69 #[.slice h.ua h.units.length h.uc, .int .i64 k] W (fun e w'' => e = .returned (.bool true) ∧ w'' = W)) := fun W hk => by
          have hc := containsQ_any W h.ua h.uc h.units k u1 u2 (HF0.out.wh.u.kept hk)
          rw [h3] at hc
          exact hc
        clear h3
        go_quiet ((go_at_call 69; exact Calls.quiet_of_same (HQ.out _ (by first | exact Kept.refl _ _ | exact Kept.drew _ _ | exact Kept.drewN _ _ _))))
        go_wp2_with fail
        go_ret
        exact ⟨by rw [HR.out]; rfl, HK0.out.trans (Kept.drewN _ _ _)⟩
    · rw [h2] at HR
      go_quiet (fail)
      go_wp2_with fail
      go_ret
      exact ⟨by rw [HR.out]; rfl, HK0.out.trans (Kept.drewN _ _ _)⟩
  · rw [h1] at HR
    go_quiet (fail)
    go_wp2_with fail
    go_ret
    exact ⟨by rw [HR.out]; rfl, HK0.out.trans (Kept.drewN _ _ _)⟩
end Go.Proofs.Ytlgcboaojdhneaa
