/- Needs of the reference; Before. -/
import Derived.Test.YtoaklikkepkhfaaS4
import Derived.Test.YtoaklikkepkhfaaP4
namespace Go.Proofs.Ytoaklikkepkhfaa
open Go.RowKit

/-- What Needs hands back. -/
def NeedsRes (l : List UnitV) (subs : List SubV) (u : Int) (xs : List Int) (er : Int) : Prop :=
  (mayR l subs = false ∧ xs = [] ∧ er = 2) ∨ (mayR l subs = true ∧ inR l.length u = false ∧ xs = [] ∧ er = 4) ∨ (mayR l subs = true ∧ inR l.length u = true ∧ NeedList l subs u.toNat xs ∧ er = 0)
theorem NeedsRes.uniq {l : List UnitV} {subs : List SubV} {u : Int} {xs ys : List Int} {er fr : Int} (h : NeedsRes l subs u xs er) (h' : NeedsRes l subs u ys fr) : xs = ys ∧ er = fr := by
  rcases h with A | A | A <;> rcases h' with B | B | B
  all_goals first
    | (exfalso; have := A.1.symm.trans B.1; cases this; done)
    | (exfalso; have := A.2.1.symm.trans B.2.1; cases this; done)
    | exact ⟨A.2.1.trans B.2.1.symm, A.2.2.trans B.2.2.symm⟩
    | exact ⟨A.2.2.1.trans B.2.2.1.symm, A.2.2.2.trans B.2.2.2.symm⟩
    | exact ⟨A.2.2.1.uniq B.2.2.1, A.2.2.2.trans B.2.2.2.symm⟩
/-- A list and a number. -/
def RetTwo (R : List Int → Int → Prop) (w : World) (e : Ending) (w' : World) : Prop := ∃ v xs er, e = .returned (.tuple #[v, .int .i64 er]) ∧ R xs er ∧ IntsC w' v xs ∧ Kept [] w w'

theorem one_int (k : IntKind) (x : Int) : ∀ u, u ∈ [Value.int k x] → u.oneCell' = true := by
  intro u hu
  simp at hu
  subst hu
  rfl
theorem trueAt_le (bs : List Bool) (k : Nat) : (trueAt bs k).length ≤ k := by
  unfold trueAt
  rw [List.length_map]
  exact Nat.le_trans (List.length_filter_le _ _) (by simp)

set_option maxRecDepth 100000 in
set_option maxHeartbeats 4000000 in
theorem refNeedsTop_any (w : World) (ua : Option Addr) (uc : Nat) (l : List UnitV) (sa : Option Addr) (sc : Nat) (subs : List SubV) (u : Int) (hE : Env w ua uc l sa sc subs) (hb : Room l subs) :
    Calls Try.prog 10 #[.slice ua l.length uc, .slice sa subs.length sc, .int .i64 u] w (RetTwo (NeedsRes l subs u) w) := by
  have HE := Lib.hid hE
  have HBD := Lib.hid hb
  have b1 := hE.ul
  have b2 := hE.um
  clear hE hb
  obtain ⟨i0, hi, hz0, hz1, hz2⟩ := info_parts int_info
  go_enter Try.func10, Try.ntmps10
  go_wp2_with fail
  refine (may_any w ua uc l sa sc subs HE.out).mono ?_
  rintro e w1 ⟨rfl, hk1⟩
  have HK1 := Lib.hid hk1
  clear hk1
  cases hm : mayR l subs
  · have HR : Hid (NeedsRes l subs u [] 2) := .inl ⟨hm, rfl, rfl⟩
    clear hm
    go_wp2_with fail
    go_ret2
    exact ⟨_, _, _, rfl, HR.out, IntsC.nil _, HK1.out⟩
  · have HM := Lib.hid (may_of hm)
    have HMB := Lib.hid hm
    clear hm
    by_cases h0 : 0 ≤ u
    · by_cases h1 : u < l.length
      · obtain ⟨un, rfl⟩ := Int.eq_ofNat_of_zero_le h0
        have hul : un < l.length := by omega
        obtain ⟨x, hx⟩ : ∃ x, l[un]? = some x := ⟨_, List.getElem?_eq_getElem hul⟩
        have HIN : Hid (inR l.length (un : Int) = true) := inR_iff.2 ⟨h0, h1⟩
        have HX := Lib.hid hx
        clear hx
        go_wp2_with fail
        refine (refNeeds_any w1 ua uc l sa sc subs un x (HE.out.kept HK1.out) HX.out HM.out HBD.out).mono ?_
        rintro e w2 ⟨g, bs, rfl, hbr, hg, hnb, hk2⟩
        have HBR := Lib.hid hbr
        have HNB := Lib.hid hnb
        have HK2 := Lib.hid (HK1.out.trans hk2)
        have hbl := hnb.1
        have hgl := hbr.lt
        have hl256 := HM.out.l256
        clear hbr hnb hk2
        go_wp2_with fail
        go_loopw [9, 10] (fun v i wr => ∃ k : Nat, k ≤ l.length ∧ i = .int .i64 k ∧ wr.ownsRow w2.heap.size 3 1 v (trueAt bs k).length ((trueAt bs k).map (Value.int .i64)) ∧ Kept [] w2 wr) (fun _ i _ => l.length - (intOf i).toNat)
        case atStart => exact ⟨0, Nat.zero_le _, rfl, World.ownsRow_nil _ _ _ _, Kept.refl _ _⟩
        case round =>
          obtain ⟨k, hk, rfl, hown, hkr⟩ := hrel
          obtain ⟨A9, c9, rfl⟩ := own_shape hown
          have HOWN := Lib.hid hown
          have HKR := Lib.hid hkr
          have hzr := hkr.size
          clear hown hkr
          by_cases hlt : k < l.length
          · obtain ⟨b, hb⟩ : ∃ b, bs[k]? = some b := ⟨_, List.getElem?_eq_getElem (by omega)⟩
            have qb := HKR.out.cell (HBR.out.cell hb) (by simp)
            have hs := trueAt_succ bs k
            rw [hb, Option.getD_some] at hs
            have HS := Lib.hid hs
            have hle := trueAt_le bs k
            clear hb hs
            cases b
            · have HS2 : Hid (trueAt bs (k + 1) = trueAt bs k) := by rw [Hid, HS.out]; simp
              go_wp2_with fail
              go_roundw
              case rel => exact ⟨k + 1, by omega, by go_num, by rw [HS2.out]; exact HOWN.out, HKR.out⟩
              case measure => simp [intOf]; omega
            · have HS2 : Hid (trueAt bs (k + 1) = trueAt bs k ++ [(k : Int)]) := by rw [Hid, HS.out]; simp
              have hA : (trueAt bs k).length + 1 ≤ maxLen := by unfold maxLen; omega
              have hB : ((trueAt bs k).length + 1) * 8 ≤ 140737488355328 := by omega
              have hC : w2.heap.size ≤ (wr.alloc (.cells #[.int .i64 k] 3)).heap.size := by simp; omega
              go_wp2_with (at_builtin; refine wpList_append_own _ rfl _ _ 26 rfl w2.heap.size 3 i0 (.int .i64 0) 1 8 Try.underlying26 hi hz0 hz1 hz2 rfl (by decide) (.slice A9 (trueAt bs k).length c9) (trueAt bs k).length ((trueAt bs k).map (Value.int .i64)) rfl (HOWN.out.alloc _) ⟨wr.heap.size, 0, none⟩ 1 1 [.int .i64 k] rfl rfl (cell_one_new _ _ _) (one_int _ _) hA hB hC ?_; intro v' w4 ho4 hg4 _; have HO4 := Lib.hid ho4; have HG4 := Lib.hid hg4; clear ho4 hg4)
              have HROW : Hid (w4.ownsRow w2.heap.size 3 1 v' (trueAt bs (k + 1)).length ((trueAt bs (k + 1)).map (Value.int .i64))) := by rw [Hid, HS2.out]; simpa using HO4.out
              have HK4 : Hid (Kept [] w2 w4) := (HKR.out.trans (Kept.alloc _ _ _)).grown HG4.out (fun q hq => own_at HOWN.out q hq)
              go_roundw
              case rel => exact ⟨k + 1, by omega, by go_num, HROW.out, HK4.out⟩
              case measure => simp [intOf]; omega
          · obtain rfl : k = l.length := by omega
            have HRES : Hid (NeedsRes l subs (un : Int) (trueAt bs l.length) 0) := .inr (.inr ⟨HMB.out, HIN.out, by simpa using needList_bits HM.out HNB.out (fun n hn => need_range HM.out hn), rfl⟩)
            go_wp2_with fail
            go_ret2
            exact ⟨_, _, _, rfl, HRES.out, IntsC.of_owns HOWN.out, HK2.out.trans HKR.out⟩
      · have HR : Hid (NeedsRes l subs u [] 4) := .inr (.inl ⟨HMB.out, by simp [inR, h1], rfl, rfl⟩)
        go_wp2_with fail
        go_ret2
        exact ⟨_, _, _, rfl, HR.out, IntsC.nil _, HK1.out⟩
    · have HR : Hid (NeedsRes l subs u [] 4) := .inr (.inl ⟨HMB.out, by simp [inR, h0], rfl, rfl⟩)
      go_wp2_with fail
      go_ret2
      exact ⟨_, _, _, rfl, HR.out, IntsC.nil _, HK1.out⟩

set_option maxRecDepth 100000 in
set_option maxHeartbeats 4000000 in
theorem before_any (w : World) (bu ou uc : Nat) (l : List UnitV) (i j : Nat) (hr : ∀ (j : Nat) (r : UnitV), l[j]? = some r → w.rangeAt bu (ou + j * 4) r.cells) (hl : l.length ≤ 100000) (hi : i < l.length) (hj : j < l.length) :
    Calls Try.prog 30 #[.slice (some ⟨bu, ou, none⟩) l.length uc, .int .i64 i, .int .i64 j] w (RetB (beforeB l i j) w) := by
  obtain ⟨x, hx⟩ : ∃ x, l[i]? = some x := ⟨_, List.getElem?_eq_getElem hi⟩
  obtain ⟨y, hy⟩ : ∃ y, l[j]? = some y := ⟨_, List.getElem?_eq_getElem hj⟩
  obtain ⟨x0, x1, _, _⟩ := unit_cells (hr i x hx)
  obtain ⟨y0, y1, _, _⟩ := unit_cells (hr j y hy)
  have HB : Hid (beforeB l i j = if (x.name.toList == y.name.toList) = false then Op.bytesLess x.name.toList y.name.toList else if (x.body == y.body) = false then y.body else decide (i < j)) := by
    rw [Hid]; unfold beforeB nameOf bodyOf; rw [hx, hy]; rfl
  have e0 := HB
  clear hr hx hy
  cases hN : (x.name.toList == y.name.toList)
  · have HB2 : Hid (beforeB l i j = Op.bytesLess x.name.toList y.name.toList) := by rw [Hid, HB.out, if_pos hN]
    clear HB e0
    go_enter Try.func30, Try.ntmps30
    go_wp2_with fail
    go_quiet (fail)
    go_wp2_with fail
    go_quiet (fail)
    go_wp2_with fail
    go_ret
    rw [HB2.out]
    exact ⟨rfl, (Kept.drewN _ _ _).trans (Kept.drewN _ _ _)⟩
  · cases hBd : (x.body == y.body)
    · have HB2 : Hid (beforeB l i j = y.body) := by rw [Hid, HB.out, hN, hBd]; rfl
      have hbn : (x.body != y.body) = true := by rw [bne, hBd]; rfl
      clear HB e0
      go_enter Try.func30, Try.ntmps30
      go_wp2_with fail
      go_quiet (fail)
      go_wp2_with fail
      go_quiet (fail)
      go_wp2_with fail
      go_ret
      rw [HB2.out]
      exact ⟨rfl, Kept.drewN _ _ _⟩
    · have HB2 : Hid (beforeB l i j = decide (i < j)) := by rw [Hid, HB.out, hN, hBd]; rfl
      have hbn : (x.body != y.body) = false := by rw [bne, hBd]; rfl
      clear HB e0
      go_enter Try.func30, Try.ntmps30
      go_wp2_with fail
      go_quiet (fail)
      go_wp2_with fail
      go_quiet (fail)
      go_wp2_with fail
      go_ret
      rw [HB2.out]
      exact ⟨by simp, Kept.drewN _ _ _⟩
end Go.Proofs.Ytoaklikkepkhfaa
