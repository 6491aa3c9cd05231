/- ScopeInner's walk. -/
import Derived.Test.YtlgcboaojdhneaaP4
namespace Go.Proofs.Ytlgcboaojdhneaa
open Go.RowKit

/-- A place before all entities' end; the used packages that are there. -/
def lateH (h : WhV) (n : Nat) : WhV := { h with after := n }
def usesH (h : WhV) (sa : Option Addr) (sc : Nat) (us : List Int) : WhV := { h with sa := sa, sc := sc, uses := us }
def ownX (x : EntV) (r : Int) : EntV := { x with owner := r, unit := -1 }
theorem RetAdd.ok {v : TabV} {t : Tab} {x : EntV} {w w' : World} {e : Ending} (h : RetAdd v t x w e w') (he : addErr t x = 0) : ∃ ea ec, e = .returned (.tuple #[.agg (({ v with ea := ea, ec := ec } : TabV).cells (addE t x)), .int .i64 0]) ∧ w'.ownsRow w.heap.size 43 22 (.slice ea (addE t x).ents.length ec) (addE t x).ents.length ((addE t x).ents.map EntV.cells).flatten ∧ Kept [] w w' := by
  rcases h with ⟨_, h⟩ | ⟨hn, _⟩
  · exact h
  · exact absurd he hn
theorem RetAdd.no {v : TabV} {t : Tab} {x : EntV} {w w' : World} {e : Ending} (h : RetAdd v t x w e w') (he : addErr t x ≠ 0) : e = .returned (.tuple #[.agg nilT, .int .i64 (addErr t x)]) ∧ Kept [] w w' := by
  rcases h with ⟨hn, _⟩ | ⟨_, h⟩
  · exact absurd hn he
  · exact h
theorem addErr_small {t : Tab} {x : EntV} (h : t.ents.length ≤ 120) : (addErr t x = 81 ∧ twiceB t x = true) ∨ (addErr t x = 0 ∧ twiceB t x = false) := by
  unfold addErr
  rw [if_neg (by omega)]
  cases twiceB t x
  · exact .inr ⟨rfl, rfl⟩
  · exact .inl ⟨rfl, rfl⟩
def nextH (h : WhV) (n : Nat) : WhV := { h with after := (n : Int) + 1 }
def notB (u : Tab) (n : Nat) (a : Int) : Bool := !homI u a (n : Int)
theorem find_len {t : Tab} (hle : t.ents.length ≤ 120) (h : WhV) (name : ByteArray) : (findR t h name).length ≤ 14520 := by
  have a1 : (allR t name h.after).length ≤ 120 := Nat.le_trans (allN_len t name h.after t.ents.length) hle
  have a2 : (regs t h.region).length ≤ 120 := Nat.le_trans (regs_len t h.region) hle
  have a3 : (dirR t h (allR t name h.after) (regs t h.region)).length ≤ 0 + (regs t h.region).length * (allR t name h.after).length := dirR_len (regs t h.region) []
  have a4 := usedR_len t h (allR t name h.after) (dirR t h (allR t name h.after) (regs t h.region))
  have a5 : (regs t h.region).length * (allR t name h.after).length ≤ 120 * 120 := Nat.mul_le_mul a2 a1
  have a6 : (findR t h name).length = (findL t h name).length := (sortI_perm (findL t h name)).length_eq
  have a7 : (findL t h name).length = (dirR t h (allR t name h.after) (regs t h.region)).length + (usedR t h (allR t name h.after) (dirR t h (allR t name h.after) (regs t h.region))).length := by
    unfold findL
    exact List.length_append
  omega
def ltN (n : Nat) (u : Int) : Bool := decide (u < (n : Int))

set_option maxRecDepth 100000 in
set_option maxHeartbeats 4000000 in
theorem inner_any (w : World) (v : TabV) (t0 : Tab) (h0 : WhV) (x0 : EntV) (name : ByteArray) (hT : TabIn w v t0) (hY : TypIn w v t0) (hwf : ∀ x, x ∈ t0.ents → (Lit.int .i64 x.owner).wf = true) (hH : WhIn w h0) (hu : h0.ua = none → h0.uc = 0) (hsa : h0.sa = none → h0.sc = 0) (hrw : (Lit.int .i64 h0.region).wf = true) (hX : EntIn w x0) :
    Calls Try.prog 8 #[.agg (v.cells t0), .agg h0.cells.toArray, .agg x0.cells.toArray, .string name] w (RetB true w) := by
  have HXI := Lib.hid hX
  have HRW := Lib.hid hrw
  clear hX hrw

  have HT := Lib.hid hT
  have HY := Lib.hid hY
  have HWF := Lib.hid hwf
  have HH := Lib.hid hH
  have HU := Lib.hid hu
  have HS := Lib.hid hsa
  have HV0 : Hid (v.cells t0 = #[.slice v.ta t0.types.length v.tc, .slice v.sa t0.subs.length v.sc, .slice v.ea t0.ents.length v.ec, .slice v.ga v.gn v.gc, .slice v.ia v.im v.ic]) := rfl
  clear hT hY hwf hH hu hsa
  rw [HV0.out]
  unfold WhV.cells
  go_enter Try.func8, Try.ntmps8
  go_upto_region 1 with (fail)
  refine wp_gen' ?_
  intro w0 hw0
  have HK0 : Hid (Kept [] w w0) := by rw [Hid, hw0]; exact ((Kept.alloc _ _ _).trans (Kept.alloc _ _ _)).trans (Kept.alloc _ _ _)
  have HB0 : Hid (w0.heap[w.heap.size]? = some (.cells (v.cells t0) 28 (0, 0))) := by rw [Hid, hw0]; exact obj_old (obj_old (obj_new rfl) (by simp)) (by simp; omega)
  have HB1 : Hid (w0.heap[w.heap.size + 1]? = some (.cells h0.cells.toArray 31 (0, 0))) := by rw [Hid, hw0]; exact obj_old (obj_new (by simp)) (by simp)
  have HBX : Hid (w0.heap[w.heap.size + 1 + 1]? = some (.cells x0.cells.toArray 43 (0, 0))) := by rw [Hid, hw0]; exact obj_new (by simp)
  clear hw0
  have HD : Hid (∀ W, Kept [] w0 W → (W.cell? ⟨w.heap.size, 0, none⟩ = some (.slice v.ta t0.types.length v.tc) ∧ W.cell? ⟨w.heap.size, 1, none⟩ = some (.slice v.sa t0.subs.length v.sc) ∧ W.cell? ⟨w.heap.size, 2, none⟩ = some (.slice v.ea t0.ents.length v.ec) ∧ W.cell? ⟨w.heap.size, 3, none⟩ = some (.slice v.ga v.gn v.gc) ∧ W.cell? ⟨w.heap.size, 4, none⟩ = some (.slice v.ia v.im v.ic) ∧ W.cell? ⟨w.heap.size + 1, 0, none⟩ = some (.int .i64 h0.region) ∧ W.cell? ⟨w.heap.size + 1, 1, none⟩ = some (.int .i64 h0.after) ∧ W.cell? ⟨w.heap.size + 1, 2, none⟩ = some (.slice h0.ua h0.units.length h0.uc) ∧ W.cell? ⟨w.heap.size + 1, 3, none⟩ = some (.slice h0.sa h0.uses.length h0.sc) ∧ (∀ j, W.frozen? ⟨w.heap.size, j, none⟩ = false) ∧ (∀ j, W.frozen? ⟨w.heap.size + 1, j, none⟩ = false))) := fun W hk => by
    have hb0 := hk.obj HB0.out (by simp)
    have hb1 := hk.obj HB1.out (by simp)
    have c0 : ∀ j, W.cell? ⟨w.heap.size, j, none⟩ = (v.cells t0)[j]? := fun j => cell_of_row _ _ _ _ _ _ hb0
    have c1 : ∀ j, W.cell? ⟨w.heap.size + 1, j, none⟩ = h0.cells.toArray[j]? := fun j => cell_of_row _ _ _ _ _ _ hb1
    exact ⟨c0 0, c0 1, c0 2, c0 3, c0 4, c1 0, c1 1, c1 2, c1 3, row_frozen hb0, row_frozen hb1⟩
  have HC10 : Hid (∀ W, Kept [] w0 W → Calls Try.prog 10 #[.agg #[.slice v.ta t0.types.length v.tc, .slice v.sa t0.subs.length v.sc, .slice v.ea t0.ents.length v.ec, .slice v.ga v.gn v.gc, .slice v.ia v.im v.ic]] W (RetT v (cutT t0) W)) := fun W hk => by
    have := cut_any W v t0 (HT.out.kept (HK0.out.trans hk))
    rw [HV0.out] at this
    exact this
  have HC11 : Hid (∀ W, Kept [] w0 W → Calls Try.prog 11 #[.agg #[.int .i64 h0.region, .int .i64 h0.after, .slice h0.ua h0.units.length h0.uc, .slice h0.sa h0.uses.length h0.sc]] W (RetH (cutH h0) W)) := fun W hk => cutWhere_any W h0 (HH.out.kept (HK0.out.trans hk)) HU.out HS.out
  have HVC : Hid (v.cells (cutT t0) = #[.slice v.ta t0.types.length v.tc, .slice v.sa t0.subs.length v.sc, .slice v.ea (cutT t0).ents.length v.ec, .slice v.ga v.gn v.gc, .slice v.ia v.im v.ic]) := rfl
  have HHC : Hid ((cutH h0).cells.toArray = #[.int .i64 h0.region, .int .i64 h0.after, .slice h0.ua (cutH h0).units.length h0.uc, .slice h0.sa (cutH h0).uses.length h0.sc]) := rfl
  obtain ⟨d0, d1, d2, d3, d4, u0, u1, u2, u3, f0, f1⟩ := HD.out w0 (Kept.refl _ _)
  have HPOST : Hid ( ∀ W W' : World, Kept [] w0 W → W' = (((((((((W.setCell ⟨w.heap.size, 0, none⟩ (.slice v.ta t0.types.length v.tc)).setCell ⟨w.heap.size, 1, none⟩ (.slice v.sa t0.subs.length v.sc)).setCell ⟨w.heap.size, 2, none⟩ (.slice v.ea (cutT t0).ents.length v.ec)).setCell ⟨w.heap.size, 3, none⟩ (.slice v.ga v.gn v.gc)).setCell ⟨w.heap.size, 4, none⟩ (.slice v.ia v.im v.ic)).setCell ⟨w.heap.size + 1, 0, none⟩ (.int .i64 h0.region)).setCell ⟨w.heap.size + 1, 1, none⟩ (.int .i64 h0.after)).setCell ⟨w.heap.size + 1, 2, none⟩ (.slice h0.ua (cutH h0).units.length h0.uc)).setCell ⟨w.heap.size + 1, 3, none⟩ (.slice h0.sa (cutH h0).uses.length h0.sc)) → (W'.heap[w.heap.size]? = some (.cells (v.cells (cutT t0)) 28 (0, 0)) ∧ W'.heap[w.heap.size + 1]? = some (.cells (cutH h0).cells.toArray 31 (0, 0)) ∧ W'.heap[w.heap.size + 1 + 1]? = some (.cells x0.cells.toArray 43 (0, 0)) ∧ Kept [] w W')) := fun W W' hk hW => by
      obtain ⟨p1, p2, p3⟩ := cut_stored (t := t0) (h := h0) (by omega) (hk.obj HB0.out (by simp)) (hk.obj HB1.out (by simp)) _ _ _ _ _ _ _ _ _ HVC.out HHC.out hW
      exact ⟨p1, p2, p3.obj (hk.obj HBX.out (by simp)) (by simp; omega), (HK0.out.trans hk).above p3 (by simp)⟩
  go_cut [] (fun wc => wc.heap[w.heap.size]? = some (.cells (v.cells (cutT t0)) 28 (0, 0)) ∧ wc.heap[w.heap.size + 1]? = some (.cells (cutH h0).cells.toArray 31 (0, 0)) ∧ wc.heap[w.heap.size + 1 + 1]? = some (.cells x0.cells.toArray 43 (0, 0)) ∧ Kept [] w wc)
  case first =>
    go_region_with (first
      | (go_at_call 10
         refine (HC10.out _ ?_).mono ?_
         · first
             | exact HKB.out
             | exact Kept.drew _ _
             | exact Kept.refl _ _
         rintro e wa ⟨rfl, hka⟩
         rw [HVC.out]
         have HKA : Hid (Kept [] w0 wa) := by first | exact HKB.out.trans hka | exact (Kept.drew _ _).trans hka | exact hka
         clear hka d0 d1 d2 d3 d4 u0 u1 u2 u3 f0 f1
         obtain ⟨d0, d1, d2, d3, d4, u0, u1, u2, u3, f0, f1⟩ := HD.out _ HKA.out)
      | (go_at_call 11
         refine (HC11.out _ ?_).mono ?_
         · first
             | exact HKA.out
             | exact Kept.drew _ _
             | exact Kept.refl _ _
         rintro e wb ⟨rfl, hkb⟩
         rw [HHC.out]
         have HKB : Hid (Kept [] w0 wb) := by first | exact HKA.out.trans hkb | exact (Kept.drew _ _).trans hkb | exact hkb
         clear hkb d0 d1 d2 d3 d4 u0 u1 u2 u3 f0 f1
         obtain ⟨d0, d1, d2, d3, d4, u0, u1, u2, u3, f0, f1⟩ := HD.out _ HKB.out))
    all_goals
      go_wp2_with fail
      go_meet
      exact HPOST.out _ _ HKB.out rfl

  case rest =>
    obtain ⟨hb, hb1, hbx, hkc⟩ := hcut
    have HKC := Lib.hid hkc
    have HTB : Hid (TabBox wc w.heap.size v (cutT t0)) := ⟨hb, HT.out.cut.kept hkc⟩
    have HHB : Hid (WhBox wc (w.heap.size + 1) (cutH h0)) := ⟨hb1, HH.out.cut.kept hkc⟩
    have HXB := Lib.hid hbx
    have HXC : Hid (EntIn wc x0) := HXI.out.kept hkc
    have HLE := Lib.hid (cutT_ents t0)
    have HLU := Lib.hid (cutH_uses h0)
    have HTW : Hid (TabIn w v (cutT t0)) := HT.out.cut
    have HHW : Hid (WhIn w (cutH h0)) := HH.out.cut
    have HXW := Lib.hid HXI.out
    have HRW2 : Hid ((Lit.int .i64 (cutH h0).region).wf = true) := HRW.out
    have HW2 : Hid (∀ x, x ∈ (cutT t0).ents → (Lit.int .i64 x.owner).wf = true) := fun x hx => HWF.out x (List.mem_of_mem_take hx)
    have hle := cutT_ents t0
    generalize cutT t0 = t at *
    generalize cutH h0 = h at *
    clear hb hb1 hbx hkc d0 d1 d2 d3 d4 u0 u1 u2 u3 f0 f1 HD HC10 HC11 HVC HHC HB0 HB1 HT HY HWF HH HU HS HK0 HPOST HRW HXI HBX
    obtain ⟨d0, d1, d2, d3, d4⟩ := HTB.out.cells
    obtain ⟨u0, u1, u2, u3⟩ := HHB.out.cells
    by_cases hbad : h.region < 0 ∨ (t.ents.length : Int) ≤ h.region
    · rcases (by omega : h.region < 0 ∨ (¬ h.region < 0 ∧ (t.ents.length : Int) ≤ h.region)) with hb | ⟨hb, hb2⟩
      · clear hbad
        go_wp2_with (go_at_call 14; refine (works_any _).mono ?_; rintro e w7 ⟨rfl, hk7⟩; have HK7 := Lib.hid hk7; clear hk7)
        go_ret
        exact ⟨rfl, HKC.out.trans HK7.out⟩
      · clear hbad
        go_wp2_with (go_at_call 14; refine (works_any _).mono ?_; rintro e w7 ⟨rfl, hk7⟩; have HK7 := Lib.hid hk7; clear hk7)
        go_ret
        exact ⟨rfl, HKC.out.trans HK7.out⟩
    · have hr0 : ¬ h.region < 0 := fun hh => hbad (.inl hh)
      have hr1 : ¬ (t.ents.length : Int) ≤ h.region := fun hh => hbad (.inr hh)
      have HR : Hid (0 ≤ h.region ∧ h.region < (t.ents.length : Int)) := by rw [Hid]; omega
      clear hbad
      have f1 := frozen_of_row _ _ 1 _ _ HHB.out.box
      go_upto_region 5 with (fail)
      refine wp_gen' ?_
      intro w1 hw1
      have hk1 : Kept [w.heap.size + 1] wc w1 := by rw [hw1]; exact Kept.setCell _ _ _ (by simp)
      have hb1 : w1.heap[w.heap.size + 1]? = some (.cells (lateH h t.ents.length).cells.toArray 31 (0, 0)) := by
        rw [hw1]
        have hv : VRow wc (w.heap.size + 1) 31 h.cells := HHB.out.box
        exact hv.set 1 (.int .i64 t.ents.length)
      have HKW1 : Hid (Kept [] w w1) := HKC.out.above hk1 (by simp)
      have HT1 : Hid (w1.heap[w.heap.size]? = some (.cells (v.cells t) 28 (0, 0))) := hk1.obj HTB.out.box (by simp)
      have HX1 : Hid (w1.heap[w.heap.size + 1 + 1]? = some (.cells x0.cells.toArray 43 (0, 0))) := hk1.obj HXB.out (by simp)
      have HH1 := Lib.hid hb1
      clear hw1 hk1 hb1 d0 d1 d2 d3 d4 u0 u1 u2 u3 f1 HTB HHB HXB HXC
      have HBS : Hid (w.heap.size ≤ w.heap.size ∧ w.heap.size < w.heap.size + 1 ∧ w.heap.size + 1 < w.heap.size + 1 + 1 ∧ w.heap.size + 1 + 1 < w1.heap.size) := by
        have := (Array.getElem?_eq_some_iff.1 HX1.out).1
        rw [Hid]; omega
      generalize hB2 : w.heap.size + 1 + 1 = B2 at *
      generalize hB1 : w.heap.size + 1 = B1 at *
      have HBW : Hid (∃ n, w.heap.size = n ∧ n ≤ w.heap.size) := ⟨_, rfl, Nat.le_refl _⟩
      generalize hB0 : w.heap.size = B at *
      clear hB2 hB1
      have HB0 := Lib.hid hB0
      clear hB0
      have u3 : w1.cell? ⟨B1, 3, none⟩ = some (.slice h.sa h.uses.length h.sc) := (cell_of_row _ _ _ _ _ _ HH1.out).trans rfl
      obtain ⟨i0, hi, hz0, hz1, hz2⟩ := info_parts int_info
      have hiu : IntsIn w1 h.sa h.uses := (HHW.out.kept HKW1.out).s
      have hul : h.uses.length ≤ h.sc := HHW.out.s1
      have hum : h.sc ≤ 9223372036854775807 := HHW.out.s2
      have HLT : Hid (h.uses.length ≤ 20) := HLU.out
      have HFU := Lib.hid (rfl : h.uses.filter (ltN t.ents.length) = h.uses.filter (ltN t.ents.length))
      generalize hsa : h.sa = sa0 at *
      have HIU := Lib.hid hiu
      clear hsa hiu
      go_wp2_with fail
      clear u3
      go_loopw [9, 49] (fun l i wr => ∃ k : Nat, k ≤ h.uses.length ∧ i = .int .i64 k ∧ wr.ownsRow w1.heap.size 3 1 l ((h.uses.take k).filter (ltN t.ents.length)).length (((h.uses.take k).filter (ltN t.ents.length)).map (Value.int .i64)) ∧ Kept [] w1 wr) (fun _ i _ => h.uses.length - (intOf i).toNat)
      case atStart => exact ⟨0, Nat.zero_le _, rfl, World.ownsRow_nil _ _ _ _, Kept.refl _ _⟩
      case round =>
        obtain ⟨k, hk, rfl, ho, hkr⟩ := hrel
        obtain ⟨A9, c9, rfl⟩ := own_shape ho
        have HO := Lib.hid ho
        have HK := Lib.hid hkr
        clear ho hkr
        obtain ⟨wo, rfl⟩ : ∃ wo : World, wo = wr := ⟨_, rfl⟩
        have d2 : wo.cell? ⟨B, 2, none⟩ = some (.slice v.ea t.ents.length v.ec) := (cell_of_row _ _ _ _ _ _ (HK.out.obj HT1.out (by simp))).trans rfl
        by_cases hlt : k < h.uses.length
        · obtain ⟨x, hx⟩ : ∃ x, h.uses[k]? = some x := ⟨_, List.getElem?_eq_getElem hlt⟩
          have HS : Hid ((h.uses.take (k + 1)).filter (ltN t.ents.length) = (h.uses.take k).filter (ltN t.ents.length) ++ (if ltN t.ents.length x then [x] else [])) := filter_take hx
          rcases HIU.out with h0 | ⟨b, o, rfl, hcx⟩
          · rw [h0] at hlt; simp at hlt
          · have qx := HK.out.cell (hcx k x hx) (by simp)
            have hfl : ((h.uses.take k).filter (ltN t.ents.length)).length ≤ 20 := Nat.le_trans (List.length_filter_le _ _) (Nat.le_trans (by simp; omega) HLT.out)
            have hz := HK.out.size
            clear hcx hx
            cases hpx : decide (x < (t.ents.length : Int))
            · have HS2 : Hid ((h.uses.take (k + 1)).filter (ltN t.ents.length) = (h.uses.take k).filter (ltN t.ents.length)) := by rw [Hid, HS.out, ltN, hpx]; simp
              go_wp2_with fail
              go_roundw
              case rel => exact ⟨k + 1, by omega, by go_num, by rw [HS2.out]; exact HO.out, HK.out⟩
              case measure => simp [intOf]; omega
            · have HS2 : Hid ((h.uses.take (k + 1)).filter (ltN t.ents.length) = (h.uses.take k).filter (ltN t.ents.length) ++ [x]) := by rw [Hid, HS.out, ltN, hpx]; simp
              clear HS
              generalize (h.uses.take k).filter (ltN t.ents.length) = rs at *
              have hA : rs.length + 1 ≤ maxLen := by unfold maxLen; omega
              have hB : (rs.length + 1) * 8 ≤ 140737488355328 := by omega
              have hC : Hid (w1.heap.size ≤ (wo.alloc (.cells #[.int .i64 x] 3)).heap.size) := by simp [Hid]; omega
              go_wp2_with (at_builtin; refine wpList_append_own _ rfl _ _ 29 rfl w1.heap.size 3 i0 (.int .i64 0) 1 8 Try.underlying29 hi hz0 hz1 hz2 rfl (by decide) (.slice A9 rs.length c9) rs.length (rs.map (Value.int .i64)) rfl (HO.out.alloc _) ⟨wo.heap.size, 0, none⟩ 1 1 [.int .i64 x] rfl rfl (cell_one_new _ _ _) (one_int _ _) hA hB hC.out ?_; intro vb wb hob hgb _; have HOB := Lib.hid hob; have HKB := Lib.hid ((HK.out.trans (Kept.alloc _ _ _)).grown hgb (fun q hq => own_at HO.out q hq)); clear hob hgb)
              go_roundw
              case rel => exact ⟨k + 1, by omega, by go_num, by rw [HS2.out]; simpa using HOB.out, HKB.out⟩
              case measure => simp [intOf]; omega
        · obtain rfl : k = h.uses.length := by omega
          have HO2 := Lib.hid (by have := HO.out; rw [List.take_length] at this; exact this)
          rw [List.take_length]
          clear HO
          obtain ⟨us, hus⟩ : ∃ us, us = h.uses.filter (ltN t.ents.length) := ⟨_, rfl⟩
          have HUS := Lib.hid hus
          rw [← hus] at HO2 ⊢
          clear hus d2
          go_upto_region 12 with (fail)
          have HT2 : Hid (wo.heap[B]? = some (.cells (v.cells t) 28 (0, 0))) := HK.out.obj HT1.out (by simp)
          have HH2 : Hid (wo.heap[B1]? = some (.cells (lateH h t.ents.length).cells.toArray 31 (0, 0))) := HK.out.obj HH1.out (by simp)
          have HX2 : Hid (wo.heap[B2]? = some (.cells x0.cells.toArray 43 (0, 0))) := HK.out.obj HX1.out (by simp)
          have HKO : Hid (Kept [] w wo) := HKW1.out.trans HK.out
          have g0 : wo.cell? ⟨B1, 0, none⟩ = some (.int .i64 h.region) := (cell_of_row _ _ _ _ _ _ HH2.out).trans rfl
          have g3 : wo.cell? ⟨B1, 3, none⟩ = some (.slice h.sa h.uses.length h.sc) := (cell_of_row _ _ _ _ _ _ HH2.out).trans rfl
          have g2 := ent_cell (x := x0) HX2.out 2 rfl
          have g20 := ent_cell (x := x0) HX2.out 20 rfl
          have p3 := frozen_of_row _ _ 3 _ _ HH2.out
          have p2 := frozen_of_row _ _ 2 _ _ HX2.out
          have p20 := frozen_of_row _ _ 20 _ _ HX2.out
          have hne12 : B1 ≠ B2 := by have := HBS.out; omega
          go_upto_region 14 with (fail)
          refine wp_gen' ?_
          intro w2 hw2
          have hko : Kept [B1, B2] wo w2 := by rw [hw2]; exact ((Kept.setCell _ _ _ (by simp)).trans (Kept.setCell _ _ _ (by simp))).trans (Kept.setCell _ _ _ (by simp))
          have HKW2 : Hid (Kept [] w w2) := HKO.out.above hko (by have := HBS.out; have := HB0.out; simp; omega)
          have HT3 : Hid (TabBox w2 B v t) := ⟨hko.obj HT2.out (by have := HBS.out; simp; omega), HTW.out.kept HKW2.out⟩
          have HX3 : Hid (w2.heap[B2]? = some (.cells (ownX x0 h.region).cells.toArray 43 (0, 0))) := by
            rw [Hid, hw2]
            have hv : VRow wo B2 43 x0.cells := HX2.out
            exact ((hv.other ⟨B1, 3, none⟩ _ hne12.symm).set 2 (.int .i64 h.region)).set 20 (.int .i64 (-1))
          have HI3 : Hid (w2.ownsRow w1.heap.size 3 1 (.slice A9 us.length c9) us.length (us.map (Value.int .i64))) := own_keep HO2.out hko (fun g hg => by have := own_at HO2.out g hg; have := HBS.out; simp; omega)
          have HXI3 : Hid (EntIn w2 (ownX x0 h.region)) := ⟨(HXW.out.kept HKW2.out).ps, HXW.out.ok.p1, HXW.out.ok.p2, HXW.out.ok.p3, HXW.out.ok.p4, HXW.out.ok.s4⟩
          have HH3 : Hid (WhBox w2 B1 (usesH (lateH h t.ents.length) A9 c9 us)) := by
            obtain ⟨_, hi1, hi2, hi3, _⟩ := (IntsC.of_owns HI3.out).at_
            have hw := HHW.out.kept HKW2.out
            refine ⟨?_, hw.u, hw.u1, hw.u2, hi1, hi2, hi3⟩
            rw [hw2]
            have hv : VRow wo B1 31 (lateH h t.ents.length).cells := HH2.out
            exact ((hv.set 3 (.slice A9 us.length c9)).other ⟨B2, 2, none⟩ _ hne12).other ⟨B2, 20, none⟩ _ hne12
          have HUS2 : Hid (∀ u, u ∈ us → u < (t.ents.length : Int)) := fun u hu => by
            rw [HUS.out] at hu
            simpa [ltN] using (List.mem_filter.1 hu).2
          have HUL : Hid (us.length ≤ 20) := by
            rw [Hid, HUS.out]
            exact Nat.le_trans (List.length_filter_le _ _) HLT.out
          obtain ⟨h2, hh2⟩ : ∃ h2, h2 = usesH (lateH h t.ents.length) A9 c9 us := ⟨_, rfl⟩
          obtain ⟨x1, hx1⟩ : ∃ x1, x1 = ownX x0 h.region := ⟨_, rfl⟩
          rw [← hh2] at HH3
          rw [← hx1] at HX3 HXI3
          have HPL : Hid (h2.region = h.region ∧ h2.after = (t.ents.length : Int) ∧ (∀ u, u ∈ h2.uses → u < (t.ents.length : Int)) ∧ h2.uses.length ≤ 20) := by subst hh2; exact ⟨rfl, rfl, HUS2.out, HUL.out⟩
          have HX1F : Hid (x1.owner = h.region ∧ x1.unit = -1) := by subst hx1; exact ⟨rfl, rfl⟩
          clear hw2 hko hh2 hx1 g0 g3 g2 g20 p3 p2 p20 hne12 HT2 HH2 HX2 HKO HO2 HK HUS HUS2 HUL HT1 HH1 HX1 HI3 HLT HFU HIU
          haveI ix : EntAt w2 B2 0 x1 := ⟨EntV.range HX3.out⟩
          obtain ⟨d0, d1, d2, d3, d4⟩ := HT3.out.cells
          have HC26 := Lib.hid (add_ent w2 v t x1 HT3.out.tab HXI3.out (by have := HLE.out; omega))
          unfold TabV.cells at HC26
          rcases addErr_small (x := x1) hle with ⟨he, htw⟩ | ⟨he, htw⟩
          · have HE := Lib.hid he
            clear he htw
            go_wp2_with (first
              | (go_at_call 26
                 refine HC26.out.mono ?_
                 intro e w3 hadd
                 obtain ⟨rfl, hk3⟩ := hadd.no (by rw [HE.out]; decide)
                 rw [HE.out]
                 unfold nilT
                 have HK3 := Lib.hid hk3
                 clear hadd hk3)
              | (go_at_call 14
                 refine (works_any _).mono ?_
                 rintro e w7 ⟨rfl, hk7⟩
                 have HK7 := Lib.hid hk7
                 clear hk7))
            go_ret
            exact ⟨rfl, HKW2.out.trans (HK3.out.trans ((Kept.alloc _ _ _).trans HK7.out))⟩
          · have HE := Lib.hid he
            have HNEW := Lib.hid htw
            clear he htw
            go_upto_region 15 with (go_at_call 26
                                    refine HC26.out.mono ?_
                                    intro e w3 hadd
                                    obtain ⟨ea, ec, rfl, ho, hk3⟩ := hadd.ok HE.out
                                    have HOU := Lib.hid ho
                                    have HK3 := Lib.hid hk3
                                    rw [show (({ v with ea := ea, ec := ec } : TabV).cells (addE t x1)) = #[.slice v.ta t.types.length v.tc, .slice v.sa t.subs.length v.sc, .slice ea (addE t x1).ents.length ec, .slice v.ga v.gn v.gc, .slice v.ia v.im v.ic] from rfl]
                                    clear hadd ho hk3)
            refine wp_gen' ?_
            intro w4 hw4
            have hk4 : Kept [] w2 w4 := by rw [hw4]; exact HK3.out.trans (Kept.alloc _ _ _)
            have hbu : w4.heap[w3.heap.size]? = some (.cells (({ v with ea := ea, ec := ec } : TabV).cells (addE t x1)) 28 (0, 0)) := by rw [hw4]; exact heap_alloc_new _ _
            have hou : w4.ownsRow w2.heap.size 43 22 (.slice ea (addE t x1).ents.length ec) (addE t x1).ents.length ((addE t x1).ents.map EntV.cells).flatten := by rw [hw4]; exact HOU.out.alloc _
            have htu := tabIn_add HT3.out.tab HXI3.out hk4 hou
            obtain ⟨v2, hv2⟩ : ∃ v2 : TabV, v2 = { v with ea := ea, ec := ec } := ⟨_, rfl⟩
            obtain ⟨u, hu⟩ : ∃ u : Tab, u = addE t x1 := ⟨_, rfl⟩
            have HTU : Hid (TabBox w4 w3.heap.size v2 u) := by subst hv2 hu; exact ⟨hbu, htu⟩
            have HTT : Hid (TabBox w4 B v t) := HT3.out.kept hk4
            have HWB : Hid (WhBox w4 B1 h2) := HH3.out.kept hk4
            have HXB : Hid (w4.heap[B2]? = some (.cells x1.cells.toArray 43 (0, 0))) := hk4.obj HX3.out (by simp)
            have HKW4 : Hid (Kept [] w w4) := HKW2.out.trans hk4
            have HAD : Hid (x1.name.toList.isEmpty = false → Added t x1 h2 (nextH h2 t.ents.length)) := fun hn => by
              obtain ⟨q1, q2, q3, q4⟩ := HPL.out
              refine ⟨?_, rfl, rfl, rfl, HX1F.out.1.trans q1.symm, by rw [HX1F.out.2]; decide, hn, HNEW.out⟩
              rw [q1]
              have := HR.out
              obtain ⟨k, hk⟩ : ∃ k : Nat, h.region = (k : Int) := ⟨h.region.toNat, by omega⟩
              rw [hk, (row_some (List.getElem?_eq_getElem (show k < t.ents.length by omega))).1]
              rfl
            have HUE := Lib.hid hu
            have HEN : Hid (∀ y, y ∈ u.ents → (Lit.int .i64 y.owner).wf = true) := fun y hy => by
              rw [HUE.out] at hy
              rcases List.mem_append.1 hy with hy | hy
              · exact HW2.out y hy
              · simp at hy
                rw [hy, HX1F.out.1]
                exact HRW2.out
            have HUL : Hid (u.ents.length ≤ 5000) := by rw [Hid, HUE.out, len_add]; omega
            generalize w3.heap.size = UB at *
            clear hw4 hk4 hbu hou htu hv2 hu d0 d1 d2 d3 d4 ix HC26 HOU HK3 HT3 HH3 HX3 HKW2 HXI3 HE HNEW
            have d2 : w4.cell? ⟨B, 2, none⟩ = some (.slice v.ea t.ents.length v.ec) := HTT.out.cells.2.2.1
            obtain ⟨u0, u1, u2, u3⟩ := HWB.out.cells
            go_upto_region 20 with (fail)
            refine wp_gen' ?_
            intro w5 hw5
            have HK5 : Hid (Kept [] w4 w5) := by rw [Hid, hw5]; exact Kept.alloc _ _ _
            have HNB : Hid (WhBox w5 w4.heap.size (nextH h2 t.ents.length)) := by
              have hw := (HWB.out.kept HK5.out).wh
              exact ⟨by rw [hw5]; exact heap_alloc_new _ _, hw.u, hw.u1, hw.u2, hw.s, hw.s1, hw.s2⟩
            have HTT5 : Hid (TabBox w5 B v t) := HTT.out.kept HK5.out
            have HWB5 : Hid (WhBox w5 B1 h2) := HWB.out.kept HK5.out
            have HTU5 : Hid (TabBox w5 UB v2 u) := HTU.out.kept HK5.out
            have HXB5 : Hid (w5.heap[B2]? = some (.cells x1.cells.toArray 43 (0, 0))) := HK5.out.obj HXB.out (by simp)
            have HKW5 : Hid (Kept [] w w5) := HKW4.out.trans HK5.out
            generalize w4.heap.size = NB at *
            clear hw5 HTT HWB HTU HXB HKW4 HK5 d2 u0 u1 u2 u3
            have HD : Hid (∀ wx, Kept [] w5 wx → (Kept [] w5 wx ∧ wx.cell? ⟨B, 0, none⟩ = some (.slice v.ta t.types.length v.tc) ∧ wx.cell? ⟨B, 1, none⟩ = some (.slice v.sa t.subs.length v.sc) ∧ wx.cell? ⟨B, 2, none⟩ = some (.slice v.ea t.ents.length v.ec) ∧ wx.cell? ⟨B, 3, none⟩ = some (.slice v.ga v.gn v.gc) ∧ wx.cell? ⟨B, 4, none⟩ = some (.slice v.ia v.im v.ic) ∧ wx.cell? ⟨B1, 0, none⟩ = some (.int .i64 h2.region) ∧ wx.cell? ⟨B1, 1, none⟩ = some (.int .i64 h2.after) ∧ wx.cell? ⟨B1, 2, none⟩ = some (.slice h2.ua h2.units.length h2.uc) ∧ wx.cell? ⟨B1, 3, none⟩ = some (.slice h2.sa h2.uses.length h2.sc) ∧ wx.cell? ⟨UB, 0, none⟩ = some (.slice v2.ta u.types.length v2.tc) ∧ wx.cell? ⟨UB, 1, none⟩ = some (.slice v2.sa u.subs.length v2.sc) ∧ wx.cell? ⟨UB, 2, none⟩ = some (.slice v2.ea u.ents.length v2.ec) ∧ wx.cell? ⟨UB, 3, none⟩ = some (.slice v2.ga v2.gn v2.gc) ∧ wx.cell? ⟨UB, 4, none⟩ = some (.slice v2.ia v2.im v2.ic) ∧ wx.cell? ⟨NB, 0, none⟩ = some (.int .i64 h2.region) ∧ wx.cell? ⟨NB, 1, none⟩ = some (.int .i64 ((t.ents.length : Int) + 1)) ∧ wx.cell? ⟨NB, 2, none⟩ = some (.slice h2.ua h2.units.length h2.uc) ∧ wx.cell? ⟨NB, 3, none⟩ = some (.slice h2.sa h2.uses.length h2.sc) ∧ wx.cell? ⟨B2, 1, none⟩ = some (.string x1.name))) := fun W hk => by
              obtain ⟨d0, d1, d2, d3, d4⟩ := (HTT5.out.kept hk).cells
              obtain ⟨u0, u1, u2, u3⟩ := (HWB5.out.kept hk).cells
              obtain ⟨e0, e1, e2, e3, e4⟩ := (HTU5.out.kept hk).cells
              obtain ⟨n0, n1, n2, n3⟩ := (HNB.out.kept hk).cells
              exact ⟨hk, d0, d1, d2, d3, d4, u0, u1, u2, u3, e0, e1, e2, e3, e4, n0, n1, n2, n3, ent_cell (x := x1) (hk.obj HXB5.out (by simp)) 1 rfl⟩
            have HF1 : Hid (∀ W (nm : ByteArray), Kept [] w5 W → Calls Try.prog 16 #[.agg #[.slice v2.ta u.types.length v2.tc, .slice v2.sa u.subs.length v2.sc, .slice v2.ea u.ents.length v2.ec, .slice v2.ga v2.gn v2.gc, .slice v2.ia v2.im v2.ic], .agg #[.int .i64 h2.region, .int .i64 ((t.ents.length : Int) + 1), .slice h2.ua h2.units.length h2.uc, .slice h2.sa h2.uses.length h2.sc], .string nm] W (RetO (findR u (nextH h2 t.ents.length) nm) W)) := fun W nm hk => find_at W v2 u (nextH h2 t.ents.length) nm (HTU5.out.kept hk).tab (HNB.out.kept hk).wh HUL.out (by have h := HPL.out.2.2.2; show h2.uses.length ≤ _; omega) HEN.out
            have HF2 : Hid (∀ W (nm : ByteArray), Kept [] w5 W → Calls Try.prog 16 #[.agg #[.slice v.ta t.types.length v.tc, .slice v.sa t.subs.length v.sc, .slice v.ea t.ents.length v.ec, .slice v.ga v.gn v.gc, .slice v.ia v.im v.ic], .agg #[.int .i64 h2.region, .int .i64 h2.after, .slice h2.ua h2.units.length h2.uc, .slice h2.sa h2.uses.length h2.sc], .string nm] W (RetO (findR t h2 nm) W)) := fun W nm hk => find_at W v t h2 nm (HTT5.out.kept hk).tab (HWB5.out.kept hk).wh (by have := HLE.out; omega) (by have h := HPL.out.2.2.2; omega) HW2.out
            have HF3 : Hid (∀ W (nm : ByteArray), Kept [] w5 W → Calls Try.prog 16 #[.agg #[.slice v2.ta u.types.length v2.tc, .slice v2.sa u.subs.length v2.sc, .slice v2.ea u.ents.length v2.ec, .slice v2.ga v2.gn v2.gc, .slice v2.ia v2.im v2.ic], .agg #[.int .i64 h2.region, .int .i64 h2.after, .slice h2.ua h2.units.length h2.uc, .slice h2.sa h2.uses.length h2.sc], .string nm] W (RetO (findR u h2 nm) W)) := fun W nm hk => find_at W v2 u h2 nm (HTU5.out.kept hk).tab (HWB5.out.kept hk).wh HUL.out (by have h := HPL.out.2.2.2; omega) HEN.out
            have HF19 : Hid (∀ W (a b : Int), Kept [] w5 W → Calls Try.prog 19 #[.agg #[.slice v2.ta u.types.length v2.tc, .slice v2.sa u.subs.length v2.sc, .slice v2.ea u.ents.length v2.ec, .slice v2.ga v2.gn v2.gc, .slice v2.ia v2.im v2.ic], .int .i64 a, .int .i64 b] W (RetB (homI u a b) W)) := fun W a b hk => homographsI_any W v2 u a b (HTU5.out.kept hk).tab
            have HOTH : Hid ((name.toList == x1.name.toList) = false → findR u (nextH h2 t.ents.length) name = findR t h2 name) := fun hn => by
              obtain ⟨q1, q2, q3, q4⟩ := HPL.out
              rw [HUE.out]
              exact inner_other (by rw [q1]; exact HR.out.2) q3 rfl rfl rfl q2 rfl (by rw [BEq.comm]; exact hn)
            have HBEF : Hid (∀ nm, findR u h2 nm = findR t h2 nm) := fun nm => by
              obtain ⟨q1, q2, q3, q4⟩ := HPL.out
              rw [HUE.out]
              exact inner_before (by rw [q1]; exact HR.out.2) q3 q2
            have HWT := Lib.hid HW2.out
            clear HTT5 HWB5 HXB5 HUL HEN HW2 HRW2
            go_cut [104] (fun v104 wc => v104 = .bool false ∧ Kept [] w5 wc)
            case first =>
              cases hnm : (name.toList == x1.name.toList)
              · have HC1 : Hid (∀ W, Kept [] w5 W → Calls Try.prog 16 #[.agg #[.slice v2.ta u.types.length v2.tc, .slice v2.sa u.subs.length v2.sc, .slice v2.ea u.ents.length v2.ec, .slice v2.ga v2.gn v2.gc, .slice v2.ia v2.im v2.ic], .agg #[.int .i64 h2.region, .int .i64 ((t.ents.length : Int) + 1), .slice h2.ua h2.units.length h2.uc, .slice h2.sa h2.uses.length h2.sc], .string name] W (RetO (findR t h2 name) W)) := fun W hk => by
                  have := HF1.out W name hk
                  rw [HOTH.out hnm] at this
                  exact this
                have HKP : Hid (Kept [] w5 w5) := Kept.refl _ _
                go_region_held3 (fun wx => Kept [] w5 wx ∧ wx.cell? ⟨B, 0, none⟩ = some (.slice v.ta t.types.length v.tc) ∧ wx.cell? ⟨B, 1, none⟩ = some (.slice v.sa t.subs.length v.sc) ∧ wx.cell? ⟨B, 2, none⟩ = some (.slice v.ea t.ents.length v.ec) ∧ wx.cell? ⟨B, 3, none⟩ = some (.slice v.ga v.gn v.gc) ∧ wx.cell? ⟨B, 4, none⟩ = some (.slice v.ia v.im v.ic) ∧ wx.cell? ⟨B1, 0, none⟩ = some (.int .i64 h2.region) ∧ wx.cell? ⟨B1, 1, none⟩ = some (.int .i64 h2.after) ∧ wx.cell? ⟨B1, 2, none⟩ = some (.slice h2.ua h2.units.length h2.uc) ∧ wx.cell? ⟨B1, 3, none⟩ = some (.slice h2.sa h2.uses.length h2.sc) ∧ wx.cell? ⟨UB, 0, none⟩ = some (.slice v2.ta u.types.length v2.tc) ∧ wx.cell? ⟨UB, 1, none⟩ = some (.slice v2.sa u.subs.length v2.sc) ∧ wx.cell? ⟨UB, 2, none⟩ = some (.slice v2.ea u.ents.length v2.ec) ∧ wx.cell? ⟨UB, 3, none⟩ = some (.slice v2.ga v2.gn v2.gc) ∧ wx.cell? ⟨UB, 4, none⟩ = some (.slice v2.ia v2.im v2.ic) ∧ wx.cell? ⟨NB, 0, none⟩ = some (.int .i64 h2.region) ∧ wx.cell? ⟨NB, 1, none⟩ = some (.int .i64 ((t.ents.length : Int) + 1)) ∧ wx.cell? ⟨NB, 2, none⟩ = some (.slice h2.ua h2.units.length h2.uc) ∧ wx.cell? ⟨NB, 3, none⟩ = some (.slice h2.sa h2.uses.length h2.sc) ∧ wx.cell? ⟨B2, 1, none⟩ = some (.string x1.name))
                (first | exact HD.out _ HKa3.out | exact HD.out _ HKa2.out | exact HD.out _ HKa1.out | exact HD.out _ (HKP.out.trans (Kept.drew _ _)) | exact HD.out _ HKP.out)
                (first
                  | (fail_if_success guard_hyp HKa1
                     go_at_call 16
                     have hkx := (‹Kept [] w5 _ ∧ _›).1
                     refine (HC1.out _ hkx).mono ?_
                     rintro e xa1 ⟨va1, rfl, ho1, hk1⟩
                     obtain ⟨Aa1, ca1, rfl⟩ := own_shape ho1
                     have HIa1 := Lib.hid ((IntsC.of_owns ho1).at_)
                     have HKa1 := Lib.hid (hkx.trans hk1)
                     clear hkx ho1 hk1)
                  | (guard_hyp HKa1
                     go_at_call 16
                     have hkx := (‹Kept [] w5 _ ∧ _›).1
                     refine (HF2.out _ name hkx).mono ?_
                     rintro e xa2 ⟨va2, rfl, ho1, hk1⟩
                     obtain ⟨Aa2, ca2, rfl⟩ := own_shape ho1
                     have HIa2 := Lib.hid ((IntsC.of_owns ho1).at_)
                     have HJa1 := Lib.hid (HIa1.out.2.1.kept hk1)
                     have HKa2 := Lib.hid (hkx.trans hk1)
                     clear hkx ho1 hk1)
                  | (go_at_call 21
                     have hkx := (‹Kept [] w5 _ ∧ _›).1
                     refine (same_any _ Aa1 Aa2 ca1 ca2 (findR t h2 name) (findR t h2 name) HIa1.out.2.2.1 HIa1.out.2.2.2.1 HJa1.out HIa2.out.2.2.1 HIa2.out.2.2.2.1 HIa2.out.2.1).mono ?_
                     rintro e xa3 ⟨rfl, hk1⟩
                     rw [sameI_self]
                     have HKa3 := Lib.hid (hkx.trans hk1)
                     clear hkx hk1))
                go_wp2_with fail
                go_meet
                exact ⟨rfl, HKa3.out⟩
              · obtain ⟨hk, d0, d1, d2, d3, d4, u0, u1, u2, u3, e0, e1, e2, e3, e4, n0, n1, n2, n3, x1c⟩ := HD.out _ (Kept.refl _ _)
                replace x1c := After.cell x1c
                clear hk d0 d1 d2 d3 d4 u0 u1 u2 u3 e0 e1 e2 e3 e4 n0 n1 n2 n3
                refine wp_region_after (by kernel_rfl) (by kernel_rfl) ?_
                repeat (go_big_quiet_step (fail))
                refine wpQuiet_nil ?_
                rintro w6 ⟨z6, rfl⟩
                obtain ⟨w6, hk6⟩ := z6
                dsimp only
                have HK6 := Lib.hid hk6
                clear hk6 x1c
                go_wp2_with fail
                go_meet
                exact ⟨rfl, HK6.out⟩
            case rest =>
              obtain ⟨rfl, hkc⟩ := hcut
              obtain ⟨w6, rfl⟩ : ∃ w6 : World, w6 = wc := ⟨_, rfl⟩
              have HK6 := Lib.hid hkc
              clear hkc HOTH
              obtain ⟨hk, d0, d1, d2, d3, d4, u0, u1, u2, u3, e0, e1, e2, e3, e4, n0, n1, n2, n3, x1c⟩ := HD.out _ HK6.out
              clear hk
              cases hem : x1.name.toList.isEmpty
              · go_upto_region 24 with (fail)
                clear d0 d1 d2 d3 d4 u0 u1 u2 u3 e0 e1 e2 e3 e4 n0 n1 n2 n3 x1c
                go_cut [127] (fun v127 wc => v127 = .bool false ∧ Kept [] w5 wc)
                case first =>
                  have HC3 : Hid (∀ W, Kept [] w5 W → Calls Try.prog 16 #[.agg #[.slice v2.ta u.types.length v2.tc, .slice v2.sa u.subs.length v2.sc, .slice v2.ea u.ents.length v2.ec, .slice v2.ga v2.gn v2.gc, .slice v2.ia v2.im v2.ic], .agg #[.int .i64 h2.region, .int .i64 h2.after, .slice h2.ua h2.units.length h2.uc, .slice h2.sa h2.uses.length h2.sc], .string x1.name] W (RetO (findR t h2 x1.name) W)) := fun W hk => by
                    have := HF3.out W x1.name hk
                    rw [HBEF.out] at this
                    exact this
                  go_region_held3 (fun wx => Kept [] w5 wx ∧ wx.cell? ⟨B, 0, none⟩ = some (.slice v.ta t.types.length v.tc) ∧ wx.cell? ⟨B, 1, none⟩ = some (.slice v.sa t.subs.length v.sc) ∧ wx.cell? ⟨B, 2, none⟩ = some (.slice v.ea t.ents.length v.ec) ∧ wx.cell? ⟨B, 3, none⟩ = some (.slice v.ga v.gn v.gc) ∧ wx.cell? ⟨B, 4, none⟩ = some (.slice v.ia v.im v.ic) ∧ wx.cell? ⟨B1, 0, none⟩ = some (.int .i64 h2.region) ∧ wx.cell? ⟨B1, 1, none⟩ = some (.int .i64 h2.after) ∧ wx.cell? ⟨B1, 2, none⟩ = some (.slice h2.ua h2.units.length h2.uc) ∧ wx.cell? ⟨B1, 3, none⟩ = some (.slice h2.sa h2.uses.length h2.sc) ∧ wx.cell? ⟨UB, 0, none⟩ = some (.slice v2.ta u.types.length v2.tc) ∧ wx.cell? ⟨UB, 1, none⟩ = some (.slice v2.sa u.subs.length v2.sc) ∧ wx.cell? ⟨UB, 2, none⟩ = some (.slice v2.ea u.ents.length v2.ec) ∧ wx.cell? ⟨UB, 3, none⟩ = some (.slice v2.ga v2.gn v2.gc) ∧ wx.cell? ⟨UB, 4, none⟩ = some (.slice v2.ia v2.im v2.ic) ∧ wx.cell? ⟨NB, 0, none⟩ = some (.int .i64 h2.region) ∧ wx.cell? ⟨NB, 1, none⟩ = some (.int .i64 ((t.ents.length : Int) + 1)) ∧ wx.cell? ⟨NB, 2, none⟩ = some (.slice h2.ua h2.units.length h2.uc) ∧ wx.cell? ⟨NB, 3, none⟩ = some (.slice h2.sa h2.uses.length h2.sc) ∧ wx.cell? ⟨B2, 1, none⟩ = some (.string x1.name))
                    (first | exact HD.out _ HKb3.out | exact HD.out _ HKb2.out | exact HD.out _ HKb1.out | exact HD.out _ (HK6.out.trans (Kept.drew _ _)) | exact HD.out _ HK6.out)
                    (first
                      | (fail_if_success guard_hyp HKb1
                         go_at_call 16
                         have hkx := (‹Kept [] w5 _ ∧ _›).1
                         refine (HC3.out _ hkx).mono ?_
                         rintro e xa1 ⟨va1, rfl, ho1, hk1⟩
                         obtain ⟨Ab1, cb1, rfl⟩ := own_shape ho1
                         have HIb1 := Lib.hid ((IntsC.of_owns ho1).at_)
                         have HKb1 := Lib.hid (hkx.trans hk1)
                         clear hkx ho1 hk1)
                      | (guard_hyp HKb1
                         go_at_call 16
                         have hkx := (‹Kept [] w5 _ ∧ _›).1
                         refine (HF2.out _ x1.name hkx).mono ?_
                         rintro e xa2 ⟨va2, rfl, ho1, hk1⟩
                         obtain ⟨Ab2, cb2, rfl⟩ := own_shape ho1
                         have HIb2 := Lib.hid ((IntsC.of_owns ho1).at_)
                         have HJb1 := Lib.hid (HIb1.out.2.1.kept hk1)
                         have HKb2 := Lib.hid (hkx.trans hk1)
                         clear hkx ho1 hk1)
                      | (go_at_call 21
                         have hkx := (‹Kept [] w5 _ ∧ _›).1
                         refine (same_any _ Ab1 Ab2 cb1 cb2 (findR t h2 x1.name) (findR t h2 x1.name) HIb1.out.2.2.1 HIb1.out.2.2.2.1 HJb1.out HIb2.out.2.2.1 HIb2.out.2.2.2.1 HIb2.out.2.1).mono ?_
                         rintro e xa3 ⟨rfl, hk1⟩
                         rw [sameI_self]
                         have HKb3 := Lib.hid (hkx.trans hk1)
                         clear hkx hk1))
                  go_wp2_with fail
                  go_meet
                  exact ⟨rfl, HKb3.out⟩
                case rest =>
                  obtain ⟨rfl, hkc⟩ := hcut
                  obtain ⟨w7, rfl⟩ : ∃ w7 : World, w7 = wc := ⟨_, rfl⟩
                  have HK7 := Lib.hid hkc
                  clear hkc HK6 HF3 HBEF
                  have HA := Lib.hid (HAD.out hem)
                  clear hem HAD
                  obtain ⟨hk, d0, d1, d2, d3, d4, u0, u1, u2, u3, e0, e1, e2, e3, e4, n0, n1, n2, n3, x1c⟩ := HD.out _ HK7.out
                  clear hk
                  go_upto_region 27 with (go_at_call 16; refine (HF1.out _ x1.name HK7.out).mono ?_; rintro e w8 ⟨v8, rfl, ho8, hk8⟩; obtain ⟨A8, c8, rfl⟩ := own_shape ho8; have HI8 := Lib.hid ((IntsC.of_owns ho8).at_); have HK8 := Lib.hid (HK7.out.trans hk8); clear ho8 hk8)
                  clear d0 d1 d2 d3 d4 u0 u1 u2 u3 e0 e1 e2 e3 e4 n0 n1 n2 n3 x1c
                  obtain ⟨hk, d0, d1, d2, d3, d4, u0, u1, u2, u3, e0, e1, e2, e3, e4, n0, n1, n2, n3, x1c⟩ := HD.out _ HK8.out
                  clear hk
                  go_upto_region 30 with (fail)
                  refine wp_gen' ?_
                  intro w9 hw9
                  have HK9 : Hid (Kept [] w8 w9) := by rw [Hid, hw9]; exact Kept.alloc _ _ _
                  have HPB : Hid (WhBox w9 w8.heap.size (plainH h2)) := by
                    have hw := (HNB.out.kept (HK8.out.trans HK9.out)).wh
                    exact ⟨by rw [hw9]; exact heap_alloc_new _ _, hw.u, hw.u1, hw.u2, .inl rfl, Nat.le_refl _, by show 0 ≤ _; omega⟩
                  generalize w8.heap.size = PB at *
                  clear hw9 d0 d1 d2 d3 d4 u0 u1 u2 u3 e0 e1 e2 e3 e4 n0 n1 n2 n3 x1c
                  have HK59 : Hid (Kept [] w5 w9) := HK8.out.trans HK9.out
                  have HI9 : Hid (IntsIn w9 A8 (findR u (nextH h2 t.ents.length) x1.name)) := HI8.out.2.1.kept HK9.out
                  have HC8 : Hid ((findR u (nextH h2 t.ents.length) x1.name).length ≤ c8 ∧ c8 ≤ 9223372036854775807) := ⟨HI8.out.2.2.1, HI8.out.2.2.2.1⟩
                  have HT9 : Hid (TabIn w9 v t) := HTW.out.kept (HKW5.out.trans HK59.out)
                  have HC16 := Lib.hid (find_at w9 v t (plainH h2) x1.name HT9.out HPB.out.wh (by have := HLE.out; omega) (by show 0 ≤ _; omega) HWT.out)
                  unfold TabV.cells WhV.cells plainH at HC16
                  have HPLN : Hid (∀ a, a ∈ findR t (plainH h2) x1.name → homI u a (t.ents.length : Int) = false → hasI (findR u (nextH h2 t.ents.length) x1.name) a = true) := fun a ha hh => by
                    rw [HUE.out] at hh ⊢
                    exact inner_still HA.out HPL.out.2.1 ha hh
                  have HCLN : Hid (∀ a, a ∈ findR u (nextH h2 t.ents.length) x1.name → a ≠ (t.ents.length : Int) → homI u a (t.ents.length : Int) = false) := fun a ha hne => by
                    rw [HUE.out] at ha ⊢
                    exact inner_clean HA.out ha hne
                  have HFND : Hid (hasI (findR u (nextH h2 t.ents.length) x1.name) (t.ents.length : Int) = true) := by
                    rw [Hid, HUE.out]
                    exact inner_found HA.out
                  have HDL : Hid ((findR t (plainH h2) x1.name).length ≤ 14520) := find_len hle _ _
                  obtain ⟨hk, d0, d1, d2, d3, d4, u0, u1, u2, u3, e0, e1, e2, e3, e4, n0, n1, n2, n3, x1c⟩ := HD.out _ HK59.out
                  clear hk
                  obtain ⟨q0, q1, q2, q3⟩ := HPB.out.cells
                  unfold plainH at q0 q1 q2 q3
                  go_upto_region 31 with (go_at_call 16; refine HC16.out.mono ?_; rintro e w10 ⟨v10, rfl, ho10, hk10⟩; obtain ⟨A10, c10, rfl⟩ := own_shape ho10; have HI10 := Lib.hid ((IntsC.of_owns ho10).at_); have HK10 := Lib.hid hk10; clear ho10 hk10)
                  clear d0 d1 d2 d3 d4 u0 u1 u2 u3 e0 e1 e2 e3 e4 n0 n1 n2 n3 x1c q0 q1 q2 q3 HC16 HF1 HF2 HT9 HPB HI8 HK8 HK9
                  have HIL : Hid (IntsIn w10 A8 (findR u (nextH h2 t.ents.length) x1.name)) := HI9.out.kept HK10.out
                  have HKA : Hid (Kept [] w5 w10) := HK59.out.trans HK10.out
                  have HID : Hid (IntsIn w10 A10 (findR t (plainH h2) x1.name)) := HI10.out.2.1
                  have HCD : Hid ((findR t (plainH h2) x1.name).length ≤ c10 ∧ c10 ≤ 9223372036854775807) := ⟨HI10.out.2.2.1, HI10.out.2.2.2.1⟩
                  clear HI9 HI10 HK59 HK10 HA
                  have hpe : findR t { region := h2.region, after := h2.after, ua := h2.ua, uc := h2.uc, units := h2.units, sa := none, sc := 0, uses := [] } x1.name = findR t (plainH h2) x1.name := rfl
                  rw [hpe]
                  clear hpe
                  generalize findR u (nextH h2 t.ents.length) x1.name = L at *
                  generalize findR t (plainH h2) x1.name = D at *
                  have hl8 : L.length ≤ c8 := HC8.out.1
                  have hm8 : c8 ≤ 9223372036854775807 := HC8.out.2
                  have hld : D.length ≤ c10 := HCD.out.1
                  have hmd : c10 ≤ 9223372036854775807 := HCD.out.2
                  go_wp2_with fail
                  go_loopw [142] (fun i wr => ∃ k : Nat, k ≤ L.length ∧ i = .int .i64 k ∧ Kept [] w10 wr) (fun i _ => L.length - (intOf i).toNat)
                  case atStart => exact ⟨0, Nat.zero_le _, rfl, Kept.refl _ _⟩
                  case round =>
                    obtain ⟨k, hk, rfl, hkr⟩ := hrel
                    have HKR := Lib.hid hkr
                    clear hkr
                    obtain ⟨wo, rfl⟩ : ∃ wo : World, wo = wr := ⟨_, rfl⟩
                    by_cases hlt : k < L.length
                    · obtain ⟨a, ha⟩ : ∃ a, L[k]? = some a := ⟨_, List.getElem?_eq_getElem hlt⟩
                      rcases HIL.out with z0 | ⟨b, o, rfl, hcx⟩
                      · rw [z0] at hlt; simp at hlt
                      · have qx := HKR.out.cell (hcx k a ha) (by simp)
                        have HMA := Lib.hid (List.mem_of_getElem? ha)
                        obtain ⟨hk, d0, d1, d2, d3, d4, u0, u1, u2, u3, e0, e1, e2, e3, e4, n0, n1, n2, n3, x1c⟩ := HD.out _ (HKA.out.trans HKR.out)
                        clear hk d0 d1 d2 d3 d4 u0 u1 u2 u3 n0 n1 n2 n3 x1c hcx ha
                        cases hne : (a != (t.ents.length : Int))
                        · go_wp2_with fail
                          go_roundw
                          case rel => exact ⟨k + 1, by omega, by go_num, HKR.out⟩
                          case measure => simp [intOf]; omega
                        · have HC19 := Lib.hid (HF19.out wo a (t.ents.length : Int) (HKA.out.trans HKR.out))
                          rw [HCLN.out a HMA.out (by simpa using hne)] at HC19
                          go_wp2_with (go_at_call 19; refine HC19.out.mono ?_; rintro e wq ⟨rfl, hkq⟩; have HKQ := Lib.hid (HKR.out.trans hkq); clear hkq)
                          go_roundw
                          case rel => exact ⟨k + 1, by omega, by go_num, HKQ.out⟩
                          case measure => simp [intOf]; omega
                    · obtain ⟨wv, rfl⟩ : ∃ wv : World, wv = wo := ⟨_, rfl⟩
                      have HKV : Hid (Kept [] w5 wv) := HKA.out.trans HKR.out
                      have HIV : Hid (IntsIn wv A10 D) := HID.out.kept HKR.out
                      have HIM : Hid (IntsIn wv A8 L) := HIL.out.kept HKR.out
                      go_wp2_with fail
                      clear hlt hk HKR HID HIL HKA
                      go_loopw [17, 158] (fun l i wr => ∃ k : Nat, k ≤ D.length ∧ i = .int .i64 k ∧ wr.ownsRow wv.heap.size 3 1 l ((D.take k).filter (notB u t.ents.length)).length (((D.take k).filter (notB u t.ents.length)).map (Value.int .i64)) ∧ Kept [] wv wr) (fun _ i _ => D.length - (intOf i).toNat)
                      case atStart => exact ⟨0, Nat.zero_le _, rfl, World.ownsRow_nil _ _ _ _, Kept.refl _ _⟩
                      case round =>
                        obtain ⟨k, hk, rfl, ho, hkr⟩ := hrel
                        obtain ⟨A17, c17, rfl⟩ := own_shape ho
                        have HO := Lib.hid ho
                        have HK := Lib.hid hkr
                        clear ho hkr
                        obtain ⟨wo, rfl⟩ : ∃ wo : World, wo = wr := ⟨_, rfl⟩
                        by_cases hlt : k < D.length
                        · obtain ⟨a, ha⟩ : ∃ a, D[k]? = some a := ⟨_, List.getElem?_eq_getElem hlt⟩
                          have HS : Hid ((D.take (k + 1)).filter (notB u t.ents.length) = (D.take k).filter (notB u t.ents.length) ++ (if notB u t.ents.length a then [a] else [])) := filter_take ha
                          rcases HIV.out with z0 | ⟨b, o, rfl, hcx⟩
                          · rw [z0] at hlt; simp at hlt
                          · have qx := HK.out.cell (hcx k a ha) (by simp)
                            have hfl : ((D.take k).filter (notB u t.ents.length)).length ≤ 14520 := Nat.le_trans (List.length_filter_le _ _) (Nat.le_trans (by simp; omega) HDL.out)
                            obtain ⟨hk', d0, d1, d2, d3, d4, u0, u1, u2, u3, e0, e1, e2, e3, e4, n0, n1, n2, n3, x1c⟩ := HD.out _ (HKV.out.trans HK.out)
                            clear hk' d0 d1 d2 d3 d4 u0 u1 u2 u3 n0 n1 n2 n3 x1c hcx ha
                            have HC19 := Lib.hid (HF19.out wo a (t.ents.length : Int) (HKV.out.trans HK.out))
                            cases hb : homI u a (t.ents.length : Int)
                            · rw [hb] at HC19
                              have HS2 : Hid ((D.take (k + 1)).filter (notB u t.ents.length) = (D.take k).filter (notB u t.ents.length) ++ [a]) := by rw [Hid, HS.out, notB, hb]; rfl
                              clear HS hb
                              generalize (D.take k).filter (notB u t.ents.length) = rs at *
                              have hA : rs.length + 1 ≤ maxLen := by unfold maxLen; omega
                              have hB : (rs.length + 1) * 8 ≤ 140737488355328 := by omega
                              go_wp2_with (first
                                | (go_at_call 19
                                   refine HC19.out.mono ?_
                                   rintro e wq ⟨rfl, hkq⟩
                                   have HKQ := Lib.hid (HK.out.trans hkq)
                                   have HOQ := Lib.hid (own_keep HO.out hkq (by simp))
                                   have hC : Hid (wv.heap.size ≤ (wq.alloc (.cells #[.int .i64 a] 3)).heap.size) := by have := HKQ.out.size; simp [Hid]; omega
                                   clear hkq)
                                | (at_builtin
                                   refine wpList_append_own _ rfl _ _ 29 rfl wv.heap.size 3 i0 (.int .i64 0) 1 8 Try.underlying29 hi hz0 hz1 hz2 rfl (by decide) (.slice A17 rs.length c17) rs.length (rs.map (Value.int .i64)) rfl (HOQ.out.alloc _) ⟨wq.heap.size, 0, none⟩ 1 1 [.int .i64 a] rfl rfl (cell_one_new _ _ _) (one_int _ _) hA hB hC.out ?_
                                   intro vb wb hob hgb _
                                   have HOB := Lib.hid hob
                                   have HKB := Lib.hid ((HKQ.out.trans (Kept.alloc _ _ _)).grown hgb (fun q hq => own_at HOQ.out q hq))
                                   clear hob hgb))
                              go_roundw
                              case rel => exact ⟨k + 1, by omega, by go_num, by rw [HS2.out]; simpa using HOB.out, HKB.out⟩
                              case measure => simp [intOf]; omega
                            · rw [hb] at HC19
                              have HS2 : Hid ((D.take (k + 1)).filter (notB u t.ents.length) = (D.take k).filter (notB u t.ents.length)) := by rw [Hid, HS.out, notB, hb]; simp
                              go_wp2_with (go_at_call 19; refine HC19.out.mono ?_; rintro e wq ⟨rfl, hkq⟩; have HKQ := Lib.hid (HK.out.trans hkq); have HOQ := Lib.hid (own_keep HO.out hkq (by simp)); clear hkq)
                              go_roundw
                              case rel => exact ⟨k + 1, by omega, by go_num, by rw [HS2.out]; exact HOQ.out, HKQ.out⟩
                              case measure => simp [intOf]; omega
                        · obtain rfl : k = D.length := by omega
                          have HO2 : Hid (wo.ownsRow wv.heap.size 3 1 (.slice A17 (D.filter (notB u t.ents.length)).length c17) (D.filter (notB u t.ents.length)).length ((D.filter (notB u t.ents.length)).map (Value.int .i64))) := by
                            have h := HO.out
                            rw [List.take_length] at h
                            exact h
                          rw [List.take_length]
                          clear HO
                          have HWL : Hid (∀ a, a ∈ D.filter (notB u t.ents.length) → hasI L a = true) := fun a ha => by
                            obtain ⟨h1, h2⟩ := List.mem_filter.1 ha
                            exact HPLN.out a h1 (by simpa [notB] using h2)
                          generalize D.filter (notB u t.ents.length) = W at *
                          obtain ⟨_, hiw, hw1, hw2, _⟩ := (IntsC.of_owns HO2.out).at_
                          have HIW := Lib.hid hiw
                          have HKY : Hid (Kept [] wv wo) := HK.out
                          have HIY : Hid (IntsIn wo A8 L) := HIM.out.kept HK.out
                          clear hiw HO2
                          go_wp2_with fail
                          clear hlt hk HK HIV HIM HPLN HCLN HDL
                          go_loopw [174] (fun i wr => ∃ k : Nat, k ≤ W.length ∧ i = .int .i64 k ∧ Kept [] wo wr) (fun i _ => W.length - (intOf i).toNat)
                          case atStart => exact ⟨0, Nat.zero_le _, rfl, Kept.refl _ _⟩
                          case round =>
                            obtain ⟨k, hk, rfl, hkr⟩ := hrel
                            have HKR := Lib.hid hkr
                            clear hkr
                            obtain ⟨wp, rfl⟩ : ∃ wp : World, wp = wr := ⟨_, rfl⟩
                            by_cases hlt : k < W.length
                            · obtain ⟨a, ha⟩ : ∃ a, W[k]? = some a := ⟨_, List.getElem?_eq_getElem hlt⟩
                              rcases HIW.out with z0 | ⟨b, o, rfl, hcx⟩
                              · rw [z0] at hlt; simp at hlt
                              · have qx := HKR.out.cell (hcx k a ha) (by simp)
                                have HC15 := Lib.hid (in_any wp A8 c8 L a hl8 hm8 (HIY.out.kept HKR.out))
                                rw [HWL.out a (List.mem_of_getElem? ha)] at HC15
                                clear hcx ha
                                go_wp2_with (go_at_call 15; refine HC15.out.mono ?_; rintro e wq ⟨rfl, hkq⟩; have HKQ := Lib.hid (HKR.out.trans hkq); clear hkq)
                                go_roundw
                                case rel => exact ⟨k + 1, by omega, by go_num, HKQ.out⟩
                                case measure => simp [intOf]; omega
                            · have HC15 := Lib.hid (in_any wp A8 c8 L (t.ents.length : Int) hl8 hm8 (HIY.out.kept HKR.out))
                              rw [HFND.out] at HC15
                              go_wp2_with (first
                                | (go_at_call 15; refine HC15.out.mono ?_; rintro e wq ⟨rfl, hkq⟩; have HKQ := Lib.hid (HKR.out.trans hkq); clear hkq)
                                | (go_at_call 14; refine (works_any _).mono ?_; rintro e wz ⟨rfl, hkz⟩; have HKZ := Lib.hid hkz; clear hkz))
                              go_ret
                              exact ⟨rfl, HKW5.out.trans (HKV.out.trans (HKY.out.trans (HKQ.out.trans HKZ.out)))⟩
              · have HC1 : Hid (∀ W, Kept [] w5 W → Calls Try.prog 16 #[.agg #[.slice v2.ta u.types.length v2.tc, .slice v2.sa u.subs.length v2.sc, .slice v2.ea u.ents.length v2.ec, .slice v2.ga v2.gn v2.gc, .slice v2.ia v2.im v2.ic], .agg #[.int .i64 h2.region, .int .i64 ((t.ents.length : Int) + 1), .slice h2.ua h2.units.length h2.uc, .slice h2.sa h2.uses.length h2.sc], .string ⟨#[]⟩] W (RetO [] W)) := fun W hk => by
                  have := HF1.out W ⟨#[]⟩ hk
                  rw [find_empty (by kernel_rfl)] at this
                  exact this
                go_wp2_with (first
                  | (go_at_call 16
                     refine (HC1.out _ HK6.out).mono ?_
                     rintro e w7 ⟨v7, rfl, ho7, hk7⟩
                     obtain ⟨A7, c7, rfl⟩ : ∃ A c, v7 = .slice A 0 c := own_shape ho7
                     have HK7 := Lib.hid (HK6.out.trans hk7)
                     clear ho7 hk7)
                  | (go_at_call 14
                     refine (works_any _).mono ?_
                     rintro e w8 ⟨rfl, hk8⟩
                     have HK8 := Lib.hid hk8
                     clear hk8))
                go_ret
                exact ⟨rfl, HKW5.out.trans (HK7.out.trans HK8.out)⟩
end Go.Proofs.Ytlgcboaojdhneaa
