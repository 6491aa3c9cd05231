/- The law FreezeCheck, walked. -/
import Derived.Test.YtbjnoffdafpkgaaR11
namespace Go.Proofs.Ytbjnoffdafpkgaa
open Go.RowKit

theorem same_yes (w : World) (a b : Value) (xs : List Int) (ha : IntsAt w a xs) (hb : IntsAt w b xs) : Calls Try.prog 11 #[a, b] w (RetB true w) := by
  have h := sameInts_any w a b xs xs ha hb
  have e : sameI xs xs = true := by simp [sameI]
  rwa [e] at h

set_option maxRecDepth 100000 in
set_option maxHeartbeats 2000000 in
theorem fcheck_any (v : TabV) (t : Tab) (a : Option Addr) (c : Nat) (l : List EvV) (ty : Int) (w : World) (hE : GEnv w v t a c l) :
    Calls Try.prog 3 #[.agg (v.cells t), .slice a l.length c, .int .i64 ty] w (RetB true w) := by
  have HE := Lib.hid hE
  have hlen := hE.len
  have hcap := hE.cap
  clear hE
  cases hg : greatB t l.length
  · obtain ⟨hs, h40, h60⟩ := small_of_great hg
    have HG := Lib.hid hg
    have HS := Lib.hid hs
    clear hg hs
    go_enter Try.func3, Try.ntmps3
    unfold TabV.cells
    go_upto_region 1 with (fail)
    refine wp_gen ?_
    intro w1 hw1
    have hk1 : Kept [] w w1 := by rw [hw1]; exact Kept.alloc _ _ _
    have HTB : Hid (TBox v t w.heap.size w1) := TBox.of_block (by rw [hw1]; exact heap_alloc_new _ _) (HE.out.tab.kept (hk1.toBelow (Nat.le_refl _) (by simp)))
    have HK1 := Lib.hid hk1
    clear hk1 hw1
    obtain ⟨c0, c1, c2, c3, c4, _⟩ := HTB.out
    go_wp2_with fail
    refine (great_any v t a c l.length w1 HTB.out.tab (by omega) HE.out.c47).mono ?_
    rintro e w2 ⟨rfl, hk2⟩
    rw [HG.out]
    have HK2 := Lib.hid (HK1.out.trans hk2)
    have HTB2 := Lib.hid (HTB.out.kept hk2)
    clear hk2 c0 c1 c2 c3 c4 HTB
    obtain ⟨c0, c1, c2, c3, c4, _⟩ := HTB2.out
    go_wp2_with fail
    refine (check_ref (v := v) (t := t) (a := a) (l := l) (HE.out.kept HK2.out) HS.out h40 (by omega) rfl _).mono ?_
    rintro e w3 ⟨rfl, hk3⟩
    have HK3 := Lib.hid (HK2.out.trans hk3)
    have HTB3 := Lib.hid (HTB2.out.kept hk3)
    clear hk3 c0 c1 c2 c3 c4 HTB2
    obtain ⟨c0, c1, c2, c3, c4, _⟩ := HTB3.out
    go_wp2_with fail
    refine (refCheck_any w3 v t a c l HTB3.out.tab HS.out (by omega) (HE.out.kept HK3.out).evs (by omega)).mono ?_
    rintro e w4 ⟨rfl, hk4⟩
    have HK4 := Lib.hid (HK3.out.trans hk4)
    have HTB4 := Lib.hid (HTB3.out.kept hk4)
    clear hk4 c0 c1 c2 c3 c4 HTB3
    generalize checkR t l = q
    obtain ⟨q1, q2⟩ := q
    dsimp only
    obtain ⟨c0, c1, c2, c3, c4, _⟩ := HTB4.out
    have KP : Hid (∀ wx, Kept [] w4 wx → (wx.cell? ⟨w.heap.size, 0, none⟩ = some (.slice v.ta t.types.length v.tc) ∧ wx.cell? ⟨w.heap.size, 1, none⟩ = some (.slice v.sa t.subs.length v.sc) ∧ wx.cell? ⟨w.heap.size, 2, none⟩ = some (.slice v.ea v.en v.ec) ∧ wx.cell? ⟨w.heap.size, 3, none⟩ = some (.slice v.ga v.gn v.gc) ∧ wx.cell? ⟨w.heap.size, 4, none⟩ = some (.slice v.ia v.im v.ic) ∧ Kept [] w4 wx)) := fun wx h => ⟨h.cell c0 (by simp), h.cell c1 (by simp), h.cell c2 (by simp), h.cell c3 (by simp), h.cell c4 (by simp), h⟩
    go_upto_region 5 with (fail)
    go_region_held3 (fun wx => wx.cell? ⟨w.heap.size, 0, none⟩ = some (.slice v.ta t.types.length v.tc) ∧ wx.cell? ⟨w.heap.size, 1, none⟩ = some (.slice v.sa t.subs.length v.sc) ∧ wx.cell? ⟨w.heap.size, 2, none⟩ = some (.slice v.ea v.en v.ec) ∧ wx.cell? ⟨w.heap.size, 3, none⟩ = some (.slice v.ga v.gn v.gc) ∧ wx.cell? ⟨w.heap.size, 4, none⟩ = some (.slice v.ia v.im v.ic) ∧ Kept [] w4 wx)
      (first | exact KP.out _ HK7.out | exact KP.out _ HK6.out | exact KP.out _ HK5.out | exact KP.out _ (Kept.drew _ _) | exact KP.out _ (Kept.refl _ _))
      (first
        | (go_at_call 12
           have hkx := (‹_ ∧ _ ∧ _ ∧ _ ∧ _ ∧ Kept [] w4 _›).2.2.2.2.2
           refine (frozen_ref (v := v) (t := t) (a := a) (l := l) (HE.out.kept (HK4.out.trans hkx)) HS.out h40 (by omega) rfl _).mono ?_
           rintro e w5 ⟨u38, rfl, hA, hbA⟩
           have HA := Lib.hid (IntsAt.of_owns hA)
           have HK5 := Lib.hid (hkx.trans (Kept.of_below hbA))
           clear hkx hA hbA)
        | (go_at_call 13
           have hkx := (‹_ ∧ _ ∧ _ ∧ _ ∧ _ ∧ Kept [] w4 _›).2.2.2.2.2
           refine (refFrozen_any _ v t a c l (HTB4.out.kept hkx).tab HS.out (by omega) (HE.out.kept (HK4.out.trans hkx)).evs (by omega)).mono ?_
           rintro e w6 ⟨u41, rfl, hB, hk6⟩
           have HA6 := Lib.hid (HA.out.kept hk6)
           have HB6 := Lib.hid hB.ints
           have HK6 := Lib.hid (hkx.trans hk6)
           clear hkx hB hk6)
        | (go_at_call 11
           have hkx := (‹_ ∧ _ ∧ _ ∧ _ ∧ _ ∧ Kept [] w4 _›).2.2.2.2.2
           refine (same_yes _ _ _ (frozenR t l) HA6.out HB6.out).mono ?_
           rintro e w7 ⟨rfl, hk7⟩
           have HK7 := Lib.hid (hkx.trans hk7)
           clear hkx hk7))
    clear HA HA6 HB6 HK5 HK6
    have HPT : Hid (partsW t ty = partsT t ty) := (partsT_eq t ty).symm
    go_upto_region 7 with (fail)
    go_region_held3 (fun wx => wx.cell? ⟨w.heap.size, 0, none⟩ = some (.slice v.ta t.types.length v.tc) ∧ wx.cell? ⟨w.heap.size, 1, none⟩ = some (.slice v.sa t.subs.length v.sc) ∧ wx.cell? ⟨w.heap.size, 2, none⟩ = some (.slice v.ea v.en v.ec) ∧ wx.cell? ⟨w.heap.size, 3, none⟩ = some (.slice v.ga v.gn v.gc) ∧ wx.cell? ⟨w.heap.size, 4, none⟩ = some (.slice v.ia v.im v.ic) ∧ Kept [] w4 wx)
      (first | exact KP.out _ HK11.out | exact KP.out _ HK10.out | exact KP.out _ HK9.out | exact KP.out _ HK8.out | exact KP.out _ (HK7.out.trans (Kept.drew _ _)) | exact KP.out _ HK7.out)
      (first
        | (go_at_call 14
           have hkx := (‹_ ∧ _ ∧ _ ∧ _ ∧ _ ∧ Kept [] w4 _›).2.2.2.2.2
           refine (parts_any _ v t ty (HTB4.out.kept hkx).tab HS.out).mono ?_
           rintro e w8 ⟨u47, rfl, hA, hbA⟩
           have HA := Lib.hid (IntsAt.of_owns hA)
           have HK8 := Lib.hid (hkx.trans (Kept.of_below hbA))
           clear hkx hA hbA)
        | (go_at_call 15
           have hkx := (‹_ ∧ _ ∧ _ ∧ _ ∧ _ ∧ Kept [] w4 _›).2.2.2.2.2
           refine (refParts_any _ v t ty (HTB4.out.kept hkx).tab HS.out).mono ?_
           rintro e w9 ⟨u50, rfl, hB, hk9⟩
           rw [HPT.out] at hB
           have HA9 := Lib.hid (HA.out.kept hk9)
           have HB9 := Lib.hid hB.ints
           have HK9 := Lib.hid (hkx.trans hk9)
           clear hkx hB hk9)
        | (go_at_call 11
           have hkx := (‹_ ∧ _ ∧ _ ∧ _ ∧ _ ∧ Kept [] w4 _›).2.2.2.2.2
           refine (same_yes _ _ _ (partsT t ty) HA9.out HB9.out).mono ?_
           rintro e w10 ⟨rfl, hk10⟩
           have HK10 := Lib.hid (hkx.trans hk10)
           clear hkx hk10)
        | (go_at_call 8
           have hkx := (‹_ ∧ _ ∧ _ ∧ _ ∧ _ ∧ Kept [] w4 _›).2.2.2.2.2
           refine (head_any _).mono ?_
           rintro e w11 ⟨rfl, hk11⟩
           have HK11 := Lib.hid (hkx.trans hk11)
           clear hkx hk11))
    go_wp2_with fail
    go_ret
    exact ⟨rfl, HK4.out.trans HK11.out⟩
  · have HG := Lib.hid hg
    clear hg
    go_enter Try.func3, Try.ntmps3
    unfold TabV.cells
    go_wp2_with fail
    have hk1 : Kept [] w (w.alloc (Obj.cells #[Value.slice v.ta t.types.length v.tc, Value.slice v.sa t.subs.length v.sc, Value.slice v.ea v.en v.ec, Value.slice v.ga v.gn v.gc, Value.slice v.ia v.im v.ic] 28)) := Kept.alloc _ _ _
    refine (great_any v t a c l.length _ (HE.out.kept hk1).tab (by omega) HE.out.c47).mono ?_
    rintro e w1 ⟨rfl, hk2⟩
    have HK := Lib.hid (hk1.trans hk2)
    clear hk1 hk2
    rw [HG.out]
    go_wp2_with fail
    refine (head_any w1).mono ?_
    rintro e w2 ⟨rfl, hk3⟩
    have HK3 := Lib.hid (HK.out.trans hk3)
    clear hk3
    go_wp2_with fail
    go_ret
    exact ⟨rfl, HK3.out⟩
end Go.Proofs.Ytbjnoffdafpkgaa
