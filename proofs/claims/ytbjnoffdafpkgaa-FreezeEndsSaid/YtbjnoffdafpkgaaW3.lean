/- The law FreezeAgain, walked. -/
import Derived.Test.YtbjnoffdafpkgaaW2
import Derived.Test.YtbjnoffdafpkgaaQ2
namespace Go.Proofs.Ytbjnoffdafpkgaa
open Go.RowKit

theorem ev_info : (Try.prog.info? 45).map (fun i => (i.zero, i.size, i.bytes)) = some (some (.agg #[.int .u8 0, .int .i64 0, .int .i64 0]), 3, 24) := by kernel_rfl

/-- The cells of a list of events. -/
def evAll (l : List EvV) : List Value := (l.map EvV.cells).flatten
theorem evAll_len (l : List EvV) : (evAll l).length = l.length * 3 := by
  induction l with
  | nil => rfl
  | cons a l ih =>
    have : evAll (a :: l) = a.cells ++ evAll l := by simp [evAll]
    rw [this, List.length_append, ih, List.length_cons]
    simp only [EvV.cells, List.length_cons, List.length_nil]
    omega
theorem evAll_get (l : List EvV) (j : Nat) (u : Value) (h : (evAll l)[j]? = some u) : ∃ x, l[j / 3]? = some x ∧ x.cells[j % 3]? = some u := by
  induction l generalizing j with
  | nil => simp [evAll] at h
  | cons a l ih =>
    have e : evAll (a :: l) = a.cells ++ evAll l := by simp [evAll]
    have hl : a.cells.length = 3 := rfl
    rw [e] at h
    by_cases hj : j < 3
    · rw [List.getElem?_append_left (by omega)] at h
      refine ⟨a, ?_, ?_⟩
      · rw [Nat.div_eq_of_lt hj]; rfl
      · rw [Nat.mod_eq_of_lt hj]; exact h
    · rw [List.getElem?_append_right (by omega), hl] at h
      obtain ⟨x, h1, h2⟩ := ih _ h
      refine ⟨x, ?_, ?_⟩
      · have : j / 3 = (j - 3) / 3 + 1 := by omega
        rw [this]; exact h1
      · have : j % 3 = (j - 3) % 3 := by omega
        rw [this]; exact h2
theorem evAll_at (l : List EvV) {j i : Nat} {x : EvV} {u : Value} (hx : l[j]? = some x) (hu : x.cells[i]? = some u) : (evAll l)[j * 3 + i]? = some u := by
  have hi : i < 3 := by
    have := (List.getElem?_eq_some_iff.1 hu).1
    simpa [EvV.cells] using this
  have hj := (List.getElem?_eq_some_iff.1 hx).1
  have hlt : j * 3 + i < (evAll l).length := by rw [evAll_len]; omega
  obtain ⟨y, h1, h2⟩ := evAll_get l (j * 3 + i) _ (List.getElem?_eq_getElem hlt)
  rw [List.getElem?_eq_getElem hlt, ← h2]
  have e1 : (j * 3 + i) / 3 = j := by omega
  have e2 : (j * 3 + i) % 3 = i := by omega
  rw [e1, hx] at h1
  injection h1 with h1
  subst h1
  rw [e2, hu]
theorem evAll_one (l : List EvV) : ∀ u, u ∈ evAll l → u.oneCell' = true := by
  intro u hu
  obtain ⟨j, hj⟩ := List.mem_iff_getElem?.1 hu
  obtain ⟨x, _, h2⟩ := evAll_get l j u hj
  have := List.mem_of_getElem? h2
  simp only [EvV.cells, List.mem_cons, List.not_mem_nil, or_false] at this
  rcases this with rfl | rfl | rfl <;> rfl
theorem evAll_app (a b : List EvV) : evAll (a ++ b) = evAll a ++ evAll b := by simp [evAll]
theorem EvsIn.src {w : World} {a : Option Addr} {l : List EvV} (h : EvsIn w a l) : SrcAt w 3 a l.length (evAll l) := by
  refine ⟨evAll_len l, fun hp => ?_⟩
  rcases h with rfl | ⟨b, off, rfl, hc⟩
  · simp at hp
  · refine ⟨_, rfl, fun j u hu => ?_⟩
    obtain ⟨x, h1, h2⟩ := evAll_get l j u hu
    rw [Addr.add_mid]
    have := hc (j / 3) x h1 (j % 3) u h2
    rw [show off + j = off + j / 3 * 3 + j % 3 by omega]
    exact this
theorem ev_own {w : World} {base : Nat} {v : Value} {l : List EvV} (h : w.ownsRow base 45 3 v l.length (evAll l)) : ∃ A c, v = .slice A l.length c ∧ EvsIn w A l ∧ l.length ≤ c ∧ c ≤ 9223372036854775807 := by
  rcases h.2 with ⟨rfl, hn⟩ | ⟨g, cap, cur, rfl, hb, hg, hcap, hmax, _⟩
  · exact ⟨none, 0, by rw [hn], .inl (List.eq_nil_of_length_eq_zero hn), by omega, by omega⟩
  · refine ⟨_, cap, rfl, .inr ⟨g, 0, rfl, fun j x hx i u hu => ?_⟩, hcap, by unfold maxLen at hmax; omega⟩
    have := h.cells (g := g) rfl (j * 3 + i) u (evAll_at l hx hu)
    rwa [Addr.add_mid, ← Nat.add_assoc] at this
theorem ev_new3 (w : World) (x : EvV) : SrcAt (w.alloc (.cells #[.int .u8 x.kind, .int .i64 x.ty, .int .i64 x.num] 45)) 3 (some ⟨w.heap.size, 0, none⟩) 1 x.cells := by
  refine ⟨rfl, fun _ => ⟨_, rfl, fun j u hu => ?_⟩⟩
  rw [Addr.add_mid, Nat.zero_add, cell_of_row _ _ _ _ _ _ (heap_alloc_new _ _)]
  simpa [EvV.cells] using hu
theorem ev_one (x : EvV) : ∀ u, u ∈ x.cells → u.oneCell' = true := by
  intro u hu
  simp only [EvV.cells, List.mem_cons, List.not_mem_nil, or_false] at hu
  rcases hu with rfl | rfl | rfl <;> rfl
theorem ev_end {w : World} {B : Nat} {v : Value} {l : List EvV} {x : EvV} (h : w.ownsRow B 45 3 v (0 + l.length + 1) ([] ++ evAll l ++ x.cells)) : ∃ A c f, f = l ++ [x] ∧ v = .slice A f.length c ∧ EvsIn w A f ∧ f.length ≤ c ∧ c ≤ 9223372036854775807 := by
  have h' : w.ownsRow B 45 3 v (l ++ [x]).length (evAll (l ++ [x])) := by
    rw [evAll_app, List.length_append]
    have : evAll [x] = x.cells := by simp [evAll]
    rw [this]
    simpa using h
  obtain ⟨A, c, h1, h2, h3, h4⟩ := ev_own h'
  exact ⟨A, c, _, rfl, h1, h2, h3, h4⟩

set_option maxRecDepth 100000 in
set_option maxHeartbeats 8000000 in
theorem again_any (v : TabV) (t : Tab) (a : Option Addr) (c : Nat) (l : List EvV) (ty : Int) (w : World) (hE : GEnv w v t a c l) (hty : (Lit.int .i64 ty).wf = true) :
    Calls Try.prog 6 #[.agg (v.cells t), .slice a l.length c, .int .i64 ty] w (RetB true w) := by
  have HE := Lib.hid hE
  have HTY := Lib.hid hty
  have hlen := hE.len
  have hcap := hE.cap
  clear hE hty
  cases hg : greatB t l.length
  · obtain ⟨hs, h40, h60⟩ := small_of_great hg
    have HG := Lib.hid hg
    have HS := Lib.hid hs
    clear hg hs
    go_enter Try.func6, Try.ntmps6
    unfold TabV.cells
    go_upto_region 1 with (fail)
    refine wp_gen ?_
    intro w1 hw1
    have hk1 : Kept [] w w1 := by rw [hw1]; exact Kept.alloc _ _ _
    have HTB : Hid (TBox v t w.heap.size w1) := TBox.of_block (by rw [hw1]; exact heap_alloc_new _ _) (HE.out.tab.kept (hk1.toBelow (Nat.le_refl _) (by simp)))
    have HK1 := Lib.hid hk1
    clear hk1 hw1
    obtain ⟨c0, c1, c2, c3, c4, _⟩ := HTB.out
    go_wp2_with fail
    refine (great_any v t a c l.length w1 HTB.out.tab (by omega) HE.out.c47).mono ?_
    rintro e w2 ⟨rfl, hk2⟩
    rw [HG.out]
    have HK2 := Lib.hid (HK1.out.trans hk2)
    have HTB2 := Lib.hid (HTB.out.kept hk2)
    clear hk2 c0 c1 c2 c3 c4 HTB
    obtain ⟨c0, c1, c2, c3, c4, _⟩ := HTB2.out
    go_wp2_with fail
    refine (refCheck_any w2 v t a c l HTB2.out.tab HS.out (by omega) (HE.out.kept HK2.out).evs (by omega)).mono ?_
    rintro e w3 ⟨rfl, hk3⟩
    have HK3 := Lib.hid (HK2.out.trans hk3)
    have HTB3 := Lib.hid (HTB2.out.kept hk3)
    clear hk3 c0 c1 c2 c3 c4 HTB2
    generalize hq : checkR t l = q
    have HQ := Lib.hid hq
    clear hq
    obtain ⟨q1, q2⟩ := q
    dsimp only
    obtain ⟨c0, c1, c2, c3, c4, _⟩ := HTB3.out
    go_wp2_with fail
    refine (refFrozen_any w3 v t a c l HTB3.out.tab HS.out (by omega) (HE.out.kept HK3.out).evs (by omega)).mono ?_
    rintro e w4 ⟨u9, rfl, hi4, hk4⟩
    have HK4 := Lib.hid (HK3.out.trans hk4)
    have HTB4 := Lib.hid (HTB3.out.kept hk4)
    have HB4 := Lib.hid hi4.ints
    clear hk4 hi4 c0 c1 c2 c3 c4 HTB3
    obtain ⟨c0, c1, c2, c3, c4, _⟩ := HTB4.out
    by_cases h0 : q2 = 0
    · subst h0
      go_wp2_with fail
      refine (in_any w4 _ (frozenR t l) ty HB4.out).mono ?_
      rintro e w5 ⟨rfl, rfl⟩
      cases hin : hasI (frozenR t l) ty
      · go_wp2_with fail
        refine (head_any w4).mono ?_
        rintro e w6 ⟨rfl, hk6⟩
        have HK6 := Lib.hid (HK4.out.trans hk6)
        clear hk6
        go_wp2_with fail
        go_ret
        exact ⟨rfl, HK6.out⟩
      · have HAG := Lib.hid (again_ref (t := t) (l := l) (ty := ty) (by rw [HQ.out]) (has_iff.1 hin))
        clear hin
        obtain ⟨i0, hi, hz0, hz1, hz2⟩ := info_parts ev_info
        have hAm : 0 + l.length ≤ maxLen := by unfold maxLen; omega
        have hBm : (0 + l.length) * 24 ≤ 140737488355328 := by omega
        have hA2m : 0 + l.length + 1 ≤ maxLen := by unfold maxLen; omega
        have hB2m : (0 + l.length + 1) * 24 ≤ 140737488355328 := by omega
        have hCm : w4.heap.size ≤ (w4.alloc (.cells #[] 45)).heap.size := by simp
        have HMDm : Hid ((w4.alloc (.cells #[] 45)).ownsRow w4.heap.size 45 3 (.slice (some ⟨w4.heap.size, 0, none⟩) 0 0) 0 []) := World.ownsRow_made w4 #[] 0 (Nat.le_refl _) (Nat.zero_le _) rfl
        go_upto_region 8 with (first
          | (at_builtin; refine wpList_append_src _ rfl (.tmp 38) (.tmp 39) 29 rfl w4.heap.size 45 i0 (.agg #[.int .u8 0, .int .i64 0, .int .i64 0]) 3 24 Try.underlying29 hi hz0 hz1 hz2 rfl (by decide) (.slice (some ⟨w4.heap.size, 0, none⟩) 0 0) 0 [] rfl HMDm.out _ _ _ (evAll l) rfl ((HE.out.kept HK4.out).evs.kept (Kept.alloc [] w4 (Obj.cells #[] 45))).src (evAll_one _) hAm hBm hCm ?_; intro vam wam howna hga hata; have HOAm := Lib.hid howna; have HBAm := Lib.hid (((Below.refl w4.heap.size w4).alloc (Nat.le_refl _) _).grown hga hCm (own_at HMDm.out)); have hCAm : w4.heap.size ≤ (wam.alloc (.cells #[.int .u8 4, .int .i64 ty, .int .i64 0] 45)).heap.size := by (have := HBAm.out.size; simp; omega)
             clear howna hga hata)
          | (at_builtin; refine wpList_append_src _ rfl (.tmp 40) (.tmp 43) 29 rfl w4.heap.size 45 i0 (.agg #[.int .u8 0, .int .i64 0, .int .i64 0]) 3 24 Try.underlying29 hi hz0 hz1 hz2 rfl (by decide) _ _ _ rfl (HOAm.out.alloc _) _ 1 _ (EvV.cells ⟨4, ty, 0⟩) rfl (ev_new3 wam ⟨4, ty, 0⟩) (ev_one _) hA2m hB2m hCAm ?_; intro vbm wbm hownb hgb hatb; have HKBm : Hid (Kept [] w4 wbm) := Kept.of_below ((HBAm.out.alloc HBAm.out.size _).grown hgb hCAm (own_at HOAm.out)); have hevb := ev_end hownb; clear hownb hgb hatb))
        obtain ⟨Am, ccm, fm, hfm, rfl, hevm, hlcm, hcmm⟩ := hevb
        have hflm : fm.length = l.length + 1 := by rw [hfm]; simp
        have hflm' : fm.length ≤ 100 := by omega
        have HFLm := Lib.hid hflm
        have HFm := Lib.hid hfm
        clear hfm hflm
        have HKM := Lib.hid (HK4.out.trans HKBm.out)
        have HTBM := Lib.hid (HTB4.out.kept HKBm.out)
        have HBM := Lib.hid (HB4.out.kept HKBm.out)
        have HEM : Hid (GEnv wbm v t Am ccm fm) := ⟨HTBM.out.tab, hevm, fun x hx => by
          rw [HFm.out] at hx
          rcases List.mem_append.1 hx with hx | hx
          · exact HE.out.wf x hx
          · have e : x = ⟨4, ty, 0⟩ := by simpa using hx
            rw [e]; exact ⟨HTY.out, by rfl⟩, HE.out.c47, hlcm, hcmm⟩
        have HM1 : Hid ((checkR t fm).2 = 0) := by rw [Hid, HFm.out]; exact HAG.out.1
        have HM2 : Hid (frozenR t fm = frozenR t l) := by rw [Hid, HFm.out]; exact HAG.out.2.1
        clear hevm c0 c1 c2 c3 c4
        obtain ⟨c0, c1, c2, c3, c4, _⟩ := HTBM.out
        go_wp2_with fail
        refine (check_ref (v := v) (t := t) (a := Am) (l := fm) HEM.out HS.out h40 (by omega) rfl _).mono ?_
        rintro e w6 ⟨rfl, hk6⟩
        have HK6 := Lib.hid (HKM.out.trans hk6)
        have HTB6 := Lib.hid (HTBM.out.kept hk6)
        have HB6 := Lib.hid (HBM.out.kept hk6)
        have HE6 := Lib.hid (HEM.out.kept hk6)
        clear hk6 c0 c1 c2 c3 c4
        generalize checkR t fm = qm at *
        obtain ⟨qm1, qm2⟩ := qm
        obtain rfl : qm2 = 0 := HM1.out
        clear HM1
        dsimp only
        obtain ⟨c0, c1, c2, c3, c4, _⟩ := HTB6.out
        go_wp2_with fail
        refine (frozen_ref (v := v) (t := t) (a := Am) (l := fm) HE6.out HS.out h40 (by omega) rfl _).mono ?_
        rintro e w7 ⟨u56, rfl, hA7, hb7⟩
        have HK7 := Lib.hid (HK6.out.trans (Kept.of_below hb7))
        have HTB7 := Lib.hid (HTB6.out.kept (Kept.of_below hb7))
        have HB7 := Lib.hid (HB6.out.kept (Kept.of_below hb7))
        have HE7 := Lib.hid (HE6.out.kept (Kept.of_below hb7))
        have HA7 := Lib.hid (IntsAt.of_owns hA7)
        clear hb7 hA7 c0 c1 c2 c3 c4
        rw [HM2.out] at HA7
        go_wp2_with fail
        refine (same_yes _ _ _ (frozenR t l) HA7.out HB7.out).mono ?_
        rintro e w8 ⟨rfl, hk8⟩
        have HK8 := Lib.hid (HK7.out.trans hk8)
        have HTB8 := Lib.hid (HTB7.out.kept hk8)
        have HE8 := Lib.hid (HE7.out.kept hk8)
        clear hk8
        clear hAm hBm hA2m hB2m hCm hCAm HMDm HOAm HBAm HKBm HB4 HBM HB6 HB7 HA7 HTB4 HTBM HTB6 HTB7 HEM HE6 HE7 HKM HK6 HK7 HK4 HK3 HK2 HK1
        have hAn : 0 + fm.length ≤ maxLen := by unfold maxLen; omega
        have hBn : (0 + fm.length) * 24 ≤ 140737488355328 := by omega
        have hA2n : 0 + fm.length + 1 ≤ maxLen := by unfold maxLen; omega
        have hB2n : (0 + fm.length + 1) * 24 ≤ 140737488355328 := by omega
        have hCn : w8.heap.size ≤ (w8.alloc (.cells #[] 45)).heap.size := by simp
        have HMDn : Hid ((w8.alloc (.cells #[] 45)).ownsRow w8.heap.size 45 3 (.slice (some ⟨w8.heap.size, 0, none⟩) 0 0) 0 []) := World.ownsRow_made w8 #[] 0 (Nat.le_refl _) (Nat.zero_le _) rfl
        go_upto_region 12 with (first
          | (at_builtin; refine wpList_append_src _ rfl (.tmp 61) (.tmp 62) 29 rfl w8.heap.size 45 i0 (.agg #[.int .u8 0, .int .i64 0, .int .i64 0]) 3 24 Try.underlying29 hi hz0 hz1 hz2 rfl (by decide) (.slice (some ⟨w8.heap.size, 0, none⟩) 0 0) 0 [] rfl HMDn.out _ _ _ (evAll fm) rfl (HE8.out.evs.kept (Kept.alloc [] w8 (Obj.cells #[] 45))).src (evAll_one _) hAn hBn hCn ?_; intro van wan howna hga hata; have HOAn := Lib.hid howna; have HBAn := Lib.hid (((Below.refl w8.heap.size w8).alloc (Nat.le_refl _) _).grown hga hCn (own_at HMDn.out)); have hCAn : w8.heap.size ≤ (wan.alloc (.cells #[.int .u8 1, .int .i64 ty, .int .i64 0] 45)).heap.size := by (have := HBAn.out.size; simp; omega)
             clear howna hga hata)
          | (at_builtin; refine wpList_append_src _ rfl (.tmp 63) (.tmp 66) 29 rfl w8.heap.size 45 i0 (.agg #[.int .u8 0, .int .i64 0, .int .i64 0]) 3 24 Try.underlying29 hi hz0 hz1 hz2 rfl (by decide) _ _ _ rfl (HOAn.out.alloc _) _ 1 _ (EvV.cells ⟨1, ty, 0⟩) rfl (ev_new3 wan ⟨1, ty, 0⟩) (ev_one _) hA2n hB2n hCAn ?_; intro vbn wbn hownb hgb hatb; have HKBn : Hid (Kept [] w8 wbn) := Kept.of_below ((HBAn.out.alloc HBAn.out.size _).grown hgb hCAn (own_at HOAn.out)); have hevb := ev_end hownb; clear hownb hgb hatb))
        obtain ⟨An, ccn, fn, hfn, rfl, hevn, hlcn, hcmn⟩ := hevb
        have hfln : fn.length = fm.length + 1 := by rw [hfn]; simp
        have hfln' : fn.length ≤ 200 := by omega
        have HFLn := Lib.hid hfln
        have HFn := Lib.hid hfn
        clear hfn hfln
        have HKN := Lib.hid (HK8.out.trans HKBn.out)
        have HTBN := Lib.hid (HTB8.out.kept HKBn.out)
        have HEN : Hid (GEnv wbn v t An ccn fn) := ⟨HTBN.out.tab, hevn, fun x hx => by
          rw [HFn.out] at hx
          rcases List.mem_append.1 hx with hx | hx
          · exact HE8.out.wf x hx
          · have e : x = ⟨1, ty, 0⟩ := by simpa using hx
            rw [e]; exact ⟨HTY.out, by rfl⟩, HE.out.c47, hlcn, hcmn⟩
        have HN1 : Hid (checkR t fn = ((fm.length : Int), 110)) := by rw [Hid, HFn.out, HFm.out]; exact HAG.out.2.2
        clear hevn
        obtain ⟨c0, c1, c2, c3, c4, _⟩ := HTBN.out
        go_wp2_with fail
        refine (check_ref (v := v) (t := t) (a := An) (l := fn) HEN.out HS.out h40 (by omega) rfl _).mono ?_
        rintro e w9 ⟨rfl, hk9⟩
        have HK9 := Lib.hid (HKN.out.trans hk9)
        clear hk9 c0 c1 c2 c3 c4
        rw [HN1.out]
        dsimp only
        go_wp2_with fail
        refine (head_any w9).mono ?_
        rintro e w10 ⟨rfl, hk10⟩
        have HK10 := Lib.hid (HK9.out.trans hk10)
        clear hk10
        go_wp2_with fail
        go_ret
        exact ⟨rfl, HK10.out⟩
    · have hq2 : (q2 != 0) = true := by simpa using h0
      clear h0
      go_wp2_with fail
      refine (head_any w4).mono ?_
      rintro e w6 ⟨rfl, hk6⟩
      have HK6 := Lib.hid (HK4.out.trans hk6)
      clear hk6
      go_wp2_with fail
      go_ret
      exact ⟨rfl, HK6.out⟩
  · have HG := Lib.hid hg
    clear hg
    go_enter Try.func6, Try.ntmps6
    unfold TabV.cells
    go_wp2_with fail
    have hk1 : Kept [] w (w.alloc (Obj.cells #[Value.slice v.ta t.types.length v.tc, Value.slice v.sa t.subs.length v.sc, Value.slice v.ea v.en v.ec, Value.slice v.ga v.gn v.gc, Value.slice v.ia v.im v.ic] 28)) := Kept.alloc _ _ _
    refine (great_any v t a c l.length _ (HE.out.kept hk1).tab (by omega) HE.out.c47).mono ?_
    rintro e w1 ⟨rfl, hk2⟩
    have HK := Lib.hid (hk1.trans hk2)
    clear hk1 hk2
    rw [HG.out]
    go_wp2_with fail
    refine (head_any w1).mono ?_
    rintro e w2 ⟨rfl, hk3⟩
    have HK3 := Lib.hid (HK.out.trans hk3)
    clear hk3
    go_wp2_with fail
    go_ret
    exact ⟨rfl, HK3.out⟩
end Go.Proofs.Ytbjnoffdafpkgaa
