/- The law FreezeGrows, walked. -/
import Derived.Test.YtbjnoffdafpkgaaL5
import Derived.Test.YtbjnoffdafpkgaaQ1
import Derived.Deep.RegionHeld3
import Derived.Deep.DeepCutAuto
import Derived.BigQuiet
import Derived.StillTailTactics
namespace Go.Proofs.Ytbjnoffdafpkgaa
open Go.RowKit

/-- What the laws of this package take of a table and of events. -/
structure GEnv (w : World) (v : TabV) (t : Tab) (a : Option Addr) (c : Nat) (l : List EvV) : Prop where
  tab : TabIn w v t
  evs : EvsIn w a l
  wf : ∀ x, x ∈ l → x.wf
  c47 : Comps47 t
  len : l.length ≤ c
  cap : c ≤ 9223372036854775807

theorem GEnv.kept {w w' : World} {v : TabV} {t : Tab} {a : Option Addr} {c : Nat} {l : List EvV} (h : GEnv w v t a c l) (hk : Kept [] w w') : GEnv w' v t a c l :=
  ⟨h.tab.kept (hk.toBelow (Nat.le_refl _) (by simp)), h.evs.kept hk, h.wf, h.c47, h.len, h.cap⟩

theorem le_sumC {t : Tab} {x : TyRow} (h : x ∈ t.types) : x.comps.length ≤ sumC t t.types.length := by
  unfold sumC
  rw [List.take_length]
  have key : ∀ l : List TyRow, x ∈ l → x.comps.length ≤ (l.map (fun x => x.comps.length)).sum := by
    intro l
    induction l with
    | nil => intro h; simp at h
    | cons y l ih =>
      intro h
      rw [List.map_cons, List.sum_cons]
      rcases List.mem_cons.1 h with rfl | h
      · omega
      · have := ih h; omega
  exact key _ h

theorem small_of_great {t : Tab} {n : Nat} (h : greatB t n = false) : Small t ∧ t.types.length ≤ 40 ∧ n ≤ 60 := by
  unfold greatB at h
  simp only [Bool.or_eq_false_iff, decide_eq_false_iff_not] at h
  refine ⟨fun x hx => ?_, by omega, by omega⟩
  have := le_sumC hx
  omega

theorem GEnv.take {w : World} {v : TabV} {t : Tab} {a : Option Addr} {c : Nat} {l : List EvV} (h : GEnv w v t a c l) (k : Nat) : GEnv w v t a c (l.take k) := by
  refine ⟨h.tab, ?_, fun x hx => h.wf x (List.mem_of_mem_take hx), h.c47, Nat.le_trans (by simp; omega) h.len, h.cap⟩
  rcases h.evs with h | ⟨b, off, ha, h⟩
  · exact .inl (by rw [h]; simp)
  · refine .inr ⟨b, off, ha, fun j x hx => h j x ?_⟩
    rw [List.getElem?_take] at hx
    split at hx
    · exact hx
    · cases hx

theorem frozen_ref {v : TabV} {t : Tab} {a : Option Addr} {c n : Nat} {l : List EvV} {w : World} (hE : GEnv w v t a c l) (hs : Small t) (hn : t.types.length ≤ 40) (hl : l.length ≤ 1000) (hk : n = l.length) (c' : Nat) :
    Calls Try.prog 12 #[.agg (v.cells t), .slice a n c'] w (RetInts (frozenR t l) w) := by
  subst hk
  refine (frozen_any v t a c' l w hE.tab hs (by omega) hE.evs (by omega) hE.wf).mono ?_
  rintro e w' ⟨at', err, s, hend, hr⟩
  rw [(ends_ref (by omega) hE.wf hend).2.2] at hr
  exact hr

def RetChk (q : Int × Int) (w : World) (e : Ending) (w' : World) : Prop := e = .returned (.tuple #[.int .i64 q.1, .int .i64 q.2]) ∧ Kept [] w w'

theorem check_ref {v : TabV} {t : Tab} {a : Option Addr} {c n : Nat} {l : List EvV} {w : World} (hE : GEnv w v t a c l) (hs : Small t) (hn : t.types.length ≤ 40) (hl : l.length ≤ 1000) (hk : n = l.length) (c' : Nat) :
    Calls Try.prog 9 #[.agg (v.cells t), .slice a n c'] w (RetChk (checkR t l) w) := by
  subst hk
  refine (check_any v t a c' l w hE.tab hs (by omega) hE.evs (by omega) hE.wf).mono ?_
  rintro e w' ⟨at', err, s, rfl, hk, hend⟩
  have := ends_ref (by omega) hE.wf hend
  rw [this.1, this.2.1]
  exact ⟨rfl, hk⟩

/-- A counter. -/
def UpTo (n : Nat) (i : Value) : Prop := ∃ j : Nat, j ≤ n ∧ i = .int .i64 j

/-- What the two lists of frozen types are. -/
def Cut3 (t : Tab) (l : List EvV) (k : Nat) (w : World) (v7 v8 : Value) (wc : World) : Prop :=
  IntsAt wc v7 (frozenR t (l.take k)) ∧ IntsAt wc v8 (frozenR t l) ∧ Kept [] w wc

theorem IntsAt.kept {w w' : World} {v : Value} {xs : List Int} (h : IntsAt w v xs) (hk : Kept [] w w') : IntsAt w' v xs := by
  rcases h with h | ⟨b, off, c, hv, hm, hc⟩
  · exact .inl h
  · exact .inr ⟨b, off, c, hv, hm, fun j hj => hk.cell (hc j hj) (by simp)⟩

theorem quiet_left {P : Program} {f : FuncId} {args : Array Value} {w : World} {n : Nat} {v : Value}
    (h : Calls P f args (w.drewN n) fun e w' => e = .returned v ∧ w.drewN n = w') : Calls P f args (w.drewN n) fun e w'' => e = .returned v ∧ ∃ m, w'' = w.drewN m :=
  h.mono fun _ _ ⟨he, hm⟩ => ⟨he, n, hm.symm⟩
theorem in_yes (w : World) (v : Value) (xs : List Int) (n : Int) (hv : IntsAt w v xs) (h : hasI xs n = true) :
    Calls Try.prog 16 #[v, .int .i64 n] w fun e w' => e = .returned (.bool true) ∧ w = w' := by
  have := in_any w v xs n hv
  rwa [h] at this
theorem asc_lt {xs : List Int} (h : Asc xs) {i j : Nat} {x y : Int} (hx : xs[i]? = some x) (hy : xs[j]? = some y) (hij : i < j) : x < y := by
  obtain ⟨h1, rfl⟩ := List.getElem?_eq_some_iff.1 hx
  obtain ⟨h2, rfl⟩ := List.getElem?_eq_some_iff.1 hy
  exact (List.pairwise_iff_getElem.1 h) i j h1 h2 hij

set_option maxRecDepth 100000 in
set_option maxHeartbeats 1000000 in
theorem grows_any (v : TabV) (t : Tab) (a : Option Addr) (c : Nat) (l : List EvV) (cut : Int) (w : World) (hE : GEnv w v t a c l) :
    Calls Try.prog 4 #[.agg (v.cells t), .slice a l.length c, .int .i64 cut] w (RetB true w) := by
  have HE := Lib.hid hE
  have hlen := hE.len
  have hcap := hE.cap
  clear hE
  cases hg : greatB t l.length
  · obtain ⟨hs, h40, h60⟩ := small_of_great hg
    have HG := Lib.hid hg
    have HS := Lib.hid hs
    clear hg hs
    by_cases h0 : cut < 0
    · go_enter Try.func4, Try.ntmps4
      unfold TabV.cells
      go_wp2_with fail
      have hk1 : Kept [] w (w.alloc (Obj.cells #[Value.slice v.ta t.types.length v.tc, Value.slice v.sa t.subs.length v.sc, Value.slice v.ea v.en v.ec, Value.slice v.ga v.gn v.gc, Value.slice v.ia v.im v.ic] 28)) := Kept.alloc _ _ _
      refine (great_any v t a c l.length _ (HE.out.kept hk1).tab (by omega) HE.out.c47).mono ?_
      rintro e w1 ⟨rfl, hk2⟩
      have HK := Lib.hid (hk1.trans hk2)
      clear hk1 hk2
      rw [HG.out]
      go_wp2_with fail
      refine (head_any w1).mono ?_
      rintro e w2 ⟨rfl, hk3⟩
      have HK3 := Lib.hid (HK.out.trans hk3)
      clear hk3
      go_wp2_with fail
      go_ret
      exact ⟨rfl, HK3.out⟩
    · by_cases h1 : (l.length : Int) < cut
      · go_enter Try.func4, Try.ntmps4
        unfold TabV.cells
        go_wp2_with fail
        have hk1 : Kept [] w (w.alloc (Obj.cells #[Value.slice v.ta t.types.length v.tc, Value.slice v.sa t.subs.length v.sc, Value.slice v.ea v.en v.ec, Value.slice v.ga v.gn v.gc, Value.slice v.ia v.im v.ic] 28)) := Kept.alloc _ _ _
        refine (great_any v t a c l.length _ (HE.out.kept hk1).tab (by omega) HE.out.c47).mono ?_
        rintro e w1 ⟨rfl, hk2⟩
        have HK := Lib.hid (hk1.trans hk2)
        clear hk1 hk2
        rw [HG.out]
        go_wp2_with fail
        refine (head_any w1).mono ?_
        rintro e w2 ⟨rfl, hk3⟩
        have HK3 := Lib.hid (HK.out.trans hk3)
        clear hk3
        go_wp2_with fail
        go_ret
        exact ⟨rfl, HK3.out⟩
      · obtain ⟨k, rfl⟩ : ∃ k : Nat, cut = k := ⟨cut.toNat, by omega⟩
        have hkl : k ≤ l.length := by omega
        clear h0 h1
        go_enter Try.func4, Try.ntmps4
        unfold TabV.cells
        go_wp2_with fail
        generalize hW1 : (w.alloc (Obj.cells #[Value.slice v.ta t.types.length v.tc, Value.slice v.sa t.subs.length v.sc, Value.slice v.ea v.en v.ec, Value.slice v.ga v.gn v.gc, Value.slice v.ia v.im v.ic] 28)) = w1
        have hk1 : Kept [] w w1 := by rw [← hW1]; exact Kept.alloc _ _ _
        have c0 : w1.cell? ⟨w.heap.size, 0, none⟩ = some (.slice v.ta t.types.length v.tc) := by rw [← hW1]; clear hk1 hW1; go_simp
        have c1 : w1.cell? ⟨w.heap.size, 1, none⟩ = some (.slice v.sa t.subs.length v.sc) := by rw [← hW1]; clear hk1 hW1; go_simp
        have c2 : w1.cell? ⟨w.heap.size, 2, none⟩ = some (.slice v.ea v.en v.ec) := by rw [← hW1]; clear hk1 hW1; go_simp
        have c3 : w1.cell? ⟨w.heap.size, 3, none⟩ = some (.slice v.ga v.gn v.gc) := by rw [← hW1]; clear hk1 hW1; go_simp
        have c4 : w1.cell? ⟨w.heap.size, 4, none⟩ = some (.slice v.ia v.im v.ic) := by rw [← hW1]; clear hk1 hW1; go_simp
        clear hW1
        refine (great_any v t a c l.length _ (HE.out.kept hk1).tab (by omega) HE.out.c47).mono ?_
        rintro e w2 ⟨rfl, hk2⟩
        have HK2 := Lib.hid (hk1.trans hk2)
        replace c0 := hk2.cell c0 (by simp)
        replace c1 := hk2.cell c1 (by simp)
        replace c2 := hk2.cell c2 (by simp)
        replace c3 := hk2.cell c3 (by simp)
        replace c4 := hk2.cell c4 (by simp)
        clear hk1 hk2
        rw [HG.out]
        go_upto_region 3 with (fail)
        have KP : Hid (∀ wx, Kept [] w2 wx → (wx.cell? ⟨w.heap.size, 0, none⟩ = some (.slice v.ta t.types.length v.tc) ∧ wx.cell? ⟨w.heap.size, 1, none⟩ = some (.slice v.sa t.subs.length v.sc) ∧ wx.cell? ⟨w.heap.size, 2, none⟩ = some (.slice v.ea v.en v.ec) ∧ wx.cell? ⟨w.heap.size, 3, none⟩ = some (.slice v.ga v.gn v.gc) ∧ wx.cell? ⟨w.heap.size, 4, none⟩ = some (.slice v.ia v.im v.ic) ∧ Kept [] w2 wx)) :=
          fun wx h => ⟨h.cell c0 (by simp), h.cell c1 (by simp), h.cell c2 (by simp), h.cell c3 (by simp), h.cell c4 (by simp), h⟩
        have i0 : (0 : Int) ≤ (k : Int) := Int.natCast_nonneg _
        have i1 : (k : Int) ≤ (c : Int) := by omega
        go_region_held3 (fun wx => wx.cell? ⟨w.heap.size, 0, none⟩ = some (.slice v.ta t.types.length v.tc) ∧ wx.cell? ⟨w.heap.size, 1, none⟩ = some (.slice v.sa t.subs.length v.sc) ∧ wx.cell? ⟨w.heap.size, 2, none⟩ = some (.slice v.ea v.en v.ec) ∧ wx.cell? ⟨w.heap.size, 3, none⟩ = some (.slice v.ga v.gn v.gc) ∧ wx.cell? ⟨w.heap.size, 4, none⟩ = some (.slice v.ia v.im v.ic) ∧ Kept [] w2 wx)
          (first | exact KP.out _ HK4.out | exact KP.out _ HK3.out | exact KP.out _ (Kept.drew _ _) | exact KP.out _ (Kept.refl _ _))
          (first
            | (go_at_call 12
               have hkx := (‹_ ∧ _ ∧ _ ∧ _ ∧ _ ∧ Kept [] w2 _›).2.2.2.2.2
               refine (frozen_ref (v := v) (t := t) (a := a) (l := l.take k) ((HE.out.kept (HK2.out.trans hkx)).take k) HS.out h40 (by simp; omega) (by simp; omega) _).mono ?_
               rintro e w3 ⟨u7, rfl, hA, hbA⟩
               have HA := Lib.hid (IntsAt.of_owns hA)
               have HK3 := Lib.hid (hkx.trans (Kept.of_below hbA))
               clear hkx hA hbA)
            | (go_at_call 12
               have hkx := (‹_ ∧ _ ∧ _ ∧ _ ∧ _ ∧ Kept [] w2 _›).2.2.2.2.2
               refine (frozen_ref (v := v) (t := t) (a := a) (l := l) (HE.out.kept (HK2.out.trans hkx)) HS.out h40 (by omega) rfl _).mono ?_
               rintro e w4 ⟨u8, rfl, hB, hbB⟩
               have HB := Lib.hid (IntsAt.of_owns hB)
               have HA4 := Lib.hid (HA.out.kept (Kept.of_below hbB))
               have HK4 := Lib.hid (hkx.trans (Kept.of_below hbB))
               clear hkx hB hbB))
        clear c0 c1 c2 c3 c4 HA HK3
        go_upto_region 4 with (fail)
        go_region_held3 (fun wx => wx.cell? ⟨w.heap.size, 0, none⟩ = some (.slice v.ta t.types.length v.tc) ∧ wx.cell? ⟨w.heap.size, 1, none⟩ = some (.slice v.sa t.subs.length v.sc) ∧ wx.cell? ⟨w.heap.size, 2, none⟩ = some (.slice v.ea v.en v.ec) ∧ wx.cell? ⟨w.heap.size, 3, none⟩ = some (.slice v.ga v.gn v.gc) ∧ wx.cell? ⟨w.heap.size, 4, none⟩ = some (.slice v.ia v.im v.ic) ∧ Kept [] w2 wx)
          (first | exact KP.out _ HK5.out | exact KP.out _ (HK4.out.trans (Kept.drew _ _)) | exact KP.out _ HK4.out)
          (first
            | (go_at_call 9
               have hkx := (‹_ ∧ _ ∧ _ ∧ _ ∧ _ ∧ Kept [] w2 _›).2.2.2.2.2
               refine (check_ref (v := v) (t := t) (a := a) (l := l.take k) ((HE.out.kept (HK2.out.trans hkx)).take k) HS.out h40 (by simp; omega) (by simp; omega) _).mono ?_
               rintro e w5 ⟨rfl, hk5⟩
               have HA5 := Lib.hid (HA4.out.kept ((Kept.drew _ _).trans hk5))
               have HB5 := Lib.hid (HB.out.kept ((Kept.drew _ _).trans hk5))
               have HK5 := Lib.hid (hkx.trans hk5)
               clear hkx hk5))
        obtain ⟨d0, d1, d2, d3, d4, hHeld⟩ := KP.out _ HK5.out
        clear HA4 HB HK4 i0 i1
        generalize hq1 : checkR t (l.take k) = q1 at *
        have HQ1 := Lib.hid hq1
        clear hq1
        obtain ⟨e1, e2⟩ := q1
        dsimp only
        go_wp2_with fail
        refine (check_ref (v := v) (t := t) (a := a) (l := l) (HE.out.kept (HK2.out.trans HK5.out)) HS.out h40 (by omega) rfl _).mono ?_
        rintro e w6 ⟨rfl, hk6⟩
        have HA6 := Lib.hid (HA5.out.kept hk6)
        have HB6 := Lib.hid (HB5.out.kept hk6)
        have HK6 := Lib.hid (HK5.out.trans hk6)
        clear hk6 HA5 HB5 HK5 d0 d1 d2 d3 d4
        obtain ⟨a7, cc7, rfl, hm7, hs7⟩ := HA6.out.shape
        obtain ⟨a8, cc8, rfl, hm8, hs8⟩ := HB6.out.shape
        have HS7 := Lib.hid hs7
        have HS8 := Lib.hid hs8
        clear hs7 hs8
        rcases check_err t l with ⟨kb, hb, hc, hlt, hf⟩ | ⟨hb, hc⟩
        · rw [hc, hf]
          clear hb hc HA6 HB6 HS7 HS8
          go_wp2_with fail
          all_goals
            refine (head_any w6).mono ?_
            rintro e w7 ⟨rfl, hk7⟩
            have HK7 := Lib.hid ((HK2.out.trans HK6.out).trans hk7)
            clear hk7
            go_wp2_with fail
            go_ret
            exact ⟨rfl, HK7.out⟩
        · have hgr := grows_ref t (l.take k) (l.drop k) (by rw [List.take_append_drop]; exact hb)
          rw [List.take_append_drop] at hgr
          have hinv := frozen_inv t l
          generalize hq2 : checkR t l = q2 at *
          generalize hxs : frozenR t (l.take k) = xs at *
          generalize hys : frozenR t l = ys at *
          rw [HQ1.out] at hgr
          clear hb hq2 hxs hys HQ1 hHeld
          obtain ⟨f1, f2⟩ := q2
          have hf2 : ¬ f2 = 2 := by
            intro h
            rcases hc with h' | h' <;> simp [h] at h'
          have HINV := Lib.hid hinv
          have HSUB := Lib.hid hgr.2
          have hor := hgr.1
          clear hgr hinv hc
          go_upto_region 6 with (fail)
          go_cut [68] (fun v68 wc => v68 = .bool false ∧ wc = w6)
          case first =>
            have hh : e2 = 0 ∨ (¬ e2 = 0 ∧ e1 = f1 ∧ e2 = f2) := by
              by_cases h0 : e2 = 0
              · exact .inl h0
              · rcases hor with h | h
                · exact .inl h
                · injection h with h1 h2
                  exact .inr ⟨h0, h1, h2⟩
            clear hor
            rcases hh with rfl | ⟨hne, rfl, rfl⟩
            · go_wp2_with fail
              go_meet
              exact ⟨rfl, rfl⟩
            · go_wp2_with fail
              go_meet
              exact ⟨rfl, rfl⟩
          case rest =>
            obtain ⟨rfl, rfl⟩ := hcut
            clear hor
            go_upto_block 0 with (fail)
            generalize (f2 == 2) = bb
            clear hf2
            go_cut [] (fun wd => wd = wc)
            case first =>
              rcases HS7.out with hnil | ⟨b7, o7, rfl, hc7⟩
              · have hl0 : xs.length ≤ 0 := by rw [hnil]; simp
                clear hnil
                go_wp2_with fail
                go_loop [13] (fun i => i = .int .i64 0) (fun _ => 0)
                case atStart => rfl
                case round =>
                  subst hrel
                  go_wp2_with fail
                  go_meet
                  rfl
              · have HC7 := Lib.hid hc7
                clear hc7
                go_wp2_with fail
                go_loop [13] (fun i => UpTo xs.length i) (fun i => xs.length - (intOf i).toNat)
                case atStart => exact ⟨0, Nat.zero_le _, rfl⟩
                case round =>
                  obtain ⟨j, hj, rfl⟩ := hrel
                  by_cases hlt : j < xs.length
                  · obtain ⟨x, hx⟩ : ∃ x, xs[j]? = some x := ⟨_, List.getElem?_eq_getElem hlt⟩
                    have q := HC7.out j x hx
                    have HIN : Hid (hasI ys x = true) := has_iff.2 (HSUB.out x (List.mem_of_getElem? hx))
                    clear hx
                    go_wp2_with fail
                    refine (in_any wc _ ys x HB6.out).mono ?_
                    rintro e w8 ⟨rfl, rfl⟩
                    rw [HIN.out]
                    go_wp2_with fail
                    go_round
                    case rel => exact ⟨j + 1, by omega, by go_num⟩
                    case measure => simp [intOf]; omega
                  · go_wp2_with fail
                    go_meet
                    rfl
            case rest =>
              subst hcut
              obtain ⟨wz, rfl⟩ : ∃ wz : World, wz = wc := ⟨_, rfl⟩
              clear HS7 HA6 HSUB
              have HK6' := Lib.hid (HK2.out.trans HK6.out)
              rcases HS8.out with hnil | ⟨b8, o8, rfl, hc8⟩
              · have hl0 : ys.length ≤ 0 := by rw [hnil]; simp
                clear hnil
                go_wp2_with fail
                go_loopw [14] (fun i wr => i = .int .i64 0 ∧ wr = wz) (fun _ _ => 0)
                case atStart => exact ⟨rfl, rfl⟩
                case round =>
                  obtain ⟨rfl, rfl⟩ := hrel
                  go_wp2_with fail
                  refine (head_any _).mono ?_
                  rintro e w9 ⟨rfl, hk9⟩
                  have HK9 := Lib.hid (HK6'.out.trans hk9)
                  clear hk9
                  go_wp2_with fail
                  go_ret
                  exact ⟨rfl, HK9.out⟩
              · have HC8 := Lib.hid hc8
                clear hc8
                go_wp2_with fail
                go_loopw [14] (fun i wr => UpTo ys.length i ∧ Kept [] wz wr) (fun i _ => ys.length - (intOf i).toNat)
                case atStart => exact ⟨⟨0, Nat.zero_le _, rfl⟩, Kept.refl _ _⟩
                case round =>
                  obtain ⟨⟨j, hj, rfl⟩, hkr⟩ := hrel
                  have HKR := Lib.hid hkr
                  clear hkr
                  by_cases hlt : j < ys.length
                  · obtain ⟨y, hy⟩ : ∃ y, ys[j]? = some y := ⟨_, List.getElem?_eq_getElem hlt⟩
                    have HY := Lib.hid hy
                    have q8 := (HKR.out.trans (Kept.drew _ _)).cell (HC8.out j y hy) (by simp)
                    obtain ⟨d0, d1, d2, d3, d4, hHeld⟩ := KP.out _ ((HK6.out.trans HKR.out).trans (Kept.drew _ _))
                    clear hy hHeld
                    go_upto_region 18 with (fail)
                    go_still_tail 5, (by kernel_rfl)
                    change wpList _ _ _ _ _ wr.drew
                    go_wp2_with fail
                    have HKD : Hid (Kept [] w wr.drew) := (HK6'.out.trans HKR.out).trans (Kept.drew _ _)
                    refine (parts_any wr.drew v t y (HE.out.kept HKD.out).tab HS.out).mono ?_
                    rintro e w9 ⟨u15, rfl, hP, hb9⟩
                    have HP := Lib.hid (IntsAt.of_owns hP)
                    have HK9 : Hid (Kept [] wz w9) := (HKR.out.trans (Kept.drew _ _)).trans (Kept.of_below hb9)
                    clear hP hb9 q8 d0 d1 d2 d3 d4
                    clear HKR HKD
                    go_upto_block 4 with (fail)
                    go_cut [] (fun wd => Kept [] w9 wd)
                    case first =>
                      have HPY : Hid (∀ p, p ∈ partsT t y → hasI ys p = true ∧ p ≠ y) := fun p hp => ⟨has_iff.2 (HINV.out.2.2 y p (List.mem_of_getElem? HY.out) hp), (mem_partsT hp).2⟩
                      generalize partsT t y = ps at *
                      obtain ⟨a15, c15, rfl, hm15, hs15⟩ := HP.out.shape
                      rcases hs15 with hnil | ⟨b15, o15, rfl, hc15⟩
                      · have hl0 : ps.length ≤ 0 := by rw [hnil]; simp
                        clear hnil
                        go_wp2_with fail
                        go_loop [16] (fun i => i = .int .i64 0) (fun _ => 0)
                        case atStart => rfl
                        case round =>
                          subst hrel
                          go_wp2_with fail
                          go_meet
                          exact Kept.refl _ _
                      · have HC15 := Lib.hid hc15
                        clear hc15
                        go_wp2_with fail
                        go_loopw [16] (fun i wr => UpTo ps.length i ∧ Kept [] w9 wr) (fun i _ => ps.length - (intOf i).toNat)
                        case atStart => exact ⟨⟨0, Nat.zero_le _, rfl⟩, Kept.refl _ _⟩
                        case round =>
                          obtain ⟨⟨m, hm, rfl⟩, hkr⟩ := hrel
                          have HKR := Lib.hid hkr
                          clear hkr
                          by_cases hlm : m < ps.length
                          · obtain ⟨p, hp⟩ : ∃ p, ps[m]? = some p := ⟨_, List.getElem?_eq_getElem hlm⟩
                            have HPP := Lib.hid (HPY.out p (List.mem_of_getElem? hp))
                            have q15 := HKR.out.cell (HC15.out m p hp) (by simp)
                            have q8 := (HK9.out.trans HKR.out).cell (HC8.out j y HY.out) (by simp)
                            have hne : (p == y) = false := by simpa using HPP.out.2
                            have HB9 := Lib.hid (HB6.out.kept (HK9.out.trans HKR.out))
                            clear hp
                            go_upto_region 22 with (fail)
                            go_quiet ((go_at_call 16; exact quiet_left (in_yes _ _ ys p (HB9.out.kept (Kept.drewN _ _ _)) HPP.out.1)))
                            go_wp2_with fail
                            go_roundw
                            case rel => exact ⟨⟨m + 1, by omega, by go_num⟩, HKR.out.trans (Kept.drewN _ _ _)⟩
                            case measure => simp [intOf]; omega
                          · go_wp2_with fail
                            go_meet
                            exact HKR.out
                    case rest =>
                      have HKC := Lib.hid (HK9.out.trans hcut)
                      clear hcut
                      have q8 := HKC.out.cell (HC8.out j y HY.out) (by simp)
                      by_cases hj0 : j = 0
                      · have hd : decide (0 < (j : Int)) = false := by simp; omega
                        have hd' : decide (0 < j) = false := by simp; omega
                        clear hj0
                        go_upto_region 24 with (fail)
                        go_quiet (fail)
                        go_wp2_with fail
                        go_roundw
                        case rel => exact ⟨⟨j + 1, by omega, by go_num⟩, HKC.out.trans (Kept.drewN _ _ _)⟩
                        case measure => simp [intOf]; omega
                      · obtain ⟨y', hy'⟩ : ∃ y', ys[j - 1]? = some y' := ⟨_, List.getElem?_eq_getElem (by omega)⟩
                        have hly : y' < y := asc_lt HINV.out.1 hy' HY.out (by omega)
                        have q8' := HKC.out.cell (HC8.out (j - 1) y' hy') (by simp)
                        have hd : decide (0 < (j : Int)) = true := by simp; omega
                        have hd' : decide (0 < j) = true := by simp; omega
                        have hj1 : ((j : Int) - 1).toNat = j - 1 := by omega
                        have hj2 : 0 ≤ (j : Int) - 1 := by omega
                        have hge : decide (y ≤ y') = false := by simp; omega
                        clear hy'
                        go_upto_region 24 with (fail)
                        go_quiet (fail)
                        go_wp2_with fail
                        go_roundw
                        case rel => exact ⟨⟨j + 1, by omega, by go_num⟩, HKC.out.trans (Kept.drewN _ _ _)⟩
                        case measure => simp [intOf]; omega
                  · go_wp2_with fail
                    refine (head_any _).mono ?_
                    rintro e w9 ⟨rfl, hk9⟩
                    have HK9 := Lib.hid ((HK6'.out.trans HKR.out).trans hk9)
                    clear hk9
                    go_wp2_with fail
                    go_ret
                    exact ⟨rfl, HK9.out⟩
  · have HG := Lib.hid hg
    clear hg
    go_enter Try.func4, Try.ntmps4
    unfold TabV.cells
    go_wp2_with fail
    have hk1 : Kept [] w (w.alloc (Obj.cells #[Value.slice v.ta t.types.length v.tc, Value.slice v.sa t.subs.length v.sc, Value.slice v.ea v.en v.ec, Value.slice v.ga v.gn v.gc, Value.slice v.ia v.im v.ic] 28)) := Kept.alloc _ _ _
    refine (great_any v t a c l.length _ (HE.out.kept hk1).tab (by omega) HE.out.c47).mono ?_
    rintro e w1 ⟨rfl, hk2⟩
    have HK := Lib.hid (hk1.trans hk2)
    clear hk1 hk2
    rw [HG.out]
    go_wp2_with fail
    refine (head_any w1).mono ?_
    rintro e w2 ⟨rfl, hk3⟩
    have HK3 := Lib.hid (HK.out.trans hk3)
    clear hk3
    go_wp2_with fail
    go_ret
    exact ⟨rfl, HK3.out⟩
end Go.Proofs.Ytbjnoffdafpkgaa
