/- run. -/
import Derived.Test.YtbjnoffdafpkgaaH2
namespace Go.Proofs.Ytbjnoffdafpkgaa
open Go.RowKit

theorem SAt.keptX {v : TabV} {t : Tab} {B S dB cB fB kB n : Nat} {s : PS} {w w' : World} {X : List Nat} (h : SAt v t B S dB cB fB kB n s w) (hk : Kept X w w') (hX : ∀ x, x ∈ X → B ≤ x ∧ x ≠ S ∧ x ≠ dB ∧ x ≠ cB ∧ x ≠ fB ∧ x ≠ kB) : SAt v t B S dB cB fB kB n s w' :=
  have hn : ∀ y, (y = S ∨ y = dB ∨ y = cB ∨ y = fB ∨ y = kB) → y ∉ X := fun y hy hm => by have := hX y hm; omega
  { h with
    tab := h.tab.kept hk (fun x hx => (hX x hx).1)
    st := h.st.kept hk (hn _ (by simp))
    decl := h.decl.block (hk.block _ h.decl.lt (hn _ (by simp)))
    comp := h.comp.block (hk.block _ h.comp.lt (hn _ (by simp)))
    froz := h.froz.block (hk.block _ h.froz.lt (hn _ (by simp)))
    cons := h.cons.block (hk.block _ h.cons.lt (hn _ (by simp))) }

theorem kinds_chain (S : Nat) : updM (updM (updM (updM (updM (updM (updM (updM (updM (fun _ => none) 1 (.func (.func 35) #[.pointer (some ⟨S, 0, none⟩)] #[])) 2 (.func (.func 35) #[.pointer (some ⟨S, 0, none⟩)] #[])) 3 (.func (.func 36) #[.pointer (some ⟨S, 0, none⟩)] #[])) 4 (.func (.func 37) #[.pointer (some ⟨S, 0, none⟩)] #[])) 5 (.func (.func 38) #[.pointer (some ⟨S, 0, none⟩)] #[])) 6 (.func (.func 39) #[.pointer (some ⟨S, 0, none⟩)] #[])) 7 (.func (.func 40) #[.pointer (some ⟨S, 0, none⟩)] #[])) 8 (.func (.func 41) #[.pointer (some ⟨S, 0, none⟩)] #[])) 9 (.func (.func 41) #[.pointer (some ⟨S, 0, none⟩)] #[]) = kindsM S := by
  funext k
  unfold kindsM
  by_cases h9 : k = 9
  · subst h9; rfl
  by_cases h8 : k = 8
  · subst h8; rfl
  by_cases h7 : k = 7
  · subst h7; rfl
  by_cases h6 : k = 6
  · subst h6; rfl
  by_cases h5 : k = 5
  · subst h5; rfl
  by_cases h4 : k = 4
  · subst h4; rfl
  by_cases h3 : k = 3
  · subst h3; rfl
  by_cases h2 : k = 2
  · subst h2; rfl
  by_cases h1 : k = 1
  · subst h1; rfl
  simp [updM, h1, h2, h3, h4, h5, h6, h7, h8, h9]

/-- How a run may end: the place, the error, the state. -/
def Ends (t : Tab) (l : List EvV) (at' err : Int) (s : PS) : Prop :=
  (∃ k : Nat, badAt t.types.length l = some k ∧ at' = k ∧ err = 2) ∨
  (badAt t.types.length l = none ∧ RunsTo t l l.length s ∧ at' = 0 ∧ err = 0) ∨
  (badAt t.types.length l = none ∧ ∃ (k : Nat) (s0 : PS) (x : EvV), l[k]? = some x ∧ RunsTo t l k s0 ∧ StepR t s0 x (false, s) ∧ at' = k ∧ err = 110)

theorem exists_of_bad {n : Nat} {l : List EvV} (h : badAt n l = none) {x : EvV} (hx : x ∈ l) : existsF n x = true := by
  unfold badAt at h
  rw [List.findIdx?_eq_none_iff] at h
  simpa using h x hx

theorem kind_of_exists {n : Nat} {x : EvV} (h : existsF n x = true) : x.kind = 1 ∨ x.kind = 2 ∨ x.kind = 3 ∨ x.kind = 4 ∨ x.kind = 5 ∨ x.kind = 6 ∨ x.kind = 7 ∨ x.kind = 8 ∨ x.kind = 9 := by
  unfold existsF at h
  split at h
  · rename_i h1; simp at h1; omega
  · split at h
    · rename_i h1; simp at h1; omega
    · split at h
      · rename_i h1; simp at h1; omega
      · simp at h; omega

/-- The state at the head of a round. -/
structure Round (v : TabV) (t : Tab) (l : List EvV) (B S dB cB fB kB : Nat) (k9 : World) (k : Nat) (s : PS) (wr : World) : Prop where
  runs : RunsTo t l k s
  good : Good t s
  sat : SAt v t B S dB cB fB kB (1001 * k) s wr
  kept : Kept [dB, cB, fB, kB] k9 wr

def RunPost (v : TabV) (t : Tab) (l : List EvV) (w : World) (e : Ending) (w' : World) : Prop :=
  ∃ S dB cB fB kB n at' err s, e = .returned (.tuple #[.pointer (some ⟨S, 0, none⟩), .int .i64 at', .int .i64 err]) ∧ Kept [] w w' ∧ SAt v t w.heap.size S dB cB fB kB n s w' ∧ Ends t l at' err s

set_option maxRecDepth 100000 in
set_option maxHeartbeats 2000000 in
theorem run_any (v : TabV) (t : Tab) (a : Option Addr) (c : Nat) (l : List EvV) (w : World) (hT : TabIn w v t) (hs : Small t) (hn : t.types.length ≤ 1000) (hl : EvsIn w a l) (hlen : l.length ≤ 100000) (hwf : ∀ x, x ∈ l → x.wf) :
    Calls Try.prog 20 #[.agg (v.cells t), .slice a l.length c] w (RunPost v t l w) := by
  have HT : Hid (TabUnder w.heap.size w v t) := TabUnder.start hT
  have HS := Lib.hid hs
  have HL := Lib.hid hl
  have HWF := Lib.hid hwf
  clear hT hs hl hwf
  go_enter Try.func20, Try.ntmps20
  unfold TabV.cells
  go_wp2_with fail
  go_step3
  go_wp2_with fail
  generalize hW1 : ((w.alloc (Obj.cells #[Value.slice v.ta t.types.length v.tc, Value.slice v.sa t.subs.length v.sc, Value.slice v.ea v.en v.ec, Value.slice v.ga v.gn v.gc, Value.slice v.ia v.im v.ic] 28)).alloc (Obj.cells #[Value.pointer none] 55)) = w1
  have hk1 : Kept [] w w1 := by rw [← hW1]; exact (Kept.alloc _ _ _).trans (Kept.alloc _ _ _)
  have hp1 : w1.heap[w.heap.size + 1]? = some (.cells #[.pointer none] 55 (0, 0)) := by rw [← hW1]; exact obj_new (by simp)
  have hz1 : w.heap.size + 2 ≤ w1.heap.size := by rw [← hW1]; simp
  clear hW1
  refine (begin_any v t w.heap.size w1 (HT.out.kept hk1 (by simp)) HS.out hn).mono ?_
  rintro e w2 ⟨S, dB, cB, fB, kB, rfl, hS2, hk2, b1, b2, b3, b4, b5⟩
  have hp2 := hk2.obj hp1 (by simp)
  have c2 := cell_of_one hp2
  have f2 := free_of_one hp2
  have HP2 := Lib.hid hp2
  have HK2 := Lib.hid (hk1.trans hk2)
  have HS2 := Lib.hid hS2
  clear hp1 hp2 hk1 hk2 hS2
  go_upto_region 2 with (fail)
  refine wp_gen ?_
  intro w3 hw3
  have hp3 : w3.heap[w.heap.size + 1]? = some (.cells #[.pointer (some ⟨S, 0, none⟩)] 55 (0, 0)) := by rw [hw3]; exact one_setCell HP2.out
  have hk23 : Kept [w.heap.size + 1] w2 w3 := by rw [hw3]; exact Kept.setCell _ _ _ (by simp)
  have HS3 : Hid (SAt v t w.heap.size S dB cB fB kB 0 PS.zero w3) := HS2.out.keptX hk23 (fun x hx => by simp at hx; omega)
  have HK3 : Hid (Kept [] w w3) := ((HK2.out.mono (by simp)).trans hk23).mono' (fun x hx hlt => by simp at hx; omega)
  have HL3 := Lib.hid (HL.out.kept HK3.out)
  have c3 := cell_of_one hp3
  have s3 : w3.cell? ⟨S, 0, none⟩ = some (.slice v.ta t.types.length v.tc) := by
    have := HS3.out.st.tab 0 (.slice v.ta t.types.length v.tc) rfl
    simpa using this
  have HP3 := Lib.hid hp3
  clear hw3 hk23 c2 f2 hp3
  go_wp2_with fail
  refine (indexFunc_any a c (w.heap.size + 1) S t.types.length v.tc v.ta l w3 HL3.out (by omega) c3 s3 (by omega)).mono ?_
  rintro e w4 ⟨rfl, hk4⟩
  have HP4 := Lib.hid (hk4.obj HP3.out (by simp))
  have HS4 := Lib.hid (HS3.out.kept hk4)
  have HK4 := Lib.hid (HK3.out.trans hk4)
  have HL4 := Lib.hid (HL.out.kept HK4.out)
  have c4 := cell_of_one HP4.out
  have f4 := free_of_one HP4.out
  clear hk4 c3 s3
  cases hbad : badAt t.types.length l with
  | some k =>
    have hi : badI t.types.length l = k := by unfold badI; rw [hbad]
    rw [hi]
    have HEND : Hid (Ends t l k 2 PS.zero) := .inl ⟨k, hbad, rfl, rfl⟩
    have hkl : k ≤ l.length := by
      unfold badAt at hbad
      have := (List.findIdx?_eq_some_iff_getElem.1 hbad).1
      omega
    clear hi hbad
    go_wp2_with fail
    rw [Exit.noGoto_ret]
    have hp5 := one_setCell (u := .pointer (some ⟨S, 0, none⟩)) HP4.out
    have c5 := cell_of_one hp5
    have hk5 : Kept [w.heap.size + 1] w4 (w4.setCell ⟨w.heap.size + 1, 0, none⟩ (.pointer (some ⟨S, 0, none⟩))) := Kept.setCell _ _ _ (by simp)
    refine bodyPost_ret (v := .tuple #[.pointer (some ⟨S, 0, none⟩), .int .i64 k, .int .i64 2]) (by simp [results, Try.results20, go_sem, c5]) rfl ?_
    exact ⟨S, dB, cB, fB, kB, 0, k, 2, PS.zero, rfl, ((HK4.out.mono (by simp)).trans hk5).mono' (fun x hx hlt => by simp at hx; omega), HS4.out.keptX hk5 (fun x hx => by simp at hx; omega), HEND.out⟩
  | none =>
    have hi : badI t.types.length l = -1 := by unfold badI; rw [hbad]
    rw [hi]
    have HBAD := Lib.hid hbad
    clear hi hbad
    have hkk := HK4.out.size
    have hm0 : HM (w4.alloc (.map #[] 0)) w4.heap.size 0 (fun _ => none) := HMap.fresh _ _ (heap_alloc_new _ _)
    have hpz : w.heap.size + 1 < w4.heap.size := (Array.getElem?_eq_some_iff.1 HP4.out).1
    have e0 : (w4.alloc (.map #[] 0)).heap[w.heap.size + 1]? = some (.cells #[.pointer (some ⟨S, 0, none⟩)] 55 (0, 0)) := obj_old HP4.out hpz
    have d0 := cell_of_one e0
    obtain ⟨k1, hup1, hm1, hg11, hz11⟩ := hm_update hm0 (by decide) (x := 1) (by decide) (.func (.func 35) #[.pointer (some ⟨S, 0, none⟩)] #[])
    have e1 : k1.heap[w.heap.size + 1]? = some (.cells #[.pointer (some ⟨S, 0, none⟩)] 55 (0, 0)) := (hg11.block _ (Array.getElem?_eq_some_iff.1 e0).1 (by simp; omega)).trans e0
    have d1 := cell_of_one e1
    obtain ⟨k2, hup2, hm2, hg12, hz12⟩ := hm_update hm1 (by decide) (x := 2) (by decide) (.func (.func 35) #[.pointer (some ⟨S, 0, none⟩)] #[])
    have e2 : k2.heap[w.heap.size + 1]? = some (.cells #[.pointer (some ⟨S, 0, none⟩)] 55 (0, 0)) := (hg12.block _ (Array.getElem?_eq_some_iff.1 e1).1 (by simp; omega)).trans e1
    have d2 := cell_of_one e2
    obtain ⟨k3, hup3, hm3, hg13, hz13⟩ := hm_update hm2 (by decide) (x := 3) (by decide) (.func (.func 36) #[.pointer (some ⟨S, 0, none⟩)] #[])
    have e3 : k3.heap[w.heap.size + 1]? = some (.cells #[.pointer (some ⟨S, 0, none⟩)] 55 (0, 0)) := (hg13.block _ (Array.getElem?_eq_some_iff.1 e2).1 (by simp; omega)).trans e2
    have d3 := cell_of_one e3
    obtain ⟨k4, hup4, hm4, hg14, hz14⟩ := hm_update hm3 (by decide) (x := 4) (by decide) (.func (.func 37) #[.pointer (some ⟨S, 0, none⟩)] #[])
    have e4 : k4.heap[w.heap.size + 1]? = some (.cells #[.pointer (some ⟨S, 0, none⟩)] 55 (0, 0)) := (hg14.block _ (Array.getElem?_eq_some_iff.1 e3).1 (by simp; omega)).trans e3
    have d4 := cell_of_one e4
    obtain ⟨k5, hup5, hm5, hg15, hz15⟩ := hm_update hm4 (by decide) (x := 5) (by decide) (.func (.func 38) #[.pointer (some ⟨S, 0, none⟩)] #[])
    have e5 : k5.heap[w.heap.size + 1]? = some (.cells #[.pointer (some ⟨S, 0, none⟩)] 55 (0, 0)) := (hg15.block _ (Array.getElem?_eq_some_iff.1 e4).1 (by simp; omega)).trans e4
    have d5 := cell_of_one e5
    obtain ⟨k6, hup6, hm6, hg16, hz16⟩ := hm_update hm5 (by decide) (x := 6) (by decide) (.func (.func 39) #[.pointer (some ⟨S, 0, none⟩)] #[])
    have e6 : k6.heap[w.heap.size + 1]? = some (.cells #[.pointer (some ⟨S, 0, none⟩)] 55 (0, 0)) := (hg16.block _ (Array.getElem?_eq_some_iff.1 e5).1 (by simp; omega)).trans e5
    have d6 := cell_of_one e6
    obtain ⟨k7, hup7, hm7, hg17, hz17⟩ := hm_update hm6 (by decide) (x := 7) (by decide) (.func (.func 40) #[.pointer (some ⟨S, 0, none⟩)] #[])
    have e7 : k7.heap[w.heap.size + 1]? = some (.cells #[.pointer (some ⟨S, 0, none⟩)] 55 (0, 0)) := (hg17.block _ (Array.getElem?_eq_some_iff.1 e6).1 (by simp; omega)).trans e6
    have d7 := cell_of_one e7
    obtain ⟨k8, hup8, hm8, hg18, hz18⟩ := hm_update hm7 (by decide) (x := 8) (by decide) (.func (.func 41) #[.pointer (some ⟨S, 0, none⟩)] #[])
    have e8 : k8.heap[w.heap.size + 1]? = some (.cells #[.pointer (some ⟨S, 0, none⟩)] 55 (0, 0)) := (hg18.block _ (Array.getElem?_eq_some_iff.1 e7).1 (by simp; omega)).trans e7
    have d8 := cell_of_one e8
    obtain ⟨k9, hup9, hm9, hg19, hz19⟩ := hm_update hm8 (by decide) (x := 9) (by decide) (.func (.func 41) #[.pointer (some ⟨S, 0, none⟩)] #[])
    have e9 : k9.heap[w.heap.size + 1]? = some (.cells #[.pointer (some ⟨S, 0, none⟩)] 55 (0, 0)) := (hg19.block _ (Array.getElem?_eq_some_iff.1 e8).1 (by simp; omega)).trans e8
    have d9 := cell_of_one e9
    have hkm : HM k9 w4.heap.size 9 (kindsM S) := by rw [← kinds_chain]; exact hm9
    have hk49 : Kept [] w4 k9 := by
      refine ((Kept.alloc [w4.heap.size] w4 (.map #[] 0)).trans ?_).mono' (fun x hx hlt => by simp at hx; omega)
      have g := fun (a b : World) (h : a.grownBy b (some w4.heap.size)) => Kept.of_grown (X := [w4.heap.size]) h (fun q hq _ => by injection hq with hq; simp [hq])
      exact ((((((((g _ _ hg11).trans (g _ _ hg12)).trans (g _ _ hg13)).trans (g _ _ hg14)).trans (g _ _ hg15)).trans (g _ _ hg16)).trans (g _ _ hg17)).trans (g _ _ hg18)).trans (g _ _ hg19)
    have HM9 := Lib.hid hkm
    have HE9 := Lib.hid e9
    have HK9 := Lib.hid (HK4.out.trans hk49)
    have HS9 := Lib.hid (HS4.out.kept hk49)
    have HL9 := Lib.hid (HL.out.kept HK9.out)
    have hz49 : w4.heap.size < k9.heap.size := hkm.lt
    have hmm := @run_makeMap Try.prog
    clear hm0 hm1 hm2 hm3 hm4 hm5 hm6 hm7 hm8 hm9 e0 e1 e2 e3 e4 e5 e6 e7 e8 e9 hg11 hg12 hg13 hg14 hg15 hg16 hg17 hg18 hg19 hz11 hz12 hz13 hz14 hz15 hz16 hz17 hz18 hz19 hkm hk49 hkk
    go_upto_region 6 with (fail)
    go_step3
    have hdx : ∀ y, y ∈ [dB, cB, fB, kB] → w.heap.size + 2 ≤ y ∧ y < w4.heap.size := by
      intro y hy
      have h1 := HS4.out.decl.lt
      have h2 := HS4.out.comp.lt
      have h3 := HS4.out.froz.lt
      have h4 := HS4.out.cons.lt
      simp at hy
      omega
    have HDX := Lib.hid hdx
    clear hdx c4 f4 d0 d1 d2 d3 d4 d5 d6 d7 d8 d9 hup1 hup2 hup3 hup4 hup5 hup6 hup7 hup8 hup9 hmm
    have hfin : ∀ (W : World) (at' err : Int) (n : Nat) (s : PS), W.heap[w.heap.size + 1]? = some (.cells #[.pointer (some ⟨S, 0, none⟩)] 55 (0, 0)) → Kept [] w W → SAt v t w.heap.size S dB cB fB kB n s W → Ends t l at' err s →
        (W.setCell ⟨w.heap.size + 1, 0, none⟩ (.pointer (some ⟨S, 0, none⟩))).cell? ⟨w.heap.size + 1, 0, none⟩ = some (.pointer (some ⟨S, 0, none⟩)) ∧ RunPost v t l w (.returned (.tuple #[.pointer (some ⟨S, 0, none⟩), .int .i64 at', .int .i64 err])) (W.setCell ⟨w.heap.size + 1, 0, none⟩ (.pointer (some ⟨S, 0, none⟩))) := by
      intro W at' err n s hW hkW hsW hends
      have hk5 : Kept [w.heap.size + 1] W (W.setCell ⟨w.heap.size + 1, 0, none⟩ (.pointer (some ⟨S, 0, none⟩))) := Kept.setCell _ _ _ (by simp)
      exact ⟨cell_of_one (one_setCell hW), S, dB, cB, fB, kB, n, at', err, s, rfl, ((hkW.mono (by simp)).trans hk5).mono' (fun x hx hlt => by simp at hx; omega), hsW.keptX hk5 (fun x hx => by simp at hx; omega), hends⟩
    have HFIN := Lib.hid hfin
    clear hfin
    rcases HL.out with hnil | ⟨b, off, rfl, hcell⟩
    · have hl0 : l.length ≤ 0 := by rw [hnil]; simp
      have HNIL := Lib.hid hnil
      clear hnil
      go_wp2_with fail
      go_loopw [5, 6, 42] (fun at' er i wr => i = .int .i64 0 ∧ at' = .int .i64 0 ∧ er = .int .i64 0 ∧ wr = k9) (fun _ _ _ _ => 0)
      case atStart => exact ⟨rfl, rfl, rfl, rfl⟩
      case round =>
        obtain ⟨rfl, rfl, rfl, rfl⟩ := hrel
        have c9 := cell_of_one HE9.out
        have f9 := free_of_one HE9.out
        have hend : Ends t l 0 0 PS.zero := .inr (.inl ⟨HBAD.out, by rw [HNIL.out]; rfl, rfl, rfl⟩)
        have HF := Lib.hid (HFIN.out _ 0 0 0 _ HE9.out HK9.out HS9.out hend)
        clear hend
        go_wp2_with fail
        first | rw [Exit.noGoto_ret] | skip
        have c5 := HF.out.1
        exact bodyPost_ret (v := .tuple #[.pointer (some ⟨S, 0, none⟩), .int .i64 0, .int .i64 0]) (by simp [results, Try.results20, go_sem, c5]) rfl HF.out.2
    · have HCELL := Lib.hid hcell
      clear hcell
      go_wp2_with fail
      go_loopw [5, 6, 42] (fun at' er i wr => ∃ (k : Nat) (s : PS), k ≤ l.length ∧ i = .int .i64 k ∧ at' = .int .i64 0 ∧ er = .int .i64 0 ∧ Round v t l w.heap.size S dB cB fB kB k9 k s wr) (fun _ _ i _ => l.length - (intOf i).toNat)
      case atStart => exact ⟨0, PS.zero, Nat.zero_le _, rfl, rfl, rfl, rfl, Good.zero t, HS9.out, Kept.refl _ _⟩
      case round =>
        obtain ⟨k, s, hk, rfl, rfl, rfl, hR⟩ := hrel
        have HR := Lib.hid hR
        clear hR
        have hkw : Kept [] w wr := ((HK9.out.mono (by simp)).trans HR.out.kept).mono' (fun x hx hlt => by have := HDX.out x hx; omega)
        have HKW := Lib.hid hkw
        have hbox := HR.out.kept.obj HE9.out (fun h => by have := HDX.out _ h; omega)
        have HBOX := Lib.hid hbox
        have HMr : Hid (HM wr w4.heap.size 9 (kindsM S)) := HM9.out.block (HR.out.kept.block _ hz49 (fun h => by have := HDX.out _ h; omega))
        clear hkw hbox
        by_cases hlt : k < l.length
        · obtain ⟨x, hx⟩ : ∃ x, l[k]? = some x := ⟨_, List.getElem?_eq_getElem hlt⟩
          have HX := Lib.hid hx
          have hxm : x ∈ l := List.mem_of_getElem? hx
          have HEX := Lib.hid (exists_of_bad HBAD.out hxm)
          have HXW := Lib.hid (HWF.out x hxm)
          have hb0 : ∀ (j : Nat) (u : Value), x.cells[j]? = some u → wr.cell? ⟨b, off + k * 3 + j, none⟩ = some u := fun j u hu => HKW.out.cell (HCELL.out k x hx j u hu) (by simp)
          have q0 : wr.cell? ⟨b, off + k * 3, none⟩ = some (.int .u8 x.kind) := hb0 0 _ rfl
          have q1 : wr.cell? ⟨b, off + k * 3 + 1, none⟩ = some (.int .i64 x.ty) := hb0 1 _ rfl
          have q2 : wr.cell? ⟨b, off + k * 3 + 2, none⟩ = some (.int .i64 x.num) := hb0 2 _ rfl
          clear hb0 hx hxm
          go_upto_region 9 with (fail)
          refine wp_gen ?_
          intro w5 hw5
          have hk5 : Kept [] wr w5 := by rw [hw5]; exact Kept.alloc _ _ _
          have p0 : w5.cell? ⟨wr.heap.size, 0, none⟩ = some (.int .u8 x.kind) := by rw [hw5]; go_simp
          have p1 : w5.cell? ⟨wr.heap.size, 1, none⟩ = some (.int .i64 x.ty) := by rw [hw5]; go_simp
          have p2 : w5.cell? ⟨wr.heap.size, 2, none⟩ = some (.int .i64 x.num) := by rw [hw5]; go_simp
          have HS5 := Lib.hid (HR.out.sat.kept hk5)
          have HK5 : Hid (Kept [dB, cB, fB, kB] k9 w5) := HR.out.kept.trans (hk5.mono (by simp))
          have hm5 : HM w5 w4.heap.size 9 (kindsM S) := HMr.out.block (hk5.block _ HMr.out.lt (by simp))
          have HM5 := Lib.hid hm5
          clear hw5 hk5 q0 q1 q2 hm5
          go_cut [53] (fun s53 wc => ∃ r : Bool × PS, s53 = .bool (!r.1) ∧ StepR t s x r ∧ SAt v t w.heap.size S dB cB fB kB (1001 * k + 1001) r.2 wc ∧ Kept [dB, cB, fB, kB] k9 wc)
          case first =>
            have hkind : x.kind = 1 ∨ x.kind = 2 ∨ x.kind = 3 ∨ x.kind = 4 ∨ x.kind = 5 ∨ x.kind = 6 ∨ x.kind = 7 ∨ x.kind = 8 ∨ x.kind = 9 := kind_of_exists HEX.out
            rcases hkind with hj | hj | hj | hj | hj | hj | hj | hj | hj
            · have hf : (Instr.lookup 83 (.map (some w4.heap.size)) (.int .u8 x.kind) false).run Try.prog w5 = .ok (.func (.func 35) #[.pointer (some ⟨S, 0, none⟩)] #[]) w5 := by
                have h := hm_lookup HM5.out (x := x.kind) (by rw [hj]; decide)
                rw [h, hj]
                rfl
              have HSR : Hid (StepR t s x (declareF s x)) := by unfold Hid StepR; rw [hj]; rfl
              have HJ := Lib.hid hj
              clear hj
              go_wp2_with fail
              refine (declare_any v t w.heap.size S dB cB fB kB (1001 * k) s x w5 HS5.out HXW.out (by omega)).mono ?_
              rintro e w6 ⟨rfl, hs6, hk6⟩
              have HS6 := Lib.hid hs6
              have HK6 := Lib.hid (HK5.out.trans hk6)
              clear hs6 hk6
              go_wp2_with fail
              go_meet
              exact ⟨_, rfl, HSR.out, HS6.out, HK6.out⟩
            · have hf : (Instr.lookup 83 (.map (some w4.heap.size)) (.int .u8 x.kind) false).run Try.prog w5 = .ok (.func (.func 35) #[.pointer (some ⟨S, 0, none⟩)] #[]) w5 := by
                have h := hm_lookup HM5.out (x := x.kind) (by rw [hj]; decide)
                rw [h, hj]
                rfl
              have HSR : Hid (StepR t s x (declareF s x)) := by unfold Hid StepR; rw [hj]; rfl
              have HJ := Lib.hid hj
              clear hj
              go_wp2_with fail
              refine (declare_any v t w.heap.size S dB cB fB kB (1001 * k) s x w5 HS5.out HXW.out (by omega)).mono ?_
              rintro e w6 ⟨rfl, hs6, hk6⟩
              have HS6 := Lib.hid hs6
              have HK6 := Lib.hid (HK5.out.trans hk6)
              clear hs6 hk6
              go_wp2_with fail
              go_meet
              exact ⟨_, rfl, HSR.out, HS6.out, HK6.out⟩
            · have hf : (Instr.lookup 83 (.map (some w4.heap.size)) (.int .u8 x.kind) false).run Try.prog w5 = .ok (.func (.func 36) #[.pointer (some ⟨S, 0, none⟩)] #[]) w5 := by
                have h := hm_lookup HM5.out (x := x.kind) (by rw [hj]; decide)
                rw [h, hj]
                rfl
              have HSR : Hid (StepR t s x (fullF s x)) := by unfold Hid StepR; rw [hj]; rfl
              have HJ := Lib.hid hj
              clear hj
              go_wp2_with fail
              refine (full_any v t w.heap.size S dB cB fB kB (1001 * k) s x w5 HS5.out HXW.out (by omega)).mono ?_
              rintro e w6 ⟨rfl, hs6, hk6⟩
              have HS6 := Lib.hid hs6
              have HK6 := Lib.hid (HK5.out.trans hk6)
              clear hs6 hk6
              go_wp2_with fail
              go_meet
              exact ⟨_, rfl, HSR.out, HS6.out, HK6.out⟩
            · have hf : (Instr.lookup 83 (.map (some w4.heap.size)) (.int .u8 x.kind) false).run Try.prog w5 = .ok (.func (.func 37) #[.pointer (some ⟨S, 0, none⟩)] #[]) w5 := by
                have h := hm_lookup HM5.out (x := x.kind) (by rw [hj]; decide)
                rw [h, hj]
                rfl
              have HTY : Hid (exI t.types.length x.ty = true) := by have h := HEX.out; unfold existsF at h; rw [hj] at h; exact h
              have HSR : Hid (StepR t s x (objectF t s x)) := by unfold Hid StepR; rw [hj]; rfl
              have HJ := Lib.hid hj
              clear hj
              go_wp2_with fail
              refine (object_any v t w.heap.size S dB cB fB kB (1001 * k) s x w5 HS5.out HTY.out (by omega)).mono ?_
              rintro e w6 ⟨rfl, hs6, hk6⟩
              have HS6 := Lib.hid hs6
              have HK6 := Lib.hid (HK5.out.trans hk6)
              clear hs6 hk6
              go_wp2_with fail
              go_meet
              exact ⟨_, rfl, HSR.out, HS6.out, HK6.out⟩
            · have hf : (Instr.lookup 83 (.map (some w4.heap.size)) (.int .u8 x.kind) false).run Try.prog w5 = .ok (.func (.func 38) #[.pointer (some ⟨S, 0, none⟩)] #[]) w5 := by
                have h := hm_lookup HM5.out (x := x.kind) (by rw [hj]; decide)
                rw [h, hj]
                rfl
              have HSR : Hid (StepR t s x (deferredF s x)) := by unfold Hid StepR; rw [hj]; rfl
              have HJ := Lib.hid hj
              clear hj
              go_wp2_with fail
              refine (deferred_any v t w.heap.size S dB cB fB kB (1001 * k) s x w5 HS5.out HXW.out (by omega)).mono ?_
              rintro e w6 ⟨rfl, hs6, hk6⟩
              have HS6 := Lib.hid hs6
              have HK6 := Lib.hid (HK5.out.trans hk6)
              clear hs6 hk6
              go_wp2_with fail
              go_meet
              exact ⟨_, rfl, HSR.out, HS6.out, HK6.out⟩
            · have hf : (Instr.lookup 83 (.map (some w4.heap.size)) (.int .u8 x.kind) false).run Try.prog w5 = .ok (.func (.func 39) #[.pointer (some ⟨S, 0, none⟩)] #[]) w5 := by
                have h := hm_lookup HM5.out (x := x.kind) (by rw [hj]; decide)
                rw [h, hj]
                rfl
              have HSR : Hid (StepR t s x (completedF t s x)) := by unfold Hid StepR; rw [hj]; rfl
              have HJ := Lib.hid hj
              clear hj
              go_wp2_with fail
              refine (completed_any v t w.heap.size S dB cB fB kB (1001 * k) s x w5 HS5.out HXW.out (by omega) HR.out.good.con).mono ?_
              rintro e w6 ⟨rfl, hs6, hk6⟩
              have HS6 := Lib.hid hs6
              have HK6 := Lib.hid (HK5.out.trans hk6)
              clear hs6 hk6
              go_wp2_with fail
              go_meet
              exact ⟨_, rfl, HSR.out, HS6.out, HK6.out⟩
            · have hf : (Instr.lookup 83 (.map (some w4.heap.size)) (.int .u8 x.kind) false).run Try.prog w5 = .ok (.func (.func 40) #[.pointer (some ⟨S, 0, none⟩)] #[]) w5 := by
                have h := hm_lookup HM5.out (x := x.kind) (by rw [hj]; decide)
                rw [h, hj]
                rfl
              have HSR : Hid (StepR t s x (useF s x)) := by unfold Hid StepR; rw [hj]; rfl
              have HJ := Lib.hid hj
              clear hj
              go_wp2_with fail
              refine (use_any v t w.heap.size S dB cB fB kB (1001 * k) s x w5 HS5.out HXW.out (by omega)).mono ?_
              rintro e w6 ⟨rfl, hs6, hk6⟩
              have HS6 := Lib.hid hs6
              have HK6 := Lib.hid (HK5.out.trans hk6)
              clear hs6 hk6
              go_wp2_with fail
              go_meet
              exact ⟨_, rfl, HSR.out, HS6.out, HK6.out⟩
            · have hf : (Instr.lookup 83 (.map (some w4.heap.size)) (.int .u8 x.kind) false).run Try.prog w5 = .ok (.func (.func 41) #[.pointer (some ⟨S, 0, none⟩)] #[]) w5 := by
                have h := hm_lookup HM5.out (x := x.kind) (by rw [hj]; decide)
                rw [h, hj]
                rfl
              have HSR : ∀ r, ((EndNo s x ∧ r = (false, s)) ∨ ∃ l, EndYes s x l ∧ r = endF t s l) → Hid (StepR t s x r) := by intro r h; unfold Hid StepR; rw [hj]; exact h
              have HSR' := Lib.hid HSR
              have HJ := Lib.hid hj
              clear hj HSR
              go_wp2_with fail
              refine (end_any v t w.heap.size S dB cB fB kB (1001 * k) s x w5 HS5.out (by omega) HR.out.good.dec).mono ?_
              rintro e w6 (⟨hno, rfl, hs6, hk6⟩ | ⟨ll, hyes, rfl, hs6, hk6⟩)
              · have HQ := Lib.hid (HSR'.out _ (.inl ⟨hno, rfl⟩))
                have HS6 := Lib.hid hs6
                have HK6 := Lib.hid (HK5.out.trans hk6)
                clear hs6 hk6 hno
                go_wp2_with fail
                go_meet
                exact ⟨_, rfl, HQ.out.out, HS6.out, HK6.out⟩
              · have HQ := Lib.hid (HSR'.out _ (.inr ⟨ll, hyes, rfl⟩))
                have HS6 := Lib.hid hs6
                have HK6 := Lib.hid (HK5.out.trans hk6)
                clear hs6 hk6 hyes
                go_wp2_with fail
                go_meet
                exact ⟨_, rfl, HQ.out.out, HS6.out, HK6.out⟩
            · have hf : (Instr.lookup 83 (.map (some w4.heap.size)) (.int .u8 x.kind) false).run Try.prog w5 = .ok (.func (.func 41) #[.pointer (some ⟨S, 0, none⟩)] #[]) w5 := by
                have h := hm_lookup HM5.out (x := x.kind) (by rw [hj]; decide)
                rw [h, hj]
                rfl
              have HSR : ∀ r, ((EndNo s x ∧ r = (false, s)) ∨ ∃ l, EndYes s x l ∧ r = endF t s l) → Hid (StepR t s x r) := by intro r h; unfold Hid StepR; rw [hj]; exact h
              have HSR' := Lib.hid HSR
              have HJ := Lib.hid hj
              clear hj HSR
              go_wp2_with fail
              refine (end_any v t w.heap.size S dB cB fB kB (1001 * k) s x w5 HS5.out (by omega) HR.out.good.dec).mono ?_
              rintro e w6 (⟨hno, rfl, hs6, hk6⟩ | ⟨ll, hyes, rfl, hs6, hk6⟩)
              · have HQ := Lib.hid (HSR'.out _ (.inl ⟨hno, rfl⟩))
                have HS6 := Lib.hid hs6
                have HK6 := Lib.hid (HK5.out.trans hk6)
                clear hs6 hk6 hno
                go_wp2_with fail
                go_meet
                exact ⟨_, rfl, HQ.out.out, HS6.out, HK6.out⟩
              · have HQ := Lib.hid (HSR'.out _ (.inr ⟨ll, hyes, rfl⟩))
                have HS6 := Lib.hid hs6
                have HK6 := Lib.hid (HK5.out.trans hk6)
                clear hs6 hk6 hyes
                go_wp2_with fail
                go_meet
                exact ⟨_, rfl, HQ.out.out, HS6.out, HK6.out⟩
          case rest =>
            obtain ⟨⟨ok, s2⟩, rfl, hst, hsat, hkc⟩ := hcut
            have HST := Lib.hid hst
            have HSAT := Lib.hid hsat
            have HKC := Lib.hid hkc
            have HG := Lib.hid (HR.out.good.step HEX.out hst)
            clear hst hsat hkc
            cases ok
            · have hkwc : Kept [] w wc := ((HK9.out.mono (by simp)).trans HKC.out).mono' (fun x hx hlt => by have := HDX.out x hx; omega)
              have hboxc := HKC.out.obj HE9.out (fun h => by have := HDX.out _ h; omega)
              have c9 := cell_of_one hboxc
              have f9 := free_of_one hboxc
              have hend : Ends t l k 110 s2 := .inr (.inr ⟨HBAD.out, k, s, x, HX.out, HR.out.runs, HST.out, rfl, rfl⟩)
              have HF := Lib.hid (HFIN.out _ k 110 _ _ hboxc hkwc HSAT.out hend)
              clear hend hkwc hboxc p0 p1 p2
              go_wp2_with fail
              first | rw [Exit.noGoto_ret] | skip
              have c5 := HF.out.1
              exact bodyPost_ret (v := .tuple #[.pointer (some ⟨S, 0, none⟩), .int .i64 k, .int .i64 110]) (by simp [results, Try.results20, go_sem, c5]) rfl HF.out.2
            · clear p0 p1 p2
              go_wp2_with fail
              go_roundw
              case rel => exact ⟨k + 1, s2, by omega, by go_num, rfl, rfl, ⟨s, x, HR.out.runs, HX.out, HST.out⟩, HG.out, HSAT.out, HKC.out⟩
              case measure => simp [intOf]; omega
        · have hke : k = l.length := by omega
          have c9 := cell_of_one HBOX.out
          have f9 := free_of_one HBOX.out
          have hend : Ends t l 0 0 s := .inr (.inl ⟨HBAD.out, by rw [← hke]; exact HR.out.runs, rfl, rfl⟩)
          have HF := Lib.hid (HFIN.out _ 0 0 _ _ HBOX.out HKW.out HR.out.sat hend)
          clear hend hke
          go_wp2_with fail
          first | rw [Exit.noGoto_ret] | skip
          have c5 := HF.out.1
          exact bodyPost_ret (v := .tuple #[.pointer (some ⟨S, 0, none⟩), .int .i64 0, .int .i64 0]) (by simp [results, Try.results20, go_sem, c5]) rfl HF.out.2
#print axioms run_any
end Go.Proofs.Ytbjnoffdafpkgaa
