/- The events. -/
import Derived.Test.YtbjnoffdafpkgaaF3
import Derived.Test.YtbjnoffdafpkgaaM3
namespace Go.Proofs.Ytbjnoffdafpkgaa
open Go.RowKit

/-- The program's state. -/
structure PS where
  dec : Int → Option Bool
  com : Int → Option Bool
  frz : Int → Option Bool
  con : Int → Option (Int × Bool)

/-- An event. -/
structure EvV where
  kind : Int
  ty : Int
  num : Int

def EvV.val (x : EvV) : Value := .agg #[.int .u8 x.kind, .int .i64 x.ty, .int .i64 x.num]
def EvV.wf (x : EvV) : Prop := (Lit.int .i64 x.ty).wf = true ∧ (Lit.int .i64 x.num).wf = true

abbrev CM := CMap Try.prog 3
theorem cm_look {w : World} {b n : Nat} {M : Int → Option (Int × Bool)} (h : CM w b n M) {x : Int} (hx : (Lit.int .i64 x).wf = true) : (Instr.lookup 65 (.map (some b)) (.int .i64 x) true).run Try.prog w = .ok (.tuple #[encC ((M x).getD (0, false)), .bool (M x).isSome]) w :=
  h.look Try.underlying3 Try.underlying65 Try.zeroValue94 hx
theorem cm_update {w : World} {b n : Nat} {M : Int → Option (Int × Bool)} (h : CM w b n M) (hn : n < maxLen) {x : Int} (hx : (Lit.int .i64 x).wf = true) (v : Int × Bool) :
    ∃ w', (Instr.mapUpdate 65 (.map (some b)) (.int .i64 x) (encC v)).run Try.prog w = .ok () w' ∧ CM w' b (n + 1) (updM M x v) ∧ w.grownBy w' (some b) ∧ w'.heap.size = w.heap.size :=
  h.update Try.underlying3 Try.underlying65 hn hx v

/-- The state lies in memory. -/
structure SAt (v : TabV) (t : Tab) (B S dB cB fB kB n : Nat) (s : PS) (w : World) : Prop where
  tab : TabUnder B w v t
  small : Small t
  num : t.types.length ≤ 1000
  st : StAt v t S dB cB fB kB w
  decl : BM w dB n s.dec
  comp : BM w cB n s.com
  froz : BM w fB n s.frz
  cons : CM w kB n s.con
  n1 : dB ≠ cB
  n2 : dB ≠ fB
  n3 : dB ≠ kB
  n4 : cB ≠ fB
  n5 : cB ≠ kB
  n6 : fB ≠ kB
  n7 : S ∉ [dB, cB, fB, kB]
  b1 : B ≤ dB
  b2 : B ≤ cB
  b3 : B ≤ fB
  b4 : B ≤ kB

theorem SAt.kept {v : TabV} {t : Tab} {B S dB cB fB kB n : Nat} {s : PS} {w w' : World} (h : SAt v t B S dB cB fB kB n s w) (hk : Kept [] w w') : SAt v t B S dB cB fB kB n s w' :=
  { h with
    tab := h.tab.kept hk (by simp)
    st := h.st.kept hk (by simp)
    decl := h.decl.block (hk.block _ h.decl.lt (by simp))
    comp := h.comp.block (hk.block _ h.comp.lt (by simp))
    froz := h.froz.block (hk.block _ h.froz.lt (by simp))
    cons := h.cons.block (hk.block _ h.cons.lt (by simp)) }

theorem SAt.mono {v : TabV} {t : Tab} {B S dB cB fB kB n n' : Nat} {s : PS} {w : World} (h : SAt v t B S dB cB fB kB n s w) (hn : n ≤ n') : SAt v t B S dB cB fB kB n' s w :=
  { h with decl := h.decl.mono hn, comp := h.comp.mono hn, froz := h.froz.mono hn, cons := h.cons.mono hn }

theorem SAt.setDec {v : TabV} {t : Tab} {B S dB cB fB kB n n' : Nat} {s : PS} {w w' : World} {M : Int → Option Bool} (h : SAt v t B S dB cB fB kB n s w) (hg : w.grownBy w' (some dB)) (hm : BM w' dB n' M) (hn : n ≤ n') : SAt v t B S dB cB fB kB n' { s with dec := M } w' :=
  have hk : Kept [dB] w w' := Kept.of_grown hg (fun q hq _ => by injection hq with hq; simp [hq])
  { h with
    tab := h.tab.kept hk (fun x hx => by have := h.b1; simp at hx; omega)
    st := h.st.kept hk (by have := h.n7; simp at this ⊢; omega)
    decl := hm
    comp := (h.comp.block (hk.block _ h.comp.lt (by have := h.n1; simp; omega))).mono hn
    froz := (h.froz.block (hk.block _ h.froz.lt (by have := h.n2; simp; omega))).mono hn
    cons := (h.cons.block (hk.block _ h.cons.lt (by have := h.n3; simp; omega))).mono hn }

theorem SAt.setCom {v : TabV} {t : Tab} {B S dB cB fB kB n n' : Nat} {s : PS} {w w' : World} {M : Int → Option Bool} (h : SAt v t B S dB cB fB kB n s w) (hg : w.grownBy w' (some cB)) (hm : BM w' cB n' M) (hn : n ≤ n') : SAt v t B S dB cB fB kB n' { s with com := M } w' :=
  have hk : Kept [cB] w w' := Kept.of_grown hg (fun q hq _ => by injection hq with hq; simp [hq])
  { h with
    tab := h.tab.kept hk (fun x hx => by have := h.b2; simp at hx; omega)
    st := h.st.kept hk (by have := h.n7; simp at this ⊢; omega)
    comp := hm
    decl := (h.decl.block (hk.block _ h.decl.lt (by have := h.n1; simp; omega))).mono hn
    froz := (h.froz.block (hk.block _ h.froz.lt (by have := h.n4; simp; omega))).mono hn
    cons := (h.cons.block (hk.block _ h.cons.lt (by have := h.n5; simp; omega))).mono hn }

theorem SAt.setFrz {v : TabV} {t : Tab} {B S dB cB fB kB n n' : Nat} {s : PS} {w w' : World} {M : Int → Option Bool} (h : SAt v t B S dB cB fB kB n s w) (hk : Kept [fB] w w') (hm : BM w' fB n' M) (hn : n ≤ n') : SAt v t B S dB cB fB kB n' { s with frz := M } w' :=
  { h with
    tab := h.tab.kept hk (fun x hx => by have := h.b3; simp at hx; omega)
    st := h.st.kept hk (by have := h.n7; simp at this ⊢; omega)
    froz := hm
    decl := (h.decl.block (hk.block _ h.decl.lt (by have := h.n2; simp; omega))).mono hn
    comp := (h.comp.block (hk.block _ h.comp.lt (by have := h.n4; simp; omega))).mono hn
    cons := (h.cons.block (hk.block _ h.cons.lt (by have := h.n6; simp; omega))).mono hn }

theorem SAt.setCon {v : TabV} {t : Tab} {B S dB cB fB kB n n' : Nat} {s : PS} {w w' : World} {M : Int → Option (Int × Bool)} (h : SAt v t B S dB cB fB kB n s w) (hg : w.grownBy w' (some kB)) (hm : CM w' kB n' M) (hn : n ≤ n') : SAt v t B S dB cB fB kB n' { s with con := M } w' :=
  have hk : Kept [kB] w w' := Kept.of_grown hg (fun q hq _ => by injection hq with hq; simp [hq])
  { h with
    tab := h.tab.kept hk (fun x hx => by have := h.b4; simp at hx; omega)
    st := h.st.kept hk (by have := h.n7; simp at this ⊢; omega)
    cons := hm
    decl := (h.decl.block (hk.block _ h.decl.lt (by have := h.n3; simp; omega))).mono hn
    comp := (h.comp.block (hk.block _ h.comp.lt (by have := h.n5; simp; omega))).mono hn
    froz := (h.froz.block (hk.block _ h.froz.lt (by have := h.n6; simp; omega))).mono hn }

theorem SAt.env {v : TabV} {t : Tab} {B S dB cB fB kB n : Nat} {s : PS} {w : World} (h : SAt v t B S dB cB fB kB n s w) : SEnv v t B S dB cB fB kB n n n s.dec s.com s.frz w :=
  { tab := h.tab, small := h.small, num := h.num, st := h.st, decl := h.decl, comp := h.comp, froz := h.froz, n1 := h.n2, n2 := h.n4, b1 := h.b3 }

/-- What a method leaves. -/
def EPost (v : TabV) (t : Tab) (B S dB cB fB kB n : Nat) (r : Bool × PS) (w : World) (e : Ending) (w' : World) : Prop :=
  e = .returned (.bool r.1) ∧ SAt v t B S dB cB fB kB (n + 1001) r.2 w' ∧ Kept [dB, cB, fB, kB] w w'

def declareF (s : PS) (x : EvV) : Bool × PS :=
  if (s.dec x.ty).getD false || (s.frz x.ty).getD false then (false, s)
  else (true, { s with dec := updM s.dec x.ty true, com := if x.kind == 1 then updM s.com x.ty true else s.com })

def fullF (s : PS) (x : EvV) : Bool × PS :=
  if !(s.dec x.ty).getD false || (s.com x.ty).getD false then (false, s)
  else (true, { s with com := updM s.com x.ty true })

theorem Kept.drewN (X : List Nat) (w : World) (q : Nat) : Kept X w (w.drewN q) := ⟨rfl, rfl, rfl, Nat.le_refl _, fun _ _ _ => rfl⟩

theorem EPost.of {v : TabV} {t : Tab} {B S dB cB fB kB n n' : Nat} {s : PS} {w w' : World} {X : List Nat} {b : Bool} (h : SAt v t B S dB cB fB kB n' s w') (hn : n' ≤ n + 1001) (hk : Kept X w w') (hx : ∀ x, x ∈ X → x ∈ [dB, cB, fB, kB]) : EPost v t B S dB cB fB kB n (b, s) w (.returned (.bool b)) w' :=
  ⟨rfl, h.mono hn, hk.mono hx⟩

set_option maxRecDepth 100000 in
set_option maxHeartbeats 1000000 in
theorem full_any (v : TabV) (t : Tab) (B S dB cB fB kB n : Nat) (s : PS) (x : EvV) (w : World) (hE : SAt v t B S dB cB fB kB n s w) (hx : x.wf) (hn : n ≤ 1000000000) :
    Calls Try.prog 36 #[.pointer (some ⟨S, 0, none⟩), x.val] w (EPost v t B S dB cB fB kB n (fullF s x) w) := by
  have hwx := hx.1
  have hk1 : Kept [] w (w.alloc (.cells #[.int .u8 x.kind, .int .i64 x.ty, .int .i64 x.num] 45)) := Kept.alloc _ _ _
  have HE1 := Lib.hid (hE.kept hk1)
  have HK1 := Lib.hid hk1
  clear hE hk1 hx
  unfold EvV.val
  go_enter Try.func36, Try.ntmps36
  go_upto_region 1 with (fail)
  refine wp_gen ?_
  intro w1 hw1
  rw [← hw1] at HE1 HK1
  have c0 : w1.cell? ⟨w.heap.size, 1, none⟩ = some (.int .i64 x.ty) := by rw [hw1]; go_simp
  clear hw1
  have c1 := HE1.out.st.dec
  have c2 := HE1.out.st.com
  have l1 := fun q => bm_lookup (w := w1.drewN q) (HE1.out.decl.block rfl) hwx
  have l2 := fun q => bm_lookup (w := w1.drewN q) (HE1.out.comp.block rfl) hwx
  cases hd : (s.dec x.ty).getD false
  · have HX : Hid (fullF s x = (false, s)) := by simp [Hid, fullF, hd]
    simp only [hd] at l1
    clear l2 hd
    go_quiet (fail)
    go_wp2_with fail
    go_ret
    rw [HX.out]
    exact EPost.of (HE1.out.kept (Kept.drewN _ _ _)) (by omega) (HK1.out.trans (Kept.drewN _ _ _)) (by simp)
  · cases hc : (s.com x.ty).getD false
    · have HX : Hid (fullF s x = (true, { s with com := updM s.com x.ty true })) := by simp [Hid, fullF, hd, hc]
      simp only [hd] at l1
      simp only [hc] at l2
      clear hd hc
      go_quiet (fail)
      go_upto_region 3 with (fail)
      refine wp_gen ?_
      intro w2 hw2
      have c3 : w2.cell? ⟨w.heap.size, 1, none⟩ = some (.int .i64 x.ty) := by rw [hw2]; exact c0
      have HE2 : Hid (SAt v t B S dB cB fB kB n s w2) := by rw [hw2]; exact HE1.out.kept (Kept.drewN _ _ _)
      have HK2 : Hid (Kept [] w w2) := by rw [hw2]; exact HK1.out.trans (Kept.drewN _ _ _)
      clear hw2 c0 c1 c2 l1 l2
      have c2 := HE2.out.st.com
      obtain ⟨w3, hup, hm3, hg3, hz3⟩ := bm_update (w := w2.drew) (HE2.out.comp.block rfl) (by unfold maxLen; omega) hwx true
      have HE3 := Lib.hid ((HE2.out.kept (Kept.drew _ _)).setCom hg3 hm3 (by omega))
      have HK3 : Hid (Kept [cB] w w3) := ((HK2.out.mono (by simp)).trans (Kept.drew _ _)).trans (Kept.of_grown hg3 (fun q hq _ => by injection hq with hq; simp [hq]))
      clear hm3 hg3 hz3
      go_still_tail 6, (by kernel_rfl)
      change wpList _ _ _ _ _ w2.drew
      go_wp2_with fail
      go_ret
      rw [HX.out]
      exact EPost.of HE3.out (by omega) HK3.out (by simp)
    · have HX : Hid (fullF s x = (false, s)) := by simp [Hid, fullF, hc]
      simp only [hd] at l1
      simp only [hc] at l2
      clear hd hc
      go_quiet (fail)
      go_wp2_with fail
      go_ret
      rw [HX.out]
      exact EPost.of (HE1.out.kept (Kept.drewN _ _ _)) (by omega) (HK1.out.trans (Kept.drewN _ _ _)) (by simp)

set_option maxRecDepth 100000 in
set_option maxHeartbeats 1000000 in
theorem declare_any (v : TabV) (t : Tab) (B S dB cB fB kB n : Nat) (s : PS) (x : EvV) (w : World) (hE : SAt v t B S dB cB fB kB n s w) (hx : x.wf) (hn : n ≤ 1000000000) :
    Calls Try.prog 35 #[.pointer (some ⟨S, 0, none⟩), x.val] w (EPost v t B S dB cB fB kB n (declareF s x) w) := by
  have hwx := hx.1
  have hk1 : Kept [] w (w.alloc (.cells #[.int .u8 x.kind, .int .i64 x.ty, .int .i64 x.num] 45)) := Kept.alloc _ _ _
  have HE1 := Lib.hid (hE.kept hk1)
  have HK1 := Lib.hid hk1
  clear hE hk1 hx
  unfold EvV.val
  go_enter Try.func35, Try.ntmps35
  go_upto_region 1 with (fail)
  refine wp_gen ?_
  intro w1 hw1
  rw [← hw1] at HE1 HK1
  have c0 : w1.cell? ⟨w.heap.size, 1, none⟩ = some (.int .i64 x.ty) := by rw [hw1]; go_simp
  have c00 : w1.cell? ⟨w.heap.size, 0, none⟩ = some (.int .u8 x.kind) := by rw [hw1]; go_simp
  clear hw1
  have c1 := HE1.out.st.dec
  have c2 := HE1.out.st.frz
  have l1 := fun q => bm_lookup (w := w1.drewN q) (HE1.out.decl.block rfl) hwx
  have l2 := fun q => bm_lookup (w := w1.drewN q) (HE1.out.froz.block rfl) hwx
  cases hd : (s.dec x.ty).getD false
  · cases hc : (s.frz x.ty).getD false
    · simp only [hd] at l1
      simp only [hc] at l2
      have HD := Lib.hid hd
      have HC := Lib.hid hc
      clear hd hc
      go_quiet (fail)
      go_upto_region 3 with (fail)
      refine wp_gen ?_
      intro w2 hw2
      have c3 : w2.cell? ⟨w.heap.size, 1, none⟩ = some (.int .i64 x.ty) := by rw [hw2]; exact c0
      have c30 : w2.cell? ⟨w.heap.size, 0, none⟩ = some (.int .u8 x.kind) := by rw [hw2]; exact c00
      have HE2 : Hid (SAt v t B S dB cB fB kB n s w2) := by rw [hw2]; exact HE1.out.kept (Kept.drewN _ _ _)
      have HK2 : Hid (Kept [] w w2) := by rw [hw2]; exact HK1.out.trans (Kept.drewN _ _ _)
      clear hw2 c0 c00 c1 c2 l1 l2
      have c2 := HE2.out.st.dec
      obtain ⟨w3, hup, hm3, hg3, hz3⟩ := bm_update (w := w2.drew) (HE2.out.decl.block rfl) (by unfold maxLen; omega) hwx true
      have HE3 := Lib.hid ((HE2.out.kept (Kept.drew _ _)).setDec hg3 hm3 (by omega))
      have hk23 : Kept [dB] w2 w3 := (Kept.drew _ _).trans (Kept.of_grown hg3 (fun q hq _ => by injection hq with hq; simp [hq]))
      have c4 := hk23.cell c3 (by have := cell_not_map c3 HE2.out.decl; simpa using this)
      have c40 := hk23.cell c30 (by have := cell_not_map c3 HE2.out.decl; simpa using this)
      have HK3 : Hid (Kept [dB, cB] w w3) := (HK2.out.mono (by simp)).trans (hk23.mono (by simp))
      clear hm3 hg3 hz3 hk23
      have c5 := HE3.out.st.com
      obtain ⟨w4, hup4, hm4, hg4, hz4⟩ := bm_update (w := w3.drew) (HE3.out.comp.block rfl) (by unfold maxLen; omega) hwx true
      have HE4 := Lib.hid ((HE3.out.kept (Kept.drew _ _)).setCom hg4 hm4 (by omega))
      have HK4 : Hid (Kept [dB, cB] w w4) := (HK3.out.trans (Kept.drew _ _)).trans (Kept.of_grown hg4 (fun q hq _ => by injection hq with hq; simp [hq]))
      clear hm4 hg4 hz4
      cases hk : (x.kind == 1)
      · have HX : Hid (declareF s x = (true, { s with dec := updM s.dec x.ty true })) := by simp [Hid, declareF, HD.out, HC.out, hk]
        clear hup4
        go_still_tail 6, (by kernel_rfl)
        change wpList _ _ _ _ _ w2.drew
        go_wp2_with fail
        go_ret
        rw [HX.out]
        exact EPost.of HE3.out (by omega) HK3.out (by simp)
      · have HX : Hid (declareF s x = (true, { s with dec := updM s.dec x.ty true, com := updM s.com x.ty true })) := by simp [Hid, declareF, HD.out, HC.out, hk]
        go_still_tail 6, (by kernel_rfl)
        change wpList _ _ _ _ _ w2.drew
        go_upto_region 5 with (fail)
        go_still_tail 6, (by kernel_rfl)
        change wpList _ _ _ _ _ w3.drew
        go_wp2_with fail
        go_ret
        rw [HX.out]
        exact EPost.of HE4.out (by omega) HK4.out (by simp)
    · have HX : Hid (declareF s x = (false, s)) := by simp [Hid, declareF, hc]
      simp only [hd] at l1
      simp only [hc] at l2
      clear hd hc
      go_quiet (fail)
      go_wp2_with fail
      go_ret
      rw [HX.out]
      exact EPost.of (HE1.out.kept (Kept.drewN _ _ _)) (by omega) (HK1.out.trans (Kept.drewN _ _ _)) (by simp)
  · have HX : Hid (declareF s x = (false, s)) := by simp [Hid, declareF, hd]
    simp only [hd] at l1
    clear l2 hd
    go_quiet (fail)
    go_wp2_with fail
    go_ret
    rw [HX.out]
    exact EPost.of (HE1.out.kept (Kept.drewN _ _ _)) (by omega) (HK1.out.trans (Kept.drewN _ _ _)) (by simp)
#print axioms full_any
#print axioms declare_any
end Go.Proofs.Ytbjnoffdafpkgaa
