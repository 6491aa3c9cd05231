/- Parts. -/
import Derived.Test.YtbjnoffdafpkgaaB2
import Derived.Test.YtbjnoffdafpkgaaC1
namespace Go.Proofs.Ytbjnoffdafpkgaa
open Go.RowKit

/-- The parts of a type. -/
def partsI (t : Tab) (k : Nat) (x : TyRow) : List Int := Lib.compact (sortI (rawI t k x))

theorem CompsIn.split {w : World} {a : Option Addr} {l : List CRow} (h : CompsIn w a l) : l = [] ∨ ∃ b o, a = some ⟨b, o, none⟩ ∧ ∀ k x, l[k]? = some x → w.rangeAt b (o + k * 6) x.cells := by
  cases l with
  | nil => exact .inl rfl
  | cons c l =>
    obtain ⟨b, o, rfl, _⟩ := h 0 c rfl
    refine .inr ⟨b, o, rfl, fun k x hx => ?_⟩
    obtain ⟨b', o', he, hr⟩ := h k x hx
    injection he with he
    injection he with h1 h2
    subst h1 h2
    exact hr

theorem PEnv.subsAt {w0 w : World} {v : TabV} {t : Tab} {k : Nat} {x : TyRow} {xs : List Int} (h : PEnv w0 v t k x xs w) (hT : TabIn w0 v t) : SubsAt w w0.heap.size t.subs :=
  ⟨v.sa, v.sc, h.subs, hT.2.2.2, hT.2.1.kept h.below⟩

theorem PEnv.alloc {w0 w : World} {v : TabV} {t : Tab} {k : Nat} {x : TyRow} {xs : List Int} (h : PEnv w0 v t k x xs w) (o : Obj) : PEnv w0 v t k x xs (w.alloc o) := by
  obtain ⟨a, c, f1, f2, f3, f4, f5, f6, f7, f8, f9, f10, lv, hl, ho, e1, e2, e3⟩ := h.fits
  exact h.next ⟨lv, (Below.heap_alloc _ _ _ (by omega)).trans hl, ho.alloc o, e1, by simp; omega, e3⟩ ⟨rfl, rfl, rfl, by simp, fun q hq _ => Below.heap_alloc _ _ _ (by omega)⟩

theorem addI_len (n : Nat) (ty x : Int) (xs : List Int) : (addI n ty x xs).length ≤ xs.length + 1 := by unfold addI; split <;> simp
theorem subI_len (n : Nat) (ty : Int) (subs : List Int) (s : Int) (xs : List Int) : (subI n ty subs s xs).length ≤ xs.length + 1 := by
  unfold subI
  split
  · exact addI_len _ _ _ _
  · omega

/-- The components' types so far. -/
def compsI (t : Tab) (k : Nat) (x : TyRow) (j : Nat) : List Int := (x.comps.take j).foldl (fun l c => subI t.types.length k t.subs c.sub l) (subI t.types.length k t.subs x.disc [])

theorem compsI_len (t : Tab) (k : Nat) (x : TyRow) (j : Nat) : (compsI t k x j).length ≤ x.comps.length + 1 := by
  have h : ∀ (l : List CRow) (a : List Int), (l.foldl (fun l c => subI t.types.length k t.subs c.sub l) a).length ≤ l.length + a.length := by
    intro l
    induction l with
    | nil => intro a; simp
    | cons c l ih =>
      intro a
      have h1 := ih (subI t.types.length k t.subs c.sub a)
      have h2 := subI_len t.types.length k t.subs c.sub a
      simp only [List.foldl_cons, List.length_cons]
      omega
  have h1 := h (x.comps.take j) (subI t.types.length k t.subs x.disc [])
  have h2 := subI_len t.types.length k t.subs x.disc []
  simp only [List.length_take, List.length_nil] at h1 h2
  unfold compsI
  omega

theorem compsI_succ (t : Tab) (k : Nat) (x : TyRow) (j : Nat) (c : CRow) (h : x.comps[j]? = some c) : compsI t k x (j + 1) = subI t.types.length k t.subs c.sub (compsI t k x j) := by
  obtain ⟨hj, rfl⟩ := List.getElem?_eq_some_iff.1 h
  unfold compsI
  rw [List.take_succ_eq_append_getElem hj, List.foldl_append]
  rfl

@[go_sem] theorem CRow.get1 (c : CRow) : c.cells[1]? = some (.int .i64 c.sub) := rfl
@[go_sem] theorem CRow.get1' (c : CRow) : c.cells.toArray[1]? = some (.int .i64 c.sub) := rfl

set_option maxRecDepth 100000 in
set_option maxHeartbeats 1000000 in
theorem parts_some (w : World) (v : TabV) (t : Tab) (k : Nat) (x : TyRow) (hT : TabIn w v t) (hx : t.types[k]? = some x) (hcs : x.comps.length ≤ 1000000) :
    Calls Try.prog 14 #[.agg (v.cells t), .int .i64 k] w (RetInts (partsI t k x) w) := by
  have hty := hT.1
  have hn := hT.2.2.1
  have HT := Lib.hid hT
  have hk : k < t.types.length := (List.getElem?_eq_some_iff.1 hx).1
  have hex : exI t.types.length k = true := by simp [exI]; omega
  obtain ⟨b, o, ha, hr⟩ := hty k x hx
  have HR := Lib.hid hr
  clear hT hx hty hr
  unfold TabV.cells
  rw [ha]
  go_enter Try.func14, Try.ntmps14
  go_wp2_with fail
  refine (parts1_any _ w.heap.size t.types.length v.tc (some ⟨b, o, none⟩) _ hn ?_).mono ?_
  · go_simp
  rintro e w1 ⟨rfl, rfl⟩
  go_upto_region 7 with (fail)
  refine wp_gen ?_
  intro w5 hw5
  have hz : w5.heap.size = w.heap.size + 5 := by rw [hw5]; simp
  have g0 : w5.cell? ⟨w.heap.size, 0, none⟩ = some (.slice (some ⟨b, o, none⟩) t.types.length v.tc) := by rw [hw5]; go_simp
  have g1 : w5.cell? ⟨w.heap.size, 1, none⟩ = some (.slice v.sa t.subs.length v.sc) := by rw [hw5]; go_simp
  have g2 : w5.cell? ⟨w.heap.size + 1, 0, none⟩ = some (.int .i64 k) := by rw [hw5]; go_simp
  have g3 : w5.cell? ⟨w.heap.size + 2, 0, none⟩ = some (.func (.func 24) #[] #[.pointer (some ⟨w.heap.size, 0, none⟩)]) := by rw [hw5]; go_simp
  have g4 : w5.cell? ⟨w.heap.size + 4, 0, none⟩ = some (.func (.func 25) #[] #[.pointer (some ⟨w.heap.size + 2, 0, none⟩), .pointer (some ⟨w.heap.size + 1, 0, none⟩), .pointer (some ⟨w.heap.size + 3, 0, none⟩)]) := by rw [hw5]; go_simp
  have g5 : w5.heap[w.heap.size + 3]? = some (.cells #[.slice none 0 0] 38 (0, 0)) := by
    rw [hw5, Below.heap_alloc _ _ _ (by simp)]
    have hq : ∀ W : World, W.heap.size = w.heap.size + 3 → (W.alloc (.cells #[.slice none 0 0] 38)).heap[w.heap.size + 3]? = some (.cells #[.slice none 0 0] 38 (0, 0)) := fun W hW => by rw [← hW]; exact heap_alloc_new W _
    exact hq _ (by simp)
  have hbel : Below w.heap.size w w5 := by
    rw [hw5]
    exact ((((((Below.refl _ _).alloc (Nat.le_refl _) _).alloc (by simp) _).alloc (by simp; omega) _)).alloc (by simp; omega) _).alloc (by simp; omega) _
  have hrow := (HR.out.kept hbel).1
  clear hw5
  have HENV : Hid (PEnv w v t k x [] (w5.alloc (Obj.cells x.cells.toArray 51))) := by
    have hb1 : Below w5.heap.size w5 (w5.alloc (Obj.cells x.cells.toArray 51)) := (Below.refl _ _).alloc (Nat.le_refl _) _
    refine ⟨⟨_, _, cell_kept' hb1 g0, cell_kept' hb1 g3, cell_kept' hb1 g2, hn, by omega, by omega, by omega, by omega, by omega, by omega, ⟨_, (hb1.block _ (by omega)).trans g5, World.ownsRow_nil _ _ _ _, by omega, by simp; omega, by simp⟩⟩, cell_kept' hb1 g4, cell_kept' hb1 g1, ?_, hbel.trans (hb1.mono (by omega))⟩
    have := heap_alloc_new w5 (Obj.cells x.cells.toArray 51)
    rw [hz] at this
    exact this
  have HZ5 := Lib.hid hz
  have HROW := Lib.hid hrow
  clear hbel hz hrow g1 g3 g4 g5
  go_upto_region 8 with (first | (refine wpList_load_mid rfl 51 (.tmp 22) rfl b (o + k * 18) rfl x.cells _ HROW.out Try.underlying51 rfl (Try.info51 x) ?_))
  refine wp_gen ?_
  intro w6 hw6
  rw [← hw6] at HENV
  rw [HZ5.out]
  simp only [Nat.add_assoc, Nat.reduceAdd]
  clear g0 g2 hw6 HROW
  have hk0 : w6.cell? ⟨w.heap.size + 5, 0, none⟩ = some (.int .u8 x.kind) := by rw [cell_of_row _ _ _ _ _ _ HENV.out.row]; rfl
  clear HZ5
  go_upto_block 0 with (fail)
  clear hk0
  go_cut [] (fun wc => PEnv w v t k x (rawI t k x) wc)
  case first =>
    have hadd := HENV.out.add
    have hrow := HENV.out.row
    have q2 : w6.cell? ⟨w.heap.size + 5, 2, none⟩ = some (.int .i64 x.parent) := by rw [cell_of_row _ _ _ _ _ _ hrow]; rfl
    have q5 : w6.cell? ⟨w.heap.size + 5, 5, none⟩ = some (.int .i64 x.index) := by rw [cell_of_row _ _ _ _ _ _ hrow]; rfl
    have q7 : w6.cell? ⟨w.heap.size + 5, 7, none⟩ = some (.int .i64 x.disc) := by rw [cell_of_row _ _ _ _ _ _ hrow]; rfl
    clear hrow
    cases h2 : (x.kind == 2)
    · cases h3 : (x.kind == 3)
      · cases h4 : (x.kind == 4)
        · cases h5 : (x.kind == 5)
          · have HX : Hid (rawI t k x = []) := by simp [Hid, rawI, h2, h3, h4, h5]
            go_wp2_with fail
            go_meet
            rw [HX.out]
            exact HENV.out
          · have HX : Hid (rawI t k x = compsI t k x x.comps.length) := by simp [Hid, rawI, h2, h3, h4, h5, compsI]
            go_wp2_with fail
            refine (parts3_any _ (w.heap.size + 6) (w.heap.size + 3) t.types.length w.heap.size (w.heap.size + 2) (w.heap.size + 1) (w.heap.size + 4) k x.disc [] t.subs HENV.out.fits (by simp) (HENV.out.subsAt HT.out) hadd).mono ?_
            rintro e w7 ⟨rfl, hp, hb⟩
            have HN := Lib.hid (HENV.out.next hp hb)
            clear hp hb hadd q2 q5 q7
            have hrow := HN.out.row
            have q11 : w7.cell? ⟨w.heap.size + 5, 11, none⟩ = some (.slice x.compsA x.comps.length x.compsC) := by rw [cell_of_row _ _ _ _ _ _ hrow]; rfl
            clear hrow
            rcases HR.out.2.split with hce | ⟨cb, co, hca, hcr⟩
            · have hce0 : x.comps.length = 0 := by rw [hce]; rfl
              rw [hce0] at q11
              have HCE := Lib.hid hce
              clear hce hce0
              go_wp2_with fail
              go_loopw [52] (fun i wr => i = .int .i64 0 ∧ PEnv w v t k x (compsI t k x 0) wr) (fun _ _ => 0)
              case atStart => exact ⟨rfl, HN.out⟩
              case round =>
                obtain ⟨rfl, he⟩ := hrel
                have HE := Lib.hid he
                clear he q11
                go_wp2_with fail
                go_meet
                rw [HX.out, HCE.out]
                exact HE.out
            · rw [hca] at q11
              have HCA := Lib.hid hca
              have HCR := Lib.hid hcr
              clear hca hcr
              go_wp2_with fail
              go_loopw [52] (fun i wr => ∃ j : Nat, j ≤ x.comps.length ∧ i = .int .i64 j ∧ PEnv w v t k x (compsI t k x j) wr) (fun i _ => x.comps.length - (intOf i).toNat)
              case atStart => exact ⟨0, Nat.zero_le _, rfl, HN.out⟩
              case round =>
                obtain ⟨j, hj, rfl, he⟩ := hrel
                have HE := Lib.hid he
                clear he q11
                by_cases hlt : j < x.comps.length
                · obtain ⟨c, hc⟩ : ∃ c, x.comps[j]? = some c := ⟨_, List.getElem?_eq_getElem hlt⟩
                  have HS := Lib.hid (compsI_succ t k x j c hc)
                  have HCR2 := Lib.hid (rangeAt_kept HE.out.below (HCR.out j c hc))
                  clear hc
                  go_wp2_with (refine wpList_load_mid rfl 75 (.tmp 54) rfl cb (co + j * 6) rfl c.cells _ HCR2.out Try.underlying75 rfl (Try.info75 c) ?_)
                  have HA := Lib.hid (HE.out.alloc (.cells c.cells.toArray 75))
                  refine (parts3_any _ (w.heap.size + 6) (w.heap.size + 3) t.types.length w.heap.size (w.heap.size + 2) (w.heap.size + 1) (w.heap.size + 4) k c.sub (compsI t k x j) t.subs HA.out.fits (by have := compsI_len t k x j; omega) (HA.out.subsAt HT.out) HA.out.add).mono ?_
                  rintro e w8 ⟨rfl, hp, hb⟩
                  have HN2 := Lib.hid (HA.out.next hp hb)
                  clear hp hb
                  go_wp2_with fail
                  go_roundw
                  case rel => exact ⟨j + 1, by omega, by go_num, by rw [HS.out]; exact HN2.out⟩
                  case measure => simp [intOf]; omega
                · go_wp2_with fail
                  go_meet
                  rw [HX.out]
                  have : j = x.comps.length := by omega
                  rw [← this]
                  exact HE.out
        · have HX : Hid (rawI t k x = subI t.types.length k t.subs x.elem (subI t.types.length k t.subs x.index [])) := by simp [Hid, rawI, h2, h3, h4]
          go_wp2_with fail
          refine (parts3_any _ (w.heap.size + 6) (w.heap.size + 3) t.types.length w.heap.size (w.heap.size + 2) (w.heap.size + 1) (w.heap.size + 4) k x.index [] t.subs HENV.out.fits (by simp) (HENV.out.subsAt HT.out) hadd).mono ?_
          rintro e w7 ⟨rfl, hp, hb⟩
          have HN := Lib.hid (HENV.out.next hp hb)
          clear hp hb hadd q2 q5 q7
          have hrow := HN.out.row
          have hadd := HN.out.add
          have q6 : w7.cell? ⟨w.heap.size + 5, 6, none⟩ = some (.int .i64 x.elem) := by rw [cell_of_row _ _ _ _ _ _ hrow]; rfl
          clear hrow
          go_wp2_with fail
          refine (parts3_any _ (w.heap.size + 6) (w.heap.size + 3) t.types.length w.heap.size (w.heap.size + 2) (w.heap.size + 1) (w.heap.size + 4) k x.elem _ t.subs HN.out.fits (by have := subI_len t.types.length k t.subs x.index []; simp at this; omega) (HN.out.subsAt HT.out) hadd).mono ?_
          rintro e w8 ⟨rfl, hp, hb⟩
          have HN2 := Lib.hid (HN.out.next hp hb)
          clear hp hb
          go_wp2_with fail
          go_meet
          rw [HX.out]
          exact HN2.out
      · have HX : Hid (rawI t k x = addI t.types.length k x.parent []) := by simp [Hid, rawI, h2, h3]
        go_wp2_with fail
        refine (parts2_any _ (w.heap.size + 6) (w.heap.size + 3) t.types.length w.heap.size (w.heap.size + 2) (w.heap.size + 1) k x.parent [] HENV.out.fits (by simp)).mono ?_
        rintro e w7 ⟨rfl, hp, hb⟩
        have HN := Lib.hid (HENV.out.next hp hb)
        clear hp hb
        go_wp2_with fail
        go_meet
        rw [HX.out]
        exact HN.out
    · have HX : Hid (rawI t k x = addI t.types.length k x.parent []) := by simp [Hid, rawI, h2]
      go_wp2_with fail
      refine (parts2_any _ (w.heap.size + 6) (w.heap.size + 3) t.types.length w.heap.size (w.heap.size + 2) (w.heap.size + 1) k x.parent [] HENV.out.fits (by simp)).mono ?_
      rintro e w7 ⟨rfl, hp, hb⟩
      have HN := Lib.hid (HENV.out.next hp hb)
      clear hp hb
      go_wp2_with fail
      go_meet
      rw [HX.out]
      exact HN.out
  case rest =>
    have HC := Lib.hid hcut
    clear hcut
    obtain ⟨⟨_, _, _, _, _, _, _, _, _, _, _, _, lv, hl, ho, _, hbs, hrl⟩, _, _, _, hbel⟩ := HC.out
    have hl0 := cell_of_one hl
    have hown : ∀ q, lv.ownBlock = some q → w.heap.size + 6 ≤ q := fun q hq => (ho.lt q hq).1
    have HL := Lib.hid hl
    have HO := Lib.hid ho
    have HW := Lib.hid hown
    have HBL := Lib.hid hbel
    clear hl ho hown hbel
    go_wp2_with fail
    refine (sort_own wc (w.heap.size + 6) lv (rawI t k x) HO.out (by omega)).mono ?_
    rintro e ws ⟨rfl, ho1, hg1⟩
    have hl1 : ws.cell? ⟨w.heap.size + 3, 0, none⟩ = some lv := hg1.cell hl0 (fun e => by have h : w.heap.size + 6 ≤ w.heap.size + 3 := HW.out _ e.symm; omega)
    have hb1 : Below w.heap.size w ws := HBL.out.grown hg1 (by omega) (fun q hq => by have := HW.out _ hq; omega)
    have hz1 := hg1.size
    have HO1 := Lib.hid ho1
    have HB1 := Lib.hid hb1
    clear ho1 hg1 hb1 hl0
    go_wp2_with fail
    refine (compact_own ws (w.heap.size + 6) lv (sortI (rawI t k x)) HO1.out (by simp [sortI]; omega)).mono ?_
    rintro e wf ⟨v', rfl, ho2, hg2, hv2⟩
    have HO2 := Lib.hid ho2
    have HB2 : Hid (Below w.heap.size w wf) := HB1.out.grown hg2 (by omega) (fun q hq => by have := HW.out _ hq; omega)
    clear ho2 hg2 hv2
    go_wp2
    go_ret
    exact ⟨v', rfl, ownsRow_base HO2.out (by omega), HB2.out⟩
#print axioms parts_some
end Go.Proofs.Ytbjnoffdafpkgaa
