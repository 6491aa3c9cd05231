/- Select$1. Select. -/
import Derived.Test.YtlgcboaojdhneaaB12
namespace Go.Proofs.Ytlgcboaojdhneaa
open Go.RowKit Go.Shelf

/-- An entity of e that may be selected. -/
def pickB (t : Tab) (h : WhV) (e : Int) (b4 b5 : Bool) (k : Int) (y : EntV) : Bool := ((y.owner == e) && (e != 0 || namedR t h k y)) && (b4 || (b5 && (y.part == 0)))

set_option maxRecDepth 100000 in
set_option maxHeartbeats 4000000 in
theorem select1_any (w : World) (F Bv Be Bf B4 B5 : Nat) (v : TabV) (t : Tab) (h : WhV) (name : ByteArray) (all : List Int) (k : Nat) (y : EntV) (hy : t.ents[k]? = some y) (hF : FinderIn w F v t h name all) (e : Int) (b4 b5 : Bool)
    (hBv : w.cell? ⟨Bv, 2, none⟩ = some (.slice v.ea t.ents.length v.ec)) (hBe : w.cell? ⟨Be, 0, none⟩ = some (.int .i64 e)) (hBf : w.cell? ⟨Bf, 0, none⟩ = some (.pointer (some ⟨F, 0, none⟩)))
    (hB4 : w.cell? ⟨B4, 0, none⟩ = some (.bool b4)) (hB5 : w.cell? ⟨B5, 0, none⟩ = some (.bool b5)) :
    Calls Try.prog 42 #[.int .i64 k, .pointer (some ⟨Bv, 0, none⟩), .pointer (some ⟨Be, 0, none⟩), .pointer (some ⟨Bf, 0, none⟩), .pointer (some ⟨B4, 0, none⟩), .pointer (some ⟨B5, 0, none⟩)] w (RetB (pickB t h e b4 b5 k y) w) := by
  have HF := Lib.hid hF
  have HY := Lib.hid hy
  have q1 := hF.tab.el
  have q2 := hF.tab.em
  have hyl := (List.getElem?_eq_some_iff.1 hy).1
  obtain ⟨b, o, hea, hr⟩ := hF.tab.es.some_ hy
  have HRY := Lib.hid (hr k y hy)
  rw [hea] at hBv
  have j3 : (0 : Int) ≤ (k : Int) := by omega
  have j4 : (k : Int) < (t.ents.length : Int) := by omega
  have HR : Hid (pickB t h e b4 b5 k y = (((y.owner == e) && (e != 0 || namedR t h k y)) && (b4 || (b5 && (y.part == 0))))) := rfl
  clear hy hF hr hea
  go_enter Try.func42, Try.ntmps42
  go_upto_region 2 with (refine wpList_load_mid rfl 43 (.tmp 12) rfl b (o + k * 22) rfl y.cells _ HRY.out Try.underlying43 rfl (Try.info43 y) ?_)
  refine wp_gen' ?_
  intro w0 hw0
  have hk0 : Kept [] w w0 := by rw [hw0]; exact Kept.alloc _ _ _
  have by0 : w0.heap[w.heap.size]? = some (.cells y.cells.toArray 43 (0, 0)) := by rw [hw0]; exact heap_alloc_new _ _
  have HK0 := Lib.hid hk0
  have ce := hk0.cell hBe (by simp)
  have cf := hk0.cell hBf (by simp)
  have c4 := hk0.cell hB4 (by simp)
  have c5 := hk0.cell hB5 (by simp)
  have y2 := ent_cell (x := y) by0 2 rfl
  have y3 := ent_cell (x := y) by0 3 rfl
  have HC := Lib.hid (named_any w0 F v t h name all k y HY.out (HF.out.kept hk0))
  generalize w.heap.size = Y at *
  clear hw0 hk0 by0 hBe hBf hB4 hB5 hBv
  cases h1 : (y.owner == e)
  · rw [h1] at HR
    have h1' : ¬ y.owner = e := by simpa using h1
    clear c4 c5 y3
    go_wp2_with fail
    go_ret
    exact ⟨by rw [HR.out]; rfl, HK0.out⟩
  · rw [h1] at HR
    have h1' : y.owner = e := by simpa using h1
    rw [h1'] at y2
    cases h2 : (e != 0)
    · rw [h2] at HR
      have h2' : e = 0 := by simpa using h2
      cases h4 : namedR t h k y
      · rw [h4] at HR HC
        go_wp2_with fail
        refine HC.out.mono ?_
        rintro e1 w1 ⟨rfl, hk1⟩
        have ce := hk1.cell ce (by simp)
        have c4 := hk1.cell c4 (by simp)
        have c5 := hk1.cell c5 (by simp)
        have y3 := hk1.cell y3 (by simp)
        have HK1 := Lib.hid (HK0.out.trans hk1)
        clear hk1 HC
        go_wp2_with fail
        go_ret
        exact ⟨by rw [HR.out]; rfl, HK1.out⟩
      · rw [h4] at HR HC
        cases b4
        · cases b5
          · go_wp2_with fail
            refine HC.out.mono ?_
            rintro e1 w1 ⟨rfl, hk1⟩
            have ce := hk1.cell ce (by simp)
            have c4 := hk1.cell c4 (by simp)
            have c5 := hk1.cell c5 (by simp)
            have y3 := hk1.cell y3 (by simp)
            have HK1 := Lib.hid (HK0.out.trans hk1)
            clear hk1 HC
            go_wp2_with fail
            go_ret
            exact ⟨by rw [HR.out]; rfl, HK1.out⟩
          · cases h3 : (y.part == 0)
            · rw [h3] at HR
              have h3' : y.part ≠ 0 := by simpa using h3
              go_wp2_with fail
              refine HC.out.mono ?_
              rintro e1 w1 ⟨rfl, hk1⟩
              have ce := hk1.cell ce (by simp)
              have c4 := hk1.cell c4 (by simp)
              have c5 := hk1.cell c5 (by simp)
              have y3 := hk1.cell y3 (by simp)
              have HK1 := Lib.hid (HK0.out.trans hk1)
              clear hk1 HC
              go_wp2_with fail
              go_ret
              exact ⟨by rw [HR.out]; rfl, HK1.out⟩
            · rw [h3] at HR
              have h3' : y.part = 0 := by simpa using h3
              rw [h3'] at y3
              go_wp2_with fail
              refine HC.out.mono ?_
              rintro e1 w1 ⟨rfl, hk1⟩
              have ce := hk1.cell ce (by simp)
              have c4 := hk1.cell c4 (by simp)
              have c5 := hk1.cell c5 (by simp)
              have y3 := hk1.cell y3 (by simp)
              have HK1 := Lib.hid (HK0.out.trans hk1)
              clear hk1 HC
              go_wp2_with fail
              go_ret
              exact ⟨by rw [HR.out]; rfl, HK1.out⟩
        · go_wp2_with fail
          refine HC.out.mono ?_
          rintro e1 w1 ⟨rfl, hk1⟩
          have ce := hk1.cell ce (by simp)
          have c4 := hk1.cell c4 (by simp)
          have c5 := hk1.cell c5 (by simp)
          have y3 := hk1.cell y3 (by simp)
          have HK1 := Lib.hid (HK0.out.trans hk1)
          clear hk1 HC
          go_wp2_with fail
          go_ret
          exact ⟨by rw [HR.out]; rfl, HK1.out⟩
    · rw [h2] at HR
      have h2' : ¬ e = 0 := by simpa using h2
      clear HC
      cases b4
      · cases b5
        · go_wp2_with fail
          go_ret
          exact ⟨by rw [HR.out]; rfl, HK0.out⟩
        · cases h3 : (y.part == 0)
          · rw [h3] at HR
            have h3' : y.part ≠ 0 := by simpa using h3
            go_wp2_with fail
            go_ret
            exact ⟨by rw [HR.out]; rfl, HK0.out⟩
          · rw [h3] at HR
            have h3' : y.part = 0 := by simpa using h3
            rw [h3'] at y3
            go_wp2_with fail
            go_ret
            exact ⟨by rw [HR.out]; rfl, HK0.out⟩
      · go_wp2_with fail
        go_ret
        exact ⟨by rw [HR.out]; rfl, HK0.out⟩
end Go.Proofs.Ytlgcboaojdhneaa
namespace Go.Proofs.Ytlgcboaojdhneaa
open Go.RowKit Go.Shelf

theorem enters42 : ∀ args w, (callFunc 42 args).run Try.prog w = .ok (.enter 42 args) w := Go.Proofs.enters_of Try.func42 (by kernel_rfl) rfl

set_option maxRecDepth 100000 in
set_option maxHeartbeats 4000000 in
theorem select_neg (w : World) (v : TabV) (t : Tab) (h : WhV) (u : Int) (name : ByteArray) (hT : TabIn w v t) (hb : baseR t u = -1) :
    Calls Try.prog 13 #[.agg (v.cells t), .agg h.cells.toArray, .int .i64 u, .string name] w (RetC [] w) := by
  have HT := Lib.hid hT
  clear hT
  unfold TabV.cells WhV.cells
  go_enter Try.func13, Try.ntmps13
  go_upto_region 1 with (fail)
  refine wp_gen' ?_
  intro w1 hw1
  have HK1 : Hid (Kept [] w w1) := by rw [Hid, hw1]; exact (Kept.alloc _ _ _).trans (Kept.alloc _ _ _)
  have b0 : w1.heap[w.heap.size]? = some (.cells (v.cells t) 28 (0, 0)) := by rw [hw1]; exact obj_old (obj_new rfl) (by simp)
  have c0 : ∀ j, w1.cell? ⟨w.heap.size, j, none⟩ = (v.cells t)[j]? := fun j => cell_of_row _ _ _ _ _ _ b0
  have e0 : w1.cell? ⟨w.heap.size, 0, none⟩ = some (.slice v.ta t.types.length v.tc) := c0 0
  have e1 : w1.cell? ⟨w.heap.size, 1, none⟩ = some (.slice v.sa t.subs.length v.sc) := c0 1
  have e2 : w1.cell? ⟨w.heap.size, 2, none⟩ = some (.slice v.ea t.ents.length v.ec) := c0 2
  have e3 : w1.cell? ⟨w.heap.size, 3, none⟩ = some (.slice v.ga v.gn v.gc) := c0 3
  have e4 : w1.cell? ⟨w.heap.size, 4, none⟩ = some (.slice v.ia v.im v.ic) := c0 4
  have HC := Lib.hid (base_any w1 v t u (HT.out.kept HK1.out))
  rw [hb] at HC
  unfold TabV.cells at HC
  clear hw1 b0 c0
  go_wp2_with fail
  refine HC.out.mono ?_
  rintro e w2 ⟨rfl, hk2⟩
  have HK2 := Lib.hid (HK1.out.trans hk2)
  clear hk2 HC e0 e1 e2 e3 e4
  go_wp2_with fail
  go_ret
  exact ⟨_, rfl, IntsC.nil _, HK2.out.trans (Kept.alloc _ _ _)⟩
end Go.Proofs.Ytlgcboaojdhneaa
