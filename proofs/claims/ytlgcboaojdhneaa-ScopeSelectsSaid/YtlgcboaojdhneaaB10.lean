/- used$1. -/
import Derived.Test.YtlgcboaojdhneaaB9
namespace Go.Proofs.Ytlgcboaojdhneaa
open Go.RowKit Go.Shelf

abbrev BM := BMap Try.prog 3 4
theorem bm_lookup {w : World} {b n : Nat} {M : Int → Option Bool} (h : BM w b n M) {x : Int} (hx : (Lit.int .i64 x).wf = true) : (Instr.lookup 113 (.map (some b)) (.int .i64 x) false).run Try.prog w = .ok (.bool ((M x).getD false)) w :=
  h.lookup Try.underlying3 Try.underlying4 Try.underlying113 Try.zeroValue4 hx

/-- An entity of a used unit, of the whole unit, that no found one hides. -/
def ofUsed (t : Tab) (M : Int → Option Bool) (l : List Int) (x : EntV) : Bool := ((M x.owner).getD false && (x.part == 0)) && !hidR t l x

set_option maxRecDepth 100000 in
set_option maxHeartbeats 2000000 in
theorem used1_any (w : World) (F Bf Bm Bl bm nm : Nat) (M : Int → Option Bool) (v : TabV) (t : Tab) (h : WhV) (name : ByteArray) (all : List Int) (k : Nat) (x : EntV) (hx : t.ents[k]? = some x) (hF : FinderIn w F v t h name all) (hwf : (Lit.int .i64 x.owner).wf = true)
    (hBf : w.cell? ⟨Bf, 0, none⟩ = some (.pointer (some ⟨F, 0, none⟩))) (hBm : w.cell? ⟨Bm, 0, none⟩ = some (.map (some bm))) (hM : BM w bm nm M)
    (a : Option Addr) (c : Nat) (l : List Int) (hBl : w.cell? ⟨Bl, 0, none⟩ = some (.slice a l.length c)) (hc : l.length ≤ c) (hm : c ≤ 9223372036854775807) (hI : IntsIn w a l) (hl : ∀ e, e ∈ l → (rowR t e).isSome = true) :
    Calls Try.prog 72 #[.int .i64 k, .pointer (some ⟨Bf, 0, none⟩), .pointer (some ⟨Bm, 0, none⟩), .pointer (some ⟨Bl, 0, none⟩)] w (RetB (ofUsed t M l x) w) := by
  have HF := Lib.hid hF
  have HI := Lib.hid hI
  have HL := Lib.hid hl
  have HX := Lib.hid hx
  have q1 := hF.tab.el
  have q2 := hF.tab.em
  have hxl := (List.getElem?_eq_some_iff.1 hx).1
  obtain ⟨b, o, hea, hr⟩ := hF.tab.es.some_ hx
  have HRX := Lib.hid (hr k x hx)
  obtain ⟨a', c', _, _, _, f0, f1, f2, f3, f4, _⟩ := hF.cells
  rw [hea] at f2
  have j3 : (0 : Int) ≤ (k : Int) := by omega
  have j4 : (k : Int) < (t.ents.length : Int) := by omega
  have HBF := Lib.hid hBf
  have HR : Hid (ofUsed t M l x = (((M x.owner).getD false && (x.part == 0)) && !hidR t l x)) := rfl
  clear hx hF hr hea hI hl
  go_enter Try.func72, Try.ntmps72
  go_upto_region 2 with (refine wpList_load_mid rfl 43 (.tmp 14) rfl b (o + k * 22) rfl x.cells _ HRX.out Try.underlying43 rfl (Try.info43 x) ?_)
  refine wp_gen' ?_
  intro w0 hw0
  have hk0 : Kept [] w w0 := by rw [hw0]; exact Kept.alloc _ _ _
  have bx0 : w0.heap[w.heap.size]? = some (.cells x.cells.toArray 43 (0, 0)) := by rw [hw0]; exact heap_alloc_new _ _
  have HK0 := Lib.hid hk0
  have cl0 := hk0.cell hBl (by simp)
  have cm0 := hk0.cell hBm (by simp)
  have cf0 := hk0.cell hBf (by simp)
  have c2 := ent_cell (x := x) bx0 2 rfl
  have c3 := ent_cell (x := x) bx0 3 rfl
  have hM0 : BM w0 bm nm M := hM.block (hk0.block bm hM.lt (by simp))
  have lk := bm_lookup hM0 hwf
  have HC := Lib.hid (hidden_any w0 F v t h name all k x HX.out (HF.out.kept hk0) a c l hc hm (HI.out.kept hk0) HL.out)
  clear hw0 hk0 bx0 hBf hBl hBm hM hM0 f0 f1 f2 f3 f4
  cases h1 : (M x.owner).getD false
  · rw [h1] at HR lk
    go_wp2_with fail
    go_ret
    exact ⟨by rw [HR.out]; rfl, HK0.out⟩
  · rw [h1] at HR lk
    cases h2 : (x.part == 0)
    · rw [h2] at HR
      have h2' : x.part ≠ 0 := by simpa using h2
      go_wp2_with fail
      go_ret
      exact ⟨by rw [HR.out]; rfl, HK0.out⟩
    · rw [h2] at HR
      have h2' : x.part = 0 := by simpa using h2
      rw [h2'] at c3
      go_wp2_with fail
      refine HC.out.mono ?_
      rintro e w1 ⟨rfl, hk1⟩
      have HK1 := Lib.hid (HK0.out.trans hk1)
      clear hk1 HC
      go_wp2_with fail
      go_ret
      exact ⟨by rw [HR.out]; rfl, HK1.out⟩
end Go.Proofs.Ytlgcboaojdhneaa
