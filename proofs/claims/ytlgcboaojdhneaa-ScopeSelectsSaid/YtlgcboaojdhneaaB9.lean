/- used$2. -/
import Derived.Test.YtlgcboaojdhneaaB8
namespace Go.Proofs.Ytlgcboaojdhneaa
open Go.RowKit Go.Shelf

/-- x is hidden by none of l. -/
def freeB (t : Tab) (l : List Int) (x : EntV) : Bool := !(l.any fun e => overB t x (rowE t e))

theorem enters75 : ∀ args w, (callFunc 75 args).run Try.prog w = .ok (.enter 75 args) w := Go.Proofs.enters_of Try.func75 (by kernel_rfl) rfl

set_option maxRecDepth 100000 in
set_option maxHeartbeats 2000000 in
theorem used2_any (w : World) (F Bf Bl : Nat) (v : TabV) (t : Tab) (h : WhV) (name : ByteArray) (all : List Int) (k : Nat) (x : EntV) (hx : t.ents[k]? = some x) (hF : FinderIn w F v t h name all)
    (hBf : w.cell? ⟨Bf, 0, none⟩ = some (.pointer (some ⟨F, 0, none⟩)))
    (a : Option Addr) (c : Nat) (l : List Int) (hBl : w.cell? ⟨Bl, 0, none⟩ = some (.slice a l.length c)) (hc : l.length ≤ c) (hm : c ≤ 9223372036854775807) (hI : IntsIn w a l) (hl : ∀ e, e ∈ l → (rowR t e).isSome = true) :
    Calls Try.prog 73 #[.int .i64 k, .pointer (some ⟨Bf, 0, none⟩), .pointer (some ⟨Bl, 0, none⟩)] w (RetB (freeB t l x) w) := by
  have HF := Lib.hid hF
  have HI := Lib.hid hI
  have HL := Lib.hid hl
  have HEX := Lib.hid (hF.tab.ent (List.mem_of_getElem? hx))
  have q1 := hF.tab.el
  have q2 := hF.tab.em
  have hxl := (List.getElem?_eq_some_iff.1 hx).1
  obtain ⟨b, o, hea, hr⟩ := hF.tab.es.some_ hx
  have HRX := Lib.hid (hr k x hx)
  obtain ⟨a', c', _, _, _, f0, f1, f2, f3, f4, _⟩ := hF.cells
  rw [hea] at f2
  have j3 : (0 : Int) ≤ (k : Int) := by omega
  have j4 : (k : Int) < (t.ents.length : Int) := by omega
  have HBF := Lib.hid hBf
  clear hx hF hr hea hI hl
  go_enter Try.func73, Try.ntmps73
  go_upto_region 2 with (refine wpList_load_mid rfl 43 (.tmp 13) rfl b (o + k * 22) rfl x.cells _ HRX.out Try.underlying43 rfl (Try.info43 x) ?_)
  refine wp_gen' ?_
  intro w0 hw0
  have hk0 : Kept [] w w0 := by rw [hw0]; exact Kept.alloc _ _ _
  have bx0 : w0.heap[w.heap.size]? = some (.cells x.cells.toArray 43 (0, 0)) := by rw [hw0]; exact heap_alloc_new _ _
  have HK0 := Lib.hid hk0
  have cl0 := hk0.cell hBl (by simp)
  have HC := Lib.hid (contains_any w0 a c l hc hm (HI.out.kept hk0) 75 #[.pointer (some ⟨Bf, 0, none⟩), .pointer (some ⟨w.heap.size, 0, none⟩)] (fun e => overB t x (rowE t e)) enters75 (fun W e hk he => by
    obtain ⟨i, y, rfl, hy, hye⟩ := row_at (HL.out e he)
    rw [hye]
    exact used21_any W F Bf w.heap.size v t h name all i x y hy (HF.out.kept (hk0.trans hk)) (HEX.out.kept (hk0.trans hk)) ((hk0.trans hk).cell HBF.out (by simp)) (hk.obj bx0 (by simp))))
  clear hw0 hk0 bx0 hBf hBl f0 f1 f2 f3 f4
  go_wp2_with fail
  refine HC.out.mono ?_
  rintro e w1 ⟨rfl, hk1⟩
  have HK1 := Lib.hid (HK0.out.trans hk1)
  clear hk1 HC
  go_wp2_with fail
  go_ret
  exact ⟨rfl, HK1.out⟩
end Go.Proofs.Ytlgcboaojdhneaa
