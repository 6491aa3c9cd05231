/- Select. -/
import Derived.Test.YtlgcboaojdhneaaB13
namespace Go.Proofs.Ytlgcboaojdhneaa
open Go.RowKit Go.Shelf

theorem enters42 : ∀ args w, (callFunc 42 args).run Try.prog w = .ok (.enter 42 args) w := Go.Proofs.enters_of Try.func42 (by kernel_rfl) rfl

set_option maxRecDepth 100000 in
set_option maxHeartbeats 4000000 in
theorem select_neg (w : World) (v : TabV) (t : Tab) (h : WhV) (u : Int) (name : ByteArray) (hT : TabIn w v t) (hb : baseR t u = -1) :
    Calls Try.prog 13 #[.agg (v.cells t), .agg h.cells.toArray, .int .i64 u, .string name] w (RetC [] w) := by
  have HT := Lib.hid hT
  clear hT
  unfold TabV.cells WhV.cells
  go_enter Try.func13, Try.ntmps13
  go_upto_region 1 with (fail)
  refine wp_gen' ?_
  intro w1 hw1
  have HK1 : Hid (Kept [] w w1) := by rw [Hid, hw1]; exact (Kept.alloc _ _ _).trans (Kept.alloc _ _ _)
  have b0 : w1.heap[w.heap.size]? = some (.cells (v.cells t) 28 (0, 0)) := by rw [hw1]; exact obj_old (obj_new rfl) (by simp)
  have c0 : ∀ j, w1.cell? ⟨w.heap.size, j, none⟩ = (v.cells t)[j]? := fun j => cell_of_row _ _ _ _ _ _ b0
  have e0 : w1.cell? ⟨w.heap.size, 0, none⟩ = some (.slice v.ta t.types.length v.tc) := c0 0
  have e1 : w1.cell? ⟨w.heap.size, 1, none⟩ = some (.slice v.sa t.subs.length v.sc) := c0 1
  have e2 : w1.cell? ⟨w.heap.size, 2, none⟩ = some (.slice v.ea t.ents.length v.ec) := c0 2
  have e3 : w1.cell? ⟨w.heap.size, 3, none⟩ = some (.slice v.ga v.gn v.gc) := c0 3
  have e4 : w1.cell? ⟨w.heap.size, 4, none⟩ = some (.slice v.ia v.im v.ic) := c0 4
  have HC := Lib.hid (base_any w1 v t u (HT.out.kept HK1.out))
  rw [hb] at HC
  unfold TabV.cells at HC
  clear hw1 b0 c0
  go_wp2_with fail
  refine HC.out.mono ?_
  rintro e w2 ⟨rfl, hk2⟩
  have HK2 := Lib.hid (HK1.out.trans hk2)
  clear hk2 HC e0 e1 e2 e3 e4
  go_wp2_with fail
  go_ret
  exact ⟨_, rfl, IntsC.nil _, HK2.out.trans (Kept.alloc _ _ _)⟩
end Go.Proofs.Ytlgcboaojdhneaa
