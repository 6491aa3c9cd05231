/- Standard's inner functions: a type's row, an entity added. -/
import Derived.Test.YtlgcboaojdhneaaC1
import Derived.Test.YtlgcboaojdhneaaK5
import Derived.Laws.EntriesVeiled
namespace Go.Proofs.Ytlgcboaojdhneaa
open Go.RowKit

/-- A type of Standard. -/
def stdTy (k : Int) (n : ByteArray) (first : Int) (la : Option Addr) (lc : Nat) (lits : List ByteArray) : TyV :=
  ⟨k, n, -1, first, la, lc, lits, -1, -1, -1, ⟨#[]⟩, false, 0, none, 0, [], -1, 0, false, -1, 0, 0⟩
def RetTy (y : TyV) (w : World) (e : Ending) (w' : World) : Prop := e = .returned (.agg y.cells.toArray) ∧ Kept [] w w'
theorem TyV.range {w : World} {b : Nat} {x : TyV} (h : w.heap[b]? = some (.cells x.cells.toArray 71 (0, 0))) : w.rangeAt b 0 x.cells := fun j u hu => by
  rw [Nat.zero_add, cell_of_row _ _ _ _ _ _ h]
  simpa using hu
theorem results60_of {w : World} {B : Nat} {x : TyV} {tmps : Array Value} (h4 : tmps.getD 8 undef = .pointer (some ⟨B, 0, none⟩)) (hr : w.rangeAt B 0 x.cells) :
    (results Try.f60 tmps).run Try.prog w = .ok (.agg x.cells.toArray) w := by
  simp only [Array.getD_eq_getD_getElem?] at h4
  simp [results, Try.results60, h4, asAddr, Sem.run_bind, run_loadVar_mid w B 0 71 x.cells _ hr Try.underlying71 rfl (Try.info71 x)]

set_option maxRecDepth 100000 in
set_option maxHeartbeats 1000000 in
theorem stdTy_any (w : World) (k : Int) (n : ByteArray) (first : Int) (la : Option Addr) (lc : Nat) (lits : List ByteArray) :
    Calls Try.prog 60 #[.int .u8 k, .string n, .int .i64 first, .slice la lits.length lc] w (RetTy (stdTy k n first la lc lits) w) := by
  go_enter Try.func60, Try.ntmps60
  go_wp2_with (refine wpList_store_new rfl 71 (.tmp 8) (.tmp 13) rfl _ (stdTy k n first la lc lits).cells.toArray w.heap.size rfl rfl rfl (Try.info71 _) rfl (TyV.one _) ?_)
  refine bodyPost_ret (results60_of (x := stdTy k n first la lc lits) rfl (TyV.range (obj_new (o := .cells (stdTy k n first la lc lits).cells.toArray 71) rfl))) rfl ?_
  exact ⟨rfl, Kept.alloc _ _ _⟩

/-- Below n, and blocks that are no entities and no tables, all stays. -/
structure KpS (n : Nat) (w w' : World) : Prop where
  os : w'.os = w.os
  tape : w'.tape = w.tape
  output : w'.output = w.output
  size : w.heap.size ≤ w'.heap.size
  block : ∀ k o, w.heap[k]? = some o → (k < n ∨ ∃ c ty fr, o = .cells c ty fr ∧ ty ≠ 43 ∧ ty ≠ 28) → w'.heap[k]? = some o
theorem KpS.refl (n : Nat) (w : World) : KpS n w w := ⟨rfl, rfl, rfl, Nat.le_refl _, fun _ _ h _ => h⟩
theorem KpS.trans {n : Nat} {a b c : World} (h : KpS n a b) (k : KpS n b c) : KpS n a c :=
  ⟨k.os.trans h.os, k.tape.trans h.tape, k.output.trans h.output, Nat.le_trans h.size k.size, fun i o hi hx => k.block i o (h.block i o hi hx) hx⟩
theorem KpS.of_kept {n : Nat} {a b : World} (h : Kept [] a b) : KpS n a b := ⟨h.os, h.tape, h.output, h.size, fun i o hi _ => h.obj hi (by simp)⟩
theorem KpS.of_grown {n : Nat} {a b : World} {row : Option Nat} (h : a.grownBy b row) (hr : ∀ k, row = some k → k < a.heap.size → n ≤ k ∧ ∃ c fr, a.heap[k]? = some (.cells c 43 fr)) : KpS n a b :=
  ⟨h.os, h.tape, h.output, h.size, fun i o hi hx => (h.block i (Array.getElem?_eq_some_iff.1 hi).1 (fun e => by
    obtain ⟨h1, c, fr, h2⟩ := hr i e.symm (Array.getElem?_eq_some_iff.1 hi).1
    rcases hx with hx | ⟨c', ty, fr', rfl, h3, _⟩
    · omega
    · rw [hi] at h2
      simp only [Option.some.injEq, Obj.cells.injEq] at h2
      exact h3 h2.2.1)).trans hi⟩
theorem KpS.setCell {n : Nat} (W : World) (a : Addr) (v : Value) {c : Array Value} {ty : TypeId} {fr : Nat × Nat} (hB : W.heap[a.block]? = some (.cells c ty fr)) (hn : n ≤ a.block) (hty : ty = 43 ∨ ty = 28) : KpS n W (W.setCell a v) :=
  ⟨rfl, rfl, rfl, by simp, fun k o hk hx => (heap_setCell_other W a k v (by
    rintro rfl
    rcases hx with hx | ⟨c', ty', fr', rfl, h1, h2⟩
    · omega
    · rw [hB] at hk
      simp only [Option.some.injEq, Obj.cells.injEq] at hk
      obtain ⟨_, rfl, _⟩ := hk
      rcases hty with h | h
      · exact h1 h
      · exact h2 h)).trans hk⟩
theorem KpS.kept {n : Nat} {w w0 W : World} (h0 : Kept [] w w0) (h : KpS n w0 W) (hn : w.heap.size ≤ n) : Kept [] w W :=
  ⟨h.os.trans h0.os, h.tape.trans h0.tape, h.output.trans h0.output, Nat.le_trans h0.size h.size, fun k hk _ => by
    obtain ⟨o, ho⟩ : ∃ o, w.heap[k]? = some o := ⟨_, Array.getElem?_eq_getElem hk⟩
    rw [ho]
    exact h.block k o (h0.obj ho (by simp)) (.inl (by omega))⟩
theorem KpS.mono {m n : Nat} {w W : World} (h : KpS n w W) (hm : m ≤ n) : KpS m w W :=
  ⟨h.os, h.tape, h.output, h.size, fun k o hk hx => h.block k o hk (hx.imp_left (fun h => by omega))⟩

theorem own_row_at' {W : World} {base e size n : Nat} {v : Value} {xs : List Value} (h : W.ownsRow base e size v n xs) {k : Nat} (hk : v.ownBlock = some k) : ∃ c, W.heap[k]? = some (.cells c e (0, 0)) := by
  rcases h.2 with ⟨rfl, hn⟩ | ⟨g, cap, cur, rfl, hb, hg, rest⟩
  · cases hk
  · cases hk
    exact ⟨_, hg⟩

/-- A table in a box, its entities a row of one's own. -/
structure BoxT (w : World) (n B : Nat) (v : TabV) (t : Tab) : Prop where
  box : w.heap[B]? = some (.cells (v.cells t) 28 (0, 0))
  own : w.ownsRow n 43 22 (.slice v.ea t.ents.length v.ec) t.ents.length (t.ents.map EntV.cells).flatten
  hn : n ≤ B
def addE (t : Tab) (x : EntV) : Tab := { t with ents := t.ents ++ [x] }
/-- What an adding closure returns. -/
def RetA (n B : Nat) (v : TabV) (t : Tab) (x : EntV) (w : World) (e : Ending) (w' : World) : Prop :=
  e = .returned (.tuple #[]) ∧ ∃ ea ec, BoxT w' n B { v with ea := ea, ec := ec } (addE t x) ∧ KpS n w w'
theorem ent_info : (Try.prog.info? 43).map (fun i => (i.zero, i.size, i.bytes)) = some (some (.agg zeroE.cells.toArray), 22, 176) := by kernel_rfl

/-- An entity of Standard. -/
def stdE (k : Int) (n : ByteArray) (ty sub val : Int) (pa : Option Addr) (pc : Nat) (ps : List ParamV) : EntV := { nothingE k n with t := ty, sub := sub, value := val, pa := pa, pc := pc, params := ps }

set_option maxRecDepth 100000 in
set_option maxHeartbeats 400000 in
theorem add_any (w : World) (n B : Nat) (v : TabV) (t : Tab) (hB : BoxT w n B v t) (hs : t.ents.length ≤ 5000) (k : Int) (name : ByteArray) (ty sub val : Int) (pa : Option Addr) (pc : Nat) (ps : List ParamV) :
    Calls Try.prog 61 #[.int .u8 k, .string name, .int .i64 ty, .int .i64 sub, .int .i64 val, .slice pa ps.length pc, .pointer (some ⟨B, 0, none⟩)] w (RetA n B v t (stdE k name ty sub val pa pc ps) w) := by
  have HB := Lib.hid hB
  have HSZ := Lib.hid hs
  obtain ⟨i0, hi, hz0, hz1, hz2⟩ := info_parts ent_info
  have hBlt : B < w.heap.size := (Array.getElem?_eq_some_iff.1 hB.box).1
  have hnB := hB.hn
  clear hB hs
  go_enter Try.func61, Try.ntmps61
  have HC := Lib.hid (predefined_any w k name)
  go_upto_region 1 with (first | (go_at_call 62; refine HC.out.mono ?_; rintro e w1 ⟨rfl, hk1⟩; have HK1 := Lib.hid hk1; clear hk1) | (refine wpList_store_new rfl 43 (.tmp 13) (.tmp 16) rfl _ (nothingE k name).cells.toArray w1.heap.size rfl rfl rfl (Try.info43 _) rfl (EntV.one _) ?_))
  refine wp_gen' ?_
  intro w2 hw2
  have hk2 : Kept [] w1 w2 := by rw [hw2]; exact Kept.alloc _ _ _
  have hx2 : w2.heap[w1.heap.size]? = some (.cells (nothingE k name).cells.toArray 43 (0, 0)) := by rw [hw2]; exact heap_alloc_new _ _
  have hK2 := HK1.out.trans hk2
  have hX : w.heap.size ≤ w1.heap.size := HK1.out.size
  have hlt2 : w1.heap.size < w2.heap.size := (Array.getElem?_eq_some_iff.1 hx2).1
  have HB2 : Hid (w2.heap[B]? = some (.cells (v.cells t) 28 (0, 0))) := hK2.obj HB.out.box (by simp)
  have HO2 : Hid (w2.ownsRow n 43 22 (.slice v.ea t.ents.length v.ec) t.ents.length (t.ents.map EntV.cells).flatten) := own_keep HB.out.own hK2 (by simp)
  have HX2 := Lib.hid hx2
  have HK2 := Lib.hid hK2
  generalize w1.heap.size = X at *
  clear hw2 hk2 hx2 hK2 HC
  have c4 := ent_cell (x := nothingE k name) HX2.out 4 rfl
  have c5 := ent_cell (x := nothingE k name) HX2.out 5 rfl
  have c10 := ent_cell (x := nothingE k name) HX2.out 10 rfl
  have c6 := ent_cell (x := nothingE k name) HX2.out 6 rfl
  have f4 := frozen_of_row _ _ 4 _ _ HX2.out
  have f5 := frozen_of_row _ _ 5 _ _ HX2.out
  have f10 := frozen_of_row _ _ 10 _ _ HX2.out
  have f6 := frozen_of_row _ _ 6 _ _ HX2.out
  go_upto_region 2 with (fail)
  refine wp_gen' ?_
  intro w3 hw3
  have hx3 : VRow w3 X 43 (stdE k name ty sub val pa pc ps).cells := by
    rw [hw3]
    have h0 : VRow w2 X 43 (nothingE k name).cells := HX2.out
    exact (((h0.set 4 (.int .i64 ty)).set 5 (.int .i64 sub)).set 10 (.int .i64 val)).set 6 (.slice pa ps.length pc)
  have hk3 : Kept [X] w2 w3 := by
    rw [hw3]
    exact (((Kept.setCell _ _ _ (by simp)).trans (Kept.setCell _ _ _ (by simp))).trans (Kept.setCell _ _ _ (by simp))).trans (Kept.setCell _ _ _ (by simp))
  have hg : ∀ g, (Value.slice v.ea t.ents.length v.ec).ownBlock = some g → n ≤ g ∧ g < w.heap.size ∧ g ≠ B ∧ ∃ c, w.heap[g]? = some (.cells c 43 (0, 0)) := fun g hg => by
    have h1 := HB.out.own.lt g hg
    obtain ⟨c, hc⟩ := own_row_at' HB.out.own hg
    refine ⟨h1.1, h1.2, ?_, c, hc⟩
    rintro rfl
    have h2 := HB.out.box
    rw [hc] at h2
    simp at h2
  have HG := Lib.hid hg
  have HB3 : Hid (w3.heap[B]? = some (.cells (v.cells t) 28 (0, 0))) := hk3.obj HB2.out (by simp; omega)
  have HO3 : Hid (w3.ownsRow n 43 22 (.slice v.ea t.ents.length v.ec) t.ents.length (t.ents.map EntV.cells).flatten) := own_keep HO2.out hk3 (fun g hgq => by have := (HG.out g hgq).2.1; simp; omega)
  have HK3 : Hid (Kept [] w w3) := HK2.out.above hk3 (by simp; omega)
  have HX3 := Lib.hid hx3
  have hlt3 : X < w3.heap.size := hx3.lt
  generalize stdE k name ty sub val pa pc ps = x at *
  clear hw3 hx3 hk3 hg c4 c5 c10 c6 f4 f5 f10 f6 hlt2 HB2 HO2 HX2
  haveI : EntAt w3 X 0 x := ⟨EntV.range HX3.out⟩
  have cB : w3.cell? ⟨B, 2, none⟩ = some (.slice v.ea t.ents.length v.ec) := (cell_of_row _ _ _ _ _ _ HB3.out).trans rfl
  have hsrc : ∀ kb, kb = w3.heap.size → SrcAt (w3.alloc (.cells ([x].map EntV.cells).flatten.toArray 43)) 22 (some ⟨kb, 0, none⟩) 1 x.cells := by
    rintro kb rfl
    refine ⟨rfl, fun _ => ⟨_, rfl, fun j u hu => ?_⟩⟩
    rw [Addr.add_mid, Nat.zero_add, cell_of_row _ _ _ _ _ _ (heap_alloc_new _ _)]
    simpa using hu
  have hA : t.ents.length + 1 ≤ maxLen := by have := HSZ.out; unfold maxLen; omega
  have hBy : (t.ents.length + 1) * 176 ≤ 140737488355328 := by have := HSZ.out; omega
  have hC : Hid (n ≤ (w3.alloc (.cells ([x].map EntV.cells).flatten.toArray 43)).heap.size) := by simp [Hid]; omega
  have h1c : ∀ u ∈ x.cells, u.oneCell' = true := by have := EntV.one x; simpa using this
  have H1C := Lib.hid h1c
  have HSRC := Lib.hid hsrc
  clear h1c hsrc
  go_wp2_with (first
    | (refine wpList_build_rows EntV.cells 22 EntV.len (by decide) [x] rfl 24 43 1 #[(0, .tmp 27)] rfl i0 Try.underlying24 hi (by rw [hz0]; rfl) hz1 rfl (by decide) (by decide) rfl ?_
       intro kb hkb)
    | (at_builtin
       go_loud (refine wpList_append_src _ rfl (.tmp 26) (.tmp 28) 24 rfl n 43 i0 (.agg zeroE.cells.toArray) 22 176 Try.underlying24 hi hz0 hz1 hz2 rfl (by decide) (.slice v.ea t.ents.length v.ec) t.ents.length (t.ents.map EntV.cells).flatten rfl (HO3.out.alloc _) (some ⟨kb, 0, none⟩) 1 1 x.cells rfl (HSRC.out kb hkb) H1C.out hA hBy hC.out ?_)
       intro vb wb hob hgb hbb
       obtain ⟨Ab, cb, rfl⟩ := own_shape hob
       have HOB := Lib.hid hob
       have HGB := Lib.hid hgb
       have hBb : wb.heap[B]? = some (.cells (v.cells t) 28 (0, 0)) := (hgb.block B (by simp; omega) (fun e => by have := (HG.out B e.symm).2.2.1; omega)).trans (obj_old HB3.out (by omega))
       have HBB := Lib.hid hBb
       have cBb : wb.cell? ⟨B, 2, none⟩ = some (.slice v.ea t.ents.length v.ec) := (cell_of_row _ _ _ _ _ _ hBb).trans rfl
       have fBb := frozen_of_row _ _ 2 _ _ hBb
       clear hob hgb hbb hBb))
  have HL : Hid ((addE t x).ents.length = t.ents.length + 1) := by simp [Hid, addE]
  have HV : Hid (({ v with ea := Ab, ec := cb } : TabV).cells (addE t x) = #[.slice v.ta t.types.length v.tc, .slice v.sa t.subs.length v.sc, .slice Ab (t.ents.length + 1) cb, .slice v.ga v.gn v.gc, .slice v.ia v.im v.ic]) := by
    rw [Hid, TabV.cells, HL.out]
    rfl
  refine bodyPost_ret (results_none rfl _ _ _) rfl ?_
  refine ⟨rfl, Ab, cb, ⟨?_, ?_, hnB⟩, ?_⟩
  · rw [HV.out]
    have h0 : VRow wb B 28 (v.cells t).toList := HBB.out
    exact h0.set 2 (.slice Ab (t.ents.length + 1) cb)
  · have hkb' : Kept [B] wb (wb.setCell ⟨B, 2, none⟩ (.slice Ab (t.ents.length + 1) cb)) := Kept.setCell _ _ _ (by simp)
    have h := own_keep HOB.out hkb' (fun g hg => by
      obtain ⟨c, hc⟩ := own_row_at' HOB.out hg
      simp
      rintro rfl
      have h2 := HBB.out
      rw [hc] at h2
      simp at h2)
    rw [HL.out]
    simpa [addE] using h
  · refine ((KpS.of_kept HK3.out).trans ((KpS.of_kept (Kept.alloc _ _ _)).trans (KpS.of_grown HGB.out ?_))).trans (KpS.setCell _ _ _ HBB.out hnB (.inr rfl))
    intro g hg _
    obtain ⟨h1, h2, _, c, hc⟩ := HG.out g hg
    exact ⟨h1, c, (0, 0), obj_old (HK3.out.obj hc (by simp)) (by have := HK3.out.size; omega)⟩
end Go.Proofs.Ytlgcboaojdhneaa
