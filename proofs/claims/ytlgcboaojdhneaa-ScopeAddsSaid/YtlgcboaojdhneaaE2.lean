/- Standard. -/
import Derived.Test.YtlgcboaojdhneaaE1
namespace Go.Proofs.Ytlgcboaojdhneaa
open Go.RowKit

def stdTys (kl : Nat) : List TyV := [stdTy 1 ⟨#[]⟩ (-1) none 0 [], stdTy 2 ⟨#[73, 110, 116, 101, 103, 101, 114]⟩ 0 none 0 [], stdTy 3 ⟨#[66, 111, 111, 108, 101, 97, 110]⟩ 1 (some ⟨kl, 0, none⟩) 2 [⟨#[70, 97, 108, 115, 101]⟩, ⟨#[84, 114, 117, 101]⟩], stdTy 2 ⟨#[84, 105, 109, 101]⟩ 2 none 0 []]
def stdSubs : List SubtV := [⟨1, -2147483648, 2147483647⟩, ⟨2, 0, 1⟩, ⟨3, 0, 2147483647⟩, ⟨1, 0, 2147483647⟩, ⟨1, 1, 2147483647⟩]
def parX (m : Int) : ParamV := ⟨⟨#[88]⟩, m, 0, 0, 0, 0, ⟨#[]⟩, none, 0, 0, none, 0, 0, 0, 0, 0, -1⟩
def std0 : EntV := stdE 1 ⟨#[83, 116, 97, 110, 100, 97, 114, 100]⟩ (-1) (-1) 0 none 0 []
def std12 : List EntV := [{ std0 with owner := -1 }, stdE 5 ⟨#[73, 110, 116, 101, 103, 101, 114]⟩ 1 0 0 none 0 [],
  stdE 5 ⟨#[66, 111, 111, 108, 101, 97, 110]⟩ 2 1 0 none 0 [],
  stdE 10 ⟨#[70, 97, 108, 115, 101]⟩ 2 (-1) 0 none 0 [],
  stdE 10 ⟨#[84, 114, 117, 101]⟩ 2 (-1) 1 none 0 [],
  stdE 5 ⟨#[84, 105, 109, 101]⟩ 3 2 0 none 0 [],
  stdE 6 ⟨#[78, 97, 116, 117, 114, 97, 108]⟩ 1 3 0 none 0 [],
  stdE 6 ⟨#[80, 111, 115, 105, 116, 105, 118, 101]⟩ 1 4 0 none 0 [],
  stdE 11 ⟨#[67, 111, 110, 115, 116, 114, 97, 105, 110, 116, 95, 69, 114, 114, 111, 114]⟩ (-1) (-1) 1 none 0 [],
  stdE 11 ⟨#[80, 114, 111, 103, 114, 97, 109, 95, 69, 114, 114, 111, 114]⟩ (-1) (-1) 2 none 0 [],
  stdE 11 ⟨#[84, 97, 115, 107, 105, 110, 103, 95, 69, 114, 114, 111, 114]⟩ (-1) (-1) 3 none 0 [],
  stdE 11 ⟨#[69, 110, 100, 95, 69, 114, 114, 111, 114]⟩ (-1) (-1) 4 none 0 []]
def putE (k1 : Nat) : EntV := stdE 3 ⟨#[80, 117, 116]⟩ (-1) (-1) 0 (some ⟨k1, 0, none⟩) 1 [parX 1]
def getE (k2 : Nat) : EntV := stdE 3 ⟨#[71, 101, 116]⟩ (-1) (-1) 0 (some ⟨k2, 0, none⟩) 1 [parX 2]
def clockE : EntV := stdE 4 ⟨#[67, 108, 111, 99, 107]⟩ 3 2 0 none 0 []
def stdEnts (k1 k2 : Nat) : List EntV := std12 ++ [putE k1, getE k2, clockE]
def stdT (kl k1 k2 : Nat) : Tab := ⟨stdTys kl, stdSubs, stdEnts k1 k2⟩
/-- What Standard's table holds beside its entities. -/
structure StdMem (w : World) (v : TabV) (kl k1 k2 : Nat) : Prop where
  ty : ∃ kt, v.ta = some ⟨kt, 0, none⟩ ∧ v.tc = 4 ∧ w.heap[kt]? = some (.cells ((stdTys kl).map TyV.cells).flatten.toArray 71 (0, 0))
  sb : ∃ ks, v.sa = some ⟨ks, 0, none⟩ ∧ v.sc = 5 ∧ w.heap[ks]? = some (.cells (stdSubs.map SubtV.cells).flatten.toArray 64 (0, 0))
  lit : w.heap[kl]? = some (.cells #[.string ⟨#[70, 97, 108, 115, 101]⟩, .string ⟨#[84, 114, 117, 101]⟩] 9 (0, 0))
  p1 : w.heap[k1]? = some (.cells ([parX 1].map ParamV.cells).flatten.toArray 107 (0, 0))
  p2 : w.heap[k2]? = some (.cells ([parX 2].map ParamV.cells).flatten.toArray 107 (0, 0))
theorem StdMem.kps {n : Nat} {w w' : World} {v : TabV} {kl k1 k2 : Nat} (h : StdMem w v kl k1 k2) (hk : KpS n w w') : StdMem w' v kl k1 k2 := by
  obtain ⟨⟨kt, h1, h2, h3⟩, ⟨ks, h4, h5, h6⟩, h7, h8, h9⟩ := h
  exact ⟨⟨kt, h1, h2, hk.block _ _ h3 (.inr ⟨_, _, _, rfl, by decide, by decide⟩)⟩, ⟨ks, h4, h5, hk.block _ _ h6 (.inr ⟨_, _, _, rfl, by decide, by decide⟩)⟩, hk.block _ _ h7 (.inr ⟨_, _, _, rfl, by decide, by decide⟩), hk.block _ _ h8 (.inr ⟨_, _, _, rfl, by decide, by decide⟩), hk.block _ _ h9 (.inr ⟨_, _, _, rfl, by decide, by decide⟩)⟩
theorem StdMem.ents {w : World} {v : TabV} {kl k1 k2 : Nat} (h : StdMem w v kl k1 k2) (ea : Option Addr) (ec : Nat) : StdMem w { v with ea := ea, ec := ec } kl k1 k2 := ⟨h.ty, h.sb, h.lit, h.p1, h.p2⟩
def RetStd (w : World) (e : Ending) (w' : World) : Prop := ∃ v kl k1 k2, e = .returned (.agg (v.cells (stdT kl k1 k2))) ∧ w'.ownsRow w.heap.size 43 22 (.slice v.ea 15 v.ec) 15 ((stdEnts k1 k2).map EntV.cells).flatten ∧ StdMem w' v kl k1 k2 ∧ Kept [] w w'
/-- The same; the types lie in a new block. -/
def RetStdN (w : World) (e : Ending) (w' : World) : Prop := ∃ v kl k1 k2, e = .returned (.agg (v.cells (stdT kl k1 k2))) ∧ w'.ownsRow w.heap.size 43 22 (.slice v.ea 15 v.ec) 15 ((stdEnts k1 k2).map EntV.cells).flatten ∧ StdMem w' v kl k1 k2 ∧ Kept [] w w' ∧ ∀ a, v.ta = some a → w.heap.size ≤ a.block
/-- The same; the other two lists are empty. -/
def RetStdF (w : World) (e : Ending) (w' : World) : Prop := ∃ v kl k1 k2, e = .returned (.agg (v.cells (stdT kl k1 k2))) ∧ w'.ownsRow w.heap.size 43 22 (.slice v.ea 15 v.ec) 15 ((stdEnts k1 k2).map EntV.cells).flatten ∧ StdMem w' v kl k1 k2 ∧ Kept [] w w' ∧ (∀ a, v.ta = some a → w.heap.size ≤ a.block) ∧ v.gn = 0 ∧ v.im = 0

theorem results30_of {w : World} {B : Nat} {c : Array Value} {tmps : Array Value} (h4 : tmps.getD 0 undef = .pointer (some ⟨B, 0, none⟩)) (hc : c.size = 5) (hr : w.rangeAt B 0 c.toList) :
    (results Try.f30 tmps).run Try.prog w = .ok (.agg c) w := by
  simp only [Array.getD_eq_getD_getElem?] at h4
  have hi : (Try.prog.info? 28).map (·.size) = some c.toList.length := by
    rw [Array.length_toList, hc]
    exact Try.size28
  simp [results, Try.results30, h4, asAddr, Sem.run_bind, run_loadVar_mid w B 0 28 c.toList _ hr Try.underlying28 rfl hi]
theorem par_info : (Try.prog.info? 107).map (fun i => (i.zero.isSome, i.size, i.bytes)) = some (true, 13, 144) := by kernel_rfl
theorem ty_info : (Try.prog.info? 71).map (fun i => (i.zero.isSome, i.size, i.bytes)) = some (true, 18, 184) := by kernel_rfl
theorem sub_info : (Try.prog.info? 64).map (fun i => (i.zero.isSome, i.size, i.bytes)) = some (true, 3, 24) := by kernel_rfl
theorem str_info : (Try.prog.info? 9).map (fun i => (i.zero.isSome, i.size, i.bytes)) = some (true, 1, 16) := by kernel_rfl
theorem info_parts' {P : Program} {t : TypeId} {z : Bool} {s b : Nat} (h : (P.info? t).map (fun i => (i.zero.isSome, i.size, i.bytes)) = some (z, s, b)) : ∃ i, P.info? t = some i ∧ i.zero.isSome = z ∧ i.size = s ∧ i.bytes = b := by
  cases hi : P.info? t with
  | none => simp [hi] at h
  | some i => simp [hi] at h; exact ⟨i, rfl, h⟩
section
variable (w : World) (a b c d : Value)
@[go_sem ↓] theorem run_index99_0 : Sem.run Try.prog (Instr.index 99 (.agg #[a, b, c, d]) (.int .i64 0)) w = .ok a w := by kernel_rfl
@[go_sem ↓] theorem run_index99_1 : Sem.run Try.prog (Instr.index 99 (.agg #[a, b, c, d]) (.int .i64 1)) w = .ok b w := by kernel_rfl
@[go_sem ↓] theorem run_index99_2 : Sem.run Try.prog (Instr.index 99 (.agg #[a, b, c, d]) (.int .i64 2)) w = .ok c w := by kernel_rfl
@[go_sem ↓] theorem run_index99_3 : Sem.run Try.prog (Instr.index 99 (.agg #[a, b, c, d]) (.int .i64 3)) w = .ok d w := by kernel_rfl
end
def atE (v : TabV) (ea : Option Addr) (ec : Nat) : TabV := { v with ea := ea, ec := ec }
def tabE (kl : Nat) (l : List EntV) : Tab := ⟨stdTys kl, stdSubs, l⟩

theorem BoxT.alloc {w : World} {n B : Nat} {v : TabV} {t : Tab} (h : BoxT w n B v t) (o : Obj) : BoxT (w.alloc o) n B v t := ⟨obj_old h.box (Array.getElem?_eq_some_iff.1 h.box).1, h.own.alloc o, h.hn⟩
theorem add_par (w : World) (n B : Nat) (v : TabV) (t : Tab) (hB : BoxT w n B v t) (hs : t.ents.length ≤ 5000) (k : Int) (name : ByteArray) (k1 : Nat) (x : ParamV) :
    Calls Try.prog 61 #[.int .u8 k, .string name, .int .i64 (-1), .int .i64 (-1), .int .i64 0, .slice (some ⟨k1, 0, none⟩) 1 1, .pointer (some ⟨B, 0, none⟩)] w (RetA n B v t (stdE k name (-1) (-1) 0 (some ⟨k1, 0, none⟩) 1 [x]) w) :=
  add_any w n B v t hB hs k name (-1) (-1) 0 (some ⟨k1, 0, none⟩) 1 [x]

theorem stdTyB (w : World) (kl : Nat) : Calls Try.prog 60 #[.int .u8 3, .string ⟨#[66, 111, 111, 108, 101, 97, 110]⟩, .int .i64 1, .slice (some ⟨kl, 0, none⟩) 2 2] w (RetTy (stdTy 3 ⟨#[66, 111, 111, 108, 101, 97, 110]⟩ 1 (some ⟨kl, 0, none⟩) 2 [⟨#[70, 97, 108, 115, 101]⟩, ⟨#[84, 114, 117, 101]⟩]) w) :=
  stdTy_any w 3 ⟨#[66, 111, 111, 108, 101, 97, 110]⟩ 1 (some ⟨kl, 0, none⟩) 2 [⟨#[70, 97, 108, 115, 101]⟩, ⟨#[84, 114, 117, 101]⟩]

set_option maxRecDepth 100000 in
set_option maxHeartbeats 4000000 in
theorem std_full (w : World) : Calls Try.prog 30 #[] w (RetStdF w) := by
  obtain ⟨i107, hi107, hz107, hs107, _⟩ := info_parts' par_info
  obtain ⟨i71, hi71, hz71, hs71, _⟩ := info_parts' ty_info
  obtain ⟨i64, hi64, hz64, hs64, _⟩ := info_parts' sub_info
  obtain ⟨i9, hi9, hz9, hs9, _⟩ := info_parts' str_info
  go_enter Try.func30, Try.ntmps30
  go_upto_region 2 with (fail)
  refine wp_gen' ?_
  intro w0 hw0
  have HK0 : Hid (Kept [] w w0) := by rw [Hid, hw0]; exact Kept.alloc _ _ _
  have HB0 : Hid (w0.heap[w.heap.size]? = some (.cells #[.slice none 0 0, .slice none 0 0, .slice none 0 0, .slice none 0 0, .slice none 0 0] 28 (0, 0))) := by rw [Hid, hw0]; exact heap_alloc_new _ _
  have HSZ0 : Hid (w0.heap.size = w.heap.size + 1) := by rw [Hid, hw0]; simp
  clear hw0
  go_upto_region 3 with (first
    | (fail_if_success guard_hyp HK1
       go_at_call 60
       refine (stdTy_any _ 1 ⟨#[]⟩ (-1) none 0 []).mono ?_
       rintro e w1 ⟨rfl, hk1⟩
       have HK1 := Lib.hid hk1
       clear hk1)
    | (guard_hyp HK1
       fail_if_success guard_hyp HK2
       go_at_call 60
       refine (stdTy_any _ 2 ⟨#[73, 110, 116, 101, 103, 101, 114]⟩ 0 none 0 []).mono ?_
       rintro e w2 ⟨rfl, hk2⟩
       have HK2 := Lib.hid hk2
       clear hk2)
    | (guard_hyp HK2
       fail_if_success guard_hyp HKL
       refine wpList_build_vals [.string ⟨#[70, 97, 108, 115, 101]⟩, .string ⟨#[84, 114, 117, 101]⟩] (by simp [Value.cells]) rfl 67 9 2 #[(0, .const (.string ⟨#[70, 97, 108, 115, 101]⟩)), (1, .const (.string ⟨#[84, 114, 117, 101]⟩))] rfl i9 Try.underlying67 hi9 hz9 hs9 rfl (by decide) (by decide) rfl ?_
       intro kl hkl
       have HKL := Lib.hid hkl
       clear hkl)
    | (guard_hyp HKL
       fail_if_success guard_hyp HK3
       go_at_call 60
       refine (stdTyB _ kl).mono ?_
       rintro e w3 ⟨rfl, hk3⟩
       have HK3 := Lib.hid hk3
       clear hk3)
    | (guard_hyp HK3
       fail_if_success guard_hyp HK4
       go_at_call 60
       refine (stdTy_any _ 2 ⟨#[84, 105, 109, 101]⟩ 2 none 0 []).mono ?_
       rintro e w4 ⟨rfl, hk4⟩
       have HK4 := Lib.hid hk4
       clear hk4)
    | (guard_hyp HK4
       fail_if_success guard_hyp HKT
       refine wpList_build_rows TyV.cells 18 TyV.len (by decide) (stdTys kl) rfl 22 71 4 #[(0, .tmp 7), (1, .tmp 9), (2, .tmp 12), (3, .tmp 14)] rfl i71 Try.underlying22 hi71 hz71 hs71 rfl (by decide) (by decide) rfl ?_
       intro kt hkt
       have HKT := Lib.hid hkt
       clear hkt)
    | (guard_hyp HKT
       fail_if_success guard_hyp HKS
       refine wpList_build_rows SubtV.cells 3 SubtV.len (by decide) stdSubs rfl 23 64 5 #[(0, .tmp 16), (1, .tmp 17), (2, .tmp 18), (3, .tmp 19), (4, .tmp 20)] rfl i64 Try.underlying23 hi64 hz64 hs64 rfl (by decide) (by decide) rfl ?_
       intro ks hks
       have HKS := Lib.hid hks
       clear hks))
  refine wp_gen' ?_
  intro w5 hw5

  have hk5 : Kept [] w4 w5 := by rw [hw5]; exact ((Kept.alloc _ _ _).trans (Kept.alloc _ _ _)).trans (Kept.alloc _ _ _)
  have hB5 : w5.heap[w4.heap.size + 1 + 1]? = some (.cells #[.slice (some ⟨kt, 0, none⟩) 4 4, .slice (some ⟨ks, 0, none⟩) 5 5, .slice none 0 0, .slice none 0 0, .slice none 0 0] 28 (0, 0)) := by rw [hw5]; exact obj_new (by simp)
  have HTY : Hid (w5.heap[kt]? = some (.cells ((stdTys kl).map TyV.cells).flatten.toArray 71 (0, 0))) := by rw [Hid, hw5]; exact obj_old (obj_old (obj_new HKT.out) (by simp [HKT.out])) (by simp [HKT.out]; omega)
  have HSB : Hid (w5.heap[ks]? = some (.cells (stdSubs.map SubtV.cells).flatten.toArray 64 (0, 0))) := by rw [Hid, hw5]; exact obj_old (obj_new HKS.out) (by rw [HKS.out]; simp)
  have HLIT : Hid (w5.heap[kl]? = some (.cells #[.string ⟨#[70, 97, 108, 115, 101]⟩, .string ⟨#[84, 114, 117, 101]⟩] 9 (0, 0))) := hk5.obj (HK4.out.obj (HK3.out.obj (obj_new HKL.out) (by simp)) (by simp)) (by simp)
  have HK5 : Hid (Kept [] w0 w5) := HK1.out.trans (HK2.out.trans ((Kept.alloc _ _ _).trans (HK3.out.trans (HK4.out.trans hk5))))
  have HFR : Hid (w.heap.size ≤ kt) := by have h1 := HKT.out; have h2 := (HK1.out.trans (HK2.out.trans ((Kept.alloc _ _ _).trans (HK3.out.trans HK4.out)))).size; have h3 := HSZ0.out; rw [Hid]; omega
  have hBn : w.heap.size + 1 ≤ w4.heap.size + 1 + 1 := by have := HSZ0.out; have := (HK1.out.trans (HK2.out.trans ((Kept.alloc _ _ _).trans (HK3.out.trans HK4.out)))).size; omega
  obtain ⟨n, hn⟩ : ∃ n, n = w.heap.size + 1 := ⟨_, rfl⟩
  have HN := Lib.hid hn
  obtain ⟨v0, hv0⟩ : ∃ v0 : TabV, v0 = ⟨some ⟨kt, 0, none⟩, 4, some ⟨ks, 0, none⟩, 5, none, 0, none, 0, 0, none, 0, 0⟩ := ⟨_, rfl⟩
  have HV0 := Lib.hid hv0
  rw [← hn] at hBn
  generalize w4.heap.size + 1 + 1 = B at *
  have HBX : Hid (BoxT w5 n B (atE v0 none 0) (tabE kl [])) := ⟨by rw [HV0.out]; exact hB5, World.ownsRow_nil _ _ _ _, hBn⟩
  have HKS0 : Hid (KpS n w5 w5) := KpS.refl _ _
  clear hw5 hk5 hB5 hn hv0

  go_upto_region 5 with (first
    | (guard_hyp HBX
       fail_if_success guard_hyp HA0
       go_at_call 61
       refine (add_any _ n B (atE v0 none 0) (tabE kl ([])) HBX.out (Nat.le_of_ble_eq_true rfl) 1 ⟨#[83, 116, 97, 110, 100, 97, 114, 100]⟩ (-1) (-1) 0 none 0 []).mono ?_
       rintro e a0 ⟨rfl, ea0, ec0, hb0, hk0⟩
       have HA0 : Hid (BoxT a0 n B (atE v0 ea0 ec0) (tabE kl ([std0]))) := hb0
       have HKA0 : Hid (KpS n w5 a0) := HKS0.out.trans hk0
       clear hb0 hk0))
  obtain ⟨g, cap, rfl, hcap⟩ : ∃ g cap, ea0 = some ⟨g, 0, none⟩ ∧ ec0 = cap := by
    rcases HA0.out.own.2 with ⟨h, hh⟩ | ⟨g, cap, cur, h, _⟩
    · exact absurd hh (by show ¬ (1 = 0); decide)
    · simp only [Value.slice.injEq] at h
      exact ⟨g, cap, h.1, h.2.2⟩
  subst hcap
  have hOW : a0.ownsRow n 43 22 (.slice (some ⟨g, 0, none⟩) 1 ec0) 1 ([std0].map EntV.cells).flatten := HA0.out.own
  have HOW := Lib.hid hOW
  have hgl := hOW.lt g rfl
  have hgB : g ≠ B := by
    obtain ⟨c, hc⟩ := own_row_at' hOW (k := g) rfl
    rintro rfl
    have h2 := HA0.out.box
    rw [hc] at h2
    simp at h2
  have hec : 1 ≤ ec0 := by
    rcases hOW.2 with ⟨h, _⟩ | ⟨g', cap', cur, h, _, _, hc, _⟩
    · cases h
    · simp only [Value.slice.injEq] at h
      omega
  have cB : a0.cell? ⟨B, 2, none⟩ = some (.slice (some ⟨g, 0, none⟩) 1 ec0) := (cell_of_row _ _ _ _ _ _ HA0.out.box).trans rfl
  have cg : a0.cell? ⟨g, 2, none⟩ = some (.int .i64 0) := (hOW.cellAt 2 (by decide)).trans rfl
  have fg := hOW.frozenAt 2
  have HOB : Hid (∃ c, a0.heap[g]? = some (.cells c 43 (0, 0))) := own_row_at' hOW rfl
  clear hOW
  go_upto_region 6 with (fail)
  refine wp_gen' ?_
  intro b0 hb0
  have HB1 : Hid (BoxT b0 n B (atE v0 (some ⟨g, 0, none⟩) ec0) (tabE kl (std12.take 1))) := by
    rw [Hid, hb0]
    refine ⟨?_, ?_, HA0.out.hn⟩
    · have h0 : VRow a0 B 28 ((atE v0 (some ⟨g, 0, none⟩) ec0).cells (tabE kl (std12.take 1))).toList := HA0.out.box
      exact h0.other _ _ (fun e => hgB e.symm)
    · exact (HOW.out.stored 2 (.int .i64 (-1))).1
  have HKB1 : Hid (KpS n w5 b0) := by
    rw [Hid, hb0]
    obtain ⟨c, hc⟩ := HOB.out
    exact HKA0.out.trans (KpS.setCell _ _ _ hc hgl.1 (.inl rfl))
  clear hb0 cB cg fg hgl hgB hec

  go_upto_region 13 with (first
    | (guard_hyp HB1
       fail_if_success guard_hyp HA1
       go_at_call 61
       refine (add_any _ n B (atE v0 (some ⟨g, 0, none⟩) ec0) (tabE kl (std12.take 1)) HB1.out (Nat.le_of_ble_eq_true rfl) 5 ⟨#[73, 110, 116, 101, 103, 101, 114]⟩ 1 0 0 none 0 []).mono ?_
       rintro e a1 ⟨rfl, ea1, ec1, hb1, hk1⟩
       have HA1 : Hid (BoxT a1 n B (atE v0 ea1 ec1) (tabE kl (std12.take 2))) := hb1
       have HKA1 : Hid (KpS n w5 a1) := HKB1.out.trans hk1
       clear hb1 hk1)
    | (guard_hyp HA1
       fail_if_success guard_hyp HA2
       go_at_call 61
       refine (add_any _ n B (atE v0 ea1 ec1) (tabE kl (std12.take 2)) HA1.out (Nat.le_of_ble_eq_true rfl) 5 ⟨#[66, 111, 111, 108, 101, 97, 110]⟩ 2 1 0 none 0 []).mono ?_
       rintro e a2 ⟨rfl, ea2, ec2, hb2, hk2⟩
       have HA2 : Hid (BoxT a2 n B (atE v0 ea2 ec2) (tabE kl (std12.take 3))) := hb2
       have HKA2 : Hid (KpS n w5 a2) := HKA1.out.trans hk2
       clear hb2 hk2)
    | (guard_hyp HA2
       fail_if_success guard_hyp HA3
       go_at_call 61
       refine (add_any _ n B (atE v0 ea2 ec2) (tabE kl (std12.take 3)) HA2.out (Nat.le_of_ble_eq_true rfl) 10 ⟨#[70, 97, 108, 115, 101]⟩ 2 (-1) 0 none 0 []).mono ?_
       rintro e a3 ⟨rfl, ea3, ec3, hb3, hk3⟩
       have HA3 : Hid (BoxT a3 n B (atE v0 ea3 ec3) (tabE kl (std12.take 4))) := hb3
       have HKA3 : Hid (KpS n w5 a3) := HKA2.out.trans hk3
       clear hb3 hk3)
    | (guard_hyp HA3
       fail_if_success guard_hyp HA4
       go_at_call 61
       refine (add_any _ n B (atE v0 ea3 ec3) (tabE kl (std12.take 4)) HA3.out (Nat.le_of_ble_eq_true rfl) 10 ⟨#[84, 114, 117, 101]⟩ 2 (-1) 1 none 0 []).mono ?_
       rintro e a4 ⟨rfl, ea4, ec4, hb4, hk4⟩
       have HA4 : Hid (BoxT a4 n B (atE v0 ea4 ec4) (tabE kl (std12.take 5))) := hb4
       have HKA4 : Hid (KpS n w5 a4) := HKA3.out.trans hk4
       clear hb4 hk4)
    | (guard_hyp HA4
       fail_if_success guard_hyp HA5
       go_at_call 61
       refine (add_any _ n B (atE v0 ea4 ec4) (tabE kl (std12.take 5)) HA4.out (Nat.le_of_ble_eq_true rfl) 5 ⟨#[84, 105, 109, 101]⟩ 3 2 0 none 0 []).mono ?_
       rintro e a5 ⟨rfl, ea5, ec5, hb5, hk5⟩
       have HA5 : Hid (BoxT a5 n B (atE v0 ea5 ec5) (tabE kl (std12.take 6))) := hb5
       have HKA5 : Hid (KpS n w5 a5) := HKA4.out.trans hk5
       clear hb5 hk5)
    | (guard_hyp HA5
       fail_if_success guard_hyp HA6
       go_at_call 61
       refine (add_any _ n B (atE v0 ea5 ec5) (tabE kl (std12.take 6)) HA5.out (Nat.le_of_ble_eq_true rfl) 6 ⟨#[78, 97, 116, 117, 114, 97, 108]⟩ 1 3 0 none 0 []).mono ?_
       rintro e a6 ⟨rfl, ea6, ec6, hb6, hk6⟩
       have HA6 : Hid (BoxT a6 n B (atE v0 ea6 ec6) (tabE kl (std12.take 7))) := hb6
       have HKA6 : Hid (KpS n w5 a6) := HKA5.out.trans hk6
       clear hb6 hk6)
    | (guard_hyp HA6
       fail_if_success guard_hyp HA7
       go_at_call 61
       refine (add_any _ n B (atE v0 ea6 ec6) (tabE kl (std12.take 7)) HA6.out (Nat.le_of_ble_eq_true rfl) 6 ⟨#[80, 111, 115, 105, 116, 105, 118, 101]⟩ 1 4 0 none 0 []).mono ?_
       rintro e a7 ⟨rfl, ea7, ec7, hb7, hk7⟩
       have HA7 : Hid (BoxT a7 n B (atE v0 ea7 ec7) (tabE kl (std12.take 8))) := hb7
       have HKA7 : Hid (KpS n w5 a7) := HKA6.out.trans hk7
       clear hb7 hk7))
  clear HA0 HA1 HA2 HA3 HA4 HA5 HA6 HKA0 HKA1 HKA2 HKA3 HKA4 HKA5 HKA6
  go_wp2_with fail
  go_loopw [45] (fun i wr => ∃ (k : Nat) (j : Int), k ≤ 4 ∧ Hid (j = (k : Int)) ∧ i = .int .i64 j ∧ ∃ ea ec, BoxT wr n B (atE v0 ea ec) (tabE kl (std12.take (8 + k))) ∧ KpS n w5 wr) (fun i _ => 4 - (intOf i).toNat)
  case atStart => exact ⟨0, 0, by omega, rfl, rfl, ea7, ec7, HA7.out, HKA7.out⟩
  case round =>
    obtain ⟨k, j, hk, hj, rfl, ea, ec, hb, hkp⟩ := hrel
    have HBR := Lib.hid hb
    have HKR := Lib.hid hkp
    clear hb hkp HA7 HKA7 HB1 HKB1
    rcases (by omega : k = 0 ∨ k = 1 ∨ k = 2 ∨ k = 3 ∨ k = 4) with rfl | rfl | rfl | rfl | rfl
    · obtain rfl : j = 0 := hj.out
      clear hk
      go_wp2_with (first
        | (fail_if_success guard_hyp HA8
           go_at_call 61
           refine (add_any _ n B (atE v0 ea ec) (tabE kl (std12.take 8)) HBR.out (Nat.le_of_ble_eq_true rfl) 11 ⟨#[67, 111, 110, 115, 116, 114, 97, 105, 110, 116, 95, 69, 114, 114, 111, 114]⟩ (-1) (-1) 1 none 0 []).mono ?_
           rintro e a8 ⟨rfl, ea8, ec8, hb8, hk8⟩
           have HA8 : Hid (BoxT a8 n B (atE v0 ea8 ec8) (tabE kl (std12.take 9))) := hb8
           have HKA8 : Hid (KpS n w5 a8) := HKR.out.trans hk8
           clear hb8 hk8))
      go_roundw
      case rel => exact ⟨1, 1, by omega, rfl, by go_num, ea8, ec8, HA8.out, HKA8.out⟩
      case measure => simp [intOf]
    · obtain rfl : j = 1 := hj.out
      clear hk
      go_wp2_with (first
        | (fail_if_success guard_hyp HA8
           go_at_call 61
           refine (add_any _ n B (atE v0 ea ec) (tabE kl (std12.take 9)) HBR.out (Nat.le_of_ble_eq_true rfl) 11 ⟨#[80, 114, 111, 103, 114, 97, 109, 95, 69, 114, 114, 111, 114]⟩ (-1) (-1) 2 none 0 []).mono ?_
           rintro e a8 ⟨rfl, ea8, ec8, hb8, hk8⟩
           have HA8 : Hid (BoxT a8 n B (atE v0 ea8 ec8) (tabE kl (std12.take 10))) := hb8
           have HKA8 : Hid (KpS n w5 a8) := HKR.out.trans hk8
           clear hb8 hk8))
      go_roundw
      case rel => exact ⟨2, 2, by omega, rfl, by go_num, ea8, ec8, HA8.out, HKA8.out⟩
      case measure => simp [intOf]
    · obtain rfl : j = 2 := hj.out
      clear hk
      go_wp2_with (first
        | (fail_if_success guard_hyp HA8
           go_at_call 61
           refine (add_any _ n B (atE v0 ea ec) (tabE kl (std12.take 10)) HBR.out (Nat.le_of_ble_eq_true rfl) 11 ⟨#[84, 97, 115, 107, 105, 110, 103, 95, 69, 114, 114, 111, 114]⟩ (-1) (-1) 3 none 0 []).mono ?_
           rintro e a8 ⟨rfl, ea8, ec8, hb8, hk8⟩
           have HA8 : Hid (BoxT a8 n B (atE v0 ea8 ec8) (tabE kl (std12.take 11))) := hb8
           have HKA8 : Hid (KpS n w5 a8) := HKR.out.trans hk8
           clear hb8 hk8))
      go_roundw
      case rel => exact ⟨3, 3, by omega, rfl, by go_num, ea8, ec8, HA8.out, HKA8.out⟩
      case measure => simp [intOf]
    · obtain rfl : j = 3 := hj.out
      clear hk
      go_wp2_with (first
        | (fail_if_success guard_hyp HA8
           go_at_call 61
           refine (add_any _ n B (atE v0 ea ec) (tabE kl (std12.take 11)) HBR.out (Nat.le_of_ble_eq_true rfl) 11 ⟨#[69, 110, 100, 95, 69, 114, 114, 111, 114]⟩ (-1) (-1) 4 none 0 []).mono ?_
           rintro e a8 ⟨rfl, ea8, ec8, hb8, hk8⟩
           have HA8 : Hid (BoxT a8 n B (atE v0 ea8 ec8) (tabE kl (std12.take 12))) := hb8
           have HKA8 : Hid (KpS n w5 a8) := HKR.out.trans hk8
           clear hb8 hk8))
      go_roundw
      case rel => exact ⟨4, 4, by omega, rfl, by go_num, ea8, ec8, HA8.out, HKA8.out⟩
      case measure => simp [intOf]
    · obtain rfl : j = 4 := hj.out
      clear hk
      go_upto_region 21 with (first
        | (fail_if_success guard_hyp HP1
           refine wpList_build_rows ParamV.cells 13 ParamV.len (by decide) [parX 1] rfl 39 107 1 #[(0, .tmp 56)] rfl i107 Try.underlying39 hi107 hz107 hs107 rfl (by decide) (by decide) rfl ?_
           intro k1 hkk
           have HP1 := Lib.hid hkk
           clear hkk)
        | (guard_hyp HP1
           fail_if_success guard_hyp HA12
           go_at_call 61
           refine (add_par _ n B (atE v0 ea ec) (tabE kl std12) (HBR.out.alloc _) (Nat.le_of_ble_eq_true rfl) 3 ⟨#[80, 117, 116]⟩ k1 (parX 1)).mono ?_
           rintro e a12 ⟨rfl, ea12, ec12, hb12, hk12⟩
           have HA12 : Hid (BoxT a12 n B (atE v0 ea12 ec12) (tabE kl (std12 ++ [putE k1]))) := hb12
           have HKA12 : Hid (KpS n w5 a12) := (HKR.out.trans (KpS.of_kept (Kept.alloc _ _ _))).trans hk12
           have HQ1 : Hid (a12.heap[k1]? = some (.cells ([parX 1].map ParamV.cells).flatten.toArray 107 (0, 0))) := hk12.block _ _ (obj_new HP1.out) (.inr ⟨_, _, _, rfl, by decide, by decide⟩)
           clear hb12 hk12)
        | (guard_hyp HA12
           fail_if_success guard_hyp HP2
           refine wpList_build_rows ParamV.cells 13 ParamV.len (by decide) [parX 2] rfl 39 107 1 #[(0, .tmp 60)] rfl i107 Try.underlying39 hi107 hz107 hs107 rfl (by decide) (by decide) rfl ?_
           intro k2 hkk
           have HP2 := Lib.hid hkk
           clear hkk)
        | (guard_hyp HP2
           fail_if_success guard_hyp HA13
           go_at_call 61
           refine (add_par _ n B (atE v0 ea12 ec12) (tabE kl (std12 ++ [putE k1])) (HA12.out.alloc _) (Nat.le_of_ble_eq_true rfl) 3 ⟨#[71, 101, 116]⟩ k2 (parX 2)).mono ?_
           rintro e a13 ⟨rfl, ea13, ec13, hb13, hk13⟩
           have HA13 : Hid (BoxT a13 n B (atE v0 ea13 ec13) (tabE kl (std12 ++ [putE k1, getE k2]))) := hb13
           have HKA13 : Hid (KpS n a12 a13) := (KpS.of_kept (Kept.alloc _ _ _)).trans hk13
           have HQ2 : Hid (a13.heap[k2]? = some (.cells ([parX 2].map ParamV.cells).flatten.toArray 107 (0, 0))) := hk13.block _ _ (obj_new HP2.out) (.inr ⟨_, _, _, rfl, by decide, by decide⟩)
           clear hb13 hk13)
        | (guard_hyp HA13
           fail_if_success guard_hyp HA14
           go_at_call 61
           refine (add_any _ n B (atE v0 ea13 ec13) (tabE kl (std12 ++ [putE k1, getE k2])) HA13.out (Nat.le_of_ble_eq_true rfl) 4 ⟨#[67, 108, 111, 99, 107]⟩ 3 2 0 none 0 []).mono ?_
           rintro e a14 ⟨rfl, ea14, ec14, hb14, hk14⟩
           have HA14 : Hid (BoxT a14 n B (atE v0 ea14 ec14) (tabE kl (stdEnts k1 k2))) := hb14
           have HKA14 : Hid (KpS n a13 a14) := hk14
           clear hb14 hk14))
      have HKF : Hid (KpS n w5 a14) := HKA12.out.trans (HKA13.out.trans HKA14.out)
      have HT0 : Hid (a14.heap[w.heap.size]? = some (.cells #[.slice none 0 0, .slice none 0 0, .slice none 0 0, .slice none 0 0, .slice none 0 0] 28 (0, 0))) := HKF.out.block _ _ (HK5.out.obj HB0.out (by simp)) (.inl (by rw [HN.out]; omega))
      have HVC : Hid ((atE v0 ea14 ec14).cells (tabE kl (stdEnts k1 k2)) = #[.slice (some ⟨kt, 0, none⟩) 4 4, .slice (some ⟨ks, 0, none⟩) 5 5, .slice ea14 15 ec14, .slice none 0 0, .slice none 0 0]) := by rw [Hid, HV0.out]; rfl
      have HBF : Hid (a14.heap[B]? = some (.cells #[.slice (some ⟨kt, 0, none⟩) 4 4, .slice (some ⟨ks, 0, none⟩) 5 5, .slice ea14 15 ec14, .slice none 0 0, .slice none 0 0] 28 (0, 0))) := by rw [Hid, ← HVC.out]; exact HA14.out.box
      have c0 : ∀ j, a14.cell? ⟨B, j, none⟩ = _ := fun j => cell_of_row _ _ j _ _ _ HBF.out
      have d0 : a14.cell? ⟨B, 0, none⟩ = some (.slice (some ⟨kt, 0, none⟩) 4 4) := c0 0
      have d1 : a14.cell? ⟨B, 1, none⟩ = some (.slice (some ⟨ks, 0, none⟩) 5 5) := c0 1
      have d2 : a14.cell? ⟨B, 2, none⟩ = some (.slice ea14 15 ec14) := c0 2
      have d3 : a14.cell? ⟨B, 3, none⟩ = some (.slice none 0 0) := c0 3
      have d4 : a14.cell? ⟨B, 4, none⟩ = some (.slice none 0 0) := c0 4
      clear c0
      go_wp2_with (first
        | (fail_if_success guard_hyp HWF
           refine wpList_store_row rfl 28 (.tmp 0) (.tmp 65) rfl w.heap.size _ #[.slice (some ⟨kt, 0, none⟩) 4 4, .slice (some ⟨ks, 0, none⟩) 5 5, .slice ea14 15 ec14, .slice none 0 0, .slice none 0 0] rfl HT0.out rfl Try.size28 rfl (by simp [Value.oneCell']) ?_
           intro wf hwf hkf
           have HWF := Lib.hid hwf
           have HKWF := Lib.hid hkf
           clear hwf hkf))
      have HKZ : Hid (Kept [] w wf) := (KpS.kept (HK0.out.trans HK5.out) HKF.out (by rw [HN.out]; omega)).above HKWF.out (by simp)
      have hne : ∀ (k : Nat) (c : Array Value) (ty : TypeId), a14.heap[k]? = some (Obj.cells c ty (0, 0)) → ty ≠ 28 → wf.heap[k]? = some (Obj.cells c ty (0, 0)) := fun k c ty hk hty => HKWF.out.obj hk (by
        simp
        rintro rfl
        rw [HT0.out] at hk
        simp only [Option.some.injEq, Obj.cells.injEq] at hk
        exact hty hk.2.1.symm)
      refine bodyPost_ret (results30_of (c := #[.slice (some ⟨kt, 0, none⟩) 4 4, .slice (some ⟨ks, 0, none⟩) 5 5, .slice ea14 15 ec14, .slice none 0 0, .slice none 0 0]) rfl rfl ?_) rfl ⟨atE v0 ea14 ec14, kl, k1, k2, ?_, ?_, ⟨⟨kt, ?_, ?_, ?_⟩, ⟨ks, ?_, ?_, ?_⟩, ?_, ?_, ?_⟩, HKZ.out, fun a ha => by rw [show (atE v0 ea14 ec14).ta = some ⟨kt, 0, none⟩ by rw [HV0.out]; rfl] at ha; cases ha; exact HFR.out, by rw [HV0.out]; rfl, by rw [HV0.out]; rfl⟩
      · intro j u hu
        rw [Nat.zero_add, cell_of_row _ _ _ _ _ _ HWF.out]
        simpa using hu
      · rw [← HVC.out]
        rfl
      · refine ownsRow_base (base := n) ?_ (by rw [HN.out]; omega)
        exact own_keep HA14.out.own HKWF.out (fun q hq => by have := HA14.out.own.lt q hq; have := HN.out; simp; omega)
      · rw [HV0.out]; rfl
      · rw [HV0.out]; rfl
      · exact hne _ _ _ (HKF.out.block _ _ HTY.out (.inr ⟨_, _, _, rfl, by decide, by decide⟩)) (by decide)
      · rw [HV0.out]; rfl
      · rw [HV0.out]; rfl
      · exact hne _ _ _ (HKF.out.block _ _ HSB.out (.inr ⟨_, _, _, rfl, by decide, by decide⟩)) (by decide)
      · exact hne _ _ _ (HKF.out.block _ _ HLIT.out (.inr ⟨_, _, _, rfl, by decide, by decide⟩)) (by decide)
      · exact hne _ _ _ (HKA14.out.block _ _ (HKA13.out.block _ _ HQ1.out (.inr ⟨_, _, _, rfl, by decide, by decide⟩)) (.inr ⟨_, _, _, rfl, by decide, by decide⟩)) (by decide)
      · exact hne _ _ _ (HKA14.out.block _ _ HQ2.out (.inr ⟨_, _, _, rfl, by decide, by decide⟩)) (by decide)
theorem std_new (w : World) : Calls Try.prog 30 #[] w (RetStdN w) := (std_full w).mono fun _ _ ⟨v, kl, k1, k2, h1, h2, h3, h4, h5, _⟩ => ⟨v, kl, k1, k2, h1, h2, h3, h4, h5⟩
theorem std_any (w : World) : Calls Try.prog 30 #[] w (RetStd w) := (std_new w).mono fun _ _ ⟨v, kl, k1, k2, h1, h2, h3, h4, _⟩ => ⟨v, kl, k1, k2, h1, h2, h3, h4⟩
end Go.Proofs.Ytlgcboaojdhneaa
