/- ScopeAdds' walk. -/
import Derived.Test.YtlgcboaojdhneaaF13
import Derived.Test.YtlgcboaojdhneaaK6
namespace Go.Proofs.Ytlgcboaojdhneaa
open Go.RowKit
def build24z : Sem Next := do return .value (← Instr.buildSlice 24 0 #[])
@[go_sem ↓] theorem execOp_build24z (ρ : Operand → Value) (dst : Option Tmp) (ty : TypeId) (pos : String) (after : Array Edge) (guard : Option (Nat × Bool)) :
    execOp ρ { dst, op := .buildSlice 24 0 #[], type := ty, pos, after, guard } = build24z := by simp [execOp, build24z]
@[go_sem] theorem run_build24z (w : World) : Sem.run Try.prog build24z w = .ok (.value (.slice (some ⟨w.heap.size, 0, none⟩) 0 0)) (w.alloc (.cells #[] 43)) := by kernel_rfl

set_option maxRecDepth 100000 in
set_option maxHeartbeats 4000000 in
theorem adds_any (w : World) (v : TabV) (t0 : Tab) (x : EntV) (hT : TabIn w v t0) (hA : TysIn w v t0) (hx : EntIn w x) :
    Calls Try.prog 6 #[.agg (v.cells t0), .agg x.cells.toArray] w (RetB true w) := by
  have HT := Lib.hid hT
  have HA := Lib.hid hA
  have HX := Lib.hid hx
  have HV0 : Hid (v.cells t0 = #[.slice v.ta t0.types.length v.tc, .slice v.sa t0.subs.length v.sc, .slice v.ea t0.ents.length v.ec, .slice v.ga v.gn v.gc, .slice v.ia v.im v.ic]) := rfl
  clear hT hA hx
  obtain ⟨i0, hi, hz0, hz1, hz2⟩ := info_parts ent_info
  rw [HV0.out]
  go_enter Try.func6, Try.ntmps6
  go_upto_region 1 with (fail)
  refine wp_gen' ?_
  intro w0 hw0
  have HK0 : Hid (Kept [] w w0) := by rw [Hid, hw0]; exact (Kept.alloc _ _ _).trans (Kept.alloc _ _ _)
  have HB0 : Hid (w0.heap[w.heap.size]? = some (.cells (v.cells t0) 28 (0, 0))) := by rw [Hid, hw0]; exact obj_old (obj_new rfl) (by simp)
  have HXB : Hid (w0.heap[w.heap.size + 1]? = some (.cells x.cells.toArray 43 (0, 0))) := by rw [Hid, hw0]; exact obj_new (by simp)
  clear hw0
  have c0 : ∀ j, w0.cell? ⟨w.heap.size, j, none⟩ = (v.cells t0)[j]? := fun j => cell_of_row _ _ _ _ _ _ HB0.out
  have d0 : w0.cell? ⟨w.heap.size, 0, none⟩ = some (.slice v.ta t0.types.length v.tc) := c0 0
  have d1 : w0.cell? ⟨w.heap.size, 1, none⟩ = some (.slice v.sa t0.subs.length v.sc) := c0 1
  have d2 : w0.cell? ⟨w.heap.size, 2, none⟩ = some (.slice v.ea t0.ents.length v.ec) := c0 2
  have d3 : w0.cell? ⟨w.heap.size, 3, none⟩ = some (.slice v.ga v.gn v.gc) := c0 3
  have d4 : w0.cell? ⟨w.heap.size, 4, none⟩ = some (.slice v.ia v.im v.ic) := c0 4
  clear c0
  have HC := Lib.hid (cut_any w0 v t0 (HT.out.kept HK0.out))
  rw [HV0.out] at HC
  go_upto_region 2 with (first
    | (go_at_call 10
       refine HC.out.mono ?_
       rintro e w1 ⟨rfl, hk1⟩
       have HK1 := Lib.hid hk1
       clear hk1)
    | (guard_hyp HK1
       fail_if_success guard_hyp HB2
       refine wpList_store_row rfl 28 (.tmp 2) (.tmp 11) rfl w.heap.size _ (v.cells (cutT t0)) rfl (HK1.out.obj HB0.out (by simp)) rfl (Try.info28 v _) rfl (tab_one _ _) ?_
       intro w2 hb2 hk2
       have HB2 := Lib.hid hb2
       have HK2 := Lib.hid hk2
       clear hb2 hk2))
  clear d0 d1 d2 d3 d4 HC
  have HKZ : Hid (Kept [] w w2) := (HK0.out.trans HK1.out).above HK2.out (by simp)
  have HTB : Hid (TabBox w2 w.heap.size v (cutT t0)) := ⟨HB2.out, HT.out.cut.kept HKZ.out⟩
  have HX2 : Hid (w2.heap[w.heap.size + 1]? = some (.cells x.cells.toArray 43 (0, 0))) := HK2.out.obj (HK1.out.obj HXB.out (by simp)) (by simp)
  have HA2 : Hid (TysIn w2 v (cutT t0)) := (TysIn.kept (t := cutT t0) ⟨HA.out.ts, HA.out.tl, HA.out.tm, HA.out.ti⟩ HKZ.out)
  have HE2 : Hid (EntIn w2 x) := HX.out.kept HKZ.out
  have hlen : (cutT t0).ents.length ≤ 120 := by simp [cutT, List.length_take]; omega
  generalize cutT t0 = t at *
  have HLEN := Lib.hid hlen
  clear HB0 HB2 HK0 HK1 HK2 hlen HT HA HX HXB HV0
  have HV : Hid (v.cells t = #[.slice v.ta t.types.length v.tc, .slice v.sa t.subs.length v.sc, .slice v.ea t.ents.length v.ec, .slice v.ga v.gn v.gc, .slice v.ia v.im v.ic]) := rfl
  have HALL : Hid (∀ u ∈ (t.ents.map EntV.cells).flatten, u.oneCell' = true) := by
    intro u hu
    obtain ⟨l, hl, hu⟩ := List.mem_flatten.1 hu
    obtain ⟨y, _, rfl⟩ := List.mem_map.1 hl
    have := EntV.one y
    simp only [Array.all_eq_true_iff_forall_mem, List.mem_toArray] at this
    exact this u hu
  have hA0 : 0 + t.ents.length ≤ maxLen := by have := HLEN.out; unfold maxLen; omega
  have hB0 : (0 + t.ents.length) * 176 ≤ 140737488355328 := by have := HLEN.out; omega
  have HTZ : Hid (TabBox (w2.alloc (.cells #[] 43)) w.heap.size v t) := HTB.out.kept (Kept.alloc _ _ _)
  have hSZ : w2.heap.size ≤ (w2.alloc (.cells #[] 43)).heap.size := by simp
  obtain ⟨d0, d1, d2, d3, d4⟩ := HTZ.out.cells
  go_upto_region 3 with (at_builtin; refine wpList_append_src _ rfl _ _ 24 rfl w2.heap.size 43 i0 (.agg zeroE.cells.toArray) 22 176 Try.underlying24 hi hz0 hz1 hz2 rfl (by decide) (.slice (some ⟨w2.heap.size, 0, none⟩) 0 0) 0 [] rfl (World.ownsRow_made w2 #[] 0 (Nat.le_refl _) (Nat.zero_le _) rfl) v.ea t.ents.length v.ec (t.ents.map EntV.cells).flatten rfl (HTZ.out.tab.es.src EntV.len (by decide)) HALL.out hA0 hB0 hSZ ?_; intro v1 w3 ho1 hg1 _; have HO1 : Hid (w3.ownsRow w2.heap.size 43 22 v1 t.ents.length (t.ents.map EntV.cells).flatten) := (by simpa [Hid] using ho1); have HK3 : Hid (Kept [] w2 w3) := (Kept.alloc [] _ _).grown hg1 (fun q hq => by simp [Value.ownBlock] at hq; omega); clear ho1 hg1)
  obtain ⟨A1, c1, rfl, hc1, hc2, _, hrw⟩ := rows_own (l := t.ents) HO1.out EntV.len rfl
  have HC1 := Lib.hid hc1
  have HC2 := Lib.hid hc2
  have HRW := Lib.hid hrw
  clear d0 d1 d2 d3 d4 hc1 hc2 hrw HTZ hSZ hA0 hB0 HALL
  have HT3 : Hid (TabBox w3 w.heap.size v t) := HTB.out.kept HK3.out
  have HA3 : Hid (TysIn w3 v t) := HA2.out.kept HK3.out
  have HE3 : Hid (EntIn w3 x) := HE2.out.kept HK3.out
  have HX3 : Hid (w3.heap[w.heap.size + 1]? = some (.cells x.cells.toArray 43 (0, 0))) := HK3.out.obj HX2.out (by simp)
  have HKW : Hid (Kept [] w w3) := HKZ.out.trans HK3.out
  clear HTB HA2 HE2 HX2 HKZ HK3 HO1
  haveI ix : EntAt w3 (w.heap.size + 1) 0 x := ⟨EntV.range HX3.out⟩
  obtain ⟨d0, d1, d2, d3, d4⟩ := HT3.out.cells
  have HC26 : Hid (Calls Try.prog 26 #[.agg #[.slice v.ta t.types.length v.tc, .slice v.sa t.subs.length v.sc, .slice v.ea t.ents.length v.ec, .slice v.ga v.gn v.gc, .slice v.ia v.im v.ic], .agg x.cells.toArray] w3 (AddF v t x w3)) := by
    rw [Hid, ← HV.out]
    exact (add_ent w3 v t x HT3.out.tab HE3.out (by have := HLEN.out; omega)).mono fun _ _ h => h.form
  go_upto_region 4 with (first
    | (go_at_call 26
       refine HC26.out.mono ?_
       rintro e w4 ⟨a0, a1, a2, a3, a4, n1, rfl, h1a, hr1, hk1⟩
       have H1A := Lib.hid h1a
       have HR1 := Lib.hid hr1
       have HK4 := Lib.hid hk1
       clear h1a hr1 hk1)
    | (guard_hyp HK4
       refine wpList_store_new rfl 28 (.tmp 6) (.tmp 20) rfl _ #[a0, a1, a2, a3, a4] w4.heap.size rfl rfl rfl Try.size28 rfl H1A.out ?_))
  refine wp_gen' ?_
  intro w5 hw5
  have hk5 : Kept [] w4 w5 := by rw [hw5]; exact Kept.alloc _ _ _
  have HK5 : Hid (Kept [] w3 w5) := HK4.out.trans hk5
  have HBA : Hid (w5.heap[w4.heap.size]? = some (.cells #[a0, a1, a2, a3, a4] 28 (0, 0))) := by rw [Hid, hw5]; exact heap_alloc_new _ _
  have HR5 := Lib.hid (HR1.out.after hk5)
  generalize w4.heap.size = R6 at *
  clear hw5 hk5 d0 d1 d2 d3 d4 HR1 H1A HK4 HC26 ix
  have HT5 : Hid (TabBox w5 w.heap.size v t) := HT3.out.kept HK5.out
  have HX5 : Hid (w5.heap[w.heap.size + 1]? = some (.cells x.cells.toArray 43 (0, 0))) := HK5.out.obj HX3.out (by simp)
  have HE5 : Hid (EntIn w5 x) := HE3.out.kept HK5.out
  haveI ix : EntAt w5 (w.heap.size + 1) 0 x := ⟨EntV.range HX5.out⟩
  obtain ⟨d0, d1, d2, d3, d4⟩ := HT5.out.cells
  have HC27 : Hid (Calls Try.prog 27 #[.agg #[.slice v.ta t.types.length v.tc, .slice v.sa t.subs.length v.sc, .slice v.ea t.ents.length v.ec, .slice v.ga v.gn v.gc, .slice v.ia v.im v.ic], .agg x.cells.toArray] w5 (AddF v t x w5)) := by
    rw [Hid, ← HV.out]
    exact (addRef_any w5 v t x HT5.out.tab HE5.out (by have := HLEN.out; omega)).mono fun _ _ h => h.form
  go_upto_region 5 with (first
    | (go_at_call 27
       refine HC27.out.mono ?_
       rintro e w6 ⟨b0, b1, b2, b3, b4, n2, rfl, h1a, hr1, hk1⟩
       have H1A := Lib.hid h1a
       have HR6 := Lib.hid hr1
       have HK6 := Lib.hid hk1
       clear h1a hr1 hk1)
    | (guard_hyp HK6
       refine wpList_store_new rfl 28 (.tmp 8) (.tmp 26) rfl _ #[b0, b1, b2, b3, b4] w6.heap.size rfl rfl rfl Try.size28 rfl H1A.out ?_))
  refine wp_gen' ?_
  intro w7 hw7
  have hk7 : Kept [] w6 w7 := by rw [hw7]; exact Kept.alloc _ _ _
  have HK7 : Hid (Kept [] w5 w7) := HK6.out.trans hk7
  have HBA7 : Hid (w7.heap[R6]? = some (.cells #[a0, a1, a2, a3, a4] 28 (0, 0))) := HK7.out.obj HBA.out (by simp)
  have HBB7 : Hid (w7.heap[w6.heap.size]? = some (.cells #[b0, b1, b2, b3, b4] 28 (0, 0))) := by rw [Hid, hw7]; exact heap_alloc_new _ _
  obtain ⟨ra, rb, n, he1, he2, _, _, _, _, hsame⟩ := sameAdds_any HT3.out.tab HA3.out HE3.out HR5.out HR6.out
  injection he1 with he1
  injection he1 with he1
  injection he2 with he2
  injection he2 with he2
  simp only [Array.mk.injEq, List.cons.injEq, Value.agg.injEq, Value.int.injEq, and_true, true_and] at he1 he2
  obtain ⟨rfl, rfl⟩ := he1
  obtain ⟨rfl, rfl⟩ := he2
  have HSA : Hid (Calls Try.prog 28 #[.agg #[a0, a1, a2, a3, a4], .agg #[b0, b1, b2, b3, b4]] w7 (RetB true w7)) := hsame w7 hk7
  clear hsame hk7 hw7 d0 d1 d2 d3 d4 ix HC27 H1A HR6 HR5 HK6 HBA
  generalize w6.heap.size = R8 at *
  have HT7 : Hid (TabBox w7 w.heap.size v t) := HT5.out.kept HK7.out
  have HKW7 : Hid (Kept [] w w7) := HKW.out.trans (HK5.out.trans HK7.out)
  have HRW7 : Hid (RowsAt EntV 22 EntV.cells w7 A1 t.ents) := HRW.out.kept (HK5.out.trans HK7.out)
  have p0 : w7.cell? ⟨R6, 0, none⟩ = some a0 := (cell_of_row _ _ _ _ _ _ HBA7.out).trans rfl
  have p1 : w7.cell? ⟨R6, 1, none⟩ = some a1 := (cell_of_row _ _ _ _ _ _ HBA7.out).trans rfl
  have p2 : w7.cell? ⟨R6, 2, none⟩ = some a2 := (cell_of_row _ _ _ _ _ _ HBA7.out).trans rfl
  have p3 : w7.cell? ⟨R6, 3, none⟩ = some a3 := (cell_of_row _ _ _ _ _ _ HBA7.out).trans rfl
  have p4 : w7.cell? ⟨R6, 4, none⟩ = some a4 := (cell_of_row _ _ _ _ _ _ HBA7.out).trans rfl
  have q0 : w7.cell? ⟨R8, 0, none⟩ = some b0 := (cell_of_row _ _ _ _ _ _ HBB7.out).trans rfl
  have q1 : w7.cell? ⟨R8, 1, none⟩ = some b1 := (cell_of_row _ _ _ _ _ _ HBB7.out).trans rfl
  have q2 : w7.cell? ⟨R8, 2, none⟩ = some b2 := (cell_of_row _ _ _ _ _ _ HBB7.out).trans rfl
  have q3 : w7.cell? ⟨R8, 3, none⟩ = some b3 := (cell_of_row _ _ _ _ _ _ HBB7.out).trans rfl
  have q4 : w7.cell? ⟨R8, 4, none⟩ = some b4 := (cell_of_row _ _ _ _ _ _ HBB7.out).trans rfl
  clear HBA7 HBB7 HT5 HT3 HX5 HX3 HE5 HE3 HA3 HK5 HK7 HKW HRW
  have HD7 : Hid (∀ wx, Kept [] w7 wx → wx.cell? ⟨w.heap.size, 2, none⟩ = some (.slice v.ea t.ents.length v.ec)) := fun wx hk => (HT7.out.kept hk).cells.2.2.1
  have HC29 : Hid (∀ wx, Kept [] w7 wx → Calls Try.prog 29 #[.slice v.ea t.ents.length v.ec, .slice A1 t.ents.length c1] wx (RetB true wx)) := fun wx hk => by
    have ht := (HT7.out.kept hk).tab
    exact ents_any wx v.ea A1 v.ec c1 t.ents t.ents (ReEnts.refl _) ht.el ht.em ht.es HC1.out HC2.out (HRW7.out.kept hk) (fun _ hx => ht.ent hx) (fun _ hx => ht.ent hx)
  go_wp2_with (first
    | (fail_if_success guard_hyp HK8
       go_at_call 28
       refine HSA.out.mono ?_
       rintro e w8 ⟨rfl, hk8⟩
       have HK8 := Lib.hid hk8
       have s2 := HD7.out w8 hk8
       clear hk8)
    | (go_at_call 29
       refine (HC29.out _ HK8.out).mono ?_
       rintro e w9 ⟨rfl, hk9⟩
       have HK9 := Lib.hid hk9
       clear hk9)
    | (go_at_call 30
       refine (std_g _).mono ?_
       rintro e wa hsa
       have HSTA := Lib.hid hsa
       obtain ⟨va, la, ka1, ka2, rfl, hsa⟩ := hsa
       have HKA := Lib.hid hsa.2.2.1
       generalize va.cells (stdT la ka1 ka2) = ca at *
       clear hsa)
    | (go_at_call 31
       refine (stdRef_any _).mono ?_
       rintro e wb hsb
       obtain ⟨ra, rb, hea, heb, hkb, hsm⟩ := sameStd_any HSTA.out hsb
       injection hea with hea
       injection hea with hea
       subst hea
       subst heb
       have HKB := Lib.hid hkb
       have HSM := Lib.hid hsm
       clear hsb hkb hsm)
    | (guard_hyp HSM
       go_at_call 28
       refine HSM.out.mono ?_
       rintro e wd ⟨rfl, hkd⟩
       have HKD := Lib.hid hkd
       clear hkd)
    | (go_at_call 14
       refine (works_any _).mono ?_
       rintro e we ⟨rfl, hke⟩
       have HKE := Lib.hid hke
       clear hke))
  go_ret
  exact ⟨rfl, HKW7.out.trans (HK8.out.trans (HK9.out.trans (HKA.out.trans (HKB.out.trans (HKD.out.trans HKE.out)))))⟩
end Go.Proofs.Ytlgcboaojdhneaa
