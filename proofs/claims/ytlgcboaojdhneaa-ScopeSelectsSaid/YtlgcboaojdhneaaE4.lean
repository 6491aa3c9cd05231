/- The table of the examples. -/
import Derived.Test.YtlgcboaojdhneaaE2
import Derived.Test.YtlgcboaojdhneaaE3
namespace Go.Proofs.Ytlgcboaojdhneaa
open Go.RowKit

def some7 : List EntV := [someE 2 ⟨#[80]⟩ 0 (-1) 0 0, someE 7 ⟨#[120]⟩ 15 1 0 0, someE 4 ⟨#[102]⟩ 15 1 0 0, someE 7 ⟨#[121]⟩ 15 1 1 0, someE 3 ⟨#[81]⟩ 0 (-1) 0 4, someE 4 ⟨#[102]⟩ 19 2 2 0, someE 8 ⟨#[120]⟩ 19 1 2 0]
def someEnts (k1 k2 : Nat) : List EntV := stdEnts k1 k2 ++ some7
def someT (kl k1 k2 : Nat) : Tab := ⟨stdTys kl, stdSubs, someEnts k1 k2⟩
def RetSome (w : World) (e : Ending) (w' : World) : Prop := ∃ v kl k1 k2, e = .returned (.agg (v.cells (someT kl k1 k2))) ∧ w'.ownsRow w.heap.size 43 22 (.slice v.ea 22 v.ec) 22 ((someEnts k1 k2).map EntV.cells).flatten ∧ StdMem w' v kl k1 k2 ∧ Kept [] w w'
theorem results38_of {w : World} {B : Nat} {c : Array Value} {tmps : Array Value} (h4 : tmps.getD 0 undef = .pointer (some ⟨B, 0, none⟩)) (hc : c.size = 5) (hr : w.rangeAt B 0 c.toList) :
    (results Try.f38 tmps).run Try.prog w = .ok (.agg c) w := by
  simp only [Array.getD_eq_getD_getElem?] at h4
  have hi : (Try.prog.info? 28).map (·.size) = some c.toList.length := by
    rw [Array.length_toList, hc]
    exact Try.size28
  simp [results, Try.results38, h4, asAddr, Sem.run_bind, run_loadVar_mid w B 0 28 c.toList _ hr Try.underlying28 rfl hi]
theorem tab_one (v : TabV) (t : Tab) : (v.cells t).all (·.oneCell') = true := by simp [TabV.cells, Value.oneCell']
set_option maxRecDepth 100000 in
set_option maxHeartbeats 4000000 in
theorem some_any (w : World) : Calls Try.prog 38 #[] w (RetSome w) := by
  go_enter Try.func38, Try.ntmps38
  go_upto_region 1 with (fail)
  refine wp_gen' ?_
  intro w0 hw0
  have HK0 : Hid (Kept [] w w0) := by rw [Hid, hw0]; exact Kept.alloc _ _ _
  have HB0 : Hid (w0.heap[w.heap.size]? = some (.cells #[.slice none 0 0, .slice none 0 0, .slice none 0 0, .slice none 0 0, .slice none 0 0] 28 (0, 0))) := by rw [Hid, hw0]; exact heap_alloc_new _ _
  have HSZ0 : Hid (w0.heap.size = w.heap.size + 1) := by rw [Hid, hw0]; simp
  clear hw0
  go_upto_region 2 with (first
    | (go_at_call 30
       refine (std_any w0).mono ?_
       rintro e w1 ⟨v0, kl, k1, k2, rfl, ho1, hm1, hk1⟩
       have HO1 := Lib.hid ho1
       have HM1 := Lib.hid hm1
       have HK1 := Lib.hid hk1
       clear ho1 hm1 hk1)
    | (guard_hyp HK1
       refine wpList_store_new rfl 28 (.tmp 1) (.tmp 3) rfl _ (v0.cells (stdT kl k1 k2)) w1.heap.size rfl rfl rfl (Try.info28 v0 _) rfl (tab_one _ _) ?_))
  refine wp_gen' ?_
  intro w5 hw5
  have hk5 : Kept [] w1 w5 := by rw [hw5]; exact Kept.alloc _ _ _
  have hB5 : w5.heap[w1.heap.size]? = some (.cells (v0.cells (stdT kl k1 k2)) 28 (0, 0)) := by rw [hw5]; exact heap_alloc_new _ _
  have HK5 : Hid (Kept [] w0 w5) := HK1.out.trans hk5
  have hBn : w.heap.size + 1 ≤ w1.heap.size := by have := HSZ0.out; have := HK1.out.size; omega
  have HO5 : Hid (w5.ownsRow (w.heap.size + 1) 43 22 (.slice v0.ea 15 v0.ec) 15 ((stdEnts k1 k2).map EntV.cells).flatten) := by
    rw [Hid, ← HSZ0.out]
    exact own_keep HO1.out hk5 (by simp)
  have HM5 : Hid (StdMem w5 v0 kl k1 k2) := HM1.out.kps (n := 0) (KpS.of_kept hk5)
  obtain ⟨n, hn⟩ : ∃ n, n = w.heap.size + 1 := ⟨_, rfl⟩
  have HN := Lib.hid hn
  rw [← hn] at hBn HO5
  generalize w1.heap.size = B at *
  have HA0 : Hid (BoxT w5 n B (atE v0 v0.ea v0.ec) (tabE kl (stdEnts k1 k2))) := ⟨hB5, HO5.out, hBn⟩
  have HKA0 : Hid (KpS n w5 w5) := KpS.refl _ _
  have hea : ∃ a c, v0.ea = a ∧ v0.ec = c := ⟨_, _, rfl, rfl⟩
  obtain ⟨ea0, ec0, he1, he2⟩ := hea
  rw [he1, he2] at HA0
  clear hw5 hk5 hB5 hn HO5 HO1 HM1 HK1 he1 he2
  go_upto_region 10 with (first
    | (guard_hyp HA0
       fail_if_success guard_hyp HA1
       go_at_call 68
       refine (addS_any _ n B (atE v0 ea0 ec0) (tabE kl (stdEnts k1 k2)) HA0.out (Nat.le_of_ble_eq_true rfl) 2 ⟨#[80]⟩ 0 (-1) 0).mono ?_
       rintro e a1 ⟨rfl, ea1, ec1, hb1, hk1⟩
       have HA1 : Hid (BoxT a1 n B (atE v0 ea1 ec1) (tabE kl (stdEnts k1 k2 ++ some7.take 1))) := by
         have hu : unitI (tabE kl (stdEnts k1 k2)) 0 = 0 := by kernel_rfl
         rw [hu] at hb1
         exact hb1
       have HKA1 : Hid (KpS n w5 a1) := HKA0.out.trans hk1
       clear hb1 hk1)
    | (guard_hyp HA1
       fail_if_success guard_hyp HA2
       go_at_call 68
       refine (addS_any _ n B (atE v0 ea1 ec1) (tabE kl (stdEnts k1 k2 ++ some7.take 1)) HA1.out (Nat.le_of_ble_eq_true rfl) 7 ⟨#[120]⟩ 15 1 0).mono ?_
       rintro e a2 ⟨rfl, ea2, ec2, hb2, hk2⟩
       have HA2 : Hid (BoxT a2 n B (atE v0 ea2 ec2) (tabE kl (stdEnts k1 k2 ++ some7.take 2))) := by
         have hu : unitI (tabE kl (stdEnts k1 k2 ++ some7.take 1)) 15 = 0 := by kernel_rfl
         rw [hu] at hb2
         exact hb2
       have HKA2 : Hid (KpS n w5 a2) := HKA1.out.trans hk2
       clear hb2 hk2)
    | (guard_hyp HA2
       fail_if_success guard_hyp HA3
       go_at_call 68
       refine (addS_any _ n B (atE v0 ea2 ec2) (tabE kl (stdEnts k1 k2 ++ some7.take 2)) HA2.out (Nat.le_of_ble_eq_true rfl) 4 ⟨#[102]⟩ 15 1 0).mono ?_
       rintro e a3 ⟨rfl, ea3, ec3, hb3, hk3⟩
       have HA3 : Hid (BoxT a3 n B (atE v0 ea3 ec3) (tabE kl (stdEnts k1 k2 ++ some7.take 3))) := by
         have hu : unitI (tabE kl (stdEnts k1 k2 ++ some7.take 2)) 15 = 0 := by kernel_rfl
         rw [hu] at hb3
         exact hb3
       have HKA3 : Hid (KpS n w5 a3) := HKA2.out.trans hk3
       clear hb3 hk3)
    | (guard_hyp HA3
       fail_if_success guard_hyp HA4
       go_at_call 68
       refine (addS_any _ n B (atE v0 ea3 ec3) (tabE kl (stdEnts k1 k2 ++ some7.take 3)) HA3.out (Nat.le_of_ble_eq_true rfl) 7 ⟨#[121]⟩ 15 1 1).mono ?_
       rintro e a4 ⟨rfl, ea4, ec4, hb4, hk4⟩
       have HA4 : Hid (BoxT a4 n B (atE v0 ea4 ec4) (tabE kl (stdEnts k1 k2 ++ some7.take 4))) := by
         have hu : unitI (tabE kl (stdEnts k1 k2 ++ some7.take 3)) 15 = 0 := by kernel_rfl
         rw [hu] at hb4
         exact hb4
       have HKA4 : Hid (KpS n w5 a4) := HKA3.out.trans hk4
       clear hb4 hk4)
    | (guard_hyp HA4
       fail_if_success guard_hyp HA5
       go_at_call 68
       refine (addS_any _ n B (atE v0 ea4 ec4) (tabE kl (stdEnts k1 k2 ++ some7.take 4)) HA4.out (Nat.le_of_ble_eq_true rfl) 3 ⟨#[81]⟩ 0 (-1) 0).mono ?_
       rintro e a5 ⟨rfl, ea5, ec5, hb5, hk5⟩
       have HA5 : Hid (BoxT a5 n B (atE v0 ea5 ec5) (tabE kl (stdEnts k1 k2 ++ some7.take 5))) := by
         have hu : unitI (tabE kl (stdEnts k1 k2 ++ some7.take 4)) 0 = 4 := by kernel_rfl
         rw [hu] at hb5
         exact hb5
       have HKA5 : Hid (KpS n w5 a5) := HKA4.out.trans hk5
       clear hb5 hk5)
    | (guard_hyp HA5
       fail_if_success guard_hyp HA6
       go_at_call 68
       refine (addS_any _ n B (atE v0 ea5 ec5) (tabE kl (stdEnts k1 k2 ++ some7.take 5)) HA5.out (Nat.le_of_ble_eq_true rfl) 4 ⟨#[102]⟩ 19 2 2).mono ?_
       rintro e a6 ⟨rfl, ea6, ec6, hb6, hk6⟩
       have HA6 : Hid (BoxT a6 n B (atE v0 ea6 ec6) (tabE kl (stdEnts k1 k2 ++ some7.take 6))) := by
         have hu : unitI (tabE kl (stdEnts k1 k2 ++ some7.take 5)) 19 = 0 := by kernel_rfl
         rw [hu] at hb6
         exact hb6
       have HKA6 : Hid (KpS n w5 a6) := HKA5.out.trans hk6
       clear hb6 hk6)
    | (guard_hyp HA6
       fail_if_success guard_hyp HA7
       go_at_call 68
       refine (addS_any _ n B (atE v0 ea6 ec6) (tabE kl (stdEnts k1 k2 ++ some7.take 6)) HA6.out (Nat.le_of_ble_eq_true rfl) 8 ⟨#[120]⟩ 19 1 2).mono ?_
       rintro e a7 ⟨rfl, ea7, ec7, hb7, hk7⟩
       have HA7 : Hid (BoxT a7 n B (atE v0 ea7 ec7) (tabE kl (stdEnts k1 k2 ++ some7.take 7))) := by
         have hu : unitI (tabE kl (stdEnts k1 k2 ++ some7.take 6)) 19 = 0 := by kernel_rfl
         rw [hu] at hb7
         exact hb7
       have HKA7 : Hid (KpS n w5 a7) := HKA6.out.trans hk7
       clear hb7 hk7))
  have HT0 : Hid (a7.heap[w.heap.size]? = some (.cells #[.slice none 0 0, .slice none 0 0, .slice none 0 0, .slice none 0 0, .slice none 0 0] 28 (0, 0))) := HKA7.out.block _ _ (HK5.out.obj HB0.out (by simp)) (.inl (by rw [HN.out]; omega))
  have HVC : Hid ((atE v0 ea7 ec7).cells (tabE kl (stdEnts k1 k2 ++ some7.take 7)) = #[.slice v0.ta 4 v0.tc, .slice v0.sa 5 v0.sc, .slice ea7 22 ec7, .slice v0.ga v0.gn v0.gc, .slice v0.ia v0.im v0.ic]) := rfl
  have HBF : Hid (a7.heap[B]? = some (.cells #[.slice v0.ta 4 v0.tc, .slice v0.sa 5 v0.sc, .slice ea7 22 ec7, .slice v0.ga v0.gn v0.gc, .slice v0.ia v0.im v0.ic] 28 (0, 0))) := by rw [Hid, ← HVC.out]; exact HA7.out.box
  have c0 : ∀ j, a7.cell? ⟨B, j, none⟩ = _ := fun j => cell_of_row _ _ j _ _ _ HBF.out
  have d0 : a7.cell? ⟨B, 0, none⟩ = some (.slice v0.ta 4 v0.tc) := c0 0
  have d1 : a7.cell? ⟨B, 1, none⟩ = some (.slice v0.sa 5 v0.sc) := c0 1
  have d2 : a7.cell? ⟨B, 2, none⟩ = some (.slice ea7 22 ec7) := c0 2
  have d3 : a7.cell? ⟨B, 3, none⟩ = some (.slice v0.ga v0.gn v0.gc) := c0 3
  have d4 : a7.cell? ⟨B, 4, none⟩ = some (.slice v0.ia v0.im v0.ic) := c0 4
  clear c0
  go_wp2_with (first
    | (fail_if_success guard_hyp HWF
       refine wpList_store_row rfl 28 (.tmp 0) (.tmp 19) rfl w.heap.size _ #[.slice v0.ta 4 v0.tc, .slice v0.sa 5 v0.sc, .slice ea7 22 ec7, .slice v0.ga v0.gn v0.gc, .slice v0.ia v0.im v0.ic] rfl HT0.out rfl Try.size28 rfl (by simp [Value.oneCell']) ?_
       intro wf hwf hkf
       have HWF := Lib.hid hwf
       have HKWF := Lib.hid hkf
       clear hwf hkf))
  have HKZ : Hid (Kept [] w wf) := (KpS.kept (HK0.out.trans HK5.out) HKA7.out (by rw [HN.out]; omega)).above HKWF.out (by simp)
  have hne : ∀ (k : Nat) (c : Array Value) (ty : TypeId), a7.heap[k]? = some (Obj.cells c ty (0, 0)) → ty ≠ 28 → wf.heap[k]? = some (Obj.cells c ty (0, 0)) := fun k c ty hk hty => HKWF.out.obj hk (by
    simp
    rintro rfl
    rw [HT0.out] at hk
    simp only [Option.some.injEq, Obj.cells.injEq] at hk
    exact hty hk.2.1.symm)
  have HM7 : Hid (StdMem a7 v0 kl k1 k2) := HM5.out.kps HKA7.out
  obtain ⟨⟨kt, h1, h2, h3⟩, ⟨ks, h4, h5, h6⟩, h7, h8, h9⟩ := HM7.out
  refine bodyPost_ret (results38_of (c := #[.slice v0.ta 4 v0.tc, .slice v0.sa 5 v0.sc, .slice ea7 22 ec7, .slice v0.ga v0.gn v0.gc, .slice v0.ia v0.im v0.ic]) rfl rfl ?_) rfl ⟨atE v0 ea7 ec7, kl, k1, k2, rfl, ?_, ⟨⟨kt, h1, h2, hne _ _ _ h3 (by decide)⟩, ⟨ks, h4, h5, hne _ _ _ h6 (by decide)⟩, hne _ _ _ h7 (by decide), hne _ _ _ h8 (by decide), hne _ _ _ h9 (by decide)⟩, HKZ.out⟩
  · intro j u hu
    rw [Nat.zero_add, cell_of_row _ _ _ _ _ _ HWF.out]
    simpa using hu
  · refine ownsRow_base (base := n) ?_ (by rw [HN.out]; omega)
    exact own_keep HA7.out.own HKWF.out (fun q hq => by have := HA7.out.own.lt q hq; have := HN.out; simp; omega)
end Go.Proofs.Ytlgcboaojdhneaa