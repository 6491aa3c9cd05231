/- The reference's Base, Regions, Inside. -/
import Derived.Test.YtlgcboaojdhneaaC4
import Derived.Test.YtlgcboaojdhneaaB12
namespace Go.Proofs.Ytlgcboaojdhneaa
open Go.RowKit

set_option maxRecDepth 100000 in
set_option maxHeartbeats 4000000 in
theorem baseRef_any (w : World) (v : TabV) (t : Tab) (e : Int) (hT : TabIn w v t) :
    Calls Try.prog 36 #[.agg (v.cells t), .int .i64 e] w (RetI (baseR t e) w) := by
  have HT := Lib.hid hT
  have q1 := hT.el
  have q2 := hT.em
  clear hT
  have HBX : Hid ((w.alloc (.cells (v.cells t) 28)).heap[w.heap.size]? = some (.cells (v.cells t) 28 (0, 0))) := obj_new rfl
  have HK0 : Hid (Kept [] w (w.alloc (.cells (v.cells t) 28))) := Kept.alloc _ _ _
  unfold TabV.cells at *
  go_enter Try.func36, Try.ntmps36
  go_upto_region 1 with (fail)
  refine wp_gen' ?_
  intro w0 hw0
  rw [← hw0] at HBX HK0
  clear hw0
  have HRV : Hid (∀ W, Kept [] w0 W → W.rangeAt w.heap.size 0 (v.cells t).toList) := fun W hk => tab_range (hk.obj HBX.out (by simp))
  have HC := Lib.hid (is_any w0 v t e)
  cases ha : (rowR t e).isSome
  · rw [ha] at HC
    have HR : Hid (baseR t e = -1) := by simp [Hid, baseR, ha]
    go_wp2_with (first
      | (refine wpList_load_mid rfl 28 (.tmp 2) rfl w.heap.size 0 rfl _ _ (HRV.out _ (Kept.refl _ _)) Try.underlying28 rfl Try.size28 ?_)
      | (go_at_call 66; refine HC.out.mono ?_; rintro e w1 ⟨rfl, hk1⟩; have HK1 := Lib.hid hk1; clear hk1))
    go_ret
    exact ⟨by rw [HR.out]; rfl, HK0.out.trans HK1.out⟩
  · rw [ha] at HC
    obtain ⟨n, x, rfl, hx, hxe⟩ := row_at ha
    have HR : Hid (baseR t (n : Int) = (baseN t n n : Nat)) := by simp [Hid, baseR, ha]
    have HX0 := Lib.hid hx
    clear ha hx hxe
    go_wp2_with (first
      | (refine wpList_load_mid rfl 28 (.tmp 2) rfl w.heap.size 0 rfl _ _ (HRV.out _ (Kept.refl _ _)) Try.underlying28 rfl Try.size28 ?_)
      | (go_at_call 66; refine HC.out.mono ?_; rintro e w1 ⟨rfl, hk1⟩; have HK1 := Lib.hid hk1; clear hk1))
    go_loopw [1] (fun s wr => ∃ (q m : Nat) (y : EntV), s = .int .i64 q ∧ t.ents[q]? = some y ∧ q ≤ m ∧ baseN t m q = baseN t n n ∧ wr = w1) (fun s _ => (intOf s).toNat)
    case atStart => exact ⟨n, n, x, rfl, HX0.out, Nat.le_refl _, rfl, rfl⟩
    case round =>
      obtain ⟨q, m, y, rfl, hy, hqm, hbn, rfl⟩ := hrel
      have HY := Lib.hid hy
      have HBN := Lib.hid hbn
      have hql := (List.getElem?_eq_some_iff.1 hy).1
      have j1 : (0 : Int) ≤ (q : Int) := by omega
      have j2 : (q : Int) < (t.ents.length : Int) := by omega
      obtain ⟨b, o, hea, hr⟩ := (HT.out.kept (HK0.out.trans HK1.out)).es.some_ hy
      have c7 : wr.cell? ⟨b, o + q * 22 + 7, none⟩ = some (.int .i64 y.of_) := hr q y hy 7 _ rfl
      have c8 : wr.cell? ⟨b, o + q * 22 + 8, none⟩ = some (.bool y.ren) := hr q y hy 8 _ rfl
      have cv : wr.cell? ⟨w.heap.size, 2, none⟩ = some (.slice v.ea t.ents.length v.ec) := HRV.out _ HK1.out 2 _ rfl
      rw [hea] at cv
      clear hy hbn hr hea
      cases hrb : renB y q
      · have HE : Hid (baseN t n n = q) := by rw [Hid, ← HBN.out]; exact baseN_end HY.out hrb
        have HQ : Hid (y.ren = false ∨ ¬ 0 ≤ y.of_ ∨ ¬ y.of_ < (q : Int)) := by
          rw [Hid]
          unfold renB at hrb
          cases h1 : y.ren
          · exact .inl rfl
          · right
            rw [h1] at hrb
            by_cases h2 : 0 ≤ y.of_
            · right
              intro h3
              simp [h2, h3] at hrb
            · exact .inl h2
        clear hrb
        cases h2 : y.ren
        · rw [h2] at c8
          go_wp2_with fail
          go_ret
          rw [HR.out, HE.out]
          exact ⟨rfl, HK0.out.trans HK1.out⟩
        · rw [h2] at c8
          by_cases h3 : 0 ≤ y.of_
          · have hge : (q : Int) ≤ y.of_ := by
              rcases HQ.out with h | h | h
              · rw [h2] at h; cases h
              · exact absurd h3 h
              · omega
            have hd : decide (y.of_ < (q : Int)) = false := by simp; omega
            go_wp2_with fail
            go_ret
            rw [HR.out, HE.out]
            exact ⟨rfl, HK0.out.trans HK1.out⟩
          · go_wp2_with fail
            go_ret
            rw [HR.out, HE.out]
            exact ⟨rfl, HK0.out.trans HK1.out⟩
      · obtain ⟨m', p, hp, hpq, hpm, hbs⟩ := baseN_step HY.out hrb hqm
        have hrn : y.ren = true := by
          unfold renB at hrb
          cases h1 : y.ren
          · rw [h1] at hrb; simp at hrb
          · rfl
        have HBS : Hid (baseN t m' p = baseN t n n) := by rw [Hid, ← HBN.out, hbs]
        obtain ⟨z, hz⟩ : ∃ z, t.ents[p]? = some z := ⟨_, List.getElem?_eq_getElem (by omega)⟩
        rw [hp] at c7
        rw [hrn] at c8
        have HZ := Lib.hid hz
        clear hrb hbs hp hz hrn
        go_wp2_with fail
        go_roundw
        case rel => exact ⟨p, m', z, rfl, HZ.out, hpm, HBS.out, trivial⟩
        case measure => simp [intOf]; omega

set_option maxRecDepth 100000 in
set_option maxHeartbeats 4000000 in
theorem regions_any (w : World) (v : TabV) (t : Tab) (r : Int) (hT : TabIn w v t) (hs : t.ents.length ≤ 100000) :
    Calls Try.prog 64 #[.agg (v.cells t), .int .i64 r] w (RetO (regs t r) w) := by
  have HT := Lib.hid hT
  have q1 := hT.el
  have q2 := hT.em
  clear hT
  obtain ⟨i0, hi, hz0, hz1, hz2⟩ := info_parts int_info
  have HLEN : Hid ((regs t r).length ≤ 100000) := Nat.le_trans (regs_len t r) hs
  have HBX : Hid ((w.alloc (.cells (v.cells t) 28)).heap[w.heap.size]? = some (.cells (v.cells t) 28 (0, 0))) := obj_new rfl
  have HK0 : Hid (Kept [] w (w.alloc (.cells (v.cells t) 28))) := Kept.alloc _ _ _
  unfold TabV.cells at *
  go_enter Try.func64, Try.ntmps64
  go_upto_region 1 with (fail)
  refine wp_gen' ?_
  intro w0 hw0
  rw [← hw0] at HBX HK0
  clear hw0
  have HRV : Hid (∀ W, Kept [] w0 W → W.rangeAt w.heap.size 0 (v.cells t).toList) := fun W hk => tab_range (hk.obj HBX.out (by simp))
  have HZ0 := Lib.hid HK0.out.size
  go_wp2_with fail
  go_loopw [5, 6] (fun l s wr => ∃ (pre : List Int) (e : Int), s = .int .i64 e ∧ regs t r = pre ++ regs t e ∧ wr.ownsRow w0.heap.size 3 1 l pre.length (pre.map (Value.int .i64)) ∧ Kept [] w0 wr) (fun _ s _ => (intOf s + 1).toNat)
  case atStart => exact ⟨[], r, rfl, rfl, World.ownsRow_nil _ _ _ _, Kept.refl _ _⟩
  case round =>
    obtain ⟨pre, e, rfl, hre, ho, hkr⟩ := hrel
    obtain ⟨wo, rfl⟩ : ∃ wo : World, wo = wr := ⟨_, rfl⟩
    obtain ⟨A5, c5, rfl⟩ := own_shape ho
    have HRE := Lib.hid hre
    have HO := Lib.hid ho
    have HKR := Lib.hid hkr
    have HC := Lib.hid (is_any wo v t e)
    clear hre ho hkr
    cases ha : (rowR t e).isSome
    · rw [ha] at HC
      have HE : Hid (regs t r = pre) := by rw [Hid, HRE.out, regs_none (by simpa using ha), List.append_nil]
      clear ha
      go_wp2_with (first
        | (refine wpList_load_mid rfl 28 (.tmp 2) rfl w.heap.size 0 rfl _ _ (HRV.out _ HKR.out) Try.underlying28 rfl Try.size28 ?_)
        | (go_at_call 66; refine HC.out.mono ?_; rintro e w1 ⟨rfl, hk1⟩; have HK1 := Lib.hid hk1; clear hk1))
      go_ret
      exact ⟨_, rfl, by rw [HE.out]; exact own_base (own_keep HO.out HK1.out (by simp)) HZ0.out, HK0.out.trans (HKR.out.trans HK1.out)⟩
    · rw [ha] at HC
      obtain ⟨n, x, rfl, hx, hxe⟩ := row_at ha
      have HRS := Lib.hid (regs_some (row_some hx).1)
      have hge : (0 : Int) ≤ (n : Int) := by omega
      have hnl := (List.getElem?_eq_some_iff.1 hx).1
      have j2 : (n : Int) < (t.ents.length : Int) := by omega
      obtain ⟨b, o, hea, hr⟩ := (HT.out.kept (HK0.out.trans HKR.out)).es.some_ hx
      have HC2 : Hid (wo.cell? ⟨b, o + n * 22 + 2, none⟩ = some (.int .i64 x.owner)) := hr n x hx 2 _ rfl
      have HEA := Lib.hid hea
      have hpl : pre.length + 1 ≤ 100000 := by
        have h1 := HLEN.out
        rw [HRE.out, HRS.out, List.length_append, List.length_cons] at h1
        omega
      have hA : pre.length + 1 ≤ maxLen := by unfold maxLen; omega
      have hB : (pre.length + 1) * 8 ≤ 140737488355328 := by omega
      have HX := Lib.hid hx
      clear ha hr hxe hx hea
      go_upto_region 4 with (first
        | (refine wpList_load_mid rfl 28 (.tmp 2) rfl w.heap.size 0 rfl _ _ (HRV.out _ HKR.out) Try.underlying28 rfl Try.size28 ?_)
        | (go_at_call 66; refine HC.out.mono ?_; rintro e w1 ⟨rfl, hk1⟩; have HK1 := Lib.hid hk1; clear hk1))
      have HO1 := Lib.hid (own_keep HO.out HK1.out (by simp))
      have HKW1 := Lib.hid (HKR.out.trans HK1.out)
      have HCC : Hid (w0.heap.size ≤ (w1.alloc (.cells #[.int .i64 n] 3)).heap.size) := by have := HKW1.out.size; rw [Hid]; simp; omega
      clear HC
      go_upto_region 5 with (at_builtin; refine wpList_append_own _ rfl _ _ 29 rfl w0.heap.size 3 i0 (.int .i64 0) 1 8 Try.underlying29 hi hz0 hz1 hz2 rfl (by decide) (.slice A5 pre.length c5) pre.length (pre.map (Value.int .i64)) rfl (HO1.out.alloc _) ⟨w1.heap.size, 0, none⟩ 1 1 [.int .i64 n] rfl rfl (cell_one_new _ _ _) (one_int _ _) hA hB HCC.out ?_; intro vb wb hob hgb _; have HOB := Lib.hid hob; have HKB := Lib.hid ((HKW1.out.trans (Kept.alloc _ _ _)).grown hgb (fun q hq => own_at HO1.out q hq)); have HGB := Lib.hid hgb; clear hob hgb)
      have c2 : wb.cell? ⟨b, o + n * 22 + 2, none⟩ = some (.int .i64 x.owner) := by
        obtain ⟨b', o', hea', hr'⟩ := (HT.out.kept (HK0.out.trans HKB.out)).es.some_ HX.out
        rw [HEA.out] at hea'
        injection hea' with hea'
        injection hea' with h1 h2
        subst h1 h2
        exact hr' n x HX.out 2 _ rfl
      have cv : wb.cell? ⟨w.heap.size, 2, none⟩ = some (.slice v.ea t.ents.length v.ec) := HRV.out _ HKB.out 2 _ rfl
      rw [HEA.out] at cv
      by_cases hox : n ≤ x.owner
      · have hox' : decide (x.owner < (n : Int)) = false := by simp; omega
        have HE : Hid (regs t r = pre ++ [(n : Int)]) := by rw [Hid, HRE.out, HRS.out, if_pos hox]
        go_wp2_with fail
        go_ret
        exact ⟨_, rfl, by rw [HE.out, List.length_append, List.map_append]; exact own_base HOB.out HZ0.out, HK0.out.trans HKB.out⟩
      · have HE : Hid (regs t r = pre ++ [(n : Int)] ++ regs t x.owner) := by rw [Hid, HRE.out, HRS.out, if_neg hox]; simp
        go_wp2_with fail
        go_roundw
        case rel => exact ⟨pre ++ [(n : Int)], x.owner, rfl, HE.out, by rw [List.length_append, List.map_append]; exact HOB.out, HKB.out⟩
        case measure => simp [intOf]; omega

set_option maxRecDepth 100000 in
set_option maxHeartbeats 4000000 in
theorem insideRef_any (w : World) (v : TabV) (t : Tab) (r o : Int) (hT : TabIn w v t) (hs : t.ents.length ≤ 100000) :
    Calls Try.prog 32 #[.agg (v.cells t), .int .i64 r, .int .i64 o] w (RetB (insideR t r o) w) := by
  have HT := Lib.hid hT
  clear hT
  have HBX : Hid ((w.alloc (.cells (v.cells t) 28)).heap[w.heap.size]? = some (.cells (v.cells t) 28 (0, 0))) := obj_new rfl
  have HK0 : Hid (Kept [] w (w.alloc (.cells (v.cells t) 28))) := Kept.alloc _ _ _
  have HR : Hid (insideR t r o = hasI (regs t r) o) := rfl
  unfold TabV.cells at *
  go_enter Try.func32, Try.ntmps32
  go_upto_region 1 with (fail)
  refine wp_gen' ?_
  intro w0 hw0
  rw [← hw0] at HBX HK0
  clear hw0
  have HRV : Hid (∀ W, Kept [] w0 W → W.rangeAt w.heap.size 0 (v.cells t).toList) := fun W hk => tab_range (hk.obj HBX.out (by simp))
  have HC := Lib.hid (regions_any w0 v t r (HT.out.kept HK0.out) hs)
  clear hs
  go_wp2_with (first
    | (refine wpList_load_mid rfl 28 (.tmp 3) rfl w.heap.size 0 rfl _ _ (HRV.out _ (Kept.refl _ _)) Try.underlying28 rfl Try.size28 ?_)
    | (go_at_call 64; refine HC.out.mono ?_; rintro e w1 ⟨v1, rfl, ho1, hk1⟩; have HO1 := Lib.hid ho1; have HK1 := Lib.hid hk1; clear hk1 ho1; obtain ⟨A1, c1, rfl⟩ := own_shape HO1.out; obtain ⟨_, hin1, h11, h12, _⟩ := (IntsC.of_owns HO1.out).at_; have HIN := Lib.hid hin1; clear hin1)
    | (go_at_call 15; refine (in_any _ _ _ _ _ h11 h12 HIN.out).mono ?_; rintro e w2 ⟨rfl, hk2⟩; have HK2 := Lib.hid hk2; clear hk2))
  go_ret
  exact ⟨by rw [HR.out]; rfl, HK0.out.trans (HK1.out.trans HK2.out)⟩
end Go.Proofs.Ytlgcboaojdhneaa
