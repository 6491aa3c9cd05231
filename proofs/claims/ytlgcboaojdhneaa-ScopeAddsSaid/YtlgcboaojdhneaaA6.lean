/- Base. -/
import Derived.Test.YtlgcboaojdhneaaA5
namespace Go.Proofs.Ytlgcboaojdhneaa
open Go.RowKit

def renB (x : EntV) (n : Nat) : Bool := x.ren && decide (0 ≤ x.of_) && decide (x.of_ < (n : Int))
def baseN (t : Tab) : Nat → Nat → Nat
  | 0, e => e
  | k + 1, e => match t.ents[e]? with
    | none => e
    | some x => if renB x e then baseN t k x.of_.toNat else e
def baseR (t : Tab) (e : Int) : Int := if (rowR t e).isSome then (baseN t e.toNat e.toNat : Nat) else -1
theorem baseN_step {t : Tab} {m n : Nat} {x : EntV} (hx : t.ents[n]? = some x) (h : renB x n = true) (hm : n ≤ m) : ∃ m' q : Nat, x.of_ = (q : Int) ∧ q < n ∧ q ≤ m' ∧ baseN t m n = baseN t m' q := by
  unfold renB at h
  simp only [Bool.and_eq_true, decide_eq_true_eq] at h
  obtain ⟨⟨h0, h1⟩, h2⟩ := h
  obtain ⟨q, hq⟩ := Int.eq_ofNat_of_zero_le h1
  have hqn : q < n := by omega
  cases m with
  | zero => omega
  | succ m =>
    refine ⟨m, q, hq, hqn, by omega, ?_⟩
    rw [baseN, hx]
    have : renB x n = true := by unfold renB; simp [h0, h1, h2]
    simp only [this, if_true]
    rw [hq]; rfl
theorem baseN_end {t : Tab} {m n : Nat} {x : EntV} (hx : t.ents[n]? = some x) (h : renB x n = false) : baseN t m n = n := by
  cases m with
  | zero => rfl
  | succ m => rw [baseN, hx]; simp [h]

set_option maxRecDepth 100000 in
set_option maxHeartbeats 2000000 in
theorem base_any (w : World) (v : TabV) (t : Tab) (e : Int) (hT : TabIn w v t) :
    Calls Try.prog 12 #[.agg (v.cells t), .int .i64 e] w (RetI (baseR t e) w) := by
  have HT := Lib.hid hT
  have q1 := hT.el
  have q2 := hT.em
  clear hT
  have HBX : Hid ((w.alloc (.cells (v.cells t) 28)).heap[w.heap.size]? = some (.cells (v.cells t) 28 (0, 0))) := obj_new rfl
  have HRV : Hid (∀ W, Kept [] (w.alloc (.cells (v.cells t) 28)) W → W.rangeAt w.heap.size 0 (v.cells t).toList) := fun W hk => tab_range (hk.obj (obj_new (o := .cells (v.cells t) 28) rfl) (by simp))
  have HK0 : Hid (Kept [] w (w.alloc (.cells (v.cells t) 28))) := Kept.alloc _ _ _
  have hsz : (w.alloc (.cells (v.cells t) 28)).heap.size = w.heap.size + 1 := by simp
  unfold TabV.cells at *
  go_enter Try.func12, Try.ntmps12
  go_upto_region 1 with (fail)
  refine wp_gen' ?_
  intro w0 hw0
  rw [← hw0] at HRV HK0 HBX hsz
  have HSZ := Lib.hid hsz
  have hkc : Kept [] w0 w0 := Kept.refl _ _
  clear hw0 hsz
  go_upto_region 2 with (first
    | (refine wpList_load_mid rfl 28 (.tmp 3) rfl w.heap.size 0 rfl _ _ (HRV.out _ hkc) Try.underlying28 rfl Try.size28 ?_)
    | (refine wpList_load_mid rfl 28 (.tmp 2) rfl w.heap.size 0 rfl _ _ (HRV.out _ hkc) Try.underlying28 rfl Try.size28 ?_)
    | (go_at_call 39; refine (row_any _ v t e (HT.out.kept (HK0.out.trans hkc))).mono ?_; rintro e w1 ⟨rfl, hk1⟩; replace hkc := hkc.trans hk1; clear hk1))
  refine wp_gen' ?_
  intro w2 hw2
  have hba : w2.heap[w1.heap.size]? = some (.cells (rowE t e).cells.toArray 43 (0, 0)) := by rw [hw2]; exact heap_alloc_new _ _
  have hk2 : Kept [] w1 w2 := by rw [hw2]; exact Kept.alloc _ _ _
  have HK2 := Lib.hid (hkc.trans hk2)
  have hle := (hkc.size)
  rw [HSZ.out] at hle
  have HBA := Lib.hid hba
  clear hw2 hba hk2 hkc
  generalize hB1 : w1.heap.size = B1 at *
  clear hB1
  cases ha : (rowR t e).isSome
  · have HR : Hid (baseR t e = -1) := by simp [Hid, baseR, ha]
    go_wp2_with fail
    go_ret
    rw [HR.out]
    exact ⟨rfl, HK0.out.trans HK2.out⟩
  · obtain ⟨n, x, rfl, hx, hxe⟩ : ∃ (n : Nat) (x : EntV), e = (n : Int) ∧ t.ents[n]? = some x ∧ rowE t e = x := by
      unfold rowE
      unfold rowR at ha ⊢
      by_cases h0 : e < 0
      · simp [h0] at ha
      · obtain ⟨n, rfl⟩ := Int.eq_ofNat_of_zero_le (by omega : 0 ≤ e)
        rw [if_neg h0] at ha ⊢
        obtain ⟨x, hx⟩ := Option.isSome_iff_exists.1 ha
        exact ⟨n, x, rfl, by simpa using hx, by rw [hx]; rfl⟩
    have HR : Hid (baseR t (n : Int) = (baseN t n n : Nat)) := by simp [Hid, baseR, ha]
    have HX0 := Lib.hid hx
    rw [hxe] at HBA
    clear ha hxe hx
    have hB0 : w.heap.size ≠ B1 := by omega
    have HVC : Hid (∀ W, Kept [B1] w2 W → W.cell? ⟨w.heap.size, 2, none⟩ = some (.slice v.ea t.ents.length v.ec)) := fun W hk =>
      hk.cell (HRV.out _ HK2.out 2 (.slice v.ea t.ents.length v.ec) rfl) (by simp; omega)
    go_wp2_with fail
    go_loopw [1] (fun s wr => ∃ (q m : Nat) (y : EntV), s = .int .i64 q ∧ t.ents[q]? = some y ∧ q ≤ m ∧ baseN t m q = baseN t n n ∧ wr.heap[B1]? = some (.cells y.cells.toArray 43 (0, 0)) ∧ Kept [B1] w2 wr) (fun s _ => (intOf s).toNat)
    case atStart => exact ⟨n, n, x, rfl, HX0.out, Nat.le_refl _, rfl, HBA.out, Kept.refl _ _⟩
    case round =>
      obtain ⟨q, m, y, rfl, hy, hqm, hbn, hb, hkr⟩ := hrel
      have HY := Lib.hid hy
      have HBN := Lib.hid hbn
      have HBB := Lib.hid hb
      have HKR := Lib.hid hkr
      have c7 := ent_cell (x := y) hb 7 rfl
      have c8 := ent_cell (x := y) hb 8 rfl
      have HKW : Hid (Kept [] w wr) := (HK0.out.trans HK2.out).above hkr (fun z hz => by simp at hz; omega)
      clear hy hbn hb hkr
      cases hrb : renB y q
      · have HE : Hid (baseN t n n = q) := by rw [Hid, ← HBN.out]; exact baseN_end HY.out hrb
        have HQ : Hid (y.ren = false ∨ ¬ 0 ≤ y.of_ ∨ ¬ y.of_ < (q : Int)) := by
          rw [Hid]
          unfold renB at hrb
          cases h1 : y.ren
          · exact .inl rfl
          · right
            rw [h1] at hrb
            by_cases h2 : 0 ≤ y.of_
            · right
              intro h3
              simp [h2, h3] at hrb
            · exact .inl h2
        clear hrb
        rcases HQ.out with h1 | h1 | h1
        · go_wp2_with fail
          go_ret
          rw [HR.out, HE.out]
          exact ⟨rfl, HKW.out⟩
        · cases h2 : y.ren
          · go_wp2_with fail
            go_ret
            rw [HR.out, HE.out]
            exact ⟨rfl, HKW.out⟩
          · go_wp2_with fail
            go_ret
            rw [HR.out, HE.out]
            exact ⟨rfl, HKW.out⟩
        · cases h2 : y.ren
          · go_wp2_with fail
            go_ret
            rw [HR.out, HE.out]
            exact ⟨rfl, HKW.out⟩
          · by_cases h3 : 0 ≤ y.of_
            · have hd : decide (y.of_ < (q : Int)) = false := by simpa using h1
              have hge : (q : Int) ≤ y.of_ := by omega
              go_wp2_with fail
              go_ret
              rw [HR.out, HE.out]
              exact ⟨rfl, HKW.out⟩
            · exact absurd (by omega : y.of_ < (q : Int)) h1
      · obtain ⟨m', p, hp, hpq, hpm, hbs⟩ := baseN_step HY.out hrb hqm
        have hrn : y.ren = true := by
          unfold renB at hrb
          cases h1 : y.ren
          · rw [h1] at hrb; simp at hrb
          · rfl
        have HBS : Hid (baseN t m' p = baseN t n n) := by rw [Hid, ← HBN.out, hbs]
        have hql := (List.getElem?_eq_some_iff.1 HY.out).1
        obtain ⟨z, hz⟩ : ∃ z, t.ents[p]? = some z := ⟨_, List.getElem?_eq_getElem (by omega)⟩
        rw [hp] at c7
        rw [hrn] at c8
        obtain ⟨b, o, hea, hr⟩ := (HT.out.kept HKW.out).es.some_ hz
        have HRZ := Lib.hid (hr p z hz)
        have HZ := Lib.hid hz
        have cv := HVC.out wr HKR.out
        rw [hea] at cv
        have hpl : p < t.ents.length := by omega
        clear hrb hbs hp hz hr hrn
        go_wp2_with (first
          | (refine wpList_load_mid rfl 43 (.tmp 34) rfl b (o + p * 22) rfl z.cells _ HRZ.out Try.underlying43 rfl (Try.info43 z) ?_)
          | (refine wpList_store_row rfl 43 (.tmp 5) (.tmp 35) rfl B1 _ z.cells.toArray rfl HBB.out rfl (Try.info43 z) rfl z.one ?_; intro w5 hb5 hk5; have HB5 := Lib.hid hb5; have HK5 := Lib.hid (HKR.out.trans hk5); clear hb5 hk5))
        go_frame
        go_roundw
        case rel => exact ⟨p, m', z, rfl, HZ.out, hpm, HBS.out, HB5.out, HK5.out⟩
        case measure => simp [intOf]; omega
end Go.Proofs.Ytlgcboaojdhneaa
