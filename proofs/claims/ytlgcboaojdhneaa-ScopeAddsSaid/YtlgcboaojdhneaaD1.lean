/- The reference's declared, named, any. The reference's Direct. -/
import Derived.Test.YtlgcboaojdhneaaC5
namespace Go.Proofs.Ytlgcboaojdhneaa
open Go.RowKit

def ownB (t : Tab) (o e : Int) : Bool := (rowE t e).owner == o
/-- The entities with a name and an owner that are declared before a place. -/
def declR (t : Tab) (name : ByteArray) (after o : Int) : List Int := (allR t name after).filter (ownB t o)
theorem allN_stop {t : Tab} {name : ByteArray} {after : Int} {k : Nat} (hk : after ≤ (k : Int)) : ∀ n, k ≤ n → allN t name after n = allN t name after k := by
  intro n hn
  induction n with
  | zero => rw [show k = 0 by omega]
  | succ n ih =>
    by_cases e : k = n + 1
    · rw [e]
    · rw [allN_succ, ih (by omega)]
      have : selAt t name after n = false := by
        unfold selAt
        cases t.ents[n]? with
        | none => rfl
        | some x =>
          have h : decide ((n : Int) < after) = false := by simp; omega
          simp [selB, h]
      rw [this]; simp

set_option maxRecDepth 100000 in
set_option maxHeartbeats 4000000 in
theorem declared_any (w : World) (v : TabV) (t : Tab) (h : WhV) (o : Int) (name : ByteArray) (hT : TabIn w v t) (hs : t.ents.length ≤ 100000) :
    Calls Try.prog 53 #[.agg (v.cells t), .agg h.cells.toArray, .int .i64 o, .string name] w (RetO (declR t name h.after o) w) := by
  have HT := Lib.hid hT
  have q1 := hT.el
  have q2 := hT.em
  clear hT
  obtain ⟨i0, hi, hz0, hz1, hz2⟩ := info_parts int_info
  unfold TabV.cells WhV.cells
  go_enter Try.func53, Try.ntmps53
  go_upto_region 1 with (fail)
  refine wp_gen' ?_
  intro w0 hw0
  have HK0 : Hid (Kept [] w w0) := by rw [Hid, hw0]; exact (Kept.alloc _ _ _).trans (Kept.alloc _ _ _)
  have b0 : w0.heap[w.heap.size]? = some (.cells (v.cells t) 28 (0, 0)) := by rw [hw0]; exact obj_old (obj_new rfl) (by simp)
  have b1 : w0.heap[w.heap.size + 1]? = some (.cells h.cells.toArray 31 (0, 0)) := by rw [hw0]; exact obj_new (by simp)
  have e2 : w0.cell? ⟨w.heap.size, 2, none⟩ = some (.slice v.ea t.ents.length v.ec) := (cell_of_row _ _ _ _ _ _ b0).trans rfl
  have a1 : w0.cell? ⟨w.heap.size + 1, 1, none⟩ = some (.int .i64 h.after) := (cell_of_row _ _ _ _ _ _ b1).trans rfl
  have HE2 := Lib.hid e2
  have HA1 := Lib.hid a1
  have HZ0 := Lib.hid HK0.out.size
  clear hw0 b0 b1 e2 a1
  go_wp2_with fail
  go_loopw [9, 10] (fun l i wr => ∃ k : Nat, k ≤ t.ents.length ∧ i = .int .i64 k ∧ wr.ownsRow w0.heap.size 3 1 l ((allN t name h.after k).filter (ownB t o)).length (((allN t name h.after k).filter (ownB t o)).map (Value.int .i64)) ∧ Kept [] w0 wr) (fun _ i _ => t.ents.length - (intOf i).toNat)
  case atStart => exact ⟨0, Nat.zero_le _, rfl, World.ownsRow_nil _ _ _ _, Kept.refl _ _⟩
  case round =>
    obtain ⟨k, hk, rfl, ho, hkr⟩ := hrel
    obtain ⟨A9, c9, rfl⟩ := own_shape ho
    have HO := Lib.hid ho
    have HKR := Lib.hid hkr
    clear ho hkr
    have e2 := HKR.out.cell HE2.out (by simp)
    have a1 := HKR.out.cell HA1.out (by simp)
    by_cases hlt : k < t.ents.length
    · by_cases haf : (k : Int) < h.after
      · obtain ⟨x, hx⟩ : ∃ x, t.ents[k]? = some x := ⟨_, List.getElem?_eq_getElem hlt⟩
        obtain ⟨b, ob, hea, hr⟩ := (HT.out.kept (HK0.out.trans HKR.out)).es.some_ hx
        have n1 : wr.cell? ⟨b, ob + k * 22 + 1, none⟩ = some (.string x.name) := hr k x hx 1 _ rfl
        have n2 : wr.cell? ⟨b, ob + k * 22 + 2, none⟩ = some (.int .i64 x.owner) := hr k x hx 2 _ rfl
        have HSEL : Hid (selAt t name h.after k = ((!name.toList.isEmpty && (x.name.toList == name.toList)))) := by
          rw [Hid, selAt, hx]
          simp [selB, haf]
        have HAS := Lib.hid (allN_succ t name h.after k)
        have HOW : Hid (ownB t o (k : Int) = (x.owner == o)) := by rw [Hid, ownB, (row_some hx).2]
        have hal := allN_len t name h.after k
        rw [hea] at e2
        have j1 : (0 : Int) ≤ (k : Int) := by omega
        have j2 : (k : Int) < (t.ents.length : Int) := by omega
        have haf' : decide ((k : Int) < h.after) = true := by simpa using haf
        have HNO : Hid ((selAt t name h.after k && ownB t o (k : Int)) = false → (allN t name h.after (k + 1)).filter (ownB t o) = (allN t name h.after k).filter (ownB t o)) := fun hf => by
          rw [HAS.out]
          cases hsel : selAt t name h.after k
          · simp
          · rw [hsel] at hf
            simp only [Bool.true_and] at hf
            simp [List.filter, hf]
        clear hr hx hea haf
        cases h1 : name.toList.isEmpty
        · rw [h1] at HSEL
          cases h2 : (x.name.toList == name.toList)
          · rw [h2] at HSEL
            have HN := Lib.hid (HNO.out (by rw [HSEL.out]; rfl))
            clear HNO
            go_wp2_with fail
            go_roundw
            case rel => exact ⟨k + 1, by omega, by go_num, by rw [HN.out]; exact HO.out, HKR.out⟩
            case measure => simp [intOf]; omega
          · rw [h2] at HSEL
            cases h3 : (x.owner == o)
            · rw [h3] at HOW
              have HN := Lib.hid (HNO.out (by rw [HSEL.out, HOW.out]; rfl))
              clear HNO
              go_wp2_with fail
              go_roundw
              case rel => exact ⟨k + 1, by omega, by go_num, by rw [HN.out]; exact HO.out, HKR.out⟩
              case measure => simp [intOf]; omega
            · rw [h3] at HOW
              have HN : Hid ((allN t name h.after (k + 1)).filter (ownB t o) = (allN t name h.after k).filter (ownB t o) ++ [(k : Int)]) := by
                rw [Hid, HAS.out, HSEL.out]
                simp [List.filter_append, List.filter, HOW.out]
              have hfl : ((allN t name h.after k).filter (ownB t o)).length ≤ k := Nat.le_trans (List.length_filter_le _ _) hal
              clear HNO HAS hal
              generalize (allN t name h.after k).filter (ownB t o) = zs at *
              have hA : zs.length + 1 ≤ maxLen := by unfold maxLen; omega
              have hB : (zs.length + 1) * 8 ≤ 140737488355328 := by omega
              have hC : Hid (w0.heap.size ≤ (wr.alloc (.cells #[.int .i64 k] 3)).heap.size) := by have := HKR.out.size; rw [Hid]; simp; omega
              obtain ⟨wo, rfl⟩ : ∃ wo : World, wo = wr := ⟨_, rfl⟩
              go_wp2_with (at_builtin; refine wpList_append_own _ rfl _ _ 29 rfl w0.heap.size 3 i0 (.int .i64 0) 1 8 Try.underlying29 hi hz0 hz1 hz2 rfl (by decide) (.slice A9 zs.length c9) zs.length (zs.map (Value.int .i64)) rfl (HO.out.alloc _) ⟨wo.heap.size, 0, none⟩ 1 1 [.int .i64 k] rfl rfl (cell_one_new _ _ _) (one_int _ _) hA hB hC.out ?_; intro vb wb hob hgb _; have HOB := Lib.hid hob; have HKB := Lib.hid ((HKR.out.trans (Kept.alloc _ _ _)).grown hgb (fun q hq => own_at HO.out q hq)); clear hob hgb)
              go_roundw
              case rel => exact ⟨k + 1, by omega, by go_num, by rw [HN.out]; simpa using HOB.out, HKB.out⟩
              case measure => simp [intOf]; omega
        · rw [h1] at HSEL
          have HN := Lib.hid (HNO.out (by rw [HSEL.out]; rfl))
          clear HNO
          go_wp2_with fail
          go_roundw
          case rel => exact ⟨k + 1, by omega, by go_num, by rw [HN.out]; exact HO.out, HKR.out⟩
          case measure => simp [intOf]; omega
      · have haf' : decide ((k : Int) < h.after) = false := by simpa using haf
        have HE : Hid (declR t name h.after o = (allN t name h.after k).filter (ownB t o)) := by rw [Hid, declR, allR, allN_stop (by omega) _ hk]
        clear haf
        go_wp2_with fail
        go_ret
        exact ⟨_, rfl, by rw [HE.out]; exact own_base HO.out HZ0.out, HK0.out.trans HKR.out⟩
    · obtain rfl : k = t.ents.length := by omega
      have HE : Hid (declR t name h.after o = (allN t name h.after t.ents.length).filter (ownB t o)) := rfl
      go_wp2_with fail
      go_ret
      exact ⟨_, rfl, by rw [HE.out]; exact own_base HO.out HZ0.out, HK0.out.trans HKR.out⟩

set_option maxRecDepth 100000 in
set_option maxHeartbeats 4000000 in
theorem namedRef_any (w : World) (v : TabV) (t : Tab) (h : WhV) (k : Nat) (x : EntV) (hx : t.ents[k]? = some x) (hT : TabIn w v t) (hH : WhIn w h) (hs : t.ents.length ≤ 100000) :
    Calls Try.prog 54 #[.agg (v.cells t), .agg h.cells.toArray, .int .i64 k] w (RetB (namedR t h k x) w) := by
  have HT := Lib.hid hT
  have HH := Lib.hid hH
  have HR : Hid (namedR t h k x = ((((x.owner != 0) || decide (x.unit < 0)) || hasI h.units k) || insideR t h.region k)) := rfl
  have q1 := hT.el
  have q2 := hT.em
  have hlt := (List.getElem?_eq_some_iff.1 hx).1
  obtain ⟨b, o, hea, hr⟩ := hT.es.some_ hx
  have HROW := Lib.hid (hr k x hx)
  have HEA := Lib.hid hea
  have u1 := hH.u1
  have u2 := hH.u2
  have HSZ := Lib.hid hs
  clear hx hT hH hr hs hea
  unfold TabV.cells WhV.cells
  go_enter Try.func54, Try.ntmps54
  go_upto_region 1 with (fail)
  refine wp_gen' ?_
  intro w0 hw0
  have HK0 : Hid (Kept [] w w0) := by rw [Hid, hw0]; exact (Kept.alloc _ _ _).trans (Kept.alloc _ _ _)
  have b0 : w0.heap[w.heap.size]? = some (.cells (v.cells t) 28 (0, 0)) := by rw [hw0]; exact obj_old (obj_new rfl) (by simp)
  have b1 : w0.heap[w.heap.size + 1]? = some (.cells h.cells.toArray 31 (0, 0)) := by rw [hw0]; exact obj_new (by simp)
  have e2 : w0.cell? ⟨w.heap.size, 2, none⟩ = some (.slice v.ea t.ents.length v.ec) := (cell_of_row _ _ _ _ _ _ b0).trans rfl
  have HB0 := Lib.hid b0
  have HB1 := Lib.hid b1
  rw [HEA.out] at e2
  have HROW0 : Hid (w0.rangeAt b (o + k * 22) x.cells) := fun j u hu => HK0.out.cell (HROW.out j u hu) (by simp)
  have j1 : (0 : Int) ≤ (k : Int) := by omega
  have j2 : (k : Int) < (t.ents.length : Int) := by omega
  clear hw0 b0 b1
  go_upto_region 2 with (refine wpList_load_mid rfl 43 (.tmp 11) rfl b (o + k * 22) rfl x.cells _ HROW0.out Try.underlying43 rfl (Try.info43 x) ?_)
  refine wp_gen' ?_
  intro w1 hw1
  have hk1 : Kept [] w0 w1 := by rw [hw1]; exact Kept.alloc _ _ _
  have n2 : w1.cell? ⟨w0.heap.size, 2, none⟩ = some (.int .i64 x.owner) := by rw [hw1]; exact ent_cell (x := x) (heap_alloc_new _ _) 2 rfl
  have n18 : w1.cell? ⟨w0.heap.size, 20, none⟩ = some (.int .i64 x.unit) := by rw [hw1]; exact ent_cell (x := x) (heap_alloc_new _ _) 20 rfl
  have HK1 := Lib.hid (HK0.out.trans hk1)
  have HBV := Lib.hid (hk1.obj HB0.out (by simp))
  have HBH := Lib.hid (hk1.obj HB1.out (by simp))
  have a2 : w1.cell? ⟨w.heap.size + 1, 2, none⟩ = some (.slice h.ua h.units.length h.uc) := (cell_of_row _ _ _ _ _ _ HBH.out).trans rfl
  have a0 : ∀ W, Kept [] w1 W → W.cell? ⟨w.heap.size + 1, 0, none⟩ = some (.int .i64 h.region) := fun W hk => (cell_of_row _ _ _ _ _ _ (hk.obj HBH.out (by simp))).trans rfl
  have HA0 := Lib.hid a0
  have HRV : Hid (∀ W, Kept [] w1 W → W.rangeAt w.heap.size 0 (v.cells t).toList) := fun W hk => tab_range (hk.obj HBV.out (by simp))
  have HC := Lib.hid (in_any w1 h.ua h.uc h.units k u1 u2 ((HH.out.kept HK1.out).u))
  generalize w0.heap.size = Y at *
  clear hw1 hk1 HROW0 e2 a0
  cases h1 : (x.owner != 0)
  · rw [h1] at HR
    cases h2 : decide (x.unit < 0)
    · rw [h2] at HR
      cases h3 : hasI h.units k
      · rw [h3] at HR HC
        go_wp2_with (first
          | (go_at_call 15; refine HC.out.mono ?_; rintro e w2 ⟨rfl, hk2⟩; have HK2 := Lib.hid hk2; have a0 := HA0.out _ hk2; clear hk2)
          | (refine wpList_load_g 28 (.tmp 3) rfl rfl w.heap.size 0 rfl (v.cells t).toList _ (HRV.out _ HK2.out) Try.underlying28 rfl (Try.info28 v t) ?_)
          | (go_at_call 32; refine (insideRef_any _ v t h.region k (HT.out.kept (HK1.out.trans HK2.out)) HSZ.out).mono ?_; rintro e w3 ⟨rfl, hk3⟩; have HK3 := Lib.hid hk3; clear hk3))
        go_ret
        exact ⟨by rw [HR.out]; rfl, HK1.out.trans (HK2.out.trans HK3.out)⟩
      · rw [h3] at HR HC
        go_wp2_with (first
          | (go_at_call 15; refine HC.out.mono ?_; rintro e w2 ⟨rfl, hk2⟩; have HK2 := Lib.hid hk2; clear hk2))
        go_ret
        exact ⟨by rw [HR.out]; rfl, HK1.out.trans HK2.out⟩
    · rw [h2] at HR
      go_wp2_with fail
      go_ret
      exact ⟨by rw [HR.out]; rfl, HK1.out⟩
  · rw [h1] at HR
    go_wp2_with fail
    go_ret
    exact ⟨by rw [HR.out]; rfl, HK1.out⟩

def anyR (t : Tab) (l : List Int) (e : Int) : Bool := l.any fun a => homI t a e
theorem any_take {p : Int → Bool} {xs : List Int} {k : Nat} {x : Int} (hx : xs[k]? = some x) (h : (xs.take k).any p = false) : (xs.take (k + 1)).any p = p x := by
  obtain ⟨hk', e⟩ := List.getElem?_eq_some_iff.1 hx
  rw [List.take_succ_eq_append_getElem hk', e, List.any_append, h]
  simp

set_option maxRecDepth 100000 in
set_option maxHeartbeats 4000000 in
theorem any_any (w : World) (v : TabV) (t : Tab) (a : Option Addr) (c : Nat) (xs : List Int) (e : Int) (hT : TabIn w v t) (hc : xs.length ≤ c) (hm : c ≤ 9223372036854775807) (hI : IntsIn w a xs) :
    Calls Try.prog 80 #[.agg (v.cells t), .slice a xs.length c, .int .i64 e] w (RetB (anyR t xs e) w) := by
  have HT := Lib.hid hT
  have HI := Lib.hid hI
  have HR : Hid (anyR t xs e = xs.any fun a => homI t a e) := rfl
  clear hT hI
  have HBX : Hid ((w.alloc (.cells (v.cells t) 28)).heap[w.heap.size]? = some (.cells (v.cells t) 28 (0, 0))) := obj_new rfl
  have HK0 : Hid (Kept [] w (w.alloc (.cells (v.cells t) 28))) := Kept.alloc _ _ _
  unfold TabV.cells at *
  go_enter Try.func80, Try.ntmps80
  go_upto_region 1 with (fail)
  refine wp_gen' ?_
  intro w0 hw0
  rw [← hw0] at HBX HK0
  clear hw0
  go_wp2_with fail
  go_loopw [7] (fun i wr => ∃ k : Nat, k ≤ xs.length ∧ i = .int .i64 k ∧ (xs.take k).any (fun a => homI t a e) = false ∧ Kept [] w0 wr) (fun i _ => xs.length - (intOf i).toNat)
  case atStart => exact ⟨0, Nat.zero_le _, rfl, rfl, Kept.refl _ _⟩
  case round =>
    obtain ⟨k, hk, rfl, hn, hkr⟩ := hrel
    have HN := Lib.hid hn
    have HK := Lib.hid hkr
    clear hn hkr
    obtain ⟨wo, rfl⟩ : ∃ wo : World, wo = wr := ⟨_, rfl⟩
    by_cases hlt : k < xs.length
    · obtain ⟨x, hx⟩ : ∃ x, xs[k]? = some x := ⟨_, List.getElem?_eq_getElem hlt⟩
      have HS : Hid ((xs.take (k + 1)).any (fun a => homI t a e) = homI t x e) := any_take hx HN.out
      have HA : Hid (homI t x e = true → xs.any (fun a => homI t a e) = true) := fun h => List.any_eq_true.2 ⟨x, List.mem_of_getElem? hx, h⟩
      rcases HI.out with h0 | ⟨b, o, rfl, hcx⟩
      · rw [h0] at hlt; simp at hlt
      · have qx := (HK0.out.trans HK.out).cell (hcx k x hx) (by simp)
        have c0 : ∀ j, wo.cell? ⟨w.heap.size, j, none⟩ = (v.cells t)[j]? := fun j => cell_of_row _ _ _ _ _ _ (HK.out.obj HBX.out (by simp))
        have HCX : Hid (∀ z : After wo, Calls Try.prog 35 #[.agg #[.slice v.ta t.types.length v.tc, .slice v.sa t.subs.length v.sc, .slice v.ea t.ents.length v.ec, .slice v.ga v.gn v.gc, .slice v.ia v.im v.ic], .int .i64 x, .int .i64 e] z.1 (RetB (homI t x e) z.1)) := fun z => homographsIRef_any z.1 v t x e (HT.out.kept (HK0.out.trans (HK.out.trans z.2)))
        have j1 : (0 : Int) ≤ (k : Int) := by omega
        have j2 : (k : Int) < (xs.length : Int) := by omega
        clear hcx hx
        go_upto_region 4 with (fail)
        have v0 : ∀ z : After wo, z.1.cell? ⟨w.heap.size, 0, none⟩ = some (.slice v.ta t.types.length v.tc) := After.cell (c0 0)
        have v1 : ∀ z : After wo, z.1.cell? ⟨w.heap.size, 1, none⟩ = some (.slice v.sa t.subs.length v.sc) := After.cell (c0 1)
        have v2 : ∀ z : After wo, z.1.cell? ⟨w.heap.size, 2, none⟩ = some (.slice v.ea t.ents.length v.ec) := After.cell (c0 2)
        have v3 : ∀ z : After wo, z.1.cell? ⟨w.heap.size, 3, none⟩ = some (.slice v.ga v.gn v.gc) := After.cell (c0 3)
        have v4 : ∀ z : After wo, z.1.cell? ⟨w.heap.size, 4, none⟩ = some (.slice v.ia v.im v.ic) := After.cell (c0 4)
        have vx := After.cell qx
        clear c0 qx
        cases hpx : homI t x e
        · rw [hpx] at HS HCX
          clear hpx HA
          refine wp_region_after (by kernel_rfl) (by kernel_rfl) ?_
          repeat (go_big_quiet_step (exact Calls.after_b (HCX.out _)))
          refine wpQuiet_nil ?_
          rintro w' ⟨z, rfl⟩
          obtain ⟨w1, hk1⟩ := z
          have HK1 := Lib.hid (HK.out.trans hk1)
          go_wp2_with fail
          go_roundw
          case rel => exact ⟨k + 1, by omega, by go_num, HS.out, HK1.out⟩
          case measure => simp [intOf]; omega
        · rw [hpx] at HS HCX
          have HA2 := Lib.hid (HA.out hpx)
          clear hpx HA HS
          refine wp_region_after (by kernel_rfl) (by kernel_rfl) ?_
          repeat (go_big_quiet_step (exact Calls.after_b (HCX.out _)))
          refine wpQuiet_nil ?_
          rintro w' ⟨z, rfl⟩
          obtain ⟨w1, hk1⟩ := z
          have HK1 := Lib.hid (HK.out.trans hk1)
          go_wp2_with fail
          go_ret
          exact ⟨by rw [HR.out, HA2.out]; try rfl, HK0.out.trans HK1.out⟩
    · obtain rfl : k = xs.length := by omega
      have HN2 := Lib.hid (by have := HN.out; rw [List.take_length] at this; exact this)
      clear HN
      go_wp2_with fail
      go_ret
      exact ⟨by rw [HR.out, HN2.out]; try rfl, HK0.out.trans HK.out⟩
end Go.Proofs.Ytlgcboaojdhneaa
namespace Go.Proofs.Ytlgcboaojdhneaa
open Go.RowKit

/-- The reference's test of a region: can be named, not hidden. -/
def refB (t : Tab) (h : WhV) (out : List Int) (e : Int) : Bool := namedR t h e (rowE t e) && !anyR t out e
theorem anyR_hid {t : Tab} {l : List Int} {e : Int} (hl : ∀ a, a ∈ l → (rowR t a).isSome = true) (he : (rowR t e).isSome = true) : anyR t l e = hidR t l (rowE t e) := by
  unfold anyR hidR
  induction l with
  | nil => rfl
  | cons a l ih =>
    rw [List.any_cons, List.any_cons, ih (fun b hb => hl b (by simp [hb]))]
    simp [homI, hl a (by simp), he]
theorem dirS_ref {t : Tab} {h : WhV} {name : ByteArray} {out : List Int} (r : Int) (hl : ∀ a, a ∈ out → (rowR t a).isSome = true) :
    dirS t h (allR t name h.after) out r = out ++ (declR t name h.after r).filter (refB t h out) := by
  unfold dirS declR
  rw [List.filter_filter]
  congr 1
  refine List.filter_congr fun e he => ?_
  have hs := allR_row he
  unfold dirB refB ownB
  rw [anyR_hid hl hs]
  cases (rowE t e).owner == r <;> cases namedR t h e (rowE t e) <;> cases hidR t out (rowE t e) <;> rfl
theorem declR_row {t : Tab} {name : ByteArray} {after o e : Int} (h : e ∈ declR t name after o) : (rowR t e).isSome = true := allR_row (List.mem_filter.1 h).1
theorem declR_len (t : Tab) (name : ByteArray) (after o : Int) : (declR t name after o).length ≤ t.ents.length := Nat.le_trans (List.length_filter_le _ _) (allN_len _ _ _ _)
theorem filter_take {p : Int → Bool} {xs : List Int} {k : Nat} {x : Int} (hx : xs[k]? = some x) : (xs.take (k + 1)).filter p = (xs.take k).filter p ++ (if p x then [x] else []) := by
  obtain ⟨hk', e⟩ := List.getElem?_eq_some_iff.1 hx
  rw [List.take_succ_eq_append_getElem hk', e, List.filter_append]
  cases hp : p x <;> simp [List.filter, hp]

set_option maxRecDepth 100000 in
set_option maxHeartbeats 4000000 in
theorem directRef_any (w : World) (v : TabV) (t : Tab) (h : WhV) (name : ByteArray) (hT : TabIn w v t) (hH : WhIn w h) (hs : t.ents.length ≤ 5000) :
    Calls Try.prog 49 #[.agg (v.cells t), .agg h.cells.toArray, .string name] w (RetO (dirR t h (allR t name h.after) (regs t h.region)) w) := by
  have HT := Lib.hid hT
  have HH := Lib.hid hH
  have HSZ := Lib.hid hs
  obtain ⟨i0, hi, hz0, hz1, hz2⟩ := info_parts int_info
  have HALL : Hid ((allR t name h.after).length ≤ 5000) := Nat.le_trans (allN_len _ _ _ _) hs
  have HREG : Hid ((regs t h.region).length ≤ 5000) := Nat.le_trans (regs_len _ _) hs
  clear hT hH hs
  unfold TabV.cells WhV.cells
  go_enter Try.func49, Try.ntmps49
  go_upto_region 2 with (fail)
  refine wp_gen' ?_
  intro w0 hw0
  have HK0 : Hid (Kept [] w w0) := by rw [Hid, hw0]; exact (Kept.alloc _ _ _).trans (Kept.alloc _ _ _)
  have b0 : w0.heap[w.heap.size]? = some (.cells (v.cells t) 28 (0, 0)) := by rw [hw0]; exact obj_old (obj_new rfl) (by simp)
  have b1 : w0.heap[w.heap.size + 1]? = some (.cells h.cells.toArray 31 (0, 0)) := by rw [hw0]; exact obj_new (by simp)
  have HB0 := Lib.hid b0
  have HB1 := Lib.hid b1
  have a0 : w0.cell? ⟨w.heap.size + 1, 0, none⟩ = some (.int .i64 h.region) := (cell_of_row _ _ _ _ _ _ b1).trans rfl
  have HC := Lib.hid (regions_any w0 v t h.region (HT.out.kept HK0.out) (by have := HSZ.out; omega))
  have HRV0 : Hid (w0.rangeAt w.heap.size 0 (v.cells t).toList) := tab_range b0
  clear hw0 b0 b1
  go_upto_region 3 with (first
    | (refine wpList_load_mid rfl 28 (.tmp 3) rfl w.heap.size 0 rfl _ _ HRV0.out Try.underlying28 rfl Try.size28 ?_)
    | (go_at_call 64; refine HC.out.mono ?_; rintro e w1 ⟨v1, rfl, ho1, hk1⟩; have HO1 := Lib.hid ho1; have HK1 := Lib.hid hk1; clear hk1 ho1; obtain ⟨A8, c8, rfl⟩ := own_shape HO1.out; obtain ⟨_, hin1, h81, h82, _⟩ := (IntsC.of_owns HO1.out).at_; have HIN := Lib.hid hin1; clear hin1))
  have HKW1 := Lib.hid (HK0.out.trans HK1.out)
  have HV1 := Lib.hid (HK1.out.obj HB0.out (by simp))
  have HW1 := Lib.hid (HK1.out.obj HB1.out (by simp))
  clear a0 HC HRV0
  generalize hrs : regs t h.region = rs at *
  clear hrs
  go_wp2_with fail
  go_loopw [7, 9] (fun l i wr => ∃ k : Nat, k ≤ rs.length ∧ i = .int .i64 k ∧ wr.ownsRow w1.heap.size 3 1 l (dirR t h (allR t name h.after) (rs.take k)).length ((dirR t h (allR t name h.after) (rs.take k)).map (Value.int .i64)) ∧ Kept [] w1 wr) (fun _ i _ => rs.length - (intOf i).toNat)
  case atStart => exact ⟨0, Nat.zero_le _, rfl, World.ownsRow_nil _ _ _ _, Kept.refl _ _⟩
  case round =>
    obtain ⟨k, hk, rfl, ho, hkr⟩ := hrel
    obtain ⟨A7, c7, rfl⟩ := own_shape ho
    obtain ⟨wo, rfl⟩ : ∃ wo : World, wo = wr := ⟨_, rfl⟩
    have HO := Lib.hid ho
    have HKR := Lib.hid hkr
    clear ho hkr
    by_cases hlt : k < rs.length
    · obtain ⟨r, hr⟩ : ∃ r, rs[k]? = some r := ⟨_, List.getElem?_eq_getElem hlt⟩
      have HDR : Hid (dirR t h (allR t name h.after) (rs.take (k + 1)) = dirS t h (allR t name h.after) (dirR t h (allR t name h.after) (rs.take k)) r) := by
        obtain ⟨hk', e⟩ := List.getElem?_eq_some_iff.1 hr
        rw [Hid, List.take_succ_eq_append_getElem hk', e, dirR_snoc]
      have HROUT : Hid (∀ a, a ∈ dirR t h (allR t name h.after) (rs.take k) → (rowR t a).isSome = true) := fun a ha => allR_row (dirR_mem ha)
      have hol : (dirR t h (allR t name h.after) (rs.take k)).length ≤ 5000 * 5000 := by
        have h1 := dirR_len (t := t) (h := h) (all := allR t name h.after) (rs.take k) []
        have h2 : (rs.take k).length * (allR t name h.after).length ≤ 5000 * 5000 := Nat.mul_le_mul (by rw [List.length_take]; have := HREG.out; omega) HALL.out
        unfold dirR
        simp only [List.length_nil, Nat.zero_add] at h1
        omega
      rcases HIN.out with hn | ⟨b8, o8, rfl, hc8⟩
      · rw [hn] at hlt; simp at hlt
      have q8 : wo.cell? ⟨b8, o8 + k, none⟩ = some (.int .i64 r) := HKR.out.cell (hc8 k r hr) (by simp)
      have c0 : ∀ W, Kept [] w1 W → ∀ j, W.cell? ⟨w.heap.size, j, none⟩ = (v.cells t)[j]? := fun W hk j => cell_of_row _ _ _ _ _ _ (hk.obj HV1.out (by simp))
      have c1 : ∀ W, Kept [] w1 W → ∀ j, W.cell? ⟨w.heap.size + 1, j, none⟩ = h.cells.toArray[j]? := fun W hk j => cell_of_row _ _ _ _ _ _ (hk.obj HW1.out (by simp))
      have HC0 := Lib.hid c0
      have HC1 := Lib.hid c1
      have v0 : wo.cell? ⟨w.heap.size, 0, none⟩ = some (.slice v.ta t.types.length v.tc) := c0 _ HKR.out 0
      have v1 : wo.cell? ⟨w.heap.size, 1, none⟩ = some (.slice v.sa t.subs.length v.sc) := c0 _ HKR.out 1
      have v2 : wo.cell? ⟨w.heap.size, 2, none⟩ = some (.slice v.ea t.ents.length v.ec) := c0 _ HKR.out 2
      have v3 : wo.cell? ⟨w.heap.size, 3, none⟩ = some (.slice v.ga v.gn v.gc) := c0 _ HKR.out 3
      have v4 : wo.cell? ⟨w.heap.size, 4, none⟩ = some (.slice v.ia v.im v.ic) := c0 _ HKR.out 4
      have u0 : wo.cell? ⟨w.heap.size + 1, 0, none⟩ = some (.int .i64 h.region) := c1 _ HKR.out 0
      have u1 : wo.cell? ⟨w.heap.size + 1, 1, none⟩ = some (.int .i64 h.after) := c1 _ HKR.out 1
      have u2 : wo.cell? ⟨w.heap.size + 1, 2, none⟩ = some (.slice h.ua h.units.length h.uc) := c1 _ HKR.out 2
      have u3 : wo.cell? ⟨w.heap.size + 1, 3, none⟩ = some (.slice h.sa h.uses.length h.sc) := c1 _ HKR.out 3
      have j1 : (0 : Int) ≤ (k : Int) := by omega
      have j2 : (k : Int) < (rs.length : Int) := by omega
      have HCD := Lib.hid (declared_any wo.drew v t h r name (HT.out.kept (HKW1.out.trans (HKR.out.trans (Kept.drew _ _)))) (by have := HSZ.out; omega))
      unfold TabV.cells WhV.cells at HCD
      clear hr hc8 c0 c1
      go_upto_region 6 with (fail)
      go_still_tail 7, (by kernel_rfl)
      change wpList _ _ _ _ _ wo.drew
      go_upto_region 7 with (go_at_call 53; refine HCD.out.mono ?_; rintro e wd ⟨vd, rfl, hod, hkd⟩; have HOD := Lib.hid hod; have HKD := Lib.hid ((Kept.drew [] wo).trans hkd); clear hkd hod; obtain ⟨A10, c10, rfl⟩ := own_shape HOD.out; obtain ⟨_, hin10, h101, h102, _⟩ := (IntsC.of_owns HOD.out).at_; have HIND := Lib.hid hin10; clear hin10)
      have HKWD := Lib.hid (HKR.out.trans HKD.out)
      have HOO := Lib.hid (own_keep HO.out HKD.out (by simp))
      have HROWD : Hid (∀ e, e ∈ declR t name h.after r → (rowR t e).isSome = true) := fun e he => declR_row he
      have HDL : Hid ((declR t name h.after r).length ≤ 5000) := Nat.le_trans (declR_len _ _ _ _) HSZ.out
      have HNEW := Lib.hid (dirS_ref (name := name) (h := h) r HROUT.out)
      clear v0 v1 v2 v3 v4 u0 u1 u2 u3 q8 HCD j1 j2
      generalize declR t name h.after r = d at *
      generalize hout : dirR t h (allR t name h.after) (rs.take k) = out at *
      clear hout
      go_upto_block 2 with (fail)
      go_cut [11] (fun v11 wc => wc.ownsRow wd.heap.size 3 1 v11 (d.filter (refB t h out)).length ((d.filter (refB t h out)).map (Value.int .i64)) ∧ Kept [] wd wc)
      case first =>
        go_wp2_with fail
        go_loopw [11, 12] (fun l i wr => ∃ k : Nat, k ≤ d.length ∧ i = .int .i64 k ∧ wr.ownsRow wd.heap.size 3 1 l ((d.take k).filter (refB t h out)).length (((d.take k).filter (refB t h out)).map (Value.int .i64)) ∧ Kept [] wd wr) (fun _ i _ => d.length - (intOf i).toNat)
        case atStart => exact ⟨0, Nat.zero_le _, rfl, World.ownsRow_nil _ _ _ _, Kept.refl _ _⟩
        case round =>
          obtain ⟨q, hq, rfl, ho, hkr⟩ := hrel
          obtain ⟨A11, c11, rfl⟩ := own_shape ho
          obtain ⟨wi, rfl⟩ : ∃ wi : World, wi = wr := ⟨_, rfl⟩
          have HO2 := Lib.hid ho
          have HKR2 := Lib.hid hkr
          clear ho hkr
          by_cases hlq : q < d.length
          · obtain ⟨e, he⟩ : ∃ e, d[q]? = some e := ⟨_, List.getElem?_eq_getElem hlq⟩
            obtain ⟨n, x, rfl, hx, hxe⟩ := row_at (HROWD.out e (List.mem_of_getElem? he))
            have HFT := Lib.hid (filter_take (p := refB t h out) he)
            have HRB : Hid (refB t h out (n : Int) = (namedR t h n x && !anyR t out n)) := by rw [Hid, refB, hxe]
            have HHE := Lib.hid he
            rcases HIND.out with hn | ⟨b10, o10, rfl, hc10⟩
            · rw [hn] at hlq; simp at hlq
            have q10 := HKR2.out.cell (hc10 q _ he) (by simp)
            have HQ10 := Lib.hid q10
            have hkk := HKWD.out.trans HKR2.out
            have HKK := Lib.hid hkk
            have hfl : ((d.take q).filter (refB t h out)).length ≤ q := Nat.le_trans (List.length_filter_le _ _) (by simp; omega)
            have j1 : (0 : Int) ≤ (q : Int) := by omega
            have j2 : (q : Int) < (d.length : Int) := by omega
            have v0 : ∀ z : After wi, z.1.cell? ⟨w.heap.size, 0, none⟩ = some (.slice v.ta t.types.length v.tc) := After.cell (HC0.out _ hkk 0)
            have v1 : ∀ z : After wi, z.1.cell? ⟨w.heap.size, 1, none⟩ = some (.slice v.sa t.subs.length v.sc) := After.cell (HC0.out _ hkk 1)
            have v2 : ∀ z : After wi, z.1.cell? ⟨w.heap.size, 2, none⟩ = some (.slice v.ea t.ents.length v.ec) := After.cell (HC0.out _ hkk 2)
            have v3 : ∀ z : After wi, z.1.cell? ⟨w.heap.size, 3, none⟩ = some (.slice v.ga v.gn v.gc) := After.cell (HC0.out _ hkk 3)
            have v4 : ∀ z : After wi, z.1.cell? ⟨w.heap.size, 4, none⟩ = some (.slice v.ia v.im v.ic) := After.cell (HC0.out _ hkk 4)
            have u0 : ∀ z : After wi, z.1.cell? ⟨w.heap.size + 1, 0, none⟩ = some (.int .i64 h.region) := After.cell (HC1.out _ hkk 0)
            have u1 : ∀ z : After wi, z.1.cell? ⟨w.heap.size + 1, 1, none⟩ = some (.int .i64 h.after) := After.cell (HC1.out _ hkk 1)
            have u2 : ∀ z : After wi, z.1.cell? ⟨w.heap.size + 1, 2, none⟩ = some (.slice h.ua h.units.length h.uc) := After.cell (HC1.out _ hkk 2)
            have u3 : ∀ z : After wi, z.1.cell? ⟨w.heap.size + 1, 3, none⟩ = some (.slice h.sa h.uses.length h.sc) := After.cell (HC1.out _ hkk 3)
            have g10 := After.cell q10
            obtain ⟨_, hio, ho71, ho72, _⟩ := (IntsC.of_owns (own_keep HOO.out HKR2.out (by simp))).at_
            have HIO := Lib.hid hio
            have HCN : Hid (∀ z : After wi, Calls Try.prog 54 #[.agg #[.slice v.ta t.types.length v.tc, .slice v.sa t.subs.length v.sc, .slice v.ea t.ents.length v.ec, .slice v.ga v.gn v.gc, .slice v.ia v.im v.ic], .agg #[.int .i64 h.region, .int .i64 h.after, .slice h.ua h.units.length h.uc, .slice h.sa h.uses.length h.sc], .int .i64 n] z.1 (RetB (namedR t h n x) z.1)) := fun z => namedRef_any z.1 v t h n x hx (HT.out.kept (HKW1.out.trans (HKK.out.trans z.2))) (HH.out.kept (HKW1.out.trans (HKK.out.trans z.2))) (by have := HSZ.out; omega)
            have HCA : Hid (∀ z : After wi, Calls Try.prog 80 #[.agg #[.slice v.ta t.types.length v.tc, .slice v.sa t.subs.length v.sc, .slice v.ea t.ents.length v.ec, .slice v.ga v.gn v.gc, .slice v.ia v.im v.ic], .slice A7 out.length c7, .int .i64 n] z.1 (RetB (anyR t out n) z.1)) := fun z => any_any z.1 v t A7 c7 out n (HT.out.kept (HKW1.out.trans (HKK.out.trans z.2))) ho71 ho72 (HIO.out.kept z.2)
            clear hkk q10 he hx hxe hc10 hio
            go_upto_region 11 with (fail)
            cases h1 : namedR t h n x
            · rw [h1] at HRB HCN
              rw [HRB.out] at HFT
              clear h1
              refine wp_region_after (by kernel_rfl) (by kernel_rfl) ?_
              iterate 6 (go_big_quiet_step (fail))
              go_big_quiet_step (exact Calls.after_b (HCN.out _))
              repeat (go_big_quiet_step (fail))
              refine wpQuiet_nil ?_
              rintro w' ⟨z, rfl⟩
              obtain ⟨w2, hk2⟩ := z
              have HN : Hid ((d.take (q + 1)).filter (refB t h out) = (d.take q).filter (refB t h out)) := by rw [Hid, HFT.out]; simp
              go_wp2_with fail
              go_roundw
              case rel => exact ⟨q + 1, by omega, by go_num, by rw [HN.out]; exact own_keep HO2.out hk2 (by simp), HKR2.out.trans hk2⟩
              case measure => simp [intOf]; omega
            · rw [h1] at HRB HCN
              clear h1
              cases h2 : anyR t out n
              · rw [h2] at HRB HCA
                rw [HRB.out] at HFT
                clear h2
                refine wp_region_after (by kernel_rfl) (by kernel_rfl) ?_
                iterate 6 (go_big_quiet_step (fail))
                go_big_quiet_step (exact Calls.after_b (HCN.out _))
                iterate 7 (go_big_quiet_step (fail))
                go_big_quiet_step (exact Calls.after_b (HCA.out _))
                repeat (go_big_quiet_step (fail))
                refine wpQuiet_nil ?_
                rintro w' ⟨z, rfl⟩
                obtain ⟨w2, hk2⟩ := z
                have HN : Hid ((d.take (q + 1)).filter (refB t h out) = (d.take q).filter (refB t h out) ++ [(n : Int)]) := by rw [Hid, HFT.out]; simp
                have HKR3 := Lib.hid (HKR2.out.trans hk2)
                have HO3 := Lib.hid (own_keep HO2.out hk2 (by simp))
                have cq := hk2.cell HQ10.out (by simp)
                clear v0 v1 v2 v3 v4 u0 u1 u2 u3 g10 HCN HCA
                change Exit.then _ _ _ _ w2
                generalize (d.take q).filter (refB t h out) = zs at *
                have hA : zs.length + 1 ≤ maxLen := by have := HDL.out; unfold maxLen; omega
                have hB : (zs.length + 1) * 8 ≤ 140737488355328 := by have := HDL.out; omega
                have hC : Hid (wd.heap.size ≤ (w2.alloc (.cells #[.int .i64 n] 3)).heap.size) := by have := HKR3.out.size; rw [Hid]; simp; omega
                go_wp2_with (at_builtin; refine wpList_append_own _ rfl _ _ 29 rfl wd.heap.size 3 i0 (.int .i64 0) 1 8 Try.underlying29 hi hz0 hz1 hz2 rfl (by decide) (.slice A11 zs.length c11) zs.length (zs.map (Value.int .i64)) rfl (HO3.out.alloc _) ⟨w2.heap.size, 0, none⟩ 1 1 [.int .i64 n] rfl rfl (cell_one_new _ _ _) (one_int _ _) hA hB hC.out ?_; intro vb wb hob hgb _; have HOB := Lib.hid hob; have HKB := Lib.hid ((HKR3.out.trans (Kept.alloc _ _ _)).grown hgb (fun q hq => own_at HO3.out q hq)); clear hob hgb)
                go_roundw
                case rel => exact ⟨q + 1, by omega, by go_num, by rw [HN.out]; simpa using HOB.out, HKB.out⟩
                case measure => simp [intOf]; omega
              · rw [h2] at HRB HCA
                rw [HRB.out] at HFT
                clear h2
                refine wp_region_after (by kernel_rfl) (by kernel_rfl) ?_
                iterate 6 (go_big_quiet_step (fail))
                go_big_quiet_step (exact Calls.after_b (HCN.out _))
                iterate 7 (go_big_quiet_step (fail))
                go_big_quiet_step (exact Calls.after_b (HCA.out _))
                repeat (go_big_quiet_step (fail))
                refine wpQuiet_nil ?_
                rintro w' ⟨z, rfl⟩
                obtain ⟨w2, hk2⟩ := z
                have HN : Hid ((d.take (q + 1)).filter (refB t h out) = (d.take q).filter (refB t h out)) := by rw [Hid, HFT.out]; simp
                go_wp2_with fail
                go_roundw
                case rel => exact ⟨q + 1, by omega, by go_num, by rw [HN.out]; exact own_keep HO2.out hk2 (by simp), HKR2.out.trans hk2⟩
                case measure => simp [intOf]; omega
          · obtain rfl : q = d.length := by omega
            have HO4 := Lib.hid (by have := HO2.out; rw [List.take_length] at this; exact this)
            rw [List.take_length]
            go_wp2_with fail
            go_meet
            exact ⟨HO4.out, HKR2.out⟩
      case rest =>
        obtain ⟨ho2, hkc⟩ := hcut
        obtain ⟨w7, rfl⟩ : ∃ w7 : World, w7 = wc := ⟨_, rfl⟩
        obtain ⟨A11, c11, rfl⟩ := own_shape ho2
        have HKC := Lib.hid hkc
        obtain ⟨_, hin11, _, _, _⟩ := (IntsC.of_owns ho2).at_
        have HSRC := Lib.hid hin11.src
        have hfl : (d.filter (refB t h out)).length ≤ 5000 := Nat.le_trans (List.length_filter_le _ _) HDL.out
        clear ho2 hkc hin11
        generalize d.filter (refB t h out) = zs at *
        have HO7 := Lib.hid (own_keep HOO.out HKC.out (by simp))
        have HKW7 := Lib.hid (HKWD.out.trans HKC.out)
        have hA : out.length + zs.length ≤ maxLen := by unfold maxLen; omega
        have hB : (out.length + zs.length) * 8 ≤ 140737488355328 := by omega
        have hC : Hid (w1.heap.size ≤ w7.heap.size) := HKW7.out.size
        go_wp2_with (at_builtin; refine wpList_append_src _ rfl _ _ 29 rfl w1.heap.size 3 i0 (.int .i64 0) 1 8 Try.underlying29 hi hz0 hz1 hz2 rfl (by decide) (.slice A7 out.length c7) out.length (out.map (Value.int .i64)) rfl HO7.out A11 zs.length c11 (zs.map (Value.int .i64)) rfl HSRC.out (ints_one _) hA hB hC.out ?_; intro vb wb hob hgb _; have HOB := Lib.hid hob; have HKB := Lib.hid (HKW7.out.grown hgb (fun q hq => own_at HO7.out q hq)); clear hob hgb)
        have HOB2 : Hid (wb.ownsRow w1.heap.size 3 1 vb (dirR t h (allR t name h.after) (rs.take (k + 1))).length ((dirR t h (allR t name h.after) (rs.take (k + 1))).map (Value.int .i64))) := by
          rw [Hid, HDR.out, HNEW.out, List.length_append, List.map_append]
          exact HOB.out
        go_roundw
        case rel => exact ⟨k + 1, by omega, by go_num, HOB2.out, HKB.out⟩
        case measure => simp [intOf]; omega
    · obtain rfl : k = rs.length := by omega
      have HO4 := Lib.hid (by have := HO.out; rw [List.take_length] at this; exact this)
      rw [List.take_length]
      go_wp2_with fail
      go_ret
      exact ⟨_, rfl, own_base HO4.out HKW1.out.size, HKW1.out.trans HKR.out⟩
end Go.Proofs.Ytlgcboaojdhneaa
