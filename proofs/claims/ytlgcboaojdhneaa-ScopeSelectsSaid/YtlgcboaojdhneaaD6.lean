/- The reference's Find. -/
import Derived.Test.YtlgcboaojdhneaaD3
import Derived.Test.YtlgcboaojdhneaaD4
import Derived.Test.YtlgcboaojdhneaaD5
namespace Go.Proofs.Ytlgcboaojdhneaa
open Go.RowKit

theorem candF_mem {t : Tab} {direct : List Int} {p : Int → Prop} : ∀ (d out : List Int), (∀ e, e ∈ out → p e) → (∀ e, e ∈ d → p e) → ∀ e, e ∈ candF t direct out d → p e := by
  intro d
  induction d with
  | nil => intro out ho _ e he; exact ho e he
  | cons x d ih =>
    intro out ho hd e he
    refine ih (candE t direct out x) (fun e he => ?_) (fun e he => hd e (by simp [he])) e he
    unfold candE at he
    split at he
    · rcases List.mem_append.1 he with h | h
      · exact ho e h
      · simp at h; subst h; exact hd e (by simp)
    · exact ho e he
theorem candR_mem {t : Tab} {h : WhV} {name : ByteArray} {direct us : List Int} {e : Int} (he : e ∈ candR t h name direct us) : e ∈ allR t name h.after := by
  have : ∀ (us out : List Int), (∀ e, e ∈ out → e ∈ allR t name h.after) → ∀ e, e ∈ us.foldl (candU t h name direct) out → e ∈ allR t name h.after := by
    intro us
    induction us with
    | nil => intro out ho e he; exact ho e he
    | cons u us ih =>
      intro out ho e he
      refine ih (candU t h name direct out u) (fun e he => ?_) e he
      unfold candU at he
      split at he
      · exact candF_mem _ _ ho (fun e he => (List.mem_filter.1 he).1) e he
      · exact ho e he
  exact this us [] (fun e he => by simp at he) e he

def keepB (t : Tab) (c : List Int) (e : Int) : Bool := !claR t c e
def findRefL (t : Tab) (h : WhV) (name : ByteArray) : List Int :=
  let d := dirR t h (allR t name h.after) (regs t h.region)
  let c := candR t h name d h.uses
  d ++ c.filter (keepB t c)

set_option maxRecDepth 100000 in
set_option maxHeartbeats 4000000 in
theorem findRef_any (w : World) (v : TabV) (t : Tab) (h : WhV) (name : ByteArray) (hT : TabIn w v t) (hH : WhIn w h) (hs : t.ents.length ≤ 5000) (hus : h.uses.length ≤ 100000) :
    Calls Try.prog 22 #[.agg (v.cells t), .agg h.cells.toArray, .string name] w (RetO (sortedR (findRefL t h name)) w) := by
  have HT := Lib.hid hT
  have HH := Lib.hid hH
  have HSZ := Lib.hid hs
  have HUS := Lib.hid hus
  obtain ⟨i0, hi, hz0, hz1, hz2⟩ := info_parts int_info
  have HALL : Hid ((allR t name h.after).length ≤ 5000) := Nat.le_trans (allN_len _ _ _ _) hs
  have HREG : Hid ((regs t h.region).length ≤ 5000) := Nat.le_trans (regs_len _ _) hs
  have HR : Hid (findRefL t h name = dirR t h (allR t name h.after) (regs t h.region) ++ (candR t h name (dirR t h (allR t name h.after) (regs t h.region)) h.uses).filter (keepB t (candR t h name (dirR t h (allR t name h.after) (regs t h.region)) h.uses))) := rfl
  clear hT hH hs hus
  unfold TabV.cells WhV.cells
  go_enter Try.func22, Try.ntmps22
  go_upto_region 1 with (fail)
  refine wp_gen' ?_
  intro w0 hw0
  have HK0 : Hid (Kept [] w w0) := by rw [Hid, hw0]; exact (Kept.alloc _ _ _).trans (Kept.alloc _ _ _)
  have b0 : w0.heap[w.heap.size]? = some (.cells (v.cells t) 28 (0, 0)) := by rw [hw0]; exact obj_old (obj_new rfl) (by simp)
  have b1 : w0.heap[w.heap.size + 1]? = some (.cells h.cells.toArray 31 (0, 0)) := by rw [hw0]; exact obj_new (by simp)
  have HB0 := Lib.hid b0
  have HB1 := Lib.hid b1
  have HZ0 := Lib.hid HK0.out.size
  clear hw0 b0 b1
  have c0 : ∀ W, Kept [] w0 W → ∀ j, W.cell? ⟨w.heap.size, j, none⟩ = (v.cells t)[j]? := fun W hk j => cell_of_row _ _ _ _ _ _ (hk.obj HB0.out (by simp))
  have c1 : ∀ W, Kept [] w0 W → ∀ j, W.cell? ⟨w.heap.size + 1, j, none⟩ = h.cells.toArray[j]? := fun W hk j => cell_of_row _ _ _ _ _ _ (hk.obj HB1.out (by simp))
  have HC0 := Lib.hid c0
  have HC1 := Lib.hid c1
  have v0 : w0.cell? ⟨w.heap.size, 0, none⟩ = some (.slice v.ta t.types.length v.tc) := c0 _ (Kept.refl _ _) 0
  have v1 : w0.cell? ⟨w.heap.size, 1, none⟩ = some (.slice v.sa t.subs.length v.sc) := c0 _ (Kept.refl _ _) 1
  have v2 : w0.cell? ⟨w.heap.size, 2, none⟩ = some (.slice v.ea t.ents.length v.ec) := c0 _ (Kept.refl _ _) 2
  have v3 : w0.cell? ⟨w.heap.size, 3, none⟩ = some (.slice v.ga v.gn v.gc) := c0 _ (Kept.refl _ _) 3
  have v4 : w0.cell? ⟨w.heap.size, 4, none⟩ = some (.slice v.ia v.im v.ic) := c0 _ (Kept.refl _ _) 4
  have u0 : w0.cell? ⟨w.heap.size + 1, 0, none⟩ = some (.int .i64 h.region) := c1 _ (Kept.refl _ _) 0
  have u1 : w0.cell? ⟨w.heap.size + 1, 1, none⟩ = some (.int .i64 h.after) := c1 _ (Kept.refl _ _) 1
  have u2 : w0.cell? ⟨w.heap.size + 1, 2, none⟩ = some (.slice h.ua h.units.length h.uc) := c1 _ (Kept.refl _ _) 2
  have u3 : w0.cell? ⟨w.heap.size + 1, 3, none⟩ = some (.slice h.sa h.uses.length h.sc) := c1 _ (Kept.refl _ _) 3
  have HCD := Lib.hid (directRef_any w0 v t h name (HT.out.kept HK0.out) (HH.out.kept HK0.out) HSZ.out)
  unfold TabV.cells WhV.cells at HCD
  have HDROW : Hid (∀ e, e ∈ dirR t h (allR t name h.after) (regs t h.region) → (rowR t e).isSome = true) := fun e he => allR_row (dirR_mem he)
  have hdl : (dirR t h (allR t name h.after) (regs t h.region)).length ≤ 5000 * 5000 := by
    have h1 := dirR_len (t := t) (h := h) (all := allR t name h.after) (regs t h.region) []
    have h2 : (regs t h.region).length * (allR t name h.after).length ≤ 5000 * 5000 := Nat.mul_le_mul HREG.out HALL.out
    unfold dirR
    simp only [List.length_nil, Nat.zero_add] at h1
    omega
  clear c0 c1
  generalize dirR t h (allR t name h.after) (regs t h.region) = d at *
  go_upto_region 2 with (go_at_call 49; refine HCD.out.mono ?_; rintro e w1 ⟨vd, rfl, hod, hkd⟩; have HOD := Lib.hid hod; have HKD := Lib.hid hkd; clear hod hkd)
  obtain ⟨A7, c7, rfl⟩ := own_shape HOD.out
  obtain ⟨_, hind, h71, h72, _⟩ := (IntsC.of_owns HOD.out).at_
  clear v0 v1 v2 v3 v4 u0 u1 u2 u3 HCD
  have v0 : w1.cell? ⟨w.heap.size, 0, none⟩ = some (.slice v.ta t.types.length v.tc) := HC0.out _ HKD.out 0
  have v1 : w1.cell? ⟨w.heap.size, 1, none⟩ = some (.slice v.sa t.subs.length v.sc) := HC0.out _ HKD.out 1
  have v2 : w1.cell? ⟨w.heap.size, 2, none⟩ = some (.slice v.ea t.ents.length v.ec) := HC0.out _ HKD.out 2
  have v3 : w1.cell? ⟨w.heap.size, 3, none⟩ = some (.slice v.ga v.gn v.gc) := HC0.out _ HKD.out 3
  have v4 : w1.cell? ⟨w.heap.size, 4, none⟩ = some (.slice v.ia v.im v.ic) := HC0.out _ HKD.out 4
  have u0 : w1.cell? ⟨w.heap.size + 1, 0, none⟩ = some (.int .i64 h.region) := HC1.out _ HKD.out 0
  have u1 : w1.cell? ⟨w.heap.size + 1, 1, none⟩ = some (.int .i64 h.after) := HC1.out _ HKD.out 1
  have u2 : w1.cell? ⟨w.heap.size + 1, 2, none⟩ = some (.slice h.ua h.units.length h.uc) := HC1.out _ HKD.out 2
  have u3 : w1.cell? ⟨w.heap.size + 1, 3, none⟩ = some (.slice h.sa h.uses.length h.sc) := HC1.out _ HKD.out 3
  have HCC := Lib.hid (candidates_any w1 v t h name A7 c7 d (HT.out.kept (HK0.out.trans HKD.out)) (HH.out.kept (HK0.out.trans HKD.out)) HSZ.out HUS.out h71 h72 hind)
  unfold TabV.cells WhV.cells at HCC
  have HCROW : Hid (∀ e, e ∈ candR t h name d h.uses → (rowR t e).isSome = true) := fun e he => allR_row (candR_mem he)
  have hcl : (candR t h name d h.uses).length ≤ 100000 * 5000 := by
    have h1 := candR_len t h name d 5000 HSZ.out h.uses
    have := HUS.out
    omega
  clear hind
  generalize candR t h name d h.uses = c at *
  go_upto_region 3 with (go_at_call 50; refine HCC.out.mono ?_; rintro e w2 ⟨vc, rfl, hoc, hkc⟩; have HOC := Lib.hid hoc; have HKC := Lib.hid hkc; clear hoc hkc)
  obtain ⟨A8, c8, rfl⟩ := own_shape HOC.out
  obtain ⟨_, hinc, h81, h82, _⟩ := (IntsC.of_owns HOC.out).at_
  have HINC := Lib.hid hinc
  have HOD2 := Lib.hid (own_keep HOD.out HKC.out (by simp))
  have HK2 := Lib.hid (HKD.out.trans HKC.out)
  have HAP : Hid (∀ b o, A8 = some ⟨b, o, none⟩ → b < w2.heap.size ∧ ∀ q, (Value.slice A7 d.length c7).ownBlock = some q → q ≠ b) := fun b o e => by
    subst e
    refine ⟨(HOC.out.lt b rfl).2, fun q hq => ?_⟩
    have h1 := (HOC.out.lt b rfl).1
    have h2 := (HOD.out.lt q hq).2
    omega
  clear v0 v1 v2 v3 v4 u0 u1 u2 u3 HCC hinc HOD
  go_wp2_with fail
  go_loopw [7, 9] (fun l i wr => ∃ (k : Nat) (zs : List Int), k ≤ c.length ∧ i = .int .i64 k ∧ zs = d ++ (c.take k).filter (keepB t c) ∧ wr.ownsRow w0.heap.size 3 1 l zs.length (zs.map (Value.int .i64)) ∧ IntsIn wr A8 c ∧ (∀ b o, A8 = some ⟨b, o, none⟩ → b < wr.heap.size ∧ ∀ q, l.ownBlock = some q → q ≠ b) ∧ Kept [] w0 wr) (fun _ i _ => c.length - (intOf i).toNat)
  case atStart => exact ⟨0, d, Nat.zero_le _, rfl, by simp, HOD2.out, HINC.out, HAP.out, HK2.out⟩
  case round =>
    obtain ⟨k, zs, hk, rfl, hzs, ho, hin8, hap, hkr⟩ := hrel
    obtain ⟨A7', c7', rfl⟩ := own_shape ho
    obtain ⟨wi, rfl⟩ : ∃ wi : World, wi = wr := ⟨_, rfl⟩
    have HO := Lib.hid ho
    have HZS := Lib.hid hzs
    have HIN8 := Lib.hid hin8
    have HAP2 := Lib.hid hap
    have HKR := Lib.hid hkr
    have hzl : zs.length ≤ 5000 * 5000 + 100000 * 5000 := by
      rw [hzs, List.length_append]
      have h1 := List.length_filter_le (keepB t c) (c.take k)
      have h2 : (c.take k).length ≤ c.length := by rw [List.length_take]; omega
      omega
    clear ho hzs hin8 hap hkr
    by_cases hlt : k < c.length
    · obtain ⟨e, he⟩ : ∃ e, c[k]? = some e := ⟨_, List.getElem?_eq_getElem hlt⟩
      obtain ⟨n, x, rfl, hx, hxe⟩ := row_at (HCROW.out e (List.mem_of_getElem? he))
      have HFT := Lib.hid (filter_take (p := keepB t c) he)
      have HKB2 : Hid (keepB t c (n : Int) = !claR t c n) := rfl
      rcases HIN8.out with hn | ⟨b8, o8, hA8, hc8⟩
      · rw [hn] at hlt; simp at hlt
      have q8 := hc8 k _ he
      subst hA8
      have HQ8 := Lib.hid q8
      have j1 : (0 : Int) ≤ (k : Int) := by omega
      have j2 : (k : Int) < (c.length : Int) := by omega
      have v0 : ∀ z : After wi, z.1.cell? ⟨w.heap.size, 0, none⟩ = some (.slice v.ta t.types.length v.tc) := After.cell (HC0.out _ HKR.out 0)
      have v1 : ∀ z : After wi, z.1.cell? ⟨w.heap.size, 1, none⟩ = some (.slice v.sa t.subs.length v.sc) := After.cell (HC0.out _ HKR.out 1)
      have v2 : ∀ z : After wi, z.1.cell? ⟨w.heap.size, 2, none⟩ = some (.slice v.ea t.ents.length v.ec) := After.cell (HC0.out _ HKR.out 2)
      have v3 : ∀ z : After wi, z.1.cell? ⟨w.heap.size, 3, none⟩ = some (.slice v.ga v.gn v.gc) := After.cell (HC0.out _ HKR.out 3)
      have v4 : ∀ z : After wi, z.1.cell? ⟨w.heap.size, 4, none⟩ = some (.slice v.ia v.im v.ic) := After.cell (HC0.out _ HKR.out 4)
      have g8 := After.cell q8
      have HCL : Hid (∀ z : After wi, Calls Try.prog 51 #[.agg #[.slice v.ta t.types.length v.tc, .slice v.sa t.subs.length v.sc, .slice v.ea t.ents.length v.ec, .slice v.ga v.gn v.gc, .slice v.ia v.im v.ic], .slice (some ⟨b8, o8, none⟩) c.length c8, .int .i64 n] z.1 (RetB (claR t c n) z.1)) := fun z => clash_any z.1 v t _ c8 c n x (HT.out.kept (HK0.out.trans (HKR.out.trans z.2))) h81 h82 (HIN8.out.kept z.2) hx HCROW.out
      clear he hx hxe hc8 q8
      go_upto_region 6 with (fail)
      cases h1 : claR t c (n : Int)
      · rw [h1] at HCL HKB2
        rw [HKB2.out] at HFT
        clear h1
        refine wp_region_after (by kernel_rfl) (by kernel_rfl) ?_
        repeat (go_big_quiet_step (exact Calls.after_b (HCL.out _)))
        refine wpQuiet_nil ?_
        rintro w' ⟨z, rfl⟩
        obtain ⟨w3, hk3⟩ := z
        have HKR3 := Lib.hid (HKR.out.trans hk3)
        have HO3 := Lib.hid (own_keep HO.out hk3 (by simp))
        have HIN3 := Lib.hid (HIN8.out.kept hk3)
        have HS3 := Lib.hid hk3.size
        have cq := hk3.cell HQ8.out (by simp)
        have HN : Hid (d ++ (c.take (k + 1)).filter (keepB t c) = zs ++ [(n : Int)]) := by rw [Hid, HFT.out, HZS.out]; simp
        clear v0 v1 v2 v3 v4 g8 HCL HQ8
        change Exit.then _ _ _ _ w3
        have hA : zs.length + 1 ≤ maxLen := by unfold maxLen; omega
        have hB : (zs.length + 1) * 8 ≤ 140737488355328 := by omega
        have hC : Hid (w0.heap.size ≤ (w3.alloc (.cells #[.int .i64 n] 3)).heap.size) := by have := HKR3.out.size; rw [Hid]; simp; omega
        have hsrc : Hid (SrcAt (w3.alloc (.cells #[.int .i64 n] 3)) 1 (some ⟨w3.heap.size, 0, none⟩) 1 [.int .i64 n]) := ⟨rfl, fun _ => ⟨_, rfl, cell_one_new _ _ _⟩⟩
        go_wp2_with (at_builtin; refine wpList_append_src _ rfl _ _ 29 rfl w0.heap.size 3 i0 (.int .i64 0) 1 8 Try.underlying29 hi hz0 hz1 hz2 rfl (by decide) (.slice A7' zs.length c7') zs.length (zs.map (Value.int .i64)) rfl (HO3.out.alloc _) (some ⟨w3.heap.size, 0, none⟩) 1 1 [.int .i64 n] rfl hsrc.out (one_int _ _) hA hB hC.out ?_; intro vb wb hob hgb hbb; have HOB := Lib.hid hob; have HGB := Lib.hid hgb; have HBB := Lib.hid hbb; clear hob hgb hbb)
        have HKB3 : Hid (Kept [] w0 wb) := (HKR3.out.trans (Kept.alloc _ _ _)).grown HGB.out (fun q hq => own_at HO3.out q hq)
        have HI5 : Hid (IntsIn wb (some ⟨b8, o8, none⟩) c) := by
          rcases HIN3.out.kept (Kept.alloc _ _ (.cells #[.int .i64 n] 3)) with h0 | ⟨b', o', e, hc⟩
          · exact .inl h0
          · refine .inr ⟨b', o', e, fun j y hy => ?_⟩
            have h1 := hc j y hy
            have h2 := (HAP2.out b' o' e).2
            exact (World.cell?_of_block (HGB.out.block b' (World.block_lt_of_cell? _ _ h1) (fun e2 => h2 b' e2.symm rfl))).trans h1
        have HAP5 : Hid (∀ b o, some (⟨b8, o8, none⟩ : Addr) = some ⟨b, o, none⟩ → b < wb.heap.size ∧ ∀ q, vb.ownBlock = some q → q ≠ b) := fun b o e => by
          obtain ⟨h1, h2⟩ := HAP2.out b o e
          have h3 := HS3.out
          have h4 := HGB.out.size
          have h5 : w3.heap.size ≤ (w3.alloc (.cells #[.int .i64 n] 3)).heap.size := by simp
          refine ⟨by omega, fun q hq => ?_⟩
          rcases HBB.out with h | h
          · rw [h] at hq; exact h2 q hq
          · rw [h] at hq; injection hq with hq; omega
        go_roundw
        case rel => exact ⟨k + 1, zs ++ [(n : Int)], by omega, by go_num, HN.out.symm, by simpa using HOB.out, HI5.out, HAP5.out, HKB3.out⟩
        case measure => simp [intOf]; omega
      · rw [h1] at HCL HKB2
        rw [HKB2.out] at HFT
        clear h1
        refine wp_region_after (by kernel_rfl) (by kernel_rfl) ?_
        repeat (go_big_quiet_step (exact Calls.after_b (HCL.out _)))
        refine wpQuiet_nil ?_
        rintro w' ⟨z, rfl⟩
        obtain ⟨w3, hk3⟩ := z
        have HN : Hid (d ++ (c.take (k + 1)).filter (keepB t c) = zs) := by rw [Hid, HFT.out, HZS.out]; simp
        have HKR3 := Lib.hid (HKR.out.trans hk3)
        have HO3 := Lib.hid (own_keep HO.out hk3 (by simp))
        have HIN3 := Lib.hid (HIN8.out.kept hk3)
        have HAP5 : Hid (∀ b o, some (⟨b8, o8, none⟩ : Addr) = some ⟨b, o, none⟩ → b < w3.heap.size ∧ ∀ q, (Value.slice A7' zs.length c7').ownBlock = some q → q ≠ b) := fun b o e => ⟨Nat.lt_of_lt_of_le (HAP2.out b o e).1 hk3.size, (HAP2.out b o e).2⟩
        go_wp2_with fail
        go_roundw
        case rel => exact ⟨k + 1, zs, by omega, by go_num, HN.out.symm, HO3.out, HIN3.out, HAP5.out, HKR3.out⟩
        case measure => simp [intOf]; omega
    · obtain rfl : k = c.length := by omega
      have HRZ : Hid (findRefL t h name = zs) := by rw [Hid, HR.out, HZS.out, List.take_length]
      obtain ⟨_, hio, h91, h92, _⟩ := (IntsC.of_owns HO.out).at_
      have HCS := Lib.hid (sorted_any wi A7' c7' zs h91 h92 hio (by omega))
      clear hio
      go_wp2_with (go_at_call 52; refine HCS.out.mono ?_; rintro e w5 ⟨vs, rfl, hos, hks⟩; have HOS := Lib.hid hos; have HKS := Lib.hid hks; clear hos hks)
      go_ret
      exact ⟨_, rfl, by rw [HRZ.out]; exact own_base HOS.out (HK0.out.trans HKR.out).size, HK0.out.trans (HKR.out.trans HKS.out)⟩
end Go.Proofs.Ytlgcboaojdhneaa
