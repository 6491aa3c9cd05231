/- The reference's candidates. The reference's clash. -/
import Derived.Test.YtlgcboaojdhneaaD1
import Derived.Test.YtlgcboaojdhneaaB15
import Derived.Test.YtlgcboaojdhneaaK4
import Derived.BigRegion
import Derived.Deep.RegionWith
namespace Go.Proofs.Ytlgcboaojdhneaa
open Go.RowKit

def candB (t : Tab) (direct out : List Int) (e : Int) : Bool := (((rowE t e).part == 0 && !hasI out e) && !hasI direct e) && !anyR t direct e
def candE (t : Tab) (direct out : List Int) (e : Int) : List Int := if candB t direct out e then out ++ [e] else out
def candF (t : Tab) (direct out d : List Int) : List Int := d.foldl (candE t direct) out
def candU (t : Tab) (h : WhV) (name : ByteArray) (direct out : List Int) (u : Int) : List Int := if wantU t u then candF t direct out (declR t name h.after (baseR t u)) else out
def candR (t : Tab) (h : WhV) (name : ByteArray) (direct us : List Int) : List Int := us.foldl (candU t h name direct) []
theorem candF_snoc (t : Tab) (direct out d : List Int) (e : Int) : candF t direct out (d ++ [e]) = candE t direct (candF t direct out d) e := by simp [candF]
theorem candR_snoc (t : Tab) (h : WhV) (name : ByteArray) (direct us : List Int) (u : Int) : candR t h name direct (us ++ [u]) = candU t h name direct (candR t h name direct us) u := by simp [candR]
theorem candF_len (t : Tab) (direct : List Int) : ∀ (d out : List Int), (candF t direct out d).length ≤ out.length + d.length := by
  intro d
  induction d with
  | nil => intro out; simp [candF]
  | cons e d ih =>
    intro out
    have h1 := ih (candE t direct out e)
    have h2 : (candE t direct out e).length ≤ out.length + 1 := by
      unfold candE
      split <;> simp
    unfold candF at h1 ⊢
    rw [List.foldl_cons, List.length_cons]
    omega
theorem candR_len (t : Tab) (h : WhV) (name : ByteArray) (direct : List Int) (m : Nat) (hm : t.ents.length ≤ m) : ∀ (us : List Int), (candR t h name direct us).length ≤ us.length * m := by
  suffices hh : ∀ (us out : List Int), (us.foldl (candU t h name direct) out).length ≤ out.length + us.length * m by
    intro us
    have := hh us []
    simpa [candR] using this
  intro us
  induction us with
  | nil => intro out; simp
  | cons u us ih =>
    intro out
    have h1 := ih (candU t h name direct out u)
    have h2 : (candU t h name direct out u).length ≤ out.length + m := by
      unfold candU
      split
      · exact Nat.le_trans (candF_len _ _ _ _) (by have := declR_len t name h.after (baseR t u); omega)
      · omega
    rw [List.foldl_cons, List.length_cons, Nat.succ_mul]
    omega
theorem take_snoc {α : Type} {xs : List α} {k : Nat} {x : α} (hx : xs[k]? = some x) : xs.take (k + 1) = xs.take k ++ [x] := by
  obtain ⟨hk', e⟩ := List.getElem?_eq_some_iff.1 hx
  rw [List.take_succ_eq_append_getElem hk', e]

set_option maxRecDepth 100000 in
set_option maxHeartbeats 4000000 in
theorem candidates_any (w : World) (v : TabV) (t : Tab) (h : WhV) (name : ByteArray) (A3 : Option Addr) (c3 : Nat) (direct : List Int) (hT : TabIn w v t) (hH : WhIn w h) (hs : t.ents.length ≤ 5000) (hus : h.uses.length ≤ 100000)
    (hd1 : direct.length ≤ c3) (hd2 : c3 ≤ 9223372036854775807) (hID : IntsIn w A3 direct) :
    Calls Try.prog 50 #[.agg (v.cells t), .agg h.cells.toArray, .string name, .slice A3 direct.length c3] w (RetO (candR t h name direct h.uses) w) := by
  have HT := Lib.hid hT
  have HH := Lib.hid hH
  have HSZ := Lib.hid hs
  have HUS := Lib.hid hus
  have HID := Lib.hid hID
  have q1 := hT.el
  have q2 := hT.em
  have hs1 := hH.s1
  have hs2 := hH.s2
  obtain ⟨i0, hi, hz0, hz1, hz2⟩ := info_parts int_info
  clear hT hH hs hus hID
  unfold TabV.cells WhV.cells
  go_enter Try.func50, Try.ntmps50
  go_upto_region 1 with (fail)
  refine wp_gen' ?_
  intro w0 hw0
  have HK0 : Hid (Kept [] w w0) := by rw [Hid, hw0]; exact (Kept.alloc _ _ _).trans (Kept.alloc _ _ _)
  have b0 : w0.heap[w.heap.size]? = some (.cells (v.cells t) 28 (0, 0)) := by rw [hw0]; exact obj_old (obj_new rfl) (by simp)
  have b1 : w0.heap[w.heap.size + 1]? = some (.cells h.cells.toArray 31 (0, 0)) := by rw [hw0]; exact obj_new (by simp)
  have HB0 := Lib.hid b0
  have HB1 := Lib.hid b1
  have HZ0 := Lib.hid HK0.out.size
  clear hw0 b0 b1
  have c0 : ∀ W, Kept [] w0 W → ∀ j, W.cell? ⟨w.heap.size, j, none⟩ = (v.cells t)[j]? := fun W hk j => cell_of_row _ _ _ _ _ _ (hk.obj HB0.out (by simp))
  have c1 : ∀ W, Kept [] w0 W → ∀ j, W.cell? ⟨w.heap.size + 1, j, none⟩ = h.cells.toArray[j]? := fun W hk j => cell_of_row _ _ _ _ _ _ (hk.obj HB1.out (by simp))
  have HC0 := Lib.hid c0
  have HC1 := Lib.hid c1
  clear c0 c1
  go_wp2_with fail
  go_loopw [9, 10] (fun l i wr => ∃ k : Nat, k ≤ h.uses.length ∧ i = .int .i64 k ∧ wr.ownsRow w0.heap.size 3 1 l (candR t h name direct (h.uses.take k)).length ((candR t h name direct (h.uses.take k)).map (Value.int .i64)) ∧ Kept [] w0 wr) (fun _ i _ => h.uses.length - (intOf i).toNat)
  case atStart => exact ⟨0, Nat.zero_le _, rfl, World.ownsRow_nil _ _ _ _, Kept.refl _ _⟩
  case round =>
    obtain ⟨k, hk, rfl, ho, hkr⟩ := hrel
    obtain ⟨A9, c9, rfl⟩ := own_shape ho
    obtain ⟨wo, rfl⟩ : ∃ wo : World, wo = wr := ⟨_, rfl⟩
    have HO := Lib.hid ho
    have HKR := Lib.hid hkr
    clear ho hkr
    have v0 : wo.cell? ⟨w.heap.size, 0, none⟩ = some (.slice v.ta t.types.length v.tc) := HC0.out _ HKR.out 0
    have v1 : wo.cell? ⟨w.heap.size, 1, none⟩ = some (.slice v.sa t.subs.length v.sc) := HC0.out _ HKR.out 1
    have v2 : wo.cell? ⟨w.heap.size, 2, none⟩ = some (.slice v.ea t.ents.length v.ec) := HC0.out _ HKR.out 2
    have v3 : wo.cell? ⟨w.heap.size, 3, none⟩ = some (.slice v.ga v.gn v.gc) := HC0.out _ HKR.out 3
    have v4 : wo.cell? ⟨w.heap.size, 4, none⟩ = some (.slice v.ia v.im v.ic) := HC0.out _ HKR.out 4
    have u3 : wo.cell? ⟨w.heap.size + 1, 3, none⟩ = some (.slice h.sa h.uses.length h.sc) := HC1.out _ HKR.out 3
    by_cases hlt : k < h.uses.length
    · obtain ⟨u, hu⟩ : ∃ u, h.uses[k]? = some u := ⟨_, List.getElem?_eq_getElem hlt⟩
      have HCR : Hid (candR t h name direct (h.uses.take (k + 1)) = candU t h name direct (candR t h name direct (h.uses.take k)) u) := by rw [Hid, take_snoc hu, candR_snoc]
      have hcl := candR_len t h name direct 5000 HSZ.out (h.uses.take k)
      have hcl2 : (h.uses.take k).length ≤ 100000 := by rw [List.length_take]; have := HUS.out; omega
      rcases HH.out.s with hn | ⟨bs, os, hsa, hcs⟩
      · rw [hn] at hlt; simp at hlt
      have qu : wo.cell? ⟨bs, os + k, none⟩ = some (.int .i64 u) := (HK0.out.trans HKR.out).cell (hcs k u hu) (by simp)
      have HSA := Lib.hid hsa
      rw [hsa] at u3
      have j1 : (0 : Int) ≤ (k : Int) := by omega
      have j2 : (k : Int) < (h.uses.length : Int) := by omega
      have HCB := Lib.hid (baseRef_any wo.drew v t u (HT.out.kept (HK0.out.trans (HKR.out.trans (Kept.drew _ _)))))
      unfold TabV.cells at HCB
      clear hu hcs hsa
      go_upto_region 5 with (fail)
      go_still_tail 6, (by kernel_rfl)
      change wpList _ _ _ _ _ wo.drew
      go_upto_region 6 with (go_at_call 36; refine HCB.out.mono ?_; rintro e wb ⟨rfl, hkb⟩; have HKB := Lib.hid (HKR.out.trans ((Kept.drew [] wo).trans hkb)); have HOB := Lib.hid (own_keep HO.out ((Kept.drew [] wo).trans hkb) (by simp)); clear hkb)
      clear v0 v1 v2 v3 v4 u3 qu HCB j1 j2
      have v2 : wb.cell? ⟨w.heap.size, 2, none⟩ = some (.slice v.ea t.ents.length v.ec) := HC0.out _ HKB.out 2
      rcases baseR_row t u with hb | ⟨n, x, hb, hx, hxe⟩
      · have HE : Hid (candU t h name direct (candR t h name direct (h.uses.take k)) u = candR t h name direct (h.uses.take k)) := by rw [Hid, candU, wantU, hb]; simp
        rw [hb]
        clear hb
        go_wp2_with fail
        go_roundw
        case rel => exact ⟨k + 1, by omega, by go_num, by rw [HCR.out, HE.out]; exact HOB.out, HKB.out⟩
        case measure => simp [intOf]; omega
      · have hnl := (List.getElem?_eq_some_iff.1 hx).1
        obtain ⟨b, o, hea, hr⟩ := (HT.out.kept (HK0.out.trans HKB.out)).es.some_ hx
        have n0 : wb.cell? ⟨b, o + n * 22, none⟩ = some (.int .u8 x.kind) := hr n x hx 0 _ rfl
        have HEA := Lib.hid hea
        have HW : Hid (wantU t u = (x.kind == 2)) := by rw [Hid, wantU, hxe, hb]; simp
        rw [hea] at v2
        have HBU := Lib.hid hb
        rw [hb]
        have j3 : (0 : Int) ≤ (n : Int) := by omega
        have j4 : (n : Int) < (t.ents.length : Int) := by omega
        clear hb hx hxe hr hea
        cases hkd : (x.kind == 2)
        · have HE : Hid (candU t h name direct (candR t h name direct (h.uses.take k)) u = candR t h name direct (h.uses.take k)) := by rw [Hid, candU, HW.out, hkd]; simp
          have hkd' : (x.kind != 2) = true := by simp [bne, hkd]
          clear hkd
          go_wp2_with fail
          go_roundw
          case rel => exact ⟨k + 1, by omega, by go_num, by rw [HCR.out, HE.out]; exact HOB.out, HKB.out⟩
          case measure => simp [intOf]; omega
        · have HE : Hid (candU t h name direct (candR t h name direct (h.uses.take k)) u = candF t direct (candR t h name direct (h.uses.take k)) (declR t name h.after n)) := by rw [Hid, candU, HW.out, hkd, HBU.out]; simp
          have hkd' : (x.kind != 2) = false := by simp [bne, hkd]
          clear hkd
          have HCD := Lib.hid (declared_any wb v t h n name (HT.out.kept (HK0.out.trans HKB.out)) (by have := HSZ.out; omega))
          have HRV : Hid (∀ W, Kept [] w0 W → W.rangeAt w.heap.size 0 (v.cells t).toList) := fun W hk => tab_range (hk.obj HB0.out (by simp))
          have HRH : Hid (∀ W, Kept [] w0 W → W.rangeAt (w.heap.size + 1) 0 h.cells) := fun W hk j u hu => by
            rw [Nat.zero_add, HC1.out W hk j]
            simpa using hu
          have HROWD : Hid (∀ e, e ∈ declR t name h.after n → (rowR t e).isSome = true) := fun e he => declR_row he
          have HDL : Hid ((declR t name h.after n).length ≤ 5000) := Nat.le_trans (declR_len _ _ _ _) HSZ.out
          have hinfo31 : Hid ((Try.prog.info? 31).map (·.size) = some h.cells.length) := by rw [Hid]; show _ = some 4; kernel_rfl
          generalize declR t name h.after n = d at *
          generalize hout : candR t h name direct (h.uses.take k) = out at *
          clear hout
          go_upto_region 8 with (first
            | (refine wpList_load_mid rfl 28 (.tmp 4) rfl w.heap.size 0 rfl _ _ (HRV.out _ HKB.out) Try.underlying28 rfl Try.size28 ?_)
            | (refine wpList_load_mid rfl 31 (.tmp 5) rfl (w.heap.size + 1) 0 rfl h.cells _ (HRH.out _ HKB.out) Try.underlying31 rfl hinfo31.out ?_)
            | (go_at_call 53; refine HCD.out.mono ?_; rintro e wd ⟨vd, rfl, hod, hkd⟩; have HOD := Lib.hid hod; have HKD := Lib.hid hkd; clear hkd hod; obtain ⟨A12, c12, rfl⟩ := own_shape HOD.out; obtain ⟨_, hin12, h121, h122, _⟩ := (IntsC.of_owns HOD.out).at_; have HIND := Lib.hid hin12; clear hin12))
          have HKWD := Lib.hid (HKB.out.trans HKD.out)
          have HOO := Lib.hid (own_keep HOB.out HKD.out (by simp))
          have HAP : Hid (∀ b o, A12 = some ⟨b, o, none⟩ → ∀ q, (Value.slice A9 out.length c9).ownBlock = some q → q ≠ b) := fun b o e q hq => by
            subst e
            have h1 := (HOD.out.lt b rfl).1
            have h2 := (HOB.out.lt q hq).2
            omega
          clear HCD HOB v2 n0
          obtain ⟨m0, hm0⟩ : ∃ m0, out.length = m0 := ⟨_, rfl⟩
          have HM0 := Lib.hid hm0
          clear hm0
          go_wp2_with fail
          go_loopw [9, 13] (fun l i wr => ∃ (k : Nat) (zs : List Int), k ≤ d.length ∧ i = .int .i64 k ∧ zs = candF t direct out (d.take k) ∧ wr.ownsRow w0.heap.size 3 1 l zs.length (zs.map (Value.int .i64)) ∧ IntsIn wr A12 d ∧ (∀ b o, A12 = some ⟨b, o, none⟩ → b < wr.heap.size ∧ ∀ q, l.ownBlock = some q → q ≠ b) ∧ Kept [] w0 wr) (fun _ i _ => d.length - (intOf i).toNat)
          case atStart => exact ⟨0, _, Nat.zero_le _, rfl, rfl, HOO.out, HIND.out, fun b o e => ⟨by subst e; exact (HOD.out.lt b rfl).2, HAP.out b o e⟩, HKWD.out⟩
          case round =>
            obtain ⟨q, zs, hq, rfl, hzs, ho, hind, hap, hkr⟩ := hrel
            obtain ⟨A9', c9', rfl⟩ := own_shape ho
            obtain ⟨wi, rfl⟩ : ∃ wi : World, wi = wr := ⟨_, rfl⟩
            have HO2 := Lib.hid ho
            have HKR2 := Lib.hid hkr
            have HZS := Lib.hid hzs
            have HIND2 := Lib.hid hind
            have HAP2 := Lib.hid hap
            have hzl : zs.length ≤ 1000000000 := by
              have := candF_len t direct (d.take q) out
              rw [← hzs] at this
              have h2 : (d.take q).length ≤ 5000 := by rw [List.length_take]; have := HDL.out; omega
              omega
            clear ho hkr hzs hind hap
            by_cases hlq : q < d.length
            · obtain ⟨e, he⟩ : ∃ e, d[q]? = some e := ⟨_, List.getElem?_eq_getElem hlq⟩
              obtain ⟨n1, y, rfl, hy, hye⟩ := row_at (HROWD.out e (List.mem_of_getElem? he))
              have hyl := (List.getElem?_eq_some_iff.1 hy).1
              have HZN : Hid (candF t direct out (d.take (q + 1)) = candE t direct zs n1) := by rw [Hid, take_snoc he, candF_snoc, ← HZS.out]
              have HCB2 : Hid (candB t direct zs (n1 : Int) = (((y.part == 0 && !hasI zs n1) && !hasI direct n1) && !anyR t direct n1)) := by rw [Hid, candB, hye]
              rcases HIND2.out with hn | ⟨b12, o12, hA12, hc12⟩
              · rw [hn] at hlq; simp at hlq
              have q12 := hc12 q _ he
              subst hA12
              have j1 : (0 : Int) ≤ (q : Int) := by omega
              have j2 : (q : Int) < (d.length : Int) := by omega
              have j5 : (0 : Int) ≤ (n1 : Int) := by omega
              have j6 : (n1 : Int) < (t.ents.length : Int) := by omega
              obtain ⟨by', oy, hea, hr⟩ := (HT.out.kept (HK0.out.trans HKR2.out)).es.some_ hy
              rw [HEA.out] at hea
              injection hea with hea
              injection hea with hb1 hb2
              subst hb1 hb2
              have n3 : wi.cell? ⟨b, o + n1 * 22 + 3, none⟩ = some (.int .u8 y.part) := hr n1 y hy 3 _ rfl
              have v2 : wi.cell? ⟨w.heap.size, 2, none⟩ = some (.slice v.ea t.ents.length v.ec) := HC0.out _ HKR2.out 2
              rw [HEA.out] at v2
              obtain ⟨_, hio, ho91, ho92, _⟩ := (IntsC.of_owns HO2.out).at_
              have HCO : Hid (Calls Try.prog 15 #[.slice A9' zs.length c9', .int .i64 n1] wi (RetB (hasI zs n1) wi)) := in_any wi A9' c9' zs n1 ho91 ho92 hio
              have HCDI : Hid (∀ W, Kept [] wi W → Calls Try.prog 15 #[.slice A3 direct.length c3, .int .i64 n1] W (RetB (hasI direct n1) W)) := fun W hk => in_any W A3 c3 direct n1 hd1 hd2 (HID.out.kept (HK0.out.trans (HKR2.out.trans hk)))
              have HCA : Hid (∀ W, Kept [] wi W → Calls Try.prog 80 #[.agg (v.cells t), .slice A3 direct.length c3, .int .i64 n1] W (RetB (anyR t direct n1) W)) := fun W hk => any_any W v t A3 c3 direct n1 (HT.out.kept (HK0.out.trans (HKR2.out.trans hk))) hd1 hd2 (HID.out.kept (HK0.out.trans (HKR2.out.trans hk)))
              have HNO : Hid (candB t direct zs n1 = false → candF t direct out (d.take (q + 1)) = zs) := fun hf => by rw [HZN.out, candE, hf]; simp
              clear he hy hye hr hio hc12
              go_upto_region 12 with (fail)
              cases h1 : (y.part == 0)
              · rw [h1] at HCB2
                have HN := Lib.hid (HNO.out HCB2.out)
                clear HNO
                go_wp2_with fail
                go_roundw
                case rel => exact ⟨q + 1, zs, by omega, by go_num, HN.out.symm, HO2.out, HIND2.out, HAP2.out, HKR2.out⟩
                case measure => simp [intOf]; omega
              · rw [h1] at HCB2
                cases h2 : hasI zs (n1 : Int)
                · rw [h2] at HCB2 HCO
                  cases h3 : hasI direct (n1 : Int)
                  · rw [h3] at HCB2 HCDI
                    cases h4 : anyR t direct (n1 : Int)
                    · rw [h4] at HCB2 HCA
                      have HN : Hid (candF t direct out (d.take (q + 1)) = zs ++ [(n1 : Int)]) := by rw [Hid, HZN.out, candE, HCB2.out]; rfl
                      have hA : zs.length + 1 ≤ maxLen := by unfold maxLen; omega
                      have hB : (zs.length + 1) * 8 ≤ 140737488355328 := by omega
                      have HC4 : Hid (∀ W, Kept [] wi W → w0.heap.size ≤ (W.alloc (.cells #[.int .i64 n1] 3)).heap.size) := fun W hk => by have h1 := HKR2.out.size; have h2 := hk.size; simp; omega
                      clear HNO
                      go_wp2_with fail
                      refine HCO.out.mono ?_
                      rintro e w2 ⟨rfl, hk2⟩
                      have HK2 := Lib.hid hk2
                      clear hk2
                      go_wp2_with fail
                      refine (HCDI.out _ HK2.out).mono ?_
                      rintro e w3 ⟨rfl, hk3⟩
                      have HK3 := Lib.hid (HK2.out.trans hk3)
                      clear hk3
                      go_upto_region 13 with (first
                        | (refine wpList_load_g 28 (.tmp 4) rfl rfl w.heap.size 0 rfl _ _ (HRV.out _ (HKR2.out.trans HK3.out)) Try.underlying28 rfl Try.size28 ?_)
                        | (go_at_call 80; refine (HCA.out _ HK3.out).mono ?_; rintro e w4 ⟨rfl, hk4⟩; have HK4 := Lib.hid (HK3.out.trans hk4); clear hk4))
                      have HO4 := Lib.hid (own_keep HO2.out HK4.out (by simp))
                      have HC5 := Lib.hid (HC4.out w4 HK4.out)
                      clear v2 n3 HCO HCDI HCA HC4 j1 j2 j5 j6
                      have hsrc : Hid (SrcAt (w4.alloc (.cells #[.int .i64 n1] 3)) 1 (some ⟨w4.heap.size, 0, none⟩) 1 [.int .i64 n1]) := ⟨rfl, fun _ => ⟨_, rfl, cell_one_new _ _ _⟩⟩
                      go_wp2_with (at_builtin; refine wpList_append_src _ rfl _ _ 29 rfl w0.heap.size 3 i0 (.int .i64 0) 1 8 Try.underlying29 hi hz0 hz1 hz2 rfl (by decide) (.slice A9' zs.length c9') zs.length (zs.map (Value.int .i64)) rfl (HO4.out.alloc _) (some ⟨w4.heap.size, 0, none⟩) 1 1 [.int .i64 n1] rfl hsrc.out (one_int _ _) hA hB HC5.out ?_; intro vb wb hob hgb hbb; have HOB := Lib.hid hob; have HGB := Lib.hid hgb; have HBB := Lib.hid hbb; clear hob hgb hbb)
                      have hk5 : Kept [] wi (w4.alloc (.cells #[.int .i64 n1] 3)) := HK4.out.trans (Kept.alloc _ _ _)
                      have HKB2 : Hid (Kept [] w0 wb) := (HKR2.out.trans hk5).grown HGB.out (fun q hq => own_at HO2.out q hq)
                      have HI5 : Hid (IntsIn wb (some ⟨b12, o12, none⟩) d) := by
                        rcases HIND2.out.kept hk5 with h0 | ⟨b', o', e, hc⟩
                        · exact .inl h0
                        · refine .inr ⟨b', o', e, fun j x hx => ?_⟩
                          have h1 := hc j x hx
                          have h2 := (HAP2.out b' o' e).2
                          exact (World.cell?_of_block (HGB.out.block b' (World.block_lt_of_cell? _ _ h1) (fun e2 => h2 b' e2.symm rfl))).trans h1
                      have HAP5 : Hid (∀ b o, some (⟨b12, o12, none⟩ : Addr) = some ⟨b, o, none⟩ → b < wb.heap.size ∧ ∀ q, vb.ownBlock = some q → q ≠ b) := fun b o e => by
                        obtain ⟨h1, h2⟩ := HAP2.out b o e
                        have h3 := hk5.size
                        have h4 := HGB.out.size
                        refine ⟨by omega, fun q hq => ?_⟩
                        rcases HBB.out with h | h
                        · rw [h] at hq; exact h2 q hq
                        · rw [h] at hq; injection hq with hq; omega
                      go_roundw
                      case rel => exact ⟨q + 1, zs ++ [(n1 : Int)], by omega, by go_num, HN.out.symm, by simpa using HOB.out, HI5.out, HAP5.out, HKB2.out⟩
                      case measure => simp [intOf]; omega
                    · rw [h4] at HCB2 HCA
                      have HN := Lib.hid (HNO.out HCB2.out)
                      clear HNO
                      go_wp2_with fail
                      refine HCO.out.mono ?_
                      rintro e w2 ⟨rfl, hk2⟩
                      have HK2 := Lib.hid hk2
                      clear hk2
                      go_wp2_with fail
                      refine (HCDI.out _ HK2.out).mono ?_
                      rintro e w3 ⟨rfl, hk3⟩
                      have HK3 := Lib.hid (HK2.out.trans hk3)
                      clear hk3
                      go_wp2_with (first
                        | (refine wpList_load_g 28 (.tmp 4) rfl rfl w.heap.size 0 rfl _ _ (HRV.out _ (HKR2.out.trans HK3.out)) Try.underlying28 rfl Try.size28 ?_)
                        | (go_at_call 80; refine (HCA.out _ HK3.out).mono ?_; rintro e w4 ⟨rfl, hk4⟩; have HK4 := Lib.hid (HK3.out.trans hk4); clear hk4))
                      go_roundw
                      case rel => exact ⟨q + 1, zs, by omega, by go_num, HN.out.symm, own_keep HO2.out HK4.out (by simp), HIND2.out.kept HK4.out, fun b o e => ⟨Nat.lt_of_lt_of_le (HAP2.out b o e).1 HK4.out.size, (HAP2.out b o e).2⟩, HKR2.out.trans HK4.out⟩
                      case measure => simp [intOf]; omega
                  · rw [h3] at HCB2 HCDI
                    have HN := Lib.hid (HNO.out HCB2.out)
                    clear HNO
                    go_wp2_with fail
                    refine HCO.out.mono ?_
                    rintro e w2 ⟨rfl, hk2⟩
                    have HK2 := Lib.hid hk2
                    clear hk2
                    go_wp2_with fail
                    refine (HCDI.out _ HK2.out).mono ?_
                    rintro e w3 ⟨rfl, hk3⟩
                    have HK3 := Lib.hid (HK2.out.trans hk3)
                    clear hk3
                    go_wp2_with fail
                    go_roundw
                    case rel => exact ⟨q + 1, zs, by omega, by go_num, HN.out.symm, own_keep HO2.out HK3.out (by simp), HIND2.out.kept HK3.out, fun b o e => ⟨Nat.lt_of_lt_of_le (HAP2.out b o e).1 HK3.out.size, (HAP2.out b o e).2⟩, HKR2.out.trans HK3.out⟩
                    case measure => simp [intOf]; omega
                · rw [h2] at HCB2 HCO
                  have HN := Lib.hid (HNO.out HCB2.out)
                  clear HNO
                  go_wp2_with fail
                  refine HCO.out.mono ?_
                  rintro e w2 ⟨rfl, hk2⟩
                  have HK2 := Lib.hid hk2
                  clear hk2
                  go_wp2_with fail
                  go_roundw
                  case rel => exact ⟨q + 1, zs, by omega, by go_num, HN.out.symm, own_keep HO2.out HK2.out (by simp), HIND2.out.kept HK2.out, fun b o e => ⟨Nat.lt_of_lt_of_le (HAP2.out b o e).1 HK2.out.size, (HAP2.out b o e).2⟩, HKR2.out.trans HK2.out⟩
                  case measure => simp [intOf]; omega
            · obtain rfl : q = d.length := by omega
              have HN : Hid (candR t h name direct (h.uses.take (k + 1)) = zs) := by
                rw [Hid, HCR.out, HE.out, HZS.out, List.take_length]
              go_wp2_with fail
              go_roundw
              case rel => exact ⟨k + 1, by omega, by go_num, by rw [HN.out]; exact HO2.out, HKR2.out⟩
              case measure => simp [intOf]; omega
    · obtain rfl : k = h.uses.length := by omega
      have HO4 := HO
      rw [List.take_length] at HO4
      rw [List.take_length]
      go_wp2_with fail
      go_ret
      exact ⟨_, rfl, own_base HO4.out HZ0.out, HK0.out.trans HKR.out⟩
end Go.Proofs.Ytlgcboaojdhneaa
namespace Go.Proofs.Ytlgcboaojdhneaa
open Go.RowKit Go.Shelf

/-- Does y, at a, hide x, at e? -/
def claB (t : Tab) (e a : Int) : Bool := ((a != e && ((rowE t a).owner != (rowE t e).owner)) && homR t (rowE t e) (rowE t a)) && (!ovl (rowE t e) || !ovl (rowE t a))
def claR (t : Tab) (l : List Int) (e : Int) : Bool := l.any (claB t e)

set_option maxRecDepth 100000 in
set_option maxHeartbeats 4000000 in
theorem clash_any (w : World) (v : TabV) (t : Tab) (a : Option Addr) (c : Nat) (xs : List Int) (n : Nat) (x : EntV) (hT : TabIn w v t) (hc : xs.length ≤ c) (hm : c ≤ 9223372036854775807) (hI : IntsIn w a xs) (hx : t.ents[n]? = some x) (hl : ∀ e, e ∈ xs → (rowR t e).isSome = true) :
    Calls Try.prog 51 #[.agg (v.cells t), .slice a xs.length c, .int .i64 n] w (RetB (claR t xs n) w) := by
  have HT := Lib.hid hT
  have HI := Lib.hid hI
  have HL := Lib.hid hl
  have q1 := hT.el
  have q2 := hT.em
  have hnl := (List.getElem?_eq_some_iff.1 hx).1
  have hxe := (row_some hx).2
  have HR : Hid (claR t xs n = xs.any (claB t n)) := rfl
  have HEX := Lib.hid (hT.ent (List.mem_of_getElem? hx))
  obtain ⟨b, o, hea, hr⟩ := hT.es.some_ hx
  have HROW := Lib.hid (hr n x hx)
  have HEA := Lib.hid hea
  have HRS := Lib.hid hr
  have HXE := Lib.hid hxe
  clear hT hI hl hx hr hea hxe
  unfold TabV.cells
  go_enter Try.func51, Try.ntmps51
  go_upto_region 1 with (fail)
  refine wp_gen' ?_
  intro w0 hw0
  have HK0 : Hid (Kept [] w w0) := by rw [Hid, hw0]; exact Kept.alloc _ _ _
  have b0 : w0.heap[w.heap.size]? = some (.cells (v.cells t) 28 (0, 0)) := by rw [hw0]; exact obj_new rfl
  have HB0 := Lib.hid b0
  have e2 : w0.cell? ⟨w.heap.size, 2, none⟩ = some (.slice v.ea t.ents.length v.ec) := (cell_of_row _ _ _ _ _ _ b0).trans rfl
  rw [HEA.out] at e2
  have HROW0 : Hid (w0.rangeAt b (o + n * 22) x.cells) := fun j u hu => HK0.out.cell (HROW.out j u hu) (by simp)
  have j1 : (0 : Int) ≤ (n : Int) := by omega
  have j2 : (n : Int) < (t.ents.length : Int) := by omega
  clear hw0 b0
  go_upto_region 2 with (refine wpList_load_mid rfl 43 (.tmp 13) rfl b (o + n * 22) rfl x.cells _ HROW0.out Try.underlying43 rfl (Try.info43 x) ?_)
  refine wp_gen' ?_
  intro w1 hw1
  have hk1 : Kept [] w0 w1 := by rw [hw1]; exact Kept.alloc _ _ _
  have bx1 : w1.heap[w0.heap.size]? = some (.cells x.cells.toArray 43 (0, 0)) := by rw [hw1]; exact heap_alloc_new _ _
  have HK1 := Lib.hid (HK0.out.trans hk1)
  have HBX := Lib.hid bx1
  have HBV := Lib.hid (hk1.obj HB0.out (by simp))
  generalize w0.heap.size = X at *
  clear hw1 hk1 bx1 e2 j1 j2
  go_wp2_with fail
  go_loopw [8] (fun i wr => ∃ k : Nat, k ≤ xs.length ∧ i = .int .i64 k ∧ (xs.take k).any (claB t n) = false ∧ Kept [] w1 wr) (fun i _ => xs.length - (intOf i).toNat)
  case atStart => exact ⟨0, Nat.zero_le _, rfl, rfl, Kept.refl _ _⟩
  case round =>
    obtain ⟨k, hk, rfl, hn, hkr⟩ := hrel
    have HN := Lib.hid hn
    have HK := Lib.hid hkr
    clear hn hkr
    obtain ⟨wo, rfl⟩ : ∃ wo : World, wo = wr := ⟨_, rfl⟩
    by_cases hlt : k < xs.length
    · obtain ⟨e, he⟩ : ∃ e, xs[k]? = some e := ⟨_, List.getElem?_eq_getElem hlt⟩
      obtain ⟨m, y, rfl, hy, hye⟩ := row_at (HL.out e (List.mem_of_getElem? he))
      have hyl := (List.getElem?_eq_some_iff.1 hy).1
      have HS : Hid ((xs.take (k + 1)).any (claB t n) = claB t n m) := any_take he HN.out
      have HA : Hid (claB t n m = true → xs.any (claB t n) = true) := fun h => List.any_eq_true.2 ⟨_, List.mem_of_getElem? he, h⟩
      have HCB : Hid (claB t n m = ((((m : Int) != (n : Int) && (y.owner != x.owner)) && homR t x y) && (!ovl x || !ovl y))) := by rw [Hid, claB, HXE.out, hye]
      have HEY := Lib.hid (HT.out.ent (List.mem_of_getElem? hy))
      rcases HI.out with h0 | ⟨bi, oi, rfl, hcx⟩
      · rw [h0] at hlt; simp at hlt
      · have qx := (HK1.out.trans HK.out).cell (hcx k _ he) (by simp)
        have HQX := Lib.hid qx
        have HRY : Hid (∀ W, Kept [] wo W → W.rangeAt b (o + m * 22) y.cells) := fun W hk j u hu => (HK1.out.trans (HK.out.trans hk)).cell (HRS.out m y hy j u hu) (by simp)
        have e2 : wo.cell? ⟨w.heap.size, 2, none⟩ = some (.slice v.ea t.ents.length v.ec) := (cell_of_row _ _ _ _ _ _ (HK.out.obj HBV.out (by simp))).trans rfl
        rw [HEA.out] at e2
        have j1 : (0 : Int) ≤ (k : Int) := by omega
        have j2 : (k : Int) < (xs.length : Int) := by omega
        have j3 : (0 : Int) ≤ (m : Int) := by omega
        have j4 : (m : Int) < (t.ents.length : Int) := by omega
        clear he hy hye hcx
        go_upto_region 5 with (fail)
        haveI : EntAt wo b (o + m * 22) y := ⟨HRY.out _ (Kept.refl _ _)⟩
        have qxa : ∀ ob, (wo.alloc ob).cell? ⟨bi, oi + k, none⟩ = some (.int .i64 m) := fun ob => (Kept.alloc [] wo ob).cell qx (by simp)
        have e2a : ∀ ob, (wo.alloc ob).cell? ⟨w.heap.size, 2, none⟩ = some (.slice (some ⟨b, o, none⟩) t.ents.length v.ec) := fun ob => (Kept.alloc [] wo ob).cell e2 (by simp)
        go_region
        go_upto_region 6 with (fail)
        refine wp_gen' ?_
        intro w2 hw2
        have hk2 : Kept [] wo w2 := by rw [hw2]; exact (Kept.alloc _ _ _).trans (Kept.drew _ _)
        have by2 : w2.heap[wo.heap.size]? = some (.cells y.cells.toArray 43 (0, 0)) := by rw [hw2]; exact heap_alloc_new _ _
        have HK2 := Lib.hid (HK.out.trans hk2)
        have qx2 := hk2.cell qx (by simp)
        have y2 := ent_cell (x := y) by2 2 rfl
        have x2 := ent_cell (x := x) (HK2.out.obj HBX.out (by simp)) 2 rfl
        haveI ix : EntAt w2 X 0 x := ⟨EntV.range (HK2.out.obj HBX.out (by simp))⟩
        haveI iy : EntAt w2 wo.heap.size 0 y := ⟨EntV.range by2⟩
        have HIX := Lib.hid ix
        have HIY := Lib.hid iy
        have c0 : ∀ j, w2.cell? ⟨w.heap.size, j, none⟩ = (v.cells t)[j]? := fun j => cell_of_row _ _ _ _ _ _ (HK2.out.obj HBV.out (by simp))
        have v0 : w2.cell? ⟨w.heap.size, 0, none⟩ = some (.slice v.ta t.types.length v.tc) := c0 0
        have v1 : w2.cell? ⟨w.heap.size, 1, none⟩ = some (.slice v.sa t.subs.length v.sc) := c0 1
        have v2 : w2.cell? ⟨w.heap.size, 2, none⟩ = some (.slice v.ea t.ents.length v.ec) := c0 2
        have v3 : w2.cell? ⟨w.heap.size, 3, none⟩ = some (.slice v.ga v.gn v.gc) := c0 3
        have v4 : w2.cell? ⟨w.heap.size, 4, none⟩ = some (.slice v.ia v.im v.ic) := c0 4
        have HT2 := Lib.hid (HT.out.kept (HK1.out.trans HK2.out))
        have HEX2 := Lib.hid (HEX.out.kept (HK1.out.trans HK2.out))
        have HEY2 := Lib.hid (HEY.out.kept (HK1.out.trans HK2.out))
        clear hw2 hk2 by2 qx e2 qxa e2a c0
        generalize wo.heap.size = Y at *
        clear ix iy
        have NOREL : Hid (claB t n m = false → (xs.take (k + 1)).any (claB t n) = false) := fun hf => by rw [HS.out, hf]
        cases h1 : ((m : Int) != (n : Int))
        · rw [h1] at HCB
          have HF := Lib.hid (NOREL.out HCB.out)
          go_wp2_with fail
          go_roundw
          case rel => exact ⟨k + 1, by omega, by go_num, HF.out, HK2.out⟩
          case measure => simp [intOf]; omega
        · rw [h1] at HCB
          cases h2 : (y.owner != x.owner)
          · rw [h2] at HCB
            have HF := Lib.hid (NOREL.out HCB.out)
            go_wp2_with fail
            go_roundw
            case rel => exact ⟨k + 1, by omega, by go_num, HF.out, HK2.out⟩
            case measure => simp [intOf]; omega
          · rw [h2] at HCB
            have HCH : Hid (Calls Try.prog 57 #[.agg #[.slice v.ta t.types.length v.tc, .slice v.sa t.subs.length v.sc, .slice v.ea t.ents.length v.ec, .slice v.ga v.gn v.gc, .slice v.ia v.im v.ic], .agg x.cells.toArray, .agg y.cells.toArray] w2 (RetB (homR t x y) w2)) := homographsRef_any w2 v t x y HT2.out HEX2.out HEY2.out
            cases h3 : homR t x y
            · rw [h3] at HCB HCH
              have HF := Lib.hid (NOREL.out HCB.out)
              haveI := HIX.out
              haveI := HIY.out
              go_wp2_with (first
                | (go_at_call 57; refine HCH.out.mono ?_; rintro e w3 ⟨rfl, hk3⟩; have HK3 := Lib.hid hk3; clear hk3))
              go_roundw
              case rel => exact ⟨k + 1, by omega, by go_num, HF.out, HK2.out.trans HK3.out⟩
              case measure => simp [intOf]; omega
            · rw [h3] at HCB HCH
              cases h4 : ovl x
              · rw [h4] at HCB
                have HA2 := Lib.hid (HA.out (by rw [HCB.out]; rfl))
                haveI := HIX.out
                haveI := HIY.out
                go_wp2_with (first
                  | (go_at_call 57; refine HCH.out.mono ?_; rintro e w3 ⟨rfl, hk3⟩; have HK3 := Lib.hid hk3; haveI := HIX.out.kept hk3; haveI := HIY.out.kept hk3; clear hk3)
                  | (go_at_call 20; refine (ovlRef_any _ x).mono ?_; rw [h4]; rintro e w4 ⟨rfl, hk4⟩; have HK4 := Lib.hid (HK3.out.trans hk4); clear hk4))
                go_ret
                exact ⟨by rw [HR.out, HA2.out]; try rfl, HK1.out.trans (HK2.out.trans HK4.out)⟩
              · rw [h4] at HCB
                cases h5 : ovl y
                · rw [h5] at HCB
                  have HA2 := Lib.hid (HA.out (by rw [HCB.out]; rfl))
                  haveI := HIX.out
                  haveI := HIY.out
                  go_wp2_with (first
                    | (go_at_call 57; refine HCH.out.mono ?_; rintro e w3 ⟨rfl, hk3⟩; have HK3 := Lib.hid hk3; haveI := HIX.out.kept hk3; haveI := HIY.out.kept hk3; clear hk3)
                    | (go_at_call_of 20 x; refine (ovlRef_any _ x).mono ?_; rw [h4]; rintro e w4 ⟨rfl, hk4⟩; have HK4 := Lib.hid (HK3.out.trans hk4); haveI := HIY.out.kept (HK3.out.trans hk4); clear hk4)
                    | (go_at_call_of 20 y; refine (ovlRef_any _ y).mono ?_; rw [h5]; rintro e w5 ⟨rfl, hk5⟩; have HK5 := Lib.hid (HK4.out.trans hk5); clear hk5))
                  go_ret
                  exact ⟨by rw [HR.out, HA2.out]; try rfl, HK1.out.trans (HK2.out.trans HK5.out)⟩
                · rw [h5] at HCB
                  have HF := Lib.hid (NOREL.out HCB.out)
                  haveI := HIX.out
                  haveI := HIY.out
                  go_wp2_with (first
                    | (go_at_call 57; refine HCH.out.mono ?_; rintro e w3 ⟨rfl, hk3⟩; have HK3 := Lib.hid hk3; haveI := HIX.out.kept hk3; haveI := HIY.out.kept hk3; clear hk3)
                    | (go_at_call_of 20 x; refine (ovlRef_any _ x).mono ?_; rw [h4]; rintro e w4 ⟨rfl, hk4⟩; have HK4 := Lib.hid (HK3.out.trans hk4); haveI := HIY.out.kept (HK3.out.trans hk4); clear hk4)
                    | (go_at_call_of 20 y; refine (ovlRef_any _ y).mono ?_; rw [h5]; rintro e w5 ⟨rfl, hk5⟩; have HK5 := Lib.hid (HK4.out.trans hk5); clear hk5))
                  go_roundw
                  case rel => exact ⟨k + 1, by omega, by go_num, HF.out, HK2.out.trans HK5.out⟩
                  case measure => simp [intOf]; omega
    · obtain rfl : k = xs.length := by omega
      have HN2 : Hid (xs.any (claB t n) = false) := (congrArg (fun l : List Int => l.any (claB t n)) (List.take_length (l := xs))).symm.trans HN.out
      clear HN
      go_wp2_with fail
      go_ret
      exact ⟨by rw [HR.out, HN2.out]; try rfl, HK1.out.trans HK.out⟩
end Go.Proofs.Ytlgcboaojdhneaa
