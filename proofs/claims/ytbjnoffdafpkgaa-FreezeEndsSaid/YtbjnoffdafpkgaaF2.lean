/- meet: the closure of freeze. -/
import Derived.Test.YtbjnoffdafpkgaaF1
namespace Go.Proofs.Ytbjnoffdafpkgaa
open Go.RowKit

theorem meet_met (t : Tab) (ok : Int → Bool) (f : Nat) (ty : Int) (met : List Int) (fine : Bool) (h : met.contains ty = true) : meetF t ok (f + 1) ty (met, fine) = (met, fine) := by
  unfold meetF
  simp only [h, if_true]

/-- The search behind the first j parts. -/
def meetTo (t : Tab) (ok : Int → Bool) (f : Nat) (ty : Int) (met : List Int) (fine : Bool) (j : Nat) : List Int × Bool := ((partsT t ty).take j).foldl (fun s p => meetF t ok f p s) (met ++ [ty], fine && ok ty)

theorem meetTo_all (t : Tab) (ok : Int → Bool) (f : Nat) (ty : Int) (met : List Int) (fine : Bool) (h : met.contains ty = false) : meetF t ok (f + 1) ty (met, fine) = meetTo t ok f ty met fine (partsT t ty).length := by
  show (if (met, fine).1.contains ty = true then (met, fine) else _) = _
  rw [if_neg (by simp only [h]; decide)]
  unfold meetTo
  rw [List.take_length]
theorem meetTo_succ (t : Tab) (ok : Int → Bool) (f : Nat) (ty : Int) (met : List Int) (fine : Bool) (j : Nat) (p : Int) (h : (partsT t ty)[j]? = some p) : meetTo t ok f ty met fine (j + 1) = meetF t ok f p (meetTo t ok f ty met fine j) := by
  obtain ⟨hj, rfl⟩ := List.getElem?_eq_some_iff.1 h
  unfold meetTo
  rw [List.take_succ_eq_append_getElem hj, List.foldl_append]
  rfl
theorem meetTo_inv {t : Tab} (ok : Int → Bool) (f : Nat) {ty : Int} {met : List Int} (fine : Bool) (hty : exI t.types.length ty = true) (hm : MInv t met) (hc : met.contains ty = false) : ∀ j, MInv t (meetTo t ok f ty met fine j).1 ∧ met.length + 1 ≤ (meetTo t ok f ty met fine j).1.length := by
  intro j
  induction j with
  | zero => exact ⟨by simpa [meetTo] using hm.add hty hc, by simp [meetTo]⟩
  | succ j ih =>
    cases hp : (partsT t ty)[j]? with
    | none =>
      have : (partsT t ty).take (j + 1) = (partsT t ty).take j := by
        rw [List.getElem?_eq_none_iff] at hp
        rw [List.take_of_length_le (by omega), List.take_of_length_le (by omega)]
      unfold meetTo at *
      rw [this]
      exact ih
    | some p =>
      rw [meetTo_succ t ok f ty met fine j p hp]
      have hp' : p ∈ partsT t ty := List.mem_of_getElem? hp
      have h1 := meetF_inv t ok f p (meetTo t ok f ty met fine j) (mem_partsT hp').1 ih.1
      exact ⟨h1.1, Nat.le_trans ih.2 h1.2⟩

theorem Try.info28 (v : TabV) (t : Tab) : (Try.prog.info? 28).map (·.size) = some (v.cells t).toList.length := by
  show _ = some 5
  kernel_rfl

set_option maxRecDepth 100000 in
set_option maxHeartbeats 1000000 in
theorem meet_any (v : TabV) (t : Tab) (B S dB cB fB kB Mp Fp Sp Rp mB nd nc : Nat) (dec com : Int → Option Bool) (hn : t.types.length ≤ 1000) : ∀ (f : Nat) (ty : Int) (met : List Int) (fine : Bool) (w : World),
    MEnv v t B S dB cB fB kB Mp Fp Sp Rp mB nd nc dec com w → BM w mB met.length (memM met) → w.heap[Fp]? = some (.cells #[.bool fine] 4 (0, 0)) → exI t.types.length ty = true → MInv t met → t.types.length < f + met.length →
    Calls Try.prog 61 #[.int .i64 ty, .pointer (some ⟨Mp, 0, none⟩), .pointer (some ⟨Fp, 0, none⟩), .pointer (some ⟨Sp, 0, none⟩), .pointer (some ⟨Rp, 0, none⟩)] w (MPost Fp mB (meetF t (okM dec com) f ty (met, fine)) w) := by
  intro f
  induction f with
  | zero => intro ty met fine w _ _ _ _ hm hf; have := hm.length_le; omega
  | succ f ih =>
    intro ty met fine w hE hM hF hty hm hf
    have IH := Lib.hid ih
    clear ih
    have hwf := wf_of_exI hn hty
    have hml := hm.length_le
    have hlk := bm_lookup hM hwf
    have hmp := hE.mp
    cases hc : met.contains ty
    · have hlk' : (memM met ty).getD false = false := by simp only [memM, hc]; rfl
      rw [hlk'] at hlk
      have HX := Lib.hid (meetTo_all t (okM dec com) f ty met fine hc)
      obtain ⟨w1, hup, hM1, hg1, hz1⟩ := bm_update hM (by unfold maxLen; omega) hwf true
      have hk1 : Kept [mB, Fp] w w1 := Kept.of_grown hg1 (fun q hq _ => by injection hq with hq; simp [hq])
      have HE1 := Lib.hid (hE.kept hk1)
      have hF1 : w1.heap[Fp]? = some (.cells #[.bool fine] 4 (0, 0)) := (hg1.block Fp (Array.getElem?_eq_some_iff.1 hF).1 (fun e => by injection e with e; exact hE.n6 e.symm)).trans hF
      have HM1 : Hid (BM w1 mB (met ++ [ty]).length (memM (met ++ [ty]))) := by
        rw [Hid, ← memM_add]; simpa using hM1
      have HK1 := Lib.hid hk1
      have HF1 := Lib.hid hF1
      have HTY := Lib.hid hty
      have HM := Lib.hid hm
      have HC := Lib.hid hc
      have HE := Lib.hid hE
      clear hM hF hE hM1 hg1 hk1 hlk' hc hty hm
      have hfc := cell_of_one hF1
      have hff := free_of_one hF1
      have s1 := HE1.out.sp
      have s2 := HE1.out.st.dec
      have s3 := HE1.out.st.com
      have s4 := bm_lookup HE1.out.decl hwf
      have s5 := bm_lookup HE1.out.comp hwf
      clear hF1
      have HOK : Hid (okM dec com ty = (!(dec ty).getD false || (com ty).getD false)) := rfl
      generalize hd : (dec ty).getD false = d at *
      generalize hcm : (com ty).getD false = c at *
      clear hd hcm
      go_enter Try.func61, Try.ntmps61
      go_upto_region 2 with (fail)
      go_cut [] (fun wc => BM wc mB (met ++ [ty]).length (memM (met ++ [ty])) ∧ wc.heap[Fp]? = some (.cells #[.bool (fine && okM dec com ty)] 4 (0, 0)) ∧ Kept [mB, Fp] w wc)
      case first =>
        have hfin : ∀ x : Bool, BM (w1.setCell ⟨Fp, 0, none⟩ (.bool x)) mB (met ++ [ty]).length (memM (met ++ [ty])) ∧ (w1.setCell ⟨Fp, 0, none⟩ (.bool x)).heap[Fp]? = some (.cells #[.bool x] 4 (0, 0)) ∧ Kept [mB, Fp] w (w1.setCell ⟨Fp, 0, none⟩ (.bool x)) := fun x =>
          ⟨HM1.out.block (Below.heap_setCell _ _ _ _ HE1.out.n6), one_setCell HF1.out, HK1.out.trans (Kept.setCell _ _ _ (by simp))⟩
        have HFIN := Lib.hid hfin
        clear hfin
        cases fine
        · have HO : Hid ((false && okM dec com ty) = false) := rfl
          go_wp2_with fail
          go_meet
          rw [HO.out]
          exact HFIN.out _
        · cases d
          · have HO : Hid ((true && okM dec com ty) = true) := by rw [Hid, HOK.out]; rfl
            go_wp2_with fail
            go_meet
            rw [HO.out]
            exact HFIN.out _
          · cases c
            · have HO : Hid ((true && okM dec com ty) = false) := by rw [Hid, HOK.out]; rfl
              go_wp2_with fail
              go_meet
              rw [HO.out]
              exact HFIN.out _
            · have HO : Hid ((true && okM dec com ty) = true) := by rw [Hid, HOK.out]; rfl
              go_wp2_with fail
              go_meet
              rw [HO.out]
              exact HFIN.out _
      case rest =>
        obtain ⟨hM2, hF2, hk2⟩ := hcut
        have HE2 : Hid (MEnv v t B S dB cB fB kB Mp Fp Sp Rp mB nd nc dec com wc) := HE.out.kept hk2
        have HM2 := Lib.hid hM2
        have HF2 := Lib.hid hF2
        have HK2 := Lib.hid hk2
        clear hM2 hF2 hk2 hfc hff s1 s2 s3 s4 s5 hup hlk hmp
        have s1 := HE2.out.sp
        have HR := Lib.hid HE2.out.st.tab
        go_wp2_with (refine wpList_load_mid rfl 28 (.tmp 33) rfl S 0 rfl (v.cells t).toList _ HR.out Try.underlying28 rfl (Try.info28 v t) ?_)
        refine (parts_any wc v t ty HE2.out.tab.tabIn HE2.out.small).mono ?_
        rintro e w3 ⟨v', rfl, ho3, hb3⟩
        have HK3 : Hid (Kept [mB, Fp] w w3) := HK2.out.trans (Kept.of_below hb3)
        have HE3 : Hid (MEnv v t B S dB cB fB kB Mp Fp Sp Rp mB nd nc dec com w3) := HE.out.kept HK3.out
        have HM3 : Hid (BM w3 mB (met ++ [ty]).length (memM (met ++ [ty]))) := HM2.out.block (hb3.block _ HM2.out.lt)
        have HF3 : Hid (w3.heap[Fp]? = some (.cells #[.bool (fine && okM dec com ty)] 4 (0, 0))) := (hb3.block _ (Array.getElem?_eq_some_iff.1 HF2.out).1).trans HF2.out
        have hmlt := HM2.out.lt
        have hflt := (Array.getElem?_eq_some_iff.1 HF2.out).1
        have hsp := owns_split ho3
        clear ho3 hb3 s1
        rcases hsp with ⟨hnil, a, c3, rfl⟩ | ⟨g, c3, rfl, hg1, hg2, hle, hcell⟩
        · have HN := Lib.hid hnil
          clear hnil
          go_wp2_with fail
          go_loopw [38] (fun i wr => i = .int .i64 0 ∧ wr = w3) (fun _ _ => 0)
          case atStart => exact ⟨rfl, rfl⟩
          case round =>
            obtain ⟨rfl, rfl⟩ := hrel
            go_wp2_with fail
            go_end0
            rw [HX.out, HN.out]
            exact ⟨rfl, HM3.out, HF3.out, HK3.out⟩
        · have HCELL := Lib.hid hcell
          have hgx : g ∉ [mB, Fp] := by simp; omega
          have HGX := Lib.hid hgx
          clear hcell hgx
          go_wp2_with fail
          go_loopw [38] (fun i wr => ∃ j : Nat, j ≤ (partsT t ty).length ∧ i = .int .i64 j ∧ BM wr mB (meetTo t (okM dec com) f ty met fine j).1.length (memM (meetTo t (okM dec com) f ty met fine j).1) ∧ wr.heap[Fp]? = some (.cells #[.bool (meetTo t (okM dec com) f ty met fine j).2] 4 (0, 0)) ∧ Kept [mB, Fp] w3 wr) (fun i _ => (partsT t ty).length - (intOf i).toNat)
          case atStart => exact ⟨0, Nat.zero_le _, rfl, HM3.out, HF3.out, Kept.refl _ _⟩
          case round =>
            obtain ⟨j, hj, rfl, hMj, hFj, hKj⟩ := hrel
            have HMj := Lib.hid hMj
            have HFj := Lib.hid hFj
            have HKj := Lib.hid hKj
            clear hMj hFj hKj
            by_cases hlt : j < (partsT t ty).length
            · obtain ⟨p, hp⟩ : ∃ p, (partsT t ty)[j]? = some p := ⟨_, List.getElem?_eq_getElem hlt⟩
              have hcp := HKj.out.cell (HCELL.out j p hp) HGX.out
              have hrp := (HE3.out.kept HKj.out).rp
              have HP := Lib.hid hp
              have hinv := meetTo_inv (t := t) (okM dec com) f fine HTY.out HM.out HC.out j
              have HINV := Lib.hid hinv
              clear hp hinv
              go_wp2_with fail
              refine (IH.out p _ _ wr (HE3.out.kept HKj.out) HMj.out HFj.out (mem_partsT (List.mem_of_getElem? HP.out)).1 HINV.out.1 (by have := HINV.out.2; omega)).mono ?_
              rintro e w4 ⟨rfl, hM4, hF4, hK4⟩
              have HM4 := Lib.hid hM4
              have HF4 := Lib.hid hF4
              have HK4 := Lib.hid hK4
              clear hM4 hF4 hK4 hcp hrp
              go_wp2_with fail
              go_roundw
              case rel => exact ⟨j + 1, by omega, by go_num, by rw [meetTo_succ _ _ _ _ _ _ _ _ HP.out]; exact HM4.out, by rw [meetTo_succ _ _ _ _ _ _ _ _ HP.out]; exact HF4.out, HKj.out.trans HK4.out⟩
              case measure => simp [intOf]; omega
            · have hje : j = (partsT t ty).length := by omega
              have HJ := Lib.hid hje
              clear hje
              go_wp2_with fail
              go_end0
              rw [HX.out, ← HJ.out]
              exact ⟨rfl, HMj.out, HFj.out, HK3.out.trans HKj.out⟩
    · have hlk' : (memM met ty).getD false = true := by simp only [memM, hc]; rfl
      rw [hlk'] at hlk
      have HX := Lib.hid (meet_met t (okM dec com) f ty met fine hc)
      have HM := Lib.hid hM
      have HF := Lib.hid hF
      have HE := Lib.hid hE
      clear hM hF hE hlk' hc hm
      go_enter Try.func61, Try.ntmps61
      go_wp2_with fail
      go_end0
      rw [HX.out]
      exact ⟨rfl, HM.out, HF.out, Kept.refl _ _⟩
#print axioms meet_any
end Go.Proofs.Ytbjnoffdafpkgaa
