/- The reference's ends. -/
import Derived.Test.YtbjnoffdafpkgaaR5
import Derived.Test.YtbjnoffdafpkgaaQ1
namespace Go.Proofs.Ytbjnoffdafpkgaa
open Go.RowKit

theorem freezeR_dec (t : Tab) (r : RS) (x : Int) : (freezeR t r x).1.dec = r.dec := by unfold freezeR; split <;> rfl
def foldF (t : Tab) (l : List Int) (r : RS) : RS := l.foldl (fun s x => (freezeR t s x).1) r
theorem foldF_dec (t : Tab) : ∀ (l : List Int) (r : RS), (foldF t l r).dec = r.dec := by
  intro l
  induction l with
  | nil => intro r; rfl
  | cons x l ih => intro r; exact (ih _).trans (freezeR_dec t r x)
theorem foldF_succ (t : Tab) (l : List Int) (r : RS) {j : Nat} {x : Int} (h : l[j]? = some x) : foldF t (l.take (j + 1)) r = (freezeR t (foldF t (l.take j) r) x).1 := by
  obtain ⟨h1, rfl⟩ := List.getElem?_eq_some_iff.1 h
  unfold foldF
  rw [List.take_succ_eq_append_getElem h1, List.foldl_append]; rfl
theorem foldF_inv {t : Tab} : ∀ (l : List Int) (r : RS), RInv t r → (∀ x, x ∈ l → exI t.types.length x = true) → RInv t (foldF t l r) := by
  intro l
  induction l with
  | nil => intro r h _; exact h
  | cons x l ih => intro r h hl; exact ih _ (freezeR_grows h (hl x (by simp))).1 (fun y hy => hl y (by simp [hy]))
theorem RInv.frz_len {t : Tab} {r : RS} (h : RInv t r) : r.frz.length ≤ t.types.length := range_len (asc_nodup h.asc) h.ex

theorem Kept.trans0 {a b c : World} (h : Kept [] a b) {B : Nat} (k : Kept [B] b c) (hB : a.heap.size ≤ B) : Kept [] a c :=
  ((h.mono (by simp)).trans k).mono' (fun x hx hl => by simp at hx; omega)
theorem IntsC.at_ {w : World} {a : Option Addr} {n c : Nat} {xs : List Int} (h : IntsC w (.slice a n c) xs) : xs = [] ∨ ∃ b off, a = some ⟨b, off, none⟩ ∧ ∀ (j : Nat) (x : Int), xs[j]? = some x → w.cell? ⟨b, off + j, none⟩ = some (.int .i64 x) := by
  obtain ⟨a', c', e, _, _, _, h⟩ := h
  injection e with e1 e2 e3
  subst e1
  exact h
theorem SRow.set4 {w : World} {B : Nat} {s s0 : StV} {r r0 : RS} (h : SRow w B s0 r0) : SRow (stored4 w B s r) B s r := stored4_row h

/-- The state in the box while the declared types are frozen. -/
def EInv (t : Tab) (r : RS) (B : Nat) (w5 : World) (j : Nat) (wr : World) : Prop :=
  ∃ s : StV, SRow wr B s (foldF t (r.dec.take j) r) ∧ StIn wr s (foldF t (r.dec.take j) r) ∧ Kept [B] w5 wr

def lateC (last : Bool) (c : Int × Int × Bool) : Bool := last && !c.2.2
theorem endsR_no1 {t : Tab} {r : RS} {last : Bool} {x : Int} (hm : x ∈ r.dec) (hb : hasI r.com x = false) : endsR t r last = (r, false) := by
  have : (r.dec.any fun x => !r.com.contains x) = true := List.any_eq_true.2 ⟨x, hm, by simpa [hasI] using hb⟩
  unfold endsR
  rw [if_pos this]
theorem endsR_no2 {t : Tab} {r : RS} {last : Bool} {c : Int × Int × Bool} (h1 : r.dec.any (fun x => !hasI r.com x) = false) (hm : c ∈ r.con) (hb : lateC last c = true) : endsR t r last = (r, false) := by
  have h1' : (r.dec.any fun x => !r.com.contains x) = false := h1
  have : (r.con.any fun c => last && !c.2.2) = true := List.any_eq_true.2 ⟨c, hm, hb⟩
  unfold endsR
  rw [if_neg (by rw [h1']; simp), if_pos this]
theorem endsR_yes {t : Tab} {r : RS} {last : Bool} (h1 : r.dec.any (fun x => !hasI r.com x) = false) (h2 : r.con.any (lateC last) = false) : endsR t r last = (foldF t r.dec r, true) := by
  have h1' : (r.dec.any fun x => !r.com.contains x) = false := h1
  have h2' : (r.con.any fun c => last && !c.2.2) = false := h2
  unfold endsR
  rw [if_neg (by rw [h1']; simp), if_neg (by rw [h2']; simp)]
  rfl

theorem any_take_succ {α : Type} (l : List α) (p : α → Bool) {j : Nat} {x : α} (h : l[j]? = some x) : (l.take (j + 1)).any p = ((l.take j).any p || p x) := by
  obtain ⟨h1, rfl⟩ := List.getElem?_eq_some_iff.1 h
  rw [List.take_succ_eq_append_getElem h1, List.any_append]; simp

set_option maxRecDepth 100000 in
set_option maxHeartbeats 1000000 in
theorem refEnds_any (w : World) (s : StV) (r : RS) (v : TabV) (t : Tab) (last : Bool) (hS : StIn w s r) (hT : TabIn w v t) (hs : Small t) (hN : t.types.length ≤ 1000) (hI : RInv t r) (hL : r.dec.length ≤ 1000000) (hL2 : r.con.length ≤ 1000000) :
    Calls Try.prog 45 #[.agg (s.cells r), .agg (v.cells t), .bool last] w (RetS (endsR t r last) w) := by
  have HT := Lib.hid hT
  have HS := Lib.hid hs
  have HSI := Lib.hid hS
  have HI := Lib.hid hI
  clear hT hs hS hI
  have HSC : Hid (s.cells r = #[.slice s.dA r.dec.length s.dC, .slice s.mA r.com.length s.mC, .slice s.fA r.frz.length s.fC, .slice s.kA r.con.length s.kC]) := rfl
  rw [HSC.out]
  unfold TabV.cells
  go_enter Try.func45, Try.ntmps45
  go_upto_region 1 with (fail)
  refine wp_gen ?_
  intro w3 hw3
  have hk3 : Kept [] w w3 := by rw [hw3]; exact ((Kept.alloc _ _ _).trans (Kept.alloc _ _ _)).trans (Kept.alloc _ _ _)
  have HTB : Hid (TBox v t (w.heap.size + 1) w3) := TBox.of_block (by rw [hw3]; exact obj_old (obj_new (by simp)) (by simp)) (HT.out.kept (hk3.toBelow (Nat.le_refl _) (by simp)))
  have HSR : Hid (SRow w3 w.heap.size s r) := by
    rw [Hid, SRow, hw3]; exact obj_old (obj_old (heap_alloc_new _ _) (by simp)) (by simp; omega)
  have HRR : Hid (ZRow w3 (w.heap.size + 1 + 1)) := by
    rw [Hid, ZRow, SRow, hw3]; exact obj_new (by simp)
  have HSI3 := Lib.hid (HSI.out.kept hk3)
  have HK3 := Lib.hid hk3
  clear hk3 hw3 HSI
  go_upto_block 0 with (fail)
  go_cut [] (fun wc => r.dec.any (fun x => !hasI r.com x) = false ∧ Kept [] w3 wc)
  case first =>
    rcases (show r.dec = [] ∨ ∃ b9 o9, s.dA = some ⟨b9, o9, none⟩ ∧ ∀ (j : Nat) (x : Int), r.dec[j]? = some x → w3.cell? ⟨b9, o9 + j, none⟩ = some (.int .i64 x) from HSI3.out.dec.at_) with hnil | ⟨b9, o9, hA, hcl⟩
    · have hl0 : r.dec.length ≤ 0 := by rw [hnil]; simp
      have HF : Hid (r.dec.any (fun x => !hasI r.com x) = false) := by rw [Hid, hnil]; rfl
      have g0 := HSR.out.c0
      clear hnil
      go_wp2_with fail
      go_loopw [8] (fun i wr => i = .int .i64 0 ∧ wr = w3) (fun _ _ => 0)
      case atStart => exact ⟨rfl, rfl⟩
      case round =>
        obtain ⟨rfl, rfl⟩ := hrel
        go_wp2_with fail
        go_meet
        exact ⟨HF.out, Kept.refl _ _⟩
    · have HCL := Lib.hid hcl
      clear hcl
      go_wp2_with fail
      go_loopw [8] (fun i wr => ∃ j : Nat, j ≤ r.dec.length ∧ i = .int .i64 j ∧ (r.dec.take j).any (fun x => !hasI r.com x) = false ∧ Kept [] w3 wr) (fun i _ => r.dec.length - (intOf i).toNat)
      case atStart => exact ⟨0, Nat.zero_le _, rfl, rfl, Kept.refl _ _⟩
      case round =>
        obtain ⟨j, hj, rfl, hno, hkr⟩ := hrel
        have HNO := Lib.hid hno
        have HKR := Lib.hid hkr
        have g0 := (HSR.out.kept hkr (by simp)).c0
        rw [hA] at g0
        clear hno hkr
        by_cases hlt : j < r.dec.length
        · obtain ⟨x, hx⟩ : ∃ x, r.dec[j]? = some x := ⟨_, List.getElem?_eq_getElem hlt⟩
          have HAN := Lib.hid (any_take_succ r.dec (fun x => !hasI r.com x) hx)
          have HMX := Lib.hid (List.mem_of_getElem? hx)
          have q := HKR.out.cell (HCL.out j x hx) (by simp)
          have g1 := (HSR.out.kept HKR.out (by simp)).c1
          have HSIr := Lib.hid (HSI3.out.kept HKR.out)
          clear hx
          cases hm : hasI r.com x
          · have HM := Lib.hid hm
            have HRES := Lib.hid (endsR_no1 (t := t) (last := last) HMX.out hm)
            have hrr := HRR.out.kept HKR.out (by simp)
            have hsr := HSR.out.kept HKR.out (by simp)
            have g2 := hsr.c2
            have g3 := hsr.c3
            obtain ⟨⟨e0, e1, e2, e3⟩, z0, z1, z2, z3⟩ := hrr.z
            clear hrr hsr hm
            go_upto_region 4 with (fail)
            go_quiet ((go_at_call 43; exact has_q HSIr.out.com HM.out))
            go_wp2_with fail
            refine bodyPost_ret (v := .tuple #[.agg #[.slice (some ⟨b9, o9, none⟩) r.dec.length s.dC, .slice s.mA r.com.length s.mC, .slice s.fA r.frz.length s.fC, .slice s.kA r.con.length s.kC], .bool false]) (by simp [results, Try.results45, go_sem, e0, e1, e2, e3]) rfl ?_
            have hfin := st_end (w := w) (HRR.out.kept HKR.out (by simp)) (by omega) HSIr.out (HK3.out.trans HKR.out) (w2 := stored4 (wr.drewN nq) (w.heap.size + 1 + 1) s r) ((Kept.drewN _ _ _).trans (stored4_kept _ _ _ _))
            rw [HRES.out, ← hA]
            exact ⟨s, rfl, hfin.1, hfin.2⟩
          · have HM := Lib.hid hm
            clear hm
            go_upto_region 4 with (fail)
            go_quiet ((go_at_call 43; exact has_q HSIr.out.com HM.out))
            go_wp2_with fail
            go_roundw
            case rel => exact ⟨j + 1, by omega, by go_num, by rw [HAN.out, HNO.out, HM.out]; rfl, HKR.out.trans (Kept.drewN _ _ _)⟩
            case measure => simp [intOf]; omega
        · obtain rfl : j = r.dec.length := by omega
          have HF : Hid (r.dec.take r.dec.length = r.dec) := List.take_length
          go_wp2_with fail
          go_meet
          rw [HF.out] at HNO
          exact ⟨HNO.out, HKR.out⟩
  case rest =>
    obtain ⟨hno1, hkc⟩ := hcut
    have HN1 := Lib.hid hno1
    have HKC := Lib.hid hkc
    obtain ⟨w4, rfl⟩ : ∃ w4 : World, w4 = wc := ⟨_, rfl⟩
    clear hno1 hkc
    go_upto_block 2 with (fail)
    go_cut [] (fun wc => r.con.any (lateC last) = false ∧ Kept [] w4 wc)
    case first =>
      rcases HSI3.out.con.2.2.2 with hnil | ⟨b9, o9, hA, hcl⟩
      · have hl0 : r.con.length ≤ 0 := by rw [hnil]; simp
        have HF : Hid (r.con.any (lateC last) = false) := by rw [Hid, hnil]; rfl
        have g3 := (HSR.out.kept HKC.out (by simp)).c3
        clear hnil
        go_wp2_with fail
        go_loopw [9] (fun i wr => i = .int .i64 0 ∧ wr = w4) (fun _ _ => 0)
        case atStart => exact ⟨rfl, rfl⟩
        case round =>
          obtain ⟨rfl, rfl⟩ := hrel
          go_wp2_with fail
          go_meet
          exact ⟨HF.out, Kept.refl _ _⟩
      · have HCL := Lib.hid hcl
        clear hcl
        go_wp2_with fail
        go_loopw [9] (fun i wr => ∃ j : Nat, j ≤ r.con.length ∧ i = .int .i64 j ∧ (r.con.take j).any (lateC last) = false ∧ Kept [] w4 wr) (fun i _ => r.con.length - (intOf i).toNat)
        case atStart => exact ⟨0, Nat.zero_le _, rfl, rfl, Kept.refl _ _⟩
        case round =>
          obtain ⟨j, hj, rfl, hno, hkr⟩ := hrel
          have HNO := Lib.hid hno
          have HKR := Lib.hid (HKC.out.trans hkr)
          have HKR4 := Lib.hid hkr
          have g3 := (HSR.out.kept HKR.out (by simp)).c3
          rw [hA] at g3
          clear hno hkr
          by_cases hlt : j < r.con.length
          · obtain ⟨x, hx⟩ : ∃ x, r.con[j]? = some x := ⟨_, List.getElem?_eq_getElem hlt⟩
            have HAN := Lib.hid (any_take_succ r.con (lateC last) hx)
            have HMX := Lib.hid (List.mem_of_getElem? hx)
            have q := HKR.out.cell (HCL.out j x hx 2 _ rfl) (by simp)
            have HSIr := Lib.hid (HSI3.out.kept HKR.out)
            clear hx
            cases hl : lateC last x
            · have HL := Lib.hid hl
              have hcase : last = false ∨ (last = true ∧ x.2.2 = true) := by
                unfold lateC at hl
                cases last
                · exact .inl rfl
                · exact .inr ⟨rfl, by simpa using hl⟩
              clear hl
              rcases hcase with rfl | ⟨rfl, hdn⟩
              · go_wp2_with fail
                go_roundw
                case rel => exact ⟨j + 1, by omega, by go_num, by rw [HAN.out, HNO.out, HL.out]; rfl, HKR4.out⟩
                case measure => simp [intOf]; omega
              · go_wp2_with fail
                go_roundw
                case rel => exact ⟨j + 1, by omega, by go_num, by rw [HAN.out, HNO.out, HL.out]; rfl, HKR4.out⟩
                case measure => simp [intOf]; omega
            · have HRES := Lib.hid (endsR_no2 (t := t) HN1.out HMX.out hl)
              have hcase : last = true ∧ x.2.2 = false := by
                unfold lateC at hl
                cases last
                · simp at hl
                · exact ⟨rfl, by simpa using hl⟩
              clear hl
              obtain ⟨rfl, hdn⟩ := hcase
              have hrr := HRR.out.kept HKR.out (by simp)
              have hsr := HSR.out.kept HKR.out (by simp)
              have g0 := hsr.c0
              have g1 := hsr.c1
              have g2 := hsr.c2
              obtain ⟨⟨e0, e1, e2, e3⟩, z0, z1, z2, z3⟩ := hrr.z
              clear hrr hsr
              go_wp2_with fail
              refine bodyPost_ret (v := .tuple #[.agg #[.slice s.dA r.dec.length s.dC, .slice s.mA r.com.length s.mC, .slice s.fA r.frz.length s.fC, .slice (some ⟨b9, o9, none⟩) r.con.length s.kC], .bool false]) (by simp [results, Try.results45, go_sem, e0, e1, e2, e3]) rfl ?_
              have hfin := st_end (w := w) (HRR.out.kept HKR.out (by simp)) (by omega) HSIr.out (HK3.out.trans HKR.out) (w2 := stored4 wr (w.heap.size + 1 + 1) s r) (stored4_kept _ _ _ _)
              rw [HRES.out, ← hA]
              exact ⟨s, rfl, hfin.1, hfin.2⟩
          · obtain rfl : j = r.con.length := by omega
            have HF : Hid (r.con.take r.con.length = r.con) := List.take_length
            go_wp2_with fail
            go_meet
            rw [HF.out] at HNO
            exact ⟨HNO.out, HKR4.out⟩
    case rest =>
      obtain ⟨hno2, hkc⟩ := hcut
      have HRES := Lib.hid (endsR_yes (t := t) HN1.out hno2)
      have hk5 := HKC.out.trans hkc
      have HSR5 := Lib.hid (HSR.out.kept hk5 (by simp))
      have HRR5 := Lib.hid (HRR.out.kept hk5 (by simp))
      have HSI5 := Lib.hid (HSI3.out.kept hk5)
      have HTB5 := Lib.hid (HTB.out.kept hk5)
      have HK5 := Lib.hid (HK3.out.trans hk5)
      obtain ⟨w5, rfl⟩ : ∃ w5 : World, w5 = wc := ⟨_, rfl⟩
      clear hno2 hkc hk5 HSR HRR HSI3 HTB HK3 HKC
      go_wp2_with fail
      go_loopw [10] (fun i wr => ∃ j : Nat, j ≤ r.dec.length ∧ i = .int .i64 j ∧ EInv t r w.heap.size w5 j wr) (fun i _ => r.dec.length - (intOf i).toNat)
      case atStart => exact ⟨0, Nat.zero_le _, rfl, s, HSR5.out, HSI5.out, Kept.refl _ _⟩
      case round =>
        obtain ⟨j, hj, rfl, s2, hrow, hst, hkr⟩ := hrel
        have HROW := Lib.hid hrow
        have HST := Lib.hid hst
        have HKR := Lib.hid hkr
        have g0 := hrow.c0
        rw [foldF_dec] at g0
        clear hrow hst hkr
        by_cases hlt : j < r.dec.length
        · obtain ⟨x, hx⟩ : ∃ x, r.dec[j]? = some x := ⟨_, List.getElem?_eq_getElem hlt⟩
          have HFS := Lib.hid (foldF_succ t r.dec r hx)
          have HXE := Lib.hid (HI.out.exD x (List.mem_of_getElem? hx))
          have hfl := (foldF_inv (r.dec.take j) r HI.out (fun y hy => HI.out.exD y (List.mem_of_mem_take hy))).frz_len
          have HRD := Lib.hid (foldF_dec t (r.dec.take j) r)
          have hdI := HST.out.dec
          rw [foldF_dec] at hdI
          have g1 := HROW.out.c1
          have g2 := HROW.out.c2
          have g3 := HROW.out.c3
          generalize foldF t (r.dec.take j) r = rj at *
          obtain ⟨dj, mj, fj, kj⟩ := rj
          obtain rfl : dj = r.dec := HRD.out
          dsimp only at g1 g2 g3 hfl
          clear HRD
          obtain ⟨A, c, he, _, _, _, hcl⟩ := hdI
          rcases hcl with hnil | ⟨b9, o9, rfl, hcl⟩
          · exact absurd hlt (by rw [hnil]; simp)
          simp only [Value.slice.injEq, true_and] at he
          obtain ⟨he1, rfl⟩ := he
          rw [he1] at g0
          have q := hcl j x hx
          have hTB := HTB5.out.tab
          have c0 := HKR.out.cell HTB5.out.c0 (by simp)
          have c1 := HKR.out.cell HTB5.out.c1 (by simp)
          have c2 := HKR.out.cell HTB5.out.c2 (by simp)
          have c3 := HKR.out.cell HTB5.out.c3 (by simp)
          have c4 := HKR.out.cell HTB5.out.c4 (by simp)
          have hfl2 : (RS.mk r.dec mj fj kj).frz.length ≤ 1000000 := by show fj.length ≤ _; omega
          have HSTD : Hid (StIn wr.drew ⟨some ⟨b9, o9, none⟩, s2.dC, s2.mA, s2.mC, s2.fA, s2.fC, s2.kA, s2.kC⟩ ⟨r.dec, mj, fj, kj⟩) := by rw [Hid, ← he1]; exact HST.out.kept (Kept.drew _ _)
          have HTD : Hid (TabIn wr.drew v t) := HT.out.kept ((HK5.out.trans0 HKR.out (Nat.le_refl _)).trans (Kept.drew [] _) |>.toBelow (Nat.le_refl _) (by simp))
          clear hcl hx hTB
          generalize hq : freezeR t ⟨r.dec, mj, fj, kj⟩ x = qn at *
          obtain ⟨rn, okn⟩ := qn
          have HQ := Lib.hid hq
          clear hq
          go_upto_region 14 with (fail)
          go_region_with (go_at_call 44
                          refine (refFreeze_any _ ⟨some ⟨b9, o9, none⟩, s2.dC, s2.mA, s2.mC, s2.fA, s2.fC, s2.kA, s2.kC⟩ ⟨r.dec, mj, fj, kj⟩ v t x HSTD.out HTD.out HS.out hN HXE.out hfl2).mono ?_
                          rw [HQ.out]
                          rintro e w6 ⟨s6, rfl, hi6, hk6⟩
                          unfold StV.cells
                          have HK6 := Lib.hid ((Kept.drew _ _).trans hk6)
                          have HI6 := Lib.hid hi6
                          have hrr := HROW.out.kept HK6.out (by simp)
                          have t0 := hrr.c0
                          have t1 := hrr.c1
                          have t2 := hrr.c2
                          have t3 := hrr.c3
                          have y0 := hrr.frozen 0
                          have y1 := hrr.frozen 1
                          have y2 := hrr.frozen 2
                          have y3 := hrr.frozen 3
                          clear hk6 hi6 hrr)
          all_goals
            have HEN : Hid (EInv t r w.heap.size w5 (j + 1) (stored4 w6 w.heap.size s6 rn)) := by
              refine ⟨s6, ?_, ?_, ?_⟩
              · rw [HFS.out]; exact stored4_row (HROW.out.kept HK6.out (by simp))
              · rw [HFS.out]; exact HI6.out.far (HROW.out.kept HK6.out (by simp)) (stored4_kept _ _ _ _)
              · exact HKR.out.trans ((HK6.out.mono (by simp)).trans (stored4_kept _ _ _ _))
            clear t0 t1 t2 t3 y0 y1 y2 y3 g0 g1 g2 g3 q c0 c1 c2 c3 c4
            go_wp2_with fail
            go_roundw
            case rel => exact ⟨j + 1, by omega, by go_num, HEN.out⟩
            case measure => simp [intOf]; omega
        · obtain rfl : j = r.dec.length := by omega
          have HF : Hid (r.dec.take r.dec.length = r.dec) := List.take_length
          rw [HF.out] at HROW HST
          have HRD := Lib.hid (foldF_dec t r.dec r)
          generalize foldF t r.dec r = rj at *
          obtain ⟨dj, mj, fj, kj⟩ := rj
          obtain rfl : dj = r.dec := HRD.out
          have g1 := HROW.out.c1
          have g2 := HROW.out.c2
          have g3 := HROW.out.c3
          dsimp only at g1 g2 g3
          have HZR := Lib.hid (HRR5.out.kept HKR.out (by simp; omega))
          obtain ⟨⟨e0, e1, e2, e3⟩, z0, z1, z2, z3⟩ := HZR.out.z
          have HKF := Lib.hid (HK5.out.trans0 HKR.out (Nat.le_refl _))
          go_wp2_with fail
          refine bodyPost_ret (v := .tuple #[.agg #[.slice s2.dA r.dec.length s2.dC, .slice s2.mA mj.length s2.mC, .slice s2.fA fj.length s2.fC, .slice s2.kA kj.length s2.kC], .bool true]) (by simp [results, Try.results45, go_sem, e0, e1, e2, e3]) rfl ?_
          have hfin := st_end (w := w) HZR.out (by omega) HST.out HKF.out (stored4_kept _ _ s2 ⟨r.dec, mj, fj, kj⟩)
          rw [HRES.out]
          exact ⟨_, rfl, hfin.1, hfin.2⟩
end Go.Proofs.Ytbjnoffdafpkgaa
