/- The reference's Needs. -/
import Derived.Test.YtbjnoffdafpkgaaR2
import Derived.Test.YtbjnoffdafpkgaaP3
namespace Go.Proofs.Ytbjnoffdafpkgaa
open Go.RowKit

/-- Ascending numbers of types, and one number besides. -/
def Okl (N : Nat) (ty : Int) (l : List Int) : Prop := Asc l ∧ ∀ x, x ∈ l → x = ty ∨ exI N x = true
theorem Okl.len {N : Nat} {ty : Int} {l : List Int} (h : Okl N ty l) : l.length ≤ N + 1 := by
  have := (asc_nodup h.1).length_le_of_subset (l₂ := ty :: (List.range N).map Int.ofNat) (fun x hx => by
    rcases h.2 x hx with rfl | e
    · simp
    · have h0 : 0 ≤ x ∧ x < N := by simpa [exI] using e
      refine List.mem_cons_of_mem _ (List.mem_map.2 ⟨x.toNat, List.mem_range.2 (by omega), ?_⟩)
      exact Int.toNat_of_nonneg h0.1)
  simpa using this
theorem Okl.with {N : Nat} {ty x : Int} {l : List Int} (h : Okl N ty l) (hx : x = ty ∨ exI N x = true) : Okl N ty (withR l x) :=
  ⟨withR_asc h.1, fun y hy => by
    rcases mem_withR.1 hy with rfl | hy
    · exact hx
    · exact h.2 y hy⟩
theorem Okl.fold {N : Nat} {ty : Int} : ∀ {p l : List Int}, (∀ x, x ∈ p → exI N x = true) → Okl N ty l → Okl N ty (p.foldl withR l) := by
  intro p
  induction p with
  | nil => intro l _ h; exact h
  | cons a p ih => intro l hp h; exact ih (fun x hx => hp x (by simp [hx])) (h.with (.inr (hp a (by simp))))
theorem partsW_ex {t : Tab} {y x : Int} (h : x ∈ partsW t y) : exI t.types.length x = true := by
  rw [← partsT_eq] at h
  exact (mem_partsT h).1
theorem Okl.step {t : Tab} {ty : Int} : ∀ {k l : List Int}, Okl t.types.length ty l → Okl t.types.length ty (k.foldl (fun m x => (partsW t x).foldl withR m) l) := by
  intro k
  induction k with
  | nil => intro l h; exact h
  | cons a k ih => intro l h; exact ih (Okl.fold (fun x hx => partsW_ex hx) h)
theorem partsW_len (t : Tab) (y : Int) : (partsW t y).length ≤ t.types.length := by
  refine range_len (asc_nodup ?_) (fun x hx => partsW_ex hx)
  rw [← partsT_eq]
  exact partsT_asc t y

/-- What holds at the head of the great loop. -/
def NInv (t : Tab) (ty : Int) (l : List Int) : Prop := Okl t.types.length ty l ∧ ty ∈ l ∧ ∃ f, needsR t f l = needs t ty ∧ t.types.length + 2 ≤ f + l.length
theorem NInv.start (t : Tab) (ty : Int) : NInv t ty [ty] := ⟨⟨by simp [Asc], by simp⟩, by simp, t.types.length + 1, rfl, by simp⟩
theorem NInv.stop {t : Tab} {ty : Int} {l : List Int} (h : NInv t ty l) (he : (needStep t l).length = l.length) : needs t ty = l := by
  obtain ⟨ho, _, f, hf, hl⟩ := h
  have := ho.len
  cases f with
  | zero => omega
  | succ f => rw [← hf, needsR, if_pos (by simpa using he)]
theorem NInv.next {t : Tab} {ty : Int} {l : List Int} (h : NInv t ty l) (he : ¬ (needStep t l).length = l.length) : NInv t ty (needStep t l) ∧ l.length < (needStep t l).length := by
  obtain ⟨ho, hm, f, hf, hl⟩ := h
  have h1 := ho.len
  have h2 := needStep_len t l ho.1
  refine ⟨⟨ho.step, ((needStep_res t l ho.1).2 ty).2 (.inl hm), f - 1, ?_, by omega⟩, by omega⟩
  cases f with
  | zero => omega
  | succ f => rw [← hf, needsR, if_neg (by simpa using he)]; rfl

def lenV : Value → Nat
  | .slice _ n _ => n
  | _ => 0

/-- The table's box. -/
structure TBox (v : TabV) (t : Tab) (B : Nat) (w : World) : Prop where
  c0 : w.cell? ⟨B, 0, none⟩ = some (.slice v.ta t.types.length v.tc)
  c1 : w.cell? ⟨B, 1, none⟩ = some (.slice v.sa t.subs.length v.sc)
  c2 : w.cell? ⟨B, 2, none⟩ = some (.slice v.ea v.en v.ec)
  c3 : w.cell? ⟨B, 3, none⟩ = some (.slice v.ga v.gn v.gc)
  c4 : w.cell? ⟨B, 4, none⟩ = some (.slice v.ia v.im v.ic)
  tab : TabIn w v t
theorem TBox.kept {v : TabV} {t : Tab} {B : Nat} {w w' : World} (h : TBox v t B w) (hk : Kept [] w w') : TBox v t B w' :=
  ⟨hk.cell h.c0 (by simp), hk.cell h.c1 (by simp), hk.cell h.c2 (by simp), hk.cell h.c3 (by simp), hk.cell h.c4 (by simp), h.tab.kept (hk.toBelow (Nat.le_refl _) (by simp))⟩
theorem TBox.of_block {v : TabV} {t : Tab} {B : Nat} {w : World} (h : w.heap[B]? = some (.cells (v.cells t) 28 (0, 0))) (hT : TabIn w v t) : TBox v t B w :=
  ⟨by rw [cell_of_row _ _ _ _ _ _ h]; rfl, by rw [cell_of_row _ _ _ _ _ _ h]; rfl, by rw [cell_of_row _ _ _ _ _ _ h]; rfl, by rw [cell_of_row _ _ _ _ _ _ h]; rfl, by rw [cell_of_row _ _ _ _ _ _ h]; rfl, hT⟩

theorem stepsTo (t : Tab) (l : List Int) {j : Nat} {x : Int} (h : l[j]? = some x) (m : List Int) : (l.take (j + 1)).foldl (fun m x => (partsW t x).foldl withR m) m = (partsW t x).foldl withR ((l.take j).foldl (fun m x => (partsW t x).foldl withR m) m) := by
  obtain ⟨h1, rfl⟩ := List.getElem?_eq_some_iff.1 h
  rw [List.take_succ_eq_append_getElem h1, List.foldl_append]; rfl
theorem withTo (p : List Int) {j : Nat} {x : Int} (h : p[j]? = some x) (m : List Int) : (p.take (j + 1)).foldl withR m = withR ((p.take j).foldl withR m) x := by
  obtain ⟨h1, rfl⟩ := List.getElem?_eq_some_iff.1 h
  rw [List.take_succ_eq_append_getElem h1, List.foldl_append]; rfl

set_option maxRecDepth 100000 in
set_option maxHeartbeats 1000000 in
theorem needs_any (w : World) (v : TabV) (t : Tab) (ty : Int) (hT : TabIn w v t) (hs : Small t) (hN : t.types.length ≤ 1000) :
    Calls Try.prog 49 #[.agg (v.cells t), .int .i64 ty] w (RetC (needs t ty) w) := by
  have HT := Lib.hid hT
  have HS := Lib.hid hs
  clear hT hs
  unfold TabV.cells
  go_enter Try.func49, Try.ntmps49
  go_wp2_with fail
  refine wp_gen ?_
  intro w2 hw2
  have hk2 : Kept [] w w2 := by rw [hw2]; exact (Kept.alloc _ _ _).trans (Kept.alloc _ _ _)
  have HTB : Hid (TBox v t w.heap.size w2) := TBox.of_block (by rw [hw2]; exact obj_old (heap_alloc_new _ _) (by simp)) (HT.out.kept (hk2.toBelow (Nat.le_refl _) (by simp)))
  have HI0 : Hid (IntsC w2 (.slice (some ⟨w.heap.size + 1, 0, none⟩) 1 1) [ty]) := IntsC.of_block (l := [ty]) (by rw [hw2]; exact obj_new (by simp)) (by simp)
  have HK2 := Lib.hid hk2
  clear hk2 hw2
  go_loopw [5] (fun lv wr => ∃ l : List Int, IntsC wr lv l ∧ NInv t ty l ∧ Kept [] w2 wr) (fun lv _ => t.types.length + 2 - lenV lv)
  case atStart => exact ⟨[ty], HI0.out, NInv.start t ty, Kept.refl _ _⟩
  case round =>
    obtain ⟨l, hil, hnv, hkr⟩ := hrel
    have HIL := Lib.hid hil
    have HNV := Lib.hid hnv
    have HKR := Lib.hid hkr
    have hll := hnv.1.len
    have HTR := Lib.hid (HTB.out.kept hkr)
    obtain ⟨w3, rfl⟩ : ∃ w3 : World, w3 = wr := ⟨_, rfl⟩
    obtain ⟨A, c, rfl, hlc, hcm, _, hcl⟩ := hil
    have hlm := List.length_pos_of_mem hnv.2.1
    rcases hcl with hnil | ⟨b, o, rfl, hcl⟩
    · exact absurd hlm (by rw [hnil]; simp)
    have HCL := Lib.hid hcl
    clear hnv hkr hcl
    go_upto_block 2 with (fail)
    go_cut [6] (fun v6 wc => IntsC wc v6 (needStep t l) ∧ Kept [] w3 wc)
    case first =>
      go_wp2_with fail
      go_loopw [6, 7] (fun mv i wr => ∃ j : Nat, j ≤ l.length ∧ i = .int .i64 j ∧ IntsC wr mv ((l.take j).foldl (fun m x => (partsW t x).foldl withR m) l) ∧ Kept [] w3 wr) (fun _ i _ => l.length - (intOf i).toNat)
      case atStart => exact ⟨0, Nat.zero_le _, rfl, HIL.out, Kept.refl _ _⟩
      case round =>
        obtain ⟨j, hj, rfl, him, hkm⟩ := hrel
        have HIM := Lib.hid him
        have HKM := Lib.hid hkm
        clear him hkm
        by_cases hlt : j < l.length
        · obtain ⟨x, hx⟩ : ∃ x, l[j]? = some x := ⟨_, List.getElem?_eq_getElem hlt⟩
          have HST := Lib.hid (stepsTo t l hx l)
          have HOK : Hid (Okl t.types.length ty ((l.take j).foldl (fun m x => (partsW t x).foldl withR m) l)) := HNV.out.1.step
          have qx := (HKM.out.trans (Kept.drew _ _)).cell (HCL.out j x hx) (by simp)
          have HTW := Lib.hid (HTR.out.kept (HKM.out.trans (Kept.drew _ _)))
          obtain ⟨c0, c1, c2, c3, c4, _⟩ := HTW.out
          generalize (l.take j).foldl (fun m x => (partsW t x).foldl withR m) l = acc at *
          clear hx
          obtain ⟨w4, rfl⟩ : ∃ w4 : World, w4 = wr := ⟨_, rfl⟩
          generalize hps : partsW t x = ps at *
          go_upto_block 3 with (fail)
          go_cut [6] (fun v6 wc => IntsC wc v6 (ps.foldl withR acc) ∧ Kept [] w4 wc)
          case first =>
            have HPS := Lib.hid hps
            clear hps
            go_upto_region 6 with (fail)
            go_still_tail 5, (by kernel_rfl)
            change wpList _ _ _ _ _ w4.drew
            go_wp2_with fail
            refine (refParts_any w4.drew v t x HTW.out.tab HS.out).mono ?_
            rintro e w5 ⟨u5, rfl, hi5, hk5⟩
            have HK5 := Lib.hid ((Kept.drew _ _).trans hk5)
            have hpl := partsW_len t x
            have HPX : Hid (∀ y, y ∈ partsW t x → exI t.types.length y = true) := fun y hy => partsW_ex hy
            clear hk5 c0 c1 c2 c3 c4 qx HTW
            rw [HPS.out] at hi5 hpl HPX
            obtain ⟨A5, cc5, rfl, h5a, h5b, _, hc5⟩ := hi5
            rcases hc5 with hnil | ⟨b5, o5, rfl, hc5⟩
            · have hl0 : ps.length ≤ 0 := by rw [hnil]; simp
              have HF : Hid (ps.foldl withR acc = acc) := by rw [Hid, hnil]; rfl
              clear hnil
              go_wp2_with fail
              go_loopw [6, 9] (fun mv i wr => i = .int .i64 0 ∧ IntsC wr mv acc ∧ Kept [] w5 wr) (fun _ _ _ => 0)
              case atStart => exact ⟨rfl, HIM.out.kept HK5.out, Kept.refl _ _⟩
              case round =>
                obtain ⟨rfl, him, hkm⟩ := hrel
                have HIM' := Lib.hid him
                have HKM' := Lib.hid hkm
                clear him hkm
                go_wp2_with fail
                go_meet
                exact ⟨by rw [HF.out]; exact HIM'.out, HK5.out.trans HKM'.out⟩
            · have HC5 := Lib.hid hc5
              clear hc5
              go_wp2_with fail
              go_loopw [6, 9] (fun mv i wr => ∃ m : Nat, m ≤ ps.length ∧ i = .int .i64 m ∧ IntsC wr mv ((ps.take m).foldl withR acc) ∧ Kept [] w5 wr) (fun _ i _ => ps.length - (intOf i).toNat)
              case atStart => exact ⟨0, Nat.zero_le _, rfl, HIM.out.kept HK5.out, Kept.refl _ _⟩
              case round =>
                obtain ⟨m, hm, rfl, him, hkm⟩ := hrel
                have HIM' := Lib.hid him
                have HKM' := Lib.hid hkm
                clear him hkm
                by_cases hlm : m < ps.length
                · obtain ⟨y, hy⟩ : ∃ y, ps[m]? = some y := ⟨_, List.getElem?_eq_getElem hlm⟩
                  have qy := HKM'.out.cell (HC5.out m y hy) (by simp)
                  have HWT := Lib.hid (withTo ps hy acc)
                  have HO2 : Hid (Okl t.types.length ty ((ps.take m).foldl withR acc)) := Okl.fold (fun z hz => HPX.out z (List.mem_of_mem_take hz)) HOK.out
                  clear hy
                  generalize (ps.take m).foldl withR acc = acc2 at *
                  have hl2 := HO2.out.len
                  go_wp2_with fail
                  refine (with_any wr _ acc2 y HIM'.out (by omega)).mono ?_
                  rintro e w6 ⟨u6, rfl, hi6, hk6⟩
                  have HI6 := Lib.hid hi6
                  have HK6 := Lib.hid (HKM'.out.trans hk6)
                  clear hi6 hk6
                  go_wp2_with fail
                  go_roundw
                  case rel => exact ⟨m + 1, by omega, by go_num, by rw [HWT.out]; exact HI6.out, HK6.out⟩
                  case measure => simp [intOf]; omega
                · obtain rfl : m = ps.length := by omega
                  have HF : Hid (ps.take ps.length = ps) := List.take_length
                  go_wp2_with fail
                  go_meet
                  rw [HF.out] at HIM'
                  exact ⟨HIM'.out, HK5.out.trans HKM'.out⟩
          case rest =>
            have HIC := Lib.hid hcut.1
            have HKC := Lib.hid (HKM.out.trans hcut.2)
            clear hcut hps c0 c1 c2 c3 c4 qx
            go_wp2_with fail
            go_roundw
            case rel => exact ⟨j + 1, by omega, by go_num, by rw [HST.out]; exact HIC.out, HKC.out⟩
            case measure => simp [intOf]; omega
        · obtain rfl : j = l.length := by omega
          have HF : Hid ((l.take l.length).foldl (fun m x => (partsW t x).foldl withR m) l = needStep t l) := by rw [Hid, List.take_length]; rfl
          go_wp2_with fail
          go_meet
          rw [HF.out] at HIM
          exact ⟨HIM.out, HKM.out⟩
    case rest =>
      obtain ⟨hic, hkc⟩ := hcut
      have HIC := Lib.hid hic
      have HKC := Lib.hid (HKR.out.trans hkc)
      have HILC := Lib.hid (HIL.out.kept hkc)
      obtain ⟨A7, c7, rfl, _⟩ := hic
      clear hkc
      by_cases he : (needStep t l).length = l.length
      · have HE := Lib.hid (HNV.out.stop he)
        have he' : (((needStep t l).length : Int) == (l.length : Int)) = true := by rw [he]; simp
        clear he
        go_wp2_with fail
        go_ret
        rw [HE.out]
        exact ⟨_, rfl, HILC.out, HK2.out.trans HKC.out⟩
      · have HE := Lib.hid (HNV.out.next he)
        have he' : (((needStep t l).length : Int) == (l.length : Int)) = false := by simp; omega
        have hle := HE.out.2
        have hln := HE.out.1.1.len
        clear he
        go_wp2_with fail
        go_roundw
        case rel => exact ⟨_, HIC.out, HE.out.1, HKC.out⟩
        case measure => simp [lenV]; omega
end Go.Proofs.Ytbjnoffdafpkgaa
