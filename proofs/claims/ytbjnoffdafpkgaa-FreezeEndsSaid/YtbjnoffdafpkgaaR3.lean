/- The reference's Needs. The reference's Exists, find. -/
import Derived.Test.YtbjnoffdafpkgaaR2
import Derived.Test.YtbjnoffdafpkgaaP3
import Derived.Test.YtbjnoffdafpkgaaP7
namespace Go.Proofs.Ytbjnoffdafpkgaa
open Go.RowKit

/-- Ascending numbers of types, and one number besides. -/
def Okl (N : Nat) (ty : Int) (l : List Int) : Prop := Asc l ∧ ∀ x, x ∈ l → x = ty ∨ exI N x = true
theorem Okl.len {N : Nat} {ty : Int} {l : List Int} (h : Okl N ty l) : l.length ≤ N + 1 := by
  have := (asc_nodup h.1).length_le_of_subset (l₂ := ty :: (List.range N).map Int.ofNat) (fun x hx => by
    rcases h.2 x hx with rfl | e
    · simp
    · have h0 : 0 ≤ x ∧ x < N := by simpa [exI] using e
      refine List.mem_cons_of_mem _ (List.mem_map.2 ⟨x.toNat, List.mem_range.2 (by omega), ?_⟩)
      exact Int.toNat_of_nonneg h0.1)
  simpa using this
theorem Okl.with {N : Nat} {ty x : Int} {l : List Int} (h : Okl N ty l) (hx : x = ty ∨ exI N x = true) : Okl N ty (withR l x) :=
  ⟨withR_asc h.1, fun y hy => by
    rcases mem_withR.1 hy with rfl | hy
    · exact hx
    · exact h.2 y hy⟩
theorem Okl.fold {N : Nat} {ty : Int} : ∀ {p l : List Int}, (∀ x, x ∈ p → exI N x = true) → Okl N ty l → Okl N ty (p.foldl withR l) := by
  intro p
  induction p with
  | nil => intro l _ h; exact h
  | cons a p ih => intro l hp h; exact ih (fun x hx => hp x (by simp [hx])) (h.with (.inr (hp a (by simp))))
theorem partsW_ex {t : Tab} {y x : Int} (h : x ∈ partsW t y) : exI t.types.length x = true := by
  rw [← partsT_eq] at h
  exact (mem_partsT h).1
theorem Okl.step {t : Tab} {ty : Int} : ∀ {k l : List Int}, Okl t.types.length ty l → Okl t.types.length ty (k.foldl (fun m x => (partsW t x).foldl withR m) l) := by
  intro k
  induction k with
  | nil => intro l h; exact h
  | cons a k ih => intro l h; exact ih (Okl.fold (fun x hx => partsW_ex hx) h)
theorem partsW_len (t : Tab) (y : Int) : (partsW t y).length ≤ t.types.length := by
  refine range_len (asc_nodup ?_) (fun x hx => partsW_ex hx)
  rw [← partsT_eq]
  exact partsT_asc t y

/-- What holds at the head of the great loop. -/
def NInv (t : Tab) (ty : Int) (l : List Int) : Prop := Okl t.types.length ty l ∧ ty ∈ l ∧ ∃ f, needsR t f l = needs t ty ∧ t.types.length + 2 ≤ f + l.length
theorem NInv.start (t : Tab) (ty : Int) : NInv t ty [ty] := ⟨⟨by simp [Asc], by simp⟩, by simp, t.types.length + 1, rfl, by simp⟩
theorem NInv.stop {t : Tab} {ty : Int} {l : List Int} (h : NInv t ty l) (he : (needStep t l).length = l.length) : needs t ty = l := by
  obtain ⟨ho, _, f, hf, hl⟩ := h
  have := ho.len
  cases f with
  | zero => omega
  | succ f => rw [← hf, needsR, if_pos (by simpa using he)]
theorem NInv.next {t : Tab} {ty : Int} {l : List Int} (h : NInv t ty l) (he : ¬ (needStep t l).length = l.length) : NInv t ty (needStep t l) ∧ l.length < (needStep t l).length := by
  obtain ⟨ho, hm, f, hf, hl⟩ := h
  have h1 := ho.len
  have h2 := needStep_len t l ho.1
  refine ⟨⟨ho.step, ((needStep_res t l ho.1).2 ty).2 (.inl hm), f - 1, ?_, by omega⟩, by omega⟩
  cases f with
  | zero => omega
  | succ f => rw [← hf, needsR, if_neg (by simpa using he)]; rfl

def lenV : Value → Nat
  | .slice _ n _ => n
  | _ => 0

/-- The table's box. -/
structure TBox (v : TabV) (t : Tab) (B : Nat) (w : World) : Prop where
  c0 : w.cell? ⟨B, 0, none⟩ = some (.slice v.ta t.types.length v.tc)
  c1 : w.cell? ⟨B, 1, none⟩ = some (.slice v.sa t.subs.length v.sc)
  c2 : w.cell? ⟨B, 2, none⟩ = some (.slice v.ea v.en v.ec)
  c3 : w.cell? ⟨B, 3, none⟩ = some (.slice v.ga v.gn v.gc)
  c4 : w.cell? ⟨B, 4, none⟩ = some (.slice v.ia v.im v.ic)
  tab : TabIn w v t
theorem TBox.kept {v : TabV} {t : Tab} {B : Nat} {w w' : World} (h : TBox v t B w) (hk : Kept [] w w') : TBox v t B w' :=
  ⟨hk.cell h.c0 (by simp), hk.cell h.c1 (by simp), hk.cell h.c2 (by simp), hk.cell h.c3 (by simp), hk.cell h.c4 (by simp), h.tab.kept (hk.toBelow (Nat.le_refl _) (by simp))⟩
theorem TBox.of_block {v : TabV} {t : Tab} {B : Nat} {w : World} (h : w.heap[B]? = some (.cells (v.cells t) 28 (0, 0))) (hT : TabIn w v t) : TBox v t B w :=
  ⟨by rw [cell_of_row _ _ _ _ _ _ h]; rfl, by rw [cell_of_row _ _ _ _ _ _ h]; rfl, by rw [cell_of_row _ _ _ _ _ _ h]; rfl, by rw [cell_of_row _ _ _ _ _ _ h]; rfl, by rw [cell_of_row _ _ _ _ _ _ h]; rfl, hT⟩

theorem stepsTo (t : Tab) (l : List Int) {j : Nat} {x : Int} (h : l[j]? = some x) (m : List Int) : (l.take (j + 1)).foldl (fun m x => (partsW t x).foldl withR m) m = (partsW t x).foldl withR ((l.take j).foldl (fun m x => (partsW t x).foldl withR m) m) := by
  obtain ⟨h1, rfl⟩ := List.getElem?_eq_some_iff.1 h
  rw [List.take_succ_eq_append_getElem h1, List.foldl_append]; rfl
theorem withTo (p : List Int) {j : Nat} {x : Int} (h : p[j]? = some x) (m : List Int) : (p.take (j + 1)).foldl withR m = withR ((p.take j).foldl withR m) x := by
  obtain ⟨h1, rfl⟩ := List.getElem?_eq_some_iff.1 h
  rw [List.take_succ_eq_append_getElem h1, List.foldl_append]; rfl

set_option maxRecDepth 100000 in
set_option maxHeartbeats 1000000 in
theorem needs_any (w : World) (v : TabV) (t : Tab) (ty : Int) (hT : TabIn w v t) (hs : Small t) (hN : t.types.length ≤ 1000) :
    Calls Try.prog 49 #[.agg (v.cells t), .int .i64 ty] w (RetC (needs t ty) w) := by
  have HT := Lib.hid hT
  have HS := Lib.hid hs
  clear hT hs
  unfold TabV.cells
  go_enter Try.func49, Try.ntmps49
  go_wp2_with fail
  refine wp_gen ?_
  intro w2 hw2
  have hk2 : Kept [] w w2 := by rw [hw2]; exact (Kept.alloc _ _ _).trans (Kept.alloc _ _ _)
  have HTB : Hid (TBox v t w.heap.size w2) := TBox.of_block (by rw [hw2]; exact obj_old (heap_alloc_new _ _) (by simp)) (HT.out.kept (hk2.toBelow (Nat.le_refl _) (by simp)))
  have HI0 : Hid (IntsC w2 (.slice (some ⟨w.heap.size + 1, 0, none⟩) 1 1) [ty]) := IntsC.of_block (l := [ty]) (by rw [hw2]; exact obj_new (by simp)) (by simp)
  have HK2 := Lib.hid hk2
  clear hk2 hw2
  go_loopw [5] (fun lv wr => ∃ l : List Int, IntsC wr lv l ∧ NInv t ty l ∧ Kept [] w2 wr) (fun lv _ => t.types.length + 2 - lenV lv)
  case atStart => exact ⟨[ty], HI0.out, NInv.start t ty, Kept.refl _ _⟩
  case round =>
    obtain ⟨l, hil, hnv, hkr⟩ := hrel
    have HIL := Lib.hid hil
    have HNV := Lib.hid hnv
    have HKR := Lib.hid hkr
    have hll := hnv.1.len
    have HTR := Lib.hid (HTB.out.kept hkr)
    obtain ⟨w3, rfl⟩ : ∃ w3 : World, w3 = wr := ⟨_, rfl⟩
    obtain ⟨A, c, rfl, hlc, hcm, _, hcl⟩ := hil
    have hlm := List.length_pos_of_mem hnv.2.1
    rcases hcl with hnil | ⟨b, o, rfl, hcl⟩
    · exact absurd hlm (by rw [hnil]; simp)
    have HCL := Lib.hid hcl
    clear hnv hkr hcl
    go_upto_block 2 with (fail)
    go_cut [6] (fun v6 wc => IntsC wc v6 (needStep t l) ∧ Kept [] w3 wc)
    case first =>
      go_wp2_with fail
      go_loopw [6, 7] (fun mv i wr => ∃ j : Nat, j ≤ l.length ∧ i = .int .i64 j ∧ IntsC wr mv ((l.take j).foldl (fun m x => (partsW t x).foldl withR m) l) ∧ Kept [] w3 wr) (fun _ i _ => l.length - (intOf i).toNat)
      case atStart => exact ⟨0, Nat.zero_le _, rfl, HIL.out, Kept.refl _ _⟩
      case round =>
        obtain ⟨j, hj, rfl, him, hkm⟩ := hrel
        have HIM := Lib.hid him
        have HKM := Lib.hid hkm
        clear him hkm
        by_cases hlt : j < l.length
        · obtain ⟨x, hx⟩ : ∃ x, l[j]? = some x := ⟨_, List.getElem?_eq_getElem hlt⟩
          have HST := Lib.hid (stepsTo t l hx l)
          have HOK : Hid (Okl t.types.length ty ((l.take j).foldl (fun m x => (partsW t x).foldl withR m) l)) := HNV.out.1.step
          have qx := (HKM.out.trans (Kept.drew _ _)).cell (HCL.out j x hx) (by simp)
          have HTW := Lib.hid (HTR.out.kept (HKM.out.trans (Kept.drew _ _)))
          obtain ⟨c0, c1, c2, c3, c4, _⟩ := HTW.out
          generalize (l.take j).foldl (fun m x => (partsW t x).foldl withR m) l = acc at *
          clear hx
          obtain ⟨w4, rfl⟩ : ∃ w4 : World, w4 = wr := ⟨_, rfl⟩
          generalize hps : partsW t x = ps at *
          go_upto_block 3 with (fail)
          go_cut [6] (fun v6 wc => IntsC wc v6 (ps.foldl withR acc) ∧ Kept [] w4 wc)
          case first =>
            have HPS := Lib.hid hps
            clear hps
            go_upto_region 6 with (fail)
            go_still_tail 5, (by kernel_rfl)
            change wpList _ _ _ _ _ w4.drew
            go_wp2_with fail
            refine (refParts_any w4.drew v t x HTW.out.tab HS.out).mono ?_
            rintro e w5 ⟨u5, rfl, hi5, hk5⟩
            have HK5 := Lib.hid ((Kept.drew _ _).trans hk5)
            have hpl := partsW_len t x
            have HPX : Hid (∀ y, y ∈ partsW t x → exI t.types.length y = true) := fun y hy => partsW_ex hy
            clear hk5 c0 c1 c2 c3 c4 qx HTW
            rw [HPS.out] at hi5 hpl HPX
            obtain ⟨A5, cc5, rfl, h5a, h5b, _, hc5⟩ := hi5
            rcases hc5 with hnil | ⟨b5, o5, rfl, hc5⟩
            · have hl0 : ps.length ≤ 0 := by rw [hnil]; simp
              have HF : Hid (ps.foldl withR acc = acc) := by rw [Hid, hnil]; rfl
              clear hnil
              go_wp2_with fail
              go_loopw [6, 9] (fun mv i wr => i = .int .i64 0 ∧ IntsC wr mv acc ∧ Kept [] w5 wr) (fun _ _ _ => 0)
              case atStart => exact ⟨rfl, HIM.out.kept HK5.out, Kept.refl _ _⟩
              case round =>
                obtain ⟨rfl, him, hkm⟩ := hrel
                have HIM' := Lib.hid him
                have HKM' := Lib.hid hkm
                clear him hkm
                go_wp2_with fail
                go_meet
                exact ⟨by rw [HF.out]; exact HIM'.out, HK5.out.trans HKM'.out⟩
            · have HC5 := Lib.hid hc5
              clear hc5
              go_wp2_with fail
              go_loopw [6, 9] (fun mv i wr => ∃ m : Nat, m ≤ ps.length ∧ i = .int .i64 m ∧ IntsC wr mv ((ps.take m).foldl withR acc) ∧ Kept [] w5 wr) (fun _ i _ => ps.length - (intOf i).toNat)
              case atStart => exact ⟨0, Nat.zero_le _, rfl, HIM.out.kept HK5.out, Kept.refl _ _⟩
              case round =>
                obtain ⟨m, hm, rfl, him, hkm⟩ := hrel
                have HIM' := Lib.hid him
                have HKM' := Lib.hid hkm
                clear him hkm
                by_cases hlm : m < ps.length
                · obtain ⟨y, hy⟩ : ∃ y, ps[m]? = some y := ⟨_, List.getElem?_eq_getElem hlm⟩
                  have qy := HKM'.out.cell (HC5.out m y hy) (by simp)
                  have HWT := Lib.hid (withTo ps hy acc)
                  have HO2 : Hid (Okl t.types.length ty ((ps.take m).foldl withR acc)) := Okl.fold (fun z hz => HPX.out z (List.mem_of_mem_take hz)) HOK.out
                  clear hy
                  generalize (ps.take m).foldl withR acc = acc2 at *
                  have hl2 := HO2.out.len
                  go_wp2_with fail
                  refine (with_any wr _ acc2 y HIM'.out (by omega)).mono ?_
                  rintro e w6 ⟨u6, rfl, hi6, hk6⟩
                  have HI6 := Lib.hid hi6
                  have HK6 := Lib.hid (HKM'.out.trans hk6)
                  clear hi6 hk6
                  go_wp2_with fail
                  go_roundw
                  case rel => exact ⟨m + 1, by omega, by go_num, by rw [HWT.out]; exact HI6.out, HK6.out⟩
                  case measure => simp [intOf]; omega
                · obtain rfl : m = ps.length := by omega
                  have HF : Hid (ps.take ps.length = ps) := List.take_length
                  go_wp2_with fail
                  go_meet
                  rw [HF.out] at HIM'
                  exact ⟨HIM'.out, HK5.out.trans HKM'.out⟩
          case rest =>
            have HIC := Lib.hid hcut.1
            have HKC := Lib.hid (HKM.out.trans hcut.2)
            clear hcut hps c0 c1 c2 c3 c4 qx
            go_wp2_with fail
            go_roundw
            case rel => exact ⟨j + 1, by omega, by go_num, by rw [HST.out]; exact HIC.out, HKC.out⟩
            case measure => simp [intOf]; omega
        · obtain rfl : j = l.length := by omega
          have HF : Hid ((l.take l.length).foldl (fun m x => (partsW t x).foldl withR m) l = needStep t l) := by rw [Hid, List.take_length]; rfl
          go_wp2_with fail
          go_meet
          rw [HF.out] at HIM
          exact ⟨HIM.out, HKM.out⟩
    case rest =>
      obtain ⟨hic, hkc⟩ := hcut
      have HIC := Lib.hid hic
      have HKC := Lib.hid (HKR.out.trans hkc)
      have HILC := Lib.hid (HIL.out.kept hkc)
      obtain ⟨A7, c7, rfl, _⟩ := hic
      clear hkc
      by_cases he : (needStep t l).length = l.length
      · have HE := Lib.hid (HNV.out.stop he)
        have he' : (((needStep t l).length : Int) == (l.length : Int)) = true := by rw [he]; simp
        clear he
        go_wp2_with fail
        go_ret
        rw [HE.out]
        exact ⟨_, rfl, HILC.out, HK2.out.trans HKC.out⟩
      · have HE := Lib.hid (HNV.out.next he)
        have he' : (((needStep t l).length : Int) == (l.length : Int)) = false := by simp; omega
        have hle := HE.out.2
        have hln := HE.out.1.1.len
        clear he
        go_wp2_with fail
        go_roundw
        case rel => exact ⟨_, HIC.out, HE.out.1, HKC.out⟩
        case measure => simp [lenV]; omega
end Go.Proofs.Ytbjnoffdafpkgaa
namespace Go.Proofs.Ytbjnoffdafpkgaa
open Go.RowKit

/-- The four slices of a state. -/
structure StV where
  dA : Option Addr
  dC : Nat
  mA : Option Addr
  mC : Nat
  fA : Option Addr
  fC : Nat
  kA : Option Addr
  kC : Nat

def StV.cells (s : StV) (r : RS) : Array Value := #[.slice s.dA r.dec.length s.dC, .slice s.mA r.com.length s.mC, .slice s.fA r.frz.length s.fC, .slice s.kA r.con.length s.kC]

def conCells (x : Int × Int × Bool) : List Value := [.int .i64 x.1, .int .i64 x.2.1, .bool x.2.2]
/-- A slice of constants that is read. -/
def ConC (w : World) (a : Option Addr) (c : Nat) (l : List (Int × Int × Bool)) : Prop :=
  l.length ≤ c ∧ c ≤ 9223372036854775807 ∧ (a = none → c = 0) ∧ (l = [] ∨ ∃ b off, a = some ⟨b, off, none⟩ ∧ ∀ j x, l[j]? = some x → w.rangeAt b (off + j * 3) (conCells x))
theorem ConC.kept {w w' : World} {a : Option Addr} {c : Nat} {l : List (Int × Int × Bool)} (h : ConC w a c l) (hk : Kept [] w w') : ConC w' a c l := by
  refine ⟨h.1, h.2.1, h.2.2.1, ?_⟩
  rcases h.2.2.2 with h | ⟨b, off, ha, h⟩
  · exact .inl h
  · exact .inr ⟨b, off, ha, fun j x hx i u hu => hk.cell (h j x hx i u hu) (by simp)⟩

structure StIn (w : World) (s : StV) (r : RS) : Prop where
  dec : IntsC w (.slice s.dA r.dec.length s.dC) r.dec
  com : IntsC w (.slice s.mA r.com.length s.mC) r.com
  frz : IntsC w (.slice s.fA r.frz.length s.fC) r.frz
  con : ConC w s.kA s.kC r.con
theorem StIn.kept {w w' : World} {s : StV} {r : RS} (h : StIn w s r) (hk : Kept [] w w') : StIn w' s r := ⟨h.dec.kept hk, h.com.kept hk, h.frz.kept hk, h.con.kept hk⟩

def findI (l : List (Int × Int × Bool)) (n : Int) : Int := match l.findIdx? (fun c => c.1 == n) with | some i => i | none => -1
theorem findI_at {l : List (Int × Int × Bool)} {n : Int} {j : Nat} {x : Int × Int × Bool} (hx : l[j]? = some x) (he : (x.1 == n) = true) (hno : ∀ i y, i < j → l[i]? = some y → (y.1 == n) = false) : findI l n = j := by
  obtain ⟨hj, rfl⟩ := List.getElem?_eq_some_iff.1 hx
  have : l.findIdx? (fun c => c.1 == n) = some j := by
    rw [List.findIdx?_eq_some_iff_getElem]
    exact ⟨hj, he, fun i hi => by simpa using hno i _ hi (List.getElem?_eq_getElem (by omega))⟩
  simp [findI, this]
theorem findI_no {l : List (Int × Int × Bool)} {n : Int} (hno : ∀ i y, i < l.length → l[i]? = some y → (y.1 == n) = false) : findI l n = -1 := by
  have : l.findIdx? (fun c => c.1 == n) = none := by
    rw [List.findIdx?_eq_none_iff]
    intro x hx
    obtain ⟨i, hi⟩ := List.mem_iff_getElem?.1 hx
    exact hno i x (List.getElem?_eq_some_iff.1 hi).1 hi
  simp [findI, this]

def RetN (n : Int) (w : World) (e : Ending) (w' : World) : Prop := e = .returned (.int .i64 n) ∧ Kept [] w w'
def NoneTo (l : List (Int × Int × Bool)) (n : Int) (j : Nat) : Prop := ∀ i y, i < j → l[i]? = some y → (y.1 == n) = false

set_option maxRecDepth 100000 in
set_option maxHeartbeats 1000000 in
theorem find_any (w : World) (s : StV) (r : RS) (n : Int) (hs : StIn w s r) : Calls Try.prog 42 #[.agg (s.cells r), .int .i64 n] w (RetN (findI r.con n) w) := by
  have hC := hs.con
  clear hs
  obtain ⟨dA, dC, mA, mC, fA, fC, kA, kC⟩ := s
  obtain ⟨dec, com, frz, con⟩ := r
  unfold StV.cells
  dsimp only at hC ⊢
  have hlc := hC.1
  have hcm := hC.2.1
  have HC := Lib.hid hC.2.2.2
  clear hC
  rcases HC.out with hnil | ⟨b, o, rfl, hcc⟩
  · have hl0 : con.length ≤ 0 := by rw [hnil]; simp
    have HF : Hid (findI con n = -1) := by rw [Hid, hnil]; rfl
    clear hnil
    go_enter Try.func42, Try.ntmps42
    go_wp2_with fail
    go_loop [5] (fun i => i = .int .i64 0) (fun _ => 0)
    case atStart => rfl
    case round =>
      subst hrel
      go_wp2_with fail
      go_ret
      rw [HF.out]
      exact ⟨rfl, Kept.alloc _ _ _⟩
  · have HCC := Lib.hid hcc
    clear hcc
    go_enter Try.func42, Try.ntmps42
    go_wp2_with fail
    go_loop [5] (fun i => ∃ j : Nat, j ≤ con.length ∧ i = .int .i64 j ∧ NoneTo con n j) (fun i => con.length - (intOf i).toNat)
    case atStart => exact ⟨0, Nat.zero_le _, rfl, fun i y h => absurd h (by omega)⟩
    case round =>
      obtain ⟨j, hj, rfl, hno⟩ := hrel
      have HNO := Lib.hid hno
      clear hno
      by_cases hlt : j < con.length
      · obtain ⟨x, hx⟩ : ∃ x, con[j]? = some x := ⟨_, List.getElem?_eq_getElem hlt⟩
        have q : (w.alloc (Obj.cells #[.slice dA dec.length dC, .slice mA com.length mC, .slice fA frz.length fC, .slice (some ⟨b, o, none⟩) con.length kC] 61)).cell? ⟨b, o + j * 3, none⟩ = some (.int .i64 x.1) := cell_kept' (Kept.toBelow (X := []) (Kept.alloc _ _ _) (Nat.le_refl _) (by simp)) (HCC.out j x hx 0 _ rfl)
        have HX := Lib.hid hx
        clear hx
        cases he : (x.1 == n)
        · have HN : Hid (NoneTo con n (j + 1)) := fun i y hi hy => by
            by_cases e : i = j
            · subst e; rw [HX.out] at hy; injection hy with hy; subst hy; exact he
            · exact HNO.out i y (by omega) hy
          go_wp2_with fail
          go_round
          case rel => exact ⟨j + 1, by omega, by go_num, HN.out⟩
          case measure => simp [intOf]; omega
        · have HF := Lib.hid (findI_at HX.out he HNO.out)
          go_wp2_with fail
          go_ret
          rw [HF.out]
          exact ⟨rfl, Kept.alloc _ _ _⟩
      · have HF : Hid (findI con n = -1) := findI_no (fun i y hi hy => HNO.out i y (by omega) hy)
        go_wp2_with fail
        go_ret
        rw [HF.out]
        exact ⟨rfl, Kept.alloc _ _ _⟩

set_option maxRecDepth 100000 in
set_option maxHeartbeats 1000000 in
theorem refExistsEv_any (w : World) (v : TabV) (t : Tab) (x : EvV) (hn : t.types.length ≤ 9223372036854775807) : Calls Try.prog 21 #[.agg (v.cells t), x.val] w (RetB (existsF t.types.length x) w) := by
  obtain ⟨kind, ty, num⟩ := x
  unfold TabV.cells EvV.val
  dsimp only
  have H2 : Hid (∀ o1 o2 : Obj, Kept [] w ((w.alloc o1).alloc o2)) := fun o1 o2 => (Kept.alloc _ _ _).trans (Kept.alloc _ _ _)
  have key : (kind = 1 ∨ kind = 2 ∨ kind = 3 ∨ kind = 4 ∨ kind = 5 ∨ kind = 6 ∨ kind = 7) ∨ ((kind == 1) = false ∧ (kind == 2) = false ∧ (kind == 3) = false ∧ (kind == 4) = false ∧ (kind == 5) = false ∧ (kind == 6) = false ∧ (kind == 7) = false) := by
    simp only [beq_eq_false_iff_ne]; omega
  rcases key with (rfl | rfl | rfl | rfl | rfl | rfl | rfl) | ⟨h1, h2, h3, h4, h5, h6, h7⟩
  · have HF : Hid (existsF t.types.length ⟨1, ty, num⟩ = exI t.types.length ty) := rfl
    go_enter Try.func21, Try.ntmps21
    go_wp2_with fail
    refine (refExists_any v t ty _ hn).mono ?_
    rintro e w1 ⟨rfl, hk1⟩
    have HK := Lib.hid ((H2.out _ _).trans hk1)
    clear hk1
    go_wp2_with fail
    go_ret
    exact ⟨by rw [HF.out]; rfl, HK.out⟩
  · have HF : Hid (existsF t.types.length ⟨2, ty, num⟩ = exI t.types.length ty) := rfl
    go_enter Try.func21, Try.ntmps21
    go_wp2_with fail
    refine (refExists_any v t ty _ hn).mono ?_
    rintro e w1 ⟨rfl, hk1⟩
    have HK := Lib.hid ((H2.out _ _).trans hk1)
    clear hk1
    go_wp2_with fail
    go_ret
    exact ⟨by rw [HF.out]; rfl, HK.out⟩
  · have HF : Hid (existsF t.types.length ⟨3, ty, num⟩ = exI t.types.length ty) := rfl
    go_enter Try.func21, Try.ntmps21
    go_wp2_with fail
    refine (refExists_any v t ty _ hn).mono ?_
    rintro e w1 ⟨rfl, hk1⟩
    have HK := Lib.hid ((H2.out _ _).trans hk1)
    clear hk1
    go_wp2_with fail
    go_ret
    exact ⟨by rw [HF.out]; rfl, HK.out⟩
  · have HF : Hid (existsF t.types.length ⟨4, ty, num⟩ = exI t.types.length ty) := rfl
    go_enter Try.func21, Try.ntmps21
    go_wp2_with fail
    refine (refExists_any v t ty _ hn).mono ?_
    rintro e w1 ⟨rfl, hk1⟩
    have HK := Lib.hid ((H2.out _ _).trans hk1)
    clear hk1
    go_wp2_with fail
    go_ret
    exact ⟨by rw [HF.out]; rfl, HK.out⟩
  · go_enter Try.func21, Try.ntmps21
    go_wp2_with fail
    refine (refExists_any v t ty _ hn).mono ?_
    rintro e w1 ⟨rfl, hk1⟩
    have HK := Lib.hid ((H2.out _ _).trans hk1)
    have q := hk1.cell (p := ⟨w.heap.size + 1, 2, none⟩) (v := .int .i64 num) (by go_simp) (by simp)
    clear hk1
    cases he : exI t.types.length ty
    · have HF : Hid (existsF t.types.length ⟨5, ty, num⟩ = false) := by simp [Hid, existsF, he]
      clear he
      go_wp2_with fail
      go_ret
      exact ⟨by rw [HF.out]; rfl, HK.out⟩
    · cases hd : decide (0 ≤ num)
      · have HF : Hid (existsF t.types.length ⟨5, ty, num⟩ = false) := by simp only [Hid, existsF, he, hd]; rfl
        clear he
        go_wp2_with fail
        go_ret
        exact ⟨by rw [HF.out]; rfl, HK.out⟩
      · have HF : Hid (existsF t.types.length ⟨5, ty, num⟩ = true) := by simp only [Hid, existsF, he, hd]; rfl
        clear he
        go_wp2_with fail
        go_ret
        exact ⟨by rw [HF.out]; rfl, HK.out⟩
  · cases hd : decide (0 ≤ num)
    · have HF : Hid (existsF t.types.length ⟨6, ty, num⟩ = false) := hd
      go_enter Try.func21, Try.ntmps21
      go_wp2_with fail
      go_ret
      exact ⟨by rw [HF.out]; rfl, H2.out _ _⟩
    · have HF : Hid (existsF t.types.length ⟨6, ty, num⟩ = true) := hd
      go_enter Try.func21, Try.ntmps21
      go_wp2_with fail
      go_ret
      exact ⟨by rw [HF.out]; rfl, H2.out _ _⟩
  · cases hd : decide (0 ≤ num)
    · have HF : Hid (existsF t.types.length ⟨7, ty, num⟩ = false) := hd
      go_enter Try.func21, Try.ntmps21
      go_wp2_with fail
      go_ret
      exact ⟨by rw [HF.out]; rfl, H2.out _ _⟩
    · have HF : Hid (existsF t.types.length ⟨7, ty, num⟩ = true) := hd
      go_enter Try.func21, Try.ntmps21
      go_wp2_with fail
      go_ret
      exact ⟨by rw [HF.out]; rfl, H2.out _ _⟩
  · have HF : Hid (existsF t.types.length ⟨kind, ty, num⟩ = (kind == 8 || kind == 9)) := by simp [Hid, existsF, h1, h2, h3, h4, h5, h6, h7]
    cases h8 : (kind == 8)
    · cases h9 : (kind == 9)
      · have HG : Hid ((kind == 8 || kind == 9) = false) := by simp [Hid, h8, h9]
        go_enter Try.func21, Try.ntmps21
        go_wp2_with fail
        go_ret
        exact ⟨by rw [HF.out, HG.out]; rfl, H2.out _ _⟩
      · have HG : Hid ((kind == 8 || kind == 9) = true) := by simp [Hid, h9]
        go_enter Try.func21, Try.ntmps21
        go_wp2_with fail
        go_ret
        exact ⟨by rw [HF.out, HG.out]; rfl, H2.out _ _⟩
    · have HG : Hid ((kind == 8 || kind == 9) = true) := by simp [Hid, h8]
      go_enter Try.func21, Try.ntmps21
      go_wp2_with fail
      go_ret
      exact ⟨by rw [HF.out, HG.out]; rfl, H2.out _ _⟩
end Go.Proofs.Ytbjnoffdafpkgaa
