/- The reference's freeze. The reference's ends. -/
import Derived.Test.YtbjnoffdafpkgaaR3
import Derived.Deep.RegionWith
import Derived.Test.YtbjnoffdafpkgaaQ1
namespace Go.Proofs.Ytbjnoffdafpkgaa
open Go.RowKit

/-- A state in a box. -/
def SRow (w : World) (B : Nat) (s : StV) (r : RS) : Prop := w.heap[B]? = some (.cells (s.cells r) 61 (0, 0))
theorem SRow.cell {w : World} {B : Nat} {s : StV} {r : RS} (h : SRow w B s r) {i : Nat} {u : Value} (hu : (s.cells r)[i]? = some u) : w.cell? ⟨B, i, none⟩ = some u := by
  rw [cell_of_row _ _ _ _ _ _ h]; exact hu
theorem SRow.c0 {w : World} {B : Nat} {s : StV} {r : RS} (h : SRow w B s r) : w.cell? ⟨B, 0, none⟩ = some (.slice s.dA r.dec.length s.dC) := h.cell rfl
theorem SRow.c1 {w : World} {B : Nat} {s : StV} {r : RS} (h : SRow w B s r) : w.cell? ⟨B, 1, none⟩ = some (.slice s.mA r.com.length s.mC) := h.cell rfl
theorem SRow.c2 {w : World} {B : Nat} {s : StV} {r : RS} (h : SRow w B s r) : w.cell? ⟨B, 2, none⟩ = some (.slice s.fA r.frz.length s.fC) := h.cell rfl
theorem SRow.c3 {w : World} {B : Nat} {s : StV} {r : RS} (h : SRow w B s r) : w.cell? ⟨B, 3, none⟩ = some (.slice s.kA r.con.length s.kC) := h.cell rfl
/-- A box that holds nothing yet. -/
def ZRow (w : World) (B : Nat) : Prop := SRow w B ⟨none, 0, none, 0, none, 0, none, 0⟩ RS.zero
theorem ZRow.z {w : World} {B : Nat} (h : ZRow w B) : (w.cell? ⟨B, 0, none⟩ = some (.slice none 0 0) ∧ w.cell? ⟨B, 1, none⟩ = some (.slice none 0 0) ∧ w.cell? ⟨B, 2, none⟩ = some (.slice none 0 0) ∧ w.cell? ⟨B, 3, none⟩ = some (.slice none 0 0)) ∧
    w.frozen? ⟨B, 0, none⟩ = false ∧ w.frozen? ⟨B, 1, none⟩ = false ∧ w.frozen? ⟨B, 2, none⟩ = false ∧ w.frozen? ⟨B, 3, none⟩ = false := by
  refine ⟨⟨?_, ?_, ?_, ?_⟩, ?_, ?_, ?_, ?_⟩
  · rw [cell_of_row _ _ _ _ _ _ h]; rfl
  · rw [cell_of_row _ _ _ _ _ _ h]; rfl
  · rw [cell_of_row _ _ _ _ _ _ h]; rfl
  · rw [cell_of_row _ _ _ _ _ _ h]; rfl
  all_goals (unfold ZRow SRow at h; simp [World.frozen?, h])
theorem ZRow.kept {w w' : World} {B : Nat} {X : List Nat} (h : ZRow w B) (hk : Kept X w w') (hx : B ∉ X) : ZRow w' B := hk.obj h hx
theorem SRow.frozen {w : World} {B : Nat} {s : StV} {r : RS} (h : SRow w B s r) (i : Nat) : w.frozen? ⟨B, i, none⟩ = false := by
  unfold SRow at h
  simp [World.frozen?, h]
theorem SRow.lt {w : World} {B : Nat} {s : StV} {r : RS} (h : SRow w B s r) : B < w.heap.size := (Array.getElem?_eq_some_iff.1 h).1
theorem SRow.isSlice {w : World} {B : Nat} {s : StV} {r : RS} (h : SRow w B s r) {i : Nat} {u : Value} (hu : w.cell? ⟨B, i, none⟩ = some u) : ∃ a n c, u = .slice a n c := by
  rw [cell_of_row _ _ _ _ _ _ h] at hu
  unfold StV.cells at hu
  match i with
  | 0 => simp at hu; exact ⟨_, _, _, hu.symm⟩
  | 1 => simp at hu; exact ⟨_, _, _, hu.symm⟩
  | 2 => simp at hu; exact ⟨_, _, _, hu.symm⟩
  | 3 => simp at hu; exact ⟨_, _, _, hu.symm⟩
  | i + 4 => simp at hu
theorem IntsC.far {w w' : World} {B : Nat} {s : StV} {r : RS} {v : Value} {xs : List Int} (h : IntsC w v xs) (hB : SRow w B s r) (hk : Kept [B] w w') : IntsC w' v xs := by
  obtain ⟨a, c, rfl, h1, h2, h4, h3⟩ := h
  refine ⟨a, c, rfl, h1, h2, h4, ?_⟩
  rcases h3 with rfl | ⟨b, off, rfl, hc⟩
  · exact .inl rfl
  · refine .inr ⟨b, off, rfl, fun j x hx => hk.cell (hc j x hx) ?_⟩
    intro hm
    have : b = B := by simpa using hm
    subst this
    obtain ⟨_, _, _, e⟩ := hB.isSlice (hc j x hx)
    cases e
theorem ConC.far {w w' : World} {B : Nat} {s : StV} {r : RS} {a : Option Addr} {c : Nat} {l : List (Int × Int × Bool)} (h : ConC w a c l) (hB : SRow w B s r) (hk : Kept [B] w w') : ConC w' a c l := by
  refine ⟨h.1, h.2.1, h.2.2.1, ?_⟩
  rcases h.2.2.2 with h | ⟨b, off, ha, h⟩
  · exact .inl h
  · refine .inr ⟨b, off, ha, fun j x hx i u hu => hk.cell (h j x hx i u hu) ?_⟩
    intro hm
    have : b = B := by simpa using hm
    subst this
    obtain ⟨_, _, _, e⟩ := hB.isSlice (h j x hx i u hu)
    subst e
    unfold conCells at hu
    match i with
    | 0 => simp at hu
    | 1 => simp at hu
    | 2 => simp at hu
    | i + 3 => simp at hu
theorem StIn.far {w w' : World} {B : Nat} {s : StV} {r : RS} {s' : StV} {r' : RS} (h : StIn w s' r') (hB : SRow w B s r) (hk : Kept [B] w w') : StIn w' s' r' :=
  ⟨h.dec.far hB hk, h.com.far hB hk, h.frz.far hB hk, h.con.far hB hk⟩
theorem SRow.kept {w w' : World} {B : Nat} {s : StV} {r : RS} {X : List Nat} (h : SRow w B s r) (hk : Kept X w w') (hx : B ∉ X) : SRow w' B s r := hk.obj h hx
theorem SRow.set2 {w : World} {B : Nat} {s : StV} {r : RS} (h : SRow w B s r) (fA : Option Addr) (fC : Nat) (f : List Int) :
    SRow (w.setCell ⟨B, 2, none⟩ (.slice fA f.length fC)) B { s with fA := fA, fC := fC } { r with frz := f } := by
  unfold SRow at h ⊢
  simp [World.setCell, Array.getElem?_modify, h, StV.cells]

/-- A state and a truth value are returned. -/
def RetS (q : RS × Bool) (w : World) (e : Ending) (w' : World) : Prop := ∃ s : StV, e = .returned (.tuple #[.agg (s.cells q.1), .bool q.2]) ∧ StIn w' s q.1 ∧ Kept [] w w'

theorem has_q {w : World} {v : Value} {xs : List Int} {n : Int} {k : Nat} {b : Bool} (hv : IntsC w v xs) (h : hasI xs n = b) :
    Calls Try.prog 43 #[v, .int .i64 n] (w.drewN k) fun e w'' => e = .returned (.bool b) ∧ ∃ m, w'' = w.drewN m :=
  (has_any (w.drewN k) v xs n (hv.kept (Kept.drewN _ _ _)).ints).mono fun _ _ ⟨he, hm⟩ => ⟨by rw [he, h], k, hm.symm⟩

theorem needsR_okl (t : Tab) (ty : Int) : ∀ (f : Nat) (l : List Int), Okl t.types.length ty l → Okl t.types.length ty (needsR t f l) := by
  intro f
  induction f with
  | zero => intro l h; exact h
  | succ f ih =>
    intro l h
    unfold needsR
    split
    · exact h
    · exact ih _ h.step
theorem needs_len (t : Tab) (ty : Int) : (needs t ty).length ≤ t.types.length + 1 := (needsR_okl t ty _ [ty] ⟨by simp [Asc], by simp⟩).len

/-- The list of frozen types as it grows. -/
def FInv (s : StV) (r : RS) (l : List Int) (B : Nat) (w5 : World) (j : Nat) (wr : World) : Prop :=
  ∃ fA fC, SRow wr B { s with fA := fA, fC := fC } { r with frz := (l.take j).foldl withR r.frz } ∧ IntsC wr (.slice fA ((l.take j).foldl withR r.frz).length fC) ((l.take j).foldl withR r.frz) ∧ Kept [B] w5 wr
theorem fold_with_len : ∀ (p a : List Int), (p.foldl withR a).length ≤ a.length + p.length := by
  intro p
  induction p with
  | nil => intro a; simp
  | cons x p ih => intro a; have := ih (withR a x); have := withR_len a x; simp only [List.foldl_cons, List.length_cons]; omega
theorem FInv.next {s : StV} {r : RS} {l : List Int} {B : Nat} {w5 wr w6 : World} {j : Nat} {x : Int} {A : Option Addr} {c : Nat} {fA : Option Addr} {fC : Nat} (hx : l[j]? = some x)
    (hrow : SRow wr B { s with fA := fA, fC := fC } { r with frz := (l.take j).foldl withR r.frz }) (hk : Kept [B] w5 wr) (hk6 : Kept [] wr w6) (hi : IntsC w6 (.slice A (withR ((l.take j).foldl withR r.frz) x).length c) (withR ((l.take j).foldl withR r.frz) x)) :
    FInv s r l B w5 (j + 1) (w6.setCell ⟨B, 2, none⟩ (.slice A (withR ((l.take j).foldl withR r.frz) x).length c)) := by
  have hr6 := hrow.kept hk6 (by simp)
  refine ⟨A, c, ?_, ?_, ?_⟩
  · rw [withTo l hx]
    exact hr6.set2 A c _
  · rw [withTo l hx]
    exact hi.far hr6 (Kept.setCell _ _ _ (by simp))
  · exact hk.trans ((hk6.mono (by simp)).trans (Kept.setCell _ _ _ (by simp)))

/-- The world behind a state that is stored whole. -/
def stored4 (w : World) (B : Nat) (s : StV) (r : RS) : World :=
  (((w.setCell ⟨B, 0, none⟩ (.slice s.dA r.dec.length s.dC)).setCell ⟨B, 1, none⟩ (.slice s.mA r.com.length s.mC)).setCell ⟨B, 2, none⟩ (.slice s.fA r.frz.length s.fC)).setCell ⟨B, 3, none⟩ (.slice s.kA r.con.length s.kC)
theorem stored4_kept (w : World) (B : Nat) (s : StV) (r : RS) : Kept [B] w (stored4 w B s r) :=
  (((Kept.setCell _ _ _ (by simp)).trans (Kept.setCell _ _ _ (by simp))).trans (Kept.setCell _ _ _ (by simp))).trans (Kept.setCell _ _ _ (by simp))
theorem stored4_row {w : World} {B : Nat} {s s0 : StV} {r r0 : RS} (h : SRow w B s0 r0) : SRow (stored4 w B s r) B s r := by
  unfold SRow at h ⊢
  simp [stored4, World.setCell, Array.getElem?_modify, h, StV.cells]
theorem st_end {w wr w2 : World} {B : Nat} {s s' : StV} {r r' : RS} (hB : SRow wr B s' r') (hlt : w.heap.size ≤ B) (hs : StIn wr s r) (hk : Kept [] w wr) (hw : Kept [B] wr w2) : StIn w2 s r ∧ Kept [] w w2 :=
  ⟨hs.far hB hw, ((hk.mono (by simp)).trans hw).mono' (fun x hx hl => by simp at hx; omega)⟩

def badF (r : RS) (x : Int) : Bool := r.dec.contains x && !r.com.contains x

theorem badF_eq (r : RS) (x : Int) : badF r x = (hasI r.dec x && !hasI r.com x) := rfl
theorem refFreeze_no {t : Tab} {r : RS} {ty x : Int} {l : List Int} (hl : needs t ty = l) (hm : x ∈ l) (hb : badF r x = true) : freezeR t r ty = (r, false) := by
  have : (l.any fun x => r.dec.contains x && !r.com.contains x) = true := List.any_eq_true.2 ⟨x, hm, hb⟩
  unfold freezeR
  rw [hl, if_pos this]
theorem refFreeze_yes {t : Tab} {r : RS} {ty : Int} {l : List Int} (hl : needs t ty = l) (hb : l.any (badF r) = false) : freezeR t r ty = ({ r with frz := l.foldl withR r.frz }, true) := by
  have : (l.any fun x => r.dec.contains x && !r.com.contains x) = false := hb
  unfold freezeR
  rw [hl, if_neg (by rw [this]; simp)]

set_option maxRecDepth 100000 in
set_option maxHeartbeats 1000000 in
theorem refFreeze_any (w : World) (s : StV) (r : RS) (v : TabV) (t : Tab) (ty : Int) (hS : StIn w s r) (hT : TabIn w v t) (hs : Small t) (hN : t.types.length ≤ 1000) (hx : exI t.types.length ty = true) (hF : r.frz.length ≤ 1000000) :
    Calls Try.prog 44 #[.agg (s.cells r), .agg (v.cells t), .int .i64 ty] w (RetS (freezeR t r ty) w) := by
  have HT := Lib.hid hT
  have HS := Lib.hid hs
  have HSI := Lib.hid hS
  have HEX := Lib.hid hx
  clear hT hs hS hx
  have HSC : Hid (s.cells r = #[.slice s.dA r.dec.length s.dC, .slice s.mA r.com.length s.mC, .slice s.fA r.frz.length s.fC, .slice s.kA r.con.length s.kC]) := rfl
  rw [HSC.out]
  unfold TabV.cells
  go_enter Try.func44, Try.ntmps44
  go_upto_region 1 with (fail)
  refine wp_gen ?_
  intro w3 hw3
  have hk3 : Kept [] w w3 := by rw [hw3]; exact ((Kept.alloc _ _ _).trans (Kept.alloc _ _ _)).trans (Kept.alloc _ _ _)
  have HTB : Hid (TBox v t (w.heap.size + 1) w3) := TBox.of_block (by rw [hw3]; exact obj_old (obj_new (by simp)) (by simp)) (HT.out.kept (hk3.toBelow (Nat.le_refl _) (by simp)))
  have HSR : Hid (SRow w3 w.heap.size s r) := by
    rw [Hid, SRow, hw3]; exact obj_old (obj_old (heap_alloc_new _ _) (by simp)) (by simp; omega)
  have HRR : Hid (ZRow w3 (w.heap.size + 1 + 1)) := by
    rw [Hid, ZRow, SRow, hw3]; exact obj_new (by simp)
  have HSI3 := Lib.hid (HSI.out.kept hk3)
  have HK3 := Lib.hid hk3
  obtain ⟨c0, c1, c2, c3, c4, _⟩ := HTB.out
  clear hk3 hw3 HSI
  go_wp2_with fail
  refine (needs_any w3 v t ty HTB.out.tab HS.out hN).mono ?_
  rintro e w4 ⟨u8, rfl, hi8, hk8⟩
  have HK4 := Lib.hid (HK3.out.trans hk8)
  have HSR4 := Lib.hid (HSR.out.kept hk8 (by simp))
  have HRR4 := Lib.hid (HRR.out.kept hk8 (by simp))
  have HSI4 := Lib.hid (HSI3.out.kept hk8)
  have HI8 := Lib.hid hi8
  have hnl : (needs t ty).length ≤ 1001 := by
    have := needs_len t ty
    omega
  have hne : ty ∈ needs t ty := ((needs_res t ty HEX.out).2 ty).2 (.refl _)
  clear c0 c1 c2 c3 c4 hk8 HTB HSR HRR HSI3 HK3
  generalize hll : needs t ty = l at *
  have HLL := Lib.hid hll
  have hlp := List.length_pos_of_mem hne
  clear hll hne
  obtain ⟨A8, cc8, rfl, h8a, h8b, _, hc8⟩ := hi8
  rcases hc8 with hnil | ⟨b8, o8, rfl, hc8⟩
  · exact absurd hlp (by rw [hnil]; simp)
  have HC8 := Lib.hid hc8
  clear hc8
  go_upto_block 0 with (fail)
  go_cut [] (fun wc => l.any (badF r) = false ∧ Kept [] w4 wc)
  case first =>
    go_wp2_with fail
    go_loopw [9] (fun i wr => ∃ j : Nat, j ≤ l.length ∧ i = .int .i64 j ∧ (l.take j).any (badF r) = false ∧ Kept [] w4 wr) (fun i _ => l.length - (intOf i).toNat)
    case atStart => exact ⟨0, Nat.zero_le _, rfl, rfl, Kept.refl _ _⟩
    case round =>
      obtain ⟨j, hj, rfl, hno, hkr⟩ := hrel
      have HNO := Lib.hid hno
      have HKR := Lib.hid hkr
      clear hno hkr
      by_cases hlt : j < l.length
      · obtain ⟨x, hx⟩ : ∃ x, l[j]? = some x := ⟨_, List.getElem?_eq_getElem hlt⟩
        have HAN : Hid ((l.take (j + 1)).any (badF r) = ((l.take j).any (badF r) || badF r x)) := by
          obtain ⟨h1, rfl⟩ := List.getElem?_eq_some_iff.1 hx
          rw [Hid, List.take_succ_eq_append_getElem h1, List.any_append]; simp
        have HMX := Lib.hid (List.mem_of_getElem? hx)
        have q := HKR.out.cell (HC8.out j x hx) (by simp)
        have g0 := (HSR4.out.kept HKR.out (by simp)).c0
        have g1 := (HSR4.out.kept HKR.out (by simp)).c1
        have HSIr := Lib.hid (HSI4.out.kept HKR.out)
        clear hx
        cases hd : hasI r.dec x
        · have HB : Hid (badF r x = false) := by rw [Hid, badF_eq, hd]; rfl
          have HD := Lib.hid hd
          clear hd
          go_upto_region 5 with (fail)
          go_quiet ((go_at_call 43; exact has_q HSIr.out.dec HD.out))
          go_wp2_with fail
          go_roundw
          case rel => exact ⟨j + 1, by omega, by go_num, by rw [HAN.out, HNO.out, HB.out]; rfl, HKR.out.trans (Kept.drewN _ _ _)⟩
          case measure => simp [intOf]; omega
        · cases hm : hasI r.com x
          · have HB : Hid (badF r x = true) := by rw [Hid, badF_eq, hd, hm]; rfl
            have HD := Lib.hid hd
            have HM := Lib.hid hm
            clear hd hm
            have HRES := Lib.hid (refFreeze_no HLL.out HMX.out HB.out)
            have hrr := HRR4.out.kept HKR.out (by simp)
            have hsr := HSR4.out.kept HKR.out (by simp)
            have g2 := hsr.c2
            have g3 := hsr.c3
            obtain ⟨⟨e0, e1, e2, e3⟩, z0, z1, z2, z3⟩ := hrr.z
            clear hrr hsr
            go_upto_region 5 with (fail)
            go_quiet ((go_at_call 43; first | exact has_q HSIr.out.dec HD.out | exact has_q HSIr.out.com HM.out))
            go_wp2_with fail
            refine bodyPost_ret (v := .tuple #[.agg #[.slice s.dA r.dec.length s.dC, .slice s.mA r.com.length s.mC, .slice s.fA r.frz.length s.fC, .slice s.kA r.con.length s.kC], .bool false]) (by simp [results, Try.results44, go_sem, e0, e1, e2, e3]) rfl ?_
            have hfin := st_end (w := w) (HRR4.out.kept HKR.out (by simp)) (by omega) HSIr.out (HK4.out.trans HKR.out) (w2 := stored4 (wr.drewN nq) (w.heap.size + 1 + 1) s r) ((Kept.drewN _ _ _).trans (stored4_kept _ _ _ _))
            rw [HRES.out]
            exact ⟨s, rfl, hfin.1, hfin.2⟩
          · have HB : Hid (badF r x = false) := by rw [Hid, badF_eq, hd, hm]; rfl
            have HD := Lib.hid hd
            have HM := Lib.hid hm
            clear hd hm
            go_upto_region 5 with (fail)
            go_quiet ((go_at_call 43; first | exact has_q HSIr.out.dec HD.out | exact has_q HSIr.out.com HM.out))
            go_wp2_with fail
            go_roundw
            case rel => exact ⟨j + 1, by omega, by go_num, by rw [HAN.out, HNO.out, HB.out]; rfl, HKR.out.trans (Kept.drewN _ _ _)⟩
            case measure => simp [intOf]; omega
      · obtain rfl : j = l.length := by omega
        have HF : Hid (l.take l.length = l) := List.take_length
        go_wp2_with fail
        go_meet
        rw [HF.out] at HNO
        exact ⟨HNO.out, HKR.out⟩
  case rest =>
    obtain ⟨hno, hkc⟩ := hcut
    have HRES := Lib.hid (refFreeze_yes HLL.out hno)
    have HSR5 := Lib.hid (HSR4.out.kept hkc (by simp))
    have HRR5 := Lib.hid (HRR4.out.kept hkc (by simp))
    have HSI5 := Lib.hid (HSI4.out.kept hkc)
    have HK5 := Lib.hid (HK4.out.trans hkc)
    have HC5 : Hid (∀ (j : Nat) (x : Int), l[j]? = some x → wc.cell? ⟨b8, o8 + j, none⟩ = some (.int .i64 x)) := fun j x hx => hkc.cell (HC8.out j x hx) (by simp)
    have HNB : Hid (∀ (j : Nat) (x : Int), l[j]? = some x → b8 ∉ [w.heap.size]) := fun j x hx hm => by
      have : b8 = w.heap.size := by simpa using hm
      have hc := HC5.out j x hx
      rw [this] at hc
      obtain ⟨_, _, _, e⟩ := HSR5.out.isSlice hc
      cases e
    obtain ⟨w5, rfl⟩ : ∃ w5 : World, w5 = wc := ⟨_, rfl⟩
    clear hno hkc HSR4 HRR4 HSI4 HK4 HC8 HI8
    go_wp2_with fail
    go_loopw [10] (fun i wr => ∃ j : Nat, j ≤ l.length ∧ i = .int .i64 j ∧ FInv s r l w.heap.size w5 j wr) (fun i _ => l.length - (intOf i).toNat)
    case atStart => exact ⟨0, Nat.zero_le _, rfl, s.fA, s.fC, HSR5.out, HSI5.out.frz, Kept.refl _ _⟩
    case round =>
      obtain ⟨j, hj, rfl, fA, fC, hrow, hif, hkr⟩ := hrel
      have HROW := Lib.hid hrow
      have HIF := Lib.hid hif
      have HKR := Lib.hid hkr
      clear hrow hif hkr
      by_cases hlt : j < l.length
      · obtain ⟨x, hx⟩ : ∃ x, l[j]? = some x := ⟨_, List.getElem?_eq_getElem hlt⟩
        have q := HKR.out.cell (HC5.out j x hx) (HNB.out j x hx)
        have g2 := HROW.out.c2
        have HX := Lib.hid hx
        have hln := fold_with_len (l.take j) r.frz
        have hl2 : ((l.take j).foldl withR r.frz).length ≤ 2000000 := by simp at hln; omega
        have HL2 := Lib.hid hl2
        clear hx hln hl2
        go_upto_region 10 with (fail)
        go_region_with (go_at_call 30
                        refine (with_any _ _ ((l.take j).foldl withR r.frz) x (HIF.out.kept (Kept.drew _ _)) HL2.out).mono ?_
                        rintro e w6 ⟨u6, rfl, hi6, hk6⟩
                        have HK6 := Lib.hid ((Kept.drew _ _).trans hk6)
                        have HI6 := Lib.hid hi6
                        obtain ⟨A6, cc6, rfl, _⟩ := hi6
                        have t2 := (HROW.out.kept HK6.out (by simp)).c2
                        have t3 := (HROW.out.kept HK6.out (by simp)).frozen 2
                        clear hk6)
        all_goals
          have HFN := Lib.hid (FInv.next (A := A6) (c := cc6) HX.out HROW.out HKR.out HK6.out HI6.out)
          clear t2 t3 g2 q
          go_wp2_with fail
          go_roundw
          case rel => exact ⟨j + 1, by omega, by go_num, HFN.out⟩
          case measure => simp [intOf]; omega
      · obtain rfl : j = l.length := by omega
        have HF : Hid (l.take l.length = l) := List.take_length
        rw [HF.out] at HROW HIF
        have HSF : Hid (StIn wr { s with fA := fA, fC := fC } { r with frz := l.foldl withR r.frz }) :=
          ⟨HSI5.out.dec.far HSR5.out HKR.out, HSI5.out.com.far HSR5.out HKR.out, HIF.out, HSI5.out.con.far HSR5.out HKR.out⟩
        have g0 := HROW.out.c0
        have g1 := HROW.out.c1
        have g2 := HROW.out.c2
        have g3 := HROW.out.c3
        have HZR := Lib.hid (HRR5.out.kept HKR.out (by simp; omega))
        obtain ⟨⟨e0, e1, e2, e3⟩, z0, z1, z2, z3⟩ := HZR.out.z
        have HKF : Hid (Kept [] w wr) := ((HK5.out.mono (by simp)).trans HKR.out).mono' (fun x hx hl => by simp at hx; omega)
        generalize l.foldl withR r.frz = fz at *
        go_wp2_with fail
        refine bodyPost_ret (v := .tuple #[.agg #[.slice s.dA r.dec.length s.dC, .slice s.mA r.com.length s.mC, .slice fA fz.length fC, .slice s.kA r.con.length s.kC], .bool true]) (by simp [results, Try.results44, go_sem, e0, e1, e2, e3]) rfl ?_
        have hfin := st_end (w := w) HZR.out (by omega) HSF.out HKF.out (stored4_kept _ _ { s with fA := fA, fC := fC } { r with frz := fz })
        rw [HRES.out]
        exact ⟨_, rfl, hfin.1, hfin.2⟩
end Go.Proofs.Ytbjnoffdafpkgaa
namespace Go.Proofs.Ytbjnoffdafpkgaa
open Go.RowKit

theorem freezeR_dec (t : Tab) (r : RS) (x : Int) : (freezeR t r x).1.dec = r.dec := by unfold freezeR; split <;> rfl
def foldF (t : Tab) (l : List Int) (r : RS) : RS := l.foldl (fun s x => (freezeR t s x).1) r
theorem foldF_dec (t : Tab) : ∀ (l : List Int) (r : RS), (foldF t l r).dec = r.dec := by
  intro l
  induction l with
  | nil => intro r; rfl
  | cons x l ih => intro r; exact (ih _).trans (freezeR_dec t r x)
theorem foldF_succ (t : Tab) (l : List Int) (r : RS) {j : Nat} {x : Int} (h : l[j]? = some x) : foldF t (l.take (j + 1)) r = (freezeR t (foldF t (l.take j) r) x).1 := by
  obtain ⟨h1, rfl⟩ := List.getElem?_eq_some_iff.1 h
  unfold foldF
  rw [List.take_succ_eq_append_getElem h1, List.foldl_append]; rfl
theorem foldF_inv {t : Tab} : ∀ (l : List Int) (r : RS), RInv t r → (∀ x, x ∈ l → exI t.types.length x = true) → RInv t (foldF t l r) := by
  intro l
  induction l with
  | nil => intro r h _; exact h
  | cons x l ih => intro r h hl; exact ih _ (freezeR_grows h (hl x (by simp))).1 (fun y hy => hl y (by simp [hy]))
theorem RInv.frz_len {t : Tab} {r : RS} (h : RInv t r) : r.frz.length ≤ t.types.length := range_len (asc_nodup h.asc) h.ex

theorem Kept.trans0 {a b c : World} (h : Kept [] a b) {B : Nat} (k : Kept [B] b c) (hB : a.heap.size ≤ B) : Kept [] a c :=
  ((h.mono (by simp)).trans k).mono' (fun x hx hl => by simp at hx; omega)
theorem IntsC.at_ {w : World} {a : Option Addr} {n c : Nat} {xs : List Int} (h : IntsC w (.slice a n c) xs) : xs = [] ∨ ∃ b off, a = some ⟨b, off, none⟩ ∧ ∀ (j : Nat) (x : Int), xs[j]? = some x → w.cell? ⟨b, off + j, none⟩ = some (.int .i64 x) := by
  obtain ⟨a', c', e, _, _, _, h⟩ := h
  injection e with e1 e2 e3
  subst e1
  exact h
theorem SRow.set4 {w : World} {B : Nat} {s s0 : StV} {r r0 : RS} (h : SRow w B s0 r0) : SRow (stored4 w B s r) B s r := stored4_row h

/-- The state in the box while the declared types are frozen. -/
def EInv (t : Tab) (r : RS) (B : Nat) (w5 : World) (j : Nat) (wr : World) : Prop :=
  ∃ s : StV, SRow wr B s (foldF t (r.dec.take j) r) ∧ StIn wr s (foldF t (r.dec.take j) r) ∧ Kept [B] w5 wr

def lateC (last : Bool) (c : Int × Int × Bool) : Bool := last && !c.2.2
theorem endsR_no1 {t : Tab} {r : RS} {last : Bool} {x : Int} (hm : x ∈ r.dec) (hb : hasI r.com x = false) : endsR t r last = (r, false) := by
  have : (r.dec.any fun x => !r.com.contains x) = true := List.any_eq_true.2 ⟨x, hm, by simpa [hasI] using hb⟩
  unfold endsR
  rw [if_pos this]
theorem endsR_no2 {t : Tab} {r : RS} {last : Bool} {c : Int × Int × Bool} (h1 : r.dec.any (fun x => !hasI r.com x) = false) (hm : c ∈ r.con) (hb : lateC last c = true) : endsR t r last = (r, false) := by
  have h1' : (r.dec.any fun x => !r.com.contains x) = false := h1
  have : (r.con.any fun c => last && !c.2.2) = true := List.any_eq_true.2 ⟨c, hm, hb⟩
  unfold endsR
  rw [if_neg (by rw [h1']; simp), if_pos this]
theorem endsR_yes {t : Tab} {r : RS} {last : Bool} (h1 : r.dec.any (fun x => !hasI r.com x) = false) (h2 : r.con.any (lateC last) = false) : endsR t r last = (foldF t r.dec r, true) := by
  have h1' : (r.dec.any fun x => !r.com.contains x) = false := h1
  have h2' : (r.con.any fun c => last && !c.2.2) = false := h2
  unfold endsR
  rw [if_neg (by rw [h1']; simp), if_neg (by rw [h2']; simp)]
  rfl

theorem any_take_succ {α : Type} (l : List α) (p : α → Bool) {j : Nat} {x : α} (h : l[j]? = some x) : (l.take (j + 1)).any p = ((l.take j).any p || p x) := by
  obtain ⟨h1, rfl⟩ := List.getElem?_eq_some_iff.1 h
  rw [List.take_succ_eq_append_getElem h1, List.any_append]; simp

set_option maxRecDepth 100000 in
set_option maxHeartbeats 1000000 in
theorem refEnds_any (w : World) (s : StV) (r : RS) (v : TabV) (t : Tab) (last : Bool) (hS : StIn w s r) (hT : TabIn w v t) (hs : Small t) (hN : t.types.length ≤ 1000) (hI : RInv t r) (hL : r.dec.length ≤ 1000000) (hL2 : r.con.length ≤ 1000000) :
    Calls Try.prog 45 #[.agg (s.cells r), .agg (v.cells t), .bool last] w (RetS (endsR t r last) w) := by
  have HT := Lib.hid hT
  have HS := Lib.hid hs
  have HSI := Lib.hid hS
  have HI := Lib.hid hI
  clear hT hs hS hI
  have HSC : Hid (s.cells r = #[.slice s.dA r.dec.length s.dC, .slice s.mA r.com.length s.mC, .slice s.fA r.frz.length s.fC, .slice s.kA r.con.length s.kC]) := rfl
  rw [HSC.out]
  unfold TabV.cells
  go_enter Try.func45, Try.ntmps45
  go_upto_region 1 with (fail)
  refine wp_gen ?_
  intro w3 hw3
  have hk3 : Kept [] w w3 := by rw [hw3]; exact ((Kept.alloc _ _ _).trans (Kept.alloc _ _ _)).trans (Kept.alloc _ _ _)
  have HTB : Hid (TBox v t (w.heap.size + 1) w3) := TBox.of_block (by rw [hw3]; exact obj_old (obj_new (by simp)) (by simp)) (HT.out.kept (hk3.toBelow (Nat.le_refl _) (by simp)))
  have HSR : Hid (SRow w3 w.heap.size s r) := by
    rw [Hid, SRow, hw3]; exact obj_old (obj_old (heap_alloc_new _ _) (by simp)) (by simp; omega)
  have HRR : Hid (ZRow w3 (w.heap.size + 1 + 1)) := by
    rw [Hid, ZRow, SRow, hw3]; exact obj_new (by simp)
  have HSI3 := Lib.hid (HSI.out.kept hk3)
  have HK3 := Lib.hid hk3
  clear hk3 hw3 HSI
  go_upto_block 0 with (fail)
  go_cut [] (fun wc => r.dec.any (fun x => !hasI r.com x) = false ∧ Kept [] w3 wc)
  case first =>
    rcases (show r.dec = [] ∨ ∃ b9 o9, s.dA = some ⟨b9, o9, none⟩ ∧ ∀ (j : Nat) (x : Int), r.dec[j]? = some x → w3.cell? ⟨b9, o9 + j, none⟩ = some (.int .i64 x) from HSI3.out.dec.at_) with hnil | ⟨b9, o9, hA, hcl⟩
    · have hl0 : r.dec.length ≤ 0 := by rw [hnil]; simp
      have HF : Hid (r.dec.any (fun x => !hasI r.com x) = false) := by rw [Hid, hnil]; rfl
      have g0 := HSR.out.c0
      clear hnil
      go_wp2_with fail
      go_loopw [8] (fun i wr => i = .int .i64 0 ∧ wr = w3) (fun _ _ => 0)
      case atStart => exact ⟨rfl, rfl⟩
      case round =>
        obtain ⟨rfl, rfl⟩ := hrel
        go_wp2_with fail
        go_meet
        exact ⟨HF.out, Kept.refl _ _⟩
    · have HCL := Lib.hid hcl
      clear hcl
      go_wp2_with fail
      go_loopw [8] (fun i wr => ∃ j : Nat, j ≤ r.dec.length ∧ i = .int .i64 j ∧ (r.dec.take j).any (fun x => !hasI r.com x) = false ∧ Kept [] w3 wr) (fun i _ => r.dec.length - (intOf i).toNat)
      case atStart => exact ⟨0, Nat.zero_le _, rfl, rfl, Kept.refl _ _⟩
      case round =>
        obtain ⟨j, hj, rfl, hno, hkr⟩ := hrel
        have HNO := Lib.hid hno
        have HKR := Lib.hid hkr
        have g0 := (HSR.out.kept hkr (by simp)).c0
        rw [hA] at g0
        clear hno hkr
        by_cases hlt : j < r.dec.length
        · obtain ⟨x, hx⟩ : ∃ x, r.dec[j]? = some x := ⟨_, List.getElem?_eq_getElem hlt⟩
          have HAN := Lib.hid (any_take_succ r.dec (fun x => !hasI r.com x) hx)
          have HMX := Lib.hid (List.mem_of_getElem? hx)
          have q := HKR.out.cell (HCL.out j x hx) (by simp)
          have g1 := (HSR.out.kept HKR.out (by simp)).c1
          have HSIr := Lib.hid (HSI3.out.kept HKR.out)
          clear hx
          cases hm : hasI r.com x
          · have HM := Lib.hid hm
            have HRES := Lib.hid (endsR_no1 (t := t) (last := last) HMX.out hm)
            have hrr := HRR.out.kept HKR.out (by simp)
            have hsr := HSR.out.kept HKR.out (by simp)
            have g2 := hsr.c2
            have g3 := hsr.c3
            obtain ⟨⟨e0, e1, e2, e3⟩, z0, z1, z2, z3⟩ := hrr.z
            clear hrr hsr hm
            go_upto_region 4 with (fail)
            go_quiet ((go_at_call 43; exact has_q HSIr.out.com HM.out))
            go_wp2_with fail
            refine bodyPost_ret (v := .tuple #[.agg #[.slice (some ⟨b9, o9, none⟩) r.dec.length s.dC, .slice s.mA r.com.length s.mC, .slice s.fA r.frz.length s.fC, .slice s.kA r.con.length s.kC], .bool false]) (by simp [results, Try.results45, go_sem, e0, e1, e2, e3]) rfl ?_
            have hfin := st_end (w := w) (HRR.out.kept HKR.out (by simp)) (by omega) HSIr.out (HK3.out.trans HKR.out) (w2 := stored4 (wr.drewN nq) (w.heap.size + 1 + 1) s r) ((Kept.drewN _ _ _).trans (stored4_kept _ _ _ _))
            rw [HRES.out, ← hA]
            exact ⟨s, rfl, hfin.1, hfin.2⟩
          · have HM := Lib.hid hm
            clear hm
            go_upto_region 4 with (fail)
            go_quiet ((go_at_call 43; exact has_q HSIr.out.com HM.out))
            go_wp2_with fail
            go_roundw
            case rel => exact ⟨j + 1, by omega, by go_num, by rw [HAN.out, HNO.out, HM.out]; rfl, HKR.out.trans (Kept.drewN _ _ _)⟩
            case measure => simp [intOf]; omega
        · obtain rfl : j = r.dec.length := by omega
          have HF : Hid (r.dec.take r.dec.length = r.dec) := List.take_length
          go_wp2_with fail
          go_meet
          rw [HF.out] at HNO
          exact ⟨HNO.out, HKR.out⟩
  case rest =>
    obtain ⟨hno1, hkc⟩ := hcut
    have HN1 := Lib.hid hno1
    have HKC := Lib.hid hkc
    obtain ⟨w4, rfl⟩ : ∃ w4 : World, w4 = wc := ⟨_, rfl⟩
    clear hno1 hkc
    go_upto_block 2 with (fail)
    go_cut [] (fun wc => r.con.any (lateC last) = false ∧ Kept [] w4 wc)
    case first =>
      rcases HSI3.out.con.2.2.2 with hnil | ⟨b9, o9, hA, hcl⟩
      · have hl0 : r.con.length ≤ 0 := by rw [hnil]; simp
        have HF : Hid (r.con.any (lateC last) = false) := by rw [Hid, hnil]; rfl
        have g3 := (HSR.out.kept HKC.out (by simp)).c3
        clear hnil
        go_wp2_with fail
        go_loopw [9] (fun i wr => i = .int .i64 0 ∧ wr = w4) (fun _ _ => 0)
        case atStart => exact ⟨rfl, rfl⟩
        case round =>
          obtain ⟨rfl, rfl⟩ := hrel
          go_wp2_with fail
          go_meet
          exact ⟨HF.out, Kept.refl _ _⟩
      · have HCL := Lib.hid hcl
        clear hcl
        go_wp2_with fail
        go_loopw [9] (fun i wr => ∃ j : Nat, j ≤ r.con.length ∧ i = .int .i64 j ∧ (r.con.take j).any (lateC last) = false ∧ Kept [] w4 wr) (fun i _ => r.con.length - (intOf i).toNat)
        case atStart => exact ⟨0, Nat.zero_le _, rfl, rfl, Kept.refl _ _⟩
        case round =>
          obtain ⟨j, hj, rfl, hno, hkr⟩ := hrel
          have HNO := Lib.hid hno
          have HKR := Lib.hid (HKC.out.trans hkr)
          have HKR4 := Lib.hid hkr
          have g3 := (HSR.out.kept HKR.out (by simp)).c3
          rw [hA] at g3
          clear hno hkr
          by_cases hlt : j < r.con.length
          · obtain ⟨x, hx⟩ : ∃ x, r.con[j]? = some x := ⟨_, List.getElem?_eq_getElem hlt⟩
            have HAN := Lib.hid (any_take_succ r.con (lateC last) hx)
            have HMX := Lib.hid (List.mem_of_getElem? hx)
            have q := HKR.out.cell (HCL.out j x hx 2 _ rfl) (by simp)
            have HSIr := Lib.hid (HSI3.out.kept HKR.out)
            clear hx
            cases hl : lateC last x
            · have HL := Lib.hid hl
              have hcase : last = false ∨ (last = true ∧ x.2.2 = true) := by
                unfold lateC at hl
                cases last
                · exact .inl rfl
                · exact .inr ⟨rfl, by simpa using hl⟩
              clear hl
              rcases hcase with rfl | ⟨rfl, hdn⟩
              · go_wp2_with fail
                go_roundw
                case rel => exact ⟨j + 1, by omega, by go_num, by rw [HAN.out, HNO.out, HL.out]; rfl, HKR4.out⟩
                case measure => simp [intOf]; omega
              · go_wp2_with fail
                go_roundw
                case rel => exact ⟨j + 1, by omega, by go_num, by rw [HAN.out, HNO.out, HL.out]; rfl, HKR4.out⟩
                case measure => simp [intOf]; omega
            · have HRES := Lib.hid (endsR_no2 (t := t) HN1.out HMX.out hl)
              have hcase : last = true ∧ x.2.2 = false := by
                unfold lateC at hl
                cases last
                · simp at hl
                · exact ⟨rfl, by simpa using hl⟩
              clear hl
              obtain ⟨rfl, hdn⟩ := hcase
              have hrr := HRR.out.kept HKR.out (by simp)
              have hsr := HSR.out.kept HKR.out (by simp)
              have g0 := hsr.c0
              have g1 := hsr.c1
              have g2 := hsr.c2
              obtain ⟨⟨e0, e1, e2, e3⟩, z0, z1, z2, z3⟩ := hrr.z
              clear hrr hsr
              go_wp2_with fail
              refine bodyPost_ret (v := .tuple #[.agg #[.slice s.dA r.dec.length s.dC, .slice s.mA r.com.length s.mC, .slice s.fA r.frz.length s.fC, .slice (some ⟨b9, o9, none⟩) r.con.length s.kC], .bool false]) (by simp [results, Try.results45, go_sem, e0, e1, e2, e3]) rfl ?_
              have hfin := st_end (w := w) (HRR.out.kept HKR.out (by simp)) (by omega) HSIr.out (HK3.out.trans HKR.out) (w2 := stored4 wr (w.heap.size + 1 + 1) s r) (stored4_kept _ _ _ _)
              rw [HRES.out, ← hA]
              exact ⟨s, rfl, hfin.1, hfin.2⟩
          · obtain rfl : j = r.con.length := by omega
            have HF : Hid (r.con.take r.con.length = r.con) := List.take_length
            go_wp2_with fail
            go_meet
            rw [HF.out] at HNO
            exact ⟨HNO.out, HKR4.out⟩
    case rest =>
      obtain ⟨hno2, hkc⟩ := hcut
      have HRES := Lib.hid (endsR_yes (t := t) HN1.out hno2)
      have hk5 := HKC.out.trans hkc
      have HSR5 := Lib.hid (HSR.out.kept hk5 (by simp))
      have HRR5 := Lib.hid (HRR.out.kept hk5 (by simp))
      have HSI5 := Lib.hid (HSI3.out.kept hk5)
      have HTB5 := Lib.hid (HTB.out.kept hk5)
      have HK5 := Lib.hid (HK3.out.trans hk5)
      obtain ⟨w5, rfl⟩ : ∃ w5 : World, w5 = wc := ⟨_, rfl⟩
      clear hno2 hkc hk5 HSR HRR HSI3 HTB HK3 HKC
      go_wp2_with fail
      go_loopw [10] (fun i wr => ∃ j : Nat, j ≤ r.dec.length ∧ i = .int .i64 j ∧ EInv t r w.heap.size w5 j wr) (fun i _ => r.dec.length - (intOf i).toNat)
      case atStart => exact ⟨0, Nat.zero_le _, rfl, s, HSR5.out, HSI5.out, Kept.refl _ _⟩
      case round =>
        obtain ⟨j, hj, rfl, s2, hrow, hst, hkr⟩ := hrel
        have HROW := Lib.hid hrow
        have HST := Lib.hid hst
        have HKR := Lib.hid hkr
        have g0 := hrow.c0
        rw [foldF_dec] at g0
        clear hrow hst hkr
        by_cases hlt : j < r.dec.length
        · obtain ⟨x, hx⟩ : ∃ x, r.dec[j]? = some x := ⟨_, List.getElem?_eq_getElem hlt⟩
          have HFS := Lib.hid (foldF_succ t r.dec r hx)
          have HXE := Lib.hid (HI.out.exD x (List.mem_of_getElem? hx))
          have hfl := (foldF_inv (r.dec.take j) r HI.out (fun y hy => HI.out.exD y (List.mem_of_mem_take hy))).frz_len
          have HRD := Lib.hid (foldF_dec t (r.dec.take j) r)
          have hdI := HST.out.dec
          rw [foldF_dec] at hdI
          have g1 := HROW.out.c1
          have g2 := HROW.out.c2
          have g3 := HROW.out.c3
          generalize foldF t (r.dec.take j) r = rj at *
          obtain ⟨dj, mj, fj, kj⟩ := rj
          obtain rfl : dj = r.dec := HRD.out
          dsimp only at g1 g2 g3 hfl
          clear HRD
          obtain ⟨A, c, he, _, _, _, hcl⟩ := hdI
          rcases hcl with hnil | ⟨b9, o9, rfl, hcl⟩
          · exact absurd hlt (by rw [hnil]; simp)
          simp only [Value.slice.injEq, true_and] at he
          obtain ⟨he1, rfl⟩ := he
          rw [he1] at g0
          have q := hcl j x hx
          have hTB := HTB5.out.tab
          have c0 := HKR.out.cell HTB5.out.c0 (by simp)
          have c1 := HKR.out.cell HTB5.out.c1 (by simp)
          have c2 := HKR.out.cell HTB5.out.c2 (by simp)
          have c3 := HKR.out.cell HTB5.out.c3 (by simp)
          have c4 := HKR.out.cell HTB5.out.c4 (by simp)
          have hfl2 : (RS.mk r.dec mj fj kj).frz.length ≤ 1000000 := by show fj.length ≤ _; omega
          have HSTD : Hid (StIn wr.drew ⟨some ⟨b9, o9, none⟩, s2.dC, s2.mA, s2.mC, s2.fA, s2.fC, s2.kA, s2.kC⟩ ⟨r.dec, mj, fj, kj⟩) := by rw [Hid, ← he1]; exact HST.out.kept (Kept.drew _ _)
          have HTD : Hid (TabIn wr.drew v t) := HT.out.kept ((HK5.out.trans0 HKR.out (Nat.le_refl _)).trans (Kept.drew [] _) |>.toBelow (Nat.le_refl _) (by simp))
          clear hcl hx hTB
          generalize hq : freezeR t ⟨r.dec, mj, fj, kj⟩ x = qn at *
          obtain ⟨rn, okn⟩ := qn
          have HQ := Lib.hid hq
          clear hq
          go_upto_region 14 with (fail)
          go_region_with (go_at_call 44
                          refine (refFreeze_any _ ⟨some ⟨b9, o9, none⟩, s2.dC, s2.mA, s2.mC, s2.fA, s2.fC, s2.kA, s2.kC⟩ ⟨r.dec, mj, fj, kj⟩ v t x HSTD.out HTD.out HS.out hN HXE.out hfl2).mono ?_
                          rw [HQ.out]
                          rintro e w6 ⟨s6, rfl, hi6, hk6⟩
                          unfold StV.cells
                          have HK6 := Lib.hid ((Kept.drew _ _).trans hk6)
                          have HI6 := Lib.hid hi6
                          have hrr := HROW.out.kept HK6.out (by simp)
                          have t0 := hrr.c0
                          have t1 := hrr.c1
                          have t2 := hrr.c2
                          have t3 := hrr.c3
                          have y0 := hrr.frozen 0
                          have y1 := hrr.frozen 1
                          have y2 := hrr.frozen 2
                          have y3 := hrr.frozen 3
                          clear hk6 hi6 hrr)
          all_goals
            have HEN : Hid (EInv t r w.heap.size w5 (j + 1) (stored4 w6 w.heap.size s6 rn)) := by
              refine ⟨s6, ?_, ?_, ?_⟩
              · rw [HFS.out]; exact stored4_row (HROW.out.kept HK6.out (by simp))
              · rw [HFS.out]; exact HI6.out.far (HROW.out.kept HK6.out (by simp)) (stored4_kept _ _ _ _)
              · exact HKR.out.trans ((HK6.out.mono (by simp)).trans (stored4_kept _ _ _ _))
            clear t0 t1 t2 t3 y0 y1 y2 y3 g0 g1 g2 g3 q c0 c1 c2 c3 c4
            go_wp2_with fail
            go_roundw
            case rel => exact ⟨j + 1, by omega, by go_num, HEN.out⟩
            case measure => simp [intOf]; omega
        · obtain rfl : j = r.dec.length := by omega
          have HF : Hid (r.dec.take r.dec.length = r.dec) := List.take_length
          rw [HF.out] at HROW HST
          have HRD := Lib.hid (foldF_dec t r.dec r)
          generalize foldF t r.dec r = rj at *
          obtain ⟨dj, mj, fj, kj⟩ := rj
          obtain rfl : dj = r.dec := HRD.out
          have g1 := HROW.out.c1
          have g2 := HROW.out.c2
          have g3 := HROW.out.c3
          dsimp only at g1 g2 g3
          have HZR := Lib.hid (HRR5.out.kept HKR.out (by simp; omega))
          obtain ⟨⟨e0, e1, e2, e3⟩, z0, z1, z2, z3⟩ := HZR.out.z
          have HKF := Lib.hid (HK5.out.trans0 HKR.out (Nat.le_refl _))
          go_wp2_with fail
          refine bodyPost_ret (v := .tuple #[.agg #[.slice s2.dA r.dec.length s2.dC, .slice s2.mA mj.length s2.mC, .slice s2.fA fj.length s2.fC, .slice s2.kA kj.length s2.kC], .bool true]) (by simp [results, Try.results45, go_sem, e0, e1, e2, e3]) rfl ?_
          have hfin := st_end (w := w) HZR.out (by omega) HST.out HKF.out (stored4_kept _ _ s2 ⟨r.dec, mj, fj, kj⟩)
          rw [HRES.out]
          exact ⟨_, rfl, hfin.1, hfin.2⟩
end Go.Proofs.Ytbjnoffdafpkgaa
