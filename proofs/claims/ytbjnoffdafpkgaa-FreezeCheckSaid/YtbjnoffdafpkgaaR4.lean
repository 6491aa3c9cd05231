/- The reference's Exists, find. -/
import Derived.Test.YtbjnoffdafpkgaaR3
import Derived.Test.YtbjnoffdafpkgaaP7
namespace Go.Proofs.Ytbjnoffdafpkgaa
open Go.RowKit

/-- The four slices of a state. -/
structure StV where
  dA : Option Addr
  dC : Nat
  mA : Option Addr
  mC : Nat
  fA : Option Addr
  fC : Nat
  kA : Option Addr
  kC : Nat

def StV.cells (s : StV) (r : RS) : Array Value := #[.slice s.dA r.dec.length s.dC, .slice s.mA r.com.length s.mC, .slice s.fA r.frz.length s.fC, .slice s.kA r.con.length s.kC]

def conCells (x : Int × Int × Bool) : List Value := [.int .i64 x.1, .int .i64 x.2.1, .bool x.2.2]
/-- A slice of constants that is read. -/
def ConC (w : World) (a : Option Addr) (c : Nat) (l : List (Int × Int × Bool)) : Prop :=
  l.length ≤ c ∧ c ≤ 9223372036854775807 ∧ (a = none → c = 0) ∧ (l = [] ∨ ∃ b off, a = some ⟨b, off, none⟩ ∧ ∀ j x, l[j]? = some x → w.rangeAt b (off + j * 3) (conCells x))
theorem ConC.kept {w w' : World} {a : Option Addr} {c : Nat} {l : List (Int × Int × Bool)} (h : ConC w a c l) (hk : Kept [] w w') : ConC w' a c l := by
  refine ⟨h.1, h.2.1, h.2.2.1, ?_⟩
  rcases h.2.2.2 with h | ⟨b, off, ha, h⟩
  · exact .inl h
  · exact .inr ⟨b, off, ha, fun j x hx i u hu => hk.cell (h j x hx i u hu) (by simp)⟩

structure StIn (w : World) (s : StV) (r : RS) : Prop where
  dec : IntsC w (.slice s.dA r.dec.length s.dC) r.dec
  com : IntsC w (.slice s.mA r.com.length s.mC) r.com
  frz : IntsC w (.slice s.fA r.frz.length s.fC) r.frz
  con : ConC w s.kA s.kC r.con
theorem StIn.kept {w w' : World} {s : StV} {r : RS} (h : StIn w s r) (hk : Kept [] w w') : StIn w' s r := ⟨h.dec.kept hk, h.com.kept hk, h.frz.kept hk, h.con.kept hk⟩

def findI (l : List (Int × Int × Bool)) (n : Int) : Int := match l.findIdx? (fun c => c.1 == n) with | some i => i | none => -1
theorem findI_at {l : List (Int × Int × Bool)} {n : Int} {j : Nat} {x : Int × Int × Bool} (hx : l[j]? = some x) (he : (x.1 == n) = true) (hno : ∀ i y, i < j → l[i]? = some y → (y.1 == n) = false) : findI l n = j := by
  obtain ⟨hj, rfl⟩ := List.getElem?_eq_some_iff.1 hx
  have : l.findIdx? (fun c => c.1 == n) = some j := by
    rw [List.findIdx?_eq_some_iff_getElem]
    exact ⟨hj, he, fun i hi => by simpa using hno i _ hi (List.getElem?_eq_getElem (by omega))⟩
  simp [findI, this]
theorem findI_no {l : List (Int × Int × Bool)} {n : Int} (hno : ∀ i y, i < l.length → l[i]? = some y → (y.1 == n) = false) : findI l n = -1 := by
  have : l.findIdx? (fun c => c.1 == n) = none := by
    rw [List.findIdx?_eq_none_iff]
    intro x hx
    obtain ⟨i, hi⟩ := List.mem_iff_getElem?.1 hx
    exact hno i x (List.getElem?_eq_some_iff.1 hi).1 hi
  simp [findI, this]

def RetN (n : Int) (w : World) (e : Ending) (w' : World) : Prop := e = .returned (.int .i64 n) ∧ Kept [] w w'
def NoneTo (l : List (Int × Int × Bool)) (n : Int) (j : Nat) : Prop := ∀ i y, i < j → l[i]? = some y → (y.1 == n) = false

set_option maxRecDepth 100000 in
set_option maxHeartbeats 1000000 in
theorem find_any (w : World) (s : StV) (r : RS) (n : Int) (hs : StIn w s r) : Calls Try.prog 42 #[.agg (s.cells r), .int .i64 n] w (RetN (findI r.con n) w) := by
  have hC := hs.con
  clear hs
  obtain ⟨dA, dC, mA, mC, fA, fC, kA, kC⟩ := s
  obtain ⟨dec, com, frz, con⟩ := r
  unfold StV.cells
  dsimp only at hC ⊢
  have hlc := hC.1
  have hcm := hC.2.1
  have HC := Lib.hid hC.2.2.2
  clear hC
  rcases HC.out with hnil | ⟨b, o, rfl, hcc⟩
  · have hl0 : con.length ≤ 0 := by rw [hnil]; simp
    have HF : Hid (findI con n = -1) := by rw [Hid, hnil]; rfl
    clear hnil
    go_enter Try.func42, Try.ntmps42
    go_wp2_with fail
    go_loop [5] (fun i => i = .int .i64 0) (fun _ => 0)
    case atStart => rfl
    case round =>
      subst hrel
      go_wp2_with fail
      go_ret
      rw [HF.out]
      exact ⟨rfl, Kept.alloc _ _ _⟩
  · have HCC := Lib.hid hcc
    clear hcc
    go_enter Try.func42, Try.ntmps42
    go_wp2_with fail
    go_loop [5] (fun i => ∃ j : Nat, j ≤ con.length ∧ i = .int .i64 j ∧ NoneTo con n j) (fun i => con.length - (intOf i).toNat)
    case atStart => exact ⟨0, Nat.zero_le _, rfl, fun i y h => absurd h (by omega)⟩
    case round =>
      obtain ⟨j, hj, rfl, hno⟩ := hrel
      have HNO := Lib.hid hno
      clear hno
      by_cases hlt : j < con.length
      · obtain ⟨x, hx⟩ : ∃ x, con[j]? = some x := ⟨_, List.getElem?_eq_getElem hlt⟩
        have q : (w.alloc (Obj.cells #[.slice dA dec.length dC, .slice mA com.length mC, .slice fA frz.length fC, .slice (some ⟨b, o, none⟩) con.length kC] 61)).cell? ⟨b, o + j * 3, none⟩ = some (.int .i64 x.1) := cell_kept' (Kept.toBelow (X := []) (Kept.alloc _ _ _) (Nat.le_refl _) (by simp)) (HCC.out j x hx 0 _ rfl)
        have HX := Lib.hid hx
        clear hx
        cases he : (x.1 == n)
        · have HN : Hid (NoneTo con n (j + 1)) := fun i y hi hy => by
            by_cases e : i = j
            · subst e; rw [HX.out] at hy; injection hy with hy; subst hy; exact he
            · exact HNO.out i y (by omega) hy
          go_wp2_with fail
          go_round
          case rel => exact ⟨j + 1, by omega, by go_num, HN.out⟩
          case measure => simp [intOf]; omega
        · have HF := Lib.hid (findI_at HX.out he HNO.out)
          go_wp2_with fail
          go_ret
          rw [HF.out]
          exact ⟨rfl, Kept.alloc _ _ _⟩
      · have HF : Hid (findI con n = -1) := findI_no (fun i y hi hy => HNO.out i y (by omega) hy)
        go_wp2_with fail
        go_ret
        rw [HF.out]
        exact ⟨rfl, Kept.alloc _ _ _⟩

set_option maxRecDepth 100000 in
set_option maxHeartbeats 1000000 in
theorem refExistsEv_any (w : World) (v : TabV) (t : Tab) (x : EvV) (hn : t.types.length ≤ 9223372036854775807) : Calls Try.prog 21 #[.agg (v.cells t), x.val] w (RetB (existsF t.types.length x) w) := by
  obtain ⟨kind, ty, num⟩ := x
  unfold TabV.cells EvV.val
  dsimp only
  have H2 : Hid (∀ o1 o2 : Obj, Kept [] w ((w.alloc o1).alloc o2)) := fun o1 o2 => (Kept.alloc _ _ _).trans (Kept.alloc _ _ _)
  have key : (kind = 1 ∨ kind = 2 ∨ kind = 3 ∨ kind = 4 ∨ kind = 5 ∨ kind = 6 ∨ kind = 7) ∨ ((kind == 1) = false ∧ (kind == 2) = false ∧ (kind == 3) = false ∧ (kind == 4) = false ∧ (kind == 5) = false ∧ (kind == 6) = false ∧ (kind == 7) = false) := by
    simp only [beq_eq_false_iff_ne]; omega
  rcases key with (rfl | rfl | rfl | rfl | rfl | rfl | rfl) | ⟨h1, h2, h3, h4, h5, h6, h7⟩
  · have HF : Hid (existsF t.types.length ⟨1, ty, num⟩ = exI t.types.length ty) := rfl
    go_enter Try.func21, Try.ntmps21
    go_wp2_with fail
    refine (refExists_any v t ty _ hn).mono ?_
    rintro e w1 ⟨rfl, hk1⟩
    have HK := Lib.hid ((H2.out _ _).trans hk1)
    clear hk1
    go_wp2_with fail
    go_ret
    exact ⟨by rw [HF.out]; rfl, HK.out⟩
  · have HF : Hid (existsF t.types.length ⟨2, ty, num⟩ = exI t.types.length ty) := rfl
    go_enter Try.func21, Try.ntmps21
    go_wp2_with fail
    refine (refExists_any v t ty _ hn).mono ?_
    rintro e w1 ⟨rfl, hk1⟩
    have HK := Lib.hid ((H2.out _ _).trans hk1)
    clear hk1
    go_wp2_with fail
    go_ret
    exact ⟨by rw [HF.out]; rfl, HK.out⟩
  · have HF : Hid (existsF t.types.length ⟨3, ty, num⟩ = exI t.types.length ty) := rfl
    go_enter Try.func21, Try.ntmps21
    go_wp2_with fail
    refine (refExists_any v t ty _ hn).mono ?_
    rintro e w1 ⟨rfl, hk1⟩
    have HK := Lib.hid ((H2.out _ _).trans hk1)
    clear hk1
    go_wp2_with fail
    go_ret
    exact ⟨by rw [HF.out]; rfl, HK.out⟩
  · have HF : Hid (existsF t.types.length ⟨4, ty, num⟩ = exI t.types.length ty) := rfl
    go_enter Try.func21, Try.ntmps21
    go_wp2_with fail
    refine (refExists_any v t ty _ hn).mono ?_
    rintro e w1 ⟨rfl, hk1⟩
    have HK := Lib.hid ((H2.out _ _).trans hk1)
    clear hk1
    go_wp2_with fail
    go_ret
    exact ⟨by rw [HF.out]; rfl, HK.out⟩
  · go_enter Try.func21, Try.ntmps21
    go_wp2_with fail
    refine (refExists_any v t ty _ hn).mono ?_
    rintro e w1 ⟨rfl, hk1⟩
    have HK := Lib.hid ((H2.out _ _).trans hk1)
    have q := hk1.cell (p := ⟨w.heap.size + 1, 2, none⟩) (v := .int .i64 num) (by go_simp) (by simp)
    clear hk1
    cases he : exI t.types.length ty
    · have HF : Hid (existsF t.types.length ⟨5, ty, num⟩ = false) := by simp [Hid, existsF, he]
      clear he
      go_wp2_with fail
      go_ret
      exact ⟨by rw [HF.out]; rfl, HK.out⟩
    · cases hd : decide (0 ≤ num)
      · have HF : Hid (existsF t.types.length ⟨5, ty, num⟩ = false) := by simp only [Hid, existsF, he, hd]; rfl
        clear he
        go_wp2_with fail
        go_ret
        exact ⟨by rw [HF.out]; rfl, HK.out⟩
      · have HF : Hid (existsF t.types.length ⟨5, ty, num⟩ = true) := by simp only [Hid, existsF, he, hd]; rfl
        clear he
        go_wp2_with fail
        go_ret
        exact ⟨by rw [HF.out]; rfl, HK.out⟩
  · cases hd : decide (0 ≤ num)
    · have HF : Hid (existsF t.types.length ⟨6, ty, num⟩ = false) := hd
      go_enter Try.func21, Try.ntmps21
      go_wp2_with fail
      go_ret
      exact ⟨by rw [HF.out]; rfl, H2.out _ _⟩
    · have HF : Hid (existsF t.types.length ⟨6, ty, num⟩ = true) := hd
      go_enter Try.func21, Try.ntmps21
      go_wp2_with fail
      go_ret
      exact ⟨by rw [HF.out]; rfl, H2.out _ _⟩
  · cases hd : decide (0 ≤ num)
    · have HF : Hid (existsF t.types.length ⟨7, ty, num⟩ = false) := hd
      go_enter Try.func21, Try.ntmps21
      go_wp2_with fail
      go_ret
      exact ⟨by rw [HF.out]; rfl, H2.out _ _⟩
    · have HF : Hid (existsF t.types.length ⟨7, ty, num⟩ = true) := hd
      go_enter Try.func21, Try.ntmps21
      go_wp2_with fail
      go_ret
      exact ⟨by rw [HF.out]; rfl, H2.out _ _⟩
  · have HF : Hid (existsF t.types.length ⟨kind, ty, num⟩ = (kind == 8 || kind == 9)) := by simp [Hid, existsF, h1, h2, h3, h4, h5, h6, h7]
    cases h8 : (kind == 8)
    · cases h9 : (kind == 9)
      · have HG : Hid ((kind == 8 || kind == 9) = false) := by simp [Hid, h8, h9]
        go_enter Try.func21, Try.ntmps21
        go_wp2_with fail
        go_ret
        exact ⟨by rw [HF.out, HG.out]; rfl, H2.out _ _⟩
      · have HG : Hid ((kind == 8 || kind == 9) = true) := by simp [Hid, h9]
        go_enter Try.func21, Try.ntmps21
        go_wp2_with fail
        go_ret
        exact ⟨by rw [HF.out, HG.out]; rfl, H2.out _ _⟩
    · have HG : Hid ((kind == 8 || kind == 9) = true) := by simp [Hid, h8]
      go_enter Try.func21, Try.ntmps21
      go_wp2_with fail
      go_ret
      exact ⟨by rw [HF.out, HG.out]; rfl, H2.out _ _⟩
end Go.Proofs.Ytbjnoffdafpkgaa
