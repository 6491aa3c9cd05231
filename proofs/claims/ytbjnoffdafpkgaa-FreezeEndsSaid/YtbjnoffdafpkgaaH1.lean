/- begin; the search for an event that does not exist. -/
import Derived.Test.YtbjnoffdafpkgaaG5
namespace Go.Proofs.Ytbjnoffdafpkgaa
open Go.RowKit

def PS.zero : PS := ⟨fun _ => none, fun _ => none, fun _ => none, fun _ => none⟩

def BeginPost (v : TabV) (t : Tab) (B : Nat) (w : World) (e : Ending) (w' : World) : Prop :=
  ∃ S dB cB fB kB, e = .returned (.pointer (some ⟨S, 0, none⟩)) ∧ SAt v t B S dB cB fB kB 0 PS.zero w' ∧ Kept [] w w' ∧ w.heap.size ≤ S ∧ w.heap.size ≤ dB ∧ w.heap.size ≤ cB ∧ w.heap.size ≤ fB ∧ w.heap.size ≤ kB

theorem bm_fresh {W : World} {b : Nat} (h : W.heap[b]? = some (.map #[] 0)) : BM W b 0 (fun _ => none) := by
  obtain ⟨D, ⟨es, clock, h1, h2⟩, hD⟩ := BMap.made Try.prog 3 4 W
  have e1 : (W.alloc (.map #[] 0)).heap[W.heap.size]? = some (.map #[] 0) := heap_alloc_new _ _
  rw [e1] at h1
  injection h1 with h1
  injection h1 with h3 h4
  subst h3 h4
  exact ⟨D, ⟨_, _, h, h2⟩, hD⟩
theorem cm_fresh {W : World} {b : Nat} (h : W.heap[b]? = some (.map #[] 0)) : CM W b 0 (fun _ => none) := by
  obtain ⟨D, ⟨es, clock, h1, h2⟩, hD⟩ := CMap.made Try.prog 3 W
  have e1 : (W.alloc (.map #[] 0)).heap[W.heap.size]? = some (.map #[] 0) := heap_alloc_new _ _
  rw [e1] at h1
  injection h1 with h1
  injection h1 with h3 h4
  subst h3 h4
  exact ⟨D, ⟨_, _, h, h2⟩, hD⟩

theorem begin_mem {v : TabV} {t : Tab} {B : Nat} {w : World} (hT : TabUnder B w v t) (hs : Small t) (hn : t.types.length ≤ 1000) (o : Obj) :
    BeginPost v t B w (.returned (.pointer (some ⟨w.heap.size + 5, 0, none⟩))) ((((((w.alloc o).alloc (.map #[] 0)).alloc (.map #[] 0)).alloc (.map #[] 0)).alloc (.map #[] 0)).alloc
      (.cells #[.slice v.ta t.types.length v.tc, .slice v.sa t.subs.length v.sc, .slice v.ea v.en v.ec, .slice v.ga v.gn v.gc, .slice v.ia v.im v.ic, .map (some (w.heap.size + 1)), .map (some (w.heap.size + 2)), .map (some (w.heap.size + 3)), .map (some (w.heap.size + 4))] 67)) := by
  generalize hW : ((((((w.alloc o).alloc (.map #[] 0)).alloc (.map #[] 0)).alloc (.map #[] 0)).alloc (.map #[] 0)).alloc
      (.cells #[.slice v.ta t.types.length v.tc, .slice v.sa t.subs.length v.sc, .slice v.ea v.en v.ec, .slice v.ga v.gn v.gc, .slice v.ia v.im v.ic, .map (some (w.heap.size + 1)), .map (some (w.heap.size + 2)), .map (some (w.heap.size + 3)), .map (some (w.heap.size + 4))] 67)) = W
  have hk : Kept [] w W := by
    rw [← hW]
    exact (((((Kept.alloc _ _ _).trans (Kept.alloc _ _ _)).trans (Kept.alloc _ _ _)).trans (Kept.alloc _ _ _)).trans (Kept.alloc _ _ _)).trans (Kept.alloc _ _ _)
  have q1 : W.heap[w.heap.size + 1]? = some (.map #[] 0) := by
    rw [← hW]
    exact obj_old (obj_old (obj_old (obj_old (obj_new (by simp)) (by simp)) (by simp)) (by simp)) (by simp)
  have q2 : W.heap[w.heap.size + 2]? = some (.map #[] 0) := by
    rw [← hW]
    exact obj_old (obj_old (obj_old (obj_new (by simp)) (by simp)) (by simp)) (by simp)
  have q3 : W.heap[w.heap.size + 3]? = some (.map #[] 0) := by
    rw [← hW]
    exact obj_old (obj_old (obj_new (by simp)) (by simp)) (by simp)
  have q4 : W.heap[w.heap.size + 4]? = some (.map #[] 0) := by
    rw [← hW]
    exact obj_old (obj_new (by simp)) (by simp)
  have q5 : W.heap[w.heap.size + 5]? = some (.cells #[.slice v.ta t.types.length v.tc, .slice v.sa t.subs.length v.sc, .slice v.ea v.en v.ec, .slice v.ga v.gn v.gc, .slice v.ia v.im v.ic, .map (some (w.heap.size + 1)), .map (some (w.heap.size + 2)), .map (some (w.heap.size + 3)), .map (some (w.heap.size + 4))] 67 (0, 0)) := by
    rw [← hW]
    exact obj_new (by simp)
  clear hW
  have hle := hT.le
  refine ⟨w.heap.size + 5, w.heap.size + 1, w.heap.size + 2, w.heap.size + 3, w.heap.size + 4, rfl, ?_, hk, by omega, by omega, by omega, by omega, by omega⟩
  have hc := fun j => cell_of_row W (w.heap.size + 5) j _ _ _ q5
  exact { tab := hT.kept hk (by simp), small := hs, num := hn,
          st := ⟨fun j u hu => by
                   rw [hc]
                   have hj : j < 5 := by have := (List.getElem?_eq_some_iff.1 hu).1; simpa [TabV.cells] using this
                   simp only [TabV.cells] at hu
                   match j, hj with
                   | 0, _ => simpa using hu
                   | 1, _ => simpa using hu
                   | 2, _ => simpa using hu
                   | 3, _ => simpa using hu
                   | 4, _ => simpa using hu, by rw [hc]; rfl, by rw [hc]; rfl, by rw [hc]; rfl, by rw [hc]; rfl⟩,
          decl := bm_fresh q1, comp := bm_fresh q2, froz := bm_fresh q3, cons := cm_fresh q4,
          n1 := by omega, n2 := by omega, n3 := by omega, n4 := by omega, n5 := by omega, n6 := by omega, n7 := by simp, b1 := by omega, b2 := by omega, b3 := by omega, b4 := by omega }

set_option maxRecDepth 100000 in
set_option maxHeartbeats 1000000 in
theorem begin_any (v : TabV) (t : Tab) (B : Nat) (w : World) (hT : TabUnder B w v t) (hs : Small t) (hn : t.types.length ≤ 1000) :
    Calls Try.prog 31 #[.agg (v.cells t)] w (BeginPost v t B w) := by
  have HT := Lib.hid hT
  have hB := hT.le
  clear hT
  have hmm := @run_makeMap Try.prog
  unfold TabV.cells
  go_enter Try.func31, Try.ntmps31
  go_wp2_with fail
  go_ret
  exact begin_mem HT.out hs hn _

/-- Events in memory. -/
def EvV.cells (x : EvV) : List Value := [.int .u8 x.kind, .int .i64 x.ty, .int .i64 x.num]
def EvsIn (w : World) (a : Option Addr) (l : List EvV) : Prop := l = [] ∨ ∃ b off, a = some ⟨b, off, none⟩ ∧ ∀ j x, l[j]? = some x → w.rangeAt b (off + j * 3) x.cells
theorem EvsIn.kept {w w' : World} {a : Option Addr} {l : List EvV} (h : EvsIn w a l) (hk : Kept [] w w') : EvsIn w' a l := by
  rcases h with h | ⟨b, off, ha, h⟩
  · exact .inl h
  · exact .inr ⟨b, off, ha, fun j x hx i u hu => hk.cell (h j x hx i u hu) (by simp)⟩

set_option maxRecDepth 100000 in
set_option maxHeartbeats 1000000 in
theorem run1_any (p S n tc : Nat) (ta : Option Addr) (x : EvV) (w : World) (hp : w.cell? ⟨p, 0, none⟩ = some (.pointer (some ⟨S, 0, none⟩))) (hS : w.cell? ⟨S, 0, none⟩ = some (.slice ta n tc)) (hn : n ≤ 9223372036854775807) :
    Calls Try.prog 33 #[x.val, .pointer (some ⟨p, 0, none⟩)] w (RetB (!existsF n x) w) := by
  have hpl : p < w.heap.size := World.block_lt_of_cell? w _ hp
  have HS := Lib.hid hS
  clear hS
  unfold EvV.val
  go_enter Try.func33, Try.ntmps33
  go_wp2_with fail
  have hk1 : Kept [] w (w.alloc (.cells #[.int .u8 x.kind, .int .i64 x.ty, .int .i64 x.num] 45)) := Kept.alloc _ _ _
  refine (exists_any S n tc ta x _ (hk1.cell HS.out (by simp)) hn).mono ?_
  rintro e w2 ⟨rfl, hk2⟩
  have HK2 := Lib.hid (hk1.trans hk2)
  clear hk1 hk2
  generalize existsF n x = ex at *
  go_wp2_with fail
  go_ret
  exact ⟨rfl, HK2.out⟩

/-- The place of the first event that does not exist. -/
def badAt (n : Nat) (l : List EvV) : Option Nat := l.findIdx? (fun x => !existsF n x)
def badI (n : Nat) (l : List EvV) : Int := match badAt n l with | some i => i | none => -1

theorem Try.info45 (x : EvV) : (Try.prog.info? 45).map (·.size) = some x.cells.length := by
  show _ = some 3
  kernel_rfl

def RetI (i : Int) (w : World) (e : Ending) (w' : World) : Prop := e = .returned (.int .i64 i) ∧ Kept [] w w'

theorem bad_none {n : Nat} {l : List EvV} (h : ∀ (j : Nat) (x : EvV), l[j]? = some x → existsF n x = true) : badI n l = -1 := by
  unfold badI badAt
  have : l.findIdx? (fun x => !existsF n x) = none := by
    rw [List.findIdx?_eq_none_iff]
    intro x hx
    obtain ⟨j, hj⟩ := List.mem_iff_getElem?.1 hx
    simp [h j x hj]
  rw [this]

theorem bad_some {n : Nat} {l : List EvV} {k : Nat} {x : EvV} (h : ∀ (j : Nat) (y : EvV), j < k → l[j]? = some y → existsF n y = true) (hx : l[k]? = some x) (hf : existsF n x = false) : badI n l = k := by
  unfold badI badAt
  have : l.findIdx? (fun x => !existsF n x) = some k := by
    rw [List.findIdx?_eq_some_iff_getElem]
    obtain ⟨hk, rfl⟩ := List.getElem?_eq_some_iff.1 hx
    refine ⟨hk, by simp [hf], fun j hj => ?_⟩
    simp [h j l[j] hj (List.getElem?_eq_getElem (by omega))]
  rw [this]

set_option maxRecDepth 100000 in
set_option maxHeartbeats 1000000 in
theorem indexFunc_any (a : Option Addr) (c p S n tc : Nat) (ta : Option Addr) (l : List EvV) (w : World) (hl : EvsIn w a l) (hlen : l.length ≤ 9223372036854775807) (hp : w.cell? ⟨p, 0, none⟩ = some (.pointer (some ⟨S, 0, none⟩))) (hS : w.cell? ⟨S, 0, none⟩ = some (.slice ta n tc)) (hn : n ≤ 9223372036854775807) :
    Calls Try.prog 32 #[.slice a l.length c, .func (.func 33) #[] #[.pointer (some ⟨p, 0, none⟩)]] w (RetI (badI n l) w) := by
  have HP := Lib.hid hp
  have HS := Lib.hid hS
  clear hp hS
  rcases hl with hnil | ⟨b, off, rfl, hcell⟩
  · have hl0 : l.length ≤ 0 := by rw [hnil]; simp
    have HN := Lib.hid hnil
    clear hnil
    go_enter Try.func32, Try.ntmps32
    go_wp2_with fail
    go_loopw [8] (fun i wr => i = .int .i64 0 ∧ wr = w) (fun _ _ => 0)
    case atStart => exact ⟨rfl, rfl⟩
    case round =>
      obtain ⟨rfl, rfl⟩ := hrel
      go_wp2_with fail
      go_ret
      rw [HN.out]
      exact ⟨rfl, Kept.refl _ _⟩
  · have HC := Lib.hid hcell
    clear hcell
    go_enter Try.func32, Try.ntmps32
    go_wp2_with fail
    go_loopw [8] (fun i wr => ∃ k : Nat, k ≤ l.length ∧ i = .int .i64 k ∧ (∀ j y, j < k → l[j]? = some y → existsF n y = true) ∧ Kept [] w wr) (fun i _ => l.length - (intOf i).toNat)
    case atStart => exact ⟨0, Nat.zero_le _, rfl, fun j y hj => (by omega), Kept.refl _ _⟩
    case round =>
      obtain ⟨k, hk, rfl, hall, hkr⟩ := hrel
      have HALL := Lib.hid hall
      have HKR := Lib.hid hkr
      clear hall hkr
      by_cases hlt : k < l.length
      · obtain ⟨x, hx⟩ : ∃ x, l[k]? = some x := ⟨_, List.getElem?_eq_getElem hlt⟩
        have HX := Lib.hid hx
        have HR : Hid (wr.rangeAt b (off + k * 3) x.cells) := fun i u hu => HKR.out.cell (HC.out k x hx i u hu) (by simp)
        clear hx
        go_wp2_with (refine wpList_load_mid rfl 45 (.tmp 14) rfl b (off + k * 3) rfl x.cells _ HR.out Try.underlying45 rfl (Try.info45 x) ?_)
        refine (run1_any p S n tc ta x _ (HKR.out.cell HP.out (by simp)) (HKR.out.cell HS.out (by simp)) hn).mono ?_
        rintro e w2 ⟨rfl, hk2⟩
        have HK2 := Lib.hid (HKR.out.trans hk2)
        clear hk2
        cases hex : existsF n x
        · have HB := Lib.hid (bad_some HALL.out HX.out hex)
          clear hex
          go_wp2_with fail
          go_ret
          rw [HB.out]
          exact ⟨rfl, HK2.out⟩
        · have HEX := Lib.hid hex
          clear hex
          go_wp2_with fail
          go_roundw
          case rel =>
            refine ⟨k + 1, by omega, by go_num, fun j y hj hy => ?_, HK2.out⟩
            by_cases hjk : j = k
            · subst hjk
              rw [HX.out] at hy
              injection hy with hy
              rw [← hy]
              exact HEX.out
            · exact HALL.out j y (by omega) hy
          case measure => simp [intOf]; omega
      · have HB : Hid (badI n l = -1) := bad_none (fun j y hy => HALL.out j y (by have := (List.getElem?_eq_some_iff.1 hy).1; omega) hy)
        go_wp2_with fail
        go_ret
        rw [HB.out]
        exact ⟨rfl, HKR.out⟩
#print axioms indexFunc_any
end Go.Proofs.Ytbjnoffdafpkgaa
