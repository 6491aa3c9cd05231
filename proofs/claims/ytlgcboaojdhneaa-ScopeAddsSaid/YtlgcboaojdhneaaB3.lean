/- look. -/
import Derived.Test.YtlgcboaojdhneaaB2
import Derived.Deep.AppendLies
namespace Go.Proofs.Ytlgcboaojdhneaa
open Go.RowKit

/-- A place. -/
structure WhV where
  region : Int
  after : Int
  ua : Option Addr
  uc : Nat
  units : List Int
  sa : Option Addr
  sc : Nat
  uses : List Int
def WhV.cells (h : WhV) : List Value := [.int .i64 h.region, .int .i64 h.after, .slice h.ua h.units.length h.uc, .slice h.sa h.uses.length h.sc]
structure WhIn (w : World) (h : WhV) : Prop where
  u : IntsIn w h.ua h.units
  u1 : h.units.length ≤ h.uc
  u2 : h.uc ≤ 9223372036854775807
  s : IntsIn w h.sa h.uses
  s1 : h.uses.length ≤ h.sc
  s2 : h.sc ≤ 9223372036854775807
theorem WhIn.kept {w w' : World} {h : WhV} (hh : WhIn w h) (hk : Kept [] w w') : WhIn w' h := ⟨hh.u.kept hk, hh.u1, hh.u2, hh.s.kept hk, hh.s1, hh.s2⟩

/-- The cells of a finder. -/
def findC (v : TabV) (t : Tab) (h : WhV) (name : ByteArray) (all : Value) : Array Value :=
  #[.slice v.ta t.types.length v.tc, .slice v.sa t.subs.length v.sc, .slice v.ea t.ents.length v.ec, .slice v.ga v.gn v.gc, .slice v.ia v.im v.ic, .int .i64 h.region, .int .i64 h.after, .slice h.ua h.units.length h.uc, .slice h.sa h.uses.length h.sc, .string name, all]
/-- A finder. -/
structure FinderIn (w : World) (F : Nat) (v : TabV) (t : Tab) (h : WhV) (name : ByteArray) (all : List Int) : Prop where
  box : ∃ a c, w.heap[F]? = some (.cells (findC v t h name (.slice a all.length c)) 80 (0, 0)) ∧ IntsIn w a all ∧ all.length ≤ c ∧ c ≤ 9223372036854775807
  tab : TabIn w v t
  wh : WhIn w h
theorem FinderIn.kept {w w' : World} {F : Nat} {v : TabV} {t : Tab} {h : WhV} {name : ByteArray} {all : List Int} (hf : FinderIn w F v t h name all) (hk : Kept [] w w') : FinderIn w' F v t h name all := by
  obtain ⟨⟨a, c, h1, h2, h3, h4⟩, ht, hw⟩ := hf
  exact ⟨⟨a, c, hk.obj h1 (by simp), h2.kept hk, h3, h4⟩, ht.kept hk, hw.kept hk⟩

def selB (name : ByteArray) (after : Int) (e : Nat) (x : EntV) : Bool := (!name.toList.isEmpty && (x.name.toList == name.toList)) && decide ((e : Int) < after)
def selAt (t : Tab) (name : ByteArray) (after : Int) (e : Nat) : Bool := ((t.ents[e]?).map (selB name after e)).getD false
def allN (t : Tab) (name : ByteArray) (after : Int) (k : Nat) : List Int := ((List.range k).filter (selAt t name after)).map (fun i : Nat => (i : Int))
def allR (t : Tab) (name : ByteArray) (after : Int) : List Int := allN t name after t.ents.length
theorem allN_succ (t : Tab) (name : ByteArray) (after : Int) (k : Nat) : allN t name after (k + 1) = allN t name after k ++ (if selAt t name after k then [(k : Int)] else []) := by
  unfold allN
  rw [List.range_succ, List.filter_append, List.map_append]
  congr 1
  cases h : selAt t name after k <;> simp [List.filter, h]
theorem allN_len (t : Tab) (name : ByteArray) (after : Int) (k : Nat) : (allN t name after k).length ≤ k := by
  unfold allN
  rw [List.length_map]
  exact Nat.le_trans (List.length_filter_le _ _) (by simp)
/-- A finder while its list grows. -/
def Looking (v : TabV) (t : Tab) (h : WhV) (name : ByteArray) (w1 : World) (F k : Nat) (wr : World) : Prop :=
  ∃ A c, wr.heap[F]? = some (.cells (findC v t h name (.slice A (allN t name h.after k).length c)) 80 (0, 0)) ∧
    wr.ownsRow w1.heap.size 3 1 (.slice A (allN t name h.after k).length c) (allN t name h.after k).length ((allN t name h.after k).map (Value.int .i64)) ∧ Kept [F] w1 wr
theorem findC_set (v : TabV) (t : Tab) (h : WhV) (name : ByteArray) (a b : Value) : (findC v t h name a).setIfInBounds 10 b = findC v t h name b := rfl
theorem findC_cell {w : World} {F : Nat} {v : TabV} {t : Tab} {h : WhV} {name : ByteArray} {a : Value} (hb : w.heap[F]? = some (.cells (findC v t h name a) 80 (0, 0))) : w.cell? ⟨F, 10, none⟩ = some a ∧ w.frozen? ⟨F, 10, none⟩ = false :=
  ⟨(cell_of_row _ _ _ _ _ _ hb).trans rfl, frozen_of_row _ _ _ _ _ hb⟩
def RetF (v : TabV) (t : Tab) (h : WhV) (name : ByteArray) (w : World) (e : Ending) (w' : World) : Prop :=
  ∃ F, e = .returned (.pointer (some ⟨F, 0, none⟩)) ∧ w.heap.size ≤ F ∧ FinderIn w' F v t h name (allR t name h.after) ∧ Kept [] w w'

set_option maxRecDepth 100000 in
set_option maxHeartbeats 4000000 in
theorem look_any (w : World) (v : TabV) (t : Tab) (h : WhV) (name : ByteArray) (hT : TabIn w v t) (hH : WhIn w h) (hs : t.ents.length ≤ 100000) :
    Calls Try.prog 40 #[.agg (v.cells t), .agg h.cells.toArray, .string name] w (RetF v t h name w) := by
  have HT := Lib.hid hT
  have HH := Lib.hid hH
  have q1 := hT.el
  have q2 := hT.em
  clear hT hH
  obtain ⟨i0, hi, hz0, hz1, hz2⟩ := info_parts int_info
  unfold TabV.cells WhV.cells
  go_enter Try.func40, Try.ntmps40
  go_upto_region 2 with (fail)
  refine wp_gen' ?_
  intro w1 hw1
  have HK1 : Hid (Kept [] w w1) := by rw [Hid, hw1]; exact ((Kept.alloc _ _ _).trans (Kept.alloc _ _ _)).trans (Kept.alloc _ _ _)
  have b0 : w1.heap[w.heap.size]? = some (.cells (v.cells t) 28 (0, 0)) := by rw [hw1]; exact obj_old (obj_old (obj_new rfl) (by simp)) (by simp; omega)
  have b1 : w1.heap[w.heap.size + 1]? = some (.cells h.cells.toArray 31 (0, 0)) := by rw [hw1]; exact obj_old (obj_new (by simp)) (by simp)
  have b2 : w1.heap[w.heap.size + 1 + 1]? = some (.cells (findC v t h name (.slice none 0 0)) 80 (0, 0)) := by rw [hw1]; exact obj_new (by simp)
  have hsz : w1.heap.size = w.heap.size + 3 := by rw [hw1]; simp
  have e2 : w1.cell? ⟨w.heap.size, 2, none⟩ = some (.slice v.ea t.ents.length v.ec) := (cell_of_row _ _ _ _ _ _ b0).trans rfl
  have a1 : w1.cell? ⟨w.heap.size + 1, 1, none⟩ = some (.int .i64 h.after) := (cell_of_row _ _ _ _ _ _ b1).trans rfl
  have HL0 : Hid (Looking v t h name w1 (w.heap.size + 1 + 1) 0 w1) := ⟨none, 0, b2, World.ownsRow_nil _ _ _ _, Kept.refl _ _⟩
  have HA1 := Lib.hid a1
  have hF : w.heap.size + 1 + 1 < w1.heap.size := by omega
  have hFw : w.heap.size + 1 ≠ w.heap.size + 1 + 1 := by omega
  have HFW := Lib.hid hFw
  have hwF : w.heap.size ≤ w.heap.size + 1 + 1 := by omega
  clear hw1 b0 b1 b2 hsz a1 hFw
  generalize hFF : w.heap.size + 1 + 1 = F at *
  clear hFF
  go_wp2_with fail
  clear e2
  go_loopw [19] (fun i wr => ∃ k : Nat, k ≤ t.ents.length ∧ i = .int .i64 k ∧ Looking v t h name w1 F k wr) (fun i _ => t.ents.length - (intOf i).toNat)
  case atStart => exact ⟨0, Nat.zero_le _, rfl, HL0.out⟩
  case round =>
    obtain ⟨k, hk, rfl, A, c, hbx, hown, hkr⟩ := hrel
    have HBX := Lib.hid hbx
    have HO := Lib.hid hown
    have HKR := Lib.hid hkr
    have HKW : Hid (Kept [] w wr) := HK1.out.above hkr (fun z hz => by simp at hz; omega)
    have hzr := hkr.size
    clear hbx hown hkr
    obtain ⟨w2, rfl⟩ : ∃ w2 : World, w2 = wr := ⟨_, rfl⟩
    by_cases hlt : k < t.ents.length
    · obtain ⟨x, hx⟩ : ∃ x, t.ents[k]? = some x := ⟨_, List.getElem?_eq_getElem hlt⟩
      obtain ⟨b, o, hea, hr⟩ := (HT.out.kept HKW.out).es.some_ hx
      have HROW := Lib.hid (hr k x hx)
      have HSEL : Hid (selAt t name h.after k = selB name h.after k x) := by rw [Hid, selAt, hx]; rfl
      rw [hea]
      clear hr hx hea
      go_upto_region 5 with (refine wpList_load_mid rfl 43 (.tmp 22) rfl b (o + k * 22) rfl x.cells _ HROW.out Try.underlying43 rfl (Try.info43 x) ?_)
      refine wp_gen' ?_
      intro w3 hw3
      have hk3 : Kept [] w2 w3 := by rw [hw3]; exact Kept.alloc _ _ _
      have n1 : w3.cell? ⟨w2.heap.size, 1, none⟩ = some (.string x.name) := by rw [hw3]; exact ent_cell (x := x) (heap_alloc_new _ _) 1 rfl
      have a1 := hk3.cell (HKR.out.cell HA1.out (by simpa using HFW.out)) (by simp)
      have HBX3 := Lib.hid (hk3.obj HBX.out (by simp))
      have HO3 := Lib.hid (own_keep HO.out hk3 (by simp))
      have HKR3 := Lib.hid (HKR.out.trans (hk3.mono (by simp)))
      have hz3 := HKR3.out.size
      have hal := allN_len t name h.after k
      have HAS := Lib.hid (allN_succ t name h.after k)
      clear hw3 hk3 HROW HBX HO HKR
      have HNO : Hid (selB name h.after k x = false → Looking v t h name w1 F (k + 1) w3) := fun hf => by
        have e : allN t name h.after (k + 1) = allN t name h.after k := by rw [HAS.out, HSEL.out, hf]; simp
        exact ⟨A, c, by rw [e]; exact HBX3.out, by rw [e]; exact HO3.out, HKR3.out⟩
      cases h1 : name.toList.isEmpty
      · cases h2 : (x.name.toList == name.toList)
        · have HN := Lib.hid (HNO.out (by simp [selB, h1, h2]))
          clear HNO
          go_wp2_with fail
          go_roundw
          case rel => exact ⟨k + 1, by omega, by go_num, HN.out⟩
          case measure => simp [intOf]; omega
        · cases h3 : decide ((k : Int) < h.after)
          · have HN := Lib.hid (HNO.out (by simp [selB, h1, h2, h3]))
            clear HNO
            go_wp2_with fail
            go_roundw
            case rel => exact ⟨k + 1, by omega, by go_num, HN.out⟩
            case measure => simp [intOf]; omega
          · have HS1 : Hid (allN t name h.after (k + 1) = allN t name h.after k ++ [(k : Int)]) := by
              rw [Hid, HAS.out, HSEL.out]; simp [selB, h1, h2, h3]
            obtain ⟨f1, f2⟩ := findC_cell HBX3.out
            clear HNO HAS
            generalize allN t name h.after k = zs at *
            have hA : zs.length + 1 ≤ maxLen := by unfold maxLen; omega
            have hB : (zs.length + 1) * 8 ≤ 140737488355328 := by omega
            have hC : w1.heap.size ≤ (w3.alloc (.cells #[.int .i64 k] 3)).heap.size := by simp; omega
            go_wp2_with (at_builtin; refine wpList_append_own _ rfl _ _ 29 rfl w1.heap.size 3 i0 (.int .i64 0) 1 8 Try.underlying29 hi hz0 hz1 hz2 rfl (by decide) (.slice A zs.length c) zs.length (zs.map (Value.int .i64)) rfl (HO3.out.alloc _) ⟨w3.heap.size, 0, none⟩ 1 1 [.int .i64 k] rfl rfl (cell_one_new _ _ _) (one_int _ _) hA hB hC ?_; intro vb wb hob hgb _; obtain ⟨AB, CB, rfl⟩ := own_shape hob; have hbx : wb.heap[F]? = some (.cells (findC v t h name (.slice A zs.length c)) 80 (0, 0)) := (hgb.block F (by simp; omega) (fun e => by have := own_at HO3.out F e.symm; omega)).trans (obj_old HBX3.out (by omega)); have hkb : Kept [F] w1 wb := (HKR3.out.trans (Kept.alloc _ _ _)).grown hgb (fun q hq => own_at HO3.out q hq); obtain ⟨g1, g2⟩ := findC_cell hbx; have HBB := Lib.hid hbx; have HOB := Lib.hid hob; have HKB := Lib.hid hkb; clear hob hgb hkb hbx)
            have HN : Hid (Looking v t h name w1 F (k + 1) (wb.setCell ⟨F, 10, none⟩ (.slice AB (zs.length + 1) CB))) := by
              refine ⟨AB, CB, ?_, ?_, HKB.out.trans (Kept.setCell _ _ _ (by simp))⟩
              · rw [heap_setCell_same _ _ _ _ _ _ HBB.out, findC_set, HS1.out]
                simp
              · rw [HS1.out]
                have := HOB.out
                refine own_keep (w := wb) (X := [F]) (by simpa using this) (Kept.setCell _ _ _ (by simp)) (fun q hq => ?_)
                have := own_at HOB.out q (by simpa using hq)
                simp; omega
            go_roundw
            case rel => exact ⟨k + 1, by omega, by go_num, HN.out⟩
            case measure => simp [intOf]; omega
      · have HN := Lib.hid (HNO.out (by simp [selB, h1]))
        clear HNO
        go_wp2_with fail
        go_roundw
        case rel => exact ⟨k + 1, by omega, by go_num, HN.out⟩
        case measure => simp [intOf]; omega
    · obtain rfl : k = t.ents.length := by omega
      have HFI : Hid (FinderIn w2 F v t h name (allR t name h.after)) := by
        obtain ⟨_, hin, h1, h2, _⟩ := (IntsC.of_owns HO.out).at_
        exact ⟨⟨A, c, HBX.out, hin, h1, h2⟩, HT.out.kept HKW.out, HH.out.kept HKW.out⟩
      go_wp2_with fail
      go_ret
      exact ⟨F, rfl, hwF, HFI.out, HKW.out⟩
end Go.Proofs.Ytlgcboaojdhneaa
