/- Reaches of the reference. -/
import Derived.Test.YtoaklikkepkhfaaS2
import Derived.Deep.LoopGhost
import Derived.Deep.OwnRows
namespace Go.Proofs.Ytoaklikkepkhfaa
open Go.RowKit

theorem wp_gen {P : Program} {c : Code} {Q : Exit → Act → World → Prop} {a : Act} {W : World} (h : ∀ w5, w5 = W → Code.wp P c Q a w5) : Code.wp P c Q a W := h W rfl
/-- Block g is a row of bools. -/
def BRow (w : World) (g : Nat) (bs : List Bool) : Prop := w.heap[g]? = some (.cells (bs.map Value.bool).toArray 4 (0, 0))
theorem BRow.cell {w : World} {g : Nat} {bs : List Bool} (h : BRow w g bs) {i : Nat} {b : Bool} (hb : bs[i]? = some b) : w.cell? ⟨g, i, none⟩ = some (.bool b) := by
  rw [cell_of_row _ _ _ _ _ _ h]; simp [hb]
theorem BRow.frozen {w : World} {g : Nat} {bs : List Bool} (h : BRow w g bs) (i : Nat) : w.frozen? ⟨g, i, none⟩ = false := frozen_of_row _ _ _ _ _ h
theorem BRow.set {w : World} {g : Nat} {bs : List Bool} (h : BRow w g bs) (i : Nat) (v : Bool) : BRow (w.setCell ⟨g, i, none⟩ (.bool v)) g (bs.set i v) := by
  unfold BRow at *
  rw [heap_setCell_same _ _ _ _ _ _ h]
  congr 2
  rw [List.setIfInBounds_toArray, List.map_set]
theorem BRow.kept {w w' : World} {g : Nat} {bs : List Bool} {X : List Nat} (h : BRow w g bs) (hk : Kept X w w') (hx : g ∉ X) : BRow w' g bs := hk.obj h hx
theorem BRow.made (w : World) (n : Nat) : BRow (w.alloc (.cells (madeCells #[.bool false] n) 4)) w.heap.size (List.replicate n false) := by
  unfold BRow
  rw [heap_alloc_new]
  congr 2
  apply Array.ext
  · simp [size_madeCells]
  · intro i h1 h2
    have : i % 1 = 0 := by omega
    simp [madeCells, this]
theorem BRow.lt {w : World} {g : Nat} {bs : List Bool} (h : BRow w g bs) : g < w.heap.size := (Array.getElem?_eq_some_iff.1 h).1
/-- A row of ints is not that row. -/
theorem BRow.ne {w : World} {g b o j : Nat} {bs : List Bool} {x : Int} (h : BRow w g bs) (hc : w.cell? ⟨b, o + j, none⟩ = some (.int .i64 x)) : b ≠ g := by
  rintro rfl
  rw [cell_of_row _ _ _ _ _ _ h] at hc
  simp at hc
theorem IntsC.off {w w' : World} {g : Nat} {bs : List Bool} {v : Value} {xs : List Int} (h : IntsC w v xs) (hb : BRow w g bs) (hk : Kept [g] w w') : IntsC w' v xs := by
  obtain ⟨a, c, rfl, h1, h2, h3, h4⟩ := h
  refine ⟨a, c, rfl, h1, h2, h3, ?_⟩
  rcases h4 with h4 | ⟨b, o, rfl, hc⟩
  · exact .inl h4
  · exact .inr ⟨b, o, rfl, fun j x hx => hk.cell (hc j x hx) (by simpa using hb.ne (hc j x hx))⟩
theorem Kept.grown {X : List Nat} {a b c : World} {row : Option Nat} (h : Kept X a b) (hg : b.grownBy c row) (hr : ∀ k, row = some k → a.heap.size ≤ k) : Kept X a c :=
  ⟨hg.os.trans h.os, hg.tape.trans h.tape, hg.output.trans h.output, Nat.le_trans h.size hg.size, fun k hk hx => by
    rw [hg.block k (Nat.lt_of_lt_of_le hk h.size) (fun e => by have := hr k e.symm; omega)]
    exact h.block k hk hx⟩

theorem bool_info : (Try.prog.info? 4).map (fun i => (i.zero, i.size, i.bytes)) = some (some (.bool false), 1, 1) := by kernel_rfl
theorem int_info : (Try.prog.info? 3).map (fun i => (i.zero, i.size, i.bytes)) = some (some (.int .i64 0), 1, 8) := by kernel_rfl

/-- Bools that say what is reached. -/
def RetSeen (subs : List SubV) (start : List Int) (w : World) (e : Ending) (w' : World) : Prop :=
  ∃ g bs, e = .returned (.slice (some ⟨g, 0, none⟩) subs.length subs.length) ∧ BRow w' g bs ∧ w.heap.size ≤ g ∧ RInv subs start bs [] ∧ Kept [] w w'

theorem drop_mem {α : Type} {l : List α} {j : Nat} {s x : α} (hs : l[j]? = some s) (h : x ∈ l.drop j) : x = s ∨ x ∈ l.drop (j + 1) := by
  obtain ⟨hj, rfl⟩ := List.getElem?_eq_some_iff.1 hs
  rw [List.drop_eq_getElem_cons hj] at h
  exact List.mem_cons.1 h
theorem drop_mem' {α : Type} {l : List α} {j : Nat} {x : α} (h : x ∈ l.drop (j + 1)) : x ∈ l.drop j := by
  rw [← List.drop_drop] at h
  exact List.mem_of_mem_drop h
theorem mem_drop_at {α : Type} {l : List α} {j : Nat} {s : α} (hs : l[j]? = some s) : s ∈ l.drop j := by
  obtain ⟨hj, rfl⟩ := List.getElem?_eq_some_iff.1 hs
  rw [List.drop_eq_getElem_cons hj]; exact List.mem_cons_self
theorem RInv.old' {subs : List SubV} {start : List Int} {bs : List Bool} {todo more : List Int} {j : Nat} {s : Int} (h : RInv subs start bs (todo.drop j ++ more)) (hj : todo[j]? = some s) (hs : bs[s.toNat]? = some true) : RInv subs start bs (todo.drop (j + 1) ++ more) :=
  h.old hs (fun x hx => by
    rcases List.mem_append.1 hx with hx | hx
    · rcases drop_mem hj hx with e | hx
      · exact .inl e
      · exact .inr (List.mem_append_left _ hx)
    · exact .inr (List.mem_append_right _ hx)) (fun x hx => by
    rcases List.mem_append.1 hx with hx | hx
    · exact List.mem_append_left _ (drop_mem' hx)
    · exact List.mem_append_right _ hx)
theorem RInv.new' {subs : List SubV} {start : List Int} {bs : List Bool} {todo more : List Int} {j : Nat} {s : Int} (h : RInv subs start bs (todo.drop j ++ more)) (hj : todo[j]? = some s) (h0 : 0 ≤ s) (hs : bs[s.toNat]? = some false) : RInv subs start (bs.set s.toNat true) (todo.drop (j + 1) ++ (more ++ callsOf subs s)) :=
  h.new h0 hs (List.mem_append_left _ (mem_drop_at hj)) (fun x hx => by
    rcases List.mem_append.1 hx with hx | hx
    · rcases drop_mem hj hx with e | hx
      · exact .inl e
      · exact .inr (List.mem_append_left _ hx)
    · exact .inr (List.mem_append_right _ (List.mem_append_left _ hx))) (fun x hx => List.mem_append_right _ (List.mem_append_right _ hx)) (fun x hx => by
    rcases List.mem_append.1 hx with hx | hx
    · exact .inl (List.mem_append_left _ (drop_mem' hx))
    · rcases List.mem_append.1 hx with hx | hx
      · exact .inl (List.mem_append_right _ hx)
      · exact .inr hx)

/-- The outer loop of Reaches. -/
def OutR (subs : List SubV) (start : List Int) (w w1 : World) (G : Nat) (gk : Nat) (v : Value) (wr : World) : Prop :=
  ∃ todo bs, IntsC wr v todo ∧ BRow wr G bs ∧ RInv subs start bs todo ∧ todo.length + unseen bs subs ≤ gk ∧ Kept [] w wr ∧ Kept [G] w1 wr
/-- The inner one. -/
def InR (subs : List SubV) (start todo : List Int) (w wo : World) (G U : Nat) (g2 : Nat) (vm : Value) (i : Value) (wr : World) : Prop :=
  ∃ (j : Nat) (more : List Int) (bs : List Bool), j + g2 = todo.length ∧ i = .int .i64 j ∧ wr.ownsRow wo.heap.size 3 1 vm more.length (more.map (Value.int .i64)) ∧ BRow wr G bs ∧ RInv subs start bs (todo.drop j ++ more) ∧ more.length + unseen bs subs ≤ U ∧ Kept [] w wr ∧ Kept [G] wo wr

theorem seen_at {subs : List SubV} {bs : List Bool} {sn : Nat} (hl : bs.length = subs.length) (h : sn < subs.length) : ∃ b, bs[sn]? = some b := ⟨_, List.getElem?_eq_getElem (by omega)⟩
theorem callsOf_nat {subs : List SubV} {sn : Nat} {y : SubV} (h : subs[sn]? = some y) : callsOf subs (sn : Int) = y.calls := callsOf_eq (by simpa using h)

set_option maxRecDepth 100000 in
set_option maxHeartbeats 4000000 in
theorem reaches_any (w : World) (ua : Option Addr) (uc : Nat) (l : List UnitV) (sa : Option Addr) (sc : Nat) (subs : List SubV) (u : Nat) (x : UnitV) (hE : Env w ua uc l sa sc subs) (hx : l[u]? = some x) (hm : May l subs) (hb : x.calls.length + allCalls subs ≤ 100000) :
    Calls Try.prog 16 #[.slice ua l.length uc, .slice sa subs.length sc, .int .i64 u] w (RetSeen subs x.calls w) := by
  have HE := Lib.hid hE
  have HM := Lib.hid hm
  have HX := Lib.hid hx
  have b1 := hE.ul
  have b2 := hE.um
  have b3 := hm.s4096
  have hul : u < l.length := (List.getElem?_eq_some_iff.1 hx).1
  obtain ⟨bu, ou, rfl, hr⟩ := hE.us.some_ hx
  obtain ⟨_, _, _, x3⟩ := unit_cells (hr u x hx)
  clear hE hm hx hr
  obtain ⟨i0, hi, hz0, hz1, hz2⟩ := info_parts bool_info
  obtain ⟨i3, hi3, hz30, hz31, hz32⟩ := info_parts int_info
  go_enter Try.func16, Try.ntmps16
  have hmb : i0.bytes * subs.length ≤ 281474976710656 := by rw [hz2]; omega
  go_upto_region 2 with (at_make; refine wpList_make_row _ rfl _ _ 39 rfl 4 i0 (.bool false) Try.underlying39 hi hz0 hz1 rfl .i64 .i64 subs.length rfl rfl hmb (by omega) ?_)
  refine wp_gen ?_
  intro w1 hw1
  have hk1 : Kept [] w w1 := by rw [hw1]; exact Kept.alloc _ _ _
  have HB1 : Hid (BRow w1 w.heap.size (List.replicate subs.length false)) := by rw [hw1]; exact BRow.made w _
  have HK1 := Lib.hid hk1
  replace x3 := hk1.cell x3 (by simp)
  clear hk1 hw1
  have hG : w.heap.size < w1.heap.size := HB1.out.lt
  generalize hGG : w.heap.size = G at *
  go_wp2_with fail
  have HST : Hid (OutR subs x.calls w w1 G (x.calls.length + allCalls subs) (.slice x.ca x.calls.length x.cc) w1) :=
    ⟨x.calls, _, (HE.out.calls HX.out).kept HK1.out, HB1.out, RInv.begin subs x.calls, by rw [unseen_begin]; exact Nat.le_refl _, HK1.out, Kept.refl _ _⟩
  clear x3
  go_loopg [8] (x.calls.length + allCalls subs) (fun gk v wr => gk ≤ 100000 ∧ OutR subs x.calls w w1 G gk v wr)
  case atStart => exact ⟨hb, HST.out⟩
  case round =>
    obtain ⟨hgk, todo, bs, htodo, hbs, hri, hpot, hk, hkG⟩ := hrel
    obtain ⟨wo, rfl⟩ : ∃ wo : World, wo = wr := ⟨_, rfl⟩
    have HBS := Lib.hid hbs
    have HRI := Lib.hid hri
    have HPOT := Lib.hid hpot
    have HK := Lib.hid hk
    have HKG := Lib.hid hkG
    have HTODO := Lib.hid htodo
    obtain ⟨ta, tc, rfl, t1, t2, t3, t4⟩ := htodo
    have hGo : G < wo.heap.size := hbs.lt
    have htl : todo.length ≤ 100000 := by omega
    clear hbs hri hpot hk hkG
    rcases t4 with h0 | ⟨bt, ot, rfl, hct⟩
    · have h0' : todo.length ≤ 0 := by rw [h0]; exact Nat.le_refl _
      rw [h0] at HRI
      clear h0
      go_wp2_with fail
      go_ret
      exact ⟨G, bs, rfl, HBS.out, by omega, HRI.out, HK.out⟩
    · by_cases h0' : todo.length = 0
      · have h0 : todo = [] := List.eq_nil_of_length_eq_zero h0'
        have h1' : todo.length ≤ 0 := by omega
        rw [h0] at HRI
        clear h0 h0'
        go_wp2_with fail
        go_ret
        exact ⟨G, bs, rfl, HBS.out, by omega, HRI.out, HK.out⟩
      · have hpos : 0 < todo.length := by omega
        have HCT := Lib.hid hct
        clear hct h0'
        go_wp2_with fail
        go_loopg [9, 10] todo.length (fun g2 vm i wr => InR subs x.calls todo w wo G (unseen bs subs) g2 vm i wr)
        case atStart => exact ⟨0, [], bs, by omega, rfl, World.ownsRow_nil _ _ _ _, HBS.out, by simpa using HRI.out, by simp, HK.out, Kept.refl _ _⟩
        case round =>
          obtain ⟨j, more, bs2, hjg, rfl, hown, hb2, hri2, hpot2, hk2, hkG2⟩ := hrel
          obtain ⟨A9, c9, rfl⟩ := own_shape hown
          have HOWN := Lib.hid hown
          have HB2 := Lib.hid hb2
          have HRI2 := Lib.hid hri2
          have HK2 := Lib.hid hk2
          have HKG2 := Lib.hid hkG2
          have hml : more.length ≤ 100000 := by have := HPOT.out; omega
          have hso : wo.heap.size ≤ wr.heap.size := hkG2.size
          clear hown hb2 hri2 hk2 hkG2
          by_cases hlt : j < todo.length
          · obtain ⟨s, hs⟩ : ∃ s, todo[j]? = some s := ⟨_, List.getElem?_eq_getElem hlt⟩
            have HS := Lib.hid hs
            have q0 := HCT.out j s hs
            have q1 := HKG2.out.cell q0 (by simpa using HBS.out.ne q0)
            have hR := HRI2.out.todoR s (List.mem_append_left _ (mem_drop_at hs))
            have hin := hR.inr (HM.out.calls x (List.mem_of_getElem? HX.out)) HM.out.subc
            clear hs hR q0
            obtain ⟨h00, h01⟩ := hin
            obtain ⟨sn, rfl⟩ := Int.eq_ofNat_of_zero_le h00
            have hsn : sn < subs.length := by omega
            obtain ⟨y, hy⟩ : ∃ y, subs[sn]? = some y := ⟨_, List.getElem?_eq_getElem hsn⟩
            have HY := Lib.hid hy
            obtain ⟨bq, oq, rfl, hr⟩ := HE.out.ss.some_ hy
            obtain ⟨_, y1⟩ := sub_cells (hr sn y hy)
            have hnG : bq ≠ G := by
              have := World.block_lt_of_cell? w _ y1
              have : bq < w.heap.size := this
              omega
            replace y1 := HK2.out.cell y1 (by simp)
            obtain ⟨b, hb⟩ := seen_at HRI2.out.len hsn
            have HBB := Lib.hid hb
            have qb := HB2.out.cell hb
            have qf := HB2.out.frozen sn
            clear hr hy hb h00 h01
            cases b
            · have HU := Lib.hid (unseen_set HBB.out HY.out)
              have hY1 : y.calls.length ≤ 100000 := by have := HU.out; have := HPOT.out; omega
              go_upto_region 10 with (fail)
              refine wp_gen ?_
              intro w5 hw5
              have hk5 : Kept [G] wr w5 := by rw [hw5]; exact Kept.setCell _ _ _ (by simp)
              have HB5 : Hid (BRow w5 G (bs2.set sn true)) := by rw [hw5]; exact HB2.out.set sn true
              have HO5 : Hid (w5.ownsRow wo.heap.size 3 1 (.slice A9 more.length c9) more.length (more.map (Value.int .i64))) := by rw [hw5]; exact ownsRow_setCell_below HOWN.out (show G < _ from hGo) _
              have hs5 : wo.heap.size ≤ w5.heap.size := by have := hk5.size; omega
              have HK5 : Hid (Kept [] w w5) := HK1.out.trans0 ((HKG.out.trans HKG2.out).trans hk5) (by omega)
              have HKG5 : Hid (Kept [G] wo w5) := HKG2.out.trans hk5
              replace q1 := hk5.cell q1 (by simpa using HB2.out.ne q1)
              replace y1 := hk5.cell y1 (by simpa using hnG)
              clear hw5 hk5 qb qf
              have hA : more.length + y.calls.length ≤ maxLen := by unfold maxLen; omega
              have hB : (more.length + y.calls.length) * 8 ≤ 140737488355328 := by omega
              go_wp2_with (at_builtin; refine wpList_append_src _ rfl (.tmp 42) (.tmp 50) 26 rfl wo.heap.size 3 i3 (.int .i64 0) 1 8 Try.underlying26 hi3 hz30 hz31 hz32 rfl (by decide) (.slice A9 more.length c9) more.length (more.map (Value.int .i64)) rfl HO5.out _ y.calls.length _ (y.calls.map (Value.int .i64)) rfl ((HE.out.kept HK5.out).sk y (List.mem_of_getElem? HY.out)).src (ints_one _) hA hB hs5 ?_; intro v6 w6 hown6 hg6 hat6; have HO6 := Lib.hid hown6; have HG6 := Lib.hid hg6; clear hown6 hg6 hat6)
              have HK6 : Hid (Kept [] w w6) := HK5.out.grown HG6.out (fun k hk => by have := own_at HO5.out k hk; omega)
              have HKG6 : Hid (Kept [G] wo w6) := HKG5.out.grown HG6.out (fun k hk => own_at HO5.out k hk)
              have HB6 : Hid (BRow w6 G (bs2.set sn true)) := (HG6.out.block G HB5.out.lt (fun e => by have := own_at HO5.out G e.symm; omega)).trans HB5.out
              have HN := HRI2.out.new' HS.out (by omega) (by simpa using HBB.out)
              rw [callsOf_nat HY.out] at HN
              have HNEW := Lib.hid HN
              clear HN
              go_roundg (gk - 1)
              case measure => omega
              case rel => exact ⟨j + 1, more ++ y.calls, bs2.set sn true, by omega, by go_num, by simpa using HO6.out, HB6.out, by simpa using HNEW.out, by have := HU.out; simp; omega, HK6.out, HKG6.out⟩
            · have HOLD := Lib.hid (HRI2.out.old' HS.out (by simpa using HBB.out))
              go_wp2_with fail
              go_roundg (gk - 1)
              case measure => omega
              case rel => exact ⟨j + 1, more, bs2, by omega, by go_num, HOWN.out, HB2.out, HOLD.out, hpot2, HK2.out, HKG2.out⟩
          · obtain rfl : j = todo.length := by omega
            go_wp2_with fail
            go_roundg (more.length + unseen bs2 subs)
            case measure => have := HPOT.out; omega
            case rel => exact ⟨by have := HPOT.out; omega, more, bs2, IntsC.of_owns HOWN.out, HB2.out, by have := HRI2.out; rw [List.drop_length, List.nil_append] at this; exact this, Nat.le_refl _, HK2.out, HKG.out.trans HKG2.out⟩
end Go.Proofs.Ytoaklikkepkhfaa
