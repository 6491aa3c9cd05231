/- The events: bodies and the end. -/
import Derived.Test.YtbjnoffdafpkgaaG3
namespace Go.Proofs.Ytbjnoffdafpkgaa
open Go.RowKit

def Wf (x : Int) : Prop := (Lit.int .i64 x).wf = true

/-- end refuses. -/
def EndNo (s : PS) (x : EvV) : Prop := (∃ y, Wf y ∧ (s.dec y).isSome = true ∧ (s.com y).getD false = false) ∨ ((x.kind == 9) = true ∧ ∃ y c, Wf y ∧ s.con y = some c ∧ c.2 = false)
/-- end freezes a list. -/
def EndYes (s : PS) (x : EvV) (l : List Int) : Prop := (∀ y, y ∈ l → Wf y ∧ (s.dec y).isSome = true ∧ (s.com y).getD false = true) ∧ (∀ y, Wf y → (s.dec y).isSome = true → y ∈ l) ∧ ((x.kind == 9) = true → ∀ y c, Wf y → s.con y = some c → c.2 = true)

def endF (t : Tab) (s : PS) (l : List Int) : Bool × PS := ((meetAll t (okM s.dec s.com) l).2, { s with frz := frzF s.frz (meetAll t (okM s.dec s.com) l) })

def EndPost (v : TabV) (t : Tab) (B S dB cB fB kB n : Nat) (s : PS) (x : EvV) (w : World) (e : Ending) (w' : World) : Prop :=
  (EndNo s x ∧ EPost v t B S dB cB fB kB n (false, s) w e w') ∨ (∃ l, EndYes s x l ∧ EPost v t B S dB cB fB kB n (endF t s l) w e w')

/-- The first loop of end. -/
structure End1 (s : PS) (dB it n : Nat) (w2 : World) (lv : Value) (left : Int → Bool) (cn : Nat) (l : List Int) (wr : World) : Prop where
  range : BRange Try.prog 3 4 wr dB it n s.dec left cn
  row : wr.ownsRow w2.heap.size 3 1 lv l.length (l.map (Value.int .i64))
  mem : ∀ y, y ∈ l → Wf y ∧ (s.dec y).isSome = true ∧ (s.com y).getD false = true
  all : ∀ y, Wf y → (s.dec y).isSome = true → left y = false → y ∈ l
  len : l.length + cn ≤ n
  kept : Kept [it] w2 wr

theorem IntsAt.of_owns {w : World} {base : Nat} {v : Value} {xs : List Int} (h : w.ownsRow base 3 1 v xs.length (xs.map (Value.int .i64))) : IntsAt w v xs := by
  rcases owns_split h with ⟨rfl, a, c, rfl⟩ | ⟨g, c, rfl, _, _, hm, hc⟩
  · exact .inl ⟨rfl, a, c, rfl⟩
  · refine .inr ⟨g, 0, c, rfl, hm, fun j hj => ?_⟩
    rw [Nat.zero_add, hc j xs[j] (List.getElem?_eq_getElem hj)]
    simp [List.getD, hj]

set_option maxRecDepth 100000 in
set_option maxHeartbeats 1000000 in
theorem end_any (v : TabV) (t : Tab) (B S dB cB fB kB n : Nat) (s : PS) (x : EvV) (w : World) (hE : SAt v t B S dB cB fB kB n s w) (hn : n ≤ 1000000000) (hdec : ∀ y, Wf y → (s.dec y).isSome = true → exI t.types.length y = true) :
    Calls Try.prog 41 #[.pointer (some ⟨S, 0, none⟩), x.val] w (EndPost v t B S dB cB fB kB n s x w) := by
  have hk1 : Kept [] w (w.alloc (.cells #[.int .u8 x.kind, .int .i64 x.ty, .int .i64 x.num] 45)) := Kept.alloc _ _ _
  have HE1 := Lib.hid (hE.kept hk1)
  have HK1 := Lib.hid hk1
  have HD := Lib.hid hdec
  clear hE hk1 hdec
  obtain ⟨i0, hi, hz0, hz1, hz2'⟩ := info_parts Try.info3
  unfold EvV.val
  go_enter Try.func41, Try.ntmps41
  go_upto_region 2 with (fail)
  refine wp_gen ?_
  intro w1 hw1
  rw [← hw1] at HE1 HK1
  have c0 : w1.cell? ⟨w.heap.size, 0, none⟩ = some (.int .u8 x.kind) := by rw [hw1]; go_simp
  clear hw1
  have c1 := HE1.out.st.dec
  obtain ⟨w2, cnt, hrun, hbr, hcnt, hg2, hzz2⟩ := HE1.out.decl.range Try.underlying3 Try.underlying64
  have hk2 : Kept [] w1 w2 := Kept.of_grown hg2 (by simp)
  have HK2 := Lib.hid (HK1.out.trans hk2)
  have HK12 := Lib.hid hk2
  have HE2 := Lib.hid (HE1.out.kept hk2)
  have c2 := hk2.cell c0 (by simp)
  have HBR := Lib.hid hbr
  have hlt1 := World.block_lt_of_cell? w1 _ c0
  have hz12 : w1.heap.size < w2.heap.size := by omega
  clear hbr hg2 hk2 hzz2
  go_wp2_with fail
  go_loopw [5, 6] (fun lv _ wr => ∃ left cn l, End1 s dB w1.heap.size n w2 lv left cn l wr) (fun _ _ wr => wr.rangeLeft dB w1.heap.size)
  case atStart => exact ⟨_, cnt, [], HBR.out, World.ownsRow_nil _ _ _ _, by simp, fun y hy h1 h2 => (by rw [h1] at h2; cases h2), by simpa using hcnt, Kept.refl _ _⟩
  case round =>
    obtain ⟨left, cn, l, hrel⟩ := hrel
    have HREL := Lib.hid hrel
    clear hrel c0 c1 hrun
    rcases HREL.out.range.next Try.underlying3 Try.underlying4 0 with ⟨h0, hl, hnx⟩ | ⟨y, c, w3, cn', hwy, hly, hMy, hnx, hbr3, hlt, hg3, hz3, hen⟩
    · obtain ⟨wo, rfl⟩ : ∃ wo : World, wo = wr := ⟨_, rfl⟩
      have HALL : Hid (∀ y, Wf y → (s.dec y).isSome = true → y ∈ l) := fun y hy hd => HREL.out.all y hy hd (hl y hy)
      have hkr : Kept [] w1 wo := ((HK12.out.mono (by simp)).trans HREL.out.kept).mono' (fun q hq hlt => by simp at hq; omega)
      have HEr := Lib.hid (HE1.out.kept hkr)
      have HKr := Lib.hid (HK1.out.trans hkr)
      have HROW := Lib.hid HREL.out.row
      have c4 := HEr.out.st.con
      have c5 := HREL.out.kept.cell c2 (by simp; omega)
      obtain ⟨w6, cnt6, hrun6, hbr6, hcnt6, hg6, hz6⟩ := HEr.out.cons.range Try.underlying3 Try.underlying65
      have hk6 : Kept [] wo w6 := Kept.of_grown hg6 (by simp)
      have hzr := HREL.out.kept.size
      have hz66 : wo.heap.size < w6.heap.size := by omega
      have HBR6 := Lib.hid hbr6
      have HK6 := Lib.hid hk6
      have HMEM := Lib.hid HREL.out.mem
      have c6 := hk6.cell c5 (by simp)
      have hll := HREL.out.len
      clear hbr6 hg6 hk6 hz6 hl hkr
      go_wp2_with fail
      go_loopw [8] (fun _ wr => ∃ left2 cn2, CRange Try.prog 3 wr kB wo.heap.size n s.con left2 cn2 ∧ ((x.kind == 9) = true → ∀ y c, Wf y → s.con y = some c → left2 y = false → c.2 = true) ∧ Kept [wo.heap.size] w6 wr) (fun _ wr => wr.rangeLeft kB wo.heap.size)
      case atStart => exact ⟨_, cnt6, HBR6.out, fun _ y c _ h1 h2 => (by rw [h1] at h2; cases h2), Kept.refl _ _⟩
      case round =>
        obtain ⟨left2, cn2, hr2, hdone, hkq⟩ := hrel
        have HDONE := Lib.hid hdone
        have HKQ := Lib.hid hkq
        have c7 := hkq.cell c6 (by simp; omega)
        have hcq2 := hr2.cnt_eq
        have HCQ2 := Lib.hid hcq2
        have hkq1 : Kept [] wo wr := ((HK6.out.mono (by simp)).trans hkq).mono' (fun q hq hlt => by simp at hq; omega)
        have HKQ1 := Lib.hid hkq1
        clear hdone hcq2 hkq hkq1 hrun6 c4 c5 c6
        rcases hr2.next Try.underlying3 0 with ⟨h0, hl2, hnx2⟩ | ⟨y, c, w8, cn', hwy, hly, hMy, hnx2, hbr8, hlt, hg8, hz8, hen⟩
        · have HYES : Hid (EndYes s x l) := ⟨HMEM.out, HALL.out, fun hk y c hy hc => HDONE.out hk y c hy hc (hl2 y hy)⟩
          clear hr2 hl2 c7
          have HEq := Lib.hid (HEr.out.kept HKQ1.out)
          have HROWq := Lib.hid (HROW.out.kept (row := none) ⟨HKQ1.out.os, HKQ1.out.tape, HKQ1.out.output, HKQ1.out.size, fun k hk _ => HKQ1.out.block k hk (by simp)⟩ (by
            cases hq : u5.ownBlock
            · exact .inl rfl
            · exact .inr (by simp)))
          go_wp2_with fail
          refine (freeze_any v t B S dB cB fB kB n n n s.dec s.com s.frz _ _ l HEq.out.env (IntsAt.of_owns HROWq.out) (fun z hz => HD.out z (HMEM.out z hz).1 (HMEM.out z hz).2.1) hn).mono ?_
          rintro e w9 ⟨rfl, hf9, hk9⟩
          have hlen := meetAll_len (t := t) (ok := okM s.dec s.com) (ls := l) (fun z hz => HD.out z (HMEM.out z hz).1 (HMEM.out z hz).2.1) HEq.out.num
          have HE9 := Lib.hid (HEq.out.setFrz hk9 hf9 (by omega))
          have HK9 : Hid (Kept [fB] w w9) := ((HKr.out.trans HKQ1.out).mono (by simp)).trans hk9
          clear hf9 hk9
          go_wp2_with fail
          go_ret
          exact .inr ⟨l, HYES.out, EPost.of HE9.out (by omega) HK9.out (by simp)⟩
        · have HB8 := Lib.hid hbr8
          have hk8 : Kept [wo.heap.size] w6 w8 := HKQ.out.trans (Kept.of_grown hg8 (fun q hq _ => by injection hq with hq; simp [hq]))
          have HK8 := Lib.hid hk8
          have hkr8 : Kept [] wo w8 := ((HK6.out.mono (by simp)).trans hk8).mono' (fun q hq hlt => by simp at hq; omega)
          have HKR8 := Lib.hid hkr8
          have c8 : w8.cell? ⟨w.heap.size, 0, none⟩ = some (.int .u8 x.kind) := HKR8.out.cell (HREL.out.kept.cell c2 (by simp; omega)) (by simp)
          have z8 : w.heap.size < w8.heap.size := World.block_lt_of_cell? w8 _ c8
          have HMY := Lib.hid hMy
          have HWY : Hid (Wf y) := hwy
          have HZ8 := Lib.hid hz8
          have HG8 := Lib.hid hg8
          obtain ⟨ca, cb⟩ := c
          simp only [encC] at hnx2 hen
          clear hr2 hbr8 hk8 hkr8 hMy hz8 hg8 c7 hly
          have HB9 : ∀ o, Hid (CRange Try.prog 3 (w8.alloc o) kB wo.heap.size n s.con (fun z => left2 z && (z != y)) cn') := fun o => HB8.out.block (Below.heap_alloc _ _ _ HB8.out.map.lt) (Below.heap_alloc _ _ _ HB8.out.lt)
          have HNEXT : Hid (((x.kind == 9) = true → cb = true) → (x.kind == 9) = true → ∀ z c, Wf z → s.con z = some c → (left2 z && (z != y)) = false → c.2 = true) := by
            intro hcb hk z c hz hc hl
            by_cases hzy : z = y
            · subst hzy
              rw [HMY.out] at hc
              injection hc with hc
              rw [← hc]
              exact hcb hk
            · exact HDONE.out hk z c hz hc (by simpa [hzy] using hl)
          have HB9' := Lib.hid HB9
          clear HB9
          cases hk9 : (x.kind == 9)
          · have HN : Hid ((x.kind == 9) = true → ∀ z c, Wf z → s.con z = some c → (left2 z && (z != y)) = false → c.2 = true) := HNEXT.out (fun h => by rw [hk9] at h; cases h)
            clear HNEXT
            go_wp2_with fail
            go_roundw
            case rel => exact ⟨_, cn', (HB9'.out _).out, (fun h => by cases h), HK8.out.trans (Kept.alloc _ _ _)⟩
            case measure => rw [(HB9'.out _).out.cnt_eq, HCQ2.out]; exact hlt
          · cases cb
            · have HNO : Hid (EndNo s x) := .inr ⟨hk9, y, (ca, false), HWY.out, HMY.out, rfl⟩
              have HEF : Hid (SAt v t B S dB cB fB kB n s (w8.alloc (.cells #[.int .i64 ca, .bool false] 94))) := HEr.out.kept (HKR8.out.trans (Kept.alloc _ _ _))
              have HKF : Hid (Kept [] w (w8.alloc (.cells #[.int .i64 ca, .bool false] 94))) := (HKr.out.trans HKR8.out).trans (Kept.alloc _ _ _)
              clear HNEXT
              go_wp2_with fail
              go_ret
              exact .inl ⟨HNO.out, EPost.of HEF.out (by omega) HKF.out (by simp)⟩
            · have HN : Hid ((x.kind == 9) = true → ∀ z c, Wf z → s.con z = some c → (left2 z && (z != y)) = false → c.2 = true) := HNEXT.out (fun h => rfl)
              clear HNEXT
              go_wp2_with fail
              go_roundw
              case rel => exact ⟨_, cn', (HB9'.out _).out, (fun _ => HN.out hk9), HK8.out.trans (Kept.alloc _ _ _)⟩
              case measure => rw [(HB9'.out _).out.cnt_eq, HCQ2.out]; exact hlt
    · have HB3 := Lib.hid hbr3
      have HY : Hid ((s.dec y).isSome = true) := by rw [Hid, hMy]; rfl
      have hk3 : Kept [w1.heap.size] w2 w3 := HREL.out.kept.trans (Kept.of_grown hg3 (fun q hq _ => by injection hq with hq; simp [hq]))
      have hk13 : Kept [] w1 w3 := ((HK12.out.mono (by simp)).trans hk3).mono' (fun q hq hlt => by simp at hq; omega)
      have HE3 := Lib.hid (HE1.out.kept hk13)
      have HK3 := Lib.hid (HK1.out.trans hk13)
      have c3 := HE3.out.st.com
      have l3 := bm_lookup HE3.out.comp hwy
      have hrow3 := HREL.out.row.kept hg3 (Or.inr (fun e => by have := (HREL.out.row.lt _ e).1; omega))
      have hll := HREL.out.len
      have hcq := HREL.out.range.cnt_eq
      have HZ3 := Lib.hid hz3
      clear hz3
      cases hcm : (s.com y).getD false
      · have HNO : Hid (EndNo s x) := .inl ⟨y, hwy, HY.out, hcm⟩
        simp only [hcm] at l3
        clear hcm hk3 hk13 hrow3 hg3 hcq hbr3 hMy
        go_wp2_with fail
        go_ret
        exact .inl ⟨HNO.out, EPost.of HE3.out (by omega) HK3.out (by simp)⟩
      · have HCM := Lib.hid hcm
        have HWY : Hid (Wf y) := hwy
        have HLY := Lib.hid hly
        have HCQ := Lib.hid hcq
        simp only [hcm] at l3
        clear hcm hk13 hcq hbr3 hMy
        have hz23 : w2.heap.size ≤ w3.heap.size := hk3.size
        have HK23 := Lib.hid hk3
        clear hk3 hg3
        go_wp2_with (at_builtin; go_loud (refine wpList_append_own _ rfl _ _ 38 rfl w2.heap.size 3 i0 (.int .i64 0) 1 8 Try.underlying38 hi hz0 hz1 hz2' rfl (by decide) _ _ _ rfl (hrow3.alloc _) ⟨w3.heap.size, 0, none⟩ 1 1 [.int .i64 y] rfl rfl ?c1 ?c2 ?c3 ?c4 ?c5 ?_))
        case c1 => exact cell_one_new _ _ _
        case c2 => intro u hu; simp at hu; subst hu; rfl
        case c3 => unfold maxLen; omega
        case c4 => omega
        case c5 => simp; omega
        intro v' w4 ho4 hg4 _
        have HROW : Hid (w4.ownsRow w2.heap.size 3 1 v' (l ++ [y]).length ((l ++ [y]).map (Value.int .i64))) := by simpa [Hid] using ho4
        have hob : ∀ q, u5.ownBlock = some q → w2.heap.size ≤ q := fun q hq => (hrow3.lt q hq).1
        have hblk : ∀ k, k < w2.heap.size → w4.heap[k]? = w3.heap[k]? := fun k hk =>
          (hg4.block k (by simp; omega) (fun e => by have := hob k e.symm; omega)).trans (Below.heap_alloc _ _ _ (by omega))
        have HK34 : Hid (Kept [w1.heap.size] w2 w4) :=
          ⟨hg4.os.trans HK23.out.os, hg4.tape.trans HK23.out.tape, hg4.output.trans HK23.out.output, by have := hg4.size; simp at this; omega, fun k hk hx => (hblk k hk).trans (HK23.out.block k hk hx)⟩
        have hdB : dB < w2.heap.size := HE2.out.decl.lt
        have HB4 : Hid (BRange Try.prog 3 4 w4 dB w1.heap.size n s.dec (fun z => left z && (z != y)) cn') := HB3.out.block (hblk _ hdB) (hblk _ hz12)
        clear ho4 hg4 hob hblk hrow3
        go_wp2_with fail
        go_roundw
        case rel =>
          refine ⟨_, cn', l ++ [y], HB4.out, HROW.out, fun z hz => ?_, fun z hz h1 h2 => ?_, by simp; omega, HK34.out⟩
          · rcases List.mem_append.1 hz with hz | hz
            · exact HREL.out.mem z hz
            · simp at hz
              subst hz
              exact ⟨HWY.out, HY.out, HCM.out⟩
          · by_cases hzy : z = y
            · subst hzy; simp
            · have : left z = false := by simpa [hzy] using h2
              exact List.mem_append_left _ (HREL.out.all z hz h1 this)
        case measure => rw [HB4.out.cnt_eq, HCQ.out]; exact hlt
#print axioms end_any
end Go.Proofs.Ytbjnoffdafpkgaa
