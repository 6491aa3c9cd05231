/- freeze. -/
import Derived.Test.YtbjnoffdafpkgaaF2
import Derived.Test.YtbjnoffdafpkgaaM3
namespace Go.Proofs.Ytbjnoffdafpkgaa
open Go.RowKit

/-- The state, with its maps. -/
structure SEnv (v : TabV) (t : Tab) (B S dB cB fB kB nd nc nf : Nat) (dec com frz : Int → Option Bool) (w : World) : Prop where
  tab : TabUnder B w v t
  small : Small t
  num : t.types.length ≤ 1000
  st : StAt v t S dB cB fB kB w
  decl : BM w dB nd dec
  comp : BM w cB nc com
  froz : BM w fB nf frz
  n1 : dB ≠ fB
  n2 : cB ≠ fB
  b1 : B ≤ fB

theorem cell_not_map {w : World} {p : Addr} {v : Value} {b n : Nat} {M : Int → Option Bool} (h : w.cell? p = some v) (hm : BM w b n M) : p.block ≠ b := by
  obtain ⟨D, ⟨es, clock, hb, _⟩, _⟩ := hm
  intro e
  subst e
  simp [World.cell?, hb] at h

theorem obj_not_map {w : World} {q : Nat} {cs : Array Value} {ty : TypeId} {fr : Nat × Nat} {b n : Nat} {M : Int → Option Bool} (h : w.heap[q]? = some (.cells cs ty fr)) (hm : BM w b n M) : q ≠ b := by
  obtain ⟨D, ⟨es, clock, hb, _⟩, _⟩ := hm
  intro e
  subst e
  rw [hb] at h
  cases h

theorem obj_new {W : World} {o : Obj} {k : Nat} (h : k = W.heap.size) : (W.alloc o).heap[k]? = some o := by subst h; exact heap_alloc_new W o
theorem obj_old {W : World} {o : Obj} {k : Nat} {x : Option Obj} (h : W.heap[k]? = x) (hk : k < W.heap.size) : (W.alloc o).heap[k]? = x := (Below.heap_alloc _ _ _ hk).trans h

theorem IntsAt.shape {w : World} {v : Value} {xs : List Int} (h : IntsAt w v xs) : ∃ a c, v = .slice a xs.length c ∧ xs.length ≤ 9223372036854775807 ∧ (xs = [] ∨ ∃ b off, a = some ⟨b, off, none⟩ ∧ ∀ j x, xs[j]? = some x → w.cell? ⟨b, off + j, none⟩ = some (.int .i64 x)) := by
  rcases h with ⟨rfl, a, c, rfl⟩ | ⟨b, off, c, rfl, hm, hc⟩
  · exact ⟨a, c, rfl, by simp, .inl rfl⟩
  · refine ⟨_, c, rfl, hm, .inr ⟨b, off, rfl, fun j x hx => ?_⟩⟩
    obtain ⟨hj, rfl⟩ := List.getElem?_eq_some_iff.1 hx
    rw [hc j hj]
    simp [List.getD, hj]

/-- The search from each of a list. -/
def meetAll (t : Tab) (ok : Int → Bool) (ls : List Int) : List Int × Bool := ls.foldl (fun s ty => meetF t ok (t.types.length + 1) ty s) ([], true)

theorem meetAll_succ (t : Tab) (ok : Int → Bool) (ls : List Int) (j : Nat) (x : Int) (h : ls[j]? = some x) : meetAll t ok (ls.take (j + 1)) = meetF t ok (t.types.length + 1) x (meetAll t ok (ls.take j)) := by
  obtain ⟨hj, rfl⟩ := List.getElem?_eq_some_iff.1 h
  unfold meetAll
  rw [List.take_succ_eq_append_getElem hj, List.foldl_append]
  rfl

theorem meetAll_inv (t : Tab) (ok : Int → Bool) (ls : List Int) (h : ∀ x, x ∈ ls → exI t.types.length x = true) : MInv t (meetAll t ok ls).1 := by
  have : ∀ (l : List Int) (s : List Int × Bool), (∀ x, x ∈ l → exI t.types.length x = true) → MInv t s.1 → MInv t (l.foldl (fun s ty => meetF t ok (t.types.length + 1) ty s) s).1 := by
    intro l
    induction l with
    | nil => intro s _ hs; exact hs
    | cons a l ih => intro s hl hs; exact ih _ (fun x hx => hl x (by simp [hx])) (meetF_inv t ok _ a s (hl a (by first | (simp; done) | (simp; omega))) hs).1
  exact this ls ([], true) h ⟨by simp, by simp⟩

def frzF (frz : Int → Option Bool) (r : List Int × Bool) : Int → Option Bool := fun x => if r.1.contains x then some ((frz x).getD false || r.2) else frz x

/-- What is frozen while the types that were met are gone through. -/
def frzL (frz : Int → Option Bool) (met : List Int) (fine : Bool) (left : Int → Bool) : Int → Option Bool := fun x => if met.contains x && !left x then some ((frz x).getD false || fine) else frz x

theorem memM_some (met : List Int) (x : Int) : (memM met x).isSome = met.contains x := by
  unfold memM
  cases met.contains x <;> rfl
theorem frzL_start (frz : Int → Option Bool) (met : List Int) (fine : Bool) : frzL frz met fine (fun x => (memM met x).isSome) = frz := by
  funext x
  simp only [frzL, memM_some]
  cases met.contains x <;> rfl
theorem frzL_end {frz : Int → Option Bool} {met : List Int} {fine : Bool} {left : Int → Bool} {x : Int} (h : left x = false) : frzL frz met fine left x = frzF frz (met, fine) x := by
  simp only [frzL, frzF, h]
  cases met.contains x <;> rfl

theorem frzL_step {frz : Int → Option Bool} {met : List Int} {fine : Bool} {left : Int → Bool} {x : Int} (hx : left x = true) (hm : met.contains x = true) : updM (frzL frz met fine left) x (((frzL frz met fine left) x).getD false || fine) = frzL frz met fine (fun y => left y && (y != x)) := by
  funext y
  unfold updM frzL
  by_cases h : y = x
  · subst h
    simp only [if_true, hx, hm]
    simp
  · simp [h]

def FPost (fB nf : Nat) (frz : Int → Option Bool) (r : List Int × Bool) (w : World) (e : Ending) (w' : World) : Prop :=
  e = .returned (.bool r.2) ∧ BM w' fB (nf + r.1.length) (frzF frz r) ∧ Kept [fB] w w'

set_option maxRecDepth 100000 in
set_option maxHeartbeats 1000000 in
theorem freeze_any (v : TabV) (t : Tab) (B S dB cB fB kB nd nc nf : Nat) (dec com frz : Int → Option Bool) (w : World) (lv : Value) (ls : List Int) (hE : SEnv v t B S dB cB fB kB nd nc nf dec com frz w) (hl : IntsAt w lv ls) (hx : ∀ x, x ∈ ls → exI t.types.length x = true) (hnf : nf ≤ 1000000000) :
    Calls Try.prog 48 #[.pointer (some ⟨S, 0, none⟩), lv] w (FPost fB nf frz (meetAll t (okM dec com) ls) w) := by
  have hS := World.block_lt_of_cell? w _ hE.st.dec
  have hd := hE.decl.lt
  have hc := hE.comp.lt
  have hB := hE.tab.le
  have HE := Lib.hid hE
  obtain ⟨la, lc, rfl, hlen, hcells⟩ := hl.shape
  have HL := Lib.hid hcells
  have HX := Lib.hid hx
  clear hE hl hx hcells
  have hmm := @run_makeMap Try.prog
  go_enter Try.func48, Try.ntmps48
  go_upto_region 5 with (fail)
  refine wp_gen ?_
  intro w5 hw5
  simp only [Nat.add_assoc, Nat.reduceAdd]
  have hz : w5.heap.size = w.heap.size + 5 := by rw [hw5]; simp
  have q0 : w5.heap[w.heap.size]? = some (.cells #[.pointer (some ⟨S, 0, none⟩)] 55 (0, 0)) := by
    rw [hw5]
    exact obj_old (obj_old (obj_old (obj_old (obj_new rfl) (by first | (simp; done) | (simp; omega))) (by first | (simp; done) | (simp; omega))) (by first | (simp; done) | (simp; omega))) (by first | (simp; done) | (simp; omega))
  have q2 : w5.heap[w.heap.size + 2]? = some (.cells #[.map (some (w.heap.size + 1))] 64 (0, 0)) := by
    rw [hw5]
    exact obj_old (obj_old (obj_new (by first | (simp; done) | (simp; omega))) (by first | (simp; done) | (simp; omega))) (by first | (simp; done) | (simp; omega))
  have q3 : w5.heap[w.heap.size + 3]? = some (.cells #[.bool true] 4 (0, 0)) := by
    rw [hw5]
    exact obj_old (obj_new (by first | (simp; done) | (simp; omega))) (by first | (simp; done) | (simp; omega))
  have q4 : w5.heap[w.heap.size + 4]? = some (.cells #[.func (.func 61) #[] #[.pointer (some ⟨w.heap.size + 2, 0, none⟩), .pointer (some ⟨w.heap.size + 3, 0, none⟩), .pointer (some ⟨w.heap.size, 0, none⟩), .pointer (some ⟨w.heap.size + 4, 0, none⟩)]] 70 (0, 0)) := by
    rw [hw5]
    exact obj_new (by first | (simp; done) | (simp; omega))
  have q1 : BM w5 (w.heap.size + 1) 0 (fun _ => none) := by
    refine BMap.block (w := (w.alloc (Obj.cells #[Value.pointer (some { block := S, off := 0 })] 55)).alloc (Obj.map #[] 0)) ?_ ?_
    · have := BMap.made Try.prog 3 4 (w.alloc (Obj.cells #[Value.pointer (some { block := S, off := 0 })] 55))
      simpa using this
    · rw [hw5]
      exact obj_old (obj_old (obj_old rfl (by first | (simp; done) | (simp; omega))) (by first | (simp; done) | (simp; omega))) (by first | (simp; done) | (simp; omega))
  have hk5 : Kept [] w w5 := by
    rw [hw5]
    exact ((((Kept.alloc _ _ _).trans (Kept.alloc _ _ _)).trans (Kept.alloc _ _ _)).trans (Kept.alloc _ _ _)).trans (Kept.alloc _ _ _)
  clear hw5 hmm
  have hS' : S < w.heap.size := hS
  have HM : Hid (MEnv v t B S dB cB fB kB (w.heap.size + 2) (w.heap.size + 3) w.heap.size (w.heap.size + 4) (w.heap.size + 1) nd nc dec com w5) :=
    { tab := HE.out.tab.kept hk5 (by first | (simp; done) | (simp; omega))
      small := HE.out.small
      st := HE.out.st.kept hk5 (by first | (simp; done) | (simp; omega))
      mp := cell_of_one q2
      sp := cell_of_one q0
      rp := cell_of_one q4
      decl := HE.out.decl.block (hk5.block _ hd (by first | (simp; done) | (simp; omega)))
      comp := HE.out.comp.block (hk5.block _ hc (by first | (simp; done) | (simp; omega)))
      n0 := by simp; omega
      n1 := by simp
      n2 := by simp
      n3 := by simp
      n4 := by simp; omega
      n5 := by simp; omega
      n6 := by simp
      b1 := by omega
      b2 := by omega }
  have HQ1 := Lib.hid q1
  have HQ3 := Lib.hid q3
  have HK5 := Lib.hid hk5
  have HZ := Lib.hid hz
  clear q0 q1 q2 q3 q4 hk5 hz
  go_upto_block 0 with (fail)
  go_cut [] (fun wc => BM wc (w.heap.size + 1) (meetAll t (okM dec com) ls).1.length (memM (meetAll t (okM dec com) ls).1) ∧ wc.heap[w.heap.size + 3]? = some (.cells #[.bool (meetAll t (okM dec com) ls).2] 4 (0, 0)) ∧ Kept [w.heap.size + 1, w.heap.size + 3] w5 wc)
  case first =>
    rcases HL.out with hnil | ⟨b, off, rfl, hcell⟩
    · have HN := Lib.hid hnil
      have hl0 : ls.length ≤ 0 := by rw [hnil]; simp
      clear hnil
      go_wp2_with fail
      go_loopw [15] (fun i wr => i = .int .i64 0 ∧ wr = w5) (fun _ _ => 0)
      case atStart => exact ⟨rfl, rfl⟩
      case round =>
        obtain ⟨rfl, rfl⟩ := hrel
        go_wp2_with fail
        go_meet
        rw [HN.out]
        exact ⟨HQ1.out, HQ3.out, Kept.refl _ _⟩
    · have HC := Lib.hid hcell
      clear hcell
      go_wp2_with fail
      go_loopw [15] (fun i wr => ∃ j : Nat, j ≤ ls.length ∧ i = .int .i64 j ∧ BM wr (w.heap.size + 1) (meetAll t (okM dec com) (ls.take j)).1.length (memM (meetAll t (okM dec com) (ls.take j)).1) ∧ wr.heap[w.heap.size + 3]? = some (.cells #[.bool (meetAll t (okM dec com) (ls.take j)).2] 4 (0, 0)) ∧ Kept [w.heap.size + 1, w.heap.size + 3] w5 wr) (fun i _ => ls.length - (intOf i).toNat)
      case atStart => exact ⟨0, Nat.zero_le _, rfl, HQ1.out, HQ3.out, Kept.refl _ _⟩
      case round =>
        obtain ⟨j, hj, rfl, hMj, hFj, hKj⟩ := hrel
        have HMj := Lib.hid hMj
        have HFj := Lib.hid hFj
        have HKj := Lib.hid hKj
        clear hMj hFj hKj
        by_cases hlt : j < ls.length
        · obtain ⟨p, hp⟩ : ∃ p, ls[j]? = some p := ⟨_, List.getElem?_eq_getElem hlt⟩
          have hcp0 := HC.out j p hp
          have hcp := HKj.out.cell (HK5.out.cell hcp0 (by simp)) (by have := World.block_lt_of_cell? w _ hcp0; simp at this ⊢; omega)
          have hrp := (HM.out.kept HKj.out).rp
          have HP := Lib.hid hp
          have HINV := Lib.hid (meetAll_inv t (okM dec com) (ls.take j) (fun x hx => HX.out x (List.mem_of_mem_take hx)))
          clear hp hcp0
          go_wp2_with fail
          refine (meet_any v t B S dB cB fB kB _ _ _ _ _ nd nc dec com HE.out.num (t.types.length + 1) p _ _ wr (HM.out.kept HKj.out) HMj.out HFj.out (HX.out p (List.mem_of_getElem? HP.out)) HINV.out (by omega)).mono ?_
          rintro e w4 ⟨rfl, hM4, hF4, hK4⟩
          have HM4 := Lib.hid hM4
          have HF4 := Lib.hid hF4
          have HK4 := Lib.hid hK4
          clear hM4 hF4 hK4 hcp hrp
          go_wp2_with fail
          go_roundw
          case rel => exact ⟨j + 1, by omega, by go_num, by rw [meetAll_succ _ _ _ _ _ HP.out]; exact HM4.out, by rw [meetAll_succ _ _ _ _ _ HP.out]; exact HF4.out, HKj.out.trans HK4.out⟩
          case measure => simp [intOf]; omega
        · have hje : ls.take j = ls := List.take_of_length_le (by omega)
          have HJ := Lib.hid hje
          clear hje
          go_wp2_with fail
          go_meet
          have h1 := HMj.out
          have h2 := HFj.out
          rw [HJ.out] at h1 h2
          exact ⟨h1, h2, HKj.out⟩
  case rest =>
    obtain ⟨hM2, hF2, hk2⟩ := hcut
    have HINV := Lib.hid (meetAll_inv t (okM dec com) ls HX.out)
    have HRES : Hid (∃ met fine, meetAll t (okM dec com) ls = (met, fine)) := ⟨_, _, rfl⟩
    obtain ⟨met, fine, hres⟩ := HRES.out
    rw [hres] at hM2 hF2 HINV
    have HR := Lib.hid hres
    clear hres HRES
    have hmp := (HM.out.kept hk2).mp
    have hsp := (HM.out.kept hk2).sp
    have hfp := cell_of_one hF2
    obtain ⟨w6, cnt, hrun, hbr, hcnt, hg6, hz6⟩ := hM2.range Try.underlying3 Try.underlying64
    have hk6 : Kept [] wc w6 := Kept.of_grown hg6 (by simp)
    have HBR := Lib.hid hbr
    have HK2 := Lib.hid hk2
    have HK6 := Lib.hid hk6
    have hlt6 := hM2.lt
    clear hM2 hF2 hk2 hbr hg6 hk6
    go_wp2_with fail
    have HFR : Hid (BM w6 fB nf frz) := HE.out.froz.block (by
      have h := HE.out.froz.lt
      have z1 := HZ.out
      have z2 := HK2.out.size
      rw [HK6.out.block fB (by omega) (by simp), HK2.out.block fB (by omega) (by simp; omega), HK5.out.block fB h (by simp)])
    go_loopw [10] (fun _ wr => ∃ (left : Int → Bool) (cn m : Nat), BRange Try.prog 3 4 wr (w.heap.size + 1) wc.heap.size met.length (memM met) left cn ∧ (∀ x, left x = true → met.contains x = true) ∧ m + cn ≤ met.length ∧ BM wr fB (nf + m) (frzL frz met fine left) ∧ Kept [fB, wc.heap.size] w6 wr) (fun _ wr => wr.rangeLeft (w.heap.size + 1) wc.heap.size)
    case atStart =>
      exact ⟨_, cnt, 0, HBR.out, fun x hx => by rw [memM_some] at hx; exact hx, by omega, by rw [frzL_start]; exact HFR.out, Kept.refl _ _⟩
    case round =>
      obtain ⟨left, cn, m, hbr, hle, hmc, hfr, hkr⟩ := hrel
      have hflt : fB < w.heap.size := HE.out.froz.lt
      have hwc5 : w.heap.size + 5 ≤ wc.heap.size := by have z1 := HZ.out; have z2 := HK2.out.size; omega
      have hcnt0 := hbr.cnt_eq
      rcases hbr.next Try.underlying3 Try.underlying4 0 with ⟨h0, hl, hnx⟩ | ⟨x, c, w7, cn', hwx, hlx, hMx, hnx, hbr7, hlt, hg7, hz7, hen⟩
      · have hfr2 := hkr.cell (HK6.out.cell hfp (by simp)) (by simp; omega)
        have HFIN : Hid (BM wr fB (nf + met.length) (frzF frz (met, fine))) := (hfr.mono (by omega)).congr (fun x hx => frzL_end (hl x hx))
        have HKR : Hid (Kept [fB] w wr) := by
          have k1 : Kept [fB, w.heap.size + 1, w.heap.size + 3, wc.heap.size] w wr := (((HK5.out.mono (by simp)).trans (HK2.out.mono (by simp))).trans (HK6.out.mono (by simp))).trans (hkr.mono (by simp))
          exact k1.mono' (fun x hx hlt => by simp at hx ⊢; omega)
        clear hbr hle hfr hkr hl hcnt0 hfp hsp hmp
        go_wp2_with fail
        go_ret
        rw [HR.out]
        exact ⟨rfl, HFIN.out, HKR.out⟩
      · have hk7 : Kept [fB, wc.heap.size] w6 w7 := hkr.trans (Kept.of_grown hg7 (fun q hq _ => by injection hq with hq; simp [hq]))
        have k6 : Kept [fB, wc.heap.size] wc w7 := (HK6.out.mono (by simp)).trans hk7
        have c1 := k6.cell hsp (by simp; omega)
        have c2 := k6.cell hfp (by simp; omega)
        have c3 : w7.cell? ⟨S, 7, none⟩ = some (.map (some fB)) := k6.cell (HM.out.kept HK2.out).st.frz (by
          have := cell_not_map HE.out.st.frz HE.out.froz
          simp at this ⊢
          omega)
        have hfr7 : BM w7 fB (nf + m) (frzL frz met fine left) := hfr.block (hg7.block _ hfr.lt (by simp; omega))
        have hlk := bm_lookup (w := w7.drew) (hfr7.block rfl) hwx
        have hmet := hle x hlx
        have HST := Lib.hid (frzL_step (frz := frz) (fine := fine) hlx hmet)
        have hm1000 := HINV.out.length_le
        have hm1001 := HE.out.num
        obtain ⟨w8, hup, hfr8, hg8, hz8⟩ := bm_update (w := w7.drew) (hfr7.block rfl) (by unfold maxLen; omega) hwx ((frzL frz met fine left x).getD false || fine)
        have HB7 := Lib.hid hbr7
        have HF8 := Lib.hid hfr8
        have HG8 := Lib.hid hg8
        have HK7 := Lib.hid hk7
        have HLE := Lib.hid hle
        clear hbr hle hfr hkr hk7 k6 hfr7 hbr7 hfr8 hg8 hfp hsp hmp hg7 hlx hMx hmet
        generalize hfv : (frzL frz met fine left x).getD false = fv at *
        have HFV := Lib.hid hfv
        clear hfv
        have HK8 : Hid (Kept [fB, wc.heap.size] w6 w8) := (HK7.out.trans (Kept.drew _ _)).trans (Kept.of_grown HG8.out (fun q hq _ => by injection hq with hq; simp [hq]))
        have HB8 : Hid (BRange Try.prog 3 4 w8 (w.heap.size + 1) wc.heap.size met.length (memM met) (fun y => left y && (y != x)) cn') := HB7.out.block (HG8.out.block _ HB7.out.map.lt (by simp; omega)) (HG8.out.block _ HB7.out.lt (by simp; omega))
        have HCN := Lib.hid hcnt0
        clear hcnt0
        cases fv
        · simp only [Bool.false_or] at hup
          go_upto_region 13 with (fail)
          go_still_tail 14, (by kernel_rfl)
          change wpList _ _ _ _ _ w7.drew
          go_wp2_with fail
          go_roundw
          case rel => exact ⟨_, cn', m + 1, HB8.out, fun y hy => HLE.out y (by simp at hy; exact hy.1), by omega, by have h := HF8.out; rw [HST.out] at h; exact h, HK8.out⟩
          case measure => rw [HB8.out.cnt_eq, HCN.out]; exact hlt
        · simp only [Bool.true_or] at hup
          go_upto_region 13 with (fail)
          go_still_tail 14, (by kernel_rfl)
          change wpList _ _ _ _ _ w7.drew
          go_wp2_with fail
          go_roundw
          case rel => exact ⟨_, cn', m + 1, HB8.out, fun y hy => HLE.out y (by simp at hy; exact hy.1), by omega, by have h := HF8.out; rw [HST.out] at h; exact h, HK8.out⟩
          case measure => rw [HB8.out.cnt_eq, HCN.out]; exact hlt
#print axioms freeze_any
end Go.Proofs.Ytbjnoffdafpkgaa
