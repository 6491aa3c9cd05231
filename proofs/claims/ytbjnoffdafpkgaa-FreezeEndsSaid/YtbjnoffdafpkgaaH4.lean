/- Check and Frozen. -/
import Derived.Test.YtbjnoffdafpkgaaH3
namespace Go.Proofs.Ytbjnoffdafpkgaa
open Go.RowKit

def CheckPost (t : Tab) (l : List EvV) (w : World) (e : Ending) (w' : World) : Prop :=
  ∃ at' err s, e = .returned (.tuple #[.int .i64 at', .int .i64 err]) ∧ Kept [] w w' ∧ Ends t l at' err s

set_option maxRecDepth 100000 in
set_option maxHeartbeats 1000000 in
theorem check_any (v : TabV) (t : Tab) (a : Option Addr) (c : Nat) (l : List EvV) (w : World) (hT : TabIn w v t) (hs : Small t) (hn : t.types.length ≤ 1000) (hl : EvsIn w a l) (hlen : l.length ≤ 100000) (hwf : ∀ x, x ∈ l → x.wf) :
    Calls Try.prog 9 #[.agg (v.cells t), .slice a l.length c] w (CheckPost t l w) := by
  have HT := Lib.hid hT
  have HS := Lib.hid hs
  have HL := Lib.hid hl
  have HWF := Lib.hid hwf
  clear hT hs hl hwf
  go_enter Try.func9, Try.ntmps9
  unfold TabV.cells
  go_wp2_with fail
  have hk1 : Kept [] w (w.alloc (Obj.cells #[Value.slice v.ta t.types.length v.tc, Value.slice v.sa t.subs.length v.sc, Value.slice v.ea v.en v.ec, Value.slice v.ga v.gn v.gc, Value.slice v.ia v.im v.ic] 28)) := Kept.alloc _ _ _
  refine (run_any v t a c l _ (HT.out.kept (hk1.toBelow (Nat.le_refl _) (by simp))) HS.out hn (HL.out.kept hk1) hlen HWF.out).mono ?_
  rintro e w2 ⟨S, dB, cB, fB, kB, n, at', err, s, rfl, hk2, _, hend⟩
  have HK2 := Lib.hid (hk1.trans hk2)
  have HEND := Lib.hid hend
  clear hk1 hk2 hend
  go_wp2_with fail
  go_ret2
  exact ⟨at', err, s, rfl, HK2.out, HEND.out⟩

def frozenL (frz : Int → Option Bool) (n : Nat) : List Int := ((List.range n).map Int.ofNat).filter (fun x => (frz x).getD false)
theorem frozenL_succ (frz : Int → Option Bool) (n : Nat) : frozenL frz (n + 1) = if (frz n).getD false then frozenL frz n ++ [(n : Int)] else frozenL frz n := by
  unfold frozenL
  rw [List.range_succ, List.map_append, List.filter_append]
  simp only [List.map_cons, List.map_nil, List.filter_cons, List.filter_nil]
  show _ ++ (if (frz (n : Int)).getD false = true then _ else _) = _
  cases (frz (n : Int)).getD false <;> simp
theorem frozenL_len (frz : Int → Option Bool) (n : Nat) : (frozenL frz n).length ≤ n := by
  unfold frozenL
  refine Nat.le_trans (List.length_filter_le _ _) (by simp)

theorem one_int (k : IntKind) (x : Int) : ∀ u, u ∈ [Value.int k x] → u.oneCell' = true := by
  intro u hu
  simp at hu
  subst hu
  rfl

def FrozenPost (t : Tab) (l : List EvV) (w : World) (e : Ending) (w' : World) : Prop :=
  ∃ at' err s, Ends t l at' err s ∧ RetInts (if err == 2 then [] else frozenL s.frz t.types.length) w e w'

set_option maxRecDepth 100000 in
set_option maxHeartbeats 1000000 in
theorem frozen_any (v : TabV) (t : Tab) (a : Option Addr) (c : Nat) (l : List EvV) (w : World) (hT : TabIn w v t) (hs : Small t) (hn : t.types.length ≤ 1000) (hl : EvsIn w a l) (hlen : l.length ≤ 100000) (hwf : ∀ x, x ∈ l → x.wf) :
    Calls Try.prog 12 #[.agg (v.cells t), .slice a l.length c] w (FrozenPost t l w) := by
  have HT := Lib.hid hT
  have HS := Lib.hid hs
  have HL := Lib.hid hl
  have HWF := Lib.hid hwf
  clear hT hs hl hwf
  obtain ⟨i0, hi, hz0, hz1, hz2⟩ := info_parts Try.info3
  go_enter Try.func12, Try.ntmps12
  unfold TabV.cells
  go_wp2_with fail
  generalize hW1 : (w.alloc (Obj.cells #[Value.slice v.ta t.types.length v.tc, Value.slice v.sa t.subs.length v.sc, Value.slice v.ea v.en v.ec, Value.slice v.ga v.gn v.gc, Value.slice v.ia v.im v.ic] 28)) = w1
  have hk1 : Kept [] w w1 := by rw [← hW1]; exact Kept.alloc _ _ _
  have c1 : w1.cell? ⟨w.heap.size, 0, none⟩ = some (.slice v.ta t.types.length v.tc) := by rw [← hW1]; clear hk1 hW1; go_simp
  clear hW1
  refine (run_any v t a c l _ (HT.out.kept (hk1.toBelow (Nat.le_refl _) (by simp))) HS.out hn (HL.out.kept hk1) hlen HWF.out).mono ?_
  rintro e w2 ⟨S, dB, cB, fB, kB, n, at', err, s, rfl, hk2, hs2, hend⟩
  have HK2 := Lib.hid (hk1.trans hk2)
  have HEND := Lib.hid hend
  have HS2 := Lib.hid hs2
  have c2 := hk2.cell c1 (by simp)
  have hz12 := hk1.size
  have hz22 := hk2.size
  clear hk1 hk2 hend hs2 c1
  cases herr : (err == 2)
  · have HX : Hid ((if err == 2 then [] else frozenL s.frz t.types.length) = frozenL s.frz t.types.length) := by rw [Hid, herr]; rfl
    go_wp2_with fail
    go_loopw [8, 22] (fun lv i wr => ∃ k : Nat, k ≤ t.types.length ∧ i = .int .i64 k ∧ wr.ownsRow w2.heap.size 3 1 lv (frozenL s.frz k).length ((frozenL s.frz k).map (Value.int .i64)) ∧ Kept [] w2 wr) (fun _ i _ => t.types.length - (intOf i).toNat)
    case atStart => exact ⟨0, Nat.zero_le _, rfl, World.ownsRow_nil _ _ _ _, Kept.refl _ _⟩
    case round =>
      obtain ⟨k, hk, rfl, hown, hkr⟩ := hrel
      have HKR := Lib.hid hkr
      have HSr := Lib.hid (HS2.out.kept hkr)
      have hzr := hkr.size
      have hfl := frozenL_len s.frz k
      clear hkr c2
      by_cases hlt : k < t.types.length
      · have hwk : (Lit.int .i64 (k : Int)).wf = true := WalkArith.wf_i64 (by omega)
        have cf := HSr.out.st.frz
        have lk := bm_lookup HSr.out.froz hwk
        have HSUC := Lib.hid (frozenL_succ s.frz k)
        cases hf : (s.frz k).getD false
        · rw [hf] at lk HSUC
          have HOWN := Lib.hid hown
          clear hf hown
          go_wp2_with fail
          go_roundw
          case rel => exact ⟨k + 1, by omega, by go_num, by rw [HSUC.out]; exact HOWN.out, HKR.out⟩
          case measure => simp [intOf]; omega
        · rw [hf] at lk HSUC
          clear hf
          have hA : (frozenL s.frz k).length + 1 ≤ maxLen := by unfold maxLen; omega
          have hB : ((frozenL s.frz k).length + 1) * 8 ≤ 140737488355328 := by omega
          have hC : w2.heap.size ≤ (wr.alloc (.cells #[.int .i64 k] 3)).heap.size := by simp; omega
          go_wp2_with (at_builtin; refine wpList_append_own _ rfl _ _ 38 rfl w2.heap.size 3 i0 (.int .i64 0) 1 8 Try.underlying38 hi hz0 hz1 hz2 rfl (by decide) _ _ _ rfl (hown.alloc _) ⟨wr.heap.size, 0, none⟩ 1 1 [.int .i64 k] rfl rfl (cell_one_new _ _ _) (one_int _ _) hA hB hC ?_)
          intro v' w4 ho4 hg4 _
          have HROW : Hid (w4.ownsRow w2.heap.size 3 1 v' (frozenL s.frz (k + 1)).length ((frozenL s.frz (k + 1)).map (Value.int .i64))) := by rw [Hid, HSUC.out]; simpa using ho4
          have HK4 : Hid (Kept [] w2 w4) := by
            have hob : ∀ q, u8.ownBlock = some q → w2.heap.size ≤ q := fun q hq => (hown.lt q hq).1
            refine ⟨hg4.os.trans HKR.out.os, hg4.tape.trans HKR.out.tape, hg4.output.trans HKR.out.output, by have := hg4.size; simp at this; omega, fun q hq hx => ?_⟩
            rw [hg4.block q (by simp; omega) (fun e => by have := hob q e.symm; omega), Below.heap_alloc _ _ _ (by omega)]
            exact HKR.out.block q hq hx
          clear ho4 hg4 hown
          go_wp2_with fail
          go_roundw
          case rel => exact ⟨k + 1, by omega, by go_num, HROW.out, HK4.out⟩
          case measure => simp [intOf]; omega
      · have hke : k = t.types.length := by omega
        have HKE := Lib.hid hke
        have HOWN := Lib.hid hown
        clear hke hown
        go_wp2_with fail
        go_ret
        refine ⟨at', err, s, HEND.out, _, rfl, ?_, ?_⟩
        · rw [HX.out, ← HKE.out]
          exact ownsRow_base HOWN.out (by omega)
        · exact (HK2.out.trans HKR.out).toBelow (Nat.le_refl _) (by simp)
  · have HX : Hid ((if err == 2 then [] else frozenL s.frz t.types.length) = []) := by rw [Hid, herr]; rfl
    go_wp2_with fail
    go_ret
    refine ⟨at', err, s, HEND.out, _, rfl, ?_, HK2.out.toBelow (Nat.le_refl _) (by simp)⟩
    rw [HX.out]
    exact World.ownsRow_nil _ _ _ _
#print axioms check_any
#print axioms frozen_any
end Go.Proofs.Ytbjnoffdafpkgaa
