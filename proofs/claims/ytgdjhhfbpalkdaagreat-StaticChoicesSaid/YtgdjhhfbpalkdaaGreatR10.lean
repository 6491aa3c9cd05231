/- The reference: Choices. -/
import Derived.Test.YtgdjhhfbpalkdaaGreatR9
import Derived.Test.YtgdjhhfbpalkdaaGreatV18
import Derived.Deep.CutBlock
namespace Go.Proofs.YtgdjhhfbpalkdaaGreat
open Go.RowKit
/-- A choice in memory. -/
class ChRow (w : World) (b o : Nat) (x : outParam ChV) : Prop where
  range : w.rangeAt b o x.cells
theorem ChRow.kept {w w' : World} {b o : Nat} {x : ChV} (h : ChRow w b o x) (hk : Kept [] w w') : ChRow w' b o x := ⟨fun j u hu => hk.cell (h.range j u hu) (by simp)⟩
instance (w : World) (U : World → Prop) (b o : Nat) (x : ChV) (z : AfterU w U) [h : ChRow w b o x] : ChRow z.1 b o x := h.kept z.2.1
theorem Tryz.infoCh2 : (Tryz.prog.info? 90).map (·.size) = some 2 := by kernel_rfl
def loadCh (v : Value) : Sem Next := do return .value (← Instr.loadAt 90 v)
@[go_sem ↓] theorem execOp_loadCh (ρ : Operand → Value) (dst : Option Tmp) (x : Operand) (ty : TypeId) (pos : String) (after : Array Edge) (guard : Option (Nat × Bool)) :
    execOp ρ { dst, op := .load 90 x, type := ty, pos, after, guard } = loadCh (ρ x) := rfl
@[go_sem] theorem run_loadCh (w : World) (b o : Nat) (x : ChV) [h : ChRow w b o x] : Sem.run Tryz.prog (loadCh (.pointer (some ⟨b, o, none⟩))) w = .ok (.value (.agg #[.int .u8 x.kind, .slice x.la x.ls.length x.lc])) w := by
  have : Sem.run Tryz.prog (loadCh (.pointer (some ⟨b, o, none⟩))) w = .ok (.value (.agg x.cells.toArray)) w := by
    simp only [loadCh, Instr.loadAt, Instr.sureAddr, Sem.run_bind, Sem.run_pure, Result.andThen_ok, run_loadVar_mid (P := Tryz.prog) w b o 90 x.cells _ h.range Tryz.underlying90 rfl (by rw [Tryz.infoCh2]; rfl)]
  simpa [ChV.cells] using this
@[go_sem] theorem ch_c0 (w : World) (b o : Nat) (x : ChV) [h : ChRow w b o x] : w.cell? ⟨b, o, none⟩ = some (.int .u8 x.kind) := by simpa using h.range 0 _ rfl
set_option maxRecDepth 100000 in
set_option maxHeartbeats 8000000 in
theorem rChoices_any (w : World) (v : TabV) (t : Tab) (sub : Int) (a : Option Addr) (c : Nat) (l : List ChV) (n : Nat) (hT : TabIn w v t) (hR : RowsAt ChV 2 ChV.cells w a l) (hA : ∀ y, y ∈ l → ChIn w n y) (hl : l.length ≤ 1000) :
    Calls Tryz.prog 14 #[.agg (v.cells t), .int .i64 sub, .slice a l.length c] w (RetCh (choicesP t n sub l) w) := by
  have HT := Lib.hid hT
  have HR := Lib.hid hR
  have HA := Lib.hid hA
  clear hT hR hA
  obtain ⟨ib, ib0, ib1, ib2, ib3⟩ := Tryz.bd_parts
  have HI := Lib.hid (fun w' b (hk : Kept [] w w') => rinside_any w' v t sub b (HT.out.kept hk))
  have HC := Lib.hid (fun w' y (hk : Kept [] w w') hy => rchoice_any w' v t y n (HT.out.kept hk) ((HA.out y hy).kept hk))
  clear HT HA
  unfold TabV.cells at *
  go_enter Tryz.func14, Tryz.ntmps14
  go_wp2_with fail
  refine wp_gen' ?_
  intro w1 hw1
  haveI p_w1 : PrevWorld w1 w := ⟨by rw [hw1]; exact (by repeat (first | with_reducible exact HK.out | with_reducible exact Kept.refl _ _ | with_reducible refine Kept.prev ?_ | with_reducible refine Kept.alloc' ?_ _ | with_reducible refine Kept.drew' ?_ | with_reducible refine Kept.setB ?_ _ _ _ (by omega) | with_reducible refine Kept.row' ?_ _ _ (by omega) | with_reducible refine Kept.map' ?_ _ _ (by omega)))⟩
  haveI bx1 : BoxIs w1 w.heap.size 28 _ := by rw [hw1]; infer_instance
  have hz1 : w.heap.size ≤ w1.heap.size := Kept.size (X := []) (by repeat (first | with_reducible exact HK.out | with_reducible exact Kept.refl _ _ | with_reducible refine Kept.prev ?_ | with_reducible refine Kept.alloc' ?_ _ | with_reducible refine Kept.drew' ?_ | with_reducible refine Kept.setB ?_ _ _ _ (by omega) | with_reducible refine Kept.row' ?_ _ _ (by omega) | with_reducible refine Kept.map' ?_ _ _ (by omega)))
  clear hw1
  go_loopw [9, 10, 11] (fun v6 v7 i wr => ChL1 t n sub l w1 v6 v7 i wr) (fun _ _ i _ => l.length - (intOf i).toNat)
  case atStart => exact ⟨0, Nat.zero_le _, rfl, [], false, rfl, rfl, World.ownsRow_nil _ _ _ _, Kept.refl _ _⟩
  case round =>
    obtain ⟨k, hk, rfl, bs, o, hat, rfl, hown, hkr⟩ := hrel
    obtain ⟨A6, c6, rfl⟩ := own_shape hown
    have HOWN := Lib.hid hown
    have HAT := Lib.hid hat
    have hlen := hat.len
    have hkz := hkr.size
    haveI p_wr : PrevWorld wr w1 := ⟨hkr⟩
    have HKR := Lib.hid hkr
    clear hown hat hkr
    by_cases hlt : k < l.length
    · obtain ⟨y, hy⟩ : ∃ y, l[k]? = some y := ⟨_, List.getElem?_eq_getElem hlt⟩
      obtain ⟨b, of, rfl, hr⟩ := HR.out.some_ hy
      haveI yr : ChRow wr b (of + k * 2) y := ⟨fun j u hu => (show Kept [] w wr from (by repeat (first | with_reducible exact HK.out | with_reducible exact Kept.refl _ _ | with_reducible refine Kept.prev ?_ | with_reducible refine Kept.alloc' ?_ _ | with_reducible refine Kept.drew' ?_ | with_reducible refine Kept.setB ?_ _ _ _ (by omega) | with_reducible refine Kept.row' ?_ _ _ (by omega) | with_reducible refine Kept.map' ?_ _ _ (by omega)))).cell (hr k y hy j u hu) (by simp)⟩
      have HCY := Lib.hid (fun w' (hk : Kept [] w w') => HC.out w' y hk (List.mem_of_getElem? hy))
      have HO := Lib.hid (fun h => HAT.out.others hy h)
      have HERR0 := Lib.hid (fun h1 h2 => HAT.out.err hy h1 h2)
      have HADD := Lib.hid (fun h1 h2 h3 => HAT.out.add hy h1 h2 h3)
      have HNON := Lib.hid (fun h1 h2 h3 => HAT.out.none hy h1 h2 h3)
      have HCE : Hid (chErr t n sub y = if (choiceP t n y).2 = 0 then insideP t sub (choiceP t n y).1 else (choiceP t n y).2) := rfl
      have j1 : (0 : Int) ≤ (k : Int) := by omega
      have j2 : (k : Int) < (l.length : Int) := by omega
      clear hr hy HC HAT
      generalize choiceP t n y = r at *
      obtain ⟨⟨rl, rh⟩, re⟩ := r
      by_cases k3 : y.kind = 3
      · clear HERR0 HADD HNON HCE HCY HI
        have e1 : (y.kind == 3) = true := by simp [k3]
        go_wp2_with fail
        go_roundw
        case rel => exact ⟨k + 1, by omega, by go_num, bs, true, HO.out k3, rfl, own_keep HOWN.out (X := []) (by repeat (first | with_reducible exact HK.out | with_reducible exact Kept.refl _ _ | with_reducible refine Kept.prev ?_ | with_reducible refine Kept.alloc' ?_ _ | with_reducible refine Kept.drew' ?_ | with_reducible refine Kept.setB ?_ _ _ _ (by omega) | with_reducible refine Kept.row' ?_ _ _ (by omega) | with_reducible refine Kept.map' ?_ _ _ (by omega))) (by simp), (by repeat (first | with_reducible exact HK.out | with_reducible exact Kept.refl _ _ | with_reducible refine Kept.prev ?_ | with_reducible refine Kept.alloc' ?_ _ | with_reducible refine Kept.drew' ?_ | with_reducible refine Kept.setB ?_ _ _ _ (by omega) | with_reducible refine Kept.row' ?_ _ _ (by omega) | with_reducible refine Kept.map' ?_ _ _ (by omega)))⟩
        case measure => simp [intOf]; omega
      have e1 : (y.kind == 3) = false := by simp [k3]
      by_cases e0 : re = 0
      rotate_left
      · have HE2 : Hid (chErr t n sub y = re) := by rw [Hid, HCE.out, if_neg e0]
        have HERR : Hid (choicesP t n sub l = ([], false, re)) := by
          rw [Hid, HERR0.out k3 (by rw [HE2.out]; exact e0), HE2.out]
        have e2 : (re == 0) = false := by simp [e0]
        have e3 : (re != 0) = true := by simp [e0]
        clear HO HADD HNON HCE HERR0 HE2 HI e0 k3
        go_wp2_with fail
        refine wp_region_head 9 1 (fun _ => .cells #[.int .i64 0, .int .i64 0] 43) (by kernel_rfl) (by kernel_rfl) (fun i o h1 h2 h3 => by obtain rfl : i = 9 := (by omega); all_goals (obtain rfl := Option.some.inj h3; exact alc_of rfl rfl Tryz.zeroBd)) (fun _ _ _ _ _ h => h) ?_; apply Exists.intro; refine ⟨fun U hU hN => ?_, ?_⟩; simp only [List.take_succ_cons, List.take_zero]
        · repeat (go_big_quiet_step (exact Calls.headV hU (HCY.out _ (Kept.trans (by repeat (first | with_reducible exact HK.out | with_reducible exact Kept.refl _ _ | with_reducible refine Kept.prev ?_ | with_reducible refine Kept.alloc' ?_ _ | with_reducible refine Kept.drew' ?_ | with_reducible refine Kept.setB ?_ _ _ _ (by omega) | with_reducible refine Kept.row' ?_ _ _ (by omega) | with_reducible refine Kept.map' ?_ _ _ (by omega))) (AfterU.prop _)))))
          refine wpQuiet_nil ?_
          exact rfl
        simp only [List.drop_succ_cons, List.drop_zero, List.take_succ_cons, List.take_zero]
        intro B1 hB1 _ w2 hk2 hh
        haveI p_w2 : PrevWorld w2 _ := ⟨hk2⟩
        haveI bx2 : BoxIs w2 B1 43 #[.int .i64 0, .int .i64 0] := box_of hh (by simp)
        haveI g1 : BornAfter B1 _ := ⟨hB1⟩
        have hzB : w.heap.size ≤ B1 := Nat.le_trans (Kept.size (X := []) (by repeat (first | with_reducible exact HK.out | with_reducible exact Kept.refl _ _ | with_reducible refine Kept.prev ?_ | with_reducible refine Kept.alloc' ?_ _ | with_reducible refine Kept.drew' ?_ | with_reducible refine Kept.setB ?_ _ _ _ (by omega) | with_reducible refine Kept.row' ?_ _ _ (by omega) | with_reducible refine Kept.map' ?_ _ _ (by omega)))) hB1
        have hzC : w1.heap.size ≤ B1 := Nat.le_trans (Kept.size (X := []) (by repeat (first | with_reducible exact HK.out | with_reducible exact Kept.refl _ _ | with_reducible refine Kept.prev ?_ | with_reducible refine Kept.alloc' ?_ _ | with_reducible refine Kept.drew' ?_ | with_reducible refine Kept.setB ?_ _ _ _ (by omega) | with_reducible refine Kept.row' ?_ _ _ (by omega) | with_reducible refine Kept.map' ?_ _ _ (by omega)))) hB1
        clear hk2 hh
        go_wp2_with fail
        rw [HERR.out]
        refine bodyPost_ret (res3 Tryz.results14 (resT rfl) (resT rfl) (resT rfl)) rfl ?_
        exact ⟨_, rfl, World.ownsRow_nil _ _ _ _, (by repeat (first | with_reducible exact HK.out | with_reducible exact Kept.refl _ _ | with_reducible refine Kept.prev ?_ | with_reducible refine Kept.alloc' ?_ _ | with_reducible refine Kept.drew' ?_ | with_reducible refine Kept.setB ?_ _ _ _ (by omega) | with_reducible refine Kept.row' ?_ _ _ (by omega) | with_reducible refine Kept.map' ?_ _ _ (by omega)))⟩
      subst e0
      have HIY := Lib.hid (fun w' (hk : Kept [] w w') => HI.out w' (rl, rh) hk)
      have HCE2 : Hid (chErr t n sub y = insideP t sub (rl, rh)) := by rw [Hid, HCE.out, if_pos rfl]
      clear HI HCE
      generalize insideP t sub (rl, rh) = z at *
      by_cases e0 : z = 0
      rotate_left
      · have HERR : Hid (choicesP t n sub l = ([], false, z)) := by
          rw [Hid, HERR0.out k3 (by rw [HCE2.out]; exact e0), HCE2.out]
        have e2 : (z == 0) = false := by simp [e0]
        have e3 : (z != 0) = true := by simp [e0]
        clear HO HADD HNON HCE2 HERR0 e0 k3
        go_wp2_with fail
        refine wp_region_head 9 1 (fun _ => .cells #[.int .i64 0, .int .i64 0] 43) (by kernel_rfl) (by kernel_rfl) (fun i o h1 h2 h3 => by obtain rfl : i = 9 := (by omega); all_goals (obtain rfl := Option.some.inj h3; exact alc_of rfl rfl Tryz.zeroBd)) (fun _ _ _ _ _ h => h) ?_; apply Exists.intro; refine ⟨fun U hU hN => ?_, ?_⟩; simp only [List.take_succ_cons, List.take_zero]
        · repeat (go_big_quiet_step (exact Calls.headV hU (HCY.out _ (Kept.trans (by repeat (first | with_reducible exact HK.out | with_reducible exact Kept.refl _ _ | with_reducible refine Kept.prev ?_ | with_reducible refine Kept.alloc' ?_ _ | with_reducible refine Kept.drew' ?_ | with_reducible refine Kept.setB ?_ _ _ _ (by omega) | with_reducible refine Kept.row' ?_ _ _ (by omega) | with_reducible refine Kept.map' ?_ _ _ (by omega))) (AfterU.prop _)))))
          refine wpQuiet_nil ?_
          exact rfl
        simp only [List.drop_succ_cons, List.drop_zero, List.take_succ_cons, List.take_zero]
        intro B1 hB1 _ w2 hk2 hh
        haveI p_w2 : PrevWorld w2 _ := ⟨hk2⟩
        haveI bx2 : BoxIs w2 B1 43 #[.int .i64 0, .int .i64 0] := box_of hh (by simp)
        haveI g1 : BornAfter B1 _ := ⟨hB1⟩
        have hzB : w.heap.size ≤ B1 := Nat.le_trans (Kept.size (X := []) (by repeat (first | with_reducible exact HK.out | with_reducible exact Kept.refl _ _ | with_reducible refine Kept.prev ?_ | with_reducible refine Kept.alloc' ?_ _ | with_reducible refine Kept.drew' ?_ | with_reducible refine Kept.setB ?_ _ _ _ (by omega) | with_reducible refine Kept.row' ?_ _ _ (by omega) | with_reducible refine Kept.map' ?_ _ _ (by omega)))) hB1
        have hzC : w1.heap.size ≤ B1 := Nat.le_trans (Kept.size (X := []) (by repeat (first | with_reducible exact HK.out | with_reducible exact Kept.refl _ _ | with_reducible refine Kept.prev ?_ | with_reducible refine Kept.alloc' ?_ _ | with_reducible refine Kept.drew' ?_ | with_reducible refine Kept.setB ?_ _ _ _ (by omega) | with_reducible refine Kept.row' ?_ _ _ (by omega) | with_reducible refine Kept.map' ?_ _ _ (by omega)))) hB1
        clear hk2 hh
        go_wp2_with fail
        refine (HIY.out _ (by repeat (first | with_reducible exact HK.out | with_reducible exact Kept.refl _ _ | with_reducible refine Kept.prev ?_ | with_reducible refine Kept.alloc' ?_ _ | with_reducible refine Kept.drew' ?_ | with_reducible refine Kept.setB ?_ _ _ _ (by omega) | with_reducible refine Kept.row' ?_ _ _ (by omega) | with_reducible refine Kept.map' ?_ _ _ (by omega)))).mono ?_; rintro e w3 ⟨rfl, hk_w3⟩; haveI p_w3 : PrevWorld w3 _ := ⟨hk_w3⟩; have hz_w3 : w.heap.size ≤ w3.heap.size := Kept.size (by repeat (first | with_reducible exact HK.out | with_reducible exact Kept.refl _ _ | with_reducible refine Kept.prev ?_ | with_reducible refine Kept.alloc' ?_ _ | with_reducible refine Kept.drew' ?_ | with_reducible refine Kept.setB ?_ _ _ _ (by omega) | with_reducible refine Kept.row' ?_ _ _ (by omega) | with_reducible refine Kept.map' ?_ _ _ (by omega))); clear hk_w3
        go_wp2_with fail
        rw [HERR.out]
        refine bodyPost_ret (res3 Tryz.results14 (resT rfl) (resT rfl) (resT rfl)) rfl ?_
        exact ⟨_, rfl, World.ownsRow_nil _ _ _ _, (by repeat (first | with_reducible exact HK.out | with_reducible exact Kept.refl _ _ | with_reducible refine Kept.prev ?_ | with_reducible refine Kept.alloc' ?_ _ | with_reducible refine Kept.drew' ?_ | with_reducible refine Kept.setB ?_ _ _ _ (by omega) | with_reducible refine Kept.row' ?_ _ _ (by omega) | with_reducible refine Kept.map' ?_ _ _ (by omega)))⟩
      subst e0
      by_cases e2 : rl ≤ rh
      · have HS : Hid (ChAt t n sub l (k + 1) (bs ++ [(rl, rh)]) o) := HADD.out k3 HCE2.out e2
        clear HO HADD HNON HCE2 HERR0 k3
        go_wp2_with fail
        refine wp_region_head 9 1 (fun _ => .cells #[.int .i64 0, .int .i64 0] 43) (by kernel_rfl) (by kernel_rfl) (fun i o h1 h2 h3 => by obtain rfl : i = 9 := (by omega); all_goals (obtain rfl := Option.some.inj h3; exact alc_of rfl rfl Tryz.zeroBd)) (fun _ _ _ _ _ h => h) ?_; apply Exists.intro; refine ⟨fun U hU hN => ?_, ?_⟩; simp only [List.take_succ_cons, List.take_zero]
        · repeat (go_big_quiet_step (exact Calls.headV hU (HCY.out _ (Kept.trans (by repeat (first | with_reducible exact HK.out | with_reducible exact Kept.refl _ _ | with_reducible refine Kept.prev ?_ | with_reducible refine Kept.alloc' ?_ _ | with_reducible refine Kept.drew' ?_ | with_reducible refine Kept.setB ?_ _ _ _ (by omega) | with_reducible refine Kept.row' ?_ _ _ (by omega) | with_reducible refine Kept.map' ?_ _ _ (by omega))) (AfterU.prop _)))))
          refine wpQuiet_nil ?_
          exact rfl
        simp only [List.drop_succ_cons, List.drop_zero, List.take_succ_cons, List.take_zero]
        intro B1 hB1 _ w2 hk2 hh
        haveI p_w2 : PrevWorld w2 _ := ⟨hk2⟩
        haveI bx2 : BoxIs w2 B1 43 #[.int .i64 0, .int .i64 0] := box_of hh (by simp)
        haveI g1 : BornAfter B1 _ := ⟨hB1⟩
        have hzB : w.heap.size ≤ B1 := Nat.le_trans (Kept.size (X := []) (by repeat (first | with_reducible exact HK.out | with_reducible exact Kept.refl _ _ | with_reducible refine Kept.prev ?_ | with_reducible refine Kept.alloc' ?_ _ | with_reducible refine Kept.drew' ?_ | with_reducible refine Kept.setB ?_ _ _ _ (by omega) | with_reducible refine Kept.row' ?_ _ _ (by omega) | with_reducible refine Kept.map' ?_ _ _ (by omega)))) hB1
        have hzC : w1.heap.size ≤ B1 := Nat.le_trans (Kept.size (X := []) (by repeat (first | with_reducible exact HK.out | with_reducible exact Kept.refl _ _ | with_reducible refine Kept.prev ?_ | with_reducible refine Kept.alloc' ?_ _ | with_reducible refine Kept.drew' ?_ | with_reducible refine Kept.setB ?_ _ _ _ (by omega) | with_reducible refine Kept.row' ?_ _ _ (by omega) | with_reducible refine Kept.map' ?_ _ _ (by omega)))) hB1
        clear hk2 hh
        go_wp2_with fail
        refine (HIY.out _ (by repeat (first | with_reducible exact HK.out | with_reducible exact Kept.refl _ _ | with_reducible refine Kept.prev ?_ | with_reducible refine Kept.alloc' ?_ _ | with_reducible refine Kept.drew' ?_ | with_reducible refine Kept.setB ?_ _ _ _ (by omega) | with_reducible refine Kept.row' ?_ _ _ (by omega) | with_reducible refine Kept.map' ?_ _ _ (by omega)))).mono ?_; rintro e w3 ⟨rfl, hk_w3⟩; haveI p_w3 : PrevWorld w3 _ := ⟨hk_w3⟩; have hz_w3 : w.heap.size ≤ w3.heap.size := Kept.size (by repeat (first | with_reducible exact HK.out | with_reducible exact Kept.refl _ _ | with_reducible refine Kept.prev ?_ | with_reducible refine Kept.alloc' ?_ _ | with_reducible refine Kept.drew' ?_ | with_reducible refine Kept.setB ?_ _ _ _ (by omega) | with_reducible refine Kept.row' ?_ _ _ (by omega) | with_reducible refine Kept.map' ?_ _ _ (by omega))); clear hk_w3
        have HOW := Lib.hid (own_keep HOWN.out (show Kept [] wr w3 from (by repeat (first | with_reducible exact HK.out | with_reducible exact Kept.refl _ _ | with_reducible refine Kept.prev ?_ | with_reducible refine Kept.alloc' ?_ _ | with_reducible refine Kept.drew' ?_ | with_reducible refine Kept.setB ?_ _ _ _ (by omega) | with_reducible refine Kept.row' ?_ _ _ (by omega) | with_reducible refine Kept.map' ?_ _ _ (by omega)))) (by simp))
        have hz3 : w1.heap.size ≤ w3.heap.size := Kept.size (X := []) (by repeat (first | with_reducible exact HK.out | with_reducible exact Kept.refl _ _ | with_reducible refine Kept.prev ?_ | with_reducible refine Kept.alloc' ?_ _ | with_reducible refine Kept.drew' ?_ | with_reducible refine Kept.setB ?_ _ _ _ (by omega) | with_reducible refine Kept.row' ?_ _ _ (by omega) | with_reducible refine Kept.map' ?_ _ _ (by omega)))
        have HK3 := Lib.hid (show Kept [] w1 w3 from (by repeat (first | with_reducible exact HK.out | with_reducible exact Kept.refl _ _ | with_reducible refine Kept.prev ?_ | with_reducible refine Kept.alloc' ?_ _ | with_reducible refine Kept.drew' ?_ | with_reducible refine Kept.setB ?_ _ _ _ (by omega) | with_reducible refine Kept.row' ?_ _ _ (by omega) | with_reducible refine Kept.map' ?_ _ _ (by omega))))
        have hA : bs.length + 1 ≤ maxLen := by unfold maxLen; omega
        have hB : (bs.length + 1) * 16 ≤ 140737488355328 := by omega
        have hC : w1.heap.size ≤ (w3.alloc (.cells #[.int .i64 rl, .int .i64 rh] 43)).heap.size := by simp; omega
        go_wp2_with (at_builtin; refine wpList_append_own _ rfl _ _ 51 rfl w1.heap.size 43 ib (.agg #[.int .i64 0, .int .i64 0]) 2 16 Tryz.underlying51 ib0 ib1 ib2 ib3 rfl (by decide) (.slice A6 bs.length c6) bs.length (bdsC bs) rfl (HOW.out.alloc _) ⟨w3.heap.size, 0, none⟩ 1 1 [.int .i64 rl, .int .i64 rh] rfl rfl (World.news_of_block (cs := #[.int .i64 rl, .int .i64 rh]) (t := 43) (fr := (0, 0)) (heap_alloc_new w3 _)) (by simp [Value.oneCell']) hA hB hC ?_; intro v' w4 ho4 hg4 _; have HO4 := Lib.hid ho4; have HG4 := Lib.hid hg4; clear ho4 hg4)
        have HROW : Hid (w4.ownsRow w1.heap.size 43 2 v' (bs ++ [(rl, rh)]).length (bdsC (bs ++ [(rl, rh)]))) := by
          rw [Hid, bdsC_snoc, List.length_append]
          exact HO4.out
        have HK4 : Hid (Kept [] w1 w4) := (HK3.out.trans (Kept.alloc _ _ _)).grown HG4.out (fun q hq => own_at HOWN.out q hq)
        go_roundw
        case rel => exact ⟨k + 1, by omega, by go_num, bs ++ [(rl, rh)], o, HS.out, rfl, HROW.out, HK4.out⟩
        case measure => simp [intOf]; omega
      · have HS : Hid (ChAt t n sub l (k + 1) bs o) := HNON.out k3 HCE2.out e2
        have e3 : decide (rl ≤ rh) = false := by simp [e2]
        clear HO HADD HNON HCE2 HERR0 k3 e2
        go_wp2_with fail
        refine wp_region_head 9 1 (fun _ => .cells #[.int .i64 0, .int .i64 0] 43) (by kernel_rfl) (by kernel_rfl) (fun i o h1 h2 h3 => by obtain rfl : i = 9 := (by omega); all_goals (obtain rfl := Option.some.inj h3; exact alc_of rfl rfl Tryz.zeroBd)) (fun _ _ _ _ _ h => h) ?_; apply Exists.intro; refine ⟨fun U hU hN => ?_, ?_⟩; simp only [List.take_succ_cons, List.take_zero]
        · repeat (go_big_quiet_step (exact Calls.headV hU (HCY.out _ (Kept.trans (by repeat (first | with_reducible exact HK.out | with_reducible exact Kept.refl _ _ | with_reducible refine Kept.prev ?_ | with_reducible refine Kept.alloc' ?_ _ | with_reducible refine Kept.drew' ?_ | with_reducible refine Kept.setB ?_ _ _ _ (by omega) | with_reducible refine Kept.row' ?_ _ _ (by omega) | with_reducible refine Kept.map' ?_ _ _ (by omega))) (AfterU.prop _)))))
          refine wpQuiet_nil ?_
          exact rfl
        simp only [List.drop_succ_cons, List.drop_zero, List.take_succ_cons, List.take_zero]
        intro B1 hB1 _ w2 hk2 hh
        haveI p_w2 : PrevWorld w2 _ := ⟨hk2⟩
        haveI bx2 : BoxIs w2 B1 43 #[.int .i64 0, .int .i64 0] := box_of hh (by simp)
        haveI g1 : BornAfter B1 _ := ⟨hB1⟩
        have hzB : w.heap.size ≤ B1 := Nat.le_trans (Kept.size (X := []) (by repeat (first | with_reducible exact HK.out | with_reducible exact Kept.refl _ _ | with_reducible refine Kept.prev ?_ | with_reducible refine Kept.alloc' ?_ _ | with_reducible refine Kept.drew' ?_ | with_reducible refine Kept.setB ?_ _ _ _ (by omega) | with_reducible refine Kept.row' ?_ _ _ (by omega) | with_reducible refine Kept.map' ?_ _ _ (by omega)))) hB1
        have hzC : w1.heap.size ≤ B1 := Nat.le_trans (Kept.size (X := []) (by repeat (first | with_reducible exact HK.out | with_reducible exact Kept.refl _ _ | with_reducible refine Kept.prev ?_ | with_reducible refine Kept.alloc' ?_ _ | with_reducible refine Kept.drew' ?_ | with_reducible refine Kept.setB ?_ _ _ _ (by omega) | with_reducible refine Kept.row' ?_ _ _ (by omega) | with_reducible refine Kept.map' ?_ _ _ (by omega)))) hB1
        clear hk2 hh
        go_wp2_with fail
        refine (HIY.out _ (by repeat (first | with_reducible exact HK.out | with_reducible exact Kept.refl _ _ | with_reducible refine Kept.prev ?_ | with_reducible refine Kept.alloc' ?_ _ | with_reducible refine Kept.drew' ?_ | with_reducible refine Kept.setB ?_ _ _ _ (by omega) | with_reducible refine Kept.row' ?_ _ _ (by omega) | with_reducible refine Kept.map' ?_ _ _ (by omega)))).mono ?_; rintro e w3 ⟨rfl, hk_w3⟩; haveI p_w3 : PrevWorld w3 _ := ⟨hk_w3⟩; have hz_w3 : w.heap.size ≤ w3.heap.size := Kept.size (by repeat (first | with_reducible exact HK.out | with_reducible exact Kept.refl _ _ | with_reducible refine Kept.prev ?_ | with_reducible refine Kept.alloc' ?_ _ | with_reducible refine Kept.drew' ?_ | with_reducible refine Kept.setB ?_ _ _ _ (by omega) | with_reducible refine Kept.row' ?_ _ _ (by omega) | with_reducible refine Kept.map' ?_ _ _ (by omega))); clear hk_w3
        go_wp2_with fail
        go_roundw
        case rel => exact ⟨k + 1, by omega, by go_num, bs, o, HS.out, rfl, own_keep HOWN.out (X := []) (by repeat (first | with_reducible exact HK.out | with_reducible exact Kept.refl _ _ | with_reducible refine Kept.prev ?_ | with_reducible refine Kept.alloc' ?_ _ | with_reducible refine Kept.drew' ?_ | with_reducible refine Kept.setB ?_ _ _ _ (by omega) | with_reducible refine Kept.row' ?_ _ _ (by omega) | with_reducible refine Kept.map' ?_ _ _ (by omega))) (by simp), (by repeat (first | with_reducible exact HK.out | with_reducible exact Kept.refl _ _ | with_reducible refine Kept.prev ?_ | with_reducible refine Kept.alloc' ?_ _ | with_reducible refine Kept.drew' ?_ | with_reducible refine Kept.setB ?_ _ _ _ (by omega) | with_reducible refine Kept.row' ?_ _ _ (by omega) | with_reducible refine Kept.map' ?_ _ _ (by omega)))⟩
        case measure => simp [intOf]; omega
    · obtain rfl : k = l.length := by omega
      have HW := Lib.hid HAT.out.all
      clear HC HR HAT HI
      go_wp2_with fail
      rw [HW.out]
      refine bodyPost_ret (res3 Tryz.results14 (resT rfl) (resT rfl) (resT rfl)) rfl ?_
      exact ⟨_, rfl, own_base HOWN.out hz1, (by repeat (first | with_reducible exact HK.out | with_reducible exact Kept.refl _ _ | with_reducible refine Kept.prev ?_ | with_reducible refine Kept.alloc' ?_ _ | with_reducible refine Kept.drew' ?_ | with_reducible refine Kept.setB ?_ _ _ _ (by omega) | with_reducible refine Kept.row' ?_ _ _ (by omega) | with_reducible refine Kept.map' ?_ _ _ (by omega)))⟩
end Go.Proofs.YtgdjhhfbpalkdaaGreat
