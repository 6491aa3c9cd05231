/- The reference: covered, Same. Lists of lists of choices, cut to twenty of twenty. Choices of a list that lies, its bounds as rows. -/
import Derived.Test.YtgdjhhfbpalkdaaGreatR10
import Derived.Test.YtgdjhhfbpalkdaaGreatP6
import Derived.Test.YtgdjhhfbpalkdaaGreatX1
import Derived.Test.YtgdjhhfbpalkdaaGreatL6
import Derived.Test.YtgdjhhfbpalkdaaGreatO1
namespace Go.Proofs.YtgdjhhfbpalkdaaGreat
open Go.RowKit
/-- Bounds in memory. -/
class BdRow (w : World) (b o : Nat) (x : outParam Bd) : Prop where
  range : w.rangeAt b o (bdC x)
theorem BdRow.kept {w w' : World} {b o : Nat} {x : Bd} (h : BdRow w b o x) (hk : Kept [] w w') : BdRow w' b o x := ⟨fun j u hu => hk.cell (h.range j u hu) (by simp)⟩
instance (w : World) (U : World → Prop) (b o : Nat) (x : Bd) (z : AfterU w U) [h : BdRow w b o x] : BdRow z.1 b o x := h.kept z.2.1
instance (w' w : World) (b o : Nat) (x : Bd) [p : PrevWorld w' w] [h : BdRow w b o x] : BdRow w' b o x := h.kept p.kept
@[go_sem] theorem bd_c0 (w : World) (b o : Nat) (x : Bd) [h : BdRow w b o x] : w.cell? ⟨b, o, none⟩ = some (.int .i64 x.1) := by simpa using h.range 0 _ rfl
@[go_sem] theorem bd_c1 (w : World) (b o : Nat) (x : Bd) [h : BdRow w b o x] : w.cell? ⟨b, o + 1, none⟩ = some (.int .i64 x.2) := h.range 1 _ rfl
theorem bd_row {w : World} {a : Option Addr} {l : List Bd} {k : Nat} {x : Bd} (h : RowsAt Bd 2 bdC w a l) (hx : l[k]? = some x) : ∃ b o, a = some ⟨b, o, none⟩ ∧ BdRow w b (o + k * 2) x := by
  obtain ⟨b, o, ha, hr⟩ := h.some_ hx
  exact ⟨b, o, ha, ⟨hr k x hx⟩⟩
set_option maxRecDepth 100000 in
set_option maxHeartbeats 2000000 in
theorem covered_any : ∀ (m : Nat) (w : World) (a : Option Addr) (c : Nat) (l : List Bd) (lo hi : Int), (hi + 1 - lo).toNat ≤ m → l.length ≤ 1000000 → RowsAt Bd 2 bdC w a l → -9223372036854775808 ≤ lo → hi ≤ 9223372036854775807 →
    Calls Tryz.prog 45 #[.slice a l.length c, .int .i64 lo, .int .i64 hi] w (RetV (.bool (covB l lo hi)) w) := by
  intro m
  induction m with
  | zero =>
    intro w a c l lo hi hm hl hR h1 h2
    have hgt : hi < lo := by omega
    have HW := Lib.hid (covB_empty (l := l) hgt)
    clear hm hR
    go_enter Tryz.func45, Tryz.ntmps45
    go_wp2_with fail
    rw [HW.out]
    exact bodyPost_v rfl (res1 Tryz.results45 (resT rfl)) (by repeat (first | with_reducible exact HK.out | with_reducible exact Kept.refl _ _ | with_reducible refine Kept.prev ?_ | with_reducible refine Kept.alloc' ?_ _ | with_reducible refine Kept.drew' ?_ | with_reducible refine Kept.setB ?_ _ _ _ (by omega) | with_reducible refine Kept.row' ?_ _ _ (by omega) | with_reducible refine Kept.map' ?_ _ _ (by omega)))
  | succ m ih =>
    intro w a c l lo hi hm hl hR h1 h2
    by_cases hgt : hi < lo
    · have HW := Lib.hid (covB_empty (l := l) hgt)
      clear hm hR ih
      go_enter Tryz.func45, Tryz.ntmps45
      go_wp2_with fail
      rw [HW.out]
      exact bodyPost_v rfl (res1 Tryz.results45 (resT rfl)) (by repeat (first | with_reducible exact HK.out | with_reducible exact Kept.refl _ _ | with_reducible refine Kept.prev ?_ | with_reducible refine Kept.alloc' ?_ _ | with_reducible refine Kept.drew' ?_ | with_reducible refine Kept.setB ?_ _ _ _ (by omega) | with_reducible refine Kept.row' ?_ _ _ (by omega) | with_reducible refine Kept.map' ?_ _ _ (by omega)))
    have hgt' : decide (hi < lo) = false := decide_eq_false hgt
    have HI := Lib.hid hR
    have HIH := Lib.hid (fun w' (hk : Kept [] w w') lo' (h : lo < lo') h1 => ih w' a c l lo' hi (by omega) hl (hR.kept hk) h1 h2)
    have HOUT := Lib.hid (fun h => covB_out (l := l) (lo := lo) (hi := hi) (by omega) h)
    have HFULL := Lib.hid (fun x hx h1 h2 => covB_full (l := l) (lo := lo) (hi := hi) (x := x) hx h1 h2)
    have HSTEP := Lib.hid (fun x hx h1 h2 => covB_step (l := l) (lo := lo) (hi := hi) (x := x) hx h1 h2)
    have HGT := Lib.hid hgt
    clear hm hR ih hgt
    go_enter Tryz.func45, Tryz.ntmps45
    go_wp2_with fail
    go_loopw [7] (fun i wr => ∃ k : Nat, k ≤ l.length ∧ i = .int .i64 k ∧ (∀ x, x ∈ l.take k → ¬ (x.1 ≤ lo ∧ lo ≤ x.2)) ∧ Kept [] w wr) (fun i _ => l.length - (intOf i).toNat)
    case atStart => exact ⟨0, Nat.zero_le _, rfl, fun x hx => by simp at hx, Kept.refl _ _⟩
    case round =>
      obtain ⟨k, hk, rfl, hn, hkr⟩ := hrel
      haveI p_wr : PrevWorld wr w := ⟨hkr⟩
      have HN := Lib.hid hn
      have HK := Lib.hid hkr
      have hzr := hkr.size
      clear hn hkr
      by_cases hlt : k < l.length
      · obtain ⟨x, hx⟩ : ∃ x, l[k]? = some x := ⟨_, List.getElem?_eq_getElem hlt⟩
        obtain ⟨b, o, rfl, hbr⟩ := bd_row (HI.out.kept HK.out) hx
        have hmem := List.mem_of_getElem? hx
        have HNX := Lib.hid (fun (h : ¬ (x.1 ≤ lo ∧ lo ≤ x.2)) => show ∀ y, y ∈ l.take (k + 1) → ¬ (y.1 ≤ lo ∧ lo ≤ y.2) from fun y hy => by
          rw [take_snoc hx, List.mem_append] at hy
          rcases hy with hy | hy
          · exact HN.out y hy
          · have e : y = x := by simpa using hy
            rw [e]
            exact h)
        have HF := Lib.hid (HFULL.out x hmem)
        have HT := Lib.hid (HSTEP.out x hmem)
        have j2 : (k : Int) < (l.length : Int) := by omega
        clear hx hmem HFULL HSTEP HOUT HN
        obtain ⟨xl, xh⟩ := x
        simp only at HF HT HNX
        by_cases c1 : xl ≤ lo
        rotate_left
        · have c1' : decide (xl ≤ lo) = false := decide_eq_false c1
          have HS := Lib.hid (HNX.out (fun h => c1 h.1))
          clear HNX HF HT c1 HIH
          go_wp2_with fail
          go_roundw
          case rel => exact ⟨k + 1, by omega, by go_num, HS.out, HK.out⟩
          case measure => simp [intOf]; omega
        by_cases c2 : lo ≤ xh
        rotate_left
        · have c2' : decide (lo ≤ xh) = false := decide_eq_false c2
          have HS := Lib.hid (HNX.out (fun h => c2 h.2))
          clear HNX HF HT c2 HIH
          go_wp2_with fail
          go_roundw
          case rel => exact ⟨k + 1, by omega, by go_num, HS.out, HK.out⟩
          case measure => simp [intOf]; omega
        clear HNX
        by_cases c3 : hi ≤ xh
        · have HW := Lib.hid (HF.out c1 c3)
          clear HF HT HIH
          go_wp2_with fail
          rw [HW.out]
          exact bodyPost_v rfl (res1 Tryz.results45 (resT rfl)) (by repeat (first | with_reducible exact HK.out | with_reducible exact Kept.refl _ _ | with_reducible refine Kept.prev ?_ | with_reducible refine Kept.alloc' ?_ _ | with_reducible refine Kept.drew' ?_ | with_reducible refine Kept.setB ?_ _ _ _ (by omega) | with_reducible refine Kept.row' ?_ _ _ (by omega) | with_reducible refine Kept.map' ?_ _ _ (by omega)))
        · have c3' : decide (hi ≤ xh) = false := decide_eq_false c3
          have HW := Lib.hid (HT.out c1 c2)
          have c4 : xh + 1 ≤ 9223372036854775807 := by omega
          have c5 : -9223372036854775808 ≤ xh + 1 := by omega
          have HC := Lib.hid (fun w' (hk : Kept [] w w') => HIH.out w' hk (xh + 1) (by omega) c5)
          clear HF HT HIH c3
          go_wp2_with fail
          refine (HC.out _ (by repeat (first | with_reducible exact HK.out | with_reducible exact Kept.refl _ _ | with_reducible refine Kept.prev ?_ | with_reducible refine Kept.alloc' ?_ _ | with_reducible refine Kept.drew' ?_ | with_reducible refine Kept.setB ?_ _ _ _ (by omega) | with_reducible refine Kept.row' ?_ _ _ (by omega) | with_reducible refine Kept.map' ?_ _ _ (by omega)))).mono ?_; rintro e w5 ⟨rfl, hk_w5⟩; haveI p_w5 : PrevWorld w5 _ := ⟨hk_w5⟩; have hz_w5 : w.heap.size ≤ w5.heap.size := Kept.size (by repeat (first | with_reducible exact HK.out | with_reducible exact Kept.refl _ _ | with_reducible refine Kept.prev ?_ | with_reducible refine Kept.alloc' ?_ _ | with_reducible refine Kept.drew' ?_ | with_reducible refine Kept.setB ?_ _ _ _ (by omega) | with_reducible refine Kept.row' ?_ _ _ (by omega) | with_reducible refine Kept.map' ?_ _ _ (by omega))); clear hk_w5
          go_wp2_with fail
          rw [HW.out]
          exact bodyPost_v rfl (res1 Tryz.results45 (resT rfl)) (by repeat (first | with_reducible exact HK.out | with_reducible exact Kept.refl _ _ | with_reducible refine Kept.prev ?_ | with_reducible refine Kept.alloc' ?_ _ | with_reducible refine Kept.drew' ?_ | with_reducible refine Kept.setB ?_ _ _ _ (by omega) | with_reducible refine Kept.row' ?_ _ _ (by omega) | with_reducible refine Kept.map' ?_ _ _ (by omega)))
      · obtain rfl : k = l.length := by omega
        have HN2 : Hid (∀ x, x ∈ l → ¬ (x.1 ≤ lo ∧ lo ≤ x.2)) := by have := HN.out; rw [List.take_length] at this; exact this
        have HW := Lib.hid (HOUT.out HN2.out)
        clear HN HN2 HOUT HFULL HSTEP HIH
        go_wp2_with fail
        rw [HW.out]
        exact bodyPost_v rfl (res1 Tryz.results45 (resT rfl)) (by repeat (first | with_reducible exact HK.out | with_reducible exact Kept.refl _ _ | with_reducible refine Kept.prev ?_ | with_reducible refine Kept.alloc' ?_ _ | with_reducible refine Kept.drew' ?_ | with_reducible refine Kept.setB ?_ _ _ _ (by omega) | with_reducible refine Kept.row' ?_ _ _ (by omega) | with_reducible refine Kept.map' ?_ _ _ (by omega)))
def loadBdC (v : Value) : Sem Next := do return .value (← Instr.loadAt 43 v)
set_option maxRecDepth 100000 in
set_option maxHeartbeats 2000000 in
theorem same_any (w : World) (a a' : Option Addr) (c c' : Nat) (l l' : List Bd) (hl : l.length ≤ 1000000) (hR : RowsAt Bd 2 bdC w a l) (_hl' : l'.length ≤ 1000000) (hR' : RowsAt Bd 2 bdC w a' l') :
    Calls Tryz.prog 15 #[.slice a l.length c, .slice a' l'.length c'] w (RetV (.bool (decide (l = l'))) w) := by
  have HI := Lib.hid hR
  have HI' := Lib.hid hR'
  clear hR hR'
  go_enter Tryz.func15, Tryz.ntmps15
  by_cases hle : l.length = l'.length
  rotate_left
  · have hle' : ((l.length : Int) != (l'.length : Int)) = true := by simp; omega
    have HW : Hid (decide (l = l') = false) := decide_eq_false (fun h => hle (by rw [h]))
    clear hle
    go_wp2_with fail
    rw [HW.out]
    exact bodyPost_v rfl (res1 Tryz.results15 (resT rfl)) (by repeat (first | with_reducible exact HK.out | with_reducible exact Kept.refl _ _ | with_reducible refine Kept.trans ?_ (Kept.drewN _ _ _) | with_reducible refine Kept.prev ?_ | with_reducible refine Kept.alloc' ?_ _ | with_reducible refine Kept.drew' ?_))
  have hle' : ((l.length : Int) != (l'.length : Int)) = false := by simp; omega
  have HLE := Lib.hid hle
  clear hle
  go_wp2_with fail
  go_loopw [5] (fun i wr => ∃ k : Nat, k ≤ l.length ∧ i = .int .i64 k ∧ l.take k = l'.take k ∧ Kept [] w wr) (fun i _ => l.length - (intOf i).toNat)
  case atStart => exact ⟨0, Nat.zero_le _, rfl, rfl, Kept.refl _ _⟩
  case round =>
    obtain ⟨k, hk, rfl, hn, hkr⟩ := hrel
    haveI p_wr : PrevWorld wr w := ⟨hkr⟩
    have HN := Lib.hid hn
    have HK := Lib.hid hkr
    have hzr := hkr.size
    clear hn hkr
    by_cases hlt : k < l.length
    · obtain ⟨x, hx⟩ : ∃ x, l[k]? = some x := ⟨_, List.getElem?_eq_getElem hlt⟩
      obtain ⟨y, hy⟩ : ∃ y, l'[k]? = some y := ⟨_, List.getElem?_eq_getElem (by rw [← HLE.out]; exact hlt)⟩
      obtain ⟨b, o, rfl, hbr⟩ := bd_row (HI.out.kept HK.out) hx
      obtain ⟨b', o', rfl, hbr'⟩ := bd_row (HI'.out.kept HK.out) hy
      have HST := Lib.hid (fun (h : x = y) => show l.take (k + 1) = l'.take (k + 1) from by rw [take_snoc hx, take_snoc hy, HN.out, h])
      have HNE := Lib.hid (fun (h : x ≠ y) => show decide (l = l') = false from decide_eq_false (fun e => h (by rw [e, hy] at hx; exact (Option.some.inj hx).symm)))
      have j2 : (k : Int) < (l.length : Int) := by omega
      have j3 : (k : Int) < (l'.length : Int) := by have := HLE.out; omega
      clear hx hy HN
      obtain ⟨xl, xh⟩ := x
      obtain ⟨yl, yh⟩ := y
      have y0 := bd_c0 wr b (o + k * 2) (xl, xh)
      have y1 := bd_c1 wr b (o + k * 2) (xl, xh)
      have z0 := bd_c0 wr b' (o' + k * 2) (yl, yh)
      have z1 := bd_c1 wr b' (o' + k * 2) (yl, yh)
      simp only at y0 y1 z0 z1
      by_cases e1 : xl = yl
      · by_cases e2 : xh = yh
        · subst e1 e2
          have HS := Lib.hid (HST.out rfl)
          clear HST HNE
          go_wp2_with fail
          go_quiet (fail)
          go_wp2_with fail
          go_roundw
          case rel => exact ⟨k + 1, by omega, by go_num, HS.out, (by repeat (first | with_reducible exact HK.out | with_reducible exact Kept.refl _ _ | with_reducible refine Kept.trans ?_ (Kept.drewN _ _ _) | with_reducible refine Kept.prev ?_ | with_reducible refine Kept.alloc' ?_ _ | with_reducible refine Kept.drew' ?_))⟩
          case measure => simp [intOf]; omega
        · have HW : Hid (decide (l = l') = false) := HNE.out (fun h => e2 (by injection h))
          have e2' : (xh == yh) = false := by simp [e2]
          clear HST HNE e2
          go_wp2_with fail
          go_quiet (fail)
          go_wp2_with fail
          rw [HW.out]
          exact bodyPost_v rfl (res1 Tryz.results15 (resT rfl)) (by repeat (first | with_reducible exact HK.out | with_reducible exact Kept.refl _ _ | with_reducible refine Kept.trans ?_ (Kept.drewN _ _ _) | with_reducible refine Kept.prev ?_ | with_reducible refine Kept.alloc' ?_ _ | with_reducible refine Kept.drew' ?_))
      · have HW : Hid (decide (l = l') = false) := HNE.out (fun h => e1 (by injection h))
        have e1' : (xl == yl) = false := by simp [e1]
        clear HST HNE e1
        go_wp2_with fail
        go_quiet (fail)
        go_wp2_with fail
        rw [HW.out]
        exact bodyPost_v rfl (res1 Tryz.results15 (resT rfl)) (by repeat (first | with_reducible exact HK.out | with_reducible exact Kept.refl _ _ | with_reducible refine Kept.trans ?_ (Kept.drewN _ _ _) | with_reducible refine Kept.prev ?_ | with_reducible refine Kept.alloc' ?_ _ | with_reducible refine Kept.drew' ?_))
    · obtain rfl : k = l.length := by omega
      have HN2 : Hid (l = l') := by
        have := HN.out
        rw [List.take_length, HLE.out, List.take_length] at this
        exact this
      have HW : Hid (decide (l = l') = true) := decide_eq_true HN2.out
      clear HN HN2
      go_wp2_with fail
      rw [HW.out]
      exact bodyPost_v rfl (res1 Tryz.results15 (resT rfl)) (by repeat (first | with_reducible exact HK.out | with_reducible exact Kept.refl _ _ | with_reducible refine Kept.trans ?_ (Kept.drewN _ _ _) | with_reducible refine Kept.prev ?_ | with_reducible refine Kept.alloc' ?_ _ | with_reducible refine Kept.drew' ?_))
end Go.Proofs.YtgdjhhfbpalkdaaGreat
namespace Go.Proofs.YtgdjhhfbpalkdaaGreat
open Go.RowKit
def cutOp (x h : Value) : Sem Next := do return .value (← Instr.sliceAt 50 x none (some h) none)
@[go_sem ↓] theorem execOp_cutOp (ρ : Operand → Value) (dst : Option Tmp) (x h : Operand) (ty : TypeId) (pos : String) (after : Array Edge) (guard : Option (Nat × Bool)) :
    execOp ρ { dst, op := .slice 50 x none (some h) none, type := ty, pos, after, guard } = cutOp (ρ x) (ρ h) := by simp [execOp, cutOp]
theorem add_zero (a : Addr) : a.add 0 = a := by
  cases a
  rename_i b o p
  cases p <;> simp [Addr.add]
theorem Tryz.under_cl : Tryz.prog.underlying 50 = some (.slice (Tryz.prog.elem 50)) := by kernel_rfl
theorem Tryz.size_cl (w : World) : (sizeOf (Tryz.prog.elem 50)).run Tryz.prog w = .ok 2 w := by kernel_rfl
@[go_sem] theorem run_cutOp (w : World) (a : Option Addr) (len cap : Nat) (h : Int) (h0 : 0 ≤ h) (h1 : h ≤ (cap : Int)) : Sem.run Tryz.prog (cutOp (.slice a len cap) (.int .i64 h)) w = .ok (.value (.slice a h.toNat cap)) w := by
  unfold cutOp
  simp only [Sem.run_bind]
  rw [run_sliceAt_slice w 50 _ _ _ _ Tryz.under_cl, run_slice_h w 50 a len cap Tryz.under_cl .i64 h h0 h1, Tryz.size_cl]
  simp only [Result.andThen_ok, Sem.run_pure, sliced, Nat.zero_mul, Nat.sub_zero]
  have e : a.map (fun x => x.add 0) = a := by
    cases a <;> simp [add_zero]
  rw [e]
  split <;> rfl
def cutC (y : ChL) : ChL := ⟨y.a, y.c, y.l.take 20⟩
def cutK (ls : List ChL) : List ChL := (ls.take 20).map cutC
theorem cutK_len (ls : List ChL) : (cutK ls).length = min 20 ls.length := by simp [cutK]
theorem cutK_get {ls : List ChL} {k : Nat} {y : ChL} (h : ls[k]? = some y) (hk : k < 20) : (cutK ls)[k]? = some (cutC y) := by
  simp [cutK, List.getElem?_take_of_lt hk, h]
theorem cutK_mem {ls : List ChL} {x : ChL} (h : x ∈ cutK ls) : ∃ y, y ∈ ls ∧ x = cutC y := by
  obtain ⟨y, h1, h2⟩ := List.mem_map.1 h
  exact ⟨y, List.mem_of_mem_take h1, h2.symm⟩
theorem rows_take {α : Type} {m : Nat} {cells : α → List Value} {w : World} {a : Option Addr} {l : List α} (h : RowsAt α m cells w a l) (q : Nat) : RowsAt α m cells w a (l.take q) := by
  rcases h with h | ⟨b, o, ha, hr⟩
  · left
    rw [h]
    simp
  · refine .inr ⟨b, o, ha, fun j r hj => hr j r ?_⟩
    rw [List.getElem?_take] at hj
    split at hj
    · exact hj
    · cases hj
theorem cut_in {w : World} {n : Nat} {y : ChL} (h : ChLIn w n y) : RowsAt ChV 2 ChV.cells w (cutC y).a (cutC y).l ∧ (∀ z, z ∈ (cutC y).l → ChIn w n z) ∧ (cutC y).l.length ≤ 20 :=
  ⟨rows_take h.rows 20, fun z hz => h.all z (List.mem_of_mem_take hz), by simp [cutC]; omega⟩
theorem Tryz.infoClM : (Tryz.prog.info? 50).map (fun i => (i.zero, i.size, i.bytes)) = some (some (.slice none 0 0), 1, 24) := by kernel_rfl
theorem Tryz.cl_parts : ∃ i, Tryz.prog.info? 50 = some i ∧ i.zero = some (.slice none 0 0) ∧ i.size = 1 ∧ i.bytes = 24 := by
  have h := Tryz.infoClM
  cases hi : Tryz.prog.info? 50 with
  | none => simp [hi] at h
  | some i => simp [hi] at h; exact ⟨i, rfl, h⟩
def clsC (l : List ChL) : List Value := (l.map ChL.cells).flatten
theorem clsC_snoc (l : List ChL) (y : ChL) : clsC (l ++ [y]) = clsC l ++ [.slice y.a y.l.length y.c] := by simp [clsC, ChL.cells]
/-- What the first loop holds. -/
def CutL (K : List ChL) (w1 : World) (v7 i : Value) (wr : World) : Prop := ∃ k : Nat, k ≤ K.length ∧ i = .int .i64 k ∧ wr.ownsRow w1.heap.size 50 1 v7 k (clsC (K.take k)) ∧ Kept [] w1 wr
end Go.Proofs.YtgdjhhfbpalkdaaGreat
namespace Go.Proofs.YtgdjhhfbpalkdaaGreat
open Go.RowKit
/-- Bounds in a slice, with what else Choices returns. -/
def SP.bt (l : List Bd) (o : Bool) (e : Int) : SP := ⟨fun v w => ∃ A c, v = .tuple #[.slice A l.length c, .bool o, .int .i64 e] ∧ RowsAt Bd 2 bdC w A l, fun _ _ _ ⟨A, c, h1, h2⟩ hk => ⟨A, c, h1, h2.kept hk⟩⟩
def SP.bl (l : List Bd) : SP := ⟨fun v w => ∃ A c, v = .slice A l.length c ∧ RowsAt Bd 2 bdC w A l, fun _ _ _ ⟨A, c, h1, h2⟩ hk => ⟨A, c, h1, h2.kept hk⟩⟩
def RetBt (l : List Bd) (o : Bool) (x : Int) (w : World) (e : Ending) (w' : World) : Prop := ∃ A c, e = .returned (.tuple #[.slice A l.length c, .bool o, .int .i64 x]) ∧ RowsAt Bd 2 bdC w' A l ∧ Kept [] w w'
theorem choices_val (w : World) (v : TabV) (t : Tab) (sub : Int) (y : ChL) (n : Nat) (hT : TabIn w v t) (hy : RowsAt ChV 2 ChV.cells w y.a y.l ∧ (∀ z, z ∈ y.l → ChIn w n z) ∧ y.l.length ≤ 1000) :
    Calls Tryz.prog 13 #[.agg (v.cells t), .int .i64 sub, .slice y.a y.l.length y.c] w (RetBt (chB t n sub y.l) (chO t n sub y.l) (chE t n sub y.l) w) := by
  refine (Choices_any w v t sub y.a y.c y.l n hT hy.1 hy.2.1 hy.2.2).mono ?_
  rintro e w' ⟨bs, rfl, hown, hk⟩
  obtain ⟨A, c, rfl, _, _, _, hr⟩ := rows_own (α := Bd) (m := 2) (cells := bdC) (l := (choicesP t n sub y.l).1) hown (fun _ => rfl) rfl
  exact ⟨A, c, rfl, hr, hk⟩
theorem wrong_step {t : Tab} {n : Nat} {sub : Int} {K : List ChL} {j : Nat} {y : ChL} (h : K[j]? = some y) :
    wrongTo t n sub K (j + 1) = (wrongTo t n sub K j || (chO t n sub y.l && (decide (j + 1 < K.length) || decide (1 < y.l.length)))) := by
  have e : K.getD j default = y := by simp [List.getD_eq_getElem?_getD, h]
  show (wrongTo t n sub K j || (chO t n sub (K.getD j default).l && (decide (j + 1 < K.length) || decide (1 < (K.getD j default).l.length)))) = _
  rw [e]
theorem rest_step {t : Tab} {n : Nat} {sub : Int} {K : List ChL} {j : Nat} {y : ChL} (h : K[j]? = some y) : restTo t n sub K (j + 1) = (restTo t n sub K j || chO t n sub y.l) := by
  have e : K.getD j default = y := by simp [List.getD_eq_getElem?_getD, h]
  show (restTo t n sub K j || chO t n sub (K.getD j default).l) = _
  rw [e]
theorem cnt_step {t : Tab} {n : Nat} {sub : Int} {K : List ChL} {j : Nat} {y : ChL} (h : K[j]? = some y) (v : Int) : cntTo t n sub K v (j + 1) = cntTo t n sub K v j + (chB t n sub y.l).countP (hasB v) := by
  have e : K.getD j default = y := by simp [List.getD_eq_getElem?_getD, h]
  rw [cntTo_step, e]
theorem others_some {t : Tab} {n : Nat} {sub : Int} {l : List ChV} (h : chO t n sub l = true) : 0 < l.length := by
  cases l with
  | nil => cases h
  | cons a l => simp
theorem cnt_le {t : Tab} {n : Nat} {sub : Int} {K : List ChL} (h : ∀ x, x ∈ K → x.l.length ≤ 1000) (hk : K.length ≤ 20) (v : Int) (j : Nat) (hj : j ≤ K.length) : cntTo t n sub K v j ≤ 20000 := by
  have h1 := all_len (t := t) (n := n) (sub := sub) h j hj
  have h2 := List.countP_le_length (p := hasB v) (l := allTo t n sub K j)
  unfold cntTo
  omega
theorem chB_len {t : Tab} {n : Nat} {sub : Int} {y : ChL} (h : y.l.length ≤ 1000) : (chB t n sub y.l).length ≤ 1000 := Nat.le_trans (choices_len t n sub y.l) h
theorem countP_snoc {l : List Bd} {k : Nat} {b : Bd} (h : l[k]? = some b) (v : Int) : (l.take (k + 1)).countP (hasB v) = (l.take k).countP (hasB v) + (if hasB v b = true then 1 else 0) := by
  rw [take_snoc h, List.countP_append]
  simp [List.countP_cons]
/-- The loops' states. -/
def RelA (t : Tab) (n : Nat) (sub : Int) (K : List ChL) (w0 : World) (v13 v14 i : Value) (wr : World) : Prop :=
  ∃ j : Nat, j ≤ K.length ∧ i = .int .i64 j ∧ v13 = .bool (!wrongTo t n sub K j) ∧ v14 = .bool (restTo t n sub K j) ∧ Kept [] w0 wr
def RelV (t : Tab) (n : Nat) (sub : Int) (K : List ChL) (lo : Int) (C : Nat) (w0 : World) (v13 v19 : Value) (wr : World) : Prop :=
  ∃ c : Nat, c ≤ C ∧ v19 = .int .i64 (lo + c) ∧ v13 = .bool (rightTo t n sub K lo c) ∧ Kept [] w0 wr
def RelJ (t : Tab) (n : Nat) (sub : Int) (K : List ChL) (v : Int) (w0 : World) (v20 i : Value) (wr : World) : Prop :=
  ∃ j : Nat, j ≤ K.length ∧ i = .int .i64 j ∧ v20 = .int .i64 (cntTo t n sub K v j : Nat) ∧ Kept [] w0 wr
def RelB (bs : List Bd) (v : Int) (m : Nat) (w0 : World) (v20 i : Value) (wr : World) : Prop :=
  ∃ k : Nat, k ≤ bs.length ∧ i = .int .i64 k ∧ v20 = .int .i64 ((m + (bs.take k).countP (hasB v) : Nat) : Int) ∧ Kept [] w0 wr
end Go.Proofs.YtgdjhhfbpalkdaaGreat
