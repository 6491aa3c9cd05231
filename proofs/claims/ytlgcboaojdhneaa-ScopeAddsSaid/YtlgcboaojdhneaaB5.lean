/- hidden. direct: the test. -/
import Derived.Test.YtlgcboaojdhneaaB4
import Derived.Test.YtlgcboaojdhneaaK2
namespace Go.Proofs.Ytlgcboaojdhneaa
open Go.RowKit

theorem finder_view {w : World} {F : Nat} {v : TabV} {t : Tab} {h : WhV} {name : ByteArray} {all : List Int} (hf : FinderIn w F v t h name all) : w.rangeAt F 0 (v.cells t).toList := by
  obtain ⟨a, c, _, _, _, f0, f1, f2, f3, f4, _⟩ := hf.cells
  intro j u hu
  rw [Nat.zero_add]
  match j with
  | 0 => exact f0.trans hu
  | 1 => exact f1.trans hu
  | 2 => exact f2.trans hu
  | 3 => exact f3.trans hu
  | 4 => exact f4.trans hu
  | j + 5 => simp [TabV.cells] at hu

theorem wpStill_load_mid {P : Program} {ops : Array Oper} {w : World} {Q : Act → Prop} {a : Act} {op : Oper} {rest : List Oper} (hgd : op.guard = none) (ty : TypeId) (x : Operand) (ho : op.op = .load ty x)
    (b o : Nat) (hx : a.eval x = .pointer (some ⟨b, o, none⟩)) (cs : List Value) (d : TypeDesc) (hc : w.rangeAt b o cs)
    (hu : P.underlying ty = some d) (hd : d.isRow = true) (hi : (P.info? ty).map (·.size) = some cs.length)
    (h : wpStill P ops w Q rest (a.put op.dst (.agg cs.toArray))) : wpStill P ops w Q (op :: rest) a :=
  wpStill_step fun K hK => by
    have hw : Region.wanted op (yielded ops a.tmps) = true := by simp [Region.wanted, hgd]
    rw [if_pos hw]
    unfold Oper.still execOp
    simp only [ho, hx, Instr.loadAt, Instr.sureAddr, Sem.run_bind, Sem.run_pure, Result.andThen_ok, run_loadVar_mid w b o ty cs d hc hu hd hi, Oper.stillUpon]
    exact ⟨trivial, hK _ h⟩

set_option maxRecDepth 100000 in
set_option maxHeartbeats 4000000 in
theorem hidden1_any (w : World) (F Bf Be : Nat) (v : TabV) (t : Tab) (h : WhV) (name : ByteArray) (all : List Int) (i k : Nat) (x y : EntV) (hx : t.ents[i]? = some x) (hy : t.ents[k]? = some y) (hF : FinderIn w F v t h name all)
    (hBf : w.cell? ⟨Bf, 0, none⟩ = some (.pointer (some ⟨F, 0, none⟩))) (hBe : w.cell? ⟨Be, 0, none⟩ = some (.int .i64 k)) :
    Calls Try.prog 89 #[.int .i64 i, .pointer (some ⟨Bf, 0, none⟩), .pointer (some ⟨Be, 0, none⟩)] w (RetB (homR t x y) w) := by
  have HF := Lib.hid hF
  have q1 := hF.tab.el
  have q2 := hF.tab.em
  have hxl := (List.getElem?_eq_some_iff.1 hx).1
  have hyl := (List.getElem?_eq_some_iff.1 hy).1
  have HEX := Lib.hid (hF.tab.ent (List.mem_of_getElem? hx))
  have HEY := Lib.hid (hF.tab.ent (List.mem_of_getElem? hy))
  obtain ⟨b, o, hea, hr⟩ := hF.tab.es.some_ hx
  have rx := hr i x hx
  have ry := hr k y hy
  obtain ⟨a, c, _, _, _, f0, f1, f2, f3, f4, _⟩ := hF.cells
  have f2' := f2
  rw [hea] at f2'
  have j1 : (0 : Int) ≤ (i : Int) := by omega
  have j2 : (i : Int) < (t.ents.length : Int) := by omega
  have j3 : (0 : Int) ≤ (k : Int) := by omega
  have j4 : (k : Int) < (t.ents.length : Int) := by omega
  have HVT : Hid (v.cells t = #[.slice v.ta t.types.length v.tc, .slice v.sa t.subs.length v.sc, .slice (some ⟨b, o, none⟩) t.ents.length v.ec, .slice v.ga v.gn v.gc, .slice v.ia v.im v.ic]) := by rw [Hid, ← hea]; rfl
  have RX : Hid (w.rangeAt b (o + i * 22) x.cells ∧ w.drew.rangeAt b (o + i * 22) x.cells) := ⟨rx, by simpa using rx⟩
  have RY : Hid (w.rangeAt b (o + k * 22) y.cells ∧ w.drew.rangeAt b (o + k * 22) y.cells) := ⟨ry, by simpa using ry⟩
  have HC : Hid (Calls Try.prog 48 #[.agg #[.slice v.ta t.types.length v.tc, .slice v.sa t.subs.length v.sc, .slice (some ⟨b, o, none⟩) t.ents.length v.ec, .slice v.ga v.gn v.gc, .slice v.ia v.im v.ic], .agg x.cells.toArray, .agg y.cells.toArray] w.drew (RetB (homR t x y) w.drew)) := by
    rw [Hid, ← HVT.out]
    exact homographs_any w.drew v t x y (HF.out.tab.kept (Kept.drew _ _)) (HEX.out.kept (Kept.drew _ _)) (HEY.out.kept (Kept.drew _ _))
  clear hx hy hF hr hea f2 rx ry
  go_enter Try.func89, Try.ntmps89
  go_upto_region 1 with (fail)
  go_still_tail 22, (by kernel_rfl)
  refine wpStill_load_mid rfl 43 (.tmp 16) rfl b (o + i * 22) rfl x.cells _ (by first | exact RX.out.1 | exact RX.out.2) Try.underlying43 rfl (Try.info43 x) ?_
  repeat still_step
  refine wpStill_load_mid rfl 43 (.tmp 25) rfl b (o + k * 22) rfl y.cells _ (by first | exact RY.out.1 | exact RY.out.2) Try.underlying43 rfl (Try.info43 y) ?_
  repeat still_step
  refine wpStill_nil ?_
  change wpList _ _ _ _ _ w.drew
  go_wp2_with fail
  refine HC.out.mono ?_
  rintro e w1 ⟨rfl, hk1⟩
  have HK1 := Lib.hid ((Kept.drew [] w).trans hk1)
  clear hk1
  go_wp2_with fail
  go_ret
  exact ⟨rfl, HK1.out⟩

theorem row_at {t : Tab} {e : Int} (h : (rowR t e).isSome = true) : ∃ (n : Nat) (x : EntV), e = (n : Int) ∧ t.ents[n]? = some x ∧ rowE t e = x := by
  obtain ⟨x, hx⟩ := Option.isSome_iff_exists.1 h
  have h0 := row_nonneg hx
  obtain ⟨n, rfl⟩ := Int.eq_ofNat_of_zero_le h0
  refine ⟨n, x, rfl, ?_, by unfold rowE; rw [hx]; rfl⟩
  unfold rowR at hx
  rw [if_neg (by omega)] at hx
  simpa using hx
theorem enters89 : ∀ args w, (callFunc 89 args).run Try.prog w = .ok (.enter 89 args) w := Go.Proofs.enters_of Try.func89 (by kernel_rfl) rfl

def hidR (t : Tab) (l : List Int) (y : EntV) : Bool := l.any fun a => homR t (rowE t a) y

set_option maxRecDepth 100000 in
set_option maxHeartbeats 1000000 in
theorem hidden_any (w : World) (F : Nat) (v : TabV) (t : Tab) (h : WhV) (name : ByteArray) (all : List Int) (k : Nat) (y : EntV) (hy : t.ents[k]? = some y) (hF : FinderIn w F v t h name all)
    (a : Option Addr) (c : Nat) (l : List Int) (hc : l.length ≤ c) (hm : c ≤ 9223372036854775807) (hI : IntsIn w a l) (hl : ∀ e, e ∈ l → (rowR t e).isSome = true) :
    Calls Try.prog 71 #[.pointer (some ⟨F, 0, none⟩), .int .i64 k, .slice a l.length c] w (RetB (hidR t l y) w) := by
  have HF := Lib.hid hF
  have HI := Lib.hid hI
  have HL := Lib.hid hl
  have HY := Lib.hid hy
  clear hF hI hl hy
  go_enter Try.func71, Try.ntmps71
  go_upto_region 1 with (fail)
  refine wp_gen' ?_
  intro w0 hw0
  have hk0 : Kept [] w w0 := by rw [hw0]; exact (Kept.alloc _ _ _).trans (Kept.alloc _ _ _)
  have b0 : w0.heap[w.heap.size]? = some (.cells #[.pointer (some ⟨F, 0, none⟩)] 76 (0, 0)) := by rw [hw0]; exact obj_old (obj_new rfl) (by simp)
  have b1 : w0.heap[w.heap.size + 1]? = some (.cells #[.int .i64 k] 3 (0, 0)) := by rw [hw0]; exact obj_new (by simp)
  have HK0 := Lib.hid hk0
  have HC := Lib.hid (contains_any w0 a c l hc hm (HI.out.kept hk0) 89 #[.pointer (some ⟨w.heap.size, 0, none⟩), .pointer (some ⟨w.heap.size + 1, 0, none⟩)] (fun e => homR t (rowE t e) y) enters89 (fun W e hk he => by
    obtain ⟨i, x, rfl, hx, hxe⟩ := row_at (HL.out e he)
    rw [hxe]
    exact hidden1_any W F w.heap.size (w.heap.size + 1) v t h name all i k x y hx HY.out (HF.out.kept (hk0.trans hk)) ((cell_one_at (hk.obj b0 (by simp))).1) ((cell_one_at (hk.obj b1 (by simp))).1)))
  clear hw0 hk0 b0 b1
  go_wp2_with fail
  refine HC.out.mono ?_
  rintro e w1 ⟨rfl, hk1⟩
  have HK1 := Lib.hid (HK0.out.trans hk1)
  clear hk1 HC
  go_wp2_with fail
  go_ret
  exact ⟨rfl, HK1.out⟩
end Go.Proofs.Ytlgcboaojdhneaa
namespace Go.Proofs.Ytlgcboaojdhneaa
open Go.RowKit

/-- The test of a region: declared there, can be named, not hidden. -/
def dirB (t : Tab) (h : WhV) (r : Int) (out : List Int) (e : Int) : Bool := ((rowE t e).owner == r && namedR t h e (rowE t e)) && !hidR t out (rowE t e)

set_option maxRecDepth 100000 in
set_option maxHeartbeats 4000000 in
theorem direct1_any (w : World) (F Bf Br Bo : Nat) (v : TabV) (t : Tab) (h : WhV) (name : ByteArray) (all : List Int) (k : Nat) (x : EntV) (hx : t.ents[k]? = some x) (r : Int) (hF : FinderIn w F v t h name all)
    (hBf : w.cell? ⟨Bf, 0, none⟩ = some (.pointer (some ⟨F, 0, none⟩))) (hBr : w.cell? ⟨Br, 0, none⟩ = some (.int .i64 r))
    (a : Option Addr) (c : Nat) (out : List Int) (hBo : w.cell? ⟨Bo, 0, none⟩ = some (.slice a out.length c)) (hc : out.length ≤ c) (hm : c ≤ 9223372036854775807) (hI : IntsIn w a out) (hl : ∀ e, e ∈ out → (rowR t e).isSome = true) :
    Calls Try.prog 70 #[.int .i64 k, .pointer (some ⟨Bf, 0, none⟩), .pointer (some ⟨Br, 0, none⟩), .pointer (some ⟨Bo, 0, none⟩)] w (RetB (dirB t h r out k) w) := by
  have HF := Lib.hid hF
  have HI := Lib.hid hI
  have HL := Lib.hid hl
  have HX := Lib.hid hx
  have q1 := hF.tab.el
  have q2 := hF.tab.em
  have hxl := (List.getElem?_eq_some_iff.1 hx).1
  have hxe : rowE t k = x := by unfold rowE rowR; rw [if_neg (by omega)]; simp [hx]
  have HR : Hid (dirB t h r out k = ((x.owner == r && namedR t h k x) && !hidR t out x)) := by rw [Hid, dirB, hxe]
  obtain ⟨b, o, hea, hr⟩ := hF.tab.es.some_ hx
  have ro : w.cell? ⟨b, o + k * 22 + 2, none⟩ = some (.int .i64 x.owner) := hr k x hx 2 _ rfl
  obtain ⟨a', c', _, _, _, f0, f1, f2, f3, f4, _⟩ := hF.cells
  rw [hea] at f2
  have j3 : (0 : Int) ≤ (k : Int) := by omega
  have j4 : (k : Int) < (t.ents.length : Int) := by omega
  clear hx hF hr hea hI hl hxe f0 f1 f3 f4
  go_enter Try.func70, Try.ntmps70
  go_upto_region 1 with (fail)
  have g0 := After.cell hBf
  have g1 := After.cell hBr
  have g2 := After.cell hBo
  have g3 := After.cell f2
  have g4 := After.cell ro
  have HCN : Hid (∀ z : After w, Calls Try.prog 43 #[.pointer (some ⟨F, 0, none⟩), .int .i64 k] z.1 (RetB (namedR t h k x) z.1)) := fun z => named_any z.1 F v t h name all k x HX.out (HF.out.kept z.2)
  have HCH : Hid (∀ z : After w, Calls Try.prog 71 #[.pointer (some ⟨F, 0, none⟩), .int .i64 k, .slice a out.length c] z.1 (RetB (hidR t out x) z.1)) := fun z => hidden_any z.1 F v t h name all k x HX.out (HF.out.kept z.2) a c out hc hm (HI.out.kept z.2) HL.out
  clear hBf hBr hBo f2 ro
  cases h1 : (x.owner == r)
  · rw [h1] at HR
    refine wp_region_after (by kernel_rfl) (by kernel_rfl) ?_
    repeat (go_big_quiet_step (fail))
    refine wpQuiet_nil ?_
    rintro w' ⟨z, rfl⟩
    obtain ⟨w1, hk1⟩ := z
    go_wp2_with fail
    go_ret
    exact ⟨by rw [HR.out]; rfl, hk1⟩
  · rw [h1] at HR
    cases h2 : namedR t h k x
    · rw [h2] at HR HCN
      clear h2
      refine wp_region_after (by kernel_rfl) (by kernel_rfl) ?_
      repeat (go_big_quiet_step (exact Calls.after_b (HCN.out _)))
      refine wpQuiet_nil ?_
      rintro w' ⟨z, rfl⟩
      obtain ⟨w1, hk1⟩ := z
      go_wp2_with fail
      go_ret
      exact ⟨by rw [HR.out]; rfl, hk1⟩
    · rw [h2] at HR HCN
      clear h2
      refine wp_region_after (by kernel_rfl) (by kernel_rfl) ?_
      repeat (go_big_quiet_step (first | exact Calls.after_b (HCN.out _) | exact Calls.after_b (HCH.out _)))
      refine wpQuiet_nil ?_
      rintro w' ⟨z, rfl⟩
      obtain ⟨w1, hk1⟩ := z
      go_wp2_with fail
      go_ret
      exact ⟨by rw [HR.out]; rfl, hk1⟩
end Go.Proofs.Ytlgcboaojdhneaa
