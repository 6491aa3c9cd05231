/- arrays and small structs of numbers: when are they the same. ents: two lists of entities that are equal but for where their parameters lie. -/
import Derived.Test.YtlgcboaojdhneaaF3
import Derived.Laws.StructEq
import Derived.KernelRfl
import Derived.Test.YtlgcboaojdhneaaK7
namespace Go.Proofs.Ytlgcboaojdhneaa
open Go.RowKit
theorem tryEq41 (a b c d e f : Int) (w : World) : (Op.equalIn 10000 41 (.agg #[.int .i64 a, .int .i64 b, .int .i64 c]) (.agg #[.int .i64 d, .int .i64 e, .int .i64 f])).run Try.prog w = .ok (a == d && b == e && c == f) w := by
  have u2 := Try.underlying2
  have a2 := Try.isAgg2
  have z2 := Try.sizeOf2
  rw [show (10000 : Nat) = 9999 + 1 from rfl, Op.equalIn]
  simp only [Sem.run_bind, run_underlying Try.underlying41, Result.andThen_ok]
  simp only [Std.Legacy.Range.forIn_eq_forIn_range', Std.Legacy.Range.size, Nat.sub_zero, Nat.add_sub_cancel, Nat.div_one, List.range'_succ, List.range'_zero, List.forIn_cons, List.forIn_nil]
  go_simp
  by_cases h1 : a = d <;> by_cases h2 : b = e <;> by_cases h3 : c = f <;> simp [h1, h2, h3]
@[go_sem] theorem tryEq41s (a b c : Int) (w : World) : (Op.equalIn 10000 41 (.agg #[.int .i64 a, .int .i64 b, .int .i64 c]) (.agg #[.int .i64 a, .int .i64 b, .int .i64 c])).run Try.prog w = .ok true w := by
  rw [tryEq41]; simp
theorem tryEq64 (a b c d e f : Int) (w : World) : (Op.equalIn 10000 64 (.agg #[.int .i64 a, .int .i64 b, .int .i64 c]) (.agg #[.int .i64 d, .int .i64 e, .int .i64 f])).run Try.prog w = .ok (a == d && b == e && c == f) w := by
  have u2 := Try.underlying2
  have a2 := Try.isAgg2
  have z2 := Try.sizeOf2
  have u3 := Try.underlying3
  have a3 := Try.isAgg3
  have z3 := Try.sizeOf3
  have hS : Try.prog.underlying 64 = some (.struct (Try.prog.fieldsOf 64)) := by kernel_rfl
  rw [show (10000 : Nat) = 9999 + 1 from rfl, run_equalIn_agg w 9999 64 _ _ hS (by kernel_rfl)]
  simp only [Program.fieldsOf, Try.underlying64]
  go_simp
  by_cases h1 : a = d <;> by_cases h2 : b = e <;> by_cases h3 : c = f <;> simp [h1, h2, h3]
@[go_sem] theorem tryEq64s (a b c : Int) (w : World) : (Op.equalIn 10000 64 (.agg #[.int .i64 a, .int .i64 b, .int .i64 c]) (.agg #[.int .i64 a, .int .i64 b, .int .i64 c])).run Try.prog w = .ok true w := by
  rw [tryEq64]; simp
end Go.Proofs.Ytlgcboaojdhneaa
namespace Go.Proofs.Ytlgcboaojdhneaa
open Go.RowKit

/-- The same entity, its parameters elsewhere. -/
def rePar (x : EntV) (pa : Option Addr) (pc : Nat) : EntV := { x with pa := pa, pc := pc }
def ReEnts (xs ys : List EntV) : Prop := xs.length = ys.length ∧ ∀ (k : Nat) (x y : EntV), xs[k]? = some x → ys[k]? = some y → ∃ pa pc, y = rePar x pa pc
theorem ReEnts.refl (xs : List EntV) : ReEnts xs xs := ⟨rfl, fun k x y hx hy => by rw [hx] at hy; cases hy; exact ⟨x.pa, x.pc, rfl⟩⟩
theorem ent_cells {W : World} {B : Nat} {x : EntV} (h : W.heap[B]? = some (.cells x.cells.toArray 43 (0, 0))) : W.cell? ⟨B, 0, none⟩ = some (.int .u8 x.kind) ∧ W.cell? ⟨B, 1, none⟩ = some (.string x.name) ∧ W.cell? ⟨B, 2, none⟩ = some (.int .i64 x.owner) ∧ W.cell? ⟨B, 3, none⟩ = some (.int .u8 x.part) ∧ W.cell? ⟨B, 4, none⟩ = some (.int .i64 x.t) ∧ W.cell? ⟨B, 5, none⟩ = some (.int .i64 x.sub) ∧ W.cell? ⟨B, 6, none⟩ = some (.slice x.pa x.params.length x.pc) ∧ W.cell? ⟨B, 7, none⟩ = some (.int .i64 x.of_) ∧ W.cell? ⟨B, 8, none⟩ = some (.bool x.ren) ∧ W.cell? ⟨B, 9, none⟩ = some (.int .i64 x.level) ∧ W.cell? ⟨B, 10, none⟩ = some (.int .i64 x.value) ∧ W.cell? ⟨B, 11, none⟩ = some (.bool x.static) ∧ W.cell? ⟨B, 12, none⟩ = some (.bool x.aliased) ∧ W.cell? ⟨B, 13, none⟩ = some (.int .u8 x.mode) ∧ W.cell? ⟨B, 14, none⟩ = some (.int .i64 x.a0) ∧ W.cell? ⟨B, 15, none⟩ = some (.int .i64 x.a1) ∧ W.cell? ⟨B, 16, none⟩ = some (.int .i64 x.a2) ∧ W.cell? ⟨B, 17, none⟩ = some (.bool x.generic) ∧ W.cell? ⟨B, 18, none⟩ = some (.bool x.body) ∧ W.cell? ⟨B, 19, none⟩ = some (.int .i64 x.final) ∧ W.cell? ⟨B, 20, none⟩ = some (.int .i64 x.unit) ∧ W.cell? ⟨B, 21, none⟩ = some (.int .i64 x.line) :=
  have c : ∀ j, W.cell? ⟨B, j, none⟩ = x.cells.toArray[j]? := fun j => cell_of_row _ _ _ _ _ _ h
  ⟨c 0, c 1, c 2, c 3, c 4, c 5, c 6, c 7, c 8, c 9, c 10, c 11, c 12, c 13, c 14, c 15, c 16, c 17, c 18, c 19, c 20, c 21⟩
theorem rePar_cells {W : World} {B : Nat} {x : EntV} {pa : Option Addr} {pc : Nat} (h : W.heap[B]? = some (.cells (rePar x pa pc).cells.toArray 43 (0, 0))) : W.cell? ⟨B, 0, none⟩ = some (.int .u8 x.kind) ∧ W.cell? ⟨B, 1, none⟩ = some (.string x.name) ∧ W.cell? ⟨B, 2, none⟩ = some (.int .i64 x.owner) ∧ W.cell? ⟨B, 3, none⟩ = some (.int .u8 x.part) ∧ W.cell? ⟨B, 4, none⟩ = some (.int .i64 x.t) ∧ W.cell? ⟨B, 5, none⟩ = some (.int .i64 x.sub) ∧ W.cell? ⟨B, 6, none⟩ = some (.slice pa x.params.length pc) ∧ W.cell? ⟨B, 7, none⟩ = some (.int .i64 x.of_) ∧ W.cell? ⟨B, 8, none⟩ = some (.bool x.ren) ∧ W.cell? ⟨B, 9, none⟩ = some (.int .i64 x.level) ∧ W.cell? ⟨B, 10, none⟩ = some (.int .i64 x.value) ∧ W.cell? ⟨B, 11, none⟩ = some (.bool x.static) ∧ W.cell? ⟨B, 12, none⟩ = some (.bool x.aliased) ∧ W.cell? ⟨B, 13, none⟩ = some (.int .u8 x.mode) ∧ W.cell? ⟨B, 14, none⟩ = some (.int .i64 x.a0) ∧ W.cell? ⟨B, 15, none⟩ = some (.int .i64 x.a1) ∧ W.cell? ⟨B, 16, none⟩ = some (.int .i64 x.a2) ∧ W.cell? ⟨B, 17, none⟩ = some (.bool x.generic) ∧ W.cell? ⟨B, 18, none⟩ = some (.bool x.body) ∧ W.cell? ⟨B, 19, none⟩ = some (.int .i64 x.final) ∧ W.cell? ⟨B, 20, none⟩ = some (.int .i64 x.unit) ∧ W.cell? ⟨B, 21, none⟩ = some (.int .i64 x.line) :=
  have c : ∀ j, W.cell? ⟨B, j, none⟩ = (rePar x pa pc).cells.toArray[j]? := fun j => cell_of_row _ _ _ _ _ _ h
  ⟨c 0, c 1, c 2, c 3, c 4, c 5, c 6, c 7, c 8, c 9, c 10, c 11, c 12, c 13, c 14, c 15, c 16, c 17, c 18, c 19, c 20, c 21⟩

set_option maxRecDepth 100000 in
set_option maxHeartbeats 4000000 in
theorem ents_any (w : World) (a b : Option Addr) (c d : Nat) (xs ys : List EntV) (hr : ReEnts xs ys) (hc : xs.length ≤ c) (hm : c ≤ 9223372036854775807) (hI : RowsAt EntV 22 EntV.cells w a xs) (hc' : ys.length ≤ d) (hm' : d ≤ 9223372036854775807) (hI' : RowsAt EntV 22 EntV.cells w b ys)
    (hx : ∀ x, x ∈ xs → EntIn w x) (hy : ∀ y, y ∈ ys → EntIn w y) :
    Calls Try.prog 29 #[.slice a xs.length c, .slice b ys.length d] w (RetB true w) := by
  have HRE := Lib.hid hr
  have HCA := Lib.hid hI
  have HCB := Lib.hid hI'
  have HXS := Lib.hid hx
  have HYS := Lib.hid hy
  have HLL := Lib.hid hr.1
  have hlb : ((xs.length : Int) != (ys.length : Int)) = false := by simp [hr.1]
  clear hI hI' hx hy hr
  go_enter Try.func29, Try.ntmps29
  go_wp2_with fail
  go_loopw [15] (fun i wr => ∃ k : Nat, k ≤ xs.length ∧ i = .int .i64 k ∧ Kept [] w wr) (fun i _ => xs.length - (intOf i).toNat)
  case atStart => exact ⟨0, Nat.zero_le _, rfl, Kept.refl _ _⟩
  case round =>
    obtain ⟨k, hk, rfl, hkr⟩ := hrel
    have HKR := Lib.hid hkr
    clear hkr
    obtain ⟨wo, rfl⟩ : ∃ wo : World, wo = wr := ⟨_, rfl⟩
    by_cases hlt : k < xs.length
    · obtain ⟨x, hx⟩ : ∃ x, xs[k]? = some x := ⟨_, List.getElem?_eq_getElem hlt⟩
      have hlt2 : k < ys.length := by have := HLL.out; omega
      obtain ⟨y, hy⟩ : ∃ y, ys[k]? = some y := ⟨_, List.getElem?_eq_getElem hlt2⟩
      obtain ⟨pa, pc, rfl⟩ := HRE.out.2 k x y hx hy
      have HX := Lib.hid (HXS.out x (List.mem_of_getElem? hx))
      have HY := Lib.hid (HYS.out _ (List.mem_of_getElem? hy))
      rcases HCA.out with hn | ⟨b1, o1, rfl, hc1⟩
      · rw [hn] at hlt; simp at hlt
      rcases HCB.out with hn | ⟨b2, o2, rfl, hc2⟩
      · rw [hn] at hlt2; simp at hlt2
      haveI ia : EntAt wo b1 (o1 + k * 22) x := ⟨fun j u hu => HKR.out.cell (hc1 k x hx j u hu) (by simp)⟩
      haveI ib : EntAt wo b2 (o2 + k * 22) (rePar x pa pc) := ⟨fun j u hu => HKR.out.cell (hc2 k _ hy j u hu) (by simp)⟩
      clear hx hy hc1 hc2
      go_upto_region 6 with (fail)
      go_cut [6, 7] (fun v6 v7 wc => ∃ X Y : Nat, v6 = .pointer (some ⟨X, 0, none⟩) ∧ v7 = .pointer (some ⟨Y, 0, none⟩) ∧ wc.heap[X]? = some (.cells x.cells.toArray 43 (0, 0)) ∧ wc.heap[Y]? = some (.cells (rePar x pa pc).cells.toArray 43 (0, 0)) ∧ Kept [] wo wc)
      case first =>
        go_region
        all_goals
          go_wp2_with fail
          go_meet
          first
            | exact ⟨_, _, rfl, rfl, (obj_old (obj_new rfl) (by simp) : (World.drew _).heap[_]? = _), (obj_new (by simp) : (World.drew _).heap[_]? = _), ((Kept.alloc _ _ _).trans (Kept.alloc _ _ _)).trans (Kept.drew _ _)⟩
            | exact ⟨_, _, rfl, rfl, (obj_new (by simp) : (World.drew _).heap[_]? = _), (obj_old (obj_new rfl) (by simp) : (World.drew _).heap[_]? = _), ((Kept.alloc _ _ _).trans (Kept.alloc _ _ _)).trans (Kept.drew _ _)⟩
      case rest =>
        obtain ⟨X, Y, rfl, rfl, hX, hY, hkw⟩ := hcut
        obtain ⟨wj, rfl⟩ : ∃ wj : World, wj = wc := ⟨_, rfl⟩
        have HKJ : Hid (Kept [] w wj) := HKR.out.trans hkw
        have HXB := Lib.hid hX
        have HYB := Lib.hid hY
        clear hX hY hkw ia ib
        obtain ⟨x0, x1, x2, x3, x4, x5, x6, x7, x8, x9, x10, x11, x12, x13, x14, x15, x16, x17, x18, x19, x20, x21⟩ := ent_cells HXB.out
        obtain ⟨y0, y1, y2, y3, y4, y5, y6, y7, y8, y9, y10, y11, y12, y13, y14, y15, y16, y17, y18, y19, y20, y21⟩ := rePar_cells HYB.out
        have HC := Lib.hid (params_any wj x.pa pa x.pc pc x.params HX.out.ok.p1 HX.out.ok.p2 (HX.out.ps.kept HKJ.out) HY.out.ok.p1 HY.out.ok.p2 (HY.out.ps.kept HKJ.out))
        go_wp2_with (go_at_call 59
                     refine HC.out.mono ?_
                     rintro e w1 ⟨rfl, hk1⟩
                     have HK1 := Lib.hid (HKJ.out.trans hk1)
                     have HBa := Lib.hid (hk1.obj HXB.out (by simp))
                     have HBb := Lib.hid (hk1.obj HYB.out (by simp))
                     clear hk1 x0 x1 x2 x3 x4 x5 x6 x7 x8 x9 x10 x11 x12 x13 x14 x15 x16 x17 x18 x19 x20 x21 y0 y1 y2 y3 y4 y5 y6 y7 y8 y9 y10 y11 y12 y13 y14 y15 y16 y17 y18 y19 y20 y21
                     obtain ⟨x0, x1, x2, x3, x4, x5, x6, x7, x8, x9, x10, x11, x12, x13, x14, x15, x16, x17, x18, x19, x20, x21⟩ := ent_cells HBa.out
                     obtain ⟨y0, y1, y2, y3, y4, y5, y6, y7, y8, y9, y10, y11, y12, y13, y14, y15, y16, y17, y18, y19, y20, y21⟩ := rePar_cells HBb.out)
        go_roundw
        case rel => exact ⟨k + 1, by omega, by go_num, HK1.out⟩
        case measure => simp [intOf]; omega
    · go_wp2_with fail
      go_ret
      exact ⟨rfl, HKR.out⟩
end Go.Proofs.Ytlgcboaojdhneaa
