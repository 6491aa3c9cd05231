/- same: two tables that are equal but for where their lists lie. same: two tables that are equal but for where their lists lie (the walk). The reference's Add (27): its errors. -/
import Derived.Test.YtlgcboaojdhneaaF5a
import Derived.Test.YtlgcboaojdhneaaA7
import Derived.Test.YtlgcboaojdhneaaC4
import Derived.Test.YtlgcboaojdhneaaP2
namespace Go.Proofs.Ytlgcboaojdhneaa
open Go.RowKit

def ReTys (xs ys : List TyV) : Prop := xs.length = ys.length ∧ ∀ (k : Nat) (x y : TyV), xs[k]? = some x → ys[k]? = some y → ∃ la lc, y = reLit x la lc
theorem ReTys.refl (xs : List TyV) : ReTys xs xs := ⟨rfl, fun k x y hx hy => by rw [hx] at hy; cases hy; exact ⟨x.la, x.lc, rfl⟩⟩
/-- Types with all that they read. -/
structure TysIn (w : World) (v : TabV) (t : Tab) : Prop where
  ts : RowsAt TyV 18 TyV.cells w v.ta t.types
  tl : t.types.length ≤ v.tc
  tm : v.tc ≤ 9223372036854775807
  ti : ∀ x, x ∈ t.types → TyIn w x
theorem TysIn.kept {w w' : World} {v : TabV} {t : Tab} (h : TysIn w v t) (hk : Kept [] w w') : TysIn w' v t := ⟨h.ts.kept hk, h.tl, h.tm, fun x hx => (h.ti x hx).kept hk⟩

/-- A range of a type lies at an address. -/
class SubAt (w : World) (b o : Nat) (x : outParam SubtV) : Prop where
  range : w.rangeAt b o x.cells
instance (w : World) (b o : Nat) (x : SubtV) (ob : Obj) [h : SubAt w b o x] : SubAt (w.alloc ob) b o x := ⟨World.rangeAt_alloc h.range ob⟩
instance (w : World) (b o : Nat) (x : SubtV) [h : SubAt w b o x] : SubAt w.drew b o x := ⟨by simpa using h.range⟩
theorem Try.info64 (x : SubtV) : (Try.prog.info? 64).map (·.size) = some x.cells.length := by
  show _ = some 3
  kernel_rfl
def load64 (v : Value) : Sem Next := do return .value (← Instr.loadAt 64 v)
@[go_sem ↓] theorem execOp_load64 (ρ : Operand → Value) (dst : Option Tmp) (x : Operand) (ty : TypeId) (pos : String) (after : Array Edge) (guard : Option (Nat × Bool)) :
    execOp ρ { dst, op := .load 64 x, type := ty, pos, after, guard } = load64 (ρ x) := rfl
@[go_sem] theorem run_load64 (w : World) (b o : Nat) (x : SubtV) [h : SubAt w b o x] : Sem.run Try.prog (load64 (.pointer (some ⟨b, o, none⟩))) w = .ok (.value (.agg x.cells.toArray)) w := by
  simp only [load64, Instr.loadAt, Instr.sureAddr, Sem.run_bind, Sem.run_pure, Result.andThen_ok, run_loadVar_mid w b o 64 x.cells _ h.range Try.underlying64 rfl (Try.info64 x)]
@[go_sem ↓ 2000] theorem tryEq64x (x : SubtV) (w : World) : (Op.equalIn 10000 64 (.agg x.cells.toArray) (.agg x.cells.toArray)).run Try.prog w = .ok true w := tryEq64s _ _ _ w
end Go.Proofs.Ytlgcboaojdhneaa
namespace Go.Proofs.Ytlgcboaojdhneaa
open Go.RowKit
set_option maxRecDepth 100000 in
set_option maxHeartbeats 4000000 in
theorem sameTab_any (w : World) (v u : TabV) (t s : Tab) (hT : TabIn w v t) (hU : TabIn w u s) (hA : TysIn w v t) (hB : TysIn w u s) (ht : ReTys t.types s.types) (hs : s.subs = t.subs) (he : ReEnts t.ents s.ents)
    (hx : ∀ x, x ∈ t.ents → EntIn w x) (hy : ∀ y, y ∈ s.ents → EntIn w y) (hg : u.gn = v.gn) (hi : u.im = v.im) :
    Calls Try.prog 28 #[.agg (v.cells t), .agg (u.cells s)] w (RetB true w) := by
  have HT := Lib.hid hT
  have HU := Lib.hid hU
  have HA := Lib.hid hA
  have HB := Lib.hid hB
  have HTY := Lib.hid ht
  have HTL := Lib.hid ht.1
  have HSS := Lib.hid hs
  have HE := Lib.hid he
  have HEX := Lib.hid hx
  have HEY := Lib.hid hy
  have HG := Lib.hid hg
  have HI := Lib.hid hi
  have hl1 : ((t.types.length : Int) != (s.types.length : Int)) = false := by simp [ht.1]
  have hl2 : ((t.subs.length : Int) != (s.subs.length : Int)) = false := by simp [hs]
  have hm1 : t.types.length ≤ 9223372036854775807 := Nat.le_trans hA.tl hA.tm
  have hm2 : t.subs.length ≤ 9223372036854775807 := Nat.le_trans hT.sl hT.sm
  clear hT hU hA hB ht hs he hx hy hg hi
  go_enter Try.func28, Try.ntmps28
  go_upto_region 1 with (fail)
  refine wp_gen' ?_
  intro w0 hw0
  have HK0 : Hid (Kept [] w w0) := by rw [Hid, hw0]; exact (Kept.alloc _ _ _).trans (Kept.alloc _ _ _)
  have HV : Hid (TabBox w0 w.heap.size v t) := ⟨by rw [hw0]; exact obj_old (obj_new rfl) (by simp), HT.out.kept HK0.out⟩
  have HW : Hid (TabBox w0 (w.heap.size + 1) u s) := ⟨by rw [hw0]; exact obj_new (by simp), HU.out.kept HK0.out⟩
  generalize w.heap.size = X at *
  obtain ⟨Y, hY⟩ : ∃ Y, Y = X + 1 := ⟨_, rfl⟩
  rw [← hY] at HW
  try rw [← hY]
  clear hw0 hY
  obtain ⟨v0, v1, v2, v3, v4⟩ := HV.out.cells
  obtain ⟨u0, u1, u2, u3, u4⟩ := HW.out.cells
  go_wp2_with fail
  clear v0 v1 v2 v3 v4 u0 u1 u2 u3 u4
  go_loopw [26] (fun i wr => ∃ k : Nat, k ≤ t.types.length ∧ i = .int .i64 k ∧ Kept [] w0 wr) (fun i _ => t.types.length - (intOf i).toNat)
  case atStart => exact ⟨0, Nat.zero_le _, rfl, Kept.refl _ _⟩
  case round =>
    obtain ⟨k, hk, rfl, hkr⟩ := hrel
    have HKR := Lib.hid hkr
    clear hkr
    obtain ⟨wo, rfl⟩ : ∃ wo : World, wo = wr := ⟨_, rfl⟩
    have HKW := Lib.hid (HK0.out.trans HKR.out)
    obtain ⟨v0, v1, v2, v3, v4⟩ := (HV.out.kept HKR.out).cells
    obtain ⟨u0, u1, u2, u3, u4⟩ := (HW.out.kept HKR.out).cells
    by_cases hlt : k < t.types.length
    · obtain ⟨x, hx⟩ : ∃ x, t.types[k]? = some x := ⟨_, List.getElem?_eq_getElem hlt⟩
      have hlt2 : k < s.types.length := by have := HTL.out; omega
      obtain ⟨y, hy⟩ : ∃ y, s.types[k]? = some y := ⟨_, List.getElem?_eq_getElem hlt2⟩
      have HX := Lib.hid ((HA.out.ti x (List.mem_of_getElem? hx)).kept HKW.out)
      have HY := Lib.hid ((HB.out.ti y (List.mem_of_getElem? hy)).kept HKW.out)
      obtain ⟨la, lc, rfl⟩ := HTY.out.2 k x y hx hy
      obtain ⟨b1, o1, e1, r1⟩ := (HA.out.ts.kept HKW.out).some_ hx
      obtain ⟨b2, o2, e2, r2⟩ := (HB.out.ts.kept HKW.out).some_ hy
      haveI : TyAt wo b1 (o1 + k * 18) x := ⟨r1 k x hx⟩
      haveI : TyAt wo b2 (o2 + k * 18) (reLit x la lc) := ⟨r2 k _ hy⟩
      rw [e1] at v0
      rw [e2] at u0
      clear hx hy r1 r2 e1 e2
      have HC : Hid (∀ W, Kept [] wo W → Calls Try.prog 58 #[.agg x.cells.toArray, .agg (reLit x la lc).cells.toArray] W (RetB true W)) := fun W hk => sameTy_any W x la lc (HX.out.kept hk) (HY.out.kept hk).ls HY.out.l1 HY.out.l2
      go_upto_region 6 with (fail)
      go_cut [40] (fun c wc => c = .bool false ∧ Kept [] wo wc)
      case first =>
        go_region_with (go_at_call 58
                        refine (HC.out _ ?_).mono ?_
                        · first
                            | exact Kept.drew _ _
                            | exact Kept.refl _ _
                        rintro e wa ⟨rfl, hka⟩
                        have HKA : Hid (Kept [] wo wa) := by first | exact (Kept.drew _ _).trans hka | exact hka
                        clear hka)
        all_goals
          go_wp2_with fail
          go_meet
          first
            | exact ⟨rfl, HKA.out.trans (Kept.drew _ _)⟩
            | exact ⟨rfl, HKA.out⟩
      case rest =>
        obtain ⟨rfl, hkc⟩ := hcut
        have HKC := Lib.hid (HKR.out.trans hkc)
        clear hkc
        go_wp2_with fail
        go_roundw
        case rel => exact ⟨k + 1, by omega, by go_num, HKC.out⟩
        case measure => simp [intOf]; omega
    · go_wp2_with fail
      clear v0 v1 v2 v3 v4 u0 u1 u2 u3 u4
      go_loopw [45] (fun i wr => ∃ k : Nat, k ≤ t.subs.length ∧ i = .int .i64 k ∧ Kept [] w0 wr) (fun i _ => t.subs.length - (intOf i).toNat)
      case atStart => exact ⟨0, Nat.zero_le _, rfl, HKR.out⟩
      case round =>
        obtain ⟨k, hk, rfl, hkr⟩ := hrel
        have HKR := Lib.hid hkr
        clear hkr
        obtain ⟨wo, rfl⟩ : ∃ wo : World, wo = wr := ⟨_, rfl⟩
        have HKW := Lib.hid (HK0.out.trans HKR.out)
        obtain ⟨v0, v1, v2, v3, v4⟩ := (HV.out.kept HKR.out).cells
        obtain ⟨u0, u1, u2, u3, u4⟩ := (HW.out.kept HKR.out).cells
        rw [HSS.out] at u1
        by_cases hlt : k < t.subs.length
        · obtain ⟨x, hx⟩ : ∃ x, t.subs[k]? = some x := ⟨_, List.getElem?_eq_getElem hlt⟩
          obtain ⟨b1, o1, e1, r1⟩ := (HT.out.ss.kept HKW.out).some_ hx
          have HS2 := (HU.out.ss.kept HKW.out)
          rw [HSS.out] at HS2
          obtain ⟨b2, o2, e2, r2⟩ := HS2.some_ hx
          haveI : SubAt wo b1 (o1 + k * 3) x := ⟨r1 k x hx⟩
          haveI : SubAt wo b2 (o2 + k * 3) x := ⟨r2 k x hx⟩
          rw [e1] at v1
          rw [e2] at u1
          clear hx r1 r2 HS2 e1 e2
          go_upto_region 12 with (fail)
          go_cut [58] (fun c wc => c = .bool false ∧ Kept [] wo wc)
          case first =>
            go_region
            all_goals
              go_wp2_with fail
              go_meet
              exact ⟨rfl, Kept.drew _ _⟩
          case rest =>
            obtain ⟨rfl, hkc⟩ := hcut
            have HKC := Lib.hid (HKR.out.trans hkc)
            clear hkc
            go_wp2_with fail
            go_roundw
            case rel => exact ⟨k + 1, by omega, by go_num, HKC.out⟩
            case measure => simp [intOf]; omega
        · have HC := Lib.hid (ents_any wo v.ea u.ea v.ec u.ec t.ents s.ents HE.out HT.out.el HT.out.em (HT.out.es.kept HKW.out) HU.out.el HU.out.em (HU.out.es.kept HKW.out) (fun x hx => (HEX.out x hx).kept HKW.out) (fun x hx => (HEY.out x hx).kept HKW.out))
          rw [HG.out] at u3
          rw [HI.out] at u4
          go_wp2_with (go_at_call 29
                       refine HC.out.mono ?_
                       rintro e w1 ⟨rfl, hk1⟩
                       have HK1 := Lib.hid (HKW.out.trans hk1)
                       have HKV := Lib.hid (HKR.out.trans hk1)
                       clear hk1 v0 v1 v2 v3 v4 u0 u1 u2 u3 u4
                       obtain ⟨v0, v1, v2, v3, v4⟩ := (HV.out.kept HKV.out).cells
                       obtain ⟨u0, u1, u2, u3, u4⟩ := (HW.out.kept HKV.out).cells
                       rw [HG.out] at u3
                       rw [HI.out] at u4)
          go_ret
          exact ⟨rfl, HK1.out⟩
end Go.Proofs.Ytlgcboaojdhneaa
namespace Go.Proofs.Ytlgcboaojdhneaa
open Go.RowKit
/-- Does the entity y stand in the way of x? -/
def hitB (t : Tab) (x y : EntV) : Bool := !x.name.toList.isEmpty && ((y.owner == x.owner) && homR t y x)
theorem twice_hit (t : Tab) (x : EntV) : twiceB t x = t.ents.any (hitB t x) := by
  unfold twiceB hitB addB
  cases h : x.name.toList.isEmpty
  · simp only [Bool.not_false, Bool.true_and]
    congr 1
    funext y
    rw [homR_symm]
  · simp
theorem twice_of {t : Tab} {x y : EntV} {k : Nat} (h : t.ents[k]? = some y) (hh : hitB t x y = true) : twiceB t x = true := by
  rw [twice_hit, List.any_eq_true]
  exact ⟨y, List.mem_of_getElem? h, hh⟩
theorem twice_no {t : Tab} {x : EntV} (h : ∀ (j : Nat) (y : EntV), j < t.ents.length → t.ents[j]? = some y → hitB t x y = false) : twiceB t x = false := by
  rw [twice_hit, List.any_eq_false]
  intro y hy
  obtain ⟨j, hj, rfl⟩ := List.mem_iff_getElem.1 hy
  simp [h j _ hj (List.getElem?_eq_getElem hj)]
end Go.Proofs.Ytlgcboaojdhneaa
