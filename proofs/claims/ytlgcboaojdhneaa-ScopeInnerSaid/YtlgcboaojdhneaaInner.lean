/- ScopeInner: for every table and every place and every entity and every string the law returns true, and its arguments read afterwards as before. -/
import Derived.Test.YtlgcboaojdhneaaO1
import Derived.Test.YtlgcboaojdhneaaW8
import Derived.Test.YtlgcboaojdhneaaRows
import Derived.WalkKit
import Derived.ProofKit
import Derived.OpenShut
import Derived.ChangeOld
import Derived.SizedLaws
import Derived.Below
namespace Go.Proofs.Ytlgcboaojdhneaa
open Go.ChangeShapes Go.WideShapes Go.ChangeAt Go.RowKit

theorem scopeinner_own : ownKnob Try.prog.godebug = none := by kernel_rfl
theorem scopeinner_laidOut : laidOutB Try.prog = true := by kernel_rfl

set_option maxRecDepth 100000 in
theorem scopeinner_lifted (os : Os) (started : os.Started) (H : Type) (enc : TypeId × Value → H) :
    ReturnsInHanded {} Try.checked os 8 .any (Rows.scopeInnerSpec.pre6 enc Try.prog Try.f8 Rows.scopeInnerRow.domain false) (Rows.scopeInnerSpec.post enc Try.prog Try.f8 false true false false) := by
  refine returnsInHanded_of_change_sized (C := Try.checked) scopeinner_own started (by kernel_rfl) Try.func8
    (ChangeSpec.witness6 (enc := enc) (C := Try.checked) false ⟨#[], #[.agg #[.slice none 0 0, .slice none 0 0, .slice none 0 0, .slice none 0 0, .slice none 0 0], .agg #[.int .i64 0, .int .i64 0, .slice none 0 0, .slice none 0 0], .agg zeroE.cells.toArray, .string ⟨#[]⟩], []⟩ 8 (by kernel_rfl) (by kernel_rfl) (by kernel_rfl) (by kernel_rfl)) ?_
  intro W base args ds gs before hval0 hW hcnd hsz0 _
  have hval : ∀ (j : Nat) t v, Try.f8.params[j]? = some t → args[j]? = some v → Value.okWide Try.prog W .any base t v := hval0
  have hW' := hW
  obtain ⟨p, q, hA0, hV, rfl, hfz, hnd⟩ := hW
  have hA : DataW.TrodAll enc Try.prog W 0 (fun _ => true) true Try.f8.params.toList args.toList ds p := hA0
  have hsz : (DataW.weightsEach Try.prog (Try.f8.params.toList ++ Rows.scopeInnerSpec.plain.varTypes Try.prog) (ds ++ gs)).all (· ≤ reachBytes) = true := hsz0
  rw [Try.params8] at hA hval hsz
  obtain ⟨v0, vs0, d0, ds0, p0, q0, hargs, rfl, rfl, h0, r0⟩ := trodAll_cons hA
  obtain ⟨v1, vs1, d1, ds1, p1, q1, rfl, rfl, rfl, h1, r1⟩ := trodAll_cons r0
  obtain ⟨v2, vs2, d2, ds2, p2, q2, rfl, rfl, rfl, h2, r2⟩ := trodAll_cons r1
  obtain ⟨v3, vs3, d3, ds3, p3, q3, rfl, rfl, rfl, h3, r3⟩ := trodAll_cons r2
  obtain ⟨rfl, rfl, rfl⟩ := trodAll_nil r3
  obtain rfl : args = #[v0, v1, v2, v3] := by cases args; simp_all
  obtain ⟨rfl, rfl⟩ := trodVars_none hV
  have k0 := h0
  have lt0 : ∀ x ∈ p0, x.block < W.heap.size := by obtain ⟨m, hm⟩ := k0; exact DataW.trod_lt m _ _ _ hm
  have k1 := h1
  have lt1 : ∀ x ∈ p1, x.block < W.heap.size := by obtain ⟨m, hm⟩ := k1; exact DataW.trod_lt m _ _ _ hm
  have k2 := h2
  have lt2 : ∀ x ∈ p2, x.block < W.heap.size := by obtain ⟨m, hm⟩ := k2; exact DataW.trod_lt m _ _ _ hm
  have k3 := h3
  have lt3 : ∀ x ∈ p3, x.block < W.heap.size := by obtain ⟨m, hm⟩ := k3; exact DataW.trod_lt m _ _ _ hm
  obtain ⟨m0, g0⟩ := h0
  obtain ⟨cs0, rfl, hsz0⟩ := okWide_struct Try.underlying28 (hval 0 28 v0 rfl rfl)
  have hc0 : (Value.agg cs0).cells.toList = cs0.toList := by simp [Value.cells]
  rw [hc0] at g0
  obtain ⟨tv0, tt0, e0, ht0, hy0, hw0⟩ := tab_open g0 (SzD.arg hsz (j := 0) rfl rfl)
  obtain rfl : cs0 = tv0.cells tt0 := Array.toList_inj.1 e0
  obtain ⟨m1, g1⟩ := h1
  obtain ⟨cs1, rfl, hsz1⟩ := okWide_struct Try.underlying31 (hval 1 31 v1 rfl rfl)
  have hc1 : (Value.agg cs1).cells.toList = cs1.toList := by simp [Value.cells]
  rw [hc1] at g1
  obtain ⟨wh1, e1, hh1, hu1, hs1, hr1, ha1⟩ := where_open g1 (SzD.arg hsz (j := 1) rfl rfl)
  obtain rfl : cs1 = wh1.cells.toArray := Array.toList_inj.1 (by simpa using e1)
  obtain ⟨m2, g2⟩ := h2
  obtain ⟨cs2, rfl, hsz2⟩ := okWide_struct Try.underlying43 (hval 2 43 v2 rfl rfl)
  have hc2 : (Value.agg cs2).cells.toList = cs2.toList := by simp [Value.cells]
  rw [hc2] at g2
  obtain ⟨en2, e2, hp2, ho2, hw2⟩ := ent_open g2 (SzD.arg hsz (j := 2) rfl rfl)
  obtain rfl : cs2 = en2.cells.toArray := Array.toList_inj.1 (by simpa using e2)
  obtain ⟨a3, rfl, hsl3⟩ : ∃ s : ByteArray, v3 = .string s ∧ s.size ≤ 140737488355328 := str_open h3 (SzD.arg hsz (j := 3) rfl rfl) (hval 3 9 v3 rfl rfl)
  clear hA0 hval0
  refine (inner_any W tv0 tt0 wh1 en2 a3 ht0 hy0 hw0 hh1 hu1 hs1 hr1 ⟨hp2, ho2⟩).mono fun e W' ⟨he, hk⟩ => ?_
  subst he
  have bel : Below W.heap.size W W' := hk.toBelow (Nat.le_refl _) (by simp)
  exact ⟨_, rfl, _, _, _, [], _, [], hW', trodAll_mk1 (shut_bool Try.underlying4 _), (trodAll_cons_mk (Below.trod scopeinner_laidOut (by kernel_rfl) (of_decide_eq_true (by kernel_rfl)) k0 bel lt0) (trodAll_cons_mk (Below.trod scopeinner_laidOut (by kernel_rfl) (of_decide_eq_true (by kernel_rfl)) k1 bel lt1) (trodAll_cons_mk (Below.trod scopeinner_laidOut (by kernel_rfl) (of_decide_eq_true (by kernel_rfl)) k2 bel lt2) (trodAll_cons_mk (Below.trod scopeinner_laidOut (by kernel_rfl) (of_decide_eq_true (by kernel_rfl)) k3 bel lt3) trodAll_mk0)))), rfl, bel.frame _, fun h => by cases h⟩

theorem scopeinner_over : Rows.scopeInnerRow.holds Try.pinned (OpenSpec.ofChange Rows.scopeInnerSpec) :=
  OpenClaim.holds_of_wide 8 Try.f8 rfl rfl rfl rfl rfl rfl rfl ⟨rfl, rfl, rfl, rfl, rfl⟩ rfl rfl rfl rfl rfl (by kernel_rfl) Try.func8 (by kernel_rfl)
    (of_decide_eq_true (by kernel_rfl)) (by unfold Func.isWrapper; first | (rw [if_pos (by decide +kernel)]; kernel_rfl) | (rw [if_neg (by decide +kernel)]; exact ⟨rfl, rfl⟩))
    (fun os started H enc _ => scopeinner_lifted os started H enc)

theorem scopeinner_holds : Rows.ScopeInnerSaid := scopeinner_over
#print axioms scopeinner_holds
end Go.Proofs.Ytlgcboaojdhneaa
