/- raw of an attribute. -/
import Derived.Test.YtgdjhhfbpalkdaaV8
namespace Go.Proofs.Ytgdjhhfbpalkdaa
open Go.RowKit
def SubsB (t : Tab) : Prop := ∀ s, s ∈ t.subs → (-9223372036854775808 ≤ s.lo ∧ s.lo ≤ 9223372036854775807) ∧ (-9223372036854775808 ≤ s.hi ∧ s.hi ≤ 9223372036854775807)
def In64 (b : Bd) : Prop := (-9223372036854775808 ≤ b.1 ∧ b.1 ≤ 9223372036854775807) ∧ (-9223372036854775808 ≤ b.2 ∧ b.2 ≤ 9223372036854775807)
theorem range_64 {t : Tab} (hs : SubsB t) {n : Int} {b : Bd} (h : rangeP t n = some b) : In64 b := by
  unfold rangeP at h
  split at h
  · rename_i hk
    cases h
    have : t.subs.getD n.toNat default ∈ t.subs := by
      unfold kindP tyP at hk
      by_cases hc : n < 0 ∨ (t.subs.length : Int) ≤ n
      · rw [if_pos hc] at hk; simp at hk
      · have hlt : n.toNat < t.subs.length := by omega
        simp [List.getD_eq_getElem?_getD, hlt]
    exact hs _ this
  · cases h
theorem plain_64 {t : Tab} (hs : SubsB t) {n : Int} {b a : Bd} (h : plainP t n = some (b, a)) : In64 b := by
  unfold plainP at h
  split at h
  · cases h
  · rename_i c hc
    split at h
    · cases h
    · cases h
      exact range_64 hs hc
theorem mark_64 {t : Tab} (hs : SubsB t) {x : ExV} {b a : Bd} (h : markP t x = some (b, a)) : In64 b := by
  unfold markP at h
  split at h
  · exact plain_64 hs h
  · cases h
theorem index_64 {t : Tab} (hs : SubsB t) {x : ExV} {b : Bd} (h : indexP t x = some b) : In64 b ∧ b.1 ≤ b.2 := by
  unfold indexP at h
  simp only at h
  split at h
  · split at h
    · cases h
    · split at h
      · split at h
        · cases h
        · rename_i r hr
          split at h
          · cases h
            exact ⟨plain_64 hs hr, by assumption⟩
          · cases h
      · cases h
  · cases h
theorem attr_64 {t : Tab} (hs : SubsB t) {x : ExV} {b : Bd} (h : attrP t x = some b) (h1 : x.s ≠ sFirst) (h2 : x.s ≠ sLast) : In64 b ∧ b.1 ≤ b.2 := by
  unfold attrP at h
  split at h
  · rename_i y hy
    split at h
    · rename_i c hc
      split at h
      · cases h
        exact index_64 hs hc
      · cases h
    · split at h
      · split at h
        · rename_i hh
          rcases hh with hh | hh
          · exact absurd hh h1
          · exact absurd hh h2
        · cases h
      · cases h
  · cases h
set_option maxRecDepth 100000 in
set_option maxHeartbeats 2000000 in
theorem raw_attr (w : World) (v : TabV) (t : Tab) (x : ExV) (n : Nat) (hT : TabIn w v t) (hx : ExIn w (n + 1) x) (hI : (attrP t x).isSome = true) (hk : x.kind = 6) : RawIs w v t x n := by
  unfold RawIs
  have HA := Lib.hid (fun w' (hk : Kept [] w w') => attribute_any w' v t x n (hT.kept hk) (hx.kept hk))
  obtain ⟨b, hb⟩ := Option.isSome_iff_exists.1 hI
  have HX := Lib.hid ((attr_is t x).2 b hb)
  have HW0 : Hid (rawF (valP t n) t x = if x.s = sFirst then some b.1 else if x.s = sLast then some b.2 else if 4611686018427387904 ≤ b.2 - b.1 then none else some (b.2 - b.1 + 1)) := by
    rw [Hid, rawF]
    simp only [hk, attrV, hb]
    rfl
  have HR := Lib.hid (fun h1 h2 => attr_64 hT.sb hb h1 h2)
  clear hT hx hI hb
  rw [HX.out] at HA
  unfold TabV.cells at *
  unfold bvV at HA
  simp only at HA
  have s1 := str_first x.s
  have s2 := str_last x.s
  by_cases c1 : x.s = sFirst
  · have HW : Hid (rawF (valP t n) t x = some b.1) := by rw [Hid, HW0.out, if_pos c1]
    rw [decide_eq_true c1] at s1
    clear s2 HW0 c1
    go_enter Try.func38, Try.ntmps38
    go_wp2_with fail
    refine (HA.out _ (by repeat (first | with_reducible exact HK.out | with_reducible exact Kept.refl _ _ | with_reducible refine Kept.prev ?_ | with_reducible refine Kept.alloc' ?_ _ | with_reducible refine Kept.drew' ?_ | with_reducible refine Kept.setB ?_ _ _ _ (by omega) | with_reducible refine Kept.row' ?_ _ _ (by omega) | with_reducible refine Kept.map' ?_ _ _ (by omega)))).mono ?_; rintro e w2 ⟨rfl, hk_w2⟩; haveI p_w2 : PrevWorld w2 _ := ⟨hk_w2⟩; have hz_w2 : w.heap.size ≤ w2.heap.size := Kept.size (by repeat (first | with_reducible exact HK.out | with_reducible exact Kept.refl _ _ | with_reducible refine Kept.prev ?_ | with_reducible refine Kept.alloc' ?_ _ | with_reducible refine Kept.drew' ?_ | with_reducible refine Kept.setB ?_ _ _ _ (by omega) | with_reducible refine Kept.row' ?_ _ _ (by omega) | with_reducible refine Kept.map' ?_ _ _ (by omega))); clear hk_w2
    go_wp2_with fail
    rw [HW.out]
    exact bodyPost_o rfl (res1 Try.results38 (resT rfl)) (by repeat (first | with_reducible exact HK.out | with_reducible exact Kept.refl _ _ | with_reducible refine Kept.prev ?_ | with_reducible refine Kept.alloc' ?_ _ | with_reducible refine Kept.drew' ?_ | with_reducible refine Kept.setB ?_ _ _ _ (by omega) | with_reducible refine Kept.row' ?_ _ _ (by omega) | with_reducible refine Kept.map' ?_ _ _ (by omega)))
  rw [decide_eq_false c1] at s1
  by_cases c2 : x.s = sLast
  · have HW : Hid (rawF (valP t n) t x = some b.2) := by rw [Hid, HW0.out, if_neg c1, if_pos c2]
    rw [decide_eq_true c2] at s2
    clear HW0 c1 c2
    go_enter Try.func38, Try.ntmps38
    go_wp2_with fail
    refine (HA.out _ (by repeat (first | with_reducible exact HK.out | with_reducible exact Kept.refl _ _ | with_reducible refine Kept.prev ?_ | with_reducible refine Kept.alloc' ?_ _ | with_reducible refine Kept.drew' ?_ | with_reducible refine Kept.setB ?_ _ _ _ (by omega) | with_reducible refine Kept.row' ?_ _ _ (by omega) | with_reducible refine Kept.map' ?_ _ _ (by omega)))).mono ?_; rintro e w2 ⟨rfl, hk_w2⟩; haveI p_w2 : PrevWorld w2 _ := ⟨hk_w2⟩; have hz_w2 : w.heap.size ≤ w2.heap.size := Kept.size (by repeat (first | with_reducible exact HK.out | with_reducible exact Kept.refl _ _ | with_reducible refine Kept.prev ?_ | with_reducible refine Kept.alloc' ?_ _ | with_reducible refine Kept.drew' ?_ | with_reducible refine Kept.setB ?_ _ _ _ (by omega) | with_reducible refine Kept.row' ?_ _ _ (by omega) | with_reducible refine Kept.map' ?_ _ _ (by omega))); clear hk_w2
    go_wp2_with fail
    rw [HW.out]
    exact bodyPost_o rfl (res1 Try.results38 (resT rfl)) (by repeat (first | with_reducible exact HK.out | with_reducible exact Kept.refl _ _ | with_reducible refine Kept.prev ?_ | with_reducible refine Kept.alloc' ?_ _ | with_reducible refine Kept.drew' ?_ | with_reducible refine Kept.setB ?_ _ _ _ (by omega) | with_reducible refine Kept.row' ?_ _ _ (by omega) | with_reducible refine Kept.map' ?_ _ _ (by omega)))
  rw [decide_eq_false c2] at s2
  obtain ⟨⟨⟨b1, b2⟩, b3, b4⟩, b5⟩ := HR.out c1 c2
  have HW1 : Hid (rawF (valP t n) t x = if 4611686018427387904 ≤ b.2 - b.1 then none else some (b.2 - b.1 + 1)) := by rw [Hid, HW0.out, if_neg c1, if_neg c2]
  clear HW0 c1 c2 HR
  obtain ⟨b1', b2'⟩ := b
  simp only at *
  have hu : IntKind.u64.wrap (IntKind.u64.wrap b2' - IntKind.u64.wrap b1') = b2' - b1' := by
    have e1 : IntKind.u64.signed = false := rfl
    have e2 : (2 : Int) ^ IntKind.u64.bits = 18446744073709551616 := by decide
    simp only [IntKind.wrap, e1, e2, Bool.false_and, Bool.false_eq_true, if_false]
    omega
  by_cases c : 4611686018427387904 ≤ b2' - b1'
  · have HW : Hid (rawF (valP t n) t x = none) := by rw [Hid, HW1.out, if_pos c]
    clear HW1
    go_enter Try.func38, Try.ntmps38
    go_wp2_with fail
    refine (HA.out _ (by repeat (first | with_reducible exact HK.out | with_reducible exact Kept.refl _ _ | with_reducible refine Kept.prev ?_ | with_reducible refine Kept.alloc' ?_ _ | with_reducible refine Kept.drew' ?_ | with_reducible refine Kept.setB ?_ _ _ _ (by omega) | with_reducible refine Kept.row' ?_ _ _ (by omega) | with_reducible refine Kept.map' ?_ _ _ (by omega)))).mono ?_; rintro e w2 ⟨rfl, hk_w2⟩; haveI p_w2 : PrevWorld w2 _ := ⟨hk_w2⟩; have hz_w2 : w.heap.size ≤ w2.heap.size := Kept.size (by repeat (first | with_reducible exact HK.out | with_reducible exact Kept.refl _ _ | with_reducible refine Kept.prev ?_ | with_reducible refine Kept.alloc' ?_ _ | with_reducible refine Kept.drew' ?_ | with_reducible refine Kept.setB ?_ _ _ _ (by omega) | with_reducible refine Kept.row' ?_ _ _ (by omega) | with_reducible refine Kept.map' ?_ _ _ (by omega))); clear hk_w2
    go_wp2_with fail
    refine (fail_any _).mono ?_; rintro e w3 ⟨rfl, hk_w3⟩; haveI p_w3 : PrevWorld w3 _ := ⟨hk_w3⟩; have hz_w3 : w.heap.size ≤ w3.heap.size := Kept.size (by repeat (first | with_reducible exact HK.out | with_reducible exact Kept.refl _ _ | with_reducible refine Kept.prev ?_ | with_reducible refine Kept.alloc' ?_ _ | with_reducible refine Kept.drew' ?_ | with_reducible refine Kept.setB ?_ _ _ _ (by omega) | with_reducible refine Kept.row' ?_ _ _ (by omega) | with_reducible refine Kept.map' ?_ _ _ (by omega))); clear hk_w3
    show bodyPost _ _ _ (.panic failC) _ _
    rw [HW.out]
    exact bodyPost_p rfl (by repeat (first | with_reducible exact HK.out | with_reducible exact Kept.refl _ _ | with_reducible refine Kept.prev ?_ | with_reducible refine Kept.alloc' ?_ _ | with_reducible refine Kept.drew' ?_ | with_reducible refine Kept.setB ?_ _ _ _ (by omega) | with_reducible refine Kept.row' ?_ _ _ (by omega) | with_reducible refine Kept.map' ?_ _ _ (by omega)))
  · have HW : Hid (rawF (valP t n) t x = some (b2' - b1' + 1)) := by rw [Hid, HW1.out, if_neg c]
    clear HW1
    go_enter Try.func38, Try.ntmps38
    go_wp2_with fail
    refine (HA.out _ (by repeat (first | with_reducible exact HK.out | with_reducible exact Kept.refl _ _ | with_reducible refine Kept.prev ?_ | with_reducible refine Kept.alloc' ?_ _ | with_reducible refine Kept.drew' ?_ | with_reducible refine Kept.setB ?_ _ _ _ (by omega) | with_reducible refine Kept.row' ?_ _ _ (by omega) | with_reducible refine Kept.map' ?_ _ _ (by omega)))).mono ?_; rintro e w2 ⟨rfl, hk_w2⟩; haveI p_w2 : PrevWorld w2 _ := ⟨hk_w2⟩; have hz_w2 : w.heap.size ≤ w2.heap.size := Kept.size (by repeat (first | with_reducible exact HK.out | with_reducible exact Kept.refl _ _ | with_reducible refine Kept.prev ?_ | with_reducible refine Kept.alloc' ?_ _ | with_reducible refine Kept.drew' ?_ | with_reducible refine Kept.setB ?_ _ _ _ (by omega) | with_reducible refine Kept.row' ?_ _ _ (by omega) | with_reducible refine Kept.map' ?_ _ _ (by omega))); clear hk_w2
    go_wp2_with fail
    rw [HW.out]
    exact bodyPost_o rfl (res1 Try.results38 (resT rfl)) (by repeat (first | with_reducible exact HK.out | with_reducible exact Kept.refl _ _ | with_reducible refine Kept.prev ?_ | with_reducible refine Kept.alloc' ?_ _ | with_reducible refine Kept.drew' ?_ | with_reducible refine Kept.setB ?_ _ _ _ (by omega) | with_reducible refine Kept.row' ?_ _ _ (by omega) | with_reducible refine Kept.map' ?_ _ _ (by omega)))
end Go.Proofs.Ytgdjhhfbpalkdaa
