/- raw of an attribute. Regions that draw their order, in which one operation panics for sure. raw of a call and of a qualified expression. -/
import Derived.Test.YtgdjhhfbpalkdaaGreatV8
import Derived.Test.YtgdjhhfbpalkdaaGreatK13
namespace Go.Proofs.YtgdjhhfbpalkdaaGreat
open Go.RowKit
def SubsB (t : Tab) : Prop := ∀ s, s ∈ t.subs → (-9223372036854775808 ≤ s.lo ∧ s.lo ≤ 9223372036854775807) ∧ (-9223372036854775808 ≤ s.hi ∧ s.hi ≤ 9223372036854775807)
def In64 (b : Bd) : Prop := (-9223372036854775808 ≤ b.1 ∧ b.1 ≤ 9223372036854775807) ∧ (-9223372036854775808 ≤ b.2 ∧ b.2 ≤ 9223372036854775807)
theorem range_64 {t : Tab} (hs : SubsB t) {n : Int} {b : Bd} (h : rangeP t n = some b) : In64 b := by
  unfold rangeP at h
  split at h
  · rename_i hk
    cases h
    have : t.subs.getD n.toNat default ∈ t.subs := by
      unfold kindP tyP at hk
      by_cases hc : n < 0 ∨ (t.subs.length : Int) ≤ n
      · rw [if_pos hc] at hk; simp at hk
      · have hlt : n.toNat < t.subs.length := by omega
        simp [List.getD_eq_getElem?_getD, hlt]
    exact hs _ this
  · cases h
theorem plain_64 {t : Tab} (hs : SubsB t) {n : Int} {b a : Bd} (h : plainP t n = some (b, a)) : In64 b := by
  unfold plainP at h
  split at h
  · cases h
  · rename_i c hc
    split at h
    · cases h
    · cases h
      exact range_64 hs hc
theorem mark_64 {t : Tab} (hs : SubsB t) {x : ExV} {b a : Bd} (h : markP t x = some (b, a)) : In64 b := by
  unfold markP at h
  split at h
  · exact plain_64 hs h
  · cases h
theorem index_64 {t : Tab} (hs : SubsB t) {x : ExV} {b : Bd} (h : indexP t x = some b) : In64 b ∧ b.1 ≤ b.2 := by
  unfold indexP at h
  simp only at h
  split at h
  · split at h
    · cases h
    · split at h
      · split at h
        · cases h
        · rename_i r hr
          split at h
          · cases h
            exact ⟨plain_64 hs hr, by assumption⟩
          · cases h
      · cases h
  · cases h
theorem attr_64 {t : Tab} (hs : SubsB t) {x : ExV} {b : Bd} (h : attrP t x = some b) (h1 : x.s ≠ sFirst) (h2 : x.s ≠ sLast) : In64 b ∧ b.1 ≤ b.2 := by
  unfold attrP at h
  split at h
  · rename_i y hy
    split at h
    · rename_i c hc
      split at h
      · cases h
        exact index_64 hs hc
      · cases h
    · split at h
      · split at h
        · rename_i hh
          rcases hh with hh | hh
          · exact absurd hh h1
          · exact absurd hh h2
        · cases h
      · cases h
  · cases h
set_option maxRecDepth 100000 in
set_option maxHeartbeats 2000000 in
theorem raw_attr (w : World) (v : TabV) (t : Tab) (x : ExV) (n : Nat) (hT : TabIn w v t) (hx : ExIn w (n + 1) x) (hI : (attrP t x).isSome = true) (hk : x.kind = 6) : RawIs w v t x n := by
  unfold RawIs
  have HA := Lib.hid (fun w' (hk : Kept [] w w') => attribute_any w' v t x n (hT.kept hk) (hx.kept hk))
  obtain ⟨b, hb⟩ := Option.isSome_iff_exists.1 hI
  have HX := Lib.hid ((attr_is t x).2 b hb)
  have HW0 : Hid (rawF (valP t n) t x = if x.s = sFirst then some b.1 else if x.s = sLast then some b.2 else if 4611686018427387904 ≤ b.2 - b.1 then none else some (b.2 - b.1 + 1)) := by
    rw [Hid, rawF]
    simp only [hk, attrV, hb]
    rfl
  have HR := Lib.hid (fun h1 h2 => attr_64 hT.sb hb h1 h2)
  clear hT hx hI hb
  rw [HX.out] at HA
  unfold TabV.cells at *
  unfold bvV at HA
  simp only at HA
  have s1 := str_first x.s
  have s2 := str_last x.s
  by_cases c1 : x.s = sFirst
  · have HW : Hid (rawF (valP t n) t x = some b.1) := by rw [Hid, HW0.out, if_pos c1]
    rw [decide_eq_true c1] at s1
    clear s2 HW0 c1
    go_enter Tryz.func48, Tryz.ntmps48
    go_wp2_with fail
    refine (HA.out _ (by repeat (first | with_reducible exact HK.out | with_reducible exact Kept.refl _ _ | with_reducible refine Kept.prev ?_ | with_reducible refine Kept.alloc' ?_ _ | with_reducible refine Kept.drew' ?_ | with_reducible refine Kept.setB ?_ _ _ _ (by omega) | with_reducible refine Kept.row' ?_ _ _ (by omega) | with_reducible refine Kept.map' ?_ _ _ (by omega)))).mono ?_; rintro e w2 ⟨rfl, hk_w2⟩; haveI p_w2 : PrevWorld w2 _ := ⟨hk_w2⟩; have hz_w2 : w.heap.size ≤ w2.heap.size := Kept.size (by repeat (first | with_reducible exact HK.out | with_reducible exact Kept.refl _ _ | with_reducible refine Kept.prev ?_ | with_reducible refine Kept.alloc' ?_ _ | with_reducible refine Kept.drew' ?_ | with_reducible refine Kept.setB ?_ _ _ _ (by omega) | with_reducible refine Kept.row' ?_ _ _ (by omega) | with_reducible refine Kept.map' ?_ _ _ (by omega))); clear hk_w2
    go_wp2_with fail
    rw [HW.out]
    exact bodyPost_o rfl (res1 Tryz.results48 (resT rfl)) (by repeat (first | with_reducible exact HK.out | with_reducible exact Kept.refl _ _ | with_reducible refine Kept.prev ?_ | with_reducible refine Kept.alloc' ?_ _ | with_reducible refine Kept.drew' ?_ | with_reducible refine Kept.setB ?_ _ _ _ (by omega) | with_reducible refine Kept.row' ?_ _ _ (by omega) | with_reducible refine Kept.map' ?_ _ _ (by omega)))
  rw [decide_eq_false c1] at s1
  by_cases c2 : x.s = sLast
  · have HW : Hid (rawF (valP t n) t x = some b.2) := by rw [Hid, HW0.out, if_neg c1, if_pos c2]
    rw [decide_eq_true c2] at s2
    clear HW0 c1 c2
    go_enter Tryz.func48, Tryz.ntmps48
    go_wp2_with fail
    refine (HA.out _ (by repeat (first | with_reducible exact HK.out | with_reducible exact Kept.refl _ _ | with_reducible refine Kept.prev ?_ | with_reducible refine Kept.alloc' ?_ _ | with_reducible refine Kept.drew' ?_ | with_reducible refine Kept.setB ?_ _ _ _ (by omega) | with_reducible refine Kept.row' ?_ _ _ (by omega) | with_reducible refine Kept.map' ?_ _ _ (by omega)))).mono ?_; rintro e w2 ⟨rfl, hk_w2⟩; haveI p_w2 : PrevWorld w2 _ := ⟨hk_w2⟩; have hz_w2 : w.heap.size ≤ w2.heap.size := Kept.size (by repeat (first | with_reducible exact HK.out | with_reducible exact Kept.refl _ _ | with_reducible refine Kept.prev ?_ | with_reducible refine Kept.alloc' ?_ _ | with_reducible refine Kept.drew' ?_ | with_reducible refine Kept.setB ?_ _ _ _ (by omega) | with_reducible refine Kept.row' ?_ _ _ (by omega) | with_reducible refine Kept.map' ?_ _ _ (by omega))); clear hk_w2
    go_wp2_with fail
    rw [HW.out]
    exact bodyPost_o rfl (res1 Tryz.results48 (resT rfl)) (by repeat (first | with_reducible exact HK.out | with_reducible exact Kept.refl _ _ | with_reducible refine Kept.prev ?_ | with_reducible refine Kept.alloc' ?_ _ | with_reducible refine Kept.drew' ?_ | with_reducible refine Kept.setB ?_ _ _ _ (by omega) | with_reducible refine Kept.row' ?_ _ _ (by omega) | with_reducible refine Kept.map' ?_ _ _ (by omega)))
  rw [decide_eq_false c2] at s2
  obtain ⟨⟨⟨b1, b2⟩, b3, b4⟩, b5⟩ := HR.out c1 c2
  have HW1 : Hid (rawF (valP t n) t x = if 4611686018427387904 ≤ b.2 - b.1 then none else some (b.2 - b.1 + 1)) := by rw [Hid, HW0.out, if_neg c1, if_neg c2]
  clear HW0 c1 c2 HR
  obtain ⟨b1', b2'⟩ := b
  simp only at *
  have hu : IntKind.u64.wrap (IntKind.u64.wrap b2' - IntKind.u64.wrap b1') = b2' - b1' := by
    have e1 : IntKind.u64.signed = false := rfl
    have e2 : (2 : Int) ^ IntKind.u64.bits = 18446744073709551616 := by decide
    simp only [IntKind.wrap, e1, e2, Bool.false_and, Bool.false_eq_true, if_false]
    omega
  by_cases c : 4611686018427387904 ≤ b2' - b1'
  · have HW : Hid (rawF (valP t n) t x = none) := by rw [Hid, HW1.out, if_pos c]
    clear HW1
    go_enter Tryz.func48, Tryz.ntmps48
    go_wp2_with fail
    refine (HA.out _ (by repeat (first | with_reducible exact HK.out | with_reducible exact Kept.refl _ _ | with_reducible refine Kept.prev ?_ | with_reducible refine Kept.alloc' ?_ _ | with_reducible refine Kept.drew' ?_ | with_reducible refine Kept.setB ?_ _ _ _ (by omega) | with_reducible refine Kept.row' ?_ _ _ (by omega) | with_reducible refine Kept.map' ?_ _ _ (by omega)))).mono ?_; rintro e w2 ⟨rfl, hk_w2⟩; haveI p_w2 : PrevWorld w2 _ := ⟨hk_w2⟩; have hz_w2 : w.heap.size ≤ w2.heap.size := Kept.size (by repeat (first | with_reducible exact HK.out | with_reducible exact Kept.refl _ _ | with_reducible refine Kept.prev ?_ | with_reducible refine Kept.alloc' ?_ _ | with_reducible refine Kept.drew' ?_ | with_reducible refine Kept.setB ?_ _ _ _ (by omega) | with_reducible refine Kept.row' ?_ _ _ (by omega) | with_reducible refine Kept.map' ?_ _ _ (by omega))); clear hk_w2
    go_wp2_with fail
    refine (fail_any _).mono ?_; rintro e w3 ⟨rfl, hk_w3⟩; haveI p_w3 : PrevWorld w3 _ := ⟨hk_w3⟩; have hz_w3 : w.heap.size ≤ w3.heap.size := Kept.size (by repeat (first | with_reducible exact HK.out | with_reducible exact Kept.refl _ _ | with_reducible refine Kept.prev ?_ | with_reducible refine Kept.alloc' ?_ _ | with_reducible refine Kept.drew' ?_ | with_reducible refine Kept.setB ?_ _ _ _ (by omega) | with_reducible refine Kept.row' ?_ _ _ (by omega) | with_reducible refine Kept.map' ?_ _ _ (by omega))); clear hk_w3
    show bodyPost _ _ _ (.panic failC) _ _
    rw [HW.out]
    exact bodyPost_p rfl (by repeat (first | with_reducible exact HK.out | with_reducible exact Kept.refl _ _ | with_reducible refine Kept.prev ?_ | with_reducible refine Kept.alloc' ?_ _ | with_reducible refine Kept.drew' ?_ | with_reducible refine Kept.setB ?_ _ _ _ (by omega) | with_reducible refine Kept.row' ?_ _ _ (by omega) | with_reducible refine Kept.map' ?_ _ _ (by omega)))
  · have HW : Hid (rawF (valP t n) t x = some (b2' - b1' + 1)) := by rw [Hid, HW1.out, if_neg c]
    clear HW1
    go_enter Tryz.func48, Tryz.ntmps48
    go_wp2_with fail
    refine (HA.out _ (by repeat (first | with_reducible exact HK.out | with_reducible exact Kept.refl _ _ | with_reducible refine Kept.prev ?_ | with_reducible refine Kept.alloc' ?_ _ | with_reducible refine Kept.drew' ?_ | with_reducible refine Kept.setB ?_ _ _ _ (by omega) | with_reducible refine Kept.row' ?_ _ _ (by omega) | with_reducible refine Kept.map' ?_ _ _ (by omega)))).mono ?_; rintro e w2 ⟨rfl, hk_w2⟩; haveI p_w2 : PrevWorld w2 _ := ⟨hk_w2⟩; have hz_w2 : w.heap.size ≤ w2.heap.size := Kept.size (by repeat (first | with_reducible exact HK.out | with_reducible exact Kept.refl _ _ | with_reducible refine Kept.prev ?_ | with_reducible refine Kept.alloc' ?_ _ | with_reducible refine Kept.drew' ?_ | with_reducible refine Kept.setB ?_ _ _ _ (by omega) | with_reducible refine Kept.row' ?_ _ _ (by omega) | with_reducible refine Kept.map' ?_ _ _ (by omega))); clear hk_w2
    go_wp2_with fail
    rw [HW.out]
    exact bodyPost_o rfl (res1 Tryz.results48 (resT rfl)) (by repeat (first | with_reducible exact HK.out | with_reducible exact Kept.refl _ _ | with_reducible refine Kept.prev ?_ | with_reducible refine Kept.alloc' ?_ _ | with_reducible refine Kept.drew' ?_ | with_reducible refine Kept.setB ?_ _ _ _ (by omega) | with_reducible refine Kept.row' ?_ _ _ (by omega) | with_reducible refine Kept.map' ?_ _ _ (by omega)))
end Go.Proofs.YtgdjhhfbpalkdaaGreat
namespace Go.Proofs.YtgdjhhfbpalkdaaGreat
open Go.RowKit

section
variable {P : Program} {md : Region.Mode} {ops : Array Oper} {Q : Exit → Act → World → Prop} {w0 : World} {hd : List Nat}
theorem wpOp_stop {j : Nat} {oi oj : Oper} {v : Value} (hj : ops[j]? = some oj) (hap : oi.apart ops oj = true)
    (hsj : ∀ cs b, oj.op ≠ .select cs b) (hQ : ∀ c a w, Q (.panic c) (a.put oi.dst v) w → Q (.panic c) a w) {a : Act} {w : World}
    (h : wpOp P ops Q j (fun _ _ => False) (a.put oi.dst v) w) : wpOp P ops Q j (fun _ _ => False) a w := by
  obtain ⟨h1, h2, h3⟩ := Oper.apart_spec hap
  unfold wpOp at *
  simp only [hj] at *
  rw [wanted_put oj a oi.dst v h1] at h
  split
  · rename_i hw
    simp only [hw, if_true] at h
    rcases h with h | ⟨hasks, hlets⟩
    case inr => exact .inr ⟨by unfold Oper.asks at *; rw [execOp_put oj hsj a oi.dst v h1] at hasks; exact hasks, hlets⟩
    refine .inl ?_
    unfold Oper.wp at *
    rw [execOp_put oj hsj a oi.dst v h1] at h
    generalize (execOp a.eval oj).run P w = r at *
    cases r with
    | ok n w' =>
      cases n <;> simp only [Oper.upon] at h ⊢
      case enter f args =>
        refine Calls.mono h fun e w'' he => ?_
        cases e with
        | returned u => exact he
        | panicked c => exact hQ _ _ _ he
        | outgrown => exact he
      case row row args => exact Rows.mono h fun u w'' he => he
    | halt x w' =>
      cases x <;> simp only [Oper.upon] at h ⊢
      case panic u => exact hQ _ _ _ h
  · rename_i hw
    simp [hw] at h

/-- Whatever order: heads, and one that panics. -/
def AnyS (P : Program) (md : Region.Mode) (ops : Array Oper) (Q : Exit → Act → World → Prop) (w0 : World) (hd : List Nat) : Nat → Array Bool → Act → Prop
  | 0, _, _ => False
  | k + 1, done, a => Region.ready md ops done ≠ [] ∧
      ∀ i, i ∈ Region.ready md ops done → ∀ o, ops[i]? = some o →
        (i ∈ hd → ∃ v, Sure P ops w0 o v a ∧ AnyS P md ops Q w0 hd k (done.setIfInBounds i true) (a.put o.dst v)) ∧
        (i ∉ hd → ∀ w, CT w0 w → wpOp P ops Q i (fun _ _ => False) a w)
theorem AnyS.any : ∀ (k : Nat) (done : Array Bool) (a : Act) (w : World), CT w0 w → AnyS P md ops Q w0 hd k done a → wpAny P md ops Q k done a w
  | 0, _, _, _, _, h => h.elim
  | k + 1, done, a, w, hw, h => ⟨fun h0 => absurd h0 h.1, fun i hi => by
    obtain ⟨_, o, ho, _⟩ := mem_ready.1 hi
    obtain ⟨h1, h3⟩ := h.2 i hi o ho
    by_cases c1 : i ∈ hd
    · obtain ⟨v, hy, hk⟩ := h1 c1
      have hq : qOp P ops (CT w0) i (fun a' => AnyS P md ops Q w0 hd k (done.setIfInBounds i true) a') a := (hy _ (fun _ _ _ _ => trivial) ⟨w, hw⟩).qOp ho hk
      exact wpOp_of_qOp hw (fun a' w' hw' hk' => AnyS.any k _ a' w' hw' hk') hq
    · exact wpOp_mono (fun _ _ h => h.elim) (h3 c1 w hw)⟩

theorem AnyS.first {i : Nat} {oi : Oper} {v : Value} (hi : ops[i]? = some oi) (hin : i ∈ hd) (hsel : ∀ (j : Nat) (o : Oper) cs b, ops[j]? = some o → o.op ≠ .select cs b)
    (hQ : ∀ c a w, Q (.panic c) (a.put oi.dst v) w → Q (.panic c) a w) :
    ∀ (k : Nat) (done : Array Bool) (a : Act),
      (∀ j oj, ops[j]? = some oj → j ≠ i → done.getD j true = false → (∀ e ∈ oj.after, Region.binds md e = true → e.on ≠ i) → oi.apart ops oj = true) →
      i ∈ Region.ready md ops done → Sure P ops w0 oi v a →
      AnyS P md ops Q w0 hd k (done.setIfInBounds i true) (a.put oi.dst v) → AnyS P md ops Q w0 hd (k + 1) done a := by
  intro k
  induction k with
  | zero => intro done a _ hr hy H; exact H.elim
  | succ k ih =>
    intro done a hfree hr hy H
    refine ⟨fun h => by simp [h] at hr, fun j hj oj hoj => ?_⟩
    by_cases e : j = i
    · subst e
      rw [hi] at hoj
      cases hoj
      exact ⟨fun _ => ⟨v, hy, H⟩, fun c => absurd hin c⟩
    have hun := (mem_ready.1 hj).1
    have hap := hfree j oj hoj e hun (unlisted_ready hr hj hoj)
    obtain ⟨p1, p2, p3⟩ := Oper.apart_spec hap
    have hsi := fun cs b => hsel i oi cs b hi
    have hsj := fun cs b => hsel j oj cs b hoj
    have keep : ∀ u, Sure P ops w0 oi v (a.put oj.dst u) := fun u => hy.of_same (execOp_put oi hsi a oj.dst u p3) (wanted_put oi a oj.dst u p3)
    have hfree' : ∀ q oq, ops[q]? = some oq → q ≠ i → (done.setIfInBounds j true).getD q true = false → (∀ e ∈ oq.after, Region.binds md e = true → e.on ≠ i) → oi.apart ops oq = true := fun q oq hq hqi hqu hno => by
      refine hfree q oq hq hqi ?_ hno
      by_cases hjq : j = q
      · subst hjq; exact hun
      · rwa [getD_set_ne true hjq] at hqu
    have hr' := ready_mono hr (fun x => e x.symm)
    obtain ⟨h1, h3⟩ := H.2 j (ready_mono hj e) oj hoj
    refine ⟨fun c => ?_, fun c w hw => wpOp_stop hoj hap hsj hQ (h3 c w hw)⟩
    obtain ⟨u, hu, hk⟩ := h1 c
    refine ⟨u, hu.of_same (execOp_put oj hsj a oi.dst v p1).symm (wanted_put oj a oi.dst v p1).symm, ih _ _ hfree' hr' (keep u) ?_⟩
    rw [Array.setIfInBounds_comm _ _ e, ← Act.put_comm a v u p2]
    exact hk

def lexS (md : Region.Mode) (ops : Array Oper) (s : Nat) : List Nat → Array Bool → Bool
  | [], done => decide (Region.ready md ops done = [s])
  | k :: r, done => (Region.ready md ops done).contains k && Region.free md ops done k && lexS md ops s r (done.setIfInBounds k true)

theorem AnyS.heads {l : List Oper} (hl : ops = l.toArray) (hsel : Region.noSelect ops = true) (hQ : ∀ (d : Tmp) v c a w, Q (.panic c) (a.put (some d) v) w → Q (.panic c) a w) (s m : Nat) (hsd : s ∉ hd) (A : Act) (hA : ∀ w', Kept [] w0 w' → wpOp P ops Q s (fun _ _ => False) A w') :
    ∀ (hs : List Nat) (done : Array Bool) (a : Act), (∀ i ∈ hs, i < l.length) → (∀ i ∈ hs, i ∈ hd) →
      lexS md ops s hs done = true → dstsB a.tmps.size (pick l hs) = true →
      (∀ U, UpC U → Nonempty (AfterU w0 U) → wpQuiet P ops (CU w0 U) (fun a' => a' = A) (pick l hs) a) → AnyS P md ops Q w0 hd (hs.length + (m + 1)) done a
  | [], done, a, _, _, hB, _, h => by
    obtain rfl : a = A := h (fun _ => True) (fun _ _ _ _ => trivial) ⟨⟨w0, Kept.refl _ _, trivial⟩⟩
    rw [List.length_nil, Nat.zero_add]
    have hB : Region.ready md ops done = [s] := by simpa [lexS] using hB
    refine ⟨fun h => (by rw [hB] at h; cases h), fun i hi o ho => ?_⟩
    rw [hB] at hi
    obtain rfl : i = s := by simpa using hi
    exact ⟨fun c => absurd c hsd, fun _ w hw => hA w hw.kept⟩
  | k :: hs, done, a, hi, hin, hB, hdst, h => by
    have hlt := hi k (by simp)
    have h0 : ops[k]? = some l[k] := by subst hl; simp [hlt]
    have hp : pick l (k :: hs) = l[k] :: pick l hs := by simp [pick, hlt]
    rw [hp] at hdst h
    generalize l[k] = o at *
    simp only [lexS, Bool.and_eq_true] at hB
    obtain ⟨⟨hr, hf⟩, hB'⟩ := hB
    simp only [dstsB, Bool.and_eq_true] at hdst
    obtain ⟨hd1, hd2⟩ := hdst
    obtain ⟨d, hod, hds1, hds2⟩ : ∃ d, o.dst = some d ∧ d < a.tmps.size ∧ ∀ o', o' ∈ pick l hs → o'.dst ≠ some d := by
      split at hd1
      · rename_i d hod
        simp only [Bool.and_eq_true, decide_eq_true_eq, List.all_eq_true, bne_iff_ne] at hd1
        exact ⟨d, hod, hd1.1, hd1.2⟩
      · cases hd1
    have hone : ∀ U, UpC U → Nonempty (AfterU w0 U) → ∃ v, YieldsIn P ops (CU w0 U) o v a ∧ wpQuiet P ops (CU w0 U) (fun a' => a' = A) (pick l hs) (a.put o.dst v) ∧ some v = A.tmps[d]? := fun U hU hn => by
      have hq : qOp P ops (CU w0 U) k (wpQuiet P ops (CU w0 U) (fun a' => a' = A) (pick l hs)) a := by
        unfold qOp
        simp only [h0]
        exact h U hU hn
      obtain ⟨v, hy, hK⟩ := yieldsIn_of_qOp h0 hq
      refine ⟨v, hy, hK, ?_⟩
      rw [quiet_keeps _ _ hK d hds2, hod]
      simp [Act.put, hds1]
    obtain ⟨v, _, _, hv⟩ := hone (fun _ => True) (fun _ _ _ _ => trivial) ⟨⟨w0, Kept.refl _ _, trivial⟩⟩
    have hall : ∀ U, UpC U → Nonempty (AfterU w0 U) → YieldsIn P ops (CU w0 U) o v a ∧ wpQuiet P ops (CU w0 U) (fun a' => a' = A) (pick l hs) (a.put o.dst v) := fun U hU hn => by
      obtain ⟨u, h1, h2, h3⟩ := hone U hU hn
      have : u = v := by
        rw [← hv] at h3
        exact Option.some.inj h3
      subst this
      exact ⟨h1, h2⟩
    rw [show (k :: hs).length + (m + 1) = (hs.length + (m + 1)) + 1 by simp; omega]
    refine AnyS.first h0 (hin k (by simp)) (Region.noSelect_spec hsel) (fun c a w => by rw [hod]; exact hQ d v c a w) _ done a (Region.free_spec h0 hf) (by simpa using hr) (fun U hU ⟨w, hw⟩ => (hall U hU (by obtain ⟨z, _⟩ := hw; exact ⟨z⟩)).1) ?_
    refine AnyS.heads hl hsel hQ s m hsd A hA hs _ _ (fun i h => hi i (List.mem_cons_of_mem _ h)) (fun i h => hin i (List.mem_cons_of_mem _ h)) hB' ?_ (fun U hU hn => (hall U hU hn).2)
    rw [hod]
    simpa [Act.put] using hd2

/-- Only panics. -/
def OnlyP (Q : Exit → Act → World → Prop) : Exit → Act → World → Prop
  | .normal => fun _ _ => False
  | e => Q e
def headS (l : List Oper) (hs : List Nat) (s size : Nat) : Bool := Region.noSelect l.toArray && decide (hs.length < l.length) && decide (s < l.length) && hs.all (fun i => decide (i < l.length)) && !hs.contains s &&
  lexS .any l.toArray s hs (Array.replicate l.length false) && dstsB size (pick l hs)
/-- One walk: heads in any order that is named, and the operation that panics. -/
theorem wp_region_stop {id : Nat} {a : Act} {w : World} {l : List Oper} (hs : List Nat) (s : Nat) (hm : P.follows .mixedOrders = true) (hB : headS l hs s a.tmps.size = true)
    (hQ : ∀ (d : Tmp) v c a w, Q (.panic c) (a.put (some d) v) w → Q (.panic c) a w)
    (h : ∃ A, (∀ U, UpC U → Nonempty (AfterU w U) → wpQuiet P l.toArray (fun w' => ∃ z : AfterU w U, w' = z.1) (fun a' => a' = A) (pick l hs) a) ∧ ∀ w', Kept [] w w' → wpList P l.toArray (OnlyP Q) (pick l [s]) A w') :
    (Code.region id l.toArray true).wp P Q a w := by
  obtain ⟨A, h1, h2⟩ := h
  simp only [headS, Bool.and_eq_true, decide_eq_true_eq, List.all_eq_true] at hB
  obtain ⟨⟨⟨⟨⟨⟨hs1, hlen⟩, hsl⟩, hh⟩, hdt⟩, hx⟩, hd⟩ := hB
  have hsz : l.toArray.size = l.length := by simp
  refine wp_region_any hm ?_
  have h3 : ∀ w', Kept [] w w' → wpOp P l.toArray Q s (fun _ _ => False) A w' := fun w' hk => by
    have h4 := h2 w' hk
    have hp : pick l [s] = [l[s]] := by simp [pick, hsl]
    rw [hp] at h4
    unfold wpOp
    have h0 : l.toArray[s]? = some l[s] := by simp [hsl]
    simp only [h0]
    simp only [wpList] at h4
    split
    · rename_i hw
      rw [if_pos hw] at h4
      rcases h4 with h4 | ⟨h4, h5⟩
      · left
        unfold Oper.wp at *
        generalize (execOp A.eval l[s]).run P w' = r at *
        cases r with
        | ok n w' =>
          cases n <;> simp only [Oper.upon] at h4 ⊢
          case value u => exact h4
          case skip => exact h4
          case defer d => exact h4
          case enter f args =>
            refine Calls.mono h4 fun e w'' he => ?_
            cases e with
            | returned u => exact he
            | panicked c => exact he
            | outgrown => exact he
          case row row args => exact Rows.mono h4 fun u w'' he => he
        | halt x w' =>
          cases x <;> simp only [Oper.upon] at h4 ⊢
          case panic u => exact h4
      · exact .inr ⟨h4, h5⟩
    · rename_i hw
      rw [if_neg hw] at h4
      exact h4
  have key := AnyS.heads (P := P) (md := .any) (ops := l.toArray) (Q := Q) (w0 := w) (hd := hs) rfl hs1 hQ s (l.length - hs.length - 1) (by simpa using hdt) A h3 hs (Array.replicate l.length false) a hh (fun _ h => h) hx hd h1
  have := AnyS.any (P := P) (md := .any) (ops := l.toArray) (Q := Q) (w0 := w) (hd := hs) _ _ a { w with drawn := w.drawn + 1 } (CU.mk ⟨rfl, rfl, rfl, Nat.le_refl _, fun _ _ _ => rfl⟩ trivial) key
  rw [show hs.length + (l.length - hs.length - 1 + 1) = l.length by omega] at this
  rw [hsz]
  exact this
end
end Go.Proofs.YtgdjhhfbpalkdaaGreat
namespace Go.Proofs.YtgdjhhfbpalkdaaGreat
open Go.RowKit

set_option maxRecDepth 100000 in
set_option maxHeartbeats 4000000 in
theorem raw_qual (w : World) (v : TabV) (t : Tab) (x : ExV) (n : Nat) (ih : ValAt v t n) (hT : TabIn w v t) (hx : ExIn w (n + 1) x) (hI : qualF (isP t n) t x = true) (hk : x.kind = 8) : RawIs w v t x n := by
  unfold RawIs
  have hl : x.ls.length = 2 := by
    by_cases h : x.ls.length = 2
    · exact h
    · rw [qual_no h] at hI; cases hI
  rw [qual_yes hl] at hI
  simp only [Bool.and_eq_true] at hI
  obtain ⟨hI1, hI2⟩ := hI
  rw [markX_ok] at hI1
  obtain ⟨⟨b, a⟩, hm⟩ := Option.isSome_iff_exists.1 hI1
  obtain ⟨b0, o0, ha, hat, hat1, hi0, hi1⟩ := ex_second hx (by omega)
  have HV := Lib.hid (fun w' (hk : Kept [] w w') => ih w' (l1 x) (hT.kept hk) (hi1.kept hk) hI2)
  have HMK := Lib.hid (fun w' (hk : Kept [] w w') => mark_any w' v t (l0 x) (hT.kept hk))
  have HW0 : Hid (rawF (valP t n) t x = match valP t n (l1 x) with | none => none | some u => withinP u b) := by
    rw [Hid, rawF]
    simp only [hk, qualV, hm]
    rfl
  have HX := Lib.hid (markX_some hm)
  rw [HX.out] at HMK
  have q1 := hx.2.2.2.2.1
  have hl2 : (0 : Int) < (x.ls.length : Int) := by omega
  have hl3 : (1 : Int) < (x.ls.length : Int) := by omega
  clear ih hT hx hl hI1 hI2 hi0 hi1 hm
  unfold TabV.cells at *
  unfold pvV at HMK
  simp only at HMK
  generalize valP t n (l1 x) = o at *
  generalize l0 x = y at *
  generalize l1 x = z at *
  go_enter Tryz.func48, Tryz.ntmps48
  go_wp2_with fail
  refine wp_region_head 10 2 (fun _ => .cells #[.int .i64 0, .int .i64 0] 43) (by kernel_rfl) (by kernel_rfl) (fun i o h1 h2 h3 => by obtain rfl | rfl : i = 10 ∨ i = 11 := (by omega); all_goals (obtain rfl := Option.some.inj h3; exact alc_of rfl rfl Tryz.zeroBd)) (fun _ _ _ _ _ h => h) ?_; apply Exists.intro; refine ⟨fun U hU hN => ?_, ?_⟩; simp only [List.take_succ_cons, List.take_zero]
  · repeat (go_big_quiet_step (exact Calls.headV hU (HMK.out _ (Kept.trans (by repeat (first | with_reducible exact HK.out | with_reducible exact Kept.refl _ _ | with_reducible refine Kept.prev ?_ | with_reducible refine Kept.alloc' ?_ _ | with_reducible refine Kept.drew' ?_ | with_reducible refine Kept.setB ?_ _ _ _ (by omega) | with_reducible refine Kept.row' ?_ _ _ (by omega) | with_reducible refine Kept.map' ?_ _ _ (by omega))) (AfterU.prop _)))))
    refine wpQuiet_nil ?_
    exact rfl
  simp only [List.drop_succ_cons, List.drop_zero, List.take_succ_cons, List.take_zero]
  intro B2 hB2 _ B3 hB3 hne w6 hk6 hh
  haveI p_w6 : PrevWorld w6 _ := ⟨hk6⟩
  haveI bx2 : BoxIs w6 B2 43 #[.int .i64 0, .int .i64 0] := box_of hh (by simp)
  haveI bx3 : BoxIs w6 B3 43 #[.int .i64 0, .int .i64 0] := box_of hh (by simp)
  have hne2 := ne_of hne
  haveI ap1 : Apart B2 B3 := ⟨hne2⟩
  haveI ap2 : Apart B3 B2 := ⟨hne2.symm⟩
  haveI g2 : BornAfter B2 _ := ⟨hB2⟩
  haveI g3 : BornAfter B3 _ := ⟨hB3⟩
  have hz2 : w.heap.size ≤ B2 := Nat.le_trans (Kept.size (X := []) (by repeat (first | with_reducible exact HK.out | with_reducible exact Kept.refl _ _ | with_reducible refine Kept.prev ?_ | with_reducible refine Kept.alloc' ?_ _ | with_reducible refine Kept.drew' ?_ | with_reducible refine Kept.setB ?_ _ _ _ (by omega) | with_reducible refine Kept.row' ?_ _ _ (by omega) | with_reducible refine Kept.map' ?_ _ _ (by omega)))) hB2
  have hz3 : w.heap.size ≤ B3 := Nat.le_trans (Kept.size (X := []) (by repeat (first | with_reducible exact HK.out | with_reducible exact Kept.refl _ _ | with_reducible refine Kept.prev ?_ | with_reducible refine Kept.alloc' ?_ _ | with_reducible refine Kept.drew' ?_ | with_reducible refine Kept.setB ?_ _ _ _ (by omega) | with_reducible refine Kept.row' ?_ _ _ (by omega) | with_reducible refine Kept.map' ?_ _ _ (by omega)))) hB3
  clear hk6 hh hne
  clear HMK
  go_wp2_with fail
  refine wp_gen' ?_
  intro w7 hw7
  haveI p_w7 : PrevWorld w7 _ := ⟨by rw [hw7]; exact Kept.setB (Kept.setB (Kept.setB (Kept.setB p_w6.kept _ _ _ hB2) _ _ _ hB2) _ _ _ hB3) _ _ _ hB3⟩
  haveI by2 : BoxIs w7 B2 _ _ := by rw [hw7]; infer_instance
  clear hw7 p_w6 bx2 bx3
  cases o with
  | none =>
    have HW : Hid (rawF (valP t n) t x = none) := HW0.out
    refine wp_region_stop [0,1,2,3,4,6] 5 (by kernel_rfl) (by kernel_rfl) (fun _ _ _ _ _ h => h) ?_; apply Exists.intro; refine ⟨fun U hU hN => ?_, ?_⟩; simp only [pick, List.flatMap_cons, List.flatMap_nil, List.getElem?_cons_zero, List.getElem?_cons_succ, Option.toList_some, List.cons_append, List.nil_append]
    · repeat (go_big_quiet_step (fail))
      refine wpQuiet_nil ?_
      exact rfl
    simp only [pick, List.flatMap_cons, List.flatMap_nil, List.getElem?_cons_zero, List.getElem?_cons_succ, Option.toList_some, List.cons_append, List.nil_append]
    intro w8 hk8
    haveI p_w8 : PrevWorld w8 _ := ⟨hk8⟩
    clear hk8
    go_wp2_with fail
    refine (Calls.retP (HV.out _ (by repeat (first | with_reducible exact HK.out | with_reducible exact Kept.refl _ _ | with_reducible refine Kept.prev ?_ | with_reducible refine Kept.alloc' ?_ _ | with_reducible refine Kept.drew' ?_ | with_reducible refine Kept.setB ?_ _ _ _ (by omega) | with_reducible refine Kept.row' ?_ _ _ (by omega) | with_reducible refine Kept.map' ?_ _ _ (by omega)))) rfl).mono ?_; rintro e w9 ⟨rfl, hk_w9⟩; haveI p_w9 : PrevWorld w9 _ := ⟨hk_w9⟩; have hz_w9 : w.heap.size ≤ w9.heap.size := Kept.size (by repeat (first | with_reducible exact HK.out | with_reducible exact Kept.refl _ _ | with_reducible refine Kept.prev ?_ | with_reducible refine Kept.alloc' ?_ _ | with_reducible refine Kept.drew' ?_ | with_reducible refine Kept.setB ?_ _ _ _ (by omega) | with_reducible refine Kept.row' ?_ _ _ (by omega) | with_reducible refine Kept.map' ?_ _ _ (by omega))); clear hk_w9
    simp only [OnlyP]
    show bodyPost Tryz.prog Tryz.f48 _ (.panic failC) _ _
    rw [HW.out]
    exact bodyPost_p rfl (by repeat (first | with_reducible exact HK.out | with_reducible exact Kept.refl _ _ | with_reducible refine Kept.prev ?_ | with_reducible refine Kept.alloc' ?_ _ | with_reducible refine Kept.drew' ?_ | with_reducible refine Kept.setB ?_ _ _ _ (by omega) | with_reducible refine Kept.row' ?_ _ _ (by omega) | with_reducible refine Kept.map' ?_ _ _ (by omega)))
  | some u =>
    have HW1 : Hid (rawF (valP t n) t x = withinP u b) := HW0.out
    refine wp_region_heads [0,1,2,3,4,6,5] [7,8] (by kernel_rfl) (by kernel_rfl) (fun _ _ _ _ _ h => h) ?_; apply Exists.intro; refine ⟨fun U hU hN => ?_, ?_⟩; simp only [pick, List.flatMap_cons, List.flatMap_nil, List.getElem?_cons_zero, List.getElem?_cons_succ, Option.toList_some, List.cons_append, List.nil_append]
    · iterate 6 (go_big_quiet_step (fail))
      go_big_quiet_step (exact Calls.headV hU (Calls.retV (HV.out _ (Kept.trans (by repeat (first | with_reducible exact HK.out | with_reducible exact Kept.refl _ _ | with_reducible refine Kept.prev ?_ | with_reducible refine Kept.alloc' ?_ _ | with_reducible refine Kept.drew' ?_ | with_reducible refine Kept.setB ?_ _ _ _ (by omega) | with_reducible refine Kept.row' ?_ _ _ (by omega) | with_reducible refine Kept.map' ?_ _ _ (by omega))) (AfterU.prop _))) rfl))
      refine wpQuiet_nil ?_
      exact rfl
    simp only [pick, List.flatMap_cons, List.flatMap_nil, List.getElem?_cons_zero, List.getElem?_cons_succ, Option.toList_some, List.cons_append, List.nil_append]
    intro w8 hk8
    haveI p_w8 : PrevWorld w8 _ := ⟨hk8⟩
    clear hk8 HV HW0
    go_wp2_with fail
    cases hq : withinP u b with
    | none =>
      have HW : Hid (rawF (valP t n) t x = none) := by rw [Hid, HW1.out, hq]
      refine (Calls.retP (within_any _ _ b) hq).mono ?_; rintro e w10 ⟨rfl, hk_w10⟩; haveI p_w10 : PrevWorld w10 _ := ⟨hk_w10⟩; have hz_w10 : w.heap.size ≤ w10.heap.size := Kept.size (by repeat (first | with_reducible exact HK.out | with_reducible exact Kept.refl _ _ | with_reducible refine Kept.prev ?_ | with_reducible refine Kept.alloc' ?_ _ | with_reducible refine Kept.drew' ?_ | with_reducible refine Kept.setB ?_ _ _ _ (by omega) | with_reducible refine Kept.row' ?_ _ _ (by omega) | with_reducible refine Kept.map' ?_ _ _ (by omega))); clear hk_w10
      show bodyPost _ _ _ (.panic failC) _ _
      rw [HW.out]
      exact bodyPost_p rfl (by repeat (first | with_reducible exact HK.out | with_reducible exact Kept.refl _ _ | with_reducible refine Kept.prev ?_ | with_reducible refine Kept.alloc' ?_ _ | with_reducible refine Kept.drew' ?_ | with_reducible refine Kept.setB ?_ _ _ _ (by omega) | with_reducible refine Kept.row' ?_ _ _ (by omega) | with_reducible refine Kept.map' ?_ _ _ (by omega)))
    | some u' =>
      have HW : Hid (rawF (valP t n) t x = some u') := by rw [Hid, HW1.out, hq]
      refine (Calls.retV (within_any _ _ b) hq).mono ?_; rintro e w10 ⟨rfl, hk_w10⟩; haveI p_w10 : PrevWorld w10 _ := ⟨hk_w10⟩; have hz_w10 : w.heap.size ≤ w10.heap.size := Kept.size (by repeat (first | with_reducible exact HK.out | with_reducible exact Kept.refl _ _ | with_reducible refine Kept.prev ?_ | with_reducible refine Kept.alloc' ?_ _ | with_reducible refine Kept.drew' ?_ | with_reducible refine Kept.setB ?_ _ _ _ (by omega) | with_reducible refine Kept.row' ?_ _ _ (by omega) | with_reducible refine Kept.map' ?_ _ _ (by omega))); clear hk_w10
      clear hq
      go_wp2_with fail
      rw [HW.out]
      exact bodyPost_o rfl (res1 Tryz.results48 (resT rfl)) (by repeat (first | with_reducible exact HK.out | with_reducible exact Kept.refl _ _ | with_reducible refine Kept.prev ?_ | with_reducible refine Kept.alloc' ?_ _ | with_reducible refine Kept.drew' ?_ | with_reducible refine Kept.setB ?_ _ _ _ (by omega) | with_reducible refine Kept.row' ?_ _ _ (by omega) | with_reducible refine Kept.map' ?_ _ _ (by omega)))
end Go.Proofs.YtgdjhhfbpalkdaaGreat
