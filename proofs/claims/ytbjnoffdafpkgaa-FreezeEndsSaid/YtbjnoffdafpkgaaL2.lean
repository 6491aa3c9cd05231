/- great; the sample. -/
import Derived.Test.YtbjnoffdafpkgaaL1
namespace Go.Proofs.Ytbjnoffdafpkgaa
open Go.RowKit

def sumC (t : Tab) (k : Nat) : Nat := ((t.types.take k).map (fun x => x.comps.length)).sum
theorem sumC_succ (t : Tab) (k : Nat) (x : TyRow) (h : t.types[k]? = some x) : sumC t (k + 1) = sumC t k + x.comps.length := by
  obtain ⟨hk, rfl⟩ := List.getElem?_eq_some_iff.1 h
  unfold sumC
  rw [List.take_succ_eq_append_getElem hk, List.map_append, List.sum_append]
  simp only [List.map_cons, List.map_nil, List.sum_cons, List.sum_nil, Nat.add_zero]
def Comps47 (t : Tab) : Prop := ∀ x, x ∈ t.types → x.comps.length ≤ 140737488355328
theorem sumC_le {t : Tab} (h : Comps47 t) : ∀ k, sumC t k ≤ k * 140737488355328 := by
  intro k
  induction k with
  | zero => simp [sumC]
  | succ k ih =>
    cases hx : t.types[k]? with
    | none =>
      have : sumC t (k + 1) = sumC t k := by
        rw [List.getElem?_eq_none_iff] at hx
        unfold sumC
        rw [List.take_of_length_le (by omega), List.take_of_length_le (by omega)]
      omega
    | some x =>
      rw [sumC_succ t k x hx]
      have := h x (List.mem_of_getElem? hx)
      omega

/-- Is a table or a list of events great? -/
def greatB (t : Tab) (n : Nat) : Bool := decide (40 < t.types.length) || decide (60 < n) || decide (400 < sumC t t.types.length)

theorem TypesIn.split {w : World} {a : Option Addr} {l : List TyRow} (h : TypesIn w a l) : l = [] ∨ ∃ b o, a = some ⟨b, o, none⟩ ∧ ∀ k x, l[k]? = some x → TyRowAt w b (o + k * 18) x := by
  cases l with
  | nil => exact .inl rfl
  | cons c l =>
    obtain ⟨b, o, rfl, _⟩ := h 0 c rfl
    refine .inr ⟨b, o, rfl, fun k x hx => ?_⟩
    obtain ⟨b', o', he, hr⟩ := h k x hx
    injection he with he
    injection he with h1 h2
    subst h1 h2
    exact hr

set_option maxRecDepth 100000 in
set_option maxHeartbeats 1000000 in
theorem great_any (v : TabV) (t : Tab) (a : Option Addr) (c n : Nat) (w : World) (hT : TabIn w v t) (hn : n ≤ 9223372036854775807) (hc : Comps47 t) :
    Calls Try.prog 7 #[.agg (v.cells t), .slice a n c] w (RetB (greatB t n) w) := by
  have HT := Lib.hid hT
  have ht := hT.2.2.1
  have HC := Lib.hid hc
  clear hT hc
  unfold TabV.cells
  by_cases h40 : 40 < t.types.length
  · have HG : Hid (greatB t n = true) := by simp [Hid, greatB, h40]
    go_enter Try.func7, Try.ntmps7
    go_wp2_with fail
    go_ret
    rw [HG.out]
    exact ⟨rfl, Kept.alloc _ _ _⟩
  · by_cases h60 : 60 < n
    · have HG : Hid (greatB t n = true) := by simp [Hid, greatB, h60]
      go_enter Try.func7, Try.ntmps7
      go_wp2_with fail
      go_ret
      rw [HG.out]
      exact ⟨rfl, Kept.alloc _ _ _⟩
    · have HG : Hid (greatB t n = decide (400 < sumC t t.types.length)) := by simp [Hid, greatB, h40, h60]
      rcases HT.out.1.split with hnil | ⟨b, o, hta, hrows⟩
      · have hl0 : t.types.length ≤ 0 := by rw [hnil]; simp
        have HN : Hid (sumC t t.types.length = 0) := by rw [Hid]; unfold sumC; rw [hnil]; rfl
        clear hnil
        go_enter Try.func7, Try.ntmps7
        go_wp2_with fail
        go_loopw [5, 6] (fun s i wr => s = .int .i64 0 ∧ i = .int .i64 0 ∧ wr = w.alloc (Obj.cells #[Value.slice v.ta t.types.length v.tc, Value.slice v.sa t.subs.length v.sc, Value.slice v.ea v.en v.ec, Value.slice v.ga v.gn v.gc, Value.slice v.ia v.im v.ic] 28)) (fun _ _ _ => 0)
        case atStart => exact ⟨rfl, rfl, rfl⟩
        case round =>
          obtain ⟨rfl, rfl, rfl⟩ := hrel
          go_wp2_with fail
          go_ret
          rw [HG.out, HN.out]
          exact ⟨rfl, Kept.alloc _ _ _⟩
      · rw [hta]
        have HR := Lib.hid hrows
        have HTA := Lib.hid hta
        clear hta hrows
        go_enter Try.func7, Try.ntmps7
        go_upto_region 4 with (fail)
        refine wp_gen ?_
        intro w1 hw1
        have hk1 : Kept [] w w1 := by rw [hw1]; exact Kept.alloc _ _ _
        have c1 : w1.cell? ⟨w.heap.size, 0, none⟩ = some (.slice (some ⟨b, o, none⟩) t.types.length v.tc) := by rw [hw1]; go_simp
        have HK1 := Lib.hid hk1
        clear hw1 hk1
        go_wp2_with fail
        go_loop [5, 6] (fun s i => ∃ k : Nat, k ≤ t.types.length ∧ i = .int .i64 k ∧ s = .int .i64 (sumC t k)) (fun _ i => t.types.length - (intOf i).toNat)
        case atStart => exact ⟨0, Nat.zero_le _, rfl, rfl⟩
        case round =>
          obtain ⟨k, hk, rfl, rfl⟩ := hrel
          have hsum := sumC_le HC.out k
          by_cases hlt : k < t.types.length
          · obtain ⟨x, hx⟩ : ∃ x, t.types[k]? = some x := ⟨_, List.getElem?_eq_getElem hlt⟩
            have hxl := HC.out x (List.mem_of_getElem? hx)
            have HS := Lib.hid (sumC_succ t k x hx)
            have q := HK1.out.cell ((HR.out k x hx).1 11 (.slice x.compsA x.comps.length x.compsC) rfl) (by simp)
            clear hx
            generalize sumC t k = sk at *
            go_wp2_with fail
            go_round
            case rel => exact ⟨k + 1, by omega, by go_num, by rw [HS.out]; go_num⟩
            case measure => simp [intOf]; omega
          · have hke : k = t.types.length := by omega
            have HKE := Lib.hid hke
            have HG2 : Hid (greatB t n = decide (400 < sumC t k)) := by rw [Hid, HG.out, ← hke]
            clear hke
            generalize sumC t k = sk at *
            have HD : Hid (decide ((400 : Int) < (sk : Int)) = decide (400 < sk)) := by rw [Hid, decide_eq_decide]; omega
            go_wp2_with fail
            go_ret
            refine ⟨?_, HK1.out⟩
            rw [HG2.out]
            show Ending.returned (Value.bool (decide ((400 : Int) < (sk : Int)))) = _
            rw [HD.out]
#print axioms great_any
end Go.Proofs.Ytbjnoffdafpkgaa
