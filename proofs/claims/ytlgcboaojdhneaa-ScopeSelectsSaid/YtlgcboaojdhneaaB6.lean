/- direct: the test. -/
import Derived.Test.YtlgcboaojdhneaaB5
import Derived.Test.YtlgcboaojdhneaaK2
namespace Go.Proofs.Ytlgcboaojdhneaa
open Go.RowKit

/-- The test of a region: declared there, can be named, not hidden. -/
def dirB (t : Tab) (h : WhV) (r : Int) (out : List Int) (e : Int) : Bool := ((rowE t e).owner == r && namedR t h e (rowE t e)) && !hidR t out (rowE t e)

set_option maxRecDepth 100000 in
set_option maxHeartbeats 4000000 in
theorem direct1_any (w : World) (F Bf Br Bo : Nat) (v : TabV) (t : Tab) (h : WhV) (name : ByteArray) (all : List Int) (k : Nat) (x : EntV) (hx : t.ents[k]? = some x) (r : Int) (hF : FinderIn w F v t h name all)
    (hBf : w.cell? ⟨Bf, 0, none⟩ = some (.pointer (some ⟨F, 0, none⟩))) (hBr : w.cell? ⟨Br, 0, none⟩ = some (.int .i64 r))
    (a : Option Addr) (c : Nat) (out : List Int) (hBo : w.cell? ⟨Bo, 0, none⟩ = some (.slice a out.length c)) (hc : out.length ≤ c) (hm : c ≤ 9223372036854775807) (hI : IntsIn w a out) (hl : ∀ e, e ∈ out → (rowR t e).isSome = true) :
    Calls Try.prog 70 #[.int .i64 k, .pointer (some ⟨Bf, 0, none⟩), .pointer (some ⟨Br, 0, none⟩), .pointer (some ⟨Bo, 0, none⟩)] w (RetB (dirB t h r out k) w) := by
  have HF := Lib.hid hF
  have HI := Lib.hid hI
  have HL := Lib.hid hl
  have HX := Lib.hid hx
  have q1 := hF.tab.el
  have q2 := hF.tab.em
  have hxl := (List.getElem?_eq_some_iff.1 hx).1
  have hxe : rowE t k = x := by unfold rowE rowR; rw [if_neg (by omega)]; simp [hx]
  have HR : Hid (dirB t h r out k = ((x.owner == r && namedR t h k x) && !hidR t out x)) := by rw [Hid, dirB, hxe]
  obtain ⟨b, o, hea, hr⟩ := hF.tab.es.some_ hx
  have ro : w.cell? ⟨b, o + k * 22 + 2, none⟩ = some (.int .i64 x.owner) := hr k x hx 2 _ rfl
  obtain ⟨a', c', _, _, _, f0, f1, f2, f3, f4, _⟩ := hF.cells
  rw [hea] at f2
  have j3 : (0 : Int) ≤ (k : Int) := by omega
  have j4 : (k : Int) < (t.ents.length : Int) := by omega
  clear hx hF hr hea hI hl hxe f0 f1 f3 f4
  go_enter Try.func70, Try.ntmps70
  go_upto_region 1 with (fail)
  have g0 := After.cell hBf
  have g1 := After.cell hBr
  have g2 := After.cell hBo
  have g3 := After.cell f2
  have g4 := After.cell ro
  have HCN : Hid (∀ z : After w, Calls Try.prog 43 #[.pointer (some ⟨F, 0, none⟩), .int .i64 k] z.1 (RetB (namedR t h k x) z.1)) := fun z => named_any z.1 F v t h name all k x HX.out (HF.out.kept z.2)
  have HCH : Hid (∀ z : After w, Calls Try.prog 71 #[.pointer (some ⟨F, 0, none⟩), .int .i64 k, .slice a out.length c] z.1 (RetB (hidR t out x) z.1)) := fun z => hidden_any z.1 F v t h name all k x HX.out (HF.out.kept z.2) a c out hc hm (HI.out.kept z.2) HL.out
  clear hBf hBr hBo f2 ro
  cases h1 : (x.owner == r)
  · rw [h1] at HR
    refine wp_region_after (by kernel_rfl) (by kernel_rfl) ?_
    repeat (go_big_quiet_step (fail))
    refine wpQuiet_nil ?_
    rintro w' ⟨z, rfl⟩
    obtain ⟨w1, hk1⟩ := z
    go_wp2_with fail
    go_ret
    exact ⟨by rw [HR.out]; rfl, hk1⟩
  · rw [h1] at HR
    cases h2 : namedR t h k x
    · rw [h2] at HR HCN
      clear h2
      refine wp_region_after (by kernel_rfl) (by kernel_rfl) ?_
      repeat (go_big_quiet_step (exact Calls.after_b (HCN.out _)))
      refine wpQuiet_nil ?_
      rintro w' ⟨z, rfl⟩
      obtain ⟨w1, hk1⟩ := z
      go_wp2_with fail
      go_ret
      exact ⟨by rw [HR.out]; rfl, hk1⟩
    · rw [h2] at HR HCN
      clear h2
      refine wp_region_after (by kernel_rfl) (by kernel_rfl) ?_
      repeat (go_big_quiet_step (first | exact Calls.after_b (HCN.out _) | exact Calls.after_b (HCH.out _)))
      refine wpQuiet_nil ?_
      rintro w' ⟨z, rfl⟩
      obtain ⟨w1, hk1⟩ := z
      go_wp2_with fail
      go_ret
      exact ⟨by rw [HR.out]; rfl, hk1⟩
end Go.Proofs.Ytlgcboaojdhneaa
