/- The table of the examples as a table in memory; what Find and Select are on it. -/
import Derived.Test.YtlgcboaojdhneaaE3
import Derived.Test.YtlgcboaojdhneaaP1
import Derived.Test.YtlgcboaojdhneaaD8
import Derived.Test.YtlgcboaojdhneaaD9
namespace Go.Proofs.Ytlgcboaojdhneaa
open Go.RowKit

/-- An entity of Standard's sort: no parameters, or one in a block of its own. -/
def PlainE (x : EntV) : Prop := x.params = [] ∧ x.pa = none ∧ x.pc = 0 ∧ x.name.size ≤ 140737488355328
theorem std12_plain : ∀ x, x ∈ std12 → PlainE x := by
  intro x hx
  simp only [std12, List.mem_cons, List.not_mem_nil, or_false] at hx
  rcases hx with rfl | rfl | rfl | rfl | rfl | rfl | rfl | rfl | rfl | rfl | rfl | rfl <;> exact ⟨rfl, rfl, rfl, Nat.le_of_ble_eq_true rfl⟩
theorem some7_plain : ∀ x, x ∈ some7 → PlainE x := by
  intro x hx
  simp only [some7, List.mem_cons, List.not_mem_nil, or_false] at hx
  rcases hx with rfl | rfl | rfl | rfl | rfl | rfl | rfl <;> exact ⟨rfl, rfl, rfl, Nat.le_of_ble_eq_true rfl⟩
theorem PlainE.ok {x : EntV} (h : PlainE x) : x.Ok := ⟨by rw [h.1]; simp, by rw [h.2.2.1]; omega, fun _ => h.2.2.1, by rw [h.1]; simp, h.2.2.2⟩
theorem PlainE.par {x : EntV} (h : PlainE x) (w : World) : RowsAt ParamV 13 ParamV.cells w x.pa x.params := .inl h.1

theorem tabIn_std {w : World} {base : Nat} {v : TabV} {kl k1 k2 : Nat} (l : List EntV) (hl : ∀ x, x ∈ l → PlainE x) (hM : StdMem w v kl k1 k2)
    (ho : w.ownsRow base 43 22 (.slice v.ea (stdEnts k1 k2 ++ l).length v.ec) (stdEnts k1 k2 ++ l).length ((stdEnts k1 k2 ++ l).map EntV.cells).flatten) : TabIn w v (tabE kl (stdEnts k1 k2 ++ l)) := by
  obtain ⟨A, c, e, h1, h2, h3, h4⟩ := rows_own ho EntV.len rfl
  injection e with e1 e2 e3
  subst e1 e3
  obtain ⟨⟨kt, a1, a2, a3⟩, ⟨ks, b1, b2, b3⟩, _, p1, p2⟩ := hM
  refine ⟨h4, ?_, ?_, ?_, h1, h2, h3, ?_, ?_⟩
  · intro x hx
    rcases List.mem_append.1 hx with hx | hx
    · rcases List.mem_append.1 hx with hx | hx
      · exact (std12_plain x hx).par w
      · simp only [List.mem_cons, List.not_mem_nil, or_false] at hx
        rcases hx with rfl | rfl | rfl
        · exact rows_block p1 ParamV.len
        · exact rows_block p2 ParamV.len
        · exact .inl rfl
    · exact (hl x hx).par w
  · intro x hx
    rcases List.mem_append.1 hx with hx | hx
    · rcases List.mem_append.1 hx with hx | hx
      · exact (std12_plain x hx).ok
      · simp only [List.mem_cons, List.not_mem_nil, or_false] at hx
        rcases hx with rfl | rfl | rfl <;> exact ⟨Nat.le_of_ble_eq_true rfl, Nat.le_of_ble_eq_true rfl, (fun h => by first | (exact absurd h (by simp [putE, getE, stdE])) | rfl), Nat.le_of_ble_eq_true rfl, Nat.le_of_ble_eq_true rfl⟩
    · exact (hl x hx).ok
  · show RowsAt SubtV 3 SubtV.cells w v.sa stdSubs
    rw [b1]
    exact rows_block b3 SubtV.len
  · show 5 ≤ v.sc
    rw [b2]
    exact Nat.le_refl _
  · rw [b2]; omega
theorem typIn_std {w : World} {v : TabV} {kl k1 k2 : Nat} (l : List EntV) (hM : StdMem w v kl k1 k2) : TypIn w v (tabE kl l) := by
  obtain ⟨⟨kt, a1, a2, a3⟩, _⟩ := hM
  refine ⟨?_, ?_, ?_⟩
  · show RowsAt TyV 18 TyV.cells w v.ta (stdTys kl)
    rw [a1]
    exact rows_block a3 TyV.len
  · show 4 ≤ v.tc
    rw [a2]
    exact Nat.le_refl _
  · rw [a2]; omega

/-- A case of the examples: a place, a name, what is wanted. -/
structure CaseV where
  h : WhV
  name : ByteArray
  wa : Option Addr
  wc : Nat
  want : List Int
def CaseV.cells (x : CaseV) : List Value := [.int .i64 x.h.region, .int .i64 x.h.after, .slice x.h.ua x.h.units.length x.h.uc, .slice x.h.sa x.h.uses.length x.h.sc, .string x.name, .slice x.wa x.want.length x.wc]
theorem CaseV.len (x : CaseV) : x.cells.length = 6 := rfl
theorem CaseV.one (x : CaseV) : x.cells.toArray.all (·.oneCell') = true := by simp [CaseV.cells, Value.oneCell']
structure CaseIn (w : World) (x : CaseV) : Prop where
  wh : WhIn w x.h
  wi : IntsIn w x.wa x.want
  wl : x.want.length ≤ x.wc
  wm : x.wc ≤ 9223372036854775807
theorem CaseIn.kept {w w' : World} {x : CaseV} (h : CaseIn w x) (hk : Kept [] w w') : CaseIn w' x := ⟨h.wh.kept hk, h.wi.kept hk, h.wl, h.wm⟩
def at1 (a : Nat) : Option Addr := some ⟨a, 0, none⟩
def whA (a b : Nat) : WhV := ⟨19, 22, at1 a, 1, [15], at1 b, 1, [15]⟩
def whB : WhV := ⟨19, 22, none, 0, [], none, 0, []⟩
def whC : WhV := ⟨15, 19, none, 0, [], none, 0, []⟩
def casesL (a b c1 c2 c4 c5 c6 c8 : Nat) : List CaseV := [⟨whA a b, ⟨#[102]⟩, at1 c1, 2, [17, 20]⟩, ⟨whA a b, ⟨#[120]⟩, at1 c2, 1, [21]⟩, ⟨whA a b, ⟨#[121]⟩, none, 0, []⟩, ⟨whA a b, ⟨#[80]⟩, at1 c4, 1, [15]⟩, ⟨whA a b, ⟨#[84, 114, 117, 101]⟩, at1 c5, 1, [4]⟩, ⟨whB, ⟨#[102]⟩, at1 c6, 1, [20]⟩, ⟨whB, ⟨#[80]⟩, none, 0, []⟩, ⟨whC, ⟨#[121]⟩, at1 c8, 1, [18]⟩]
theorem cases_find (kl k1 k2 a b c1 c2 c4 c5 c6 c8 : Nat) : ∀ x, x ∈ casesL a b c1 c2 c4 c5 c6 c8 → findR (someT kl k1 k2) x.h x.name = x.want := by
  intro x hx
  rw [← find_ref]
  simp only [casesL, List.mem_cons, List.not_mem_nil, or_false] at hx
  rcases hx with rfl | rfl | rfl | rfl | rfl | rfl | rfl | rfl <;> kernel_rfl
theorem some_sel1 (kl k1 k2 a b : Nat) : selR (someT kl k1 k2) (whA a b) 15 ⟨#[120]⟩ = [16] := by kernel_rfl
theorem some_sel2 (kl k1 k2 a b : Nat) : selR (someT kl k1 k2) (whA a b) 15 ⟨#[121]⟩ = [] := by kernel_rfl
theorem some_sel3 (kl k1 k2 a b : Nat) : selR (someT kl k1 k2) (whA a b) 19 ⟨#[120]⟩ = [21] := by kernel_rfl
theorem some_sel4 (kl k1 k2 : Nat) : selR (someT kl k1 k2) whC 15 ⟨#[121]⟩ = [18] := by kernel_rfl
theorem some_wf (k1 k2 : Nat) : ∀ x, x ∈ someEnts k1 k2 → (Lit.int .i64 x.owner).wf = true := by
  intro x hx
  simp only [someEnts, stdEnts, std12, some7, List.cons_append, List.nil_append, List.mem_cons, List.not_mem_nil, or_false] at hx
  rcases hx with rfl | rfl | rfl | rfl | rfl | rfl | rfl | rfl | rfl | rfl | rfl | rfl | rfl | rfl | rfl | rfl | rfl | rfl | rfl | rfl | rfl | rfl <;> rfl
end Go.Proofs.Ytlgcboaojdhneaa
