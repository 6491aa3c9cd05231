/- The sample. -/
import Derived.Test.YtbjnoffdafpkgaaL2
namespace Go.Proofs.Ytbjnoffdafpkgaa
open Go.RowKit

def rowZ (k parent index elem disc : Int) (ca : Option Addr) (cc : Nat) (cs : List CRow) : TyRow :=
  { kind := k, name := ⟨#[]⟩, parent := parent, first := 0, litsA := none, litsN := 0, litsC := 0, index := index, elem := elem, disc := disc, discName := ⟨#[]⟩, has := false, deflt := 0, compsA := ca, compsC := cc, comps := cs, target := 0, formal := 0, limited := false, priv := 0, full := 0, level := 0 }
def compX : CRow := ⟨⟨#[120]⟩, 3, false, 0, false, none, 0, 0⟩

/-- The table of the document's examples. -/
def sampleT (N : Nat) : Tab :=
  ⟨[rowZ 1 (-1) 0 0 0 none 0 [], rowZ 2 (-1) 0 0 0 none 0 [], rowZ 3 (-1) 0 0 0 none 0 [], rowZ 2 1 0 0 0 none 0 [], rowZ 5 (-1) 0 0 (-1) (some ⟨N + 1, 0, none⟩) 1 [compX], rowZ 4 (-1) 1 4 0 none 0 []], [0, 1, 2, 3, 4, 5]⟩
def sampleV (N : Nat) : TabV := ⟨some ⟨N + 2, 0, none⟩, 6, some ⟨N + 3, 0, none⟩, 6, none, 0, 0, none, 0, 0, none, 0, 0⟩

theorem sample_checks (N : Nat) :
    checkR (sampleT N) [⟨2, 3, 0⟩, ⟨1, 4, 0⟩, ⟨3, 3, 0⟩, ⟨4, 4, 0⟩, ⟨9, 0, 0⟩] = (0, 0) ∧ checkR (sampleT N) [⟨2, 3, 0⟩, ⟨1, 4, 0⟩, ⟨4, 4, 0⟩] = (2, 110) ∧
    checkR (sampleT N) [⟨2, 3, 0⟩, ⟨5, 3, 9⟩, ⟨7, 0, 9⟩] = (2, 110) ∧ checkR (sampleT N) [⟨2, 3, 0⟩, ⟨8, 0, 0⟩, ⟨3, 3, 0⟩] = (1, 110) ∧
    checkR (sampleT N) [⟨9, 0, 0⟩, ⟨1, 6, 0⟩] = (1, 2) ∧ checkR (sampleT N) [⟨4, 3, 0⟩, ⟨1, 3, 0⟩] = (1, 110) ∧
    frozenR (sampleT N) [⟨2, 3, 0⟩, ⟨1, 4, 0⟩, ⟨3, 3, 0⟩, ⟨4, 4, 0⟩, ⟨9, 0, 0⟩] = [1, 3, 4] ∧ partsT (sampleT N) 5 = [1, 4] := by
  refine ⟨?_, ?_, ?_, ?_, ?_, ?_, ?_, ?_⟩
  · kernel_rfl
  · kernel_rfl
  · kernel_rfl
  · kernel_rfl
  · kernel_rfl
  · kernel_rfl
  · kernel_rfl
  · rw [partsT_eq]; kernel_rfl

theorem sample_small (N : Nat) : Small (sampleT N) ∧ (sampleT N).types.length ≤ 1000 := by
  refine ⟨fun x hx => ?_, by show 6 ≤ 1000; omega⟩
  simp only [sampleT, List.mem_cons, List.not_mem_nil, or_false] at hx
  rcases hx with rfl | rfl | rfl | rfl | rfl | rfl <;> simp [rowZ]
end Go.Proofs.Ytbjnoffdafpkgaa
