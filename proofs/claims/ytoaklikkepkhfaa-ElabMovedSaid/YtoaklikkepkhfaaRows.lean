/-
  No cell of these rows narrows 'for every input' (looked for: loops, veiled, ifaces, maps, wideKeys, modest, calm, conditions, laid).
  DERIVED. THE GIVEN ROWS OF THIS SEAT. 4 by the template 'for every input the law returns true; each argument reads behind the call as it read before'; 0 by the template 'total and deterministic' (their statements: YtoaklikkepkhfaaTotals.lean).
  GIVEN WITH THE SEED: the statements are not yours to turn. If you find one false, say at which input.
  Laid BY PROGRAM, IN A SANDBOX (cutbox-rows.mjs): the forced cells as the released guide's own fill.sh prints them over the translation d21c1d33897b8383… (all of the seat's roots in one cut). By AI agents, Wed Nov 11 2026. No macro, syntax, notation, axiom, sorry.
-/
import Derived.Test.YtoaklikkepkhfaaChecked
import GoSem.Claim
import GoSem.ClaimJoined
import GoSem.ClaimMapViews
import Derived.JoinedTies
import Derived.KernelRfl
namespace Go.Proofs.Ytoaklikkepkhfaa
/- THE CELL 'sum', in the pinned program and in every row, IS THE sha256 OF THE DUMP (.gsa) THAT YtoaklikkepkhfaaProg.lean LOADS. Nothing in Lean hashes anything: it is a label: what it is worth is what the hold of that sum in a sandbox is worth. -/
noncomputable def Try.pinned : Pinned := { name := "ytoaklikkepkhfaa", sum := "d21c1d33897b83839fe88e1f10e1b4b07d4d6211a3f35afcb446ea89c5edac30", checked := Try.checked }
namespace Rows
def none {H : Type} : Left H := { results := [], args := [] }

/-- 'ceilinglaw15.ElabOrder': WHATEVER THE INPUT: true; the input reads as it did. -/
def elabOrderSpec : ChangeSpec := { name := "elabOrder", fn := fun _ => fun
  | [d1, d2, d3] => { results := [.lit (.bool true)], args := [d1, d2, d3] }
  | _ => none }
def elabOrderRow : OpenClaim := { program := "ytoaklikkepkhfaa", sum := "d21c1d33897b83839fe88e1f10e1b4b07d4d6211a3f35afcb446ea89c5edac30", func := "ceiling/ceilinglaw15.ElabOrder", spec := "elabOrder", unfollowed := true, recurses := true, apart := false }
def ElabOrderSaid : Prop := elabOrderRow.holds Try.pinned (OpenSpec.ofChange elabOrderSpec)

/-- ITS FALSE NEIGHBOUR: 'it returns false'. Refute it at one input. -/
def elabOrderWrong : ChangeSpec := { name := "elabOrder", fn := fun _ => fun
  | [d1, d2, d3] => { results := [.lit (.bool false)], args := [d1, d2, d3] }
  | _ => none }
def ElabOrderWrongFalsely : Prop := elabOrderRow.holds Try.pinned (OpenSpec.ofChange elabOrderWrong)

/-- 'ceilinglaw15.ElabLarge': WHATEVER THE INPUT: true; the input reads as it did. -/
def elabLargeSpec : ChangeSpec := { name := "elabLarge", fn := fun _ => fun
  | [d1, d2] => { results := [.lit (.bool true)], args := [d1, d2] }
  | _ => none }
def elabLargeRow : OpenClaim := { program := "ytoaklikkepkhfaa", sum := "d21c1d33897b83839fe88e1f10e1b4b07d4d6211a3f35afcb446ea89c5edac30", func := "ceiling/ceilinglaw15.ElabLarge", spec := "elabLarge", unfollowed := true, recurses := true, apart := false }
def ElabLargeSaid : Prop := elabLargeRow.holds Try.pinned (OpenSpec.ofChange elabLargeSpec)

/-- ITS FALSE NEIGHBOUR: 'it returns false'. Refute it at one input. -/
def elabLargeWrong : ChangeSpec := { name := "elabLarge", fn := fun _ => fun
  | [d1, d2] => { results := [.lit (.bool false)], args := [d1, d2] }
  | _ => none }
def ElabLargeWrongFalsely : Prop := elabLargeRow.holds Try.pinned (OpenSpec.ofChange elabLargeWrong)

/-- 'ceilinglaw15.ElabSafe': WHATEVER THE INPUT: true; the input reads as it did. -/
def elabSafeSpec : ChangeSpec := { name := "elabSafe", fn := fun _ => fun
  | [d1, d2] => { results := [.lit (.bool true)], args := [d1, d2] }
  | _ => none }
def elabSafeRow : OpenClaim := { program := "ytoaklikkepkhfaa", sum := "d21c1d33897b83839fe88e1f10e1b4b07d4d6211a3f35afcb446ea89c5edac30", func := "ceiling/ceilinglaw15.ElabSafe", spec := "elabSafe", unfollowed := true, recurses := true, apart := false }
def ElabSafeSaid : Prop := elabSafeRow.holds Try.pinned (OpenSpec.ofChange elabSafeSpec)

/-- ITS FALSE NEIGHBOUR: 'it returns false'. Refute it at one input. -/
def elabSafeWrong : ChangeSpec := { name := "elabSafe", fn := fun _ => fun
  | [d1, d2] => { results := [.lit (.bool false)], args := [d1, d2] }
  | _ => none }
def ElabSafeWrongFalsely : Prop := elabSafeRow.holds Try.pinned (OpenSpec.ofChange elabSafeWrong)

/-- 'ceilinglaw15.ElabMoved': WHATEVER THE INPUT: true; the input reads as it did. -/
def elabMovedSpec : ChangeSpec := { name := "elabMoved", fn := fun _ => fun
  | [d1, d2, d3] => { results := [.lit (.bool true)], args := [d1, d2, d3] }
  | _ => none }
def elabMovedRow : OpenClaim := { program := "ytoaklikkepkhfaa", sum := "d21c1d33897b83839fe88e1f10e1b4b07d4d6211a3f35afcb446ea89c5edac30", func := "ceiling/ceilinglaw15.ElabMoved", spec := "elabMoved", unfollowed := true, recurses := true, apart := false }
def ElabMovedSaid : Prop := elabMovedRow.holds Try.pinned (OpenSpec.ofChange elabMovedSpec)

/-- ITS FALSE NEIGHBOUR: 'it returns false'. Refute it at one input. -/
def elabMovedWrong : ChangeSpec := { name := "elabMoved", fn := fun _ => fun
  | [d1, d2, d3] => { results := [.lit (.bool false)], args := [d1, d2, d3] }
  | _ => none }
def ElabMovedWrongFalsely : Prop := elabMovedRow.holds Try.pinned (OpenSpec.ofChange elabMovedWrong)

/- THE SECOND FORM. 'bulk': how many values and letters a reading holds, each counted each time it is reached (what is shared counts as often as it is met; a slice's spare places count too). A statement '..UptoSaid' is the law's where the arguments, and the package variables that the reading takes, are together of bulk at most 1048576: NARROWER than '..Said'. Prove '..Said' where nothing that the law and all that it calls make is longer than what came in: it says more and counts as full. Else prove '..UptoSaid'. A law counts once. -/
mutual
def uptoBulk {H : Type} : DataW H → Nat
  | .lit (.string bytes) => bytes.length + 1
  | .lit _ => 1
  | .nil => 1
  | .ptr d => uptoBulk d + 1
  | .slice elems spare => uptoBulkAll elems + uptoBulkAll spare + 1
  | .agg parts => uptoBulkAll parts + 1
  | .iface _ d => uptoBulk d + 1
  | .map entries => uptoBulkEntries entries + 1
  | .held _ => 1
def uptoBulkAll {H : Type} : List (DataW H) → Nat
  | [] => 0
  | d :: r => uptoBulk d + uptoBulkAll r
def uptoBulkEntries {H : Type} : List (Lit × DataW H) → Nat
  | [] => 0
  | x :: r => uptoBulkEntry x + uptoBulkEntries r
def uptoBulkEntry {H : Type} : Lit × DataW H → Nat
  | (.string bytes, d) => bytes.length + uptoBulk d + 1
  | (_, d) => uptoBulk d + 1
 end
def uptoSmall : (H : Type) → List (DataW H) → Bool := fun _ ds => decide (uptoBulkAll ds ≤ 1048576)
def OpenSpec.upto (s : _root_.Go.ChangeSpec) : _root_.Go.OpenSpec := { _root_.Go.OpenSpec.ofChange s with cond := some uptoSmall }

/-- 'ceilinglaw15.ElabOrder', WHERE WHAT IT READS IS OF BULK AT MOST 1048576: true; the input reads as it did. -/
def elabOrderUptoRow : OpenClaim := { program := "ytoaklikkepkhfaa", sum := "d21c1d33897b83839fe88e1f10e1b4b07d4d6211a3f35afcb446ea89c5edac30", func := "ceiling/ceilinglaw15.ElabOrder", spec := "elabOrder", unfollowed := true, recurses := true, apart := false, narrowed := true }
def ElabOrderUptoSaid : Prop := elabOrderUptoRow.holds Try.pinned (OpenSpec.upto elabOrderSpec)

/-- 'ceilinglaw15.ElabLarge', WHERE WHAT IT READS IS OF BULK AT MOST 1048576: true; the input reads as it did. -/
def elabLargeUptoRow : OpenClaim := { program := "ytoaklikkepkhfaa", sum := "d21c1d33897b83839fe88e1f10e1b4b07d4d6211a3f35afcb446ea89c5edac30", func := "ceiling/ceilinglaw15.ElabLarge", spec := "elabLarge", unfollowed := true, recurses := true, apart := false, narrowed := true }
def ElabLargeUptoSaid : Prop := elabLargeUptoRow.holds Try.pinned (OpenSpec.upto elabLargeSpec)

/-- 'ceilinglaw15.ElabSafe', WHERE WHAT IT READS IS OF BULK AT MOST 1048576: true; the input reads as it did. -/
def elabSafeUptoRow : OpenClaim := { program := "ytoaklikkepkhfaa", sum := "d21c1d33897b83839fe88e1f10e1b4b07d4d6211a3f35afcb446ea89c5edac30", func := "ceiling/ceilinglaw15.ElabSafe", spec := "elabSafe", unfollowed := true, recurses := true, apart := false, narrowed := true }
def ElabSafeUptoSaid : Prop := elabSafeUptoRow.holds Try.pinned (OpenSpec.upto elabSafeSpec)

/-- 'ceilinglaw15.ElabMoved', WHERE WHAT IT READS IS OF BULK AT MOST 1048576: true; the input reads as it did. -/
def elabMovedUptoRow : OpenClaim := { program := "ytoaklikkepkhfaa", sum := "d21c1d33897b83839fe88e1f10e1b4b07d4d6211a3f35afcb446ea89c5edac30", func := "ceiling/ceilinglaw15.ElabMoved", spec := "elabMoved", unfollowed := true, recurses := true, apart := false, narrowed := true }
def ElabMovedUptoSaid : Prop := elabMovedUptoRow.holds Try.pinned (OpenSpec.upto elabMovedSpec)

end Rows
end Go.Proofs.Ytoaklikkepkhfaa
