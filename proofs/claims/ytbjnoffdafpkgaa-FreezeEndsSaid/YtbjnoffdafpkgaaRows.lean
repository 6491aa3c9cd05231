/-
  NARROWER THAN 'FOR EVERY INPUT', by the rows' own cells (each row's printed sentence says how): FreezeCheck: loops · FreezeGrows: loops · FreezeEnds: loops · FreezeAgain: loops.
  DERIVED. THE GIVEN ROWS OF THIS SEAT. 4 by the template 'for every input the law returns true; each argument reads behind the call as it read before'; 0 by the template 'total and deterministic' (their statements: YtbjnoffdafpkgaaTotals.lean).
  GIVEN WITH THE SEED: the statements are not yours to turn. If you find one false, say at which input.
  Laid BY PROGRAM, IN A SANDBOX (cutbox-rows.mjs): the forced cells as the released guide's own fill.sh prints them over the translation 68119d23bfaeebe3… (all of the seat's roots in one cut). By AI agents, Wed Nov 11 2026. No macro, syntax, notation, axiom, sorry.
-/
import Derived.Test.YtbjnoffdafpkgaaChecked
import GoSem.Claim
import GoSem.ClaimJoined
import GoSem.ClaimMapViews
import Derived.JoinedTies
import Derived.KernelRfl
namespace Go.Proofs.Ytbjnoffdafpkgaa
/- THE CELL 'sum', in the pinned program and in every row, IS THE sha256 OF THE DUMP (.gsa) THAT YtbjnoffdafpkgaaProg.lean LOADS. Nothing in Lean hashes anything: it is a label: what it is worth is what the hold of that sum in a sandbox is worth. -/
noncomputable def Try.pinned : Pinned := { name := "ytbjnoffdafpkgaa", sum := "68119d23bfaeebe3e2976f5a01ff5f302286198df77b7c4c33c42d87bfe1e561", checked := Try.checked }
namespace Rows
def none {H : Type} : Left H := { results := [], args := [] }

/-- 'ceilinglaw11.FreezeCheck': WHATEVER THE INPUT: true; the input reads as it did. -/
def freezeCheckSpec : ChangeSpec := { name := "freezeCheck", fn := fun _ => fun
  | [d1, d2, d3] => { results := [.lit (.bool true)], args := [d1, d2, d3] }
  | _ => none }
def freezeCheckRow : OpenClaim := { program := "ytbjnoffdafpkgaa", sum := "68119d23bfaeebe3e2976f5a01ff5f302286198df77b7c4c33c42d87bfe1e561", func := "ceiling/ceilinglaw11.FreezeCheck", spec := "freezeCheck", unfollowed := true, recurses := true, loops := true, apart := false }
def FreezeCheckSaid : Prop := freezeCheckRow.holds Try.pinned (OpenSpec.ofChange freezeCheckSpec)

/-- ITS FALSE NEIGHBOUR: 'it returns false'. Refute it at one input. -/
def freezeCheckWrong : ChangeSpec := { name := "freezeCheck", fn := fun _ => fun
  | [d1, d2, d3] => { results := [.lit (.bool false)], args := [d1, d2, d3] }
  | _ => none }
def FreezeCheckWrongFalsely : Prop := freezeCheckRow.holds Try.pinned (OpenSpec.ofChange freezeCheckWrong)

/-- 'ceilinglaw11.FreezeGrows': WHATEVER THE INPUT: true; the input reads as it did. -/
def freezeGrowsSpec : ChangeSpec := { name := "freezeGrows", fn := fun _ => fun
  | [d1, d2, d3] => { results := [.lit (.bool true)], args := [d1, d2, d3] }
  | _ => none }
def freezeGrowsRow : OpenClaim := { program := "ytbjnoffdafpkgaa", sum := "68119d23bfaeebe3e2976f5a01ff5f302286198df77b7c4c33c42d87bfe1e561", func := "ceiling/ceilinglaw11.FreezeGrows", spec := "freezeGrows", unfollowed := true, recurses := true, loops := true, apart := false }
def FreezeGrowsSaid : Prop := freezeGrowsRow.holds Try.pinned (OpenSpec.ofChange freezeGrowsSpec)

/-- ITS FALSE NEIGHBOUR: 'it returns false'. Refute it at one input. -/
def freezeGrowsWrong : ChangeSpec := { name := "freezeGrows", fn := fun _ => fun
  | [d1, d2, d3] => { results := [.lit (.bool false)], args := [d1, d2, d3] }
  | _ => none }
def FreezeGrowsWrongFalsely : Prop := freezeGrowsRow.holds Try.pinned (OpenSpec.ofChange freezeGrowsWrong)

/-- 'ceilinglaw11.FreezeEnds': WHATEVER THE INPUT: true; the input reads as it did. -/
def freezeEndsSpec : ChangeSpec := { name := "freezeEnds", fn := fun _ => fun
  | [d1, d2] => { results := [.lit (.bool true)], args := [d1, d2] }
  | _ => none }
def freezeEndsRow : OpenClaim := { program := "ytbjnoffdafpkgaa", sum := "68119d23bfaeebe3e2976f5a01ff5f302286198df77b7c4c33c42d87bfe1e561", func := "ceiling/ceilinglaw11.FreezeEnds", spec := "freezeEnds", unfollowed := true, recurses := true, loops := true, apart := false }
def FreezeEndsSaid : Prop := freezeEndsRow.holds Try.pinned (OpenSpec.ofChange freezeEndsSpec)

/-- ITS FALSE NEIGHBOUR: 'it returns false'. Refute it at one input. -/
def freezeEndsWrong : ChangeSpec := { name := "freezeEnds", fn := fun _ => fun
  | [d1, d2] => { results := [.lit (.bool false)], args := [d1, d2] }
  | _ => none }
def FreezeEndsWrongFalsely : Prop := freezeEndsRow.holds Try.pinned (OpenSpec.ofChange freezeEndsWrong)

/-- 'ceilinglaw11.FreezeAgain': WHATEVER THE INPUT: true; the input reads as it did. -/
def freezeAgainSpec : ChangeSpec := { name := "freezeAgain", fn := fun _ => fun
  | [d1, d2, d3] => { results := [.lit (.bool true)], args := [d1, d2, d3] }
  | _ => none }
def freezeAgainRow : OpenClaim := { program := "ytbjnoffdafpkgaa", sum := "68119d23bfaeebe3e2976f5a01ff5f302286198df77b7c4c33c42d87bfe1e561", func := "ceiling/ceilinglaw11.FreezeAgain", spec := "freezeAgain", unfollowed := true, recurses := true, loops := true, apart := false }
def FreezeAgainSaid : Prop := freezeAgainRow.holds Try.pinned (OpenSpec.ofChange freezeAgainSpec)

/-- ITS FALSE NEIGHBOUR: 'it returns false'. Refute it at one input. -/
def freezeAgainWrong : ChangeSpec := { name := "freezeAgain", fn := fun _ => fun
  | [d1, d2, d3] => { results := [.lit (.bool false)], args := [d1, d2, d3] }
  | _ => none }
def FreezeAgainWrongFalsely : Prop := freezeAgainRow.holds Try.pinned (OpenSpec.ofChange freezeAgainWrong)

/- THE SECOND FORM. 'bulk': how many values and letters a reading holds, each counted each time it is reached (what is shared counts as often as it is met; a slice's spare places count too). A statement '..UptoSaid' is the law's where the arguments, and the package variables that the reading takes, are together of bulk at most 1048576: NARROWER than '..Said'. Prove '..Said' where nothing that the law and all that it calls make is longer than what came in: it says more and counts as full. Else prove '..UptoSaid'. A law counts once. -/
mutual
def uptoBulk {H : Type} : DataW H → Nat
  | .lit (.string bytes) => bytes.length + 1
  | .lit _ => 1
  | .nil => 1
  | .ptr d => uptoBulk d + 1
  | .slice elems spare => uptoBulkAll elems + uptoBulkAll spare + 1
  | .agg parts => uptoBulkAll parts + 1
  | .iface _ d => uptoBulk d + 1
  | .map entries => uptoBulkEntries entries + 1
  | .held _ => 1
def uptoBulkAll {H : Type} : List (DataW H) → Nat
  | [] => 0
  | d :: r => uptoBulk d + uptoBulkAll r
def uptoBulkEntries {H : Type} : List (Lit × DataW H) → Nat
  | [] => 0
  | x :: r => uptoBulkEntry x + uptoBulkEntries r
def uptoBulkEntry {H : Type} : Lit × DataW H → Nat
  | (.string bytes, d) => bytes.length + uptoBulk d + 1
  | (_, d) => uptoBulk d + 1
 end
def uptoSmall : (H : Type) → List (DataW H) → Bool := fun _ ds => decide (uptoBulkAll ds ≤ 1048576)
def OpenSpec.upto (s : _root_.Go.ChangeSpec) : _root_.Go.OpenSpec := { _root_.Go.OpenSpec.ofChange s with cond := some uptoSmall }

/-- 'ceilinglaw11.FreezeCheck', WHERE WHAT IT READS IS OF BULK AT MOST 1048576: true; the input reads as it did. -/
def freezeCheckUptoRow : OpenClaim := { program := "ytbjnoffdafpkgaa", sum := "68119d23bfaeebe3e2976f5a01ff5f302286198df77b7c4c33c42d87bfe1e561", func := "ceiling/ceilinglaw11.FreezeCheck", spec := "freezeCheck", unfollowed := true, recurses := true, loops := true, apart := false, narrowed := true }
def FreezeCheckUptoSaid : Prop := freezeCheckUptoRow.holds Try.pinned (OpenSpec.upto freezeCheckSpec)

/-- 'ceilinglaw11.FreezeGrows', WHERE WHAT IT READS IS OF BULK AT MOST 1048576: true; the input reads as it did. -/
def freezeGrowsUptoRow : OpenClaim := { program := "ytbjnoffdafpkgaa", sum := "68119d23bfaeebe3e2976f5a01ff5f302286198df77b7c4c33c42d87bfe1e561", func := "ceiling/ceilinglaw11.FreezeGrows", spec := "freezeGrows", unfollowed := true, recurses := true, loops := true, apart := false, narrowed := true }
def FreezeGrowsUptoSaid : Prop := freezeGrowsUptoRow.holds Try.pinned (OpenSpec.upto freezeGrowsSpec)

/-- 'ceilinglaw11.FreezeEnds', WHERE WHAT IT READS IS OF BULK AT MOST 1048576: true; the input reads as it did. -/
def freezeEndsUptoRow : OpenClaim := { program := "ytbjnoffdafpkgaa", sum := "68119d23bfaeebe3e2976f5a01ff5f302286198df77b7c4c33c42d87bfe1e561", func := "ceiling/ceilinglaw11.FreezeEnds", spec := "freezeEnds", unfollowed := true, recurses := true, loops := true, apart := false, narrowed := true }
def FreezeEndsUptoSaid : Prop := freezeEndsUptoRow.holds Try.pinned (OpenSpec.upto freezeEndsSpec)

/-- 'ceilinglaw11.FreezeAgain', WHERE WHAT IT READS IS OF BULK AT MOST 1048576: true; the input reads as it did. -/
def freezeAgainUptoRow : OpenClaim := { program := "ytbjnoffdafpkgaa", sum := "68119d23bfaeebe3e2976f5a01ff5f302286198df77b7c4c33c42d87bfe1e561", func := "ceiling/ceilinglaw11.FreezeAgain", spec := "freezeAgain", unfollowed := true, recurses := true, loops := true, apart := false, narrowed := true }
def FreezeAgainUptoSaid : Prop := freezeAgainUptoRow.holds Try.pinned (OpenSpec.upto freezeAgainSpec)

end Rows
end Go.Proofs.Ytbjnoffdafpkgaa
