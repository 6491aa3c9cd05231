/-
  NARROWER THAN 'FOR EVERY INPUT', by the rows' own cells (each row's printed sentence says how): StaticValues: loops · StaticRanges: loops · StaticChoices: loops.
  DERIVED. THE GIVEN ROWS OF THIS SEAT. 3 by the template 'for every input the law returns true; each argument reads behind the call as it read before'; 0 by the template 'total and deterministic' (their statements: YtgdjhhfbpalkdaaGreatTotals.lean).
  GIVEN WITH THE SEED: the statements are not yours to turn. If you find one false, say at which input.
  Laid BY PROGRAM, IN A SANDBOX (cutbox-rows.mjs): the forced cells as the released guide's own fill.sh prints them over the translation 942e2d939dd53a24… (all of the seat's roots in one cut). By AI agents, Wed Nov 11 2026. No macro, syntax, notation, axiom, sorry.
-/
import Derived.Test.YtgdjhhfbpalkdaaGreatChecked
import GoSem.Claim
import GoSem.ClaimJoined
import GoSem.ClaimMapViews
import Derived.JoinedTies
import Derived.KernelRfl
namespace Go.Proofs.YtgdjhhfbpalkdaaGreat
/- THE CELL 'sum', in the pinned program and in every row, IS THE sha256 OF THE DUMP (.gsa) THAT YtgdjhhfbpalkdaaGreatProg.lean LOADS. Nothing in Lean hashes anything: it is a label: what it is worth is what the hold of that sum in a sandbox is worth. -/
noncomputable def Tryz.pinned : Pinned := { name := "ytgdjhhfbpalkdaagreat", sum := "942e2d939dd53a247727d42960bf5d6420ab489e6a680952d308f440ceb57d3e", checked := Tryz.checked }
namespace Rows
def none {H : Type} : Left H := { results := [], args := [] }

/-- 'ceilinglaw07.StaticValues': WHATEVER THE INPUT: true; the input reads as it did. -/
def staticValuesSpec : ChangeSpec := { name := "staticValues", fn := fun _ => fun
  | [d1, d2] => { results := [.lit (.bool true)], args := [d1, d2] }
  | _ => none }
def staticValuesRow : OpenClaim := { program := "ytgdjhhfbpalkdaagreat", sum := "942e2d939dd53a247727d42960bf5d6420ab489e6a680952d308f440ceb57d3e", func := "ceiling/ceilinglaw07.StaticValues", spec := "staticValues", unfollowed := true, recurses := true, loops := true, apart := false }
def StaticValuesSaid : Prop := staticValuesRow.holds Tryz.pinned (OpenSpec.ofChange staticValuesSpec)

/-- ITS FALSE NEIGHBOUR: 'it returns false'. Refute it at one input. -/
def staticValuesWrong : ChangeSpec := { name := "staticValues", fn := fun _ => fun
  | [d1, d2] => { results := [.lit (.bool false)], args := [d1, d2] }
  | _ => none }
def StaticValuesWrongFalsely : Prop := staticValuesRow.holds Tryz.pinned (OpenSpec.ofChange staticValuesWrong)

/-- 'ceilinglaw07.StaticRanges': WHATEVER THE INPUT: true; the input reads as it did. -/
def staticRangesSpec : ChangeSpec := { name := "staticRanges", fn := fun _ => fun
  | [d1, d2, d3, d4] => { results := [.lit (.bool true)], args := [d1, d2, d3, d4] }
  | _ => none }
def staticRangesRow : OpenClaim := { program := "ytgdjhhfbpalkdaagreat", sum := "942e2d939dd53a247727d42960bf5d6420ab489e6a680952d308f440ceb57d3e", func := "ceiling/ceilinglaw07.StaticRanges", spec := "staticRanges", unfollowed := true, recurses := true, loops := true, apart := false }
def StaticRangesSaid : Prop := staticRangesRow.holds Tryz.pinned (OpenSpec.ofChange staticRangesSpec)

/-- ITS FALSE NEIGHBOUR: 'it returns false'. Refute it at one input. -/
def staticRangesWrong : ChangeSpec := { name := "staticRanges", fn := fun _ => fun
  | [d1, d2, d3, d4] => { results := [.lit (.bool false)], args := [d1, d2, d3, d4] }
  | _ => none }
def StaticRangesWrongFalsely : Prop := staticRangesRow.holds Tryz.pinned (OpenSpec.ofChange staticRangesWrong)

/-- 'ceilinglaw07.StaticChoices': WHATEVER THE INPUT: true; the input reads as it did. -/
def staticChoicesSpec : ChangeSpec := { name := "staticChoices", fn := fun _ => fun
  | [d1, d2, d3] => { results := [.lit (.bool true)], args := [d1, d2, d3] }
  | _ => none }
def staticChoicesRow : OpenClaim := { program := "ytgdjhhfbpalkdaagreat", sum := "942e2d939dd53a247727d42960bf5d6420ab489e6a680952d308f440ceb57d3e", func := "ceiling/ceilinglaw07.StaticChoices", spec := "staticChoices", unfollowed := true, recurses := true, loops := true, apart := false }
def StaticChoicesSaid : Prop := staticChoicesRow.holds Tryz.pinned (OpenSpec.ofChange staticChoicesSpec)

/-- ITS FALSE NEIGHBOUR: 'it returns false'. Refute it at one input. -/
def staticChoicesWrong : ChangeSpec := { name := "staticChoices", fn := fun _ => fun
  | [d1, d2, d3] => { results := [.lit (.bool false)], args := [d1, d2, d3] }
  | _ => none }
def StaticChoicesWrongFalsely : Prop := staticChoicesRow.holds Tryz.pinned (OpenSpec.ofChange staticChoicesWrong)

/- THE SECOND FORM. 'bulk': how many values and letters a reading holds, each counted each time it is reached (what is shared counts as often as it is met; a slice's spare places count too). A statement '..UptoSaid' is the law's where the arguments, and the package variables that the reading takes, are together of bulk at most 1048576: NARROWER than '..Said'. Prove '..Said' where nothing that the law and all that it calls make is longer than what came in: it says more and counts as full. Else prove '..UptoSaid'. A law counts once. -/
mutual
def uptoBulk {H : Type} : DataW H → Nat
  | .lit (.string bytes) => bytes.length + 1
  | .lit _ => 1
  | .nil => 1
  | .ptr d => uptoBulk d + 1
  | .slice elems spare => uptoBulkAll elems + uptoBulkAll spare + 1
  | .agg parts => uptoBulkAll parts + 1
  | .iface _ d => uptoBulk d + 1
  | .map entries => uptoBulkEntries entries + 1
  | .held _ => 1
def uptoBulkAll {H : Type} : List (DataW H) → Nat
  | [] => 0
  | d :: r => uptoBulk d + uptoBulkAll r
def uptoBulkEntries {H : Type} : List (Lit × DataW H) → Nat
  | [] => 0
  | x :: r => uptoBulkEntry x + uptoBulkEntries r
def uptoBulkEntry {H : Type} : Lit × DataW H → Nat
  | (.string bytes, d) => bytes.length + uptoBulk d + 1
  | (_, d) => uptoBulk d + 1
 end
def uptoSmall : (H : Type) → List (DataW H) → Bool := fun _ ds => decide (uptoBulkAll ds ≤ 1048576)
def OpenSpec.upto (s : _root_.Go.ChangeSpec) : _root_.Go.OpenSpec := { _root_.Go.OpenSpec.ofChange s with cond := some uptoSmall }

/-- 'ceilinglaw07.StaticValues', WHERE WHAT IT READS IS OF BULK AT MOST 1048576: true; the input reads as it did. -/
def staticValuesUptoRow : OpenClaim := { program := "ytgdjhhfbpalkdaagreat", sum := "942e2d939dd53a247727d42960bf5d6420ab489e6a680952d308f440ceb57d3e", func := "ceiling/ceilinglaw07.StaticValues", spec := "staticValues", unfollowed := true, recurses := true, loops := true, apart := false, narrowed := true }
def StaticValuesUptoSaid : Prop := staticValuesUptoRow.holds Tryz.pinned (OpenSpec.upto staticValuesSpec)

/-- 'ceilinglaw07.StaticRanges', WHERE WHAT IT READS IS OF BULK AT MOST 1048576: true; the input reads as it did. -/
def staticRangesUptoRow : OpenClaim := { program := "ytgdjhhfbpalkdaagreat", sum := "942e2d939dd53a247727d42960bf5d6420ab489e6a680952d308f440ceb57d3e", func := "ceiling/ceilinglaw07.StaticRanges", spec := "staticRanges", unfollowed := true, recurses := true, loops := true, apart := false, narrowed := true }
def StaticRangesUptoSaid : Prop := staticRangesUptoRow.holds Tryz.pinned (OpenSpec.upto staticRangesSpec)

/-- 'ceilinglaw07.StaticChoices', WHERE WHAT IT READS IS OF BULK AT MOST 1048576: true; the input reads as it did. -/
def staticChoicesUptoRow : OpenClaim := { program := "ytgdjhhfbpalkdaagreat", sum := "942e2d939dd53a247727d42960bf5d6420ab489e6a680952d308f440ceb57d3e", func := "ceiling/ceilinglaw07.StaticChoices", spec := "staticChoices", unfollowed := true, recurses := true, loops := true, apart := false, narrowed := true }
def StaticChoicesUptoSaid : Prop := staticChoicesUptoRow.holds Tryz.pinned (OpenSpec.upto staticChoicesSpec)

end Rows
end Go.Proofs.YtgdjhhfbpalkdaaGreat
