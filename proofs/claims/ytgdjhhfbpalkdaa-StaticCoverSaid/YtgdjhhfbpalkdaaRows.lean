/-
  NARROWER THAN 'FOR EVERY INPUT', by the rows' own cells (each row's printed sentence says how): StaticInside: loops · StaticCover: loops.
  DERIVED. THE GIVEN ROWS OF THIS SEAT. 4 by the template 'for every input the law returns true; each argument reads behind the call as it read before'; 0 by the template 'total and deterministic' (their statements: YtgdjhhfbpalkdaaTotals.lean).
  GIVEN WITH THE SEED: the statements are not yours to turn. If you find one false, say at which input.
  Laid BY PROGRAM, IN A SANDBOX (cutbox-rows.mjs): the forced cells as the released guide's own fill.sh prints them over the translation b481e16fda0d2f2a… (all of the seat's roots in one cut). By AI agents, Wed Nov 11 2026. No macro, syntax, notation, axiom, sorry.
-/
import Derived.Test.YtgdjhhfbpalkdaaChecked
import GoSem.Claim
import GoSem.ClaimJoined
import GoSem.ClaimMapViews
import Derived.JoinedTies
import Derived.KernelRfl
namespace Go.Proofs.Ytgdjhhfbpalkdaa
/- THE CELL 'sum', in the pinned program and in every row, IS THE sha256 OF THE DUMP (.gsa) THAT YtgdjhhfbpalkdaaProg.lean LOADS. Nothing in Lean hashes anything: it is a label: what it is worth is what the hold of that sum in a sandbox is worth. -/
noncomputable def Try.pinned : Pinned := { name := "ytgdjhhfbpalkdaa", sum := "b481e16fda0d2f2a9e86637fe6699d025cb4026fab43820490ad41595c539b64", checked := Try.checked }
namespace Rows
def none {H : Type} : Left H := { results := [], args := [] }

/-- 'ceilinglaw07.StaticInside': WHATEVER THE INPUT: true; the input reads as it did. -/
def staticInsideSpec : ChangeSpec := { name := "staticInside", fn := fun _ => fun
  | [d1, d2] => { results := [.lit (.bool true)], args := [d1, d2] }
  | _ => none }
def staticInsideRow : OpenClaim := { program := "ytgdjhhfbpalkdaa", sum := "b481e16fda0d2f2a9e86637fe6699d025cb4026fab43820490ad41595c539b64", func := "ceiling/ceilinglaw07.StaticInside", spec := "staticInside", unfollowed := true, recurses := true, loops := true, apart := false }
def StaticInsideSaid : Prop := staticInsideRow.holds Try.pinned (OpenSpec.ofChange staticInsideSpec)

/-- ITS FALSE NEIGHBOUR: 'it returns false'. Refute it at one input. -/
def staticInsideWrong : ChangeSpec := { name := "staticInside", fn := fun _ => fun
  | [d1, d2] => { results := [.lit (.bool false)], args := [d1, d2] }
  | _ => none }
def StaticInsideWrongFalsely : Prop := staticInsideRow.holds Try.pinned (OpenSpec.ofChange staticInsideWrong)

/-- 'ceilinglaw07.StaticArithmetic': WHATEVER THE INPUT: true; the input reads as it did. -/
def staticArithmeticSpec : ChangeSpec := { name := "staticArithmetic", fn := fun _ => fun
  | [d1, d2] => { results := [.lit (.bool true)], args := [d1, d2] }
  | _ => none }
def staticArithmeticRow : OpenClaim := { program := "ytgdjhhfbpalkdaa", sum := "b481e16fda0d2f2a9e86637fe6699d025cb4026fab43820490ad41595c539b64", func := "ceiling/ceilinglaw07.StaticArithmetic", spec := "staticArithmetic", unfollowed := true, recurses := true, apart := false }
def StaticArithmeticSaid : Prop := staticArithmeticRow.holds Try.pinned (OpenSpec.ofChange staticArithmeticSpec)

/-- ITS FALSE NEIGHBOUR: 'it returns false'. Refute it at one input. -/
def staticArithmeticWrong : ChangeSpec := { name := "staticArithmetic", fn := fun _ => fun
  | [d1, d2] => { results := [.lit (.bool false)], args := [d1, d2] }
  | _ => none }
def StaticArithmeticWrongFalsely : Prop := staticArithmeticRow.holds Try.pinned (OpenSpec.ofChange staticArithmeticWrong)

/-- 'ceilinglaw07.StaticCover': WHATEVER THE INPUT: true; the input reads as it did. -/
def staticCoverSpec : ChangeSpec := { name := "staticCover", fn := fun _ => fun
  | [d1, d2, d3] => { results := [.lit (.bool true)], args := [d1, d2, d3] }
  | _ => none }
def staticCoverRow : OpenClaim := { program := "ytgdjhhfbpalkdaa", sum := "b481e16fda0d2f2a9e86637fe6699d025cb4026fab43820490ad41595c539b64", func := "ceiling/ceilinglaw07.StaticCover", spec := "staticCover", unfollowed := true, recurses := true, loops := true, apart := false }
def StaticCoverSaid : Prop := staticCoverRow.holds Try.pinned (OpenSpec.ofChange staticCoverSpec)

/-- ITS FALSE NEIGHBOUR: 'it returns false'. Refute it at one input. -/
def staticCoverWrong : ChangeSpec := { name := "staticCover", fn := fun _ => fun
  | [d1, d2, d3] => { results := [.lit (.bool false)], args := [d1, d2, d3] }
  | _ => none }
def StaticCoverWrongFalsely : Prop := staticCoverRow.holds Try.pinned (OpenSpec.ofChange staticCoverWrong)

/-- 'ceilinglaw07.StaticKnown': WHATEVER THE INPUT: true; the input reads as it did. -/
def staticKnownSpec : ChangeSpec := { name := "staticKnown", fn := fun _ => fun
  | [] => { results := [.lit (.bool true)], args := [] }
  | _ => none }
def staticKnownRow : OpenClaim := { program := "ytgdjhhfbpalkdaa", sum := "b481e16fda0d2f2a9e86637fe6699d025cb4026fab43820490ad41595c539b64", func := "ceiling/ceilinglaw07.StaticKnown", spec := "staticKnown", unfollowed := true, recurses := true, apart := false }
def StaticKnownSaid : Prop := staticKnownRow.holds Try.pinned (OpenSpec.ofChange staticKnownSpec)

/-- ITS FALSE NEIGHBOUR: 'it returns false'. Refute it at one input. -/
def staticKnownWrong : ChangeSpec := { name := "staticKnown", fn := fun _ => fun
  | [] => { results := [.lit (.bool false)], args := [] }
  | _ => none }
def StaticKnownWrongFalsely : Prop := staticKnownRow.holds Try.pinned (OpenSpec.ofChange staticKnownWrong)

/- THE SECOND FORM. 'bulk': how many values and letters a reading holds, each counted each time it is reached (what is shared counts as often as it is met; a slice's spare places count too). A statement '..UptoSaid' is the law's where the arguments, and the package variables that the reading takes, are together of bulk at most 1048576: NARROWER than '..Said'. Prove '..Said' where nothing that the law and all that it calls make is longer than what came in: it says more and counts as full. Else prove '..UptoSaid'. A law counts once. -/
mutual
def uptoBulk {H : Type} : DataW H → Nat
  | .lit (.string bytes) => bytes.length + 1
  | .lit _ => 1
  | .nil => 1
  | .ptr d => uptoBulk d + 1
  | .slice elems spare => uptoBulkAll elems + uptoBulkAll spare + 1
  | .agg parts => uptoBulkAll parts + 1
  | .iface _ d => uptoBulk d + 1
  | .map entries => uptoBulkEntries entries + 1
  | .held _ => 1
def uptoBulkAll {H : Type} : List (DataW H) → Nat
  | [] => 0
  | d :: r => uptoBulk d + uptoBulkAll r
def uptoBulkEntries {H : Type} : List (Lit × DataW H) → Nat
  | [] => 0
  | x :: r => uptoBulkEntry x + uptoBulkEntries r
def uptoBulkEntry {H : Type} : Lit × DataW H → Nat
  | (.string bytes, d) => bytes.length + uptoBulk d + 1
  | (_, d) => uptoBulk d + 1
 end
def uptoSmall : (H : Type) → List (DataW H) → Bool := fun _ ds => decide (uptoBulkAll ds ≤ 1048576)
def OpenSpec.upto (s : _root_.Go.ChangeSpec) : _root_.Go.OpenSpec := { _root_.Go.OpenSpec.ofChange s with cond := some uptoSmall }

/-- 'ceilinglaw07.StaticInside', WHERE WHAT IT READS IS OF BULK AT MOST 1048576: true; the input reads as it did. -/
def staticInsideUptoRow : OpenClaim := { program := "ytgdjhhfbpalkdaa", sum := "b481e16fda0d2f2a9e86637fe6699d025cb4026fab43820490ad41595c539b64", func := "ceiling/ceilinglaw07.StaticInside", spec := "staticInside", unfollowed := true, recurses := true, loops := true, apart := false, narrowed := true }
def StaticInsideUptoSaid : Prop := staticInsideUptoRow.holds Try.pinned (OpenSpec.upto staticInsideSpec)

/-- 'ceilinglaw07.StaticArithmetic', WHERE WHAT IT READS IS OF BULK AT MOST 1048576: true; the input reads as it did. -/
def staticArithmeticUptoRow : OpenClaim := { program := "ytgdjhhfbpalkdaa", sum := "b481e16fda0d2f2a9e86637fe6699d025cb4026fab43820490ad41595c539b64", func := "ceiling/ceilinglaw07.StaticArithmetic", spec := "staticArithmetic", unfollowed := true, recurses := true, apart := false, narrowed := true }
def StaticArithmeticUptoSaid : Prop := staticArithmeticUptoRow.holds Try.pinned (OpenSpec.upto staticArithmeticSpec)

/-- 'ceilinglaw07.StaticCover', WHERE WHAT IT READS IS OF BULK AT MOST 1048576: true; the input reads as it did. -/
def staticCoverUptoRow : OpenClaim := { program := "ytgdjhhfbpalkdaa", sum := "b481e16fda0d2f2a9e86637fe6699d025cb4026fab43820490ad41595c539b64", func := "ceiling/ceilinglaw07.StaticCover", spec := "staticCover", unfollowed := true, recurses := true, loops := true, apart := false, narrowed := true }
def StaticCoverUptoSaid : Prop := staticCoverUptoRow.holds Try.pinned (OpenSpec.upto staticCoverSpec)

/-- 'ceilinglaw07.StaticKnown', WHERE WHAT IT READS IS OF BULK AT MOST 1048576: true; the input reads as it did. -/
def staticKnownUptoRow : OpenClaim := { program := "ytgdjhhfbpalkdaa", sum := "b481e16fda0d2f2a9e86637fe6699d025cb4026fab43820490ad41595c539b64", func := "ceiling/ceilinglaw07.StaticKnown", spec := "staticKnown", unfollowed := true, recurses := true, apart := false, narrowed := true }
def StaticKnownUptoSaid : Prop := staticKnownUptoRow.holds Try.pinned (OpenSpec.upto staticKnownSpec)

end Rows
end Go.Proofs.Ytgdjhhfbpalkdaa
