/-
  NARROWER THAN 'FOR EVERY INPUT', by the rows' own cells (each row's printed sentence says how): ScopeSelects: loops · ScopeHides: loops · ScopeFinds: loops · ScopeAdds: loops · ScopePairs: loops · ScopeInner: loops.
  DERIVED. THE GIVEN ROWS OF THIS SEAT. 7 by the template 'for every input the law returns true; each argument reads behind the call as it read before'; 0 by the template 'total and deterministic' (their statements: YtlgcboaojdhneaaTotals.lean).
  GIVEN WITH THE SEED: the statements are not yours to turn. If you find one false, say at which input.
  Laid BY PROGRAM, IN A SANDBOX (cutbox-rows.mjs): the forced cells as the released guide's own fill.sh prints them over the translation 6895e32ae4afd778… (all of the seat's roots in one cut). By AI agents, Wed Nov 11 2026. No macro, syntax, notation, axiom, sorry.
-/
import Derived.Test.YtlgcboaojdhneaaChecked
import GoSem.Claim
import GoSem.ClaimJoined
import GoSem.ClaimMapViews
import Derived.JoinedTies
import Derived.KernelRfl
namespace Go.Proofs.Ytlgcboaojdhneaa
/- THE CELL 'sum', in the pinned program and in every row, IS THE sha256 OF THE DUMP (.gsa) THAT YtlgcboaojdhneaaProg.lean LOADS. Nothing in Lean hashes anything: it is a label: what it is worth is what the hold of that sum in a sandbox is worth. -/
noncomputable def Try.pinned : Pinned := { name := "ytlgcboaojdhneaa", sum := "6895e32ae4afd7780bd36787949d2c9f0b7fb4c34c2fd3489e0e39c863879873", checked := Try.checked }
namespace Rows
def none {H : Type} : Left H := { results := [], args := [] }

/-- 'ceilinglaw08.ScopeSelects': WHATEVER THE INPUT: true; the input reads as it did. -/
def scopeSelectsSpec : ChangeSpec := { name := "scopeSelects", fn := fun _ => fun
  | [d1, d2, d3] => { results := [.lit (.bool true)], args := [d1, d2, d3] }
  | _ => none }
def scopeSelectsRow : OpenClaim := { program := "ytlgcboaojdhneaa", sum := "6895e32ae4afd7780bd36787949d2c9f0b7fb4c34c2fd3489e0e39c863879873", func := "ceiling/ceilinglaw08.ScopeSelects", spec := "scopeSelects", unfollowed := true, recurses := true, loops := true, apart := false }
def ScopeSelectsSaid : Prop := scopeSelectsRow.holds Try.pinned (OpenSpec.ofChange scopeSelectsSpec)

/-- ITS FALSE NEIGHBOUR: 'it returns false'. Refute it at one input. -/
def scopeSelectsWrong : ChangeSpec := { name := "scopeSelects", fn := fun _ => fun
  | [d1, d2, d3] => { results := [.lit (.bool false)], args := [d1, d2, d3] }
  | _ => none }
def ScopeSelectsWrongFalsely : Prop := scopeSelectsRow.holds Try.pinned (OpenSpec.ofChange scopeSelectsWrong)

/-- 'ceilinglaw08.ScopeHides': WHATEVER THE INPUT: true; the input reads as it did. -/
def scopeHidesSpec : ChangeSpec := { name := "scopeHides", fn := fun _ => fun
  | [d1, d2, d3] => { results := [.lit (.bool true)], args := [d1, d2, d3] }
  | _ => none }
def scopeHidesRow : OpenClaim := { program := "ytlgcboaojdhneaa", sum := "6895e32ae4afd7780bd36787949d2c9f0b7fb4c34c2fd3489e0e39c863879873", func := "ceiling/ceilinglaw08.ScopeHides", spec := "scopeHides", unfollowed := true, recurses := true, loops := true, apart := false }
def ScopeHidesSaid : Prop := scopeHidesRow.holds Try.pinned (OpenSpec.ofChange scopeHidesSpec)

/-- ITS FALSE NEIGHBOUR: 'it returns false'. Refute it at one input. -/
def scopeHidesWrong : ChangeSpec := { name := "scopeHides", fn := fun _ => fun
  | [d1, d2, d3] => { results := [.lit (.bool false)], args := [d1, d2, d3] }
  | _ => none }
def ScopeHidesWrongFalsely : Prop := scopeHidesRow.holds Try.pinned (OpenSpec.ofChange scopeHidesWrong)

/-- 'ceilinglaw08.ScopeFinds': WHATEVER THE INPUT: true; the input reads as it did. -/
def scopeFindsSpec : ChangeSpec := { name := "scopeFinds", fn := fun _ => fun
  | [d1, d2, d3, d4, d5] => { results := [.lit (.bool true)], args := [d1, d2, d3, d4, d5] }
  | _ => none }
def scopeFindsRow : OpenClaim := { program := "ytlgcboaojdhneaa", sum := "6895e32ae4afd7780bd36787949d2c9f0b7fb4c34c2fd3489e0e39c863879873", func := "ceiling/ceilinglaw08.ScopeFinds", spec := "scopeFinds", unfollowed := true, recurses := true, loops := true, apart := false }
def ScopeFindsSaid : Prop := scopeFindsRow.holds Try.pinned (OpenSpec.ofChange scopeFindsSpec)

/-- ITS FALSE NEIGHBOUR: 'it returns false'. Refute it at one input. -/
def scopeFindsWrong : ChangeSpec := { name := "scopeFinds", fn := fun _ => fun
  | [d1, d2, d3, d4, d5] => { results := [.lit (.bool false)], args := [d1, d2, d3, d4, d5] }
  | _ => none }
def ScopeFindsWrongFalsely : Prop := scopeFindsRow.holds Try.pinned (OpenSpec.ofChange scopeFindsWrong)

/-- 'ceilinglaw08.ScopeAdds': WHATEVER THE INPUT: true; the input reads as it did. -/
def scopeAddsSpec : ChangeSpec := { name := "scopeAdds", fn := fun _ => fun
  | [d1, d2] => { results := [.lit (.bool true)], args := [d1, d2] }
  | _ => none }
def scopeAddsRow : OpenClaim := { program := "ytlgcboaojdhneaa", sum := "6895e32ae4afd7780bd36787949d2c9f0b7fb4c34c2fd3489e0e39c863879873", func := "ceiling/ceilinglaw08.ScopeAdds", spec := "scopeAdds", unfollowed := true, recurses := true, loops := true, apart := false }
def ScopeAddsSaid : Prop := scopeAddsRow.holds Try.pinned (OpenSpec.ofChange scopeAddsSpec)

/-- ITS FALSE NEIGHBOUR: 'it returns false'. Refute it at one input. -/
def scopeAddsWrong : ChangeSpec := { name := "scopeAdds", fn := fun _ => fun
  | [d1, d2] => { results := [.lit (.bool false)], args := [d1, d2] }
  | _ => none }
def ScopeAddsWrongFalsely : Prop := scopeAddsRow.holds Try.pinned (OpenSpec.ofChange scopeAddsWrong)

/-- 'ceilinglaw08.ScopePairs': WHATEVER THE INPUT: true; the input reads as it did. -/
def scopePairsSpec : ChangeSpec := { name := "scopePairs", fn := fun _ => fun
  | [d1, d2, d3] => { results := [.lit (.bool true)], args := [d1, d2, d3] }
  | _ => none }
def scopePairsRow : OpenClaim := { program := "ytlgcboaojdhneaa", sum := "6895e32ae4afd7780bd36787949d2c9f0b7fb4c34c2fd3489e0e39c863879873", func := "ceiling/ceilinglaw08.ScopePairs", spec := "scopePairs", unfollowed := true, recurses := true, loops := true, apart := false }
def ScopePairsSaid : Prop := scopePairsRow.holds Try.pinned (OpenSpec.ofChange scopePairsSpec)

/-- ITS FALSE NEIGHBOUR: 'it returns false'. Refute it at one input. -/
def scopePairsWrong : ChangeSpec := { name := "scopePairs", fn := fun _ => fun
  | [d1, d2, d3] => { results := [.lit (.bool false)], args := [d1, d2, d3] }
  | _ => none }
def ScopePairsWrongFalsely : Prop := scopePairsRow.holds Try.pinned (OpenSpec.ofChange scopePairsWrong)

/-- 'ceilinglaw08.ScopeInner': WHATEVER THE INPUT: true; the input reads as it did. -/
def scopeInnerSpec : ChangeSpec := { name := "scopeInner", fn := fun _ => fun
  | [d1, d2, d3, d4] => { results := [.lit (.bool true)], args := [d1, d2, d3, d4] }
  | _ => none }
def scopeInnerRow : OpenClaim := { program := "ytlgcboaojdhneaa", sum := "6895e32ae4afd7780bd36787949d2c9f0b7fb4c34c2fd3489e0e39c863879873", func := "ceiling/ceilinglaw08.ScopeInner", spec := "scopeInner", unfollowed := true, recurses := true, loops := true, apart := false }
def ScopeInnerSaid : Prop := scopeInnerRow.holds Try.pinned (OpenSpec.ofChange scopeInnerSpec)

/-- ITS FALSE NEIGHBOUR: 'it returns false'. Refute it at one input. -/
def scopeInnerWrong : ChangeSpec := { name := "scopeInner", fn := fun _ => fun
  | [d1, d2, d3, d4] => { results := [.lit (.bool false)], args := [d1, d2, d3, d4] }
  | _ => none }
def ScopeInnerWrongFalsely : Prop := scopeInnerRow.holds Try.pinned (OpenSpec.ofChange scopeInnerWrong)

/-- 'ceilinglaw08.ScopeKnown': WHATEVER THE INPUT: true; the input reads as it did. -/
def scopeKnownSpec : ChangeSpec := { name := "scopeKnown", fn := fun _ => fun
  | [] => { results := [.lit (.bool true)], args := [] }
  | _ => none }
def scopeKnownRow : OpenClaim := { program := "ytlgcboaojdhneaa", sum := "6895e32ae4afd7780bd36787949d2c9f0b7fb4c34c2fd3489e0e39c863879873", func := "ceiling/ceilinglaw08.ScopeKnown", spec := "scopeKnown", unfollowed := true, recurses := true, apart := false }
def ScopeKnownSaid : Prop := scopeKnownRow.holds Try.pinned (OpenSpec.ofChange scopeKnownSpec)

/-- ITS FALSE NEIGHBOUR: 'it returns false'. Refute it at one input. -/
def scopeKnownWrong : ChangeSpec := { name := "scopeKnown", fn := fun _ => fun
  | [] => { results := [.lit (.bool false)], args := [] }
  | _ => none }
def ScopeKnownWrongFalsely : Prop := scopeKnownRow.holds Try.pinned (OpenSpec.ofChange scopeKnownWrong)

/- THE SECOND FORM. 'bulk': how many values and letters a reading holds, each counted each time it is reached (what is shared counts as often as it is met; a slice's spare places count too). A statement '..UptoSaid' is the law's where the arguments, and the package variables that the reading takes, are together of bulk at most 1048576: NARROWER than '..Said'. Prove '..Said' where nothing that the law and all that it calls make is longer than what came in: it says more and counts as full. Else prove '..UptoSaid'. A law counts once. -/
mutual
def uptoBulk {H : Type} : DataW H → Nat
  | .lit (.string bytes) => bytes.length + 1
  | .lit _ => 1
  | .nil => 1
  | .ptr d => uptoBulk d + 1
  | .slice elems spare => uptoBulkAll elems + uptoBulkAll spare + 1
  | .agg parts => uptoBulkAll parts + 1
  | .iface _ d => uptoBulk d + 1
  | .map entries => uptoBulkEntries entries + 1
  | .held _ => 1
def uptoBulkAll {H : Type} : List (DataW H) → Nat
  | [] => 0
  | d :: r => uptoBulk d + uptoBulkAll r
def uptoBulkEntries {H : Type} : List (Lit × DataW H) → Nat
  | [] => 0
  | x :: r => uptoBulkEntry x + uptoBulkEntries r
def uptoBulkEntry {H : Type} : Lit × DataW H → Nat
  | (.string bytes, d) => bytes.length + uptoBulk d + 1
  | (_, d) => uptoBulk d + 1
 end
def uptoSmall : (H : Type) → List (DataW H) → Bool := fun _ ds => decide (uptoBulkAll ds ≤ 1048576)
def OpenSpec.upto (s : _root_.Go.ChangeSpec) : _root_.Go.OpenSpec := { _root_.Go.OpenSpec.ofChange s with cond := some uptoSmall }

/-- 'ceilinglaw08.ScopeSelects', WHERE WHAT IT READS IS OF BULK AT MOST 1048576: true; the input reads as it did. -/
def scopeSelectsUptoRow : OpenClaim := { program := "ytlgcboaojdhneaa", sum := "6895e32ae4afd7780bd36787949d2c9f0b7fb4c34c2fd3489e0e39c863879873", func := "ceiling/ceilinglaw08.ScopeSelects", spec := "scopeSelects", unfollowed := true, recurses := true, loops := true, apart := false, narrowed := true }
def ScopeSelectsUptoSaid : Prop := scopeSelectsUptoRow.holds Try.pinned (OpenSpec.upto scopeSelectsSpec)

/-- 'ceilinglaw08.ScopeHides', WHERE WHAT IT READS IS OF BULK AT MOST 1048576: true; the input reads as it did. -/
def scopeHidesUptoRow : OpenClaim := { program := "ytlgcboaojdhneaa", sum := "6895e32ae4afd7780bd36787949d2c9f0b7fb4c34c2fd3489e0e39c863879873", func := "ceiling/ceilinglaw08.ScopeHides", spec := "scopeHides", unfollowed := true, recurses := true, loops := true, apart := false, narrowed := true }
def ScopeHidesUptoSaid : Prop := scopeHidesUptoRow.holds Try.pinned (OpenSpec.upto scopeHidesSpec)

/-- 'ceilinglaw08.ScopeFinds', WHERE WHAT IT READS IS OF BULK AT MOST 1048576: true; the input reads as it did. -/
def scopeFindsUptoRow : OpenClaim := { program := "ytlgcboaojdhneaa", sum := "6895e32ae4afd7780bd36787949d2c9f0b7fb4c34c2fd3489e0e39c863879873", func := "ceiling/ceilinglaw08.ScopeFinds", spec := "scopeFinds", unfollowed := true, recurses := true, loops := true, apart := false, narrowed := true }
def ScopeFindsUptoSaid : Prop := scopeFindsUptoRow.holds Try.pinned (OpenSpec.upto scopeFindsSpec)

/-- 'ceilinglaw08.ScopeAdds', WHERE WHAT IT READS IS OF BULK AT MOST 1048576: true; the input reads as it did. -/
def scopeAddsUptoRow : OpenClaim := { program := "ytlgcboaojdhneaa", sum := "6895e32ae4afd7780bd36787949d2c9f0b7fb4c34c2fd3489e0e39c863879873", func := "ceiling/ceilinglaw08.ScopeAdds", spec := "scopeAdds", unfollowed := true, recurses := true, loops := true, apart := false, narrowed := true }
def ScopeAddsUptoSaid : Prop := scopeAddsUptoRow.holds Try.pinned (OpenSpec.upto scopeAddsSpec)

/-- 'ceilinglaw08.ScopePairs', WHERE WHAT IT READS IS OF BULK AT MOST 1048576: true; the input reads as it did. -/
def scopePairsUptoRow : OpenClaim := { program := "ytlgcboaojdhneaa", sum := "6895e32ae4afd7780bd36787949d2c9f0b7fb4c34c2fd3489e0e39c863879873", func := "ceiling/ceilinglaw08.ScopePairs", spec := "scopePairs", unfollowed := true, recurses := true, loops := true, apart := false, narrowed := true }
def ScopePairsUptoSaid : Prop := scopePairsUptoRow.holds Try.pinned (OpenSpec.upto scopePairsSpec)

/-- 'ceilinglaw08.ScopeInner', WHERE WHAT IT READS IS OF BULK AT MOST 1048576: true; the input reads as it did. -/
def scopeInnerUptoRow : OpenClaim := { program := "ytlgcboaojdhneaa", sum := "6895e32ae4afd7780bd36787949d2c9f0b7fb4c34c2fd3489e0e39c863879873", func := "ceiling/ceilinglaw08.ScopeInner", spec := "scopeInner", unfollowed := true, recurses := true, loops := true, apart := false, narrowed := true }
def ScopeInnerUptoSaid : Prop := scopeInnerUptoRow.holds Try.pinned (OpenSpec.upto scopeInnerSpec)

/-- 'ceilinglaw08.ScopeKnown', WHERE WHAT IT READS IS OF BULK AT MOST 1048576: true; the input reads as it did. -/
def scopeKnownUptoRow : OpenClaim := { program := "ytlgcboaojdhneaa", sum := "6895e32ae4afd7780bd36787949d2c9f0b7fb4c34c2fd3489e0e39c863879873", func := "ceiling/ceilinglaw08.ScopeKnown", spec := "scopeKnown", unfollowed := true, recurses := true, apart := false, narrowed := true }
def ScopeKnownUptoSaid : Prop := scopeKnownUptoRow.holds Try.pinned (OpenSpec.upto scopeKnownSpec)

end Rows
end Go.Proofs.Ytlgcboaojdhneaa
