/-
  DERIVED. GIVEN WITH THE SEED: THE CARDS: each row of YtfaecpkocgcofaaGreatDoorRows.lean that lists a variable, with what it lists TIED to the program's text (the seventh form; the later family's looks); each row that meets fmt, with fmt's text TOLD by the authors' own Lean function (tested against real Go, not proved from fmt's source: count such statements apart). THE CARD IS WHAT COUNTS. Prove the row's statement (the work); the ties are given (YtfaecpkocgcofaaGreatDoorTie.lean); close each card by the builder's one call (the guide's Derived/Test/ToyasCard.lean, 'card_holds'). Laid BY PROGRAM, IN A SANDBOX (cutbox-door.mjs). By AI agents, Wed Nov 11 2026. No macro, syntax, notation, axiom, sorry.
-/
import Derived.Test.YtfaecpkocgcofaaGreatDoorRows
import GoSem.ClaimSeven
namespace Go.Proofs.YtfaecpkocgcofaaGreatDoor
namespace Rows

/-- THE TIED CARD OF 'ceilinglaw09.ResolveSettles'. -/
def resolveSettlesCard : Claim7 := { stood := { row := resolveSettlesRow, standIns := [], harness := (true, "0b6301ff082788cca727cf2f7822ef65a6959b7b7cb1796682618ca0c609887b"), looks := false }, kinds := [], alts := [], laidByText := true, laidKinds := [.listed, .data], laidTests := true, laidLooks := .later }
def ResolveSettlesCardSaid : Prop := Claim7.holds Tryz.pinned (.plain (OpenSpec.ofChange resolveSettlesSpec)) resolveSettlesCard

/-- THE TIED CARD OF 'ceilinglaw09.ResolveKnown'. -/
def resolveKnownCard : Claim7 := { stood := { row := resolveKnownRow, standIns := [], harness := (true, "0b6301ff082788cca727cf2f7822ef65a6959b7b7cb1796682618ca0c609887b"), looks := false }, kinds := [], alts := [], laidByText := true, laidKinds := [.listed, .data], laidTests := true, laidLooks := .later }
def ResolveKnownCardSaid : Prop := Claim7.holds Tryz.pinned (.plain (OpenSpec.ofChange resolveKnownSpec)) resolveKnownCard

/-- THE TIED CARD OF 'ceilinglaw09.ResolveUses'. -/
def resolveUsesCard : Claim7 := { stood := { row := resolveUsesRow, standIns := [], harness := (true, "0b6301ff082788cca727cf2f7822ef65a6959b7b7cb1796682618ca0c609887b"), looks := false }, kinds := [], alts := [], laidByText := true, laidKinds := [.listed, .data], laidTests := true, laidLooks := .later }
def ResolveUsesCardSaid : Prop := Claim7.holds Tryz.pinned (.plain (OpenSpec.ofChange resolveUsesSpec)) resolveUsesCard

/-- THE TIED CARD OF 'ceilinglaw09.ResolveAgrees'. -/
def resolveAgreesCard : Claim7 := { stood := { row := resolveAgreesRow, standIns := [], harness := (true, "0b6301ff082788cca727cf2f7822ef65a6959b7b7cb1796682618ca0c609887b"), looks := false }, kinds := [], alts := [], laidByText := true, laidKinds := [.listed, .data], laidTests := true, laidLooks := .later }
def ResolveAgreesCardSaid : Prop := Claim7.holds Tryz.pinned (.plain (OpenSpec.ofChange resolveAgreesSpec)) resolveAgreesCard

/-- THE SECOND FORM's CARD OF 'ceilinglaw09.ResolveSettles'. -/
def resolveSettlesUptoCard : Claim7 := { stood := { row := resolveSettlesUptoRow, standIns := [], harness := (true, "0b6301ff082788cca727cf2f7822ef65a6959b7b7cb1796682618ca0c609887b"), looks := false }, kinds := [], alts := [], laidByText := true, laidKinds := [.listed, .data], laidTests := true, laidLooks := .later }
def ResolveSettlesUptoCardSaid : Prop := Claim7.holds Tryz.pinned (.plain (OpenSpec.upto resolveSettlesSpec)) resolveSettlesUptoCard

/-- THE SECOND FORM's CARD OF 'ceilinglaw09.ResolveKnown'. -/
def resolveKnownUptoCard : Claim7 := { stood := { row := resolveKnownUptoRow, standIns := [], harness := (true, "0b6301ff082788cca727cf2f7822ef65a6959b7b7cb1796682618ca0c609887b"), looks := false }, kinds := [], alts := [], laidByText := true, laidKinds := [.listed, .data], laidTests := true, laidLooks := .later }
def ResolveKnownUptoCardSaid : Prop := Claim7.holds Tryz.pinned (.plain (OpenSpec.upto resolveKnownSpec)) resolveKnownUptoCard
end Rows
end Go.Proofs.YtfaecpkocgcofaaGreatDoor
