/-
  DERIVED. GIVEN WITH THE SEED: THE CARDS: each row of YtpmcofmdjckijaaGreatDoorRows.lean that lists a variable, with what it lists TIED to the program's text (the seventh form; the later family's looks); each row that meets fmt, with fmt's text TOLD by the authors' own Lean function (tested against real Go, not proved from fmt's source: count such statements apart). THE CARD IS WHAT COUNTS. Prove the row's statement (the work); the ties are given (YtpmcofmdjckijaaGreatDoorTie.lean); close each card by the builder's one call (the guide's Derived/Test/ToyasCard.lean, 'card_holds'). Laid BY PROGRAM, IN A SANDBOX (cutbox-door.mjs). By AI agents, Wed Nov 11 2026. No macro, syntax, notation, axiom, sorry.
-/
import Derived.Test.YtpmcofmdjckijaaGreatDoorRows
import GoSem.ClaimSeven
namespace Go.Proofs.YtpmcofmdjckijaaGreatDoor
namespace Rows

/-- THE TIED CARD OF 'laws.FnExtensions'. -/
def fnExtensionsCard : Claim7 := { stood := { row := fnExtensionsRow, standIns := [], harness := (true, "13a0a933149153d6cd958219e57caf04689a020f08a45bff080d18c9e8812ee7"), looks := false }, kinds := [], alts := [], laidByText := true, laidKinds := [.data, .data, .data], laidTests := true, laidLooks := .later }
def FnExtensionsCardSaid : Prop := Claim7.holds Tryz.pinned (.plain (OpenSpec.ofChange fnExtensionsSpec)) fnExtensionsCard

/-- THE SECOND FORM's CARD OF 'laws.FnExtensions'. -/
def fnExtensionsUptoCard : Claim7 := { stood := { row := fnExtensionsUptoRow, standIns := [], harness := (true, "13a0a933149153d6cd958219e57caf04689a020f08a45bff080d18c9e8812ee7"), looks := false }, kinds := [], alts := [], laidByText := true, laidKinds := [.data, .data, .data], laidTests := true, laidLooks := .later }
def FnExtensionsUptoCardSaid : Prop := Claim7.holds Tryz.pinned (.plain (OpenSpec.upto fnExtensionsSpec)) fnExtensionsUptoCard
end Rows
end Go.Proofs.YtpmcofmdjckijaaGreatDoor
