/-
  DERIVED. GIVEN WITH THE SEED: THE CARDS: each row of YtlfhealneccdkaaGreatDoorRows.lean that lists a variable, with what it lists TIED to the program's text (the seventh form; the later family's looks); each row that meets fmt, with fmt's text TOLD by the authors' own Lean function (tested against real Go, not proved from fmt's source: count such statements apart). THE CARD IS WHAT COUNTS. Prove the row's statement (the work); the ties are given (YtlfhealneccdkaaGreatDoorTie.lean); close each card by the builder's one call (the guide's Derived/Test/ToyasCard.lean, 'card_holds'). Laid BY PROGRAM, IN A SANDBOX (cutbox-door.mjs). By AI agents, Wed Nov 11 2026. No macro, syntax, notation, axiom, sorry.
-/
import Derived.Test.YtlfhealneccdkaaGreatDoorRows
import GoSem.ClaimSeven
namespace Go.Proofs.YtlfhealneccdkaaGreatDoor
namespace Rows

/-- THE TIED CARD OF 'laws.FnDifferences'. -/
def fnDifferencesCard : Claim7 := { stood := { row := fnDifferencesRow, standIns := [], harness := (true, "c82aba71c3314bd1082c6c13dc70e11065ce42c3b33c9d0e60a9cf29d7fb0b93"), looks := true }, kinds := [], alts := [], laidByText := true, laidKinds := [.data, .data, .data], laidTests := true, laidLooks := .later }
def FnDifferencesCardSaid : Prop := Claim7.holds Tryz.pinned (.plain (OpenSpec.ofChange fnDifferencesSpec)) fnDifferencesCard

/-- THE SECOND FORM's CARD OF 'laws.FnDifferences'. -/
def fnDifferencesUptoCard : Claim7 := { stood := { row := fnDifferencesUptoRow, standIns := [], harness := (true, "c82aba71c3314bd1082c6c13dc70e11065ce42c3b33c9d0e60a9cf29d7fb0b93"), looks := true }, kinds := [], alts := [], laidByText := true, laidKinds := [.data, .data, .data], laidTests := true, laidLooks := .later }
def FnDifferencesUptoCardSaid : Prop := Claim7.holds Tryz.pinned (.plain (OpenSpec.upto fnDifferencesSpec)) fnDifferencesUptoCard
end Rows
end Go.Proofs.YtlfhealneccdkaaGreatDoor
