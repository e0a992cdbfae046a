/-
  DERIVED. GIVEN WITH THE SEED: THE CARDS: each row of YtjckcbfpejcpcaaDoorRows.lean that lists a variable, with what it lists TIED to the program's text (the seventh form; the later family's looks); each row that meets fmt, with fmt's text TOLD by the authors' own Lean function (tested against real Go, not proved from fmt's source: count such statements apart). THE CARD IS WHAT COUNTS. Prove the row's statement (the work); the ties are given (YtjckcbfpejcpcaaDoorTie.lean); close each card by the builder's one call (the guide's Derived/Test/ToyasCard.lean, 'card_holds'). Laid BY PROGRAM, IN A SANDBOX (cutbox-door.mjs). By AI agents, Wed Nov 11 2026. No macro, syntax, notation, axiom, sorry.
-/
import Derived.Test.YtjckcbfpejcpcaaDoorRows
import GoSem.ClaimSeven
namespace Go.Proofs.YtjckcbfpejcpcaaDoor
namespace Rows

/-- THE TIED CARD OF 'laws.FnExactCountChanges'. -/
def fnExactCountChangesCard : Claim7 := { stood := { row := fnExactCountChangesRow, standIns := [], harness := (true, "914dcf1a42afd79f55f622ad28c14abdc72bd277c1266d34e1b96ddd04c55a9a"), looks := false }, kinds := [], alts := [], laidByText := true, laidKinds := [.data, .data, .data], laidTests := true, laidLooks := .later }
def FnExactCountChangesCardSaid : Prop := Claim7.holds Tryd.pinned (.plain (OpenSpec.ofChange fnExactCountChangesSpec)) fnExactCountChangesCard

/-- THE SECOND FORM's CARD OF 'laws.FnExactCountChanges'. -/
def fnExactCountChangesUptoCard : Claim7 := { stood := { row := fnExactCountChangesUptoRow, standIns := [], harness := (true, "914dcf1a42afd79f55f622ad28c14abdc72bd277c1266d34e1b96ddd04c55a9a"), looks := false }, kinds := [], alts := [], laidByText := true, laidKinds := [.data, .data, .data], laidTests := true, laidLooks := .later }
def FnExactCountChangesUptoCardSaid : Prop := Claim7.holds Tryd.pinned (.plain (OpenSpec.upto fnExactCountChangesSpec)) fnExactCountChangesUptoCard
end Rows
end Go.Proofs.YtjckcbfpejcpcaaDoor
