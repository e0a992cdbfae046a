/-
  DERIVED. GIVEN WITH THE SEED: THE CARDS: each row of YtdbbdoldndnbhaaDoorRows.lean that lists a variable, with what it lists TIED to the program's text (the seventh form; the later family's looks); each row that meets fmt, with fmt's text TOLD by the authors' own Lean function (tested against real Go, not proved from fmt's source: count such statements apart). THE CARD IS WHAT COUNTS. Prove the row's statement (the work); the ties are given (YtdbbdoldndnbhaaDoorTie.lean); close each card by the builder's one call (the guide's Derived/Test/ToyasCard.lean, 'card_holds'). Laid BY PROGRAM, IN A SANDBOX (cutbox-door.mjs). By AI agents, Wed Nov 11 2026. No macro, syntax, notation, axiom, sorry.
-/
import Derived.Test.YtdbbdoldndnbhaaDoorRows
import GoSem.ClaimSeven
namespace Go.Proofs.YtdbbdoldndnbhaaDoor
namespace Rows

/-- THE TIED CARD OF 'laws.FnExactAddedTags'. -/
def fnExactAddedTagsCard : Claim7 := { stood := { row := fnExactAddedTagsRow, standIns := [], harness := (true, "d2968add3cebaa84c8426d2a533d5178f5804ce8f0c2717ce256d3cd8c7c21b6"), looks := false }, kinds := [], alts := [], laidByText := true, laidKinds := [.data, .data, .data], laidTests := true, laidLooks := .later }
def FnExactAddedTagsCardSaid : Prop := Claim7.holds Tryd.pinned (.plain (OpenSpec.ofChange fnExactAddedTagsSpec)) fnExactAddedTagsCard

/-- THE TIED CARD OF 'laws.FnExactExpectedText'. -/
def fnExactExpectedTextCard : Claim7 := { stood := { row := fnExactExpectedTextRow, standIns := [], harness := (true, "d2968add3cebaa84c8426d2a533d5178f5804ce8f0c2717ce256d3cd8c7c21b6"), looks := false }, kinds := [], alts := [], laidByText := true, laidKinds := [.data, .data, .data], laidTests := true, laidLooks := .later }
def FnExactExpectedTextCardSaid : Prop := Claim7.holds Tryd.pinned (.plain (OpenSpec.ofChange fnExactExpectedTextSpec)) fnExactExpectedTextCard

/-- THE TIED CARD OF 'laws.FnExactFormatRecord'. -/
def fnExactFormatRecordCard : Claim7 := { stood := { row := fnExactFormatRecordRow, standIns := [], harness := (true, "d2968add3cebaa84c8426d2a533d5178f5804ce8f0c2717ce256d3cd8c7c21b6"), looks := false }, kinds := [], alts := [], laidByText := true, laidKinds := [.data, .data, .data], laidTests := true, laidLooks := .later }
def FnExactFormatRecordCardSaid : Prop := Claim7.holds Tryd.pinned (.plain (OpenSpec.ofChange fnExactFormatRecordSpec)) fnExactFormatRecordCard

/-- THE TIED CARD OF 'laws.FnExactHexLines'. -/
def fnExactHexLinesCard : Claim7 := { stood := { row := fnExactHexLinesRow, standIns := [], harness := (true, "d2968add3cebaa84c8426d2a533d5178f5804ce8f0c2717ce256d3cd8c7c21b6"), looks := false }, kinds := [], alts := [], laidByText := true, laidKinds := [.data, .data, .data], laidTests := true, laidLooks := .later }
def FnExactHexLinesCardSaid : Prop := Claim7.holds Tryd.pinned (.plain (OpenSpec.ofChange fnExactHexLinesSpec)) fnExactHexLinesCard

/-- THE TIED CARD OF 'laws.FnRecords'. -/
def fnRecordsCard : Claim7 := { stood := { row := fnRecordsRow, standIns := [], harness := (true, "d2968add3cebaa84c8426d2a533d5178f5804ce8f0c2717ce256d3cd8c7c21b6"), looks := false }, kinds := [], alts := [], laidByText := true, laidKinds := [.data, .data, .data], laidTests := true, laidLooks := .later }
def FnRecordsCardSaid : Prop := Claim7.holds Tryd.pinned (.plain (OpenSpec.ofChange fnRecordsSpec)) fnRecordsCard

/-- THE SECOND FORM's CARD OF 'laws.FnExactAddedTags'. -/
def fnExactAddedTagsUptoCard : Claim7 := { stood := { row := fnExactAddedTagsUptoRow, standIns := [], harness := (true, "d2968add3cebaa84c8426d2a533d5178f5804ce8f0c2717ce256d3cd8c7c21b6"), looks := false }, kinds := [], alts := [], laidByText := true, laidKinds := [.data, .data, .data], laidTests := true, laidLooks := .later }
def FnExactAddedTagsUptoCardSaid : Prop := Claim7.holds Tryd.pinned (.plain (OpenSpec.upto fnExactAddedTagsSpec)) fnExactAddedTagsUptoCard

/-- THE SECOND FORM's CARD OF 'laws.FnExactExpectedText'. -/
def fnExactExpectedTextUptoCard : Claim7 := { stood := { row := fnExactExpectedTextUptoRow, standIns := [], harness := (true, "d2968add3cebaa84c8426d2a533d5178f5804ce8f0c2717ce256d3cd8c7c21b6"), looks := false }, kinds := [], alts := [], laidByText := true, laidKinds := [.data, .data, .data], laidTests := true, laidLooks := .later }
def FnExactExpectedTextUptoCardSaid : Prop := Claim7.holds Tryd.pinned (.plain (OpenSpec.upto fnExactExpectedTextSpec)) fnExactExpectedTextUptoCard

/-- THE SECOND FORM's CARD OF 'laws.FnExactFormatRecord'. -/
def fnExactFormatRecordUptoCard : Claim7 := { stood := { row := fnExactFormatRecordUptoRow, standIns := [], harness := (true, "d2968add3cebaa84c8426d2a533d5178f5804ce8f0c2717ce256d3cd8c7c21b6"), looks := false }, kinds := [], alts := [], laidByText := true, laidKinds := [.data, .data, .data], laidTests := true, laidLooks := .later }
def FnExactFormatRecordUptoCardSaid : Prop := Claim7.holds Tryd.pinned (.plain (OpenSpec.upto fnExactFormatRecordSpec)) fnExactFormatRecordUptoCard

/-- THE SECOND FORM's CARD OF 'laws.FnExactHexLines'. -/
def fnExactHexLinesUptoCard : Claim7 := { stood := { row := fnExactHexLinesUptoRow, standIns := [], harness := (true, "d2968add3cebaa84c8426d2a533d5178f5804ce8f0c2717ce256d3cd8c7c21b6"), looks := false }, kinds := [], alts := [], laidByText := true, laidKinds := [.data, .data, .data], laidTests := true, laidLooks := .later }
def FnExactHexLinesUptoCardSaid : Prop := Claim7.holds Tryd.pinned (.plain (OpenSpec.upto fnExactHexLinesSpec)) fnExactHexLinesUptoCard

/-- THE SECOND FORM's CARD OF 'laws.FnRecords'. -/
def fnRecordsUptoCard : Claim7 := { stood := { row := fnRecordsUptoRow, standIns := [], harness := (true, "d2968add3cebaa84c8426d2a533d5178f5804ce8f0c2717ce256d3cd8c7c21b6"), looks := false }, kinds := [], alts := [], laidByText := true, laidKinds := [.data, .data, .data], laidTests := true, laidLooks := .later }
def FnRecordsUptoCardSaid : Prop := Claim7.holds Tryd.pinned (.plain (OpenSpec.upto fnRecordsSpec)) fnRecordsUptoCard
end Rows
end Go.Proofs.YtdbbdoldndnbhaaDoor
