/-
  No cell of these rows narrows 'for every input' (looked for: loops, veiled, ifaces, maps, wideKeys, modest, calm, conditions, laid).
  DERIVED. THE GIVEN ROWS OF THIS SEAT. 13 by the template 'for every input the law returns true; each argument reads behind the call as it read before'; 0 by the template 'total and deterministic' (their statements: YtohejlknihleeaaTotals.lean).
  GIVEN WITH THE SEED: the statements are not yours to turn. If you find one false, say at which input.
  Laid BY PROGRAM, IN A SANDBOX (cutbox-rows.mjs): the forced cells as the released guide's own fill.sh prints them over the translation abdde9b90cb0bd4e… (all of the seat's roots in one cut). By AI agents, Wed Nov 11 2026. No macro, syntax, notation, axiom, sorry.
-/
import Derived.Test.YtohejlknihleeaaChecked
import GoSem.Claim
import GoSem.ClaimJoined
import GoSem.ClaimMapViews
import Derived.JoinedTies
import Derived.KernelRfl
namespace Go.Proofs.Ytohejlknihleeaa
/- THE CELL 'sum', in the pinned program and in every row, IS THE sha256 OF THE DUMP (.gsa) THAT YtohejlknihleeaaProg.lean LOADS. Nothing in Lean hashes anything: it is a label: what it is worth is what the hold of that sum in a sandbox is worth. -/
noncomputable def Try.pinned : Pinned := { name := "ytohejlknihleeaa", sum := "abdde9b90cb0bd4e0de1f0e77b16e9e35284c08e550ed8259f3decf27d099966", checked := Try.checked }
namespace Rows
def none {H : Type} : Left H := { results := [], args := [] }

/-- 'laws.FnRuns': WHATEVER THE INPUT: true; the input reads as it did. -/
def fnRunsSpec : ChangeSpec := { name := "fnRuns", fn := fun _ => fun
  | [d] => { results := [.lit (.bool true)], args := [d] }
  | _ => none }
def fnRunsRow : OpenClaim := { program := "ytohejlknihleeaa", sum := "abdde9b90cb0bd4e0de1f0e77b16e9e35284c08e550ed8259f3decf27d099966", func := "loop.example/g00518/laws.FnRuns", spec := "fnRuns", apart := false }
def FnRunsSaid : Prop := fnRunsRow.holds Try.pinned (OpenSpec.ofChange fnRunsSpec)

/-- ITS FALSE NEIGHBOUR: 'it returns false'. Refute it at one input. -/
def fnRunsWrong : ChangeSpec := { name := "fnRuns", fn := fun _ => fun
  | [d] => { results := [.lit (.bool false)], args := [d] }
  | _ => none }
def FnRunsWrongFalsely : Prop := fnRunsRow.holds Try.pinned (OpenSpec.ofChange fnRunsWrong)

/-- 'laws.FnExactVerdictText': WHATEVER THE INPUT: true; the input reads as it did. -/
def fnExactVerdictTextSpec : ChangeSpec := { name := "fnExactVerdictText", fn := fun _ => fun
  | [d] => { results := [.lit (.bool true)], args := [d] }
  | _ => none }
def fnExactVerdictTextRow : OpenClaim := { program := "ytohejlknihleeaa", sum := "abdde9b90cb0bd4e0de1f0e77b16e9e35284c08e550ed8259f3decf27d099966", func := "loop.example/g00518/laws.FnExactVerdictText", spec := "fnExactVerdictText", inPlace := ["internal/abi.NoEscape", "internal/bytealg.MakeNoZero"], apart := false }
def FnExactVerdictTextSaid : Prop := fnExactVerdictTextRow.holds Try.pinned (OpenSpec.ofChange fnExactVerdictTextSpec)

/-- ITS FALSE NEIGHBOUR: 'it returns false'. Refute it at one input. -/
def fnExactVerdictTextWrong : ChangeSpec := { name := "fnExactVerdictText", fn := fun _ => fun
  | [d] => { results := [.lit (.bool false)], args := [d] }
  | _ => none }
def FnExactVerdictTextWrongFalsely : Prop := fnExactVerdictTextRow.holds Try.pinned (OpenSpec.ofChange fnExactVerdictTextWrong)

/-- 'laws.FnExactRecordSize': WHATEVER THE INPUT: true; the input reads as it did. -/
def fnExactRecordSizeSpec : ChangeSpec := { name := "fnExactRecordSize", fn := fun _ => fun
  | [d] => { results := [.lit (.bool true)], args := [d] }
  | _ => none }
def fnExactRecordSizeRow : OpenClaim := { program := "ytohejlknihleeaa", sum := "abdde9b90cb0bd4e0de1f0e77b16e9e35284c08e550ed8259f3decf27d099966", func := "loop.example/g00518/laws.FnExactRecordSize", spec := "fnExactRecordSize", unfollowed := true, recurses := true, apart := false }
def FnExactRecordSizeSaid : Prop := fnExactRecordSizeRow.holds Try.pinned (OpenSpec.ofChange fnExactRecordSizeSpec)

/-- ITS FALSE NEIGHBOUR: 'it returns false'. Refute it at one input. -/
def fnExactRecordSizeWrong : ChangeSpec := { name := "fnExactRecordSize", fn := fun _ => fun
  | [d] => { results := [.lit (.bool false)], args := [d] }
  | _ => none }
def FnExactRecordSizeWrongFalsely : Prop := fnExactRecordSizeRow.holds Try.pinned (OpenSpec.ofChange fnExactRecordSizeWrong)

/-- 'laws.FnPacking': WHATEVER THE INPUT: true; the input reads as it did. -/
def fnPackingSpec : ChangeSpec := { name := "fnPacking", fn := fun _ => fun
  | [d] => { results := [.lit (.bool true)], args := [d] }
  | _ => none }
def fnPackingRow : OpenClaim := { program := "ytohejlknihleeaa", sum := "abdde9b90cb0bd4e0de1f0e77b16e9e35284c08e550ed8259f3decf27d099966", func := "loop.example/g00518/laws.FnPacking", spec := "fnPacking", unfollowed := true, recurses := true, apart := false }
def FnPackingSaid : Prop := fnPackingRow.holds Try.pinned (OpenSpec.ofChange fnPackingSpec)

/-- ITS FALSE NEIGHBOUR: 'it returns false'. Refute it at one input. -/
def fnPackingWrong : ChangeSpec := { name := "fnPacking", fn := fun _ => fun
  | [d] => { results := [.lit (.bool false)], args := [d] }
  | _ => none }
def FnPackingWrongFalsely : Prop := fnPackingRow.holds Try.pinned (OpenSpec.ofChange fnPackingWrong)

/-- 'laws.FnExactEncodeRecord': WHATEVER THE INPUT: true; the input reads as it did. -/
def fnExactEncodeRecordSpec : ChangeSpec := { name := "fnExactEncodeRecord", fn := fun _ => fun
  | [d] => { results := [.lit (.bool true)], args := [d] }
  | _ => none }
def fnExactEncodeRecordRow : OpenClaim := { program := "ytohejlknihleeaa", sum := "abdde9b90cb0bd4e0de1f0e77b16e9e35284c08e550ed8259f3decf27d099966", func := "loop.example/g00518/laws.FnExactEncodeRecord", spec := "fnExactEncodeRecord", unfollowed := true, recurses := true, apart := false }
def FnExactEncodeRecordSaid : Prop := fnExactEncodeRecordRow.holds Try.pinned (OpenSpec.ofChange fnExactEncodeRecordSpec)

/-- ITS FALSE NEIGHBOUR: 'it returns false'. Refute it at one input. -/
def fnExactEncodeRecordWrong : ChangeSpec := { name := "fnExactEncodeRecord", fn := fun _ => fun
  | [d] => { results := [.lit (.bool false)], args := [d] }
  | _ => none }
def FnExactEncodeRecordWrongFalsely : Prop := fnExactEncodeRecordRow.holds Try.pinned (OpenSpec.ofChange fnExactEncodeRecordWrong)

/-- 'laws.FnExactDecodeRecord': WHATEVER THE INPUT: true; the input reads as it did. -/
def fnExactDecodeRecordSpec : ChangeSpec := { name := "fnExactDecodeRecord", fn := fun _ => fun
  | [d1, d2] => { results := [.lit (.bool true)], args := [d1, d2] }
  | _ => none }
def fnExactDecodeRecordRow : OpenClaim := { program := "ytohejlknihleeaa", sum := "abdde9b90cb0bd4e0de1f0e77b16e9e35284c08e550ed8259f3decf27d099966", func := "loop.example/g00518/laws.FnExactDecodeRecord", spec := "fnExactDecodeRecord", unfollowed := true, recurses := true, apart := false }
def FnExactDecodeRecordSaid : Prop := fnExactDecodeRecordRow.holds Try.pinned (OpenSpec.ofChange fnExactDecodeRecordSpec)

/-- ITS FALSE NEIGHBOUR: 'it returns false'. Refute it at one input. -/
def fnExactDecodeRecordWrong : ChangeSpec := { name := "fnExactDecodeRecord", fn := fun _ => fun
  | [d1, d2] => { results := [.lit (.bool false)], args := [d1, d2] }
  | _ => none }
def FnExactDecodeRecordWrongFalsely : Prop := fnExactDecodeRecordRow.holds Try.pinned (OpenSpec.ofChange fnExactDecodeRecordWrong)

/-- 'laws.FnExactCountRecords': WHATEVER THE INPUT: true; the input reads as it did. -/
def fnExactCountRecordsSpec : ChangeSpec := { name := "fnExactCountRecords", fn := fun _ => fun
  | [d] => { results := [.lit (.bool true)], args := [d] }
  | _ => none }
def fnExactCountRecordsRow : OpenClaim := { program := "ytohejlknihleeaa", sum := "abdde9b90cb0bd4e0de1f0e77b16e9e35284c08e550ed8259f3decf27d099966", func := "loop.example/g00518/laws.FnExactCountRecords", spec := "fnExactCountRecords", unfollowed := true, recurses := true, apart := false }
def FnExactCountRecordsSaid : Prop := fnExactCountRecordsRow.holds Try.pinned (OpenSpec.ofChange fnExactCountRecordsSpec)

/-- ITS FALSE NEIGHBOUR: 'it returns false'. Refute it at one input. -/
def fnExactCountRecordsWrong : ChangeSpec := { name := "fnExactCountRecords", fn := fun _ => fun
  | [d] => { results := [.lit (.bool false)], args := [d] }
  | _ => none }
def FnExactCountRecordsWrongFalsely : Prop := fnExactCountRecordsRow.holds Try.pinned (OpenSpec.ofChange fnExactCountRecordsWrong)

/-- 'laws.FnExactIsValidLog': WHATEVER THE INPUT: true; the input reads as it did. -/
def fnExactIsValidLogSpec : ChangeSpec := { name := "fnExactIsValidLog", fn := fun _ => fun
  | [d] => { results := [.lit (.bool true)], args := [d] }
  | _ => none }
def fnExactIsValidLogRow : OpenClaim := { program := "ytohejlknihleeaa", sum := "abdde9b90cb0bd4e0de1f0e77b16e9e35284c08e550ed8259f3decf27d099966", func := "loop.example/g00518/laws.FnExactIsValidLog", spec := "fnExactIsValidLog", unfollowed := true, recurses := true, apart := false }
def FnExactIsValidLogSaid : Prop := fnExactIsValidLogRow.holds Try.pinned (OpenSpec.ofChange fnExactIsValidLogSpec)

/-- ITS FALSE NEIGHBOUR: 'it returns false'. Refute it at one input. -/
def fnExactIsValidLogWrong : ChangeSpec := { name := "fnExactIsValidLog", fn := fun _ => fun
  | [d] => { results := [.lit (.bool false)], args := [d] }
  | _ => none }
def FnExactIsValidLogWrongFalsely : Prop := fnExactIsValidLogRow.holds Try.pinned (OpenSpec.ofChange fnExactIsValidLogWrong)

/-- 'laws.FnExactReadRecords': WHATEVER THE INPUT: true; the input reads as it did. -/
def fnExactReadRecordsSpec : ChangeSpec := { name := "fnExactReadRecords", fn := fun _ => fun
  | [d] => { results := [.lit (.bool true)], args := [d] }
  | _ => none }
def fnExactReadRecordsRow : OpenClaim := { program := "ytohejlknihleeaa", sum := "abdde9b90cb0bd4e0de1f0e77b16e9e35284c08e550ed8259f3decf27d099966", func := "loop.example/g00518/laws.FnExactReadRecords", spec := "fnExactReadRecords", unfollowed := true, recurses := true, apart := false }
def FnExactReadRecordsSaid : Prop := fnExactReadRecordsRow.holds Try.pinned (OpenSpec.ofChange fnExactReadRecordsSpec)

/-- ITS FALSE NEIGHBOUR: 'it returns false'. Refute it at one input. -/
def fnExactReadRecordsWrong : ChangeSpec := { name := "fnExactReadRecords", fn := fun _ => fun
  | [d] => { results := [.lit (.bool false)], args := [d] }
  | _ => none }
def FnExactReadRecordsWrongFalsely : Prop := fnExactReadRecordsRow.holds Try.pinned (OpenSpec.ofChange fnExactReadRecordsWrong)

/-- 'laws.FnExactStoreLog': WHATEVER THE INPUT: true; the input reads as it did. -/
def fnExactStoreLogSpec : ChangeSpec := { name := "fnExactStoreLog", fn := fun _ => fun
  | [d] => { results := [.lit (.bool true)], args := [d] }
  | _ => none }
def fnExactStoreLogRow : OpenClaim := { program := "ytohejlknihleeaa", sum := "abdde9b90cb0bd4e0de1f0e77b16e9e35284c08e550ed8259f3decf27d099966", func := "loop.example/g00518/laws.FnExactStoreLog", spec := "fnExactStoreLog", unfollowed := true, recurses := true, apart := false }
def FnExactStoreLogSaid : Prop := fnExactStoreLogRow.holds Try.pinned (OpenSpec.ofChange fnExactStoreLogSpec)

/-- ITS FALSE NEIGHBOUR: 'it returns false'. Refute it at one input. -/
def fnExactStoreLogWrong : ChangeSpec := { name := "fnExactStoreLog", fn := fun _ => fun
  | [d] => { results := [.lit (.bool false)], args := [d] }
  | _ => none }
def FnExactStoreLogWrongFalsely : Prop := fnExactStoreLogRow.holds Try.pinned (OpenSpec.ofChange fnExactStoreLogWrong)

/-- 'laws.FnExactCrashLog': WHATEVER THE INPUT: true; the input reads as it did. -/
def fnExactCrashLogSpec : ChangeSpec := { name := "fnExactCrashLog", fn := fun _ => fun
  | [d1, d2] => { results := [.lit (.bool true)], args := [d1, d2] }
  | _ => none }
def fnExactCrashLogRow : OpenClaim := { program := "ytohejlknihleeaa", sum := "abdde9b90cb0bd4e0de1f0e77b16e9e35284c08e550ed8259f3decf27d099966", func := "loop.example/g00518/laws.FnExactCrashLog", spec := "fnExactCrashLog", unfollowed := true, recurses := true, apart := false }
def FnExactCrashLogSaid : Prop := fnExactCrashLogRow.holds Try.pinned (OpenSpec.ofChange fnExactCrashLogSpec)

/-- ITS FALSE NEIGHBOUR: 'it returns false'. Refute it at one input. -/
def fnExactCrashLogWrong : ChangeSpec := { name := "fnExactCrashLog", fn := fun _ => fun
  | [d1, d2] => { results := [.lit (.bool false)], args := [d1, d2] }
  | _ => none }
def FnExactCrashLogWrongFalsely : Prop := fnExactCrashLogRow.holds Try.pinned (OpenSpec.ofChange fnExactCrashLogWrong)

/-- 'laws.FnExactAppendRecord': WHATEVER THE INPUT: true; the input reads as it did. -/
def fnExactAppendRecordSpec : ChangeSpec := { name := "fnExactAppendRecord", fn := fun _ => fun
  | [d1, d2] => { results := [.lit (.bool true)], args := [d1, d2] }
  | _ => none }
def fnExactAppendRecordRow : OpenClaim := { program := "ytohejlknihleeaa", sum := "abdde9b90cb0bd4e0de1f0e77b16e9e35284c08e550ed8259f3decf27d099966", func := "loop.example/g00518/laws.FnExactAppendRecord", spec := "fnExactAppendRecord", unfollowed := true, recurses := true, apart := false }
def FnExactAppendRecordSaid : Prop := fnExactAppendRecordRow.holds Try.pinned (OpenSpec.ofChange fnExactAppendRecordSpec)

/-- ITS FALSE NEIGHBOUR: 'it returns false'. Refute it at one input. -/
def fnExactAppendRecordWrong : ChangeSpec := { name := "fnExactAppendRecord", fn := fun _ => fun
  | [d1, d2] => { results := [.lit (.bool false)], args := [d1, d2] }
  | _ => none }
def FnExactAppendRecordWrongFalsely : Prop := fnExactAppendRecordRow.holds Try.pinned (OpenSpec.ofChange fnExactAppendRecordWrong)

/-- 'laws.FnLogs': WHATEVER THE INPUT: true; the input reads as it did. -/
def fnLogsSpec : ChangeSpec := { name := "fnLogs", fn := fun _ => fun
  | [d] => { results := [.lit (.bool true)], args := [d] }
  | _ => none }
def fnLogsRow : OpenClaim := { program := "ytohejlknihleeaa", sum := "abdde9b90cb0bd4e0de1f0e77b16e9e35284c08e550ed8259f3decf27d099966", func := "loop.example/g00518/laws.FnLogs", spec := "fnLogs", unfollowed := true, recurses := true, apart := false }
def FnLogsSaid : Prop := fnLogsRow.holds Try.pinned (OpenSpec.ofChange fnLogsSpec)

/-- ITS FALSE NEIGHBOUR: 'it returns false'. Refute it at one input. -/
def fnLogsWrong : ChangeSpec := { name := "fnLogs", fn := fun _ => fun
  | [d] => { results := [.lit (.bool false)], args := [d] }
  | _ => none }
def FnLogsWrongFalsely : Prop := fnLogsRow.holds Try.pinned (OpenSpec.ofChange fnLogsWrong)

/- THE SECOND FORM. 'bulk': how many values and letters a reading holds, each counted each time it is reached (what is shared counts as often as it is met; a slice's spare places count too). A statement '..UptoSaid' is the law's where the arguments, and the package variables that the reading takes, are together of bulk at most 1048576: NARROWER than '..Said'. Prove '..Said' where nothing that the law and all that it calls make is longer than what came in: it says more and counts as full. Else prove '..UptoSaid'. A law counts once. -/
mutual
def uptoBulk {H : Type} : DataW H → Nat
  | .lit (.string bytes) => bytes.length + 1
  | .lit _ => 1
  | .nil => 1
  | .ptr d => uptoBulk d + 1
  | .slice elems spare => uptoBulkAll elems + uptoBulkAll spare + 1
  | .agg parts => uptoBulkAll parts + 1
  | .iface _ d => uptoBulk d + 1
  | .map entries => uptoBulkEntries entries + 1
  | .held _ => 1
def uptoBulkAll {H : Type} : List (DataW H) → Nat
  | [] => 0
  | d :: r => uptoBulk d + uptoBulkAll r
def uptoBulkEntries {H : Type} : List (Lit × DataW H) → Nat
  | [] => 0
  | x :: r => uptoBulkEntry x + uptoBulkEntries r
def uptoBulkEntry {H : Type} : Lit × DataW H → Nat
  | (.string bytes, d) => bytes.length + uptoBulk d + 1
  | (_, d) => uptoBulk d + 1
 end
def uptoSmall : (H : Type) → List (DataW H) → Bool := fun _ ds => decide (uptoBulkAll ds ≤ 1048576)
def OpenSpec.upto (s : _root_.Go.ChangeSpec) : _root_.Go.OpenSpec := { _root_.Go.OpenSpec.ofChange s with cond := some uptoSmall }

/-- 'laws.FnRuns', WHERE WHAT IT READS IS OF BULK AT MOST 1048576: true; the input reads as it did. -/
def fnRunsUptoRow : OpenClaim := { program := "ytohejlknihleeaa", sum := "abdde9b90cb0bd4e0de1f0e77b16e9e35284c08e550ed8259f3decf27d099966", func := "loop.example/g00518/laws.FnRuns", spec := "fnRuns", apart := false, narrowed := true }
def FnRunsUptoSaid : Prop := fnRunsUptoRow.holds Try.pinned (OpenSpec.upto fnRunsSpec)

/-- 'laws.FnExactVerdictText', WHERE WHAT IT READS IS OF BULK AT MOST 1048576: true; the input reads as it did. -/
def fnExactVerdictTextUptoRow : OpenClaim := { program := "ytohejlknihleeaa", sum := "abdde9b90cb0bd4e0de1f0e77b16e9e35284c08e550ed8259f3decf27d099966", func := "loop.example/g00518/laws.FnExactVerdictText", spec := "fnExactVerdictText", inPlace := ["internal/abi.NoEscape", "internal/bytealg.MakeNoZero"], apart := false, narrowed := true }
def FnExactVerdictTextUptoSaid : Prop := fnExactVerdictTextUptoRow.holds Try.pinned (OpenSpec.upto fnExactVerdictTextSpec)

/-- 'laws.FnExactRecordSize', WHERE WHAT IT READS IS OF BULK AT MOST 1048576: true; the input reads as it did. -/
def fnExactRecordSizeUptoRow : OpenClaim := { program := "ytohejlknihleeaa", sum := "abdde9b90cb0bd4e0de1f0e77b16e9e35284c08e550ed8259f3decf27d099966", func := "loop.example/g00518/laws.FnExactRecordSize", spec := "fnExactRecordSize", unfollowed := true, recurses := true, apart := false, narrowed := true }
def FnExactRecordSizeUptoSaid : Prop := fnExactRecordSizeUptoRow.holds Try.pinned (OpenSpec.upto fnExactRecordSizeSpec)

/-- 'laws.FnPacking', WHERE WHAT IT READS IS OF BULK AT MOST 1048576: true; the input reads as it did. -/
def fnPackingUptoRow : OpenClaim := { program := "ytohejlknihleeaa", sum := "abdde9b90cb0bd4e0de1f0e77b16e9e35284c08e550ed8259f3decf27d099966", func := "loop.example/g00518/laws.FnPacking", spec := "fnPacking", unfollowed := true, recurses := true, apart := false, narrowed := true }
def FnPackingUptoSaid : Prop := fnPackingUptoRow.holds Try.pinned (OpenSpec.upto fnPackingSpec)

/-- 'laws.FnExactEncodeRecord', WHERE WHAT IT READS IS OF BULK AT MOST 1048576: true; the input reads as it did. -/
def fnExactEncodeRecordUptoRow : OpenClaim := { program := "ytohejlknihleeaa", sum := "abdde9b90cb0bd4e0de1f0e77b16e9e35284c08e550ed8259f3decf27d099966", func := "loop.example/g00518/laws.FnExactEncodeRecord", spec := "fnExactEncodeRecord", unfollowed := true, recurses := true, apart := false, narrowed := true }
def FnExactEncodeRecordUptoSaid : Prop := fnExactEncodeRecordUptoRow.holds Try.pinned (OpenSpec.upto fnExactEncodeRecordSpec)

/-- 'laws.FnExactDecodeRecord', WHERE WHAT IT READS IS OF BULK AT MOST 1048576: true; the input reads as it did. -/
def fnExactDecodeRecordUptoRow : OpenClaim := { program := "ytohejlknihleeaa", sum := "abdde9b90cb0bd4e0de1f0e77b16e9e35284c08e550ed8259f3decf27d099966", func := "loop.example/g00518/laws.FnExactDecodeRecord", spec := "fnExactDecodeRecord", unfollowed := true, recurses := true, apart := false, narrowed := true }
def FnExactDecodeRecordUptoSaid : Prop := fnExactDecodeRecordUptoRow.holds Try.pinned (OpenSpec.upto fnExactDecodeRecordSpec)

/-- 'laws.FnExactCountRecords', WHERE WHAT IT READS IS OF BULK AT MOST 1048576: true; the input reads as it did. -/
def fnExactCountRecordsUptoRow : OpenClaim := { program := "ytohejlknihleeaa", sum := "abdde9b90cb0bd4e0de1f0e77b16e9e35284c08e550ed8259f3decf27d099966", func := "loop.example/g00518/laws.FnExactCountRecords", spec := "fnExactCountRecords", unfollowed := true, recurses := true, apart := false, narrowed := true }
def FnExactCountRecordsUptoSaid : Prop := fnExactCountRecordsUptoRow.holds Try.pinned (OpenSpec.upto fnExactCountRecordsSpec)

/-- 'laws.FnExactIsValidLog', WHERE WHAT IT READS IS OF BULK AT MOST 1048576: true; the input reads as it did. -/
def fnExactIsValidLogUptoRow : OpenClaim := { program := "ytohejlknihleeaa", sum := "abdde9b90cb0bd4e0de1f0e77b16e9e35284c08e550ed8259f3decf27d099966", func := "loop.example/g00518/laws.FnExactIsValidLog", spec := "fnExactIsValidLog", unfollowed := true, recurses := true, apart := false, narrowed := true }
def FnExactIsValidLogUptoSaid : Prop := fnExactIsValidLogUptoRow.holds Try.pinned (OpenSpec.upto fnExactIsValidLogSpec)

/-- 'laws.FnExactReadRecords', WHERE WHAT IT READS IS OF BULK AT MOST 1048576: true; the input reads as it did. -/
def fnExactReadRecordsUptoRow : OpenClaim := { program := "ytohejlknihleeaa", sum := "abdde9b90cb0bd4e0de1f0e77b16e9e35284c08e550ed8259f3decf27d099966", func := "loop.example/g00518/laws.FnExactReadRecords", spec := "fnExactReadRecords", unfollowed := true, recurses := true, apart := false, narrowed := true }
def FnExactReadRecordsUptoSaid : Prop := fnExactReadRecordsUptoRow.holds Try.pinned (OpenSpec.upto fnExactReadRecordsSpec)

/-- 'laws.FnExactStoreLog', WHERE WHAT IT READS IS OF BULK AT MOST 1048576: true; the input reads as it did. -/
def fnExactStoreLogUptoRow : OpenClaim := { program := "ytohejlknihleeaa", sum := "abdde9b90cb0bd4e0de1f0e77b16e9e35284c08e550ed8259f3decf27d099966", func := "loop.example/g00518/laws.FnExactStoreLog", spec := "fnExactStoreLog", unfollowed := true, recurses := true, apart := false, narrowed := true }
def FnExactStoreLogUptoSaid : Prop := fnExactStoreLogUptoRow.holds Try.pinned (OpenSpec.upto fnExactStoreLogSpec)

/-- 'laws.FnExactCrashLog', WHERE WHAT IT READS IS OF BULK AT MOST 1048576: true; the input reads as it did. -/
def fnExactCrashLogUptoRow : OpenClaim := { program := "ytohejlknihleeaa", sum := "abdde9b90cb0bd4e0de1f0e77b16e9e35284c08e550ed8259f3decf27d099966", func := "loop.example/g00518/laws.FnExactCrashLog", spec := "fnExactCrashLog", unfollowed := true, recurses := true, apart := false, narrowed := true }
def FnExactCrashLogUptoSaid : Prop := fnExactCrashLogUptoRow.holds Try.pinned (OpenSpec.upto fnExactCrashLogSpec)

/-- 'laws.FnExactAppendRecord', WHERE WHAT IT READS IS OF BULK AT MOST 1048576: true; the input reads as it did. -/
def fnExactAppendRecordUptoRow : OpenClaim := { program := "ytohejlknihleeaa", sum := "abdde9b90cb0bd4e0de1f0e77b16e9e35284c08e550ed8259f3decf27d099966", func := "loop.example/g00518/laws.FnExactAppendRecord", spec := "fnExactAppendRecord", unfollowed := true, recurses := true, apart := false, narrowed := true }
def FnExactAppendRecordUptoSaid : Prop := fnExactAppendRecordUptoRow.holds Try.pinned (OpenSpec.upto fnExactAppendRecordSpec)

/-- 'laws.FnLogs', WHERE WHAT IT READS IS OF BULK AT MOST 1048576: true; the input reads as it did. -/
def fnLogsUptoRow : OpenClaim := { program := "ytohejlknihleeaa", sum := "abdde9b90cb0bd4e0de1f0e77b16e9e35284c08e550ed8259f3decf27d099966", func := "loop.example/g00518/laws.FnLogs", spec := "fnLogs", unfollowed := true, recurses := true, apart := false, narrowed := true }
def FnLogsUptoSaid : Prop := fnLogsUptoRow.holds Try.pinned (OpenSpec.upto fnLogsSpec)

end Rows
end Go.Proofs.Ytohejlknihleeaa
