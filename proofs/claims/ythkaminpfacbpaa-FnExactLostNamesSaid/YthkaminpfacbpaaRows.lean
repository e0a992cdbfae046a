/-
  No cell of these rows narrows 'for every input' (looked for: loops, veiled, ifaces, maps, wideKeys, modest, calm, conditions, laid).
  DERIVED. THE GIVEN ROWS OF THIS SEAT. 14 by the template 'for every input the law returns true; each argument reads behind the call as it read before'; 0 by the template 'total and deterministic' (their statements: YthkaminpfacbpaaTotals.lean).
  GIVEN WITH THE SEED: the statements are not yours to turn. If you find one false, say at which input.
  Laid BY PROGRAM, IN A SANDBOX (cutbox-rows.mjs): the forced cells as the released guide's own fill.sh prints them over the translation 3ecc4acf49ee6762… (all of the seat's roots in one cut). By AI agents, Wed Nov 11 2026. No macro, syntax, notation, axiom, sorry.
-/
import Derived.Test.YthkaminpfacbpaaChecked
import GoSem.Claim
import GoSem.ClaimJoined
import GoSem.ClaimMapViews
import Derived.JoinedTies
import Derived.KernelRfl
namespace Go.Proofs.Ythkaminpfacbpaa
/- THE CELL 'sum', in the pinned program and in every row, IS THE sha256 OF THE DUMP (.gsa) THAT YthkaminpfacbpaaProg.lean LOADS. Nothing in Lean hashes anything: it is a label: what it is worth is what the hold of that sum in a sandbox is worth. -/
noncomputable def Try.pinned : Pinned := { name := "ythkaminpfacbpaa", sum := "3ecc4acf49ee6762faf32f3b48d026ff1359b3c187f6df0cb66cdebb0da13d8b", checked := Try.checked }
namespace Rows
def none {H : Type} : Left H := { results := [], args := [] }

/-- 'laws.FnExactLatestVersion': WHATEVER THE INPUT: true; the input reads as it did. -/
def fnExactLatestVersionSpec : ChangeSpec := { name := "fnExactLatestVersion", fn := fun _ => fun
  | [d] => { results := [.lit (.bool true)], args := [d] }
  | _ => none }
def fnExactLatestVersionRow : OpenClaim := { program := "ythkaminpfacbpaa", sum := "3ecc4acf49ee6762faf32f3b48d026ff1359b3c187f6df0cb66cdebb0da13d8b", func := "loop.example/g00518/laws.FnExactLatestVersion", spec := "fnExactLatestVersion", apart := false }
def FnExactLatestVersionSaid : Prop := fnExactLatestVersionRow.holds Try.pinned (OpenSpec.ofChange fnExactLatestVersionSpec)

/-- ITS FALSE NEIGHBOUR: 'it returns false'. Refute it at one input. -/
def fnExactLatestVersionWrong : ChangeSpec := { name := "fnExactLatestVersion", fn := fun _ => fun
  | [d] => { results := [.lit (.bool false)], args := [d] }
  | _ => none }
def FnExactLatestVersionWrongFalsely : Prop := fnExactLatestVersionRow.holds Try.pinned (OpenSpec.ofChange fnExactLatestVersionWrong)

/-- 'laws.FnExactSharedNames': WHATEVER THE INPUT: true; the input reads as it did. -/
def fnExactSharedNamesSpec : ChangeSpec := { name := "fnExactSharedNames", fn := fun _ => fun
  | [d1, d2] => { results := [.lit (.bool true)], args := [d1, d2] }
  | _ => none }
def fnExactSharedNamesRow : OpenClaim := { program := "ythkaminpfacbpaa", sum := "3ecc4acf49ee6762faf32f3b48d026ff1359b3c187f6df0cb66cdebb0da13d8b", func := "loop.example/g00518/laws.FnExactSharedNames", spec := "fnExactSharedNames", apart := false }
def FnExactSharedNamesSaid : Prop := fnExactSharedNamesRow.holds Try.pinned (OpenSpec.ofChange fnExactSharedNamesSpec)

/-- ITS FALSE NEIGHBOUR: 'it returns false'. Refute it at one input. -/
def fnExactSharedNamesWrong : ChangeSpec := { name := "fnExactSharedNames", fn := fun _ => fun
  | [d1, d2] => { results := [.lit (.bool false)], args := [d1, d2] }
  | _ => none }
def FnExactSharedNamesWrongFalsely : Prop := fnExactSharedNamesRow.holds Try.pinned (OpenSpec.ofChange fnExactSharedNamesWrong)

/-- 'laws.FnExactEqualRegistries': WHATEVER THE INPUT: true; the input reads as it did. -/
def fnExactEqualRegistriesSpec : ChangeSpec := { name := "fnExactEqualRegistries", fn := fun _ => fun
  | [d1, d2] => { results := [.lit (.bool true)], args := [d1, d2] }
  | _ => none }
def fnExactEqualRegistriesRow : OpenClaim := { program := "ythkaminpfacbpaa", sum := "3ecc4acf49ee6762faf32f3b48d026ff1359b3c187f6df0cb66cdebb0da13d8b", func := "loop.example/g00518/laws.FnExactEqualRegistries", spec := "fnExactEqualRegistries", apart := false }
def FnExactEqualRegistriesSaid : Prop := fnExactEqualRegistriesRow.holds Try.pinned (OpenSpec.ofChange fnExactEqualRegistriesSpec)

/-- ITS FALSE NEIGHBOUR: 'it returns false'. Refute it at one input. -/
def fnExactEqualRegistriesWrong : ChangeSpec := { name := "fnExactEqualRegistries", fn := fun _ => fun
  | [d1, d2] => { results := [.lit (.bool false)], args := [d1, d2] }
  | _ => none }
def FnExactEqualRegistriesWrongFalsely : Prop := fnExactEqualRegistriesRow.holds Try.pinned (OpenSpec.ofChange fnExactEqualRegistriesWrong)

/-- 'laws.FnExactEqualArchives': WHATEVER THE INPUT: true; the input reads as it did. -/
def fnExactEqualArchivesSpec : ChangeSpec := { name := "fnExactEqualArchives", fn := fun _ => fun
  | [d1, d2] => { results := [.lit (.bool true)], args := [d1, d2] }
  | _ => none }
def fnExactEqualArchivesRow : OpenClaim := { program := "ythkaminpfacbpaa", sum := "3ecc4acf49ee6762faf32f3b48d026ff1359b3c187f6df0cb66cdebb0da13d8b", func := "loop.example/g00518/laws.FnExactEqualArchives", spec := "fnExactEqualArchives", apart := false }
def FnExactEqualArchivesSaid : Prop := fnExactEqualArchivesRow.holds Try.pinned (OpenSpec.ofChange fnExactEqualArchivesSpec)

/-- ITS FALSE NEIGHBOUR: 'it returns false'. Refute it at one input. -/
def fnExactEqualArchivesWrong : ChangeSpec := { name := "fnExactEqualArchives", fn := fun _ => fun
  | [d1, d2] => { results := [.lit (.bool false)], args := [d1, d2] }
  | _ => none }
def FnExactEqualArchivesWrongFalsely : Prop := fnExactEqualArchivesRow.holds Try.pinned (OpenSpec.ofChange fnExactEqualArchivesWrong)

/-- 'laws.FnLostParts': WHATEVER THE INPUT: true; the input reads as it did. -/
def fnLostPartsSpec : ChangeSpec := { name := "fnLostParts", fn := fun _ => fun
  | [d] => { results := [.lit (.bool true)], args := [d] }
  | _ => none }
def fnLostPartsRow : OpenClaim := { program := "ythkaminpfacbpaa", sum := "3ecc4acf49ee6762faf32f3b48d026ff1359b3c187f6df0cb66cdebb0da13d8b", func := "loop.example/g00518/laws.FnLostParts", spec := "fnLostParts", apart := false }
def FnLostPartsSaid : Prop := fnLostPartsRow.holds Try.pinned (OpenSpec.ofChange fnLostPartsSpec)

/-- ITS FALSE NEIGHBOUR: 'it returns false'. Refute it at one input. -/
def fnLostPartsWrong : ChangeSpec := { name := "fnLostParts", fn := fun _ => fun
  | [d] => { results := [.lit (.bool false)], args := [d] }
  | _ => none }
def FnLostPartsWrongFalsely : Prop := fnLostPartsRow.holds Try.pinned (OpenSpec.ofChange fnLostPartsWrong)

/-- 'laws.FnExactIsValidRegistry': WHATEVER THE INPUT: true; the input reads as it did. -/
def fnExactIsValidRegistrySpec : ChangeSpec := { name := "fnExactIsValidRegistry", fn := fun _ => fun
  | [d] => { results := [.lit (.bool true)], args := [d] }
  | _ => none }
def fnExactIsValidRegistryRow : OpenClaim := { program := "ythkaminpfacbpaa", sum := "3ecc4acf49ee6762faf32f3b48d026ff1359b3c187f6df0cb66cdebb0da13d8b", func := "loop.example/g00518/laws.FnExactIsValidRegistry", spec := "fnExactIsValidRegistry", apart := false }
def FnExactIsValidRegistrySaid : Prop := fnExactIsValidRegistryRow.holds Try.pinned (OpenSpec.ofChange fnExactIsValidRegistrySpec)

/-- ITS FALSE NEIGHBOUR: 'it returns false'. Refute it at one input. -/
def fnExactIsValidRegistryWrong : ChangeSpec := { name := "fnExactIsValidRegistry", fn := fun _ => fun
  | [d] => { results := [.lit (.bool false)], args := [d] }
  | _ => none }
def FnExactIsValidRegistryWrongFalsely : Prop := fnExactIsValidRegistryRow.holds Try.pinned (OpenSpec.ofChange fnExactIsValidRegistryWrong)

/-- 'laws.FnExactCoveragePercent': WHATEVER THE INPUT: true; the input reads as it did. -/
def fnExactCoveragePercentSpec : ChangeSpec := { name := "fnExactCoveragePercent", fn := fun _ => fun
  | [d1, d2] => { results := [.lit (.bool true)], args := [d1, d2] }
  | _ => none }
def fnExactCoveragePercentRow : OpenClaim := { program := "ythkaminpfacbpaa", sum := "3ecc4acf49ee6762faf32f3b48d026ff1359b3c187f6df0cb66cdebb0da13d8b", func := "loop.example/g00518/laws.FnExactCoveragePercent", spec := "fnExactCoveragePercent", apart := false }
def FnExactCoveragePercentSaid : Prop := fnExactCoveragePercentRow.holds Try.pinned (OpenSpec.ofChange fnExactCoveragePercentSpec)

/-- ITS FALSE NEIGHBOUR: 'it returns false'. Refute it at one input. -/
def fnExactCoveragePercentWrong : ChangeSpec := { name := "fnExactCoveragePercent", fn := fun _ => fun
  | [d1, d2] => { results := [.lit (.bool false)], args := [d1, d2] }
  | _ => none }
def FnExactCoveragePercentWrongFalsely : Prop := fnExactCoveragePercentRow.holds Try.pinned (OpenSpec.ofChange fnExactCoveragePercentWrong)

/-- 'laws.FnExactLostNames': WHATEVER THE INPUT: true; the input reads as it did. -/
def fnExactLostNamesSpec : ChangeSpec := { name := "fnExactLostNames", fn := fun _ => fun
  | [d1, d2, d3, d4] => { results := [.lit (.bool true)], args := [d1, d2, d3, d4] }
  | _ => none }
def fnExactLostNamesRow : OpenClaim := { program := "ythkaminpfacbpaa", sum := "3ecc4acf49ee6762faf32f3b48d026ff1359b3c187f6df0cb66cdebb0da13d8b", func := "loop.example/g00518/laws.FnExactLostNames", spec := "fnExactLostNames", apart := false }
def FnExactLostNamesSaid : Prop := fnExactLostNamesRow.holds Try.pinned (OpenSpec.ofChange fnExactLostNamesSpec)

/-- ITS FALSE NEIGHBOUR: 'it returns false'. Refute it at one input. -/
def fnExactLostNamesWrong : ChangeSpec := { name := "fnExactLostNames", fn := fun _ => fun
  | [d1, d2, d3, d4] => { results := [.lit (.bool false)], args := [d1, d2, d3, d4] }
  | _ => none }
def FnExactLostNamesWrongFalsely : Prop := fnExactLostNamesRow.holds Try.pinned (OpenSpec.ofChange fnExactLostNamesWrong)

/-- 'laws.FnExactDefaultedNames': WHATEVER THE INPUT: true; the input reads as it did. -/
def fnExactDefaultedNamesSpec : ChangeSpec := { name := "fnExactDefaultedNames", fn := fun _ => fun
  | [d1, d2, d3, d4] => { results := [.lit (.bool true)], args := [d1, d2, d3, d4] }
  | _ => none }
def fnExactDefaultedNamesRow : OpenClaim := { program := "ythkaminpfacbpaa", sum := "3ecc4acf49ee6762faf32f3b48d026ff1359b3c187f6df0cb66cdebb0da13d8b", func := "loop.example/g00518/laws.FnExactDefaultedNames", spec := "fnExactDefaultedNames", apart := false }
def FnExactDefaultedNamesSaid : Prop := fnExactDefaultedNamesRow.holds Try.pinned (OpenSpec.ofChange fnExactDefaultedNamesSpec)

/-- ITS FALSE NEIGHBOUR: 'it returns false'. Refute it at one input. -/
def fnExactDefaultedNamesWrong : ChangeSpec := { name := "fnExactDefaultedNames", fn := fun _ => fun
  | [d1, d2, d3, d4] => { results := [.lit (.bool false)], args := [d1, d2, d3, d4] }
  | _ => none }
def FnExactDefaultedNamesWrongFalsely : Prop := fnExactDefaultedNamesRow.holds Try.pinned (OpenSpec.ofChange fnExactDefaultedNamesWrong)

/-- 'laws.FnExactUncoveredRules': WHATEVER THE INPUT: true; the input reads as it did. -/
def fnExactUncoveredRulesSpec : ChangeSpec := { name := "fnExactUncoveredRules", fn := fun _ => fun
  | [d1, d2] => { results := [.lit (.bool true)], args := [d1, d2] }
  | _ => none }
def fnExactUncoveredRulesRow : OpenClaim := { program := "ythkaminpfacbpaa", sum := "3ecc4acf49ee6762faf32f3b48d026ff1359b3c187f6df0cb66cdebb0da13d8b", func := "loop.example/g00518/laws.FnExactUncoveredRules", spec := "fnExactUncoveredRules", apart := false }
def FnExactUncoveredRulesSaid : Prop := fnExactUncoveredRulesRow.holds Try.pinned (OpenSpec.ofChange fnExactUncoveredRulesSpec)

/-- ITS FALSE NEIGHBOUR: 'it returns false'. Refute it at one input. -/
def fnExactUncoveredRulesWrong : ChangeSpec := { name := "fnExactUncoveredRules", fn := fun _ => fun
  | [d1, d2] => { results := [.lit (.bool false)], args := [d1, d2] }
  | _ => none }
def FnExactUncoveredRulesWrongFalsely : Prop := fnExactUncoveredRulesRow.holds Try.pinned (OpenSpec.ofChange fnExactUncoveredRulesWrong)

/-- 'laws.FnExactRenameRule': WHATEVER THE INPUT: true; the input reads as it did. -/
def fnExactRenameRuleSpec : ChangeSpec := { name := "fnExactRenameRule", fn := fun _ => fun
  | [d1, d2, d3] => { results := [.lit (.bool true)], args := [d1, d2, d3] }
  | _ => none }
def fnExactRenameRuleRow : OpenClaim := { program := "ythkaminpfacbpaa", sum := "3ecc4acf49ee6762faf32f3b48d026ff1359b3c187f6df0cb66cdebb0da13d8b", func := "loop.example/g00518/laws.FnExactRenameRule", spec := "fnExactRenameRule", apart := false }
def FnExactRenameRuleSaid : Prop := fnExactRenameRuleRow.holds Try.pinned (OpenSpec.ofChange fnExactRenameRuleSpec)

/-- ITS FALSE NEIGHBOUR: 'it returns false'. Refute it at one input. -/
def fnExactRenameRuleWrong : ChangeSpec := { name := "fnExactRenameRule", fn := fun _ => fun
  | [d1, d2, d3] => { results := [.lit (.bool false)], args := [d1, d2, d3] }
  | _ => none }
def FnExactRenameRuleWrongFalsely : Prop := fnExactRenameRuleRow.holds Try.pinned (OpenSpec.ofChange fnExactRenameRuleWrong)

/-- 'laws.FnExactAddVersion': WHATEVER THE INPUT: true; the input reads as it did. -/
def fnExactAddVersionSpec : ChangeSpec := { name := "fnExactAddVersion", fn := fun _ => fun
  | [d1, d2] => { results := [.lit (.bool true)], args := [d1, d2] }
  | _ => none }
def fnExactAddVersionRow : OpenClaim := { program := "ythkaminpfacbpaa", sum := "3ecc4acf49ee6762faf32f3b48d026ff1359b3c187f6df0cb66cdebb0da13d8b", func := "loop.example/g00518/laws.FnExactAddVersion", spec := "fnExactAddVersion", apart := false }
def FnExactAddVersionSaid : Prop := fnExactAddVersionRow.holds Try.pinned (OpenSpec.ofChange fnExactAddVersionSpec)

/-- ITS FALSE NEIGHBOUR: 'it returns false'. Refute it at one input. -/
def fnExactAddVersionWrong : ChangeSpec := { name := "fnExactAddVersion", fn := fun _ => fun
  | [d1, d2] => { results := [.lit (.bool false)], args := [d1, d2] }
  | _ => none }
def FnExactAddVersionWrongFalsely : Prop := fnExactAddVersionRow.holds Try.pinned (OpenSpec.ofChange fnExactAddVersionWrong)

/-- 'laws.FnExactSyncArchive': WHATEVER THE INPUT: true; the input reads as it did. -/
def fnExactSyncArchiveSpec : ChangeSpec := { name := "fnExactSyncArchive", fn := fun _ => fun
  | [d] => { results := [.lit (.bool true)], args := [d] }
  | _ => none }
def fnExactSyncArchiveRow : OpenClaim := { program := "ythkaminpfacbpaa", sum := "3ecc4acf49ee6762faf32f3b48d026ff1359b3c187f6df0cb66cdebb0da13d8b", func := "loop.example/g00518/laws.FnExactSyncArchive", spec := "fnExactSyncArchive", unfollowed := true, recurses := true, apart := false }
def FnExactSyncArchiveSaid : Prop := fnExactSyncArchiveRow.holds Try.pinned (OpenSpec.ofChange fnExactSyncArchiveSpec)

/-- ITS FALSE NEIGHBOUR: 'it returns false'. Refute it at one input. -/
def fnExactSyncArchiveWrong : ChangeSpec := { name := "fnExactSyncArchive", fn := fun _ => fun
  | [d] => { results := [.lit (.bool false)], args := [d] }
  | _ => none }
def FnExactSyncArchiveWrongFalsely : Prop := fnExactSyncArchiveRow.holds Try.pinned (OpenSpec.ofChange fnExactSyncArchiveWrong)

/-- 'laws.FnExactCrashArchive': WHATEVER THE INPUT: true; the input reads as it did. -/
def fnExactCrashArchiveSpec : ChangeSpec := { name := "fnExactCrashArchive", fn := fun _ => fun
  | [d1, d2] => { results := [.lit (.bool true)], args := [d1, d2] }
  | _ => none }
def fnExactCrashArchiveRow : OpenClaim := { program := "ythkaminpfacbpaa", sum := "3ecc4acf49ee6762faf32f3b48d026ff1359b3c187f6df0cb66cdebb0da13d8b", func := "loop.example/g00518/laws.FnExactCrashArchive", spec := "fnExactCrashArchive", unfollowed := true, recurses := true, apart := false }
def FnExactCrashArchiveSaid : Prop := fnExactCrashArchiveRow.holds Try.pinned (OpenSpec.ofChange fnExactCrashArchiveSpec)

/-- ITS FALSE NEIGHBOUR: 'it returns false'. Refute it at one input. -/
def fnExactCrashArchiveWrong : ChangeSpec := { name := "fnExactCrashArchive", fn := fun _ => fun
  | [d1, d2] => { results := [.lit (.bool false)], args := [d1, d2] }
  | _ => none }
def FnExactCrashArchiveWrongFalsely : Prop := fnExactCrashArchiveRow.holds Try.pinned (OpenSpec.ofChange fnExactCrashArchiveWrong)

/- THE SECOND FORM. 'bulk': how many values and letters a reading holds, each counted each time it is reached (what is shared counts as often as it is met; a slice's spare places count too). A statement '..UptoSaid' is the law's where the arguments, and the package variables that the reading takes, are together of bulk at most 1048576: NARROWER than '..Said'. Prove '..Said' where nothing that the law and all that it calls make is longer than what came in: it says more and counts as full. Else prove '..UptoSaid'. A law counts once. -/
mutual
def uptoBulk {H : Type} : DataW H → Nat
  | .lit (.string bytes) => bytes.length + 1
  | .lit _ => 1
  | .nil => 1
  | .ptr d => uptoBulk d + 1
  | .slice elems spare => uptoBulkAll elems + uptoBulkAll spare + 1
  | .agg parts => uptoBulkAll parts + 1
  | .iface _ d => uptoBulk d + 1
  | .map entries => uptoBulkEntries entries + 1
  | .held _ => 1
def uptoBulkAll {H : Type} : List (DataW H) → Nat
  | [] => 0
  | d :: r => uptoBulk d + uptoBulkAll r
def uptoBulkEntries {H : Type} : List (Lit × DataW H) → Nat
  | [] => 0
  | x :: r => uptoBulkEntry x + uptoBulkEntries r
def uptoBulkEntry {H : Type} : Lit × DataW H → Nat
  | (.string bytes, d) => bytes.length + uptoBulk d + 1
  | (_, d) => uptoBulk d + 1
 end
def uptoSmall : (H : Type) → List (DataW H) → Bool := fun _ ds => decide (uptoBulkAll ds ≤ 1048576)
def OpenSpec.upto (s : _root_.Go.ChangeSpec) : _root_.Go.OpenSpec := { _root_.Go.OpenSpec.ofChange s with cond := some uptoSmall }

/-- 'laws.FnExactLatestVersion', WHERE WHAT IT READS IS OF BULK AT MOST 1048576: true; the input reads as it did. -/
def fnExactLatestVersionUptoRow : OpenClaim := { program := "ythkaminpfacbpaa", sum := "3ecc4acf49ee6762faf32f3b48d026ff1359b3c187f6df0cb66cdebb0da13d8b", func := "loop.example/g00518/laws.FnExactLatestVersion", spec := "fnExactLatestVersion", apart := false, narrowed := true }
def FnExactLatestVersionUptoSaid : Prop := fnExactLatestVersionUptoRow.holds Try.pinned (OpenSpec.upto fnExactLatestVersionSpec)

/-- 'laws.FnExactSharedNames', WHERE WHAT IT READS IS OF BULK AT MOST 1048576: true; the input reads as it did. -/
def fnExactSharedNamesUptoRow : OpenClaim := { program := "ythkaminpfacbpaa", sum := "3ecc4acf49ee6762faf32f3b48d026ff1359b3c187f6df0cb66cdebb0da13d8b", func := "loop.example/g00518/laws.FnExactSharedNames", spec := "fnExactSharedNames", apart := false, narrowed := true }
def FnExactSharedNamesUptoSaid : Prop := fnExactSharedNamesUptoRow.holds Try.pinned (OpenSpec.upto fnExactSharedNamesSpec)

/-- 'laws.FnExactEqualRegistries', WHERE WHAT IT READS IS OF BULK AT MOST 1048576: true; the input reads as it did. -/
def fnExactEqualRegistriesUptoRow : OpenClaim := { program := "ythkaminpfacbpaa", sum := "3ecc4acf49ee6762faf32f3b48d026ff1359b3c187f6df0cb66cdebb0da13d8b", func := "loop.example/g00518/laws.FnExactEqualRegistries", spec := "fnExactEqualRegistries", apart := false, narrowed := true }
def FnExactEqualRegistriesUptoSaid : Prop := fnExactEqualRegistriesUptoRow.holds Try.pinned (OpenSpec.upto fnExactEqualRegistriesSpec)

/-- 'laws.FnExactEqualArchives', WHERE WHAT IT READS IS OF BULK AT MOST 1048576: true; the input reads as it did. -/
def fnExactEqualArchivesUptoRow : OpenClaim := { program := "ythkaminpfacbpaa", sum := "3ecc4acf49ee6762faf32f3b48d026ff1359b3c187f6df0cb66cdebb0da13d8b", func := "loop.example/g00518/laws.FnExactEqualArchives", spec := "fnExactEqualArchives", apart := false, narrowed := true }
def FnExactEqualArchivesUptoSaid : Prop := fnExactEqualArchivesUptoRow.holds Try.pinned (OpenSpec.upto fnExactEqualArchivesSpec)

/-- 'laws.FnLostParts', WHERE WHAT IT READS IS OF BULK AT MOST 1048576: true; the input reads as it did. -/
def fnLostPartsUptoRow : OpenClaim := { program := "ythkaminpfacbpaa", sum := "3ecc4acf49ee6762faf32f3b48d026ff1359b3c187f6df0cb66cdebb0da13d8b", func := "loop.example/g00518/laws.FnLostParts", spec := "fnLostParts", apart := false, narrowed := true }
def FnLostPartsUptoSaid : Prop := fnLostPartsUptoRow.holds Try.pinned (OpenSpec.upto fnLostPartsSpec)

/-- 'laws.FnExactIsValidRegistry', WHERE WHAT IT READS IS OF BULK AT MOST 1048576: true; the input reads as it did. -/
def fnExactIsValidRegistryUptoRow : OpenClaim := { program := "ythkaminpfacbpaa", sum := "3ecc4acf49ee6762faf32f3b48d026ff1359b3c187f6df0cb66cdebb0da13d8b", func := "loop.example/g00518/laws.FnExactIsValidRegistry", spec := "fnExactIsValidRegistry", apart := false, narrowed := true }
def FnExactIsValidRegistryUptoSaid : Prop := fnExactIsValidRegistryUptoRow.holds Try.pinned (OpenSpec.upto fnExactIsValidRegistrySpec)

/-- 'laws.FnExactCoveragePercent', WHERE WHAT IT READS IS OF BULK AT MOST 1048576: true; the input reads as it did. -/
def fnExactCoveragePercentUptoRow : OpenClaim := { program := "ythkaminpfacbpaa", sum := "3ecc4acf49ee6762faf32f3b48d026ff1359b3c187f6df0cb66cdebb0da13d8b", func := "loop.example/g00518/laws.FnExactCoveragePercent", spec := "fnExactCoveragePercent", apart := false, narrowed := true }
def FnExactCoveragePercentUptoSaid : Prop := fnExactCoveragePercentUptoRow.holds Try.pinned (OpenSpec.upto fnExactCoveragePercentSpec)

/-- 'laws.FnExactLostNames', WHERE WHAT IT READS IS OF BULK AT MOST 1048576: true; the input reads as it did. -/
def fnExactLostNamesUptoRow : OpenClaim := { program := "ythkaminpfacbpaa", sum := "3ecc4acf49ee6762faf32f3b48d026ff1359b3c187f6df0cb66cdebb0da13d8b", func := "loop.example/g00518/laws.FnExactLostNames", spec := "fnExactLostNames", apart := false, narrowed := true }
def FnExactLostNamesUptoSaid : Prop := fnExactLostNamesUptoRow.holds Try.pinned (OpenSpec.upto fnExactLostNamesSpec)

/-- 'laws.FnExactDefaultedNames', WHERE WHAT IT READS IS OF BULK AT MOST 1048576: true; the input reads as it did. -/
def fnExactDefaultedNamesUptoRow : OpenClaim := { program := "ythkaminpfacbpaa", sum := "3ecc4acf49ee6762faf32f3b48d026ff1359b3c187f6df0cb66cdebb0da13d8b", func := "loop.example/g00518/laws.FnExactDefaultedNames", spec := "fnExactDefaultedNames", apart := false, narrowed := true }
def FnExactDefaultedNamesUptoSaid : Prop := fnExactDefaultedNamesUptoRow.holds Try.pinned (OpenSpec.upto fnExactDefaultedNamesSpec)

/-- 'laws.FnExactUncoveredRules', WHERE WHAT IT READS IS OF BULK AT MOST 1048576: true; the input reads as it did. -/
def fnExactUncoveredRulesUptoRow : OpenClaim := { program := "ythkaminpfacbpaa", sum := "3ecc4acf49ee6762faf32f3b48d026ff1359b3c187f6df0cb66cdebb0da13d8b", func := "loop.example/g00518/laws.FnExactUncoveredRules", spec := "fnExactUncoveredRules", apart := false, narrowed := true }
def FnExactUncoveredRulesUptoSaid : Prop := fnExactUncoveredRulesUptoRow.holds Try.pinned (OpenSpec.upto fnExactUncoveredRulesSpec)

/-- 'laws.FnExactRenameRule', WHERE WHAT IT READS IS OF BULK AT MOST 1048576: true; the input reads as it did. -/
def fnExactRenameRuleUptoRow : OpenClaim := { program := "ythkaminpfacbpaa", sum := "3ecc4acf49ee6762faf32f3b48d026ff1359b3c187f6df0cb66cdebb0da13d8b", func := "loop.example/g00518/laws.FnExactRenameRule", spec := "fnExactRenameRule", apart := false, narrowed := true }
def FnExactRenameRuleUptoSaid : Prop := fnExactRenameRuleUptoRow.holds Try.pinned (OpenSpec.upto fnExactRenameRuleSpec)

/-- 'laws.FnExactAddVersion', WHERE WHAT IT READS IS OF BULK AT MOST 1048576: true; the input reads as it did. -/
def fnExactAddVersionUptoRow : OpenClaim := { program := "ythkaminpfacbpaa", sum := "3ecc4acf49ee6762faf32f3b48d026ff1359b3c187f6df0cb66cdebb0da13d8b", func := "loop.example/g00518/laws.FnExactAddVersion", spec := "fnExactAddVersion", apart := false, narrowed := true }
def FnExactAddVersionUptoSaid : Prop := fnExactAddVersionUptoRow.holds Try.pinned (OpenSpec.upto fnExactAddVersionSpec)

/-- 'laws.FnExactSyncArchive', WHERE WHAT IT READS IS OF BULK AT MOST 1048576: true; the input reads as it did. -/
def fnExactSyncArchiveUptoRow : OpenClaim := { program := "ythkaminpfacbpaa", sum := "3ecc4acf49ee6762faf32f3b48d026ff1359b3c187f6df0cb66cdebb0da13d8b", func := "loop.example/g00518/laws.FnExactSyncArchive", spec := "fnExactSyncArchive", unfollowed := true, recurses := true, apart := false, narrowed := true }
def FnExactSyncArchiveUptoSaid : Prop := fnExactSyncArchiveUptoRow.holds Try.pinned (OpenSpec.upto fnExactSyncArchiveSpec)

/-- 'laws.FnExactCrashArchive', WHERE WHAT IT READS IS OF BULK AT MOST 1048576: true; the input reads as it did. -/
def fnExactCrashArchiveUptoRow : OpenClaim := { program := "ythkaminpfacbpaa", sum := "3ecc4acf49ee6762faf32f3b48d026ff1359b3c187f6df0cb66cdebb0da13d8b", func := "loop.example/g00518/laws.FnExactCrashArchive", spec := "fnExactCrashArchive", unfollowed := true, recurses := true, apart := false, narrowed := true }
def FnExactCrashArchiveUptoSaid : Prop := fnExactCrashArchiveUptoRow.holds Try.pinned (OpenSpec.upto fnExactCrashArchiveSpec)

end Rows
end Go.Proofs.Ythkaminpfacbpaa
