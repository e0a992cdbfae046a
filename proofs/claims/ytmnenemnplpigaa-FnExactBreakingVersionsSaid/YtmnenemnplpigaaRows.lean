/-
  No cell of these rows narrows 'for every input' (looked for: loops, veiled, ifaces, maps, wideKeys, modest, calm, conditions, laid).
  DERIVED. THE GIVEN ROWS OF THIS SEAT. 11 by the template 'for every input the law returns true; each argument reads behind the call as it read before'; 0 by the template 'total and deterministic' (their statements: YtmnenemnplpigaaTotals.lean).
  GIVEN WITH THE SEED: the statements are not yours to turn. If you find one false, say at which input.
  Laid BY PROGRAM, IN A SANDBOX (cutbox-rows.mjs): the forced cells as the released guide's own fill.sh prints them over the translation 3506a00a8f0ea1dd… (all of the seat's roots in one cut). By AI agents, Wed Nov 11 2026. No macro, syntax, notation, axiom, sorry.
-/
import Derived.Test.YtmnenemnplpigaaChecked
import GoSem.Claim
import GoSem.ClaimJoined
import GoSem.ClaimMapViews
import Derived.JoinedTies
import Derived.KernelRfl
namespace Go.Proofs.Ytmnenemnplpigaa
/- THE CELL 'sum', in the pinned program and in every row, IS THE sha256 OF THE DUMP (.gsa) THAT YtmnenemnplpigaaProg.lean LOADS. Nothing in Lean hashes anything: it is a label: what it is worth is what the hold of that sum in a sandbox is worth. -/
noncomputable def Try.pinned : Pinned := { name := "ytmnenemnplpigaa", sum := "3506a00a8f0ea1dd7a77dbf0d898db9d3fecac5e27212ed5835526a650981c55", checked := Try.checked }
namespace Rows
def none {H : Type} : Left H := { results := [], args := [] }

/-- 'laws.FnExactCoveragePercent': WHATEVER THE INPUT: true; the input reads as it did. -/
def fnExactCoveragePercentSpec : ChangeSpec := { name := "fnExactCoveragePercent", fn := fun _ => fun
  | [d1, d2] => { results := [.lit (.bool true)], args := [d1, d2] }
  | _ => none }
def fnExactCoveragePercentRow : OpenClaim := { program := "ytmnenemnplpigaa", sum := "3506a00a8f0ea1dd7a77dbf0d898db9d3fecac5e27212ed5835526a650981c55", func := "loop.example/g00518/laws.FnExactCoveragePercent", spec := "fnExactCoveragePercent", plainKeys := false, apart := false }
def FnExactCoveragePercentSaid : Prop := fnExactCoveragePercentRow.holds Try.pinned (OpenSpec.ofChange fnExactCoveragePercentSpec)

/-- ITS FALSE NEIGHBOUR: 'it returns false'. Refute it at one input. -/
def fnExactCoveragePercentWrong : ChangeSpec := { name := "fnExactCoveragePercent", fn := fun _ => fun
  | [d1, d2] => { results := [.lit (.bool false)], args := [d1, d2] }
  | _ => none }
def FnExactCoveragePercentWrongFalsely : Prop := fnExactCoveragePercentRow.holds Try.pinned (OpenSpec.ofChange fnExactCoveragePercentWrong)

/-- 'laws.FnExactDefaultedNames': WHATEVER THE INPUT: true; the input reads as it did. -/
def fnExactDefaultedNamesSpec : ChangeSpec := { name := "fnExactDefaultedNames", fn := fun _ => fun
  | [d1, d2, d3, d4] => { results := [.lit (.bool true)], args := [d1, d2, d3, d4] }
  | _ => none }
def fnExactDefaultedNamesRow : OpenClaim := { program := "ytmnenemnplpigaa", sum := "3506a00a8f0ea1dd7a77dbf0d898db9d3fecac5e27212ed5835526a650981c55", func := "loop.example/g00518/laws.FnExactDefaultedNames", spec := "fnExactDefaultedNames", plainKeys := false, apart := false }
def FnExactDefaultedNamesSaid : Prop := fnExactDefaultedNamesRow.holds Try.pinned (OpenSpec.ofChange fnExactDefaultedNamesSpec)

/-- ITS FALSE NEIGHBOUR: 'it returns false'. Refute it at one input. -/
def fnExactDefaultedNamesWrong : ChangeSpec := { name := "fnExactDefaultedNames", fn := fun _ => fun
  | [d1, d2, d3, d4] => { results := [.lit (.bool false)], args := [d1, d2, d3, d4] }
  | _ => none }
def FnExactDefaultedNamesWrongFalsely : Prop := fnExactDefaultedNamesRow.holds Try.pinned (OpenSpec.ofChange fnExactDefaultedNamesWrong)

/-- 'laws.FnExactUncoveredRules': WHATEVER THE INPUT: true; the input reads as it did. -/
def fnExactUncoveredRulesSpec : ChangeSpec := { name := "fnExactUncoveredRules", fn := fun _ => fun
  | [d1, d2] => { results := [.lit (.bool true)], args := [d1, d2] }
  | _ => none }
def fnExactUncoveredRulesRow : OpenClaim := { program := "ytmnenemnplpigaa", sum := "3506a00a8f0ea1dd7a77dbf0d898db9d3fecac5e27212ed5835526a650981c55", func := "loop.example/g00518/laws.FnExactUncoveredRules", spec := "fnExactUncoveredRules", plainKeys := false, apart := false }
def FnExactUncoveredRulesSaid : Prop := fnExactUncoveredRulesRow.holds Try.pinned (OpenSpec.ofChange fnExactUncoveredRulesSpec)

/-- ITS FALSE NEIGHBOUR: 'it returns false'. Refute it at one input. -/
def fnExactUncoveredRulesWrong : ChangeSpec := { name := "fnExactUncoveredRules", fn := fun _ => fun
  | [d1, d2] => { results := [.lit (.bool false)], args := [d1, d2] }
  | _ => none }
def FnExactUncoveredRulesWrongFalsely : Prop := fnExactUncoveredRulesRow.holds Try.pinned (OpenSpec.ofChange fnExactUncoveredRulesWrong)

/-- 'laws.FnExactExtendsRule': WHATEVER THE INPUT: true; the input reads as it did. -/
def fnExactExtendsRuleSpec : ChangeSpec := { name := "fnExactExtendsRule", fn := fun _ => fun
  | [d1, d2, d3, d4] => { results := [.lit (.bool true)], args := [d1, d2, d3, d4] }
  | _ => none }
def fnExactExtendsRuleRow : OpenClaim := { program := "ytmnenemnplpigaa", sum := "3506a00a8f0ea1dd7a77dbf0d898db9d3fecac5e27212ed5835526a650981c55", func := "loop.example/g00518/laws.FnExactExtendsRule", spec := "fnExactExtendsRule", unfollowed := true, recurses := true, plainKeys := false, apart := false }
def FnExactExtendsRuleSaid : Prop := fnExactExtendsRuleRow.holds Try.pinned (OpenSpec.ofChange fnExactExtendsRuleSpec)

/-- ITS FALSE NEIGHBOUR: 'it returns false'. Refute it at one input. -/
def fnExactExtendsRuleWrong : ChangeSpec := { name := "fnExactExtendsRule", fn := fun _ => fun
  | [d1, d2, d3, d4] => { results := [.lit (.bool false)], args := [d1, d2, d3, d4] }
  | _ => none }
def FnExactExtendsRuleWrongFalsely : Prop := fnExactExtendsRuleRow.holds Try.pinned (OpenSpec.ofChange fnExactExtendsRuleWrong)

/-- 'laws.FnExactExtends': WHATEVER THE INPUT: true; the input reads as it did. -/
def fnExactExtendsSpec : ChangeSpec := { name := "fnExactExtends", fn := fun _ => fun
  | [d1, d2] => { results := [.lit (.bool true)], args := [d1, d2] }
  | _ => none }
def fnExactExtendsRow : OpenClaim := { program := "ytmnenemnplpigaa", sum := "3506a00a8f0ea1dd7a77dbf0d898db9d3fecac5e27212ed5835526a650981c55", func := "loop.example/g00518/laws.FnExactExtends", spec := "fnExactExtends", unfollowed := true, recurses := true, plainKeys := false, apart := false }
def FnExactExtendsSaid : Prop := fnExactExtendsRow.holds Try.pinned (OpenSpec.ofChange fnExactExtendsSpec)

/-- ITS FALSE NEIGHBOUR: 'it returns false'. Refute it at one input. -/
def fnExactExtendsWrong : ChangeSpec := { name := "fnExactExtends", fn := fun _ => fun
  | [d1, d2] => { results := [.lit (.bool false)], args := [d1, d2] }
  | _ => none }
def FnExactExtendsWrongFalsely : Prop := fnExactExtendsRow.holds Try.pinned (OpenSpec.ofChange fnExactExtendsWrong)

/-- 'laws.FnExactSameFormat': WHATEVER THE INPUT: true; the input reads as it did. -/
def fnExactSameFormatSpec : ChangeSpec := { name := "fnExactSameFormat", fn := fun _ => fun
  | [d1, d2] => { results := [.lit (.bool true)], args := [d1, d2] }
  | _ => none }
def fnExactSameFormatRow : OpenClaim := { program := "ytmnenemnplpigaa", sum := "3506a00a8f0ea1dd7a77dbf0d898db9d3fecac5e27212ed5835526a650981c55", func := "loop.example/g00518/laws.FnExactSameFormat", spec := "fnExactSameFormat", unfollowed := true, recurses := true, plainKeys := false, apart := false }
def FnExactSameFormatSaid : Prop := fnExactSameFormatRow.holds Try.pinned (OpenSpec.ofChange fnExactSameFormatSpec)

/-- ITS FALSE NEIGHBOUR: 'it returns false'. Refute it at one input. -/
def fnExactSameFormatWrong : ChangeSpec := { name := "fnExactSameFormat", fn := fun _ => fun
  | [d1, d2] => { results := [.lit (.bool false)], args := [d1, d2] }
  | _ => none }
def FnExactSameFormatWrongFalsely : Prop := fnExactSameFormatRow.holds Try.pinned (OpenSpec.ofChange fnExactSameFormatWrong)

/-- 'laws.FnExactRenameRule': WHATEVER THE INPUT: true; the input reads as it did. -/
def fnExactRenameRuleSpec : ChangeSpec := { name := "fnExactRenameRule", fn := fun _ => fun
  | [d1, d2, d3] => { results := [.lit (.bool true)], args := [d1, d2, d3] }
  | _ => none }
def fnExactRenameRuleRow : OpenClaim := { program := "ytmnenemnplpigaa", sum := "3506a00a8f0ea1dd7a77dbf0d898db9d3fecac5e27212ed5835526a650981c55", func := "loop.example/g00518/laws.FnExactRenameRule", spec := "fnExactRenameRule", plainKeys := false, apart := false }
def FnExactRenameRuleSaid : Prop := fnExactRenameRuleRow.holds Try.pinned (OpenSpec.ofChange fnExactRenameRuleSpec)

/-- ITS FALSE NEIGHBOUR: 'it returns false'. Refute it at one input. -/
def fnExactRenameRuleWrong : ChangeSpec := { name := "fnExactRenameRule", fn := fun _ => fun
  | [d1, d2, d3] => { results := [.lit (.bool false)], args := [d1, d2, d3] }
  | _ => none }
def FnExactRenameRuleWrongFalsely : Prop := fnExactRenameRuleRow.holds Try.pinned (OpenSpec.ofChange fnExactRenameRuleWrong)

/-- 'laws.FnExactAddVersion': WHATEVER THE INPUT: true; the input reads as it did. -/
def fnExactAddVersionSpec : ChangeSpec := { name := "fnExactAddVersion", fn := fun _ => fun
  | [d1, d2] => { results := [.lit (.bool true)], args := [d1, d2] }
  | _ => none }
def fnExactAddVersionRow : OpenClaim := { program := "ytmnenemnplpigaa", sum := "3506a00a8f0ea1dd7a77dbf0d898db9d3fecac5e27212ed5835526a650981c55", func := "loop.example/g00518/laws.FnExactAddVersion", spec := "fnExactAddVersion", plainKeys := false, apart := false }
def FnExactAddVersionSaid : Prop := fnExactAddVersionRow.holds Try.pinned (OpenSpec.ofChange fnExactAddVersionSpec)

/-- ITS FALSE NEIGHBOUR: 'it returns false'. Refute it at one input. -/
def fnExactAddVersionWrong : ChangeSpec := { name := "fnExactAddVersion", fn := fun _ => fun
  | [d1, d2] => { results := [.lit (.bool false)], args := [d1, d2] }
  | _ => none }
def FnExactAddVersionWrongFalsely : Prop := fnExactAddVersionRow.holds Try.pinned (OpenSpec.ofChange fnExactAddVersionWrong)

/-- 'laws.FnExactBreakingVersions': WHATEVER THE INPUT: true; the input reads as it did. -/
def fnExactBreakingVersionsSpec : ChangeSpec := { name := "fnExactBreakingVersions", fn := fun _ => fun
  | [d] => { results := [.lit (.bool true)], args := [d] }
  | _ => none }
def fnExactBreakingVersionsRow : OpenClaim := { program := "ytmnenemnplpigaa", sum := "3506a00a8f0ea1dd7a77dbf0d898db9d3fecac5e27212ed5835526a650981c55", func := "loop.example/g00518/laws.FnExactBreakingVersions", spec := "fnExactBreakingVersions", unfollowed := true, recurses := true, plainKeys := false, apart := false }
def FnExactBreakingVersionsSaid : Prop := fnExactBreakingVersionsRow.holds Try.pinned (OpenSpec.ofChange fnExactBreakingVersionsSpec)

/-- ITS FALSE NEIGHBOUR: 'it returns false'. Refute it at one input. -/
def fnExactBreakingVersionsWrong : ChangeSpec := { name := "fnExactBreakingVersions", fn := fun _ => fun
  | [d] => { results := [.lit (.bool false)], args := [d] }
  | _ => none }
def FnExactBreakingVersionsWrongFalsely : Prop := fnExactBreakingVersionsRow.holds Try.pinned (OpenSpec.ofChange fnExactBreakingVersionsWrong)

/-- 'laws.FnExactSyncArchive': WHATEVER THE INPUT: true; the input reads as it did. -/
def fnExactSyncArchiveSpec : ChangeSpec := { name := "fnExactSyncArchive", fn := fun _ => fun
  | [d] => { results := [.lit (.bool true)], args := [d] }
  | _ => none }
def fnExactSyncArchiveRow : OpenClaim := { program := "ytmnenemnplpigaa", sum := "3506a00a8f0ea1dd7a77dbf0d898db9d3fecac5e27212ed5835526a650981c55", func := "loop.example/g00518/laws.FnExactSyncArchive", spec := "fnExactSyncArchive", unfollowed := true, recurses := true, plainKeys := false, apart := false }
def FnExactSyncArchiveSaid : Prop := fnExactSyncArchiveRow.holds Try.pinned (OpenSpec.ofChange fnExactSyncArchiveSpec)

/-- ITS FALSE NEIGHBOUR: 'it returns false'. Refute it at one input. -/
def fnExactSyncArchiveWrong : ChangeSpec := { name := "fnExactSyncArchive", fn := fun _ => fun
  | [d] => { results := [.lit (.bool false)], args := [d] }
  | _ => none }
def FnExactSyncArchiveWrongFalsely : Prop := fnExactSyncArchiveRow.holds Try.pinned (OpenSpec.ofChange fnExactSyncArchiveWrong)

/-- 'laws.FnExactCrashArchive': WHATEVER THE INPUT: true; the input reads as it did. -/
def fnExactCrashArchiveSpec : ChangeSpec := { name := "fnExactCrashArchive", fn := fun _ => fun
  | [d1, d2] => { results := [.lit (.bool true)], args := [d1, d2] }
  | _ => none }
def fnExactCrashArchiveRow : OpenClaim := { program := "ytmnenemnplpigaa", sum := "3506a00a8f0ea1dd7a77dbf0d898db9d3fecac5e27212ed5835526a650981c55", func := "loop.example/g00518/laws.FnExactCrashArchive", spec := "fnExactCrashArchive", unfollowed := true, recurses := true, plainKeys := false, apart := false }
def FnExactCrashArchiveSaid : Prop := fnExactCrashArchiveRow.holds Try.pinned (OpenSpec.ofChange fnExactCrashArchiveSpec)

/-- ITS FALSE NEIGHBOUR: 'it returns false'. Refute it at one input. -/
def fnExactCrashArchiveWrong : ChangeSpec := { name := "fnExactCrashArchive", fn := fun _ => fun
  | [d1, d2] => { results := [.lit (.bool false)], args := [d1, d2] }
  | _ => none }
def FnExactCrashArchiveWrongFalsely : Prop := fnExactCrashArchiveRow.holds Try.pinned (OpenSpec.ofChange fnExactCrashArchiveWrong)

/- THE SECOND FORM. 'bulk': how many values and letters a reading holds, each counted each time it is reached (what is shared counts as often as it is met; a slice's spare places count too). A statement '..UptoSaid' is the law's where the arguments, and the package variables that the reading takes, are together of bulk at most 1048576: NARROWER than '..Said'. Prove '..Said' where nothing that the law and all that it calls make is longer than what came in: it says more and counts as full. Else prove '..UptoSaid'. A law counts once. -/
mutual
def uptoBulk {H : Type} : DataW H → Nat
  | .lit (.string bytes) => bytes.length + 1
  | .lit _ => 1
  | .nil => 1
  | .ptr d => uptoBulk d + 1
  | .slice elems spare => uptoBulkAll elems + uptoBulkAll spare + 1
  | .agg parts => uptoBulkAll parts + 1
  | .iface _ d => uptoBulk d + 1
  | .map entries => uptoBulkEntries entries + 1
  | .held _ => 1
def uptoBulkAll {H : Type} : List (DataW H) → Nat
  | [] => 0
  | d :: r => uptoBulk d + uptoBulkAll r
def uptoBulkEntries {H : Type} : List (Lit × DataW H) → Nat
  | [] => 0
  | x :: r => uptoBulkEntry x + uptoBulkEntries r
def uptoBulkEntry {H : Type} : Lit × DataW H → Nat
  | (.string bytes, d) => bytes.length + uptoBulk d + 1
  | (_, d) => uptoBulk d + 1
 end
def uptoSmall : (H : Type) → List (DataW H) → Bool := fun _ ds => decide (uptoBulkAll ds ≤ 1048576)
def OpenSpec.upto (s : _root_.Go.ChangeSpec) : _root_.Go.OpenSpec := { _root_.Go.OpenSpec.ofChange s with cond := some uptoSmall }

/-- 'laws.FnExactCoveragePercent', WHERE WHAT IT READS IS OF BULK AT MOST 1048576: true; the input reads as it did. -/
def fnExactCoveragePercentUptoRow : OpenClaim := { program := "ytmnenemnplpigaa", sum := "3506a00a8f0ea1dd7a77dbf0d898db9d3fecac5e27212ed5835526a650981c55", func := "loop.example/g00518/laws.FnExactCoveragePercent", spec := "fnExactCoveragePercent", plainKeys := false, apart := false, narrowed := true }
def FnExactCoveragePercentUptoSaid : Prop := fnExactCoveragePercentUptoRow.holds Try.pinned (OpenSpec.upto fnExactCoveragePercentSpec)

/-- 'laws.FnExactDefaultedNames', WHERE WHAT IT READS IS OF BULK AT MOST 1048576: true; the input reads as it did. -/
def fnExactDefaultedNamesUptoRow : OpenClaim := { program := "ytmnenemnplpigaa", sum := "3506a00a8f0ea1dd7a77dbf0d898db9d3fecac5e27212ed5835526a650981c55", func := "loop.example/g00518/laws.FnExactDefaultedNames", spec := "fnExactDefaultedNames", plainKeys := false, apart := false, narrowed := true }
def FnExactDefaultedNamesUptoSaid : Prop := fnExactDefaultedNamesUptoRow.holds Try.pinned (OpenSpec.upto fnExactDefaultedNamesSpec)

/-- 'laws.FnExactUncoveredRules', WHERE WHAT IT READS IS OF BULK AT MOST 1048576: true; the input reads as it did. -/
def fnExactUncoveredRulesUptoRow : OpenClaim := { program := "ytmnenemnplpigaa", sum := "3506a00a8f0ea1dd7a77dbf0d898db9d3fecac5e27212ed5835526a650981c55", func := "loop.example/g00518/laws.FnExactUncoveredRules", spec := "fnExactUncoveredRules", plainKeys := false, apart := false, narrowed := true }
def FnExactUncoveredRulesUptoSaid : Prop := fnExactUncoveredRulesUptoRow.holds Try.pinned (OpenSpec.upto fnExactUncoveredRulesSpec)

/-- 'laws.FnExactExtendsRule', WHERE WHAT IT READS IS OF BULK AT MOST 1048576: true; the input reads as it did. -/
def fnExactExtendsRuleUptoRow : OpenClaim := { program := "ytmnenemnplpigaa", sum := "3506a00a8f0ea1dd7a77dbf0d898db9d3fecac5e27212ed5835526a650981c55", func := "loop.example/g00518/laws.FnExactExtendsRule", spec := "fnExactExtendsRule", unfollowed := true, recurses := true, plainKeys := false, apart := false, narrowed := true }
def FnExactExtendsRuleUptoSaid : Prop := fnExactExtendsRuleUptoRow.holds Try.pinned (OpenSpec.upto fnExactExtendsRuleSpec)

/-- 'laws.FnExactExtends', WHERE WHAT IT READS IS OF BULK AT MOST 1048576: true; the input reads as it did. -/
def fnExactExtendsUptoRow : OpenClaim := { program := "ytmnenemnplpigaa", sum := "3506a00a8f0ea1dd7a77dbf0d898db9d3fecac5e27212ed5835526a650981c55", func := "loop.example/g00518/laws.FnExactExtends", spec := "fnExactExtends", unfollowed := true, recurses := true, plainKeys := false, apart := false, narrowed := true }
def FnExactExtendsUptoSaid : Prop := fnExactExtendsUptoRow.holds Try.pinned (OpenSpec.upto fnExactExtendsSpec)

/-- 'laws.FnExactSameFormat', WHERE WHAT IT READS IS OF BULK AT MOST 1048576: true; the input reads as it did. -/
def fnExactSameFormatUptoRow : OpenClaim := { program := "ytmnenemnplpigaa", sum := "3506a00a8f0ea1dd7a77dbf0d898db9d3fecac5e27212ed5835526a650981c55", func := "loop.example/g00518/laws.FnExactSameFormat", spec := "fnExactSameFormat", unfollowed := true, recurses := true, plainKeys := false, apart := false, narrowed := true }
def FnExactSameFormatUptoSaid : Prop := fnExactSameFormatUptoRow.holds Try.pinned (OpenSpec.upto fnExactSameFormatSpec)

/-- 'laws.FnExactRenameRule', WHERE WHAT IT READS IS OF BULK AT MOST 1048576: true; the input reads as it did. -/
def fnExactRenameRuleUptoRow : OpenClaim := { program := "ytmnenemnplpigaa", sum := "3506a00a8f0ea1dd7a77dbf0d898db9d3fecac5e27212ed5835526a650981c55", func := "loop.example/g00518/laws.FnExactRenameRule", spec := "fnExactRenameRule", plainKeys := false, apart := false, narrowed := true }
def FnExactRenameRuleUptoSaid : Prop := fnExactRenameRuleUptoRow.holds Try.pinned (OpenSpec.upto fnExactRenameRuleSpec)

/-- 'laws.FnExactAddVersion', WHERE WHAT IT READS IS OF BULK AT MOST 1048576: true; the input reads as it did. -/
def fnExactAddVersionUptoRow : OpenClaim := { program := "ytmnenemnplpigaa", sum := "3506a00a8f0ea1dd7a77dbf0d898db9d3fecac5e27212ed5835526a650981c55", func := "loop.example/g00518/laws.FnExactAddVersion", spec := "fnExactAddVersion", plainKeys := false, apart := false, narrowed := true }
def FnExactAddVersionUptoSaid : Prop := fnExactAddVersionUptoRow.holds Try.pinned (OpenSpec.upto fnExactAddVersionSpec)

/-- 'laws.FnExactBreakingVersions', WHERE WHAT IT READS IS OF BULK AT MOST 1048576: true; the input reads as it did. -/
def fnExactBreakingVersionsUptoRow : OpenClaim := { program := "ytmnenemnplpigaa", sum := "3506a00a8f0ea1dd7a77dbf0d898db9d3fecac5e27212ed5835526a650981c55", func := "loop.example/g00518/laws.FnExactBreakingVersions", spec := "fnExactBreakingVersions", unfollowed := true, recurses := true, plainKeys := false, apart := false, narrowed := true }
def FnExactBreakingVersionsUptoSaid : Prop := fnExactBreakingVersionsUptoRow.holds Try.pinned (OpenSpec.upto fnExactBreakingVersionsSpec)

/-- 'laws.FnExactSyncArchive', WHERE WHAT IT READS IS OF BULK AT MOST 1048576: true; the input reads as it did. -/
def fnExactSyncArchiveUptoRow : OpenClaim := { program := "ytmnenemnplpigaa", sum := "3506a00a8f0ea1dd7a77dbf0d898db9d3fecac5e27212ed5835526a650981c55", func := "loop.example/g00518/laws.FnExactSyncArchive", spec := "fnExactSyncArchive", unfollowed := true, recurses := true, plainKeys := false, apart := false, narrowed := true }
def FnExactSyncArchiveUptoSaid : Prop := fnExactSyncArchiveUptoRow.holds Try.pinned (OpenSpec.upto fnExactSyncArchiveSpec)

/-- 'laws.FnExactCrashArchive', WHERE WHAT IT READS IS OF BULK AT MOST 1048576: true; the input reads as it did. -/
def fnExactCrashArchiveUptoRow : OpenClaim := { program := "ytmnenemnplpigaa", sum := "3506a00a8f0ea1dd7a77dbf0d898db9d3fecac5e27212ed5835526a650981c55", func := "loop.example/g00518/laws.FnExactCrashArchive", spec := "fnExactCrashArchive", unfollowed := true, recurses := true, plainKeys := false, apart := false, narrowed := true }
def FnExactCrashArchiveUptoSaid : Prop := fnExactCrashArchiveUptoRow.holds Try.pinned (OpenSpec.upto fnExactCrashArchiveSpec)

end Rows
end Go.Proofs.Ytmnenemnplpigaa
