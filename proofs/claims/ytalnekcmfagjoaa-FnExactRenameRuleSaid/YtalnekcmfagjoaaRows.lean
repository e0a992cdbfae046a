/-
  No cell of these rows narrows 'for every input' (looked for: loops, veiled, ifaces, maps, wideKeys, modest, calm, conditions, laid).
  DERIVED. THE GIVEN ROWS OF THIS SEAT. 4 by the template 'for every input the law returns true; each argument reads behind the call as it read before'; 0 by the template 'total and deterministic' (their statements: YtalnekcmfagjoaaTotals.lean).
  GIVEN WITH THE SEED: the statements are not yours to turn. If you find one false, say at which input.
  Laid BY PROGRAM, IN A SANDBOX (cutbox-rows.mjs): the forced cells as the released guide's own fill.sh prints them over the translation 40f5827e604ea522… (all of the seat's roots in one cut). By AI agents, Wed Nov 11 2026. No macro, syntax, notation, axiom, sorry.
-/
import Derived.Test.YtalnekcmfagjoaaChecked
import GoSem.Claim
import GoSem.ClaimJoined
import GoSem.ClaimMapViews
import Derived.JoinedTies
import Derived.KernelRfl
namespace Go.Proofs.Ytalnekcmfagjoaa
/- THE CELL 'sum', in the pinned program and in every row, IS THE sha256 OF THE DUMP (.gsa) THAT YtalnekcmfagjoaaProg.lean LOADS. Nothing in Lean hashes anything: it is a label: what it is worth is what the hold of that sum in a sandbox is worth. -/
noncomputable def Try.pinned : Pinned := { name := "ytalnekcmfagjoaa", sum := "40f5827e604ea522bf980d27d6c15c5659f23592ebe38b0c3c4ab7fd409e85d6", checked := Try.checked }
namespace Rows
def none {H : Type} : Left H := { results := [], args := [] }

/-- 'laws.FnExactRenameRule': WHATEVER THE INPUT: true; the input reads as it did. -/
def fnExactRenameRuleSpec : ChangeSpec := { name := "fnExactRenameRule", fn := fun _ => fun
  | [d1, d2, d3] => { results := [.lit (.bool true)], args := [d1, d2, d3] }
  | _ => none }
def fnExactRenameRuleRow : OpenClaim := { program := "ytalnekcmfagjoaa", sum := "40f5827e604ea522bf980d27d6c15c5659f23592ebe38b0c3c4ab7fd409e85d6", func := "loop.example/g00518/laws.FnExactRenameRule", spec := "fnExactRenameRule", apart := false }
def FnExactRenameRuleSaid : Prop := fnExactRenameRuleRow.holds Try.pinned (OpenSpec.ofChange fnExactRenameRuleSpec)

/-- ITS FALSE NEIGHBOUR: 'it returns false'. Refute it at one input. -/
def fnExactRenameRuleWrong : ChangeSpec := { name := "fnExactRenameRule", fn := fun _ => fun
  | [d1, d2, d3] => { results := [.lit (.bool false)], args := [d1, d2, d3] }
  | _ => none }
def FnExactRenameRuleWrongFalsely : Prop := fnExactRenameRuleRow.holds Try.pinned (OpenSpec.ofChange fnExactRenameRuleWrong)

/-- 'laws.FnExactAddVersion': WHATEVER THE INPUT: true; the input reads as it did. -/
def fnExactAddVersionSpec : ChangeSpec := { name := "fnExactAddVersion", fn := fun _ => fun
  | [d1, d2] => { results := [.lit (.bool true)], args := [d1, d2] }
  | _ => none }
def fnExactAddVersionRow : OpenClaim := { program := "ytalnekcmfagjoaa", sum := "40f5827e604ea522bf980d27d6c15c5659f23592ebe38b0c3c4ab7fd409e85d6", func := "loop.example/g00518/laws.FnExactAddVersion", spec := "fnExactAddVersion", apart := false }
def FnExactAddVersionSaid : Prop := fnExactAddVersionRow.holds Try.pinned (OpenSpec.ofChange fnExactAddVersionSpec)

/-- ITS FALSE NEIGHBOUR: 'it returns false'. Refute it at one input. -/
def fnExactAddVersionWrong : ChangeSpec := { name := "fnExactAddVersion", fn := fun _ => fun
  | [d1, d2] => { results := [.lit (.bool false)], args := [d1, d2] }
  | _ => none }
def FnExactAddVersionWrongFalsely : Prop := fnExactAddVersionRow.holds Try.pinned (OpenSpec.ofChange fnExactAddVersionWrong)

/-- 'laws.FnExactSyncArchive': WHATEVER THE INPUT: true; the input reads as it did. -/
def fnExactSyncArchiveSpec : ChangeSpec := { name := "fnExactSyncArchive", fn := fun _ => fun
  | [d] => { results := [.lit (.bool true)], args := [d] }
  | _ => none }
def fnExactSyncArchiveRow : OpenClaim := { program := "ytalnekcmfagjoaa", sum := "40f5827e604ea522bf980d27d6c15c5659f23592ebe38b0c3c4ab7fd409e85d6", func := "loop.example/g00518/laws.FnExactSyncArchive", spec := "fnExactSyncArchive", unfollowed := true, recurses := true, apart := false }
def FnExactSyncArchiveSaid : Prop := fnExactSyncArchiveRow.holds Try.pinned (OpenSpec.ofChange fnExactSyncArchiveSpec)

/-- ITS FALSE NEIGHBOUR: 'it returns false'. Refute it at one input. -/
def fnExactSyncArchiveWrong : ChangeSpec := { name := "fnExactSyncArchive", fn := fun _ => fun
  | [d] => { results := [.lit (.bool false)], args := [d] }
  | _ => none }
def FnExactSyncArchiveWrongFalsely : Prop := fnExactSyncArchiveRow.holds Try.pinned (OpenSpec.ofChange fnExactSyncArchiveWrong)

/-- 'laws.FnExactCrashArchive': WHATEVER THE INPUT: true; the input reads as it did. -/
def fnExactCrashArchiveSpec : ChangeSpec := { name := "fnExactCrashArchive", fn := fun _ => fun
  | [d1, d2] => { results := [.lit (.bool true)], args := [d1, d2] }
  | _ => none }
def fnExactCrashArchiveRow : OpenClaim := { program := "ytalnekcmfagjoaa", sum := "40f5827e604ea522bf980d27d6c15c5659f23592ebe38b0c3c4ab7fd409e85d6", func := "loop.example/g00518/laws.FnExactCrashArchive", spec := "fnExactCrashArchive", unfollowed := true, recurses := true, apart := false }
def FnExactCrashArchiveSaid : Prop := fnExactCrashArchiveRow.holds Try.pinned (OpenSpec.ofChange fnExactCrashArchiveSpec)

/-- ITS FALSE NEIGHBOUR: 'it returns false'. Refute it at one input. -/
def fnExactCrashArchiveWrong : ChangeSpec := { name := "fnExactCrashArchive", fn := fun _ => fun
  | [d1, d2] => { results := [.lit (.bool false)], args := [d1, d2] }
  | _ => none }
def FnExactCrashArchiveWrongFalsely : Prop := fnExactCrashArchiveRow.holds Try.pinned (OpenSpec.ofChange fnExactCrashArchiveWrong)

/- THE SECOND FORM. 'bulk': how many values and letters a reading holds, each counted each time it is reached (what is shared counts as often as it is met; a slice's spare places count too). A statement '..UptoSaid' is the law's where the arguments, and the package variables that the reading takes, are together of bulk at most 1048576: NARROWER than '..Said'. Prove '..Said' where nothing that the law and all that it calls make is longer than what came in: it says more and counts as full. Else prove '..UptoSaid'. A law counts once. -/
mutual
def uptoBulk {H : Type} : DataW H → Nat
  | .lit (.string bytes) => bytes.length + 1
  | .lit _ => 1
  | .nil => 1
  | .ptr d => uptoBulk d + 1
  | .slice elems spare => uptoBulkAll elems + uptoBulkAll spare + 1
  | .agg parts => uptoBulkAll parts + 1
  | .iface _ d => uptoBulk d + 1
  | .map entries => uptoBulkEntries entries + 1
  | .held _ => 1
def uptoBulkAll {H : Type} : List (DataW H) → Nat
  | [] => 0
  | d :: r => uptoBulk d + uptoBulkAll r
def uptoBulkEntries {H : Type} : List (Lit × DataW H) → Nat
  | [] => 0
  | x :: r => uptoBulkEntry x + uptoBulkEntries r
def uptoBulkEntry {H : Type} : Lit × DataW H → Nat
  | (.string bytes, d) => bytes.length + uptoBulk d + 1
  | (_, d) => uptoBulk d + 1
 end
def uptoSmall : (H : Type) → List (DataW H) → Bool := fun _ ds => decide (uptoBulkAll ds ≤ 1048576)
def OpenSpec.upto (s : _root_.Go.ChangeSpec) : _root_.Go.OpenSpec := { _root_.Go.OpenSpec.ofChange s with cond := some uptoSmall }

/-- 'laws.FnExactRenameRule', WHERE WHAT IT READS IS OF BULK AT MOST 1048576: true; the input reads as it did. -/
def fnExactRenameRuleUptoRow : OpenClaim := { program := "ytalnekcmfagjoaa", sum := "40f5827e604ea522bf980d27d6c15c5659f23592ebe38b0c3c4ab7fd409e85d6", func := "loop.example/g00518/laws.FnExactRenameRule", spec := "fnExactRenameRule", apart := false, narrowed := true }
def FnExactRenameRuleUptoSaid : Prop := fnExactRenameRuleUptoRow.holds Try.pinned (OpenSpec.upto fnExactRenameRuleSpec)

/-- 'laws.FnExactAddVersion', WHERE WHAT IT READS IS OF BULK AT MOST 1048576: true; the input reads as it did. -/
def fnExactAddVersionUptoRow : OpenClaim := { program := "ytalnekcmfagjoaa", sum := "40f5827e604ea522bf980d27d6c15c5659f23592ebe38b0c3c4ab7fd409e85d6", func := "loop.example/g00518/laws.FnExactAddVersion", spec := "fnExactAddVersion", apart := false, narrowed := true }
def FnExactAddVersionUptoSaid : Prop := fnExactAddVersionUptoRow.holds Try.pinned (OpenSpec.upto fnExactAddVersionSpec)

/-- 'laws.FnExactSyncArchive', WHERE WHAT IT READS IS OF BULK AT MOST 1048576: true; the input reads as it did. -/
def fnExactSyncArchiveUptoRow : OpenClaim := { program := "ytalnekcmfagjoaa", sum := "40f5827e604ea522bf980d27d6c15c5659f23592ebe38b0c3c4ab7fd409e85d6", func := "loop.example/g00518/laws.FnExactSyncArchive", spec := "fnExactSyncArchive", unfollowed := true, recurses := true, apart := false, narrowed := true }
def FnExactSyncArchiveUptoSaid : Prop := fnExactSyncArchiveUptoRow.holds Try.pinned (OpenSpec.upto fnExactSyncArchiveSpec)

/-- 'laws.FnExactCrashArchive', WHERE WHAT IT READS IS OF BULK AT MOST 1048576: true; the input reads as it did. -/
def fnExactCrashArchiveUptoRow : OpenClaim := { program := "ytalnekcmfagjoaa", sum := "40f5827e604ea522bf980d27d6c15c5659f23592ebe38b0c3c4ab7fd409e85d6", func := "loop.example/g00518/laws.FnExactCrashArchive", spec := "fnExactCrashArchive", unfollowed := true, recurses := true, apart := false, narrowed := true }
def FnExactCrashArchiveUptoSaid : Prop := fnExactCrashArchiveUptoRow.holds Try.pinned (OpenSpec.upto fnExactCrashArchiveSpec)

end Rows
end Go.Proofs.Ytalnekcmfagjoaa
