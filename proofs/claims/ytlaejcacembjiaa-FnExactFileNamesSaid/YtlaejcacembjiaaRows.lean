/-
  No cell of these rows narrows 'for every input' (looked for: loops, veiled, ifaces, maps, wideKeys, modest, calm, conditions, laid).
  DERIVED. THE GIVEN ROWS OF THIS SEAT. 7 by the template 'for every input the law returns true; each argument reads behind the call as it read before'; 0 by the template 'total and deterministic' (their statements: YtlaejcacembjiaaTotals.lean).
  GIVEN WITH THE SEED: the statements are not yours to turn. If you find one false, say at which input.
  Laid BY PROGRAM, IN A SANDBOX (cutbox-rows.mjs): the forced cells as the released guide's own fill.sh prints them over the translation 4c14c8a108b18fca… (all of the seat's roots in one cut). By AI agents, Wed Nov 11 2026. No macro, syntax, notation, axiom, sorry.
-/
import Derived.Test.YtlaejcacembjiaaChecked
import GoSem.Claim
import GoSem.ClaimJoined
import GoSem.ClaimMapViews
import Derived.JoinedTies
import Derived.KernelRfl
namespace Go.Proofs.Ytlaejcacembjiaa
/- THE CELL 'sum', in the pinned program and in every row, IS THE sha256 OF THE DUMP (.gsa) THAT YtlaejcacembjiaaProg.lean LOADS. Nothing in Lean hashes anything: it is a label: what it is worth is what the hold of that sum in a sandbox is worth. -/
noncomputable def Try.pinned : Pinned := { name := "ytlaejcacembjiaa", sum := "4c14c8a108b18fca070709e0bfd3646594a2dc2addbcedde55a80bc7c2eebf29", checked := Try.checked }
namespace Rows
def none {H : Type} : Left H := { results := [], args := [] }

/-- 'laws.FnExactAddVersion': WHATEVER THE INPUT: true; the input reads as it did. -/
def fnExactAddVersionSpec : ChangeSpec := { name := "fnExactAddVersion", fn := fun _ => fun
  | [d1, d2] => { results := [.lit (.bool true)], args := [d1, d2] }
  | _ => none }
def fnExactAddVersionRow : OpenClaim := { program := "ytlaejcacembjiaa", sum := "4c14c8a108b18fca070709e0bfd3646594a2dc2addbcedde55a80bc7c2eebf29", func := "loop.example/g00518/laws.FnExactAddVersion", spec := "fnExactAddVersion", apart := false }
def FnExactAddVersionSaid : Prop := fnExactAddVersionRow.holds Try.pinned (OpenSpec.ofChange fnExactAddVersionSpec)

/-- ITS FALSE NEIGHBOUR: 'it returns false'. Refute it at one input. -/
def fnExactAddVersionWrong : ChangeSpec := { name := "fnExactAddVersion", fn := fun _ => fun
  | [d1, d2] => { results := [.lit (.bool false)], args := [d1, d2] }
  | _ => none }
def FnExactAddVersionWrongFalsely : Prop := fnExactAddVersionRow.holds Try.pinned (OpenSpec.ofChange fnExactAddVersionWrong)

/-- 'laws.FnExactSyncArchive': WHATEVER THE INPUT: true; the input reads as it did. -/
def fnExactSyncArchiveSpec : ChangeSpec := { name := "fnExactSyncArchive", fn := fun _ => fun
  | [d] => { results := [.lit (.bool true)], args := [d] }
  | _ => none }
def fnExactSyncArchiveRow : OpenClaim := { program := "ytlaejcacembjiaa", sum := "4c14c8a108b18fca070709e0bfd3646594a2dc2addbcedde55a80bc7c2eebf29", func := "loop.example/g00518/laws.FnExactSyncArchive", spec := "fnExactSyncArchive", unfollowed := true, recurses := true, apart := false }
def FnExactSyncArchiveSaid : Prop := fnExactSyncArchiveRow.holds Try.pinned (OpenSpec.ofChange fnExactSyncArchiveSpec)

/-- ITS FALSE NEIGHBOUR: 'it returns false'. Refute it at one input. -/
def fnExactSyncArchiveWrong : ChangeSpec := { name := "fnExactSyncArchive", fn := fun _ => fun
  | [d] => { results := [.lit (.bool false)], args := [d] }
  | _ => none }
def FnExactSyncArchiveWrongFalsely : Prop := fnExactSyncArchiveRow.holds Try.pinned (OpenSpec.ofChange fnExactSyncArchiveWrong)

/-- 'laws.FnExactCrashArchive': WHATEVER THE INPUT: true; the input reads as it did. -/
def fnExactCrashArchiveSpec : ChangeSpec := { name := "fnExactCrashArchive", fn := fun _ => fun
  | [d1, d2] => { results := [.lit (.bool true)], args := [d1, d2] }
  | _ => none }
def fnExactCrashArchiveRow : OpenClaim := { program := "ytlaejcacembjiaa", sum := "4c14c8a108b18fca070709e0bfd3646594a2dc2addbcedde55a80bc7c2eebf29", func := "loop.example/g00518/laws.FnExactCrashArchive", spec := "fnExactCrashArchive", unfollowed := true, recurses := true, apart := false }
def FnExactCrashArchiveSaid : Prop := fnExactCrashArchiveRow.holds Try.pinned (OpenSpec.ofChange fnExactCrashArchiveSpec)

/-- ITS FALSE NEIGHBOUR: 'it returns false'. Refute it at one input. -/
def fnExactCrashArchiveWrong : ChangeSpec := { name := "fnExactCrashArchive", fn := fun _ => fun
  | [d1, d2] => { results := [.lit (.bool false)], args := [d1, d2] }
  | _ => none }
def FnExactCrashArchiveWrongFalsely : Prop := fnExactCrashArchiveRow.holds Try.pinned (OpenSpec.ofChange fnExactCrashArchiveWrong)

/-- 'laws.FnExactFileNames': WHATEVER THE INPUT: true; the input reads as it did. -/
def fnExactFileNamesSpec : ChangeSpec := { name := "fnExactFileNames", fn := fun _ => fun
  | [d] => { results := [.lit (.bool true)], args := [d] }
  | _ => none }
def fnExactFileNamesRow : OpenClaim := { program := "ytlaejcacembjiaa", sum := "4c14c8a108b18fca070709e0bfd3646594a2dc2addbcedde55a80bc7c2eebf29", func := "loop.example/g00518/laws.FnExactFileNames", spec := "fnExactFileNames", unfollowed := true, recurses := true, apart := false }
def FnExactFileNamesSaid : Prop := fnExactFileNamesRow.holds Try.pinned (OpenSpec.ofChange fnExactFileNamesSpec)

/-- ITS FALSE NEIGHBOUR: 'it returns false'. Refute it at one input. -/
def fnExactFileNamesWrong : ChangeSpec := { name := "fnExactFileNames", fn := fun _ => fun
  | [d] => { results := [.lit (.bool false)], args := [d] }
  | _ => none }
def FnExactFileNamesWrongFalsely : Prop := fnExactFileNamesRow.holds Try.pinned (OpenSpec.ofChange fnExactFileNamesWrong)

/-- 'laws.FnExactListFiles': WHATEVER THE INPUT: true; the input reads as it did. -/
def fnExactListFilesSpec : ChangeSpec := { name := "fnExactListFiles", fn := fun _ => fun
  | [d] => { results := [.lit (.bool true)], args := [d] }
  | _ => none }
def fnExactListFilesRow : OpenClaim := { program := "ytlaejcacembjiaa", sum := "4c14c8a108b18fca070709e0bfd3646594a2dc2addbcedde55a80bc7c2eebf29", func := "loop.example/g00518/laws.FnExactListFiles", spec := "fnExactListFiles", unfollowed := true, recurses := true, apart := false }
def FnExactListFilesSaid : Prop := fnExactListFilesRow.holds Try.pinned (OpenSpec.ofChange fnExactListFilesSpec)

/-- ITS FALSE NEIGHBOUR: 'it returns false'. Refute it at one input. -/
def fnExactListFilesWrong : ChangeSpec := { name := "fnExactListFiles", fn := fun _ => fun
  | [d] => { results := [.lit (.bool false)], args := [d] }
  | _ => none }
def FnExactListFilesWrongFalsely : Prop := fnExactListFilesRow.holds Try.pinned (OpenSpec.ofChange fnExactListFilesWrong)

/-- 'laws.FnLostParts': WHATEVER THE INPUT: true; the input reads as it did. -/
def fnLostPartsSpec : ChangeSpec := { name := "fnLostParts", fn := fun _ => fun
  | [d] => { results := [.lit (.bool true)], args := [d] }
  | _ => none }
def fnLostPartsRow : OpenClaim := { program := "ytlaejcacembjiaa", sum := "4c14c8a108b18fca070709e0bfd3646594a2dc2addbcedde55a80bc7c2eebf29", func := "loop.example/g00518/laws.FnLostParts", spec := "fnLostParts", apart := false }
def FnLostPartsSaid : Prop := fnLostPartsRow.holds Try.pinned (OpenSpec.ofChange fnLostPartsSpec)

/-- ITS FALSE NEIGHBOUR: 'it returns false'. Refute it at one input. -/
def fnLostPartsWrong : ChangeSpec := { name := "fnLostParts", fn := fun _ => fun
  | [d] => { results := [.lit (.bool false)], args := [d] }
  | _ => none }
def FnLostPartsWrongFalsely : Prop := fnLostPartsRow.holds Try.pinned (OpenSpec.ofChange fnLostPartsWrong)

/-- 'laws.FnRenaming': WHATEVER THE INPUT: true; the input reads as it did. -/
def fnRenamingSpec : ChangeSpec := { name := "fnRenaming", fn := fun _ => fun
  | [d] => { results := [.lit (.bool true)], args := [d] }
  | _ => none }
def fnRenamingRow : OpenClaim := { program := "ytlaejcacembjiaa", sum := "4c14c8a108b18fca070709e0bfd3646594a2dc2addbcedde55a80bc7c2eebf29", func := "loop.example/g00518/laws.FnRenaming", spec := "fnRenaming", recurses := true, apart := false }
def FnRenamingSaid : Prop := fnRenamingRow.holds Try.pinned (OpenSpec.ofChange fnRenamingSpec)

/-- ITS FALSE NEIGHBOUR: 'it returns false'. Refute it at one input. -/
def fnRenamingWrong : ChangeSpec := { name := "fnRenaming", fn := fun _ => fun
  | [d] => { results := [.lit (.bool false)], args := [d] }
  | _ => none }
def FnRenamingWrongFalsely : Prop := fnRenamingRow.holds Try.pinned (OpenSpec.ofChange fnRenamingWrong)

/- THE SECOND FORM. 'bulk': how many values and letters a reading holds, each counted each time it is reached (what is shared counts as often as it is met; a slice's spare places count too). A statement '..UptoSaid' is the law's where the arguments, and the package variables that the reading takes, are together of bulk at most 1048576: NARROWER than '..Said'. Prove '..Said' where nothing that the law and all that it calls make is longer than what came in: it says more and counts as full. Else prove '..UptoSaid'. A law counts once. -/
mutual
def uptoBulk {H : Type} : DataW H → Nat
  | .lit (.string bytes) => bytes.length + 1
  | .lit _ => 1
  | .nil => 1
  | .ptr d => uptoBulk d + 1
  | .slice elems spare => uptoBulkAll elems + uptoBulkAll spare + 1
  | .agg parts => uptoBulkAll parts + 1
  | .iface _ d => uptoBulk d + 1
  | .map entries => uptoBulkEntries entries + 1
  | .held _ => 1
def uptoBulkAll {H : Type} : List (DataW H) → Nat
  | [] => 0
  | d :: r => uptoBulk d + uptoBulkAll r
def uptoBulkEntries {H : Type} : List (Lit × DataW H) → Nat
  | [] => 0
  | x :: r => uptoBulkEntry x + uptoBulkEntries r
def uptoBulkEntry {H : Type} : Lit × DataW H → Nat
  | (.string bytes, d) => bytes.length + uptoBulk d + 1
  | (_, d) => uptoBulk d + 1
 end
def uptoSmall : (H : Type) → List (DataW H) → Bool := fun _ ds => decide (uptoBulkAll ds ≤ 1048576)
def OpenSpec.upto (s : _root_.Go.ChangeSpec) : _root_.Go.OpenSpec := { _root_.Go.OpenSpec.ofChange s with cond := some uptoSmall }

/-- 'laws.FnExactAddVersion', WHERE WHAT IT READS IS OF BULK AT MOST 1048576: true; the input reads as it did. -/
def fnExactAddVersionUptoRow : OpenClaim := { program := "ytlaejcacembjiaa", sum := "4c14c8a108b18fca070709e0bfd3646594a2dc2addbcedde55a80bc7c2eebf29", func := "loop.example/g00518/laws.FnExactAddVersion", spec := "fnExactAddVersion", apart := false, narrowed := true }
def FnExactAddVersionUptoSaid : Prop := fnExactAddVersionUptoRow.holds Try.pinned (OpenSpec.upto fnExactAddVersionSpec)

/-- 'laws.FnExactSyncArchive', WHERE WHAT IT READS IS OF BULK AT MOST 1048576: true; the input reads as it did. -/
def fnExactSyncArchiveUptoRow : OpenClaim := { program := "ytlaejcacembjiaa", sum := "4c14c8a108b18fca070709e0bfd3646594a2dc2addbcedde55a80bc7c2eebf29", func := "loop.example/g00518/laws.FnExactSyncArchive", spec := "fnExactSyncArchive", unfollowed := true, recurses := true, apart := false, narrowed := true }
def FnExactSyncArchiveUptoSaid : Prop := fnExactSyncArchiveUptoRow.holds Try.pinned (OpenSpec.upto fnExactSyncArchiveSpec)

/-- 'laws.FnExactCrashArchive', WHERE WHAT IT READS IS OF BULK AT MOST 1048576: true; the input reads as it did. -/
def fnExactCrashArchiveUptoRow : OpenClaim := { program := "ytlaejcacembjiaa", sum := "4c14c8a108b18fca070709e0bfd3646594a2dc2addbcedde55a80bc7c2eebf29", func := "loop.example/g00518/laws.FnExactCrashArchive", spec := "fnExactCrashArchive", unfollowed := true, recurses := true, apart := false, narrowed := true }
def FnExactCrashArchiveUptoSaid : Prop := fnExactCrashArchiveUptoRow.holds Try.pinned (OpenSpec.upto fnExactCrashArchiveSpec)

/-- 'laws.FnExactFileNames', WHERE WHAT IT READS IS OF BULK AT MOST 1048576: true; the input reads as it did. -/
def fnExactFileNamesUptoRow : OpenClaim := { program := "ytlaejcacembjiaa", sum := "4c14c8a108b18fca070709e0bfd3646594a2dc2addbcedde55a80bc7c2eebf29", func := "loop.example/g00518/laws.FnExactFileNames", spec := "fnExactFileNames", unfollowed := true, recurses := true, apart := false, narrowed := true }
def FnExactFileNamesUptoSaid : Prop := fnExactFileNamesUptoRow.holds Try.pinned (OpenSpec.upto fnExactFileNamesSpec)

/-- 'laws.FnExactListFiles', WHERE WHAT IT READS IS OF BULK AT MOST 1048576: true; the input reads as it did. -/
def fnExactListFilesUptoRow : OpenClaim := { program := "ytlaejcacembjiaa", sum := "4c14c8a108b18fca070709e0bfd3646594a2dc2addbcedde55a80bc7c2eebf29", func := "loop.example/g00518/laws.FnExactListFiles", spec := "fnExactListFiles", unfollowed := true, recurses := true, apart := false, narrowed := true }
def FnExactListFilesUptoSaid : Prop := fnExactListFilesUptoRow.holds Try.pinned (OpenSpec.upto fnExactListFilesSpec)

/-- 'laws.FnLostParts', WHERE WHAT IT READS IS OF BULK AT MOST 1048576: true; the input reads as it did. -/
def fnLostPartsUptoRow : OpenClaim := { program := "ytlaejcacembjiaa", sum := "4c14c8a108b18fca070709e0bfd3646594a2dc2addbcedde55a80bc7c2eebf29", func := "loop.example/g00518/laws.FnLostParts", spec := "fnLostParts", apart := false, narrowed := true }
def FnLostPartsUptoSaid : Prop := fnLostPartsUptoRow.holds Try.pinned (OpenSpec.upto fnLostPartsSpec)

/-- 'laws.FnRenaming', WHERE WHAT IT READS IS OF BULK AT MOST 1048576: true; the input reads as it did. -/
def fnRenamingUptoRow : OpenClaim := { program := "ytlaejcacembjiaa", sum := "4c14c8a108b18fca070709e0bfd3646594a2dc2addbcedde55a80bc7c2eebf29", func := "loop.example/g00518/laws.FnRenaming", spec := "fnRenaming", recurses := true, apart := false, narrowed := true }
def FnRenamingUptoSaid : Prop := fnRenamingUptoRow.holds Try.pinned (OpenSpec.upto fnRenamingSpec)

end Rows
end Go.Proofs.Ytlaejcacembjiaa
