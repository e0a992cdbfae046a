/-
  No cell of these rows narrows 'for every input' (looked for: loops, veiled, ifaces, maps, wideKeys, modest, calm, conditions, laid).
  DERIVED. THE GIVEN ROWS OF THIS SEAT. 4 by the template 'for every input the law returns true; each argument reads behind the call as it read before'; 0 by the template 'total and deterministic' (their statements: YtpefbcnfhngggaaTotals.lean).
  GIVEN WITH THE SEED: the statements are not yours to turn. If you find one false, say at which input.
  Laid BY PROGRAM, IN A SANDBOX (cutbox-rows.mjs): the forced cells as the released guide's own fill.sh prints them over the translation 188a3df7e04d5210… (all of the seat's roots in one cut). By AI agents, Wed Nov 11 2026. No macro, syntax, notation, axiom, sorry.
-/
import Derived.Test.YtpefbcnfhngggaaChecked
import GoSem.Claim
import GoSem.ClaimJoined
import GoSem.ClaimMapViews
import Derived.JoinedTies
import Derived.KernelRfl
namespace Go.Proofs.Ytpefbcnfhngggaa
/- THE CELL 'sum', in the pinned program and in every row, IS THE sha256 OF THE DUMP (.gsa) THAT YtpefbcnfhngggaaProg.lean LOADS. Nothing in Lean hashes anything: it is a label: what it is worth is what the hold of that sum in a sandbox is worth. -/
noncomputable def Try.pinned : Pinned := { name := "ytpefbcnfhngggaa", sum := "188a3df7e04d52109d686175333bec65ac1962d5d7889d10082c251c08a5fd3b", checked := Try.checked }
namespace Rows
def none {H : Type} : Left H := { results := [], args := [] }

/-- 'laws.FnExactExtendsRule': WHATEVER THE INPUT: true; the input reads as it did. -/
def fnExactExtendsRuleSpec : ChangeSpec := { name := "fnExactExtendsRule", fn := fun _ => fun
  | [d1, d2, d3, d4] => { results := [.lit (.bool true)], args := [d1, d2, d3, d4] }
  | _ => none }
def fnExactExtendsRuleRow : OpenClaim := { program := "ytpefbcnfhngggaa", sum := "188a3df7e04d52109d686175333bec65ac1962d5d7889d10082c251c08a5fd3b", func := "loop.example/g00518/laws.FnExactExtendsRule", spec := "fnExactExtendsRule", unfollowed := true, recurses := true, plainKeys := false, apart := false }
def FnExactExtendsRuleSaid : Prop := fnExactExtendsRuleRow.holds Try.pinned (OpenSpec.ofChange fnExactExtendsRuleSpec)

/-- ITS FALSE NEIGHBOUR: 'it returns false'. Refute it at one input. -/
def fnExactExtendsRuleWrong : ChangeSpec := { name := "fnExactExtendsRule", fn := fun _ => fun
  | [d1, d2, d3, d4] => { results := [.lit (.bool false)], args := [d1, d2, d3, d4] }
  | _ => none }
def FnExactExtendsRuleWrongFalsely : Prop := fnExactExtendsRuleRow.holds Try.pinned (OpenSpec.ofChange fnExactExtendsRuleWrong)

/-- 'laws.FnExactExtends': WHATEVER THE INPUT: true; the input reads as it did. -/
def fnExactExtendsSpec : ChangeSpec := { name := "fnExactExtends", fn := fun _ => fun
  | [d1, d2] => { results := [.lit (.bool true)], args := [d1, d2] }
  | _ => none }
def fnExactExtendsRow : OpenClaim := { program := "ytpefbcnfhngggaa", sum := "188a3df7e04d52109d686175333bec65ac1962d5d7889d10082c251c08a5fd3b", func := "loop.example/g00518/laws.FnExactExtends", spec := "fnExactExtends", unfollowed := true, recurses := true, plainKeys := false, apart := false }
def FnExactExtendsSaid : Prop := fnExactExtendsRow.holds Try.pinned (OpenSpec.ofChange fnExactExtendsSpec)

/-- ITS FALSE NEIGHBOUR: 'it returns false'. Refute it at one input. -/
def fnExactExtendsWrong : ChangeSpec := { name := "fnExactExtends", fn := fun _ => fun
  | [d1, d2] => { results := [.lit (.bool false)], args := [d1, d2] }
  | _ => none }
def FnExactExtendsWrongFalsely : Prop := fnExactExtendsRow.holds Try.pinned (OpenSpec.ofChange fnExactExtendsWrong)

/-- 'laws.FnExactSameFormat': WHATEVER THE INPUT: true; the input reads as it did. -/
def fnExactSameFormatSpec : ChangeSpec := { name := "fnExactSameFormat", fn := fun _ => fun
  | [d1, d2] => { results := [.lit (.bool true)], args := [d1, d2] }
  | _ => none }
def fnExactSameFormatRow : OpenClaim := { program := "ytpefbcnfhngggaa", sum := "188a3df7e04d52109d686175333bec65ac1962d5d7889d10082c251c08a5fd3b", func := "loop.example/g00518/laws.FnExactSameFormat", spec := "fnExactSameFormat", unfollowed := true, recurses := true, plainKeys := false, apart := false }
def FnExactSameFormatSaid : Prop := fnExactSameFormatRow.holds Try.pinned (OpenSpec.ofChange fnExactSameFormatSpec)

/-- ITS FALSE NEIGHBOUR: 'it returns false'. Refute it at one input. -/
def fnExactSameFormatWrong : ChangeSpec := { name := "fnExactSameFormat", fn := fun _ => fun
  | [d1, d2] => { results := [.lit (.bool false)], args := [d1, d2] }
  | _ => none }
def FnExactSameFormatWrongFalsely : Prop := fnExactSameFormatRow.holds Try.pinned (OpenSpec.ofChange fnExactSameFormatWrong)

/-- 'laws.FnExactBreakingVersions': WHATEVER THE INPUT: true; the input reads as it did. -/
def fnExactBreakingVersionsSpec : ChangeSpec := { name := "fnExactBreakingVersions", fn := fun _ => fun
  | [d] => { results := [.lit (.bool true)], args := [d] }
  | _ => none }
def fnExactBreakingVersionsRow : OpenClaim := { program := "ytpefbcnfhngggaa", sum := "188a3df7e04d52109d686175333bec65ac1962d5d7889d10082c251c08a5fd3b", func := "loop.example/g00518/laws.FnExactBreakingVersions", spec := "fnExactBreakingVersions", unfollowed := true, recurses := true, plainKeys := false, apart := false }
def FnExactBreakingVersionsSaid : Prop := fnExactBreakingVersionsRow.holds Try.pinned (OpenSpec.ofChange fnExactBreakingVersionsSpec)

/-- ITS FALSE NEIGHBOUR: 'it returns false'. Refute it at one input. -/
def fnExactBreakingVersionsWrong : ChangeSpec := { name := "fnExactBreakingVersions", fn := fun _ => fun
  | [d] => { results := [.lit (.bool false)], args := [d] }
  | _ => none }
def FnExactBreakingVersionsWrongFalsely : Prop := fnExactBreakingVersionsRow.holds Try.pinned (OpenSpec.ofChange fnExactBreakingVersionsWrong)

/- THE SECOND FORM. 'bulk': how many values and letters a reading holds, each counted each time it is reached (what is shared counts as often as it is met; a slice's spare places count too). A statement '..UptoSaid' is the law's where the arguments, and the package variables that the reading takes, are together of bulk at most 1048576: NARROWER than '..Said'. Prove '..Said' where nothing that the law and all that it calls make is longer than what came in: it says more and counts as full. Else prove '..UptoSaid'. A law counts once. -/
mutual
def uptoBulk {H : Type} : DataW H → Nat
  | .lit (.string bytes) => bytes.length + 1
  | .lit _ => 1
  | .nil => 1
  | .ptr d => uptoBulk d + 1
  | .slice elems spare => uptoBulkAll elems + uptoBulkAll spare + 1
  | .agg parts => uptoBulkAll parts + 1
  | .iface _ d => uptoBulk d + 1
  | .map entries => uptoBulkEntries entries + 1
  | .held _ => 1
def uptoBulkAll {H : Type} : List (DataW H) → Nat
  | [] => 0
  | d :: r => uptoBulk d + uptoBulkAll r
def uptoBulkEntries {H : Type} : List (Lit × DataW H) → Nat
  | [] => 0
  | x :: r => uptoBulkEntry x + uptoBulkEntries r
def uptoBulkEntry {H : Type} : Lit × DataW H → Nat
  | (.string bytes, d) => bytes.length + uptoBulk d + 1
  | (_, d) => uptoBulk d + 1
 end
def uptoSmall : (H : Type) → List (DataW H) → Bool := fun _ ds => decide (uptoBulkAll ds ≤ 1048576)
def OpenSpec.upto (s : _root_.Go.ChangeSpec) : _root_.Go.OpenSpec := { _root_.Go.OpenSpec.ofChange s with cond := some uptoSmall }

/-- 'laws.FnExactExtendsRule', WHERE WHAT IT READS IS OF BULK AT MOST 1048576: true; the input reads as it did. -/
def fnExactExtendsRuleUptoRow : OpenClaim := { program := "ytpefbcnfhngggaa", sum := "188a3df7e04d52109d686175333bec65ac1962d5d7889d10082c251c08a5fd3b", func := "loop.example/g00518/laws.FnExactExtendsRule", spec := "fnExactExtendsRule", unfollowed := true, recurses := true, plainKeys := false, apart := false, narrowed := true }
def FnExactExtendsRuleUptoSaid : Prop := fnExactExtendsRuleUptoRow.holds Try.pinned (OpenSpec.upto fnExactExtendsRuleSpec)

/-- 'laws.FnExactExtends', WHERE WHAT IT READS IS OF BULK AT MOST 1048576: true; the input reads as it did. -/
def fnExactExtendsUptoRow : OpenClaim := { program := "ytpefbcnfhngggaa", sum := "188a3df7e04d52109d686175333bec65ac1962d5d7889d10082c251c08a5fd3b", func := "loop.example/g00518/laws.FnExactExtends", spec := "fnExactExtends", unfollowed := true, recurses := true, plainKeys := false, apart := false, narrowed := true }
def FnExactExtendsUptoSaid : Prop := fnExactExtendsUptoRow.holds Try.pinned (OpenSpec.upto fnExactExtendsSpec)

/-- 'laws.FnExactSameFormat', WHERE WHAT IT READS IS OF BULK AT MOST 1048576: true; the input reads as it did. -/
def fnExactSameFormatUptoRow : OpenClaim := { program := "ytpefbcnfhngggaa", sum := "188a3df7e04d52109d686175333bec65ac1962d5d7889d10082c251c08a5fd3b", func := "loop.example/g00518/laws.FnExactSameFormat", spec := "fnExactSameFormat", unfollowed := true, recurses := true, plainKeys := false, apart := false, narrowed := true }
def FnExactSameFormatUptoSaid : Prop := fnExactSameFormatUptoRow.holds Try.pinned (OpenSpec.upto fnExactSameFormatSpec)

/-- 'laws.FnExactBreakingVersions', WHERE WHAT IT READS IS OF BULK AT MOST 1048576: true; the input reads as it did. -/
def fnExactBreakingVersionsUptoRow : OpenClaim := { program := "ytpefbcnfhngggaa", sum := "188a3df7e04d52109d686175333bec65ac1962d5d7889d10082c251c08a5fd3b", func := "loop.example/g00518/laws.FnExactBreakingVersions", spec := "fnExactBreakingVersions", unfollowed := true, recurses := true, plainKeys := false, apart := false, narrowed := true }
def FnExactBreakingVersionsUptoSaid : Prop := fnExactBreakingVersionsUptoRow.holds Try.pinned (OpenSpec.upto fnExactBreakingVersionsSpec)

end Rows
end Go.Proofs.Ytpefbcnfhngggaa
