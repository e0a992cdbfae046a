/-
  No cell of these rows narrows 'for every input' (looked for: loops, veiled, ifaces, maps, wideKeys, modest, calm, conditions, laid).
  DERIVED. THE GIVEN ROWS OF THIS SEAT. 3 by the template 'for every input the law returns true; each argument reads behind the call as it read before'; 0 by the template 'total and deterministic' (their statements: YtonegkgjajbhkaaTotals.lean).
  GIVEN WITH THE SEED: the statements are not yours to turn. If you find one false, say at which input.
  Laid BY PROGRAM, IN A SANDBOX (cutbox-rows.mjs): the forced cells as the released guide's own fill.sh prints them over the translation 71273d4352ff09a6… (all of the seat's roots in one cut). By AI agents, Wed Nov 11 2026. No macro, syntax, notation, axiom, sorry.
-/
import Derived.Test.YtonegkgjajbhkaaChecked
import GoSem.Claim
import GoSem.ClaimJoined
import GoSem.ClaimMapViews
import Derived.JoinedTies
import Derived.KernelRfl
namespace Go.Proofs.Ytonegkgjajbhkaa
/- THE CELL 'sum', in the pinned program and in every row, IS THE sha256 OF THE DUMP (.gsa) THAT YtonegkgjajbhkaaProg.lean LOADS. Nothing in Lean hashes anything: it is a label: what it is worth is what the hold of that sum in a sandbox is worth. -/
noncomputable def Try.pinned : Pinned := { name := "ytonegkgjajbhkaa", sum := "71273d4352ff09a686dd8c7e2e45e003a0fce2d25744da57d36f6581d9e5a061", checked := Try.checked }
namespace Rows
def none {H : Type} : Left H := { results := [], args := [] }

/-- 'laws.FnExactVerdictsAgree': WHATEVER THE INPUT: true; the input reads as it did. -/
def fnExactVerdictsAgreeSpec : ChangeSpec := { name := "fnExactVerdictsAgree", fn := fun _ => fun
  | [d] => { results := [.lit (.bool true)], args := [d] }
  | _ => none }
def fnExactVerdictsAgreeRow : OpenClaim := { program := "ytonegkgjajbhkaa", sum := "71273d4352ff09a686dd8c7e2e45e003a0fce2d25744da57d36f6581d9e5a061", func := "loop.example/g00518/laws.FnExactVerdictsAgree", spec := "fnExactVerdictsAgree", apart := false }
def FnExactVerdictsAgreeSaid : Prop := fnExactVerdictsAgreeRow.holds Try.pinned (OpenSpec.ofChange fnExactVerdictsAgreeSpec)

/-- ITS FALSE NEIGHBOUR: 'it returns false'. Refute it at one input. -/
def fnExactVerdictsAgreeWrong : ChangeSpec := { name := "fnExactVerdictsAgree", fn := fun _ => fun
  | [d] => { results := [.lit (.bool false)], args := [d] }
  | _ => none }
def FnExactVerdictsAgreeWrongFalsely : Prop := fnExactVerdictsAgreeRow.holds Try.pinned (OpenSpec.ofChange fnExactVerdictsAgreeWrong)

/-- 'laws.FnExactRunAt': WHATEVER THE INPUT: true; the input reads as it did. -/
def fnExactRunAtSpec : ChangeSpec := { name := "fnExactRunAt", fn := fun _ => fun
  | [d1, d2] => { results := [.lit (.bool true)], args := [d1, d2] }
  | _ => none }
def fnExactRunAtRow : OpenClaim := { program := "ytonegkgjajbhkaa", sum := "71273d4352ff09a686dd8c7e2e45e003a0fce2d25744da57d36f6581d9e5a061", func := "loop.example/g00518/laws.FnExactRunAt", spec := "fnExactRunAt", apart := false }
def FnExactRunAtSaid : Prop := fnExactRunAtRow.holds Try.pinned (OpenSpec.ofChange fnExactRunAtSpec)

/-- ITS FALSE NEIGHBOUR: 'it returns false'. Refute it at one input. -/
def fnExactRunAtWrong : ChangeSpec := { name := "fnExactRunAt", fn := fun _ => fun
  | [d1, d2] => { results := [.lit (.bool false)], args := [d1, d2] }
  | _ => none }
def FnExactRunAtWrongFalsely : Prop := fnExactRunAtRow.holds Try.pinned (OpenSpec.ofChange fnExactRunAtWrong)

/-- 'laws.FnExactCountRuns': WHATEVER THE INPUT: true; the input reads as it did. -/
def fnExactCountRunsSpec : ChangeSpec := { name := "fnExactCountRuns", fn := fun _ => fun
  | [d] => { results := [.lit (.bool true)], args := [d] }
  | _ => none }
def fnExactCountRunsRow : OpenClaim := { program := "ytonegkgjajbhkaa", sum := "71273d4352ff09a686dd8c7e2e45e003a0fce2d25744da57d36f6581d9e5a061", func := "loop.example/g00518/laws.FnExactCountRuns", spec := "fnExactCountRuns", apart := false }
def FnExactCountRunsSaid : Prop := fnExactCountRunsRow.holds Try.pinned (OpenSpec.ofChange fnExactCountRunsSpec)

/-- ITS FALSE NEIGHBOUR: 'it returns false'. Refute it at one input. -/
def fnExactCountRunsWrong : ChangeSpec := { name := "fnExactCountRuns", fn := fun _ => fun
  | [d] => { results := [.lit (.bool false)], args := [d] }
  | _ => none }
def FnExactCountRunsWrongFalsely : Prop := fnExactCountRunsRow.holds Try.pinned (OpenSpec.ofChange fnExactCountRunsWrong)

/- THE SECOND FORM. 'bulk': how many values and letters a reading holds, each counted each time it is reached (what is shared counts as often as it is met; a slice's spare places count too). A statement '..UptoSaid' is the law's where the arguments, and the package variables that the reading takes, are together of bulk at most 1048576: NARROWER than '..Said'. Prove '..Said' where nothing that the law and all that it calls make is longer than what came in: it says more and counts as full. Else prove '..UptoSaid'. A law counts once. -/
mutual
def uptoBulk {H : Type} : DataW H → Nat
  | .lit (.string bytes) => bytes.length + 1
  | .lit _ => 1
  | .nil => 1
  | .ptr d => uptoBulk d + 1
  | .slice elems spare => uptoBulkAll elems + uptoBulkAll spare + 1
  | .agg parts => uptoBulkAll parts + 1
  | .iface _ d => uptoBulk d + 1
  | .map entries => uptoBulkEntries entries + 1
  | .held _ => 1
def uptoBulkAll {H : Type} : List (DataW H) → Nat
  | [] => 0
  | d :: r => uptoBulk d + uptoBulkAll r
def uptoBulkEntries {H : Type} : List (Lit × DataW H) → Nat
  | [] => 0
  | x :: r => uptoBulkEntry x + uptoBulkEntries r
def uptoBulkEntry {H : Type} : Lit × DataW H → Nat
  | (.string bytes, d) => bytes.length + uptoBulk d + 1
  | (_, d) => uptoBulk d + 1
 end
def uptoSmall : (H : Type) → List (DataW H) → Bool := fun _ ds => decide (uptoBulkAll ds ≤ 1048576)
def OpenSpec.upto (s : _root_.Go.ChangeSpec) : _root_.Go.OpenSpec := { _root_.Go.OpenSpec.ofChange s with cond := some uptoSmall }

/-- 'laws.FnExactVerdictsAgree', WHERE WHAT IT READS IS OF BULK AT MOST 1048576: true; the input reads as it did. -/
def fnExactVerdictsAgreeUptoRow : OpenClaim := { program := "ytonegkgjajbhkaa", sum := "71273d4352ff09a686dd8c7e2e45e003a0fce2d25744da57d36f6581d9e5a061", func := "loop.example/g00518/laws.FnExactVerdictsAgree", spec := "fnExactVerdictsAgree", apart := false, narrowed := true }
def FnExactVerdictsAgreeUptoSaid : Prop := fnExactVerdictsAgreeUptoRow.holds Try.pinned (OpenSpec.upto fnExactVerdictsAgreeSpec)

/-- 'laws.FnExactRunAt', WHERE WHAT IT READS IS OF BULK AT MOST 1048576: true; the input reads as it did. -/
def fnExactRunAtUptoRow : OpenClaim := { program := "ytonegkgjajbhkaa", sum := "71273d4352ff09a686dd8c7e2e45e003a0fce2d25744da57d36f6581d9e5a061", func := "loop.example/g00518/laws.FnExactRunAt", spec := "fnExactRunAt", apart := false, narrowed := true }
def FnExactRunAtUptoSaid : Prop := fnExactRunAtUptoRow.holds Try.pinned (OpenSpec.upto fnExactRunAtSpec)

/-- 'laws.FnExactCountRuns', WHERE WHAT IT READS IS OF BULK AT MOST 1048576: true; the input reads as it did. -/
def fnExactCountRunsUptoRow : OpenClaim := { program := "ytonegkgjajbhkaa", sum := "71273d4352ff09a686dd8c7e2e45e003a0fce2d25744da57d36f6581d9e5a061", func := "loop.example/g00518/laws.FnExactCountRuns", spec := "fnExactCountRuns", apart := false, narrowed := true }
def FnExactCountRunsUptoSaid : Prop := fnExactCountRunsUptoRow.holds Try.pinned (OpenSpec.upto fnExactCountRunsSpec)

end Rows
end Go.Proofs.Ytonegkgjajbhkaa
