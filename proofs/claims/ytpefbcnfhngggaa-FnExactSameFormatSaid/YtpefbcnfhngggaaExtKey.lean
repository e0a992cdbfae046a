/- The keys of the memo at this program. -/
import Derived.Test.YtpefbcnfhngggaaMemo
import Derived.Test.YtpefbcnfhngggaaFacts
import Derived.Test.YtpefbcnfhngggaaExtPure
namespace Go.Proofs.Ytpefbcnfhngggaa
open Go.RowKit Go.Sort
open Go.Maps (Keyed)

theorem pairKey : Keyed Try.prog 79 := Keyed.of_law (deep_law_laid fact_laid (m := 2) (by omega) (of_decide_eq_true (by kernel_rfl)) (by kernel_rfl) (by kernel_rfl))
theorem wf24 (x : Nat) (hx : x < 24) : (Lit.int .i64 (x : Int)).wf = true := by
  have h1 : IntKind.i64.min = -9223372036854775808 := by rfl
  have h2 : IntKind.i64.max = 9223372036854775807 := by rfl
  show (decide (IntKind.i64.min ≤ (x : Int)) && decide ((x : Int) ≤ IntKind.i64.max)) = true
  rw [h1, h2, Bool.and_eq_true, decide_eq_true_eq, decide_eq_true_eq]
  omega
theorem pairKeyOf (x y : Nat) (hx : x < 24) (hy : y < 24) : ∃ kl, keyOf Try.prog 79 (pairV x y) = some kl :=
  ⟨_, keyOf_pair (e := 3) Try.underlying79 Try.underlying3 (by kernel_rfl) (by kernel_rfl) (by kernel_rfl) (of_decide_eq_true (by kernel_rfl)) (wf24 x hx) (wf24 y hy)⟩
theorem zeroBool (w : World) : (zeroValue 4).run Try.prog w = .ok (.bool false) w := by kernel_rfl
end Go.Proofs.Ytpefbcnfhngggaa
