/- Min, Max, InRange. -/
import Derived.Test.YtpefbcnfhngggaaCopy
namespace Go.Proofs.Ytpefbcnfhngggaa
open Go.RowKit Go.Sort


set_option maxHeartbeats 400000 in
theorem iInRange_c (n a b : Int) (w : World) : Gives Try.prog 59 #[.int .i64 n, .int .i64 a, .int .i64 b] w (.bool (decide (a ≤ n) && decide (n ≤ b))) := by
  by_cases h : a ≤ n
  · go_enter Try.func59, Try.ntmps59
    go_wp2
    go_ret
    exact ⟨ret_bool (by simp [h]), Ext.refl _⟩
  · go_enter Try.func59, Try.ntmps59
    go_wp2
    go_ret
    exact ⟨ret_bool (by simp; omega), Ext.refl _⟩



end Go.Proofs.Ytpefbcnfhngggaa
