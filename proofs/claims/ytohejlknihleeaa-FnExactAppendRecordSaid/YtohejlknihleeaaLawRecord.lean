/- The walk of the law on EqualRecords. -/
import Derived.Test.YtohejlknihleeaaRecord
import Derived.Deep.RegionHeld3
namespace Go.Proofs.Ytohejlknihleeaa
open Go.RowKit Go.Sort

theorem szR_lo (n m : Nat) (left : Int) (h : left ≤ 1048576) (h0 : 0 ≤ left) : -1 ≤ szR n m left ∧ szR n m left ≤ 1048576 := by
  unfold szR szN; split
  · omega
  · split <;> omega
theorem szR_len {n m : Nat} {left : Int} (h : left ≤ 1048576) (h0 : 0 ≤ left) : 0 ≤ szR n m left → m ≤ 1048576 := by
  unfold szR szN
  intro hh
  split at hh
  · omega
  · split at hh
    · omega
    · omega
end Go.Proofs.Ytohejlknihleeaa
