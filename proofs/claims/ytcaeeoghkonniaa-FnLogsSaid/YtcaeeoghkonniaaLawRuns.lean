/- The law on runs: the runs tile the drawn bytes, and their count is CountRuns. -/
import Derived.Test.YtcaeeoghkonniaaDraw32
import Derived.Test.YtcaeeoghkonniaaRun
import Derived.Test.YtcaeeoghkonniaaBytes
namespace Go.Proofs.Ytcaeeoghkonniaa
open Go.RowKit Go.Sort

set_option maxHeartbeats 400000 in
theorem big_c (A : Option Addr) (l : List UInt8) (c : Nat) (w : World) (h : Rd0 vu8 w A l c) :
    Gives Try.prog 4 #[.slice A l.length c] w (.bool (decide ((1048576 : Int) < (l.length : Int)))) := by
  have hl := h.len
  go_enter Try.func4, Try.ntmps4
  go_wp2
  go_ret
  exact ⟨rfl, Ext.refl _⟩
end Go.Proofs.Ytcaeeoghkonniaa
