/- The walk of the law on EqualLogs. -/
import Derived.Test.YtohejlknihleeaaLog
import Derived.Deep.RegionHeld3
namespace Go.Proofs.Ytohejlknihleeaa
open Go.RowKit Go.Sort

end Go.Proofs.Ytohejlknihleeaa
