/- CrashLog of the reference; AppendRecord of both. -/
import Derived.Test.YtcaeeoghkonniaaStoreLog
namespace Go.Proofs.Ytcaeeoghkonniaa
open Go.RowKit Go.Sort

end Go.Proofs.Ytcaeeoghkonniaa
