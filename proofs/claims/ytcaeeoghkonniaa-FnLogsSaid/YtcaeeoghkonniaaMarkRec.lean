/- The laws' marks on records and logs by value. -/
import Derived.Test.YtcaeeoghkonniaaRecord
import Derived.Test.YtcaeeoghkonniaaLog
namespace Go.Proofs.Ytcaeeoghkonniaa
open Go.RowKit Go.Sort

theorem Own.alloc' {e : TypeId} {size : Nat} {w0 w : World} {v : Value} {n : Nat} {xs : List Value} (h : Own e size w0 w v n xs) (o : Obj) : Own e size w0 (w.alloc o) v n xs := World.ownsRow.alloc h o


end Go.Proofs.Ytcaeeoghkonniaa
