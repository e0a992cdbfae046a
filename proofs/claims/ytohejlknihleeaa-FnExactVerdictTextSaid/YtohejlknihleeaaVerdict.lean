/- VerdictsAgree. -/
import Derived.Test.YtohejlknihleeaaBase
namespace Go.Proofs.Ytohejlknihleeaa
open Go.RowKit Go.Sort

structure VerdictD where
  parser : Int
  validator : Int
  machine : Int
  index : Bool
  lazy_ : Bool
def VerdictD.val (x : VerdictD) : Value := .agg #[.int .i64 x.parser, .int .i64 x.validator, .int .i64 x.machine, .bool x.index, .bool x.lazy_]
def VerdictD.agree (x : VerdictD) : Bool := x.parser == x.validator && (x.parser == x.machine) && (x.index == (x.parser == 0)) && (x.lazy_ == x.index)

set_option maxHeartbeats 400000 in
theorem toVerdict_c (x : VerdictD) (w : World) : Gives Try.prog 21 #[x.val] w x.val := by
  obtain ⟨a, b, c, d, e⟩ := x
  unfold VerdictD.val
  dsimp only
  go_enter Try.func21, Try.ntmps21
  go_wp2
  exact bodyPost_ret (v := .agg #[.int .i64 a, .int .i64 b, .int .i64 c, .bool d, .bool e]) (by simp [results, Try.results21, go_sem]) rfl ⟨rfl, Ext_alloc _ (Ext_alloc _ (Ext_alloc _ (Ext.refl _)))⟩

end Go.Proofs.Ytohejlknihleeaa
