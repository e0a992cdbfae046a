/- The walk of the law on VerdictText. -/
import Derived.Test.YtohejlknihleeaaText2
import Derived.Test.YtohejlknihleeaaText3
namespace Go.Proofs.Ytohejlknihleeaa
open Go.RowKit Go.Sort

set_option maxHeartbeats 1000000 in
theorem lawVerdictText_c (x : VerdictD) (w : World) : Gives Try.prog 4 #[x.val] w (.bool true) := by
  have hx : ∃ a b c d e, x.val = .agg #[.int .i64 a, .int .i64 b, .int .i64 c, .bool d, .bool e] := ⟨_, _, _, _, _, rfl⟩
  obtain ⟨a, b, c, d, e, hx⟩ := hx
  have C1 := Lib.hid (toVerdict_c x); have C2 := Lib.hid (sVerdictText_c x); have C3 := Lib.hid (iVerdictText_c x)
  rw [hx] at C1 C2 C3 ⊢
  generalize x.text = r at *
  clear hx x
  go_enter Try.func4, Try.ntmps4
  go_wp2_with fail
  refine (C1.out _).mono ?_; rintro _ w1 ⟨rfl, he1⟩
  go_wp2_with fail
  refine (C2.out _).mono ?_; rintro _ w2 ⟨rfl, he2⟩
  have e2 := he1.trans he2; clear he1 he2
  have b2 := boxed e2
  go_wp2_with fail
  refine (C1.out _).mono ?_; rintro _ w3 ⟨rfl, he3⟩
  go_wp2_with fail
  refine (C3.out _).mono ?_; rintro _ w4 ⟨rfl, he4⟩
  have e4 := (Ext_alloc _ (Ext.refl w)).trans (e2.trans (he3.trans he4))
  go_wp2
  go_ret
  exact ⟨by simp, e4⟩
end Go.Proofs.Ytohejlknihleeaa
