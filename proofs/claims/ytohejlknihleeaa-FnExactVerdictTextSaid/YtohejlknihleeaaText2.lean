/- VerdictText of the program and of the reference. -/
import Derived.Test.YtohejlknihleeaaText
namespace Go.Proofs.Ytohejlknihleeaa
open Go.RowKit Go.Sort

set_option maxRecDepth 100000 in
set_option maxHeartbeats 2000000 in
theorem sVerdictText_c (x : VerdictD) (w : World) : Gives Try.prog 20 #[x.val] w (.string x.text) := by
  obtain ⟨a, b, c, d, e⟩ := x
  unfold VerdictD.val VerdictD.text
  dsimp only
  have CA := Lib.hid (fun k w => sErrorName_c k w); have CD := Lib.hid (fun k w => sYes_c k w)
  have hA := errName_size a; have hB := errName_size b; have hC := errName_size c; have hD := yesT_size d; have hE := yesT_size e
  generalize errName = nm at *; generalize yesT = yn at *
  have K0 : ∀ w', Ext (w.alloc (.cells #[.int .i64 a, .int .i64 b, .int .i64 c, .bool d, .bool e] 30)) w' → w'.cell? ⟨w.heap.size, 0, none⟩ = some (.int .i64 a) := fun w' e => boxed e 0
  have K1 : ∀ w', Ext (w.alloc (.cells #[.int .i64 a, .int .i64 b, .int .i64 c, .bool d, .bool e] 30)) w' → w'.cell? ⟨w.heap.size, 1, none⟩ = some (.int .i64 b) := fun w' e => boxed e 1
  have K2 : ∀ w', Ext (w.alloc (.cells #[.int .i64 a, .int .i64 b, .int .i64 c, .bool d, .bool e] 30)) w' → w'.cell? ⟨w.heap.size, 2, none⟩ = some (.int .i64 c) := fun w' e => boxed e 2
  have K3 : ∀ w', Ext (w.alloc (.cells #[.int .i64 a, .int .i64 b, .int .i64 c, .bool d, .bool e] 30)) w' → w'.cell? ⟨w.heap.size, 3, none⟩ = some (.bool d) := fun w' e => boxed e 3
  have K4 : ∀ w', Ext (w.alloc (.cells #[.int .i64 a, .int .i64 b, .int .i64 c, .bool d, .bool e] 30)) w' → w'.cell? ⟨w.heap.size, 4, none⟩ = some (.bool e) := fun w' e => boxed e 4
  have n1 : ¬ 9223372036854775807 < (nm a).size + 1 := by omega
  have n2 : ¬ 9223372036854775807 < (nm a).size + 1 + (nm b).size := by omega
  have n3 : ¬ 9223372036854775807 < (nm a).size + 1 + (nm b).size + 1 := by omega
  have n4 : ¬ 9223372036854775807 < (nm a).size + 1 + (nm b).size + 1 + (nm c).size := by omega
  have n5 : ¬ 9223372036854775807 < (nm a).size + 1 + (nm b).size + 1 + (nm c).size + 1 := by omega
  have n6 : ¬ 9223372036854775807 < (nm a).size + 1 + (nm b).size + 1 + (nm c).size + 1 + (yn d).size := by omega
  have n7 : ¬ 9223372036854775807 < (nm a).size + 1 + (nm b).size + 1 + (nm c).size + 1 + (yn d).size + 1 := by omega
  have n8 : ¬ 9223372036854775807 < (nm a).size + 1 + (nm b).size + 1 + (nm c).size + 1 + (yn d).size + 1 + (yn e).size := by omega
  go_enter Try.func20, Try.ntmps20
  go_wp2_with fail
  refine wp_region_quiet_below (by kernel_rfl) (by kernel_rfl) ?_
  repeat (go_big_quiet_step (first | (go_at_call 72; exact Calls.regrown_of (CA.out _ _)) | (go_at_call 73; exact Calls.regrown_of (CD.out _ _))))
  refine wpQuiet_nil ?_
  rintro w1 ⟨⟨nq, osq⟩, hq⟩
  have ew1 := ext_of_q hq
  clear hq nq osq
  go_wp2
  go_ret
  exact ⟨rfl, (Ext_alloc _ (Ext.refl _)).trans ew1⟩
end Go.Proofs.Ytohejlknihleeaa
