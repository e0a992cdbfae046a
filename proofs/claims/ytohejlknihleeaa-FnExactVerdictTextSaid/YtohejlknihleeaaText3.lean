/- VerdictText of the program. -/
import Derived.Test.YtohejlknihleeaaText
import Derived.Deep.RegionHeld3
namespace Go.Proofs.Ytohejlknihleeaa
open Go.RowKit Go.Sort

set_option maxRecDepth 100000 in
set_option maxHeartbeats 2000000 in
theorem iVerdictText_c (x : VerdictD) (w : World) : Gives Try.prog 22 #[x.val] w (.string x.text) := by
  obtain ⟨a, b, c, d, e⟩ := x
  unfold VerdictD.val VerdictD.text
  dsimp only
  have CA := Lib.hid (fun k w => iErrorName_c k w); have CD := Lib.hid (fun k w => iYes_c k w)
  have hA := errName_size a; have hB := errName_size b; have hC := errName_size c; have hD := yesT_size d; have hE := yesT_size e
  generalize errName = nm at *; generalize yesT = yn at *
  have K0 : ∀ w', Ext (w.alloc (.cells #[.int .i64 a, .int .i64 b, .int .i64 c, .bool d, .bool e] 30)) w' → w'.cell? ⟨w.heap.size, 0, none⟩ = some (.int .i64 a) := fun w' e => boxed e 0
  have K1 : ∀ w', Ext (w.alloc (.cells #[.int .i64 a, .int .i64 b, .int .i64 c, .bool d, .bool e] 30)) w' → w'.cell? ⟨w.heap.size, 1, none⟩ = some (.int .i64 b) := fun w' e => boxed e 1
  have K2 : ∀ w', Ext (w.alloc (.cells #[.int .i64 a, .int .i64 b, .int .i64 c, .bool d, .bool e] 30)) w' → w'.cell? ⟨w.heap.size, 2, none⟩ = some (.int .i64 c) := fun w' e => boxed e 2
  have K3 : ∀ w', Ext (w.alloc (.cells #[.int .i64 a, .int .i64 b, .int .i64 c, .bool d, .bool e] 30)) w' → w'.cell? ⟨w.heap.size, 3, none⟩ = some (.bool d) := fun w' e => boxed e 3
  have K4 : ∀ w', Ext (w.alloc (.cells #[.int .i64 a, .int .i64 b, .int .i64 c, .bool d, .bool e] 30)) w' → w'.cell? ⟨w.heap.size, 4, none⟩ = some (.bool e) := fun w' e => boxed e 4
  have EA := Ext_alloc (.cells #[.int .i64 a, .int .i64 b, .int .i64 c, .bool d, .bool e] 30) (Ext.refl w)
  have CJ : Hid (∀ W : World, Gives Try.prog 74 #[.slice (some ⟨W.heap.size, 0, none⟩) 5 5, .string ⟨#[32]⟩] (W.alloc (.cells #[.string (nm a), .string (nm b), .string (nm c), .string (yn d), .string (yn e)] 9)) (.string (nm a ++ ⟨#[32]⟩ ++ nm b ++ ⟨#[32]⟩ ++ nm c ++ ⟨#[32]⟩ ++ yn d ++ ⟨#[32]⟩ ++ yn e))) := by
    intro W
    rw [← join5]
    refine iJoinText_c W.heap.size 5 [nm a, nm b, nm c, yn d, yn e] ⟨#[32]⟩ _ ?_ (by simp) (by simp) (by simp) ?_
    · intro j x hj
      have h0 := boxed (Ext.refl (W.alloc (.cells #[.string (nm a), .string (nm b), .string (nm c), .string (yn d), .string (yn e)] 9))) (0 + j)
      refine h0.trans ?_
      rw [Nat.zero_add]
      have hj5 : j < 5 := by have := (List.getElem?_eq_some_iff.1 hj).1; simpa using this
      rcases (by omega : j = 0 ∨ j = 1 ∨ j = 2 ∨ j = 3 ∨ j = 4) with rfl | rfl | rfl | rfl | rfl <;> (simp at hj; subst hj; rfl)
    · have z : ∀ b : ByteArray, b.data.toList.length = b.size := fun b => by simp
      simp [Lib.join, z]
      omega
  go_enter Try.func22, Try.ntmps22
  go_wp2_with fail
  go_region_held3 (fun w' => Ext (w.alloc (.cells #[.int .i64 a, .int .i64 b, .int .i64 c, .bool d, .bool e] 30)) w') (first | assumption | exact Ext_drew (Ext.refl _) | exact Ext_alloc _ (by assumption) | exact Ext.trans (by assumption) (by assumption)) (first
    | (go_at_call 75; refine (CA.out _ _).mono ?_; rintro _ w3 ⟨rfl, he3⟩)
    | (go_at_call 76; refine (CD.out _ _).mono ?_; rintro _ w3 ⟨rfl, he3⟩)
    | (go_at_call 74; refine (CJ.out _).mono ?_; rintro _ w4 ⟨rfl, he4⟩))
  go_wp2
  go_ret
  exact ⟨rfl, EA.trans (by assumption)⟩
end Go.Proofs.Ytohejlknihleeaa
