/- VerdictsAgree. -/
import Derived.Test.YtonegkgjajbhkaaBase
namespace Go.Proofs.Ytonegkgjajbhkaa
open Go.RowKit Go.Sort

structure VerdictD where
  parser : Int
  validator : Int
  machine : Int
  index : Bool
  lazy_ : Bool
def VerdictD.val (x : VerdictD) : Value := .agg #[.int .i64 x.parser, .int .i64 x.validator, .int .i64 x.machine, .bool x.index, .bool x.lazy_]
def VerdictD.agree (x : VerdictD) : Bool := x.parser == x.validator && (x.parser == x.machine) && (x.index == (x.parser == 0)) && (x.lazy_ == x.index)

set_option maxHeartbeats 400000 in
theorem toVerdict_c (x : VerdictD) (w : World) : Gives Try.prog 7 #[x.val] w x.val := by
  obtain ⟨a, b, c, d, e⟩ := x
  unfold VerdictD.val
  dsimp only
  go_enter Try.func7, Try.ntmps7
  go_wp2
  exact bodyPost_ret (v := .agg #[.int .i64 a, .int .i64 b, .int .i64 c, .bool d, .bool e]) (by simp [results, Try.results7, go_sem]) rfl ⟨rfl, Ext_alloc _ (Ext_alloc _ (Ext_alloc _ (Ext.refl _)))⟩

set_option maxHeartbeats 1000000 in
theorem sVerdictsAgree_c (x : VerdictD) (w : World) : Gives Try.prog 6 #[x.val] w (.bool x.agree) := by
  obtain ⟨a, b, c, d, e⟩ := x
  unfold VerdictD.val VerdictD.agree
  dsimp only
  cases h1 : (a == b) <;> cases h2 : (a == c) <;> cases h3 : (d == (a == 0))
  all_goals
    go_enter Try.func6, Try.ntmps6
    go_wp2
    go_ret
    exact ⟨ret_bool (by simp), Ext_alloc _ (Ext.refl _)⟩

set_option maxHeartbeats 1000000 in
theorem iVerdictsAgree_c (x : VerdictD) (w : World) : Gives Try.prog 8 #[x.val] w (.bool x.agree) := by
  obtain ⟨a, b, c, d, e⟩ := x
  unfold VerdictD.val VerdictD.agree
  dsimp only
  cases h1 : (a == b) <;> cases h2 : (a == c) <;> cases h3 : (d == (a == 0))
  all_goals
    go_enter Try.func8, Try.ntmps8
    go_wp2
    go_ret
    exact ⟨ret_bool (by cases d <;> cases e <;> revert h3 <;> cases (a == 0) <;> simp), Ext_alloc _ (Ext.refl _)⟩

set_option maxHeartbeats 1000000 in
theorem lawVerdictsAgree_c (x : VerdictD) (w : World) : Gives Try.prog 3 #[x.val] w (.bool true) := by
  have hx : ∃ a b c d e, x.val = .agg #[.int .i64 a, .int .i64 b, .int .i64 c, .bool d, .bool e] := ⟨_, _, _, _, _, rfl⟩
  obtain ⟨a, b, c, d, e, hx⟩ := hx
  have C1 := Lib.hid (toVerdict_c x); have C2 := Lib.hid (sVerdictsAgree_c x); have C3 := Lib.hid (iVerdictsAgree_c x)
  rw [hx] at C1 C2 C3 ⊢
  generalize x.agree = r at *
  clear hx x
  go_enter Try.func3, Try.ntmps3
  go_wp2_with fail
  refine (C1.out _).mono ?_; rintro _ w1 ⟨rfl, he1⟩
  go_wp2_with fail
  refine (C2.out _).mono ?_; rintro _ w2 ⟨rfl, he2⟩
  have e2 := he1.trans he2; clear he1 he2
  have b2 := boxed e2
  go_wp2_with fail
  refine (C1.out _).mono ?_; rintro _ w3 ⟨rfl, he3⟩
  go_wp2_with fail
  refine (C3.out _).mono ?_; rintro _ w4 ⟨rfl, he4⟩
  have e4 := (Ext_alloc _ (Ext.refl w)).trans (e2.trans (he3.trans he4))
  go_wp2
  go_ret
  exact ⟨by simp, e4⟩
end Go.Proofs.Ytonegkgjajbhkaa
