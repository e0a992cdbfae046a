/- The walks of the laws on functions from bytes to an int or a bool. -/
import Derived.Test.YtdhagklecmbckaaRun
import Derived.Test.YtdhagklecmbckaaBytes
import Derived.Test.YtdhagklecmbckaaUnpack
import Derived.Test.YtdhagklecmbckaaPack
namespace Go.Proofs.Ytdhagklecmbckaa
open Go.RowKit Go.Sort

set_option maxHeartbeats 400000 in
theorem lawCountRuns_c (A : Option Addr) (l : List UInt8) (c : Nat) (w : World) (h : Rd0 vu8 w A l c) :
    Gives Try.prog 5 #[.slice A l.length c] w (.bool true) := by
  have hl := h.len
  by_cases hL : l.length ≤ 1048576
  · have hL' : l.length ≤ 140737488351232 := by omega
    have hd : decide ((1048576 : Int) < (l.length : Int)) = false := by simp; omega
    go_enter Try.func5, Try.ntmps5
    go_wp2_with fail
    refine (toByteS_c _ _ _ _ h hL).mono ?_; rintro e w1 ⟨v1, rfl, ho1, he1⟩; obtain ⟨A1, c1, rfl, r1⟩ := ho1.rd hL'; clear ho1
    go_wp2_with fail
    refine (sCountRuns_c _ _ _ _ r1).mono ?_; rintro e w2 ⟨rfl, he2⟩
    have e2 := he1.trans he2; clear he1 he2 r1
    go_wp2_with fail
    refine (toByteS_c _ _ _ _ (h.ext e2) hL).mono ?_; rintro e w3 ⟨v3, rfl, ho3, he3⟩; obtain ⟨A3, c3, rfl, r3⟩ := ho3.rd hL'; clear ho3
    have e3 := e2.trans he3; clear e2 he3
    go_wp2_with fail
    refine (iCountRuns_c _ _ _ _ r3).mono ?_; rintro e w4 ⟨rfl, he4⟩
    have e4 := e3.trans he4; have r4 := r3.ext he4; clear e3 he4 r3
    go_wp2_with fail
    refine (toByteS_c _ _ _ _ (h.ext e4) hL).mono ?_; rintro e w5 ⟨v5, rfl, ho5, he5⟩; obtain ⟨A5, c5, rfl, r5⟩ := ho5.rd hL'; clear ho5
    have e5 := e4.trans he5; have r6 := r4.ext he5; clear e4 he5 r4
    go_wp2_with fail
    refine (eqByteS_c _ _ _ _ _ _ _ r6 r5).mono ?_; rintro e w6 ⟨rfl, he6⟩
    go_wp2
    go_ret
    exact ⟨by simp, e5.trans he6⟩
  · have hd : decide ((1048576 : Int) < (l.length : Int)) = true := by simp; omega
    go_enter Try.func5, Try.ntmps5
    go_wp2
    go_ret
    exact ⟨rfl, Ext.refl _⟩

set_option maxHeartbeats 400000 in
theorem lawIsPacked_c (A : Option Addr) (l : List UInt8) (c : Nat) (w : World) (h : Rd0 vu8 w A l c) :
    Gives Try.prog 9 #[.slice A l.length c] w (.bool true) := by
  have hl := h.len
  by_cases hL : l.length ≤ 1048576
  · have hL' : l.length ≤ 140737488351232 := by omega
    have hd : decide ((1048576 : Int) < (l.length : Int)) = false := by simp; omega
    go_enter Try.func9, Try.ntmps9
    go_wp2_with fail
    refine (toByteS_c _ _ _ _ h hL).mono ?_; rintro e w1 ⟨v1, rfl, ho1, he1⟩; obtain ⟨A1, c1, rfl, r1⟩ := ho1.rd hL'; clear ho1
    go_wp2_with fail
    refine (sIsPacked_c _ _ _ _ r1).mono ?_; rintro e w2 ⟨rfl, he2⟩
    have e2 := he1.trans he2; clear he1 he2 r1
    go_wp2_with fail
    refine (toByteS_c _ _ _ _ (h.ext e2) hL).mono ?_; rintro e w3 ⟨v3, rfl, ho3, he3⟩; obtain ⟨A3, c3, rfl, r3⟩ := ho3.rd hL'; clear ho3
    have e3 := e2.trans he3; clear e2 he3
    go_wp2_with fail
    refine (iIsPacked_c _ _ _ _ r3).mono ?_; rintro e w4 ⟨rfl, he4⟩
    have e4 := e3.trans he4; have r4 := r3.ext he4; clear e3 he4 r3
    go_wp2_with fail
    refine (toByteS_c _ _ _ _ (h.ext e4) hL).mono ?_; rintro e w5 ⟨v5, rfl, ho5, he5⟩; obtain ⟨A5, c5, rfl, r5⟩ := ho5.rd hL'; clear ho5
    have e5 := e4.trans he5; have r6 := r4.ext he5; clear e4 he5 r4
    go_wp2_with fail
    refine (eqByteS_c _ _ _ _ _ _ _ r6 r5).mono ?_; rintro e w6 ⟨rfl, he6⟩
    go_wp2
    go_ret
    exact ⟨by simp, e5.trans he6⟩
  · have hd : decide ((1048576 : Int) < (l.length : Int)) = true := by simp; omega
    go_enter Try.func9, Try.ntmps9
    go_wp2
    go_ret
    exact ⟨rfl, Ext.refl _⟩

set_option maxHeartbeats 400000 in
theorem lawPackedSize_c (A : Option Addr) (l : List UInt8) (c : Nat) (w : World) (h : Rd0 vu8 w A l c) :
    Gives Try.prog 13 #[.slice A l.length c] w (.bool true) := by
  have hl := h.len
  by_cases hL : l.length ≤ 1048576
  · have hL' : l.length ≤ 140737488351232 := by omega
    have hd : decide ((1048576 : Int) < (l.length : Int)) = false := by simp; omega
    go_enter Try.func13, Try.ntmps13
    go_wp2_with fail
    refine (toByteS_c _ _ _ _ h hL).mono ?_; rintro e w1 ⟨v1, rfl, ho1, he1⟩; obtain ⟨A1, c1, rfl, r1⟩ := ho1.rd hL'; clear ho1
    go_wp2_with fail
    refine (sPackedSize_c _ _ _ _ r1 (by omega)).mono ?_; rintro e w2 ⟨rfl, he2⟩
    have e2 := he1.trans he2; clear he1 he2 r1
    go_wp2_with fail
    refine (toByteS_c _ _ _ _ (h.ext e2) hL).mono ?_; rintro e w3 ⟨v3, rfl, ho3, he3⟩; obtain ⟨A3, c3, rfl, r3⟩ := ho3.rd hL'; clear ho3
    have e3 := e2.trans he3; clear e2 he3
    go_wp2_with fail
    refine (iPackedSize_c _ _ _ _ r3 (by omega)).mono ?_; rintro e w4 ⟨rfl, he4⟩
    have e4 := e3.trans he4; have r4 := r3.ext he4; clear e3 he4 r3
    go_wp2_with fail
    refine (toByteS_c _ _ _ _ (h.ext e4) hL).mono ?_; rintro e w5 ⟨v5, rfl, ho5, he5⟩; obtain ⟨A5, c5, rfl, r5⟩ := ho5.rd hL'; clear ho5
    have e5 := e4.trans he5; have r6 := r4.ext he5; clear e4 he5 r4
    go_wp2_with fail
    refine (eqByteS_c _ _ _ _ _ _ _ r6 r5).mono ?_; rintro e w6 ⟨rfl, he6⟩
    go_wp2
    go_ret
    exact ⟨by simp, e5.trans he6⟩
  · have hd : decide ((1048576 : Int) < (l.length : Int)) = true := by simp; omega
    go_enter Try.func13, Try.ntmps13
    go_wp2
    go_ret
    exact ⟨rfl, Ext.refl _⟩
end Go.Proofs.Ytdhagklecmbckaa
