/- IsValidRecord of the program and of the reference. -/
import Derived.Test.YtcaeeoghkonniaaRecord
import Derived.Test.YtcaeeoghkonniaaName
namespace Go.Proofs.Ytcaeeoghkonniaa
open Go.RowKit Go.Sort

def validRec (k : Int) (nm : ByteArray) (ver : Int) (n : Nat) : Bool :=
  isName nm && (decide (0 ≤ ver) && decide (ver ≤ 7)) && decide (n ≤ 400) && (k == 1 || (k == 2 && ver == 0 && (n : Int) == 0))

set_option maxRecDepth 100000 in
set_option maxHeartbeats 4000000 in
theorem iIsValidRecord_c (k : Int) (nm : ByteArray) (ver : Int) (A : Option Addr) (l : List UInt8) (c : Nat) (w : World) (hl : l.length ≤ 140737488351232) (hn : nm.size ≤ 9223372036854775807) :
    Gives Try.prog 34 #[vrec k nm ver (.slice A l.length c)] w (.bool (validRec k nm ver l.length)) := by
  have C1 := Lib.hid (fun w => iIsName_c nm w hn)
  have C2 := Lib.hid (fun w => iInRange_c ver 0 7 w)
  unfold validRec
  generalize isName nm = I at *
  generalize (decide (0 ≤ ver) && decide (ver ≤ 7)) = R at *
  have B := fun w' (e : Ext (w.alloc (.cells #[.int .i64 k, .string nm, .int .i64 ver, .slice A l.length c] 36)) w') => boxed e
  have eb := Ext_alloc (.cells #[.int .i64 k, .string nm, .int .i64 ver, .slice A l.length c] 36) (Ext.refl w)
  unfold vrec
  cases I
  · go_enter Try.func34, Try.ntmps34
    go_wp2_with (first
      | (go_at_call 51; refine (C1.out _).mono ?_; rintro _ w1 ⟨rfl, he1⟩))
    go_ret
    exact ⟨ret_bool (by simp), eb.trans he1⟩
  cases R
  · go_enter Try.func34, Try.ntmps34
    go_wp2_with (first
      | (go_at_call 51; refine (C1.out _).mono ?_; rintro _ w1 ⟨rfl, he1⟩)
      | (go_at_call 44; refine (C2.out _).mono ?_; rintro _ w2 ⟨rfl, he2⟩; have he2 := he1.trans he2))
    go_ret
    exact ⟨ret_bool (by simp), eb.trans he2⟩
  by_cases hL : l.length ≤ 400
  · have HL : Hid (decide (l.length ≤ 400) = true) := by show _ = _; simp [hL]
    cases h1 : (k == 1) <;> cases h2 : (k == 2) <;> cases h3 : (ver == 0)
    all_goals first
      | (exfalso; have h1 := beq_iff_eq.1 h1; have h2 := beq_iff_eq.1 h2; omega)
      | (go_enter Try.func34, Try.ntmps34
         go_wp2_with (first
           | (go_at_call 51; refine (C1.out _).mono ?_; rintro _ w1 ⟨rfl, he1⟩)
           | (go_at_call 44; refine (C2.out _).mono ?_; rintro _ w2 ⟨rfl, he2⟩; have he2 := he1.trans he2))
         go_ret
         exact ⟨ret_bool (by first | rfl | (rw [HL.out]; simp)), eb.trans he2⟩)
  · have HL : Hid (decide (l.length ≤ 400) = false) := by show _ = _; simp [hL]
    go_enter Try.func34, Try.ntmps34
    go_wp2_with (first
      | (go_at_call 51; refine (C1.out _).mono ?_; rintro _ w1 ⟨rfl, he1⟩)
      | (go_at_call 44; refine (C2.out _).mono ?_; rintro _ w2 ⟨rfl, he2⟩; have he2 := he1.trans he2))
    go_ret
    exact ⟨ret_bool (by first | rfl | (rw [HL.out]; simp)), eb.trans he2⟩
set_option maxRecDepth 100000 in
set_option maxHeartbeats 4000000 in
theorem sIsValidRecord_c (k : Int) (nm : ByteArray) (ver : Int) (A : Option Addr) (l : List UInt8) (c : Nat) (w : World) (hl : l.length ≤ 140737488351232) (hn : nm.size ≤ 9223372036854775807) :
    Gives Try.prog 16 #[vrec k nm ver (.slice A l.length c)] w (.bool (validRec k nm ver l.length)) := by
  have C1 := Lib.hid (fun w => sIsName_c nm w hn)
  have C2 := Lib.hid (fun w => l1In_c ver 0 7 w)
  have C3 := Lib.hid (fun w => l1In_c k 1 2 w)
  have hk12 : (decide (1 ≤ k) && decide (k ≤ 2)) = (k == 1 || k == 2) := by rw [Bool.eq_iff_iff]; simp; omega
  rw [hk12] at C3
  clear hk12
  unfold validRec
  generalize isName nm = I at *
  generalize (decide (0 ≤ ver) && decide (ver ≤ 7)) = R at *
  have B := fun w' (e : Ext (w.alloc (.cells #[.int .i64 k, .string nm, .int .i64 ver, .slice A l.length c] 36)) w') => boxed e
  have eb := Ext_alloc (.cells #[.int .i64 k, .string nm, .int .i64 ver, .slice A l.length c] 36) (Ext.refl w)
  unfold vrec
  cases h1 : (k == 1) <;> cases h2 : (k == 2)
  case false.false =>
    rw [h1, h2] at C3
    simp only [Bool.or_false] at C3
    go_enter Try.func16, Try.ntmps16
    go_wp2_with (first
      | (go_at_call_of 26 (Value.int .i64 k); refine (C3.out _).mono ?_; rintro _ w3 ⟨rfl, he3⟩))
    go_ret
    exact ⟨ret_bool (by simp), eb.trans he3⟩
  case true.true => exact absurd (beq_iff_eq.1 h1) (by have := beq_iff_eq.1 h2; omega)
  all_goals
    rw [h1, h2] at C3
    simp only [Bool.or_false, Bool.or_true] at C3
    cases I
    · go_enter Try.func16, Try.ntmps16
      go_wp2_with (first
        | (go_at_call_of 26 (Value.int .i64 k); refine (C3.out _).mono ?_; rintro _ w3 ⟨rfl, he3⟩)
        | (go_at_call 36; refine (C1.out _).mono ?_; rintro _ w1 ⟨rfl, he1⟩; have he1 := he3.trans he1))
      go_ret
      exact ⟨ret_bool (by simp), eb.trans he1⟩
    cases R
    · go_enter Try.func16, Try.ntmps16
      go_wp2_with (first
        | (go_at_call_of 26 (Value.int .i64 k); refine (C3.out _).mono ?_; rintro _ w3 ⟨rfl, he3⟩)
        | (go_at_call 36; refine (C1.out _).mono ?_; rintro _ w1 ⟨rfl, he1⟩; have he1 := he3.trans he1)
        | (go_at_call_of 26 (Value.int .i64 ver); refine (C2.out _).mono ?_; rintro _ w2 ⟨rfl, he2⟩; have he2 := he1.trans he2))
      go_ret
      exact ⟨ret_bool (by simp), eb.trans he2⟩
    by_cases hL : l.length ≤ 400
    · have HL : Hid (decide (l.length ≤ 400) = true) := by show _ = _; simp [hL]
      cases h3 : (ver == 0)
      all_goals
        go_enter Try.func16, Try.ntmps16
        go_wp2_with (first
          | (go_at_call_of 26 (Value.int .i64 k); refine (C3.out _).mono ?_; rintro _ w3 ⟨rfl, he3⟩)
          | (go_at_call 36; refine (C1.out _).mono ?_; rintro _ w1 ⟨rfl, he1⟩; have he1 := he3.trans he1)
          | (go_at_call_of 26 (Value.int .i64 ver); refine (C2.out _).mono ?_; rintro _ w2 ⟨rfl, he2⟩; have he2 := he1.trans he2))
        go_ret
        exact ⟨ret_bool (by first | rfl | (rw [HL.out]; simp)), eb.trans he2⟩
    · have HL : Hid (decide (l.length ≤ 400) = false) := by show _ = _; simp [hL]
      go_enter Try.func16, Try.ntmps16
      go_wp2_with (first
        | (go_at_call_of 26 (Value.int .i64 k); refine (C3.out _).mono ?_; rintro _ w3 ⟨rfl, he3⟩)
        | (go_at_call 36; refine (C1.out _).mono ?_; rintro _ w1 ⟨rfl, he1⟩; have he1 := he3.trans he1)
        | (go_at_call_of 26 (Value.int .i64 ver); refine (C2.out _).mono ?_; rintro _ w2 ⟨rfl, he2⟩; have he2 := he1.trans he2))
      go_ret
      exact ⟨ret_bool (by first | rfl | (rw [HL.out]; simp)), eb.trans he2⟩
end Go.Proofs.Ytcaeeoghkonniaa
