/- Logs by value: the laws' helpers and EqualLogs. -/
import Derived.Test.YtpefbcnfhngggaaCopy
import Derived.Test.YtpefbcnfhngggaaEqual
namespace Go.Proofs.Ytpefbcnfhngggaa
open Go.RowKit Go.Sort

/-- what is left of a size, or -1 -/
def szN (n : Nat) (left : Int) : Int := if left - n < 0 then -1 else left - n
set_option maxHeartbeats 400000 in
theorem szByteS_c (A : Option Addr) (l : List _) (c : Nat) (left : Int) (w : World) (h : Rd0 vu8 w A l c) (h0 : 0 ≤ left) (h1 : left ≤ 1048576) :
    Gives Try.prog 52 #[.slice A l.length c, .int .i64 left] w (.int .i64 (szN l.length left)) := by
  have hl := h.len
  by_cases hd : left - (l.length : Int) < 0
  · have H : Hid (szN l.length left = -1) := if_pos hd
    rw [H.out]
    go_enter Try.func52, Try.ntmps52
    go_wp2
    go_ret
    exact ⟨rfl, Ext.refl _⟩
  · have H : Hid (szN l.length left = left - l.length) := if_neg hd
    rw [H.out]
    go_enter Try.func52, Try.ntmps52
    go_wp2
    go_ret
    exact ⟨rfl, Ext.refl _⟩

set_option maxHeartbeats 400000 in
theorem szIntS_c (A : Option Addr) (l : List _) (c : Nat) (left : Int) (w : World) (h : Rd0 vint w A l c) (h0 : 0 ≤ left) (h1 : left ≤ 1048576) :
    Gives Try.prog 54 #[.slice A l.length c, .int .i64 left] w (.int .i64 (szN l.length left)) := by
  have hl := h.len
  by_cases hd : left - (l.length : Int) < 0
  · have H : Hid (szN l.length left = -1) := if_pos hd
    rw [H.out]
    go_enter Try.func54, Try.ntmps54
    go_wp2
    go_ret
    exact ⟨rfl, Ext.refl _⟩
  · have H : Hid (szN l.length left = left - l.length) := if_neg hd
    rw [H.out]
    go_enter Try.func54, Try.ntmps54
    go_wp2
    go_ret
    exact ⟨rfl, Ext.refl _⟩
theorem szN_lo (n : Nat) (left : Int) (h : left ≤ 1048576) (h0 : 0 ≤ left) : -1 ≤ szN n left ∧ szN n left ≤ 1048576 := by unfold szN; split <;> omega
def vlog (v : Value) (s : Int) : Value := .agg #[v, .int .i64 s]
end Go.Proofs.Ytpefbcnfhngggaa
