/- Logs by value: the laws' helpers and EqualLogs. -/
import Derived.Test.YtcaeeoghkonniaaCopy
import Derived.Test.YtcaeeoghkonniaaEqual
namespace Go.Proofs.Ytcaeeoghkonniaa
open Go.RowKit Go.Sort

/-- what is left of a size, or -1 -/
def szN (n : Nat) (left : Int) : Int := if left - n < 0 then -1 else left - n

theorem szN_lo (n : Nat) (left : Int) (h : left ≤ 1048576) (h0 : 0 ≤ left) : -1 ≤ szN n left ∧ szN n left ≤ 1048576 := by unfold szN; split <;> omega
def vlog (v : Value) (s : Int) : Value := .agg #[v, .int .i64 s]
set_option maxHeartbeats 1000000 in
theorem iEqualLogs_c (A A' : Option Addr) (l l' : List UInt8) (c c' : Nat) (s s' : Int) (w : World) (h : Bs w A l c) (h' : Bs w A' l' c') :
    Gives Try.prog 8 #[vlog (.slice A l.length c) s, vlog (.slice A' l'.length c') s'] w (.bool (s == s' && l == l')) := by
  have C := Lib.hid (fun w h h' => iEqualBytes_c A A' l l' c c' w h h')
  generalize (l == l') = r at *
  unfold vlog
  cases hs : (s == s')
  · go_enter Try.func8, Try.ntmps8
    go_wp2
    go_ret
    exact ⟨ret_bool (by simp), Ext_alloc _ (Ext_alloc _ (Ext.refl w))⟩
  · go_enter Try.func8, Try.ntmps8
    go_wp2_with (go_at_call 27; refine (C.out _ (h.ext (Ext_alloc _ (Ext_alloc _ (Ext.refl w)))) (h'.ext (Ext_alloc _ (Ext_alloc _ (Ext.refl w))))).mono ?_; rintro _ w1 ⟨rfl, he⟩)
    go_ret
    exact ⟨ret_bool (by simp), (Ext_alloc _ (Ext_alloc _ (Ext.refl w))).trans he⟩

end Go.Proofs.Ytcaeeoghkonniaa
