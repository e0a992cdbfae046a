/- Records by value: the laws' helpers and EqualRecords. -/
import Derived.Test.YtcaeeoghkonniaaLog
namespace Go.Proofs.Ytcaeeoghkonniaa
open Go.RowKit Go.Sort

def vrec (k : Int) (nm : ByteArray) (ver : Int) (v : Value) : Value := .agg #[.int .i64 k, .string nm, .int .i64 ver, v]
/-- what is left of the size of a record -/
def szR (n m : Nat) (left : Int) : Int := if szN n left < 0 then -1 else szN m (szN n left)
set_option maxHeartbeats 2000000 in
theorem sEqualRecords_c (k : Int) (nm : ByteArray) (ver : Int) (A : Option Addr) (l : List UInt8) (c : Nat) (k' : Int) (nm' : ByteArray) (ver' : Int) (A' : Option Addr) (l' : List UInt8) (c' : Nat) (w : World) (h : Bs w A l c) (h' : Bs w A' l' c') :
    Gives Try.prog 12 #[vrec k nm ver (.slice A l.length c), vrec k' nm' ver' (.slice A' l'.length c')] w (.bool (k == k' && nm.toList == nm'.toList && ver == ver' && l == l')) := by
  have C := Lib.hid (fun w h h' => sEqualBytes_c A A' l l' c c' w h h')
  generalize (l == l') = r at *
  unfold vrec
  cases h1 : (k == k') <;> cases h2 : (nm.toList == nm'.toList) <;> cases h3 : (ver == ver')
  all_goals
    go_enter Try.func12, Try.ntmps12
    go_wp2_with (go_at_call 32; refine (C.out _ (h.ext (Ext_alloc _ (Ext_alloc _ (Ext.refl w)))) (h'.ext (Ext_alloc _ (Ext_alloc _ (Ext.refl w))))).mono ?_; rintro _ w1 ⟨rfl, he⟩)
    go_ret
    first
      | exact ⟨ret_bool (by simp), Ext_alloc _ (Ext_alloc _ (Ext.refl w))⟩
      | exact ⟨ret_bool (by simp), (Ext_alloc _ (Ext_alloc _ (Ext.refl w))).trans he⟩
end Go.Proofs.Ytcaeeoghkonniaa
