/- The laws' marks on records and logs by value. -/
import Derived.Test.YtohejlknihleeaaRecord
import Derived.Test.YtohejlknihleeaaLog
namespace Go.Proofs.Ytohejlknihleeaa
open Go.RowKit Go.Sort

theorem Own.alloc' {e : TypeId} {size : Nat} {w0 w : World} {v : Value} {n : Nat} {xs : List Value} (h : Own e size w0 w v n xs) (o : Obj) : Own e size w0 (w.alloc o) v n xs := World.ownsRow.alloc h o
set_option maxHeartbeats 400000 in
theorem markRecord_c (kk : Int) (nm : ByteArray) (ver : Int) (A : Option Addr) (n c : Nat) (k : Int) (xs : List Value) (w0 w : World) (ho : Own 5 1 w0 w (.slice A n c) n xs) (hk : 0 ≤ k) (hk2 : k + n ≤ 1099511627776) :
    Calls Try.prog 39 #[(vrec kk nm ver (.slice A n c)), .int .i64 k] w fun e w' => e = .returned (.int .i64 (k + n)) ∧ Own 5 1 w0 w' (.slice A n c) n ((List.range n).map (mk8 k)) ∧ w.grownBy w' (Value.slice A n c).ownBlock := by
  have C := Lib.hid (markByteS_c A n c k xs w0 (w.alloc (.cells #[.int .i64 kk, .string nm, .int .i64 ver, .slice A n c] 37)) (ho.alloc' _) hk hk2)
  have G := Lib.hid (World.grownBy_alloc w (.cells #[.int .i64 kk, .string nm, .int .i64 ver, .slice A n c] 37) (Value.slice A n c).ownBlock)
  clear ho
  unfold vrec at *
  go_enter Try.func39, Try.ntmps39
  go_wp2_with fail
  refine C.out.mono ?_; rintro _ w1 ⟨rfl, ho1, hg1⟩
  have H1 := Lib.hid ho1; have H3 := Lib.hid hg1
  clear ho1 hg1
  go_wp2
  go_ret
  exact ⟨rfl, H1.out, G.out.trans H3.out⟩

set_option maxHeartbeats 400000 in
theorem markLog_c (st : Int) (A : Option Addr) (n c : Nat) (k : Int) (xs : List Value) (w0 w : World) (ho : Own 5 1 w0 w (.slice A n c) n xs) (hk : 0 ≤ k) (hk2 : k + n ≤ 1099511627776) :
    Calls Try.prog 60 #[(vlog (.slice A n c) st), .int .i64 k] w fun e w' => e = .returned (.int .i64 (k + n)) ∧ Own 5 1 w0 w' (.slice A n c) n ((List.range n).map (mk8 k)) ∧ w.grownBy w' (Value.slice A n c).ownBlock := by
  have C := Lib.hid (markByteS_c A n c k xs w0 (w.alloc (.cells #[.slice A n c, .int .i64 st] 53)) (ho.alloc' _) hk hk2)
  have G := Lib.hid (World.grownBy_alloc w (.cells #[.slice A n c, .int .i64 st] 53) (Value.slice A n c).ownBlock)
  clear ho
  unfold vlog at *
  go_enter Try.func60, Try.ntmps60
  go_wp2_with fail
  refine C.out.mono ?_; rintro _ w1 ⟨rfl, ho1, hg1⟩
  have H1 := Lib.hid ho1; have H3 := Lib.hid hg1
  clear ho1 hg1
  go_wp2
  go_ret
  exact ⟨rfl, H1.out, G.out.trans H3.out⟩
set_option maxHeartbeats 400000 in
theorem heldRecord_c (kk : Int) (nm : ByteArray) (ver : Int) (A : Option Addr) (n c : Nat) (k : Int) (w : World) (h : Rd (mk8 k) w A (List.range n) c) (hk : 0 ≤ k) (hk2 : k + n ≤ 1099511627776) :
    Gives Try.prog 45 #[(vrec kk nm ver (.slice A n c)), .int .i64 k] w (.int .i64 (k + n)) := by
  have C := Lib.hid (fun w h => heldByteS_c A n c k w h hk hk2)
  unfold vrec at *
  go_enter Try.func45, Try.ntmps45
  go_wp2_with fail
  refine (C.out _ (h.ext (Ext_alloc _ (Ext.refl w)))).mono ?_; rintro _ w1 ⟨rfl, he1⟩
  go_wp2
  go_ret
  exact ⟨rfl, (Ext_alloc _ (Ext.refl w)).trans he1⟩

set_option maxHeartbeats 400000 in
theorem heldLog_c (st : Int) (A : Option Addr) (n c : Nat) (k : Int) (w : World) (h : Rd (mk8 k) w A (List.range n) c) (hk : 0 ≤ k) (hk2 : k + n ≤ 1099511627776) :
    Gives Try.prog 61 #[(vlog (.slice A n c) st), .int .i64 k] w (.int .i64 (k + n)) := by
  have C := Lib.hid (fun w h => heldByteS_c A n c k w h hk hk2)
  unfold vlog at *
  go_enter Try.func61, Try.ntmps61
  go_wp2_with fail
  refine (C.out _ (h.ext (Ext_alloc _ (Ext.refl w)))).mono ?_; rintro _ w1 ⟨rfl, he1⟩
  go_wp2
  go_ret
  exact ⟨rfl, (Ext_alloc _ (Ext.refl w)).trans he1⟩
end Go.Proofs.Ytohejlknihleeaa
