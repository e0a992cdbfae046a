/- Logs by value: the laws' helpers and EqualLogs. -/
import Derived.Test.YtalnekcmfagjoaaCopy
import Derived.Test.YtalnekcmfagjoaaEqual
namespace Go.Proofs.Ytalnekcmfagjoaa
open Go.RowKit Go.Sort

/-- what is left of a size, or -1 -/
def szN (n : Nat) (left : Int) : Int := if left - n < 0 then -1 else left - n
set_option maxHeartbeats 400000 in
theorem szByteS_c (A : Option Addr) (l : List _) (c : Nat) (left : Int) (w : World) (h : Rd0 vu8 w A l c) (h0 : 0 ≤ left) (h1 : left ≤ 1048576) :
    Gives Try.prog 77 #[.slice A l.length c, .int .i64 left] w (.int .i64 (szN l.length left)) := by
  have hl := h.len
  by_cases hd : left - (l.length : Int) < 0
  · have H : Hid (szN l.length left = -1) := if_pos hd
    rw [H.out]
    go_enter Try.func77, Try.ntmps77
    go_wp2
    go_ret
    exact ⟨rfl, Ext.refl _⟩
  · have H : Hid (szN l.length left = left - l.length) := if_neg hd
    rw [H.out]
    go_enter Try.func77, Try.ntmps77
    go_wp2
    go_ret
    exact ⟨rfl, Ext.refl _⟩

set_option maxHeartbeats 400000 in
theorem szIntS_c (A : Option Addr) (l : List _) (c : Nat) (left : Int) (w : World) (h : Rd0 vint w A l c) (h0 : 0 ≤ left) (h1 : left ≤ 1048576) :
    Gives Try.prog 91 #[.slice A l.length c, .int .i64 left] w (.int .i64 (szN l.length left)) := by
  have hl := h.len
  by_cases hd : left - (l.length : Int) < 0
  · have H : Hid (szN l.length left = -1) := if_pos hd
    rw [H.out]
    go_enter Try.func91, Try.ntmps91
    go_wp2
    go_ret
    exact ⟨rfl, Ext.refl _⟩
  · have H : Hid (szN l.length left = left - l.length) := if_neg hd
    rw [H.out]
    go_enter Try.func91, Try.ntmps91
    go_wp2
    go_ret
    exact ⟨rfl, Ext.refl _⟩
theorem szN_lo (n : Nat) (left : Int) (h : left ≤ 1048576) (h0 : 0 ≤ left) : -1 ≤ szN n left ∧ szN n left ≤ 1048576 := by unfold szN; split <;> omega
def vlog (v : Value) (s : Int) : Value := .agg #[v, .int .i64 s]
set_option maxHeartbeats 400000 in
theorem szLog_c (A : Option Addr) (l : List UInt8) (c : Nat) (s left : Int) (w : World) (h : Rd0 vu8 w A l c) (h0 : 0 ≤ left) (h1 : left ≤ 1048576) :
    Gives Try.prog 50 #[vlog (.slice A l.length c) s, .int .i64 left] w (.int .i64 (szN l.length left)) := by
  have C := Lib.hid (fun w h => szByteS_c A l c left w h h0 h1)
  have hz := szN_lo l.length left h1 h0
  generalize szN l.length left = z at *
  unfold vlog
  by_cases hd : z < 0
  · obtain rfl : z = -1 := by omega
    go_enter Try.func50, Try.ntmps50
    go_wp2_with fail
    refine (C.out _ (h.ext (Ext_alloc _ (Ext.refl _)))).mono ?_; rintro _ w1 ⟨rfl, he⟩
    go_wp2
    go_ret
    exact ⟨rfl, (Ext_alloc _ (Ext.refl w)).trans he⟩
  · go_enter Try.func50, Try.ntmps50
    go_wp2_with fail
    refine (C.out _ (h.ext (Ext_alloc _ (Ext.refl _)))).mono ?_; rintro _ w1 ⟨rfl, he⟩
    go_wp2
    go_ret
    exact ⟨rfl, (Ext_alloc _ (Ext.refl w)).trans he⟩
set_option maxHeartbeats 1000000 in
theorem toLog_c (A : Option Addr) (l : List UInt8) (c : Nat) (s : Int) (w : World) (h : Rd0 vu8 w A l c) (hL : l.length ≤ 1048576) :
    Calls Try.prog 53 #[vlog (.slice A l.length c) s] w fun e w' => ∃ v, e = .returned (vlog v s) ∧ OwnL vu8 5 w w' v l ∧ Ext w w' := by
  have C := Lib.hid (fun w h => toByteS_c A l c w h hL)
  unfold vlog
  go_enter Try.func53, Try.ntmps53
  go_wp2_with fail
  refine (C.out _ (h.ext (Ext_alloc _ (Ext_alloc _ (Ext_alloc _ (Ext.refl w)))))).mono ?_; rintro _ w1 ⟨v1, rfl, ho, he⟩
  obtain ⟨b0, b1, b2, f0, f1, f2, hs⟩ := boxed3 he
  obtain ⟨A1, c1, rfl, _⟩ := OwnL.rd ho (by omega)
  go_wp2
  refine bodyPost_ret (v := .agg #[.slice A1 l.length c1, .int .i64 s]) (by simp [results, Try.results53, go_sem, b1, f1, b2]) rfl ⟨_, rfl, ?_, ?_⟩
  · have hb : w.heap.size + 1 + 1 + 1 ≤ w.heap.size + 3 := Nat.le_refl _
    have hB : (((w.alloc (.cells #[.slice A l.length c, .int .i64 s] 50)).alloc (.cells #[.slice none 0 0, .int .i64 0] 54)).alloc (.cells #[.slice none 0 0, .int .i64 0] 54)).heap.size = w.heap.size + 3 := by simp
    exact World.ownsRow.lower (ownsRow_setCell_below (ownsRow_setCell_below (ownsRow_setCell_below (ownsRow_setCell_below ho (by rw [hB]; simp) _) (by rw [hB]; simp) _) (by rw [hB]; simp) _) (by rw [hB]; simp) _) (by rw [hB]; omega)
  · have e1 := (Ext_alloc _ (Ext_alloc _ (Ext_alloc _ (Ext.refl w)))).trans he
    exact (((e1.setCell (by simp; omega) _).setCell (by simp; omega) _).setCell (by simp) _).setCell (by simp) _

set_option maxHeartbeats 1000000 in
theorem eqLog_c (A A' : Option Addr) (l l' : List UInt8) (c c' : Nat) (s s' : Int) (w : World) (h : Bs w A l c) (h' : Bs w A' l' c') :
    Gives Try.prog 56 #[vlog (.slice A l.length c) s, vlog (.slice A' l'.length c') s'] w (.bool (l == l' && s == s')) := by
  have C := Lib.hid (fun w h h' => eqByteS_c A A' l l' c c' w h h')
  generalize (l == l') = r at *
  unfold vlog
  cases r <;> cases hs : (s != s')
  all_goals
    go_enter Try.func56, Try.ntmps56
    go_wp2_with fail
    refine (C.out _ (h.ext (Ext_alloc _ (Ext_alloc _ (Ext.refl w)))) (h'.ext (Ext_alloc _ (Ext_alloc _ (Ext.refl w))))).mono ?_; rintro _ w1 ⟨rfl, he⟩
    have hs1 : Hid ((s == s') = !(s != s')) := by show _ = _; simp [bne]
    obtain ⟨b0, b1, f0, f1, hsz⟩ := boxed2 he
    go_wp2
    go_ret
    exact ⟨ret_bool (by rw [hs1.out, hs]; simp), (Ext_alloc _ (Ext_alloc _ (Ext.refl w))).trans he⟩
end Go.Proofs.Ytalnekcmfagjoaa
