/- Records by value: the laws' helpers and EqualRecords. -/
import Derived.Test.YtohejlknihleeaaLog
namespace Go.Proofs.Ytohejlknihleeaa
open Go.RowKit Go.Sort

def vrec (k : Int) (nm : ByteArray) (ver : Int) (v : Value) : Value := .agg #[.int .i64 k, .string nm, .int .i64 ver, v]
/-- what is left of the size of a record -/
def szR (n m : Nat) (left : Int) : Int := if szN n left < 0 then -1 else szN m (szN n left)
set_option maxHeartbeats 400000 in
theorem szRecord_c (k : Int) (nm : ByteArray) (ver : Int) (A : Option Addr) (l : List UInt8) (c : Nat) (left : Int) (w : World) (h : Rd0 vu8 w A l c) (hn : nm.size ≤ 9223372036854775807) (h0 : 0 ≤ left) (h1 : left ≤ 1048576) :
    Gives Try.prog 23 #[vrec k nm ver (.slice A l.length c), .int .i64 left] w (.int .i64 (szR nm.size l.length left)) := by
  have C := Lib.hid (fun left w h h0 h1 => szByteS_c A l c left w h h0 h1)
  by_cases hd : left - (nm.size : Int) < 0
  · have HR : Hid (szR nm.size l.length left = -1) := by show _ = _; unfold szR szN; rw [if_pos hd]; rfl
    rw [HR.out]
    unfold vrec
    go_enter Try.func23, Try.ntmps23
    go_wp2
    go_ret
    exact ⟨rfl, Ext_alloc _ (Ext.refl w)⟩
  · have HR : Hid (szR nm.size l.length left = szN l.length (left - nm.size)) := by show _ = _; unfold szR; rw [show szN nm.size left = left - nm.size from if_neg hd, if_neg hd]
    rw [HR.out]
    have hz := szN_lo l.length (left - nm.size) (by omega) (by omega)
    have HZ : Hid (szN l.length (left - nm.size) = szN l.length (left - nm.size)) := rfl
    generalize hzz : szN l.length (left - nm.size) = z at *
    have HY := Lib.hid hzz; clear hzz HZ
    unfold vrec
    by_cases hz0 : z < 0
    · obtain rfl : z = -1 := by omega
      go_enter Try.func23, Try.ntmps23
      go_wp2_with fail
      refine (C.out _ _ (h.ext (Ext_alloc _ (Ext.refl _))) (by omega) (by omega)).mono ?_; rintro _ w1 ⟨rfl, he⟩
      rw [HY.out]
      go_wp2
      go_ret
      exact ⟨rfl, (Ext_alloc _ (Ext.refl w)).trans he⟩
    · go_enter Try.func23, Try.ntmps23
      go_wp2_with fail
      refine (C.out _ _ (h.ext (Ext_alloc _ (Ext.refl _))) (by omega) (by omega)).mono ?_; rintro _ w1 ⟨rfl, he⟩
      rw [HY.out]
      go_wp2
      go_ret
      exact ⟨rfl, (Ext_alloc _ (Ext.refl w)).trans he⟩
set_option maxRecDepth 100000 in
set_option maxHeartbeats 1000000 in
theorem toRecord_c (k : Int) (nm : ByteArray) (ver : Int) (A : Option Addr) (l : List UInt8) (c : Nat) (w : World) (h : Rd0 vu8 w A l c) (hL : l.length ≤ 1048576) :
    Calls Try.prog 25 #[vrec k nm ver (.slice A l.length c)] w fun e w' => ∃ v, e = .returned (vrec k nm ver v) ∧ OwnL vu8 5 w w' v l ∧ Ext w w' := by
  have C := Lib.hid (fun w h => toByteS_c A l c w h hL)
  unfold vrec
  go_enter Try.func25, Try.ntmps25
  go_wp2_with fail
  refine (C.out _ (h.ext (Ext_alloc _ (Ext_alloc _ (Ext_alloc _ (Ext.refl w)))))).mono ?_; rintro _ w1 ⟨v1, rfl, ho, he⟩
  obtain ⟨b0, b1, b2, f0, f1, f2, hs⟩ := boxed3 he
  obtain ⟨A1, c1, rfl, _⟩ := OwnL.rd ho (by omega)
  have hB : w.heap.size + 3 = _ := (show w.heap.size + 3 = ((((w.alloc (.cells #[.int .i64 k, .string nm, .int .i64 ver, .slice A l.length c] 34)).alloc (.cells #[.int .i64 0, .string ⟨#[]⟩, .int .i64 0, .slice none 0 0] 37)).alloc (.cells #[.int .i64 k, .string nm, .int .i64 ver, .slice none 0 0] 37))).heap.size by simp)
  have HB := Lib.hid hB; clear hB
  go_wp2
  refine bodyPost_ret (v := .agg #[.int .i64 k, .string nm, .int .i64 ver, .slice A1 l.length c1]) (by simp [results, Try.results25, go_sem, b1, f1]) rfl ⟨_, rfl, ?_, ?_⟩
  · exact World.ownsRow.lower (B := w.heap.size + 3) (ownsRow_setCell_below (ownsRow_setCell_below (ownsRow_setCell_below (ownsRow_setCell_below (ownsRow_setCell_below (World.ownsRow.lower ho (Nat.le_of_eq HB.out)) (by simp) _) (by simp) _) (by simp) _) (by simp) _) (by simp) _) (by omega)
  · have e1 := (Ext_alloc _ (Ext_alloc _ (Ext_alloc _ (Ext.refl w)))).trans he
    exact ((((e1.setCell (by simp; omega) _).setCell (by simp) _).setCell (by simp) _).setCell (by simp) _).setCell (by simp) _

set_option maxHeartbeats 2000000 in
theorem sEqualRecords_c (k : Int) (nm : ByteArray) (ver : Int) (A : Option Addr) (l : List UInt8) (c : Nat) (k' : Int) (nm' : ByteArray) (ver' : Int) (A' : Option Addr) (l' : List UInt8) (c' : Nat) (w : World) (h : Bs w A l c) (h' : Bs w A' l' c') :
    Gives Try.prog 68 #[vrec k nm ver (.slice A l.length c), vrec k' nm' ver' (.slice A' l'.length c')] w (.bool (k == k' && nm.toList == nm'.toList && ver == ver' && l == l')) := by
  have C := Lib.hid (fun w h h' => sEqualBytes_c A A' l l' c c' w h h')
  generalize (l == l') = r at *
  unfold vrec
  cases h1 : (k == k') <;> cases h2 : (nm.toList == nm'.toList) <;> cases h3 : (ver == ver')
  all_goals
    go_enter Try.func68, Try.ntmps68
    go_wp2_with (go_at_call 92; refine (C.out _ (h.ext (Ext_alloc _ (Ext_alloc _ (Ext.refl w)))) (h'.ext (Ext_alloc _ (Ext_alloc _ (Ext.refl w))))).mono ?_; rintro _ w1 ⟨rfl, he⟩)
    go_ret
    first
      | exact ⟨ret_bool (by simp), Ext_alloc _ (Ext_alloc _ (Ext.refl w))⟩
      | exact ⟨ret_bool (by simp), (Ext_alloc _ (Ext_alloc _ (Ext.refl w))).trans he⟩
set_option maxHeartbeats 2000000 in
theorem eqRecord_c (k : Int) (nm : ByteArray) (ver : Int) (A : Option Addr) (l : List UInt8) (c : Nat) (k' : Int) (nm' : ByteArray) (ver' : Int) (A' : Option Addr) (l' : List UInt8) (c' : Nat) (w : World) (h : Bs w A l c) (h' : Bs w A' l' c') :
    Gives Try.prog 27 #[vrec k nm ver (.slice A l.length c), vrec k' nm' ver' (.slice A' l'.length c')] w (.bool (k == k' && nm.toList == nm'.toList && ver == ver' && l == l')) := by
  have C := Lib.hid (fun w h h' => eqByteS_c A A' l l' c c' w h h')
  generalize (l == l') = r at *
  unfold vrec
  cases h1 : (k == k') <;> cases h2 : (nm.toList == nm'.toList) <;> cases h3 : (ver == ver') <;> cases r
  all_goals
    have g1 := congrArg Bool.not h1
    have g2 := congrArg Bool.not h2
    have g3 := congrArg Bool.not h3
    rw [← bne] at g1 g2 g3
    simp only [Bool.not_true, Bool.not_false] at g1 g2 g3
    go_enter Try.func27, Try.ntmps27
    go_wp2_with (go_at_call 38; refine (C.out _ (h.ext (Ext_alloc _ (Ext_alloc _ (Ext.refl w)))) (h'.ext (Ext_alloc _ (Ext_alloc _ (Ext.refl w))))).mono ?_; rintro _ w1 ⟨rfl, he⟩)
    go_ret
    first
      | exact ⟨ret_bool (by simp), Ext_alloc _ (Ext_alloc _ (Ext.refl w))⟩
      | exact ⟨ret_bool (by simp), (Ext_alloc _ (Ext_alloc _ (Ext.refl w))).trans he⟩
end Go.Proofs.Ytohejlknihleeaa
