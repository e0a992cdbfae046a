/- LostNames of the program and of the reference. -/
import Derived.Test.YtpefbcnfhngggaaValid10
import Derived.Test.YtpefbcnfhngggaaShared
namespace Go.Proofs.Ytpefbcnfhngggaa
open Go.RowKit Go.Sort

def knownB (ds : List DRule) (i : Int) : Bool := descOk ds && (decide (0 ≤ i) && decide (i < ds.length))
set_option maxHeartbeats 1000000 in
theorem iKnown_c (A : Option Addr) (ds : List DRule) (c : Nat) (i : Int) (w : World) (hd : RdD w A ds c) (hs : ShortD ds) (hw : WfD ds) :
    Gives Try.prog 29 #[vdesc (.slice A ds.length c), .int .i64 i] w (.bool (knownB ds i)) := by
  have hl := hd.len
  have eb := Ext_alloc (.cells #[.slice A ds.length c] 29) (Ext.refl w)
  have BX := fun w' (e : Ext (w.alloc (.cells #[.slice A ds.length c] 29)) w') => boxed e
  have CV := Lib.hid (fun w h => iValidDesc_c A ds c w h hs hw)
  have CH := Lib.hid (fun w => hasRule_c A ds.length c i w hl)
  unfold knownB
  unfold vdesc at *
  generalize descOk ds = p at *
  generalize (decide (0 ≤ i) && decide (i < (ds.length : Int))) = q at *
  cases p
  · go_enter Try.func29, Try.ntmps29
    go_wp2_with fail
    refine (CV.out _ (hd.ext eb)).mono ?_; rintro _ w1 ⟨rfl, e1⟩
    go_wp2
    go_ret
    exact ⟨ret_bool (by simp), eb.trans e1⟩
  · go_enter Try.func29, Try.ntmps29
    go_wp2_with fail
    refine (CV.out _ (hd.ext eb)).mono ?_; rintro _ w1 ⟨rfl, e1⟩
    go_wp2_with fail
    refine (CH.out _).mono ?_; rintro _ w2 ⟨rfl, e2⟩
    go_wp2
    go_ret
    exact ⟨ret_bool (by simp), eb.trans (e1.trans e2)⟩
set_option maxHeartbeats 1000000 in
theorem sKnown_c (A : Option Addr) (ds : List DRule) (c : Nat) (i : Int) (w : World) (hd : RdD w A ds c) (hs : ShortD ds) (hw : WfD ds) :
    Gives Try.prog 26 #[vdesc (.slice A ds.length c), .int .i64 i] w (.bool (knownB ds i)) := by
  have hl := hd.len
  have eb := Ext_alloc (.cells #[.slice A ds.length c] 29) (Ext.refl w)
  have BX := fun w' (e : Ext (w.alloc (.cells #[.slice A ds.length c] 29)) w') => boxed e
  have CV := Lib.hid (fun w h => sValidDesc_c A ds c w h hs hw)
  have CH := Lib.hid (fun w => l1In_c i 0 ((ds.length : Int) - 1) w)
  have HQ : Hid ((decide (0 ≤ i) && decide (i < (ds.length : Int))) = (decide (0 ≤ i) && decide (i ≤ (ds.length : Int) - 1))) := by
    show _ = _; congr 1; rw [Bool.eq_iff_iff]; simp; omega
  unfold knownB
  rw [HQ.out]
  clear HQ
  unfold vdesc at *
  generalize descOk ds = p at *
  generalize (decide (0 ≤ i) && decide (i ≤ (ds.length : Int) - 1)) = q at *
  cases q
  · go_enter Try.func26, Try.ntmps26
    go_wp2_with fail
    refine (CH.out _).mono ?_; rintro _ w1 ⟨rfl, e1⟩
    go_wp2
    go_ret
    exact ⟨ret_bool (by simp), eb.trans e1⟩
  · go_enter Try.func26, Try.ntmps26
    go_wp2_with fail
    refine (CH.out _).mono ?_; rintro _ w1 ⟨rfl, e1⟩
    go_wp2_with fail
    refine (CV.out _ (hd.ext (eb.trans e1))).mono ?_; rintro _ w2 ⟨rfl, e2⟩
    go_wp2
    go_ret
    exact ⟨ret_bool (by simp), eb.trans (e1.trans e2)⟩
end Go.Proofs.Ytpefbcnfhngggaa
