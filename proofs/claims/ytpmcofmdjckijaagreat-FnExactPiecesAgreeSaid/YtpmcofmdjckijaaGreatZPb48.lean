/- Texts, laid into one. -/
import Derived.Test.YtpmcofmdjckijaaGreatZPb47
import Derived.Test.YtpmcofmdjckijaaGreatZPb46
set_option linter.unusedVariables false
set_option linter.unusedSimpArgs false
set_option maxRecDepth 100000
set_option maxHeartbeats 16000000
namespace Go.Proofs.YtpmcofmdjckijaaGreat
open Go.RowKit Go.Sort
theorem lawPiecesAgree_c (A0 : Option Addr) (ds0 : List DRule) (c0 : Nat) (Ab : Option Addr) (l : List UInt8) (cb : Nat) (n : Int) (w : World) (h0 : RdD w A0 ds0 c0) (hw0 : WfD ds0) (hb : Rd0 vu8 w Ab l cb) :
 Gives Tryz.prog 4 #[vdesc (.slice A0 ds0.length c0), .slice Ab l.length cb, .int .i64 n] w (.bool true) := by
 have hll := hb.len
 have eb := (Ext_alloc (.cells #[.slice A0 ds0.length c0] 36) (Ext.refl w))
 have B0 := fun w' (e : Ext (w.alloc (.cells #[.slice A0 ds0.length c0] 36)) w') => boxed e
 by_cases hL : l.length ≤ 1048576
 rotate_left
 ·have hd : decide ((1048576 : Int) < (l.length : Int)) = true := by simp; omega
  unfold vdesc
  go_enter Tryz.func4, Tryz.ntmps4
  go_wp2
  go_ret
  exact ⟨rfl, eb⟩
 have hL' : l.length ≤ 140737488351232 := by omega
 have hd : decide ((1048576 : Int) < (l.length : Int)) = false := by simp; omega
 have Z0 := Lib.hid (fun left w h h0 h1 => szDescription_c A0 ds0 c0 left w h hw0 h0 h1)
 have T0 := Lib.hid (fun w h hz => toDesc_r A0 ds0 c0 w h hz)
 have hz0 := szN_lo (szD ds0) (1048576)
 have hs0 : ¬ szN (szD ds0) (1048576) < 0 → (1048576 : Int) ≤ 1048576 → szD ds0 ≤ 1048576 := fun a b => szN_small a b
 generalize hzz0 : szN (szD ds0) (1048576) = z0 at *
 have HZ0 := Lib.hid hzz0; clear hzz0
 have TB := Lib.hid (fun w' (e : Ext w w') => toByteS_c Ab l cb w' (hb.ext e) hL)
 unfold vdesc at *
 go_enter Tryz.func4, Tryz.ntmps4
 go_wp2_with fail
 refine (Z0.out _ _ (h0.ext eb) (by omega) (by omega)).mono ?_; rintro _ w1 ⟨rfl, s1⟩
 rw [HZ0.out]
 replace B0 := kx B0 s1
 replace eb := eb.trans s1; clear s1
 by_cases d0 : z0 < 0
 ·go_wp2
  go_ret
  exact ⟨rfl, eb⟩
 have hl0 := hs0 (by omega) (by omega)
 have U0 := Lib.hid (fun w h => T0.out w h hl0); clear T0; have SH0 := Lib.hid (shortD_of hl0)
 clear hz0 hs0 hl0
 go_wp2_with fail
 refine (U0.out _ (h0.ext eb)).mono ?_; rintro _ w2 ⟨XA0, Xc0, rfl, r0, s2⟩
 replace B0 := kx B0 s2
 replace eb := eb.trans s2; clear s2
 go_wp2_with fail
 refine (TB.out _ eb).mono ?_; rintro _ w3 ⟨v3, rfl, ho3, s3⟩; obtain ⟨A3, c3, rfl, r3⟩ := OwnL.rd ho3 hL'
 replace B0 := kx B0 s3
 replace eb := eb.trans s3
 replace r0 := r0.ext s3; clear s3 ho3
 go_wp2_with fail
 refine (sPieces_c XA0 ds0 Xc0 A3 l c3 n _ r0 SH0.out hw0 r3).mono ?_; rintro _ w4 ⟨rfl, s4⟩
 replace B0 := kx B0 s4
 replace eb := eb.trans s4; clear s4 r0 r3
 go_wp2_with fail
 refine (U0.out _ (h0.ext eb)).mono ?_; rintro _ w5 ⟨PA0, Pc0, rfl, rx0, s5⟩
 replace B0 := kx B0 s5
 replace eb := eb.trans s5; clear s5
 have BX0 := fun w' (e : Ext (w5.alloc (.cells #[.slice PA0 ds0.length Pc0] 26)) w') => boxed e
 have t5 := Ext_alloc (.cells #[.slice PA0 ds0.length Pc0] 26) (Ext.refl w5)
 replace B0 := kx B0 t5
 replace rx0 := rx0.ext t5
 replace eb := eb.trans t5; clear t5
 go_wp2_with fail
 refine (TB.out _ eb).mono ?_; rintro _ w6 ⟨v6, rfl, ho6, s6⟩; obtain ⟨A6, c6, rfl, r6⟩ := OwnL.rd ho6 hL'
 replace B0 := kx B0 s6
 replace BX0 := kx BX0 s6
 replace rx0 := rx0.ext s6
 replace eb := eb.trans s6; clear s6 ho6
 go_wp2_with fail
 refine (iPieces_c PA0 ds0 Pc0 A6 l c6 n _ rx0 SH0.out hw0 r6).mono ?_; rintro _ w7 ⟨rfl, s7⟩
 replace B0 := kx B0 s7
 replace BX0 := kx BX0 s7
 replace rx0 := rx0.ext s7
 replace r6 := r6.ext s7
 replace eb := eb.trans s7; clear s7
 have HE0 : Hid (eqD ds0 ds0 = true) := eqD_refl ds0
 go_wp2_with fail
 go_region_held3 (fun w' => Ext w7 w') (first | assumption | exact Ext_drew (Ext.refl _) | exact Ext.trans (by assumption) (by assumption)) (first
  | (go_at_call 12; refine (U0.out _ (h0.ext (eb.trans (by assumption)))).mono ?_; rintro _ w10 ⟨YA0, Yc0, rfl, r0, s10⟩)
  | (go_at_call 15; refine (eqDescription_c _ _ _ _ _ _ _ (rx0.ext (by assumption)) r0 SH0.out SH0.out).mono ?_; rintro _ w8 ⟨rfl, s18⟩; rw [HE0.out]))
 have s8 : Ext w7 w8 := by assumption
 clear r0 s10 s18
 replace B0 := kx B0 s8
 replace BX0 := kx BX0 s8
 replace r6 := r6.ext s8
 replace eb := eb.trans s8; clear s8
 go_wp2_with fail
 refine (TB.out _ eb).mono ?_; rintro _ w9 ⟨v9, rfl, ho9, s9⟩; obtain ⟨A9, c9, rfl, r9⟩ := OwnL.rd ho9 hL'
 replace eb := eb.trans s9
 replace r6 := r6.ext s9; clear s9 ho9
 go_wp2_with fail
 refine (eqByteS_c _ _ _ _ _ _ _ r6 r9).mono ?_; rintro _ w11 ⟨rfl, s11⟩
 rw [show (l == l) = true by simp]
 replace eb := eb.trans s11; clear s11
 go_wp2
 go_ret
 exact ⟨rfl, eb⟩
end Go.Proofs.YtpmcofmdjckijaaGreat
