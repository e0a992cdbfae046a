/- The walk of the law on SameFormat. -/
import Derived.Test.YtpefbcnfhngggaaExt6
import Derived.Test.YtpefbcnfhngggaaDescR
import Derived.Test.YtpefbcnfhngggaaDescEq5
namespace Go.Proofs.Ytpefbcnfhngggaa
open Go.RowKit Go.Sort

set_option maxRecDepth 100000 in
set_option maxHeartbeats 4000000 in
theorem lawSameFormat_c (A0 : Option Addr) (ds0 : List DRule) (c0 : Nat) (A1 : Option Addr) (ds1 : List DRule) (c1 : Nat) (w : World) (h0 : RdD w A0 ds0 c0) (hw0 : WfD ds0) (h1 : RdD w A1 ds1 c1) (hw1 : WfD ds1) :
    Gives Try.prog 5 #[vdesc (.slice A0 ds0.length c0), vdesc (.slice A1 ds1.length c1)] w (.bool true) := by
  have eb := (Ext_alloc (.cells #[.slice A1 ds1.length c1] 24) (Ext_alloc (.cells #[.slice A0 ds0.length c0] 24) (Ext.refl w)))
  have BX := fun w' (e : Ext ((w.alloc (.cells #[.slice A0 ds0.length c0] 24)).alloc (.cells #[.slice A1 ds1.length c1] 24)) w') => boxed2 e
  have B0 := fun w' e => (BX w' e).1; have B1 := fun w' e => (BX w' e).2.1; clear BX
  have Z0 := Lib.hid (fun left w h h0 h1 => szDescription_c A0 ds0 c0 left w h hw0 h0 h1)
  have T0 := Lib.hid (fun w h hz => toDesc_r A0 ds0 c0 w h hz)
  have Z1 := Lib.hid (fun left w h h0 h1 => szDescription_c A1 ds1 c1 left w h hw1 h0 h1)
  have T1 := Lib.hid (fun w h hz => toDesc_r A1 ds1 c1 w h hz)
  have hz0 := szN_lo (szD ds0) (1048576)
  have hs0 : ¬ szN (szD ds0) (1048576) < 0 → (1048576 : Int) ≤ 1048576 → szD ds0 ≤ 1048576 := fun a b => szN_small a b
  generalize hzz0 : szN (szD ds0) (1048576) = z0 at *
  have HZ0 := Lib.hid hzz0; clear hzz0
  have hz1 := szN_lo (szD ds1) (z0)
  have hs1 : ¬ szN (szD ds1) (z0) < 0 → (z0 : Int) ≤ 1048576 → szD ds1 ≤ 1048576 := fun a b => szN_small a b
  generalize hzz1 : szN (szD ds1) (z0) = z1 at *
  have HZ1 := Lib.hid hzz1; clear hzz1
  have HQ := Lib.hid (rfl : sameF ds0 ds1 = sameF ds0 ds1)
  unfold vdesc at *
  go_enter Try.func5, Try.ntmps5
  have H := Ext.refl ((w.alloc (.cells #[.slice A0 ds0.length c0] 24)).alloc (.cells #[.slice A1 ds1.length c1] 24))
  clear H
  go_wp2_with fail
  refine (Z0.out _ _ (h0.ext eb) (by omega) (by omega)).mono ?_; rintro _ w1 ⟨rfl, s1⟩
  rw [HZ0.out]
  replace B0 := fun w' (e : Ext _ w') => B0 w' (Ext.trans s1 e)
  replace B1 := fun w' (e : Ext _ w') => B1 w' (Ext.trans s1 e)
  replace eb := eb.trans s1; clear s1
  by_cases d0 : z0 < 0
  · go_wp2
    go_ret
    exact ⟨rfl, eb⟩
  have hl0 := hs0 (by omega) (by omega)
  go_wp2_with fail
  refine (Z1.out _ _ (h1.ext eb) (by omega) (by omega)).mono ?_; rintro _ w2 ⟨rfl, s2⟩
  rw [HZ1.out]
  replace B0 := fun w' (e : Ext _ w') => B0 w' (Ext.trans s2 e)
  replace B1 := fun w' (e : Ext _ w') => B1 w' (Ext.trans s2 e)
  replace eb := eb.trans s2; clear s2
  by_cases d1 : z1 < 0
  · go_wp2
    go_ret
    exact ⟨rfl, eb⟩
  have hl1 := hs1 (by omega) (by omega)
  have U0 := Lib.hid (fun w h => T0.out w h hl0); clear T0; have SH0 := Lib.hid (shortD_of hl0)
  have U1 := Lib.hid (fun w h => T1.out w h hl1); clear T1; have SH1 := Lib.hid (shortD_of hl1)
  clear hz0 hs0 hl0 hz1 hs1 hl1
  go_wp2_with fail
  go_region_held3 (fun w' => Ext w2 w') (first | assumption | exact Ext_drew (Ext.refl _) | exact Ext.trans (by assumption) (by assumption)) (first
    | (go_at_call 9; (with_reducible refine (U0.out _ ?_).mono ?_); (exact h0.ext (eb.trans (by assumption))); rintro _ w10 ⟨XA0, Xc0, rfl, r0, s10⟩)
    | (go_at_call 9; (with_reducible refine (U1.out _ ?_).mono ?_); (exact h1.ext (eb.trans (by assumption))); rintro _ w11 ⟨XA1, Xc1, rfl, r1, s11⟩)
    | (go_at_call 14; refine (sSame_c _ _ _ _ _ _ _ (r0.ext s11) r1 SH0.out hw0 SH1.out hw1).mono ?_; rintro _ w3 ⟨rfl, s13⟩))
  have s3 : Ext w2 w3 := by assumption
  clear r0 r1 s10 s11 s13
  replace B0 := fun w' (e : Ext _ w') => B0 w' (Ext.trans s3 e)
  replace B1 := fun w' (e : Ext _ w') => B1 w' (Ext.trans s3 e)
  replace eb := eb.trans s3; clear s3
  go_wp2_with fail
  refine (U0.out _ (h0.ext eb)).mono ?_; rintro _ w4 ⟨PA0, Pc0, rfl, rx0, s4⟩
  replace B0 := fun w' (e : Ext _ w') => B0 w' (Ext.trans s4 e)
  replace B1 := fun w' (e : Ext _ w') => B1 w' (Ext.trans s4 e)
  replace eb := eb.trans s4; clear s4
  have BX0 := fun w' (e : Ext (w4.alloc (.cells #[.slice PA0 ds0.length Pc0] 29)) w') => boxed e
  have t4 := Ext_alloc (.cells #[.slice PA0 ds0.length Pc0] 29) (Ext.refl w4)
  replace B0 := fun w' (e : Ext _ w') => B0 w' (Ext.trans t4 e)
  replace B1 := fun w' (e : Ext _ w') => B1 w' (Ext.trans t4 e)
  replace rx0 := rx0.ext t4
  replace eb := eb.trans t4; clear t4
  go_wp2_with fail
  refine (U1.out _ (h1.ext eb)).mono ?_; rintro _ w5 ⟨PA1, Pc1, rfl, rx1, s5⟩
  replace B0 := fun w' (e : Ext _ w') => B0 w' (Ext.trans s5 e)
  replace B1 := fun w' (e : Ext _ w') => B1 w' (Ext.trans s5 e)
  replace BX0 := fun w' (e : Ext _ w') => BX0 w' (Ext.trans s5 e)
  replace rx0 := rx0.ext s5
  replace eb := eb.trans s5; clear s5
  have BX1 := fun w' (e : Ext (w5.alloc (.cells #[.slice PA1 ds1.length Pc1] 29)) w') => boxed e
  have t5 := Ext_alloc (.cells #[.slice PA1 ds1.length Pc1] 29) (Ext.refl w5)
  replace B0 := fun w' (e : Ext _ w') => B0 w' (Ext.trans t5 e)
  replace B1 := fun w' (e : Ext _ w') => B1 w' (Ext.trans t5 e)
  replace BX0 := fun w' (e : Ext _ w') => BX0 w' (Ext.trans t5 e)
  replace rx0 := rx0.ext t5
  replace rx1 := rx1.ext t5
  replace eb := eb.trans t5; clear t5
  go_wp2_with fail
  refine (iSame_c _ _ _ _ _ _ _ rx0 rx1 SH0.out hw0 SH1.out hw1).mono ?_; rintro _ w6 ⟨rfl, s6⟩
  replace B0 := fun w' (e : Ext _ w') => B0 w' (Ext.trans s6 e)
  replace B1 := fun w' (e : Ext _ w') => B1 w' (Ext.trans s6 e)
  replace BX0 := fun w' (e : Ext _ w') => BX0 w' (Ext.trans s6 e)
  replace BX1 := fun w' (e : Ext _ w') => BX1 w' (Ext.trans s6 e)
  replace rx0 := rx0.ext s6
  replace rx1 := rx1.ext s6
  replace eb := eb.trans s6; clear s6
  clear HQ
  generalize hRR : (sameF ds0 ds1) = R at *
  have HRE := Lib.hid hRR; clear hRR
  have hR : (R != R) = false := by simp
  have HE0 : Hid (eqD ds0 ds0 = true) := eqD_refl ds0
  go_wp2_with fail
  go_region_held3 (fun w' => Ext w6 w') (first | assumption | exact Ext_drew (Ext.refl _) | exact Ext.trans (by assumption) (by assumption)) (first
    | (go_at_call 9; refine (U0.out _ (h0.ext (eb.trans (by assumption)))).mono ?_; rintro _ w10 ⟨XA0, Xc0, rfl, r0, s10⟩)
    | (go_at_call 11; refine (eqDescription_c _ _ _ _ _ _ _ (rx0.ext (by assumption)) r0 SH0.out SH0.out).mono ?_; rintro _ w7 ⟨rfl, s17⟩; rw [HE0.out]))
  have s7 : Ext w6 w7 := by assumption
  clear r0 s10 s17
  replace B0 := fun w' (e : Ext _ w') => B0 w' (Ext.trans s7 e)
  replace B1 := fun w' (e : Ext _ w') => B1 w' (Ext.trans s7 e)
  replace BX0 := fun w' (e : Ext _ w') => BX0 w' (Ext.trans s7 e)
  replace BX1 := fun w' (e : Ext _ w') => BX1 w' (Ext.trans s7 e)
  replace rx0 := rx0.ext s7
  replace rx1 := rx1.ext s7
  replace eb := eb.trans s7; clear s7
  have HE1 : Hid (eqD ds1 ds1 = true) := eqD_refl ds1
  go_wp2_with fail
  go_region_held3 (fun w' => Ext w7 w') (first | assumption | exact Ext_drew (Ext.refl _) | exact Ext.trans (by assumption) (by assumption)) (first
    | (go_at_call 9; refine (U1.out _ (h1.ext (eb.trans (by assumption)))).mono ?_; rintro _ w11 ⟨XA1, Xc1, rfl, r1, s11⟩)
    | (go_at_call 11; refine (eqDescription_c _ _ _ _ _ _ _ (rx1.ext (by assumption)) r1 SH1.out SH1.out).mono ?_; rintro _ w8 ⟨rfl, s18⟩; rw [HE1.out]))
  have s8 : Ext w7 w8 := by assumption
  clear r1 s11 s18
  replace B0 := fun w' (e : Ext _ w') => B0 w' (Ext.trans s8 e)
  replace B1 := fun w' (e : Ext _ w') => B1 w' (Ext.trans s8 e)
  replace BX0 := fun w' (e : Ext _ w') => BX0 w' (Ext.trans s8 e)
  replace BX1 := fun w' (e : Ext _ w') => BX1 w' (Ext.trans s8 e)
  replace rx0 := rx0.ext s8
  replace rx1 := rx1.ext s8
  replace eb := eb.trans s8; clear s8
  go_wp2
  go_ret
  exact ⟨rfl, eb⟩
end Go.Proofs.Ytpefbcnfhngggaa
