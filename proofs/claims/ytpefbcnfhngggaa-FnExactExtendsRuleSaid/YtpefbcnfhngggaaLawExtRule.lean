/- The walk of the law on ExtendsRule. -/
import Derived.Test.YtpefbcnfhngggaaExt6
import Derived.Test.YtpefbcnfhngggaaDescR
import Derived.Test.YtpefbcnfhngggaaDescEq5
namespace Go.Proofs.Ytpefbcnfhngggaa
open Go.RowKit Go.Sort

set_option maxRecDepth 100000 in
set_option maxHeartbeats 4000000 in
theorem lawExtendsRule_c (A0 : Option Addr) (ds0 : List DRule) (c0 : Nat) (n1 : Int) (A2 : Option Addr) (ds2 : List DRule) (c2 : Nat) (n3 : Int) (w : World) (h0 : RdD w A0 ds0 c0) (hw0 : WfD ds0) (hn1 : (Lit.int .i64 n1).wf = true) (h2 : RdD w A2 ds2 c2) (hw2 : WfD ds2) (hn3 : (Lit.int .i64 n3).wf = true) :
    Gives Try.prog 3 #[vdesc (.slice A0 ds0.length c0), .int .i64 n1, vdesc (.slice A2 ds2.length c2), .int .i64 n3] w (.bool true) := by
  have eb := (Ext_alloc (.cells #[.slice A2 ds2.length c2] 24) (Ext_alloc (.cells #[.slice A0 ds0.length c0] 24) (Ext.refl w)))
  have BX := fun w' (e : Ext ((w.alloc (.cells #[.slice A0 ds0.length c0] 24)).alloc (.cells #[.slice A2 ds2.length c2] 24)) w') => boxed2 e
  have B0 := fun w' e => (BX w' e).1; have B1 := fun w' e => (BX w' e).2.1; clear BX
  have Z0 := Lib.hid (fun left w h h0 h1 => szDescription_c A0 ds0 c0 left w h hw0 h0 h1)
  have T0 := Lib.hid (fun w h hz => toDesc_r A0 ds0 c0 w h hz)
  have Z2 := Lib.hid (fun left w h h0 h1 => szDescription_c A2 ds2 c2 left w h hw2 h0 h1)
  have T2 := Lib.hid (fun w h hz => toDesc_r A2 ds2 c2 w h hz)
  have hz0 := szN_lo (szD ds0) (1048576)
  have hs0 : ¬ szN (szD ds0) (1048576) < 0 → (1048576 : Int) ≤ 1048576 → szD ds0 ≤ 1048576 := fun a b => szN_small a b
  generalize hzz0 : szN (szD ds0) (1048576) = z0 at *
  have HZ0 := Lib.hid hzz0; clear hzz0
  have hz2 := szN_lo (szD ds2) (z0)
  have hs2 : ¬ szN (szD ds2) (z0) < 0 → (z0 : Int) ≤ 1048576 → szD ds2 ≤ 1048576 := fun a b => szN_small a b
  generalize hzz2 : szN (szD ds2) (z0) = z2 at *
  have HZ2 := Lib.hid hzz2; clear hzz2
  have HQ := Lib.hid (rfl : extRule ds0 ds2 n1 n3 = extRule ds0 ds2 n1 n3)
  unfold vdesc at *
  go_enter Try.func3, Try.ntmps3
  have H := Ext.refl ((w.alloc (.cells #[.slice A0 ds0.length c0] 24)).alloc (.cells #[.slice A2 ds2.length c2] 24))
  clear H
  go_wp2_with fail
  refine (Z0.out _ _ (h0.ext eb) (by omega) (by omega)).mono ?_; rintro _ w1 ⟨rfl, s1⟩
  rw [HZ0.out]
  replace B0 := fun w' (e : Ext _ w') => B0 w' (Ext.trans s1 e)
  replace B1 := fun w' (e : Ext _ w') => B1 w' (Ext.trans s1 e)
  replace eb := eb.trans s1; clear s1
  by_cases d0 : z0 < 0
  · go_wp2
    go_ret
    exact ⟨rfl, eb⟩
  have hl0 := hs0 (by omega) (by omega)
  go_wp2_with fail
  refine (Z2.out _ _ (h2.ext eb) (by omega) (by omega)).mono ?_; rintro _ w2 ⟨rfl, s2⟩
  rw [HZ2.out]
  replace B0 := fun w' (e : Ext _ w') => B0 w' (Ext.trans s2 e)
  replace B1 := fun w' (e : Ext _ w') => B1 w' (Ext.trans s2 e)
  replace eb := eb.trans s2; clear s2
  by_cases d2 : z2 < 0
  · go_wp2
    go_ret
    exact ⟨rfl, eb⟩
  have hl2 := hs2 (by omega) (by omega)
  have U0 := Lib.hid (fun w h => T0.out w h hl0); clear T0; have SH0 := Lib.hid (shortD_of hl0)
  have U2 := Lib.hid (fun w h => T2.out w h hl2); clear T2; have SH2 := Lib.hid (shortD_of hl2)
  clear hz0 hs0 hl0 hz2 hs2 hl2
  go_wp2_with fail
  go_region_held3 (fun w' => Ext w2 w') (first | assumption | exact Ext_drew (Ext.refl _) | exact Ext.trans (by assumption) (by assumption)) (first
    | (go_at_call 9; (with_reducible refine (U0.out _ ?_).mono ?_); (exact h0.ext (eb.trans (by assumption))); rintro _ w10 ⟨XA0, Xc0, rfl, r0, s10⟩)
    | (go_at_call 9; (with_reducible refine (U2.out _ ?_).mono ?_); (exact h2.ext (eb.trans (by assumption))); rintro _ w12 ⟨XA2, Xc2, rfl, r2, s12⟩)
    | (go_at_call 8; refine (sExtRule_c _ _ _ _ _ _ n1 n3 _ (r0.ext s12) r2 SH0.out hw0 SH2.out hw2).mono ?_; rintro _ w3 ⟨rfl, s13⟩))
  have s3 : Ext w2 w3 := by assumption
  clear r0 r2 s10 s12 s13
  replace B0 := fun w' (e : Ext _ w') => B0 w' (Ext.trans s3 e)
  replace B1 := fun w' (e : Ext _ w') => B1 w' (Ext.trans s3 e)
  replace eb := eb.trans s3; clear s3
  go_wp2_with fail
  refine (U0.out _ (h0.ext eb)).mono ?_; rintro _ w4 ⟨PA0, Pc0, rfl, rx0, s4⟩
  replace B0 := fun w' (e : Ext _ w') => B0 w' (Ext.trans s4 e)
  replace B1 := fun w' (e : Ext _ w') => B1 w' (Ext.trans s4 e)
  replace eb := eb.trans s4; clear s4
  have BX0 := fun w' (e : Ext (w4.alloc (.cells #[.slice PA0 ds0.length Pc0] 29)) w') => boxed e
  have t4 := Ext_alloc (.cells #[.slice PA0 ds0.length Pc0] 29) (Ext.refl w4)
  replace B0 := fun w' (e : Ext _ w') => B0 w' (Ext.trans t4 e)
  replace B1 := fun w' (e : Ext _ w') => B1 w' (Ext.trans t4 e)
  replace rx0 := rx0.ext t4
  replace eb := eb.trans t4; clear t4
  go_wp2_with fail
  refine (U2.out _ (h2.ext eb)).mono ?_; rintro _ w5 ⟨PA2, Pc2, rfl, rx2, s5⟩
  replace B0 := fun w' (e : Ext _ w') => B0 w' (Ext.trans s5 e)
  replace B1 := fun w' (e : Ext _ w') => B1 w' (Ext.trans s5 e)
  replace BX0 := fun w' (e : Ext _ w') => BX0 w' (Ext.trans s5 e)
  replace rx0 := rx0.ext s5
  replace eb := eb.trans s5; clear s5
  have BX2 := fun w' (e : Ext (w5.alloc (.cells #[.slice PA2 ds2.length Pc2] 29)) w') => boxed e
  have t5 := Ext_alloc (.cells #[.slice PA2 ds2.length Pc2] 29) (Ext.refl w5)
  replace B0 := fun w' (e : Ext _ w') => B0 w' (Ext.trans t5 e)
  replace B1 := fun w' (e : Ext _ w') => B1 w' (Ext.trans t5 e)
  replace BX0 := fun w' (e : Ext _ w') => BX0 w' (Ext.trans t5 e)
  replace rx0 := rx0.ext t5
  replace rx2 := rx2.ext t5
  replace eb := eb.trans t5; clear t5
  go_wp2_with fail
  refine (iExtRule_c _ _ _ _ _ _ n1 n3 _ rx0 rx2 SH0.out hw0 SH2.out hw2).mono ?_; rintro _ w6 ⟨rfl, s6⟩
  replace B0 := fun w' (e : Ext _ w') => B0 w' (Ext.trans s6 e)
  replace B1 := fun w' (e : Ext _ w') => B1 w' (Ext.trans s6 e)
  replace BX0 := fun w' (e : Ext _ w') => BX0 w' (Ext.trans s6 e)
  replace BX2 := fun w' (e : Ext _ w') => BX2 w' (Ext.trans s6 e)
  replace rx0 := rx0.ext s6
  replace rx2 := rx2.ext s6
  replace eb := eb.trans s6; clear s6
  clear HQ
  generalize hRR : (extRule ds0 ds2 n1 n3) = R at *
  have HRE := Lib.hid hRR; clear hRR
  have hR : (R != R) = false := by simp
  have HE0 : Hid (eqD ds0 ds0 = true) := eqD_refl ds0
  go_wp2_with fail
  go_region_held3 (fun w' => Ext w6 w') (first | assumption | exact Ext_drew (Ext.refl _) | exact Ext.trans (by assumption) (by assumption)) (first
    | (go_at_call 9; refine (U0.out _ (h0.ext (eb.trans (by assumption)))).mono ?_; rintro _ w10 ⟨XA0, Xc0, rfl, r0, s10⟩)
    | (go_at_call 11; refine (eqDescription_c _ _ _ _ _ _ _ (rx0.ext (by assumption)) r0 SH0.out SH0.out).mono ?_; rintro _ w7 ⟨rfl, s17⟩; rw [HE0.out]))
  have s7 : Ext w6 w7 := by assumption
  clear r0 s10 s17
  replace B0 := fun w' (e : Ext _ w') => B0 w' (Ext.trans s7 e)
  replace B1 := fun w' (e : Ext _ w') => B1 w' (Ext.trans s7 e)
  replace BX0 := fun w' (e : Ext _ w') => BX0 w' (Ext.trans s7 e)
  replace BX2 := fun w' (e : Ext _ w') => BX2 w' (Ext.trans s7 e)
  replace rx0 := rx0.ext s7
  replace rx2 := rx2.ext s7
  replace eb := eb.trans s7; clear s7
  have HE2 : Hid (eqD ds2 ds2 = true) := eqD_refl ds2
  go_wp2_with fail
  go_region_held3 (fun w' => Ext w7 w') (first | assumption | exact Ext_drew (Ext.refl _) | exact Ext.trans (by assumption) (by assumption)) (first
    | (go_at_call 9; refine (U2.out _ (h2.ext (eb.trans (by assumption)))).mono ?_; rintro _ w12 ⟨XA2, Xc2, rfl, r2, s12⟩)
    | (go_at_call 11; refine (eqDescription_c _ _ _ _ _ _ _ (rx2.ext (by assumption)) r2 SH2.out SH2.out).mono ?_; rintro _ w8 ⟨rfl, s18⟩; rw [HE2.out]))
  have s8 : Ext w7 w8 := by assumption
  clear r2 s12 s18
  replace B0 := fun w' (e : Ext _ w') => B0 w' (Ext.trans s8 e)
  replace B1 := fun w' (e : Ext _ w') => B1 w' (Ext.trans s8 e)
  replace BX0 := fun w' (e : Ext _ w') => BX0 w' (Ext.trans s8 e)
  replace BX2 := fun w' (e : Ext _ w') => BX2 w' (Ext.trans s8 e)
  replace rx0 := rx0.ext s8
  replace rx2 := rx2.ext s8
  replace eb := eb.trans s8; clear s8
  go_wp2
  go_ret
  exact ⟨rfl, eb⟩
end Go.Proofs.Ytpefbcnfhngggaa
