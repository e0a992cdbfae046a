/- The walk of the law on IsValidRegistry. -/
import Derived.Test.YthkaminpfacbpaaDescR
import Derived.Test.YthkaminpfacbpaaValid10
namespace Go.Proofs.Ythkaminpfacbpaa
open Go.RowKit Go.Sort

set_option maxRecDepth 100000 in
set_option maxHeartbeats 4000000 in
theorem lawIsValidRegistry_c (A0 : Option Addr) (ds0 : List (List DRule)) (c0 : Nat) (w : World) (h0 : RdG w A0 ds0 c0) (hw0 : WfG ds0) :
    Gives Try.prog 8 #[vdesc (.slice A0 ds0.length c0)] w (.bool true) := by
  have eb := (Ext_alloc (.cells #[.slice A0 ds0.length c0] 24) (Ext.refl w))
  have B0 := fun w' (e : Ext (w.alloc (.cells #[.slice A0 ds0.length c0] 24)) w') => boxed e 0
  simp only [List.getElem?_toArray, List.getElem?_cons_zero] at B0
  have Z0 := Lib.hid (fun left w h h0 h1 => szRegistry_c A0 ds0 c0 left w h hw0 h0 h1)
  have T0 := Lib.hid (fun w h hz => toReg_r A0 ds0 c0 w h hz)
  have hz0 := szN_lo (szG ds0) (1048576)
  have hs0 : ¬ szN (szG ds0) (1048576) < 0 → (1048576 : Int) ≤ 1048576 → szG ds0 ≤ 1048576 := fun a b => szN_small a b
  generalize hzz0 : szN (szG ds0) (1048576) = z0 at *
  have HZ0 := Lib.hid hzz0; clear hzz0
  have HQ := Lib.hid (rfl : regOk ds0 = regOk ds0)
  unfold vdesc at *
  go_enter Try.func8, Try.ntmps8
  have H := Ext.refl (w.alloc (.cells #[.slice A0 ds0.length c0] 24))
  clear H
  go_wp2_with fail
  refine (Z0.out _ _ (h0.ext eb) (by omega) (by omega)).mono ?_; rintro _ w1 ⟨rfl, s1⟩
  rw [HZ0.out]
  replace B0 := fun w' (e : Ext _ w') => B0 w' (Ext.trans s1 e)
  replace eb := eb.trans s1; clear s1
  by_cases d0 : z0 < 0
  · go_wp2
    go_ret
    exact ⟨rfl, eb⟩
  have hl0 := hs0 (by omega) (by omega)
  have U0 := Lib.hid (fun w h => T0.out w h hl0); clear T0; have SH0 := Lib.hid (shortG_of hl0)
  clear hz0 hs0 hl0
  go_wp2_with fail
  refine (U0.out _ (h0.ext eb)).mono ?_; rintro _ w2 ⟨X0, y0, rfl, r0, s2⟩
  replace B0 := fun w' (e : Ext _ w') => B0 w' (Ext.trans s2 e)
  replace eb := eb.trans s2; clear s2
  go_wp2_with fail
  refine (sValidReg_c _ _ _ _ r0 SH0.out hw0).mono ?_; rintro _ w3 ⟨rfl, s3⟩
  clear r0
  replace B0 := fun w' (e : Ext _ w') => B0 w' (Ext.trans s3 e)
  replace eb := eb.trans s3; clear s3
  go_wp2_with fail
  refine (U0.out _ (h0.ext eb)).mono ?_; rintro _ w4 ⟨P0, p0, rfl, rx0, s4⟩
  replace B0 := fun w' (e : Ext _ w') => B0 w' (Ext.trans s4 e)
  replace eb := eb.trans s4; clear s4
  have BX0 := fun w' (e : Ext (w4.alloc (.cells #[.slice P0 ds0.length p0] 29)) w') => boxed e 0
  simp only [List.getElem?_toArray, List.getElem?_cons_zero] at BX0
  have t4 := Ext_alloc (.cells #[.slice P0 ds0.length p0] 29) (Ext.refl w4)
  replace B0 := fun w' (e : Ext _ w') => B0 w' (Ext.trans t4 e)
  replace rx0 := rx0.ext t4
  replace eb := eb.trans t4; clear t4
  go_wp2_with fail
  refine (iValidReg_c _ _ _ _ rx0 SH0.out hw0).mono ?_; rintro _ w5 ⟨rfl, s5⟩
  replace B0 := fun w' (e : Ext _ w') => B0 w' (Ext.trans s5 e)
  replace BX0 := fun w' (e : Ext _ w') => BX0 w' (Ext.trans s5 e)
  replace rx0 := rx0.ext s5
  replace eb := eb.trans s5; clear s5
  clear HQ
  generalize (regOk ds0) = R at *
  have hR : (R != R) = false := by simp
  have HE0 : Hid (eqG ds0 ds0 = true) := eqG_refl ds0
  go_wp2_with fail
  go_region_held3 (fun w' => Ext w5 w') (first | assumption | exact Ext_drew (Ext.refl _) | exact Ext.trans (by assumption) (by assumption)) (first
    | (go_at_call 19; refine (U0.out _ (h0.ext (eb.trans (by assumption)))).mono ?_; rintro _ w10 ⟨X0, y0, rfl, r0, s10⟩)
    | (go_at_call 21; refine (eqRegistry_c _ _ _ _ _ _ _ (rx0.ext (by assumption)) r0 SH0.out SH0.out).mono ?_; rintro _ w6 ⟨rfl, s16⟩; rw [HE0.out]))
  have s6 : Ext w5 w6 := by assumption
  clear r0 s10 s16
  replace B0 := fun w' (e : Ext _ w') => B0 w' (Ext.trans s6 e)
  replace BX0 := fun w' (e : Ext _ w') => BX0 w' (Ext.trans s6 e)
  replace rx0 := rx0.ext s6
  replace eb := eb.trans s6; clear s6
  go_wp2
  go_ret
  exact ⟨rfl, eb⟩
end Go.Proofs.Ythkaminpfacbpaa
