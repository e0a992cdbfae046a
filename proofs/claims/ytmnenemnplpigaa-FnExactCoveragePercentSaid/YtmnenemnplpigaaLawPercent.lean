/- The walk of the law on CoveragePercent. -/
import Derived.Test.YtmnenemnplpigaaCover4
import Derived.Test.YtmnenemnplpigaaHeldStr
import Derived.Test.YtmnenemnplpigaaDescEq5
namespace Go.Proofs.Ytmnenemnplpigaa
open Go.RowKit Go.Sort

set_option maxRecDepth 100000 in
set_option maxHeartbeats 8000000 in
theorem lawCoveragePercent_c (A0 : Option Addr) (ds0 : List DRule) (c0 : Nat) (A1 : Option Addr) (l1 : List Int) (c1 : Nat) (w : World) (h0 : RdD w A0 ds0 c0) (hw0 : WfD ds0) (h1 : Rd0 vint w A1 l1 c1) (hw1 : ∀ x ∈ l1, (Lit.int .i64 x).wf = true) :
    Gives Try.prog 3 #[vdesc (.slice A0 ds0.length c0), .slice A1 l1.length c1] w (.bool true) := by
  clear hw1
  have hl1 := h1.len
  have eb := (Ext_alloc (.cells #[.slice A0 ds0.length c0] 24) (Ext.refl w))
  have B0 := fun w' (e : Ext (w.alloc (.cells #[.slice A0 ds0.length c0] 24)) w') => boxed e
  by_cases hL : l1.length ≤ 1048576
  case neg =>
    have hd1 : decide ((1048576 : Int) < (l1.length : Int)) = true := decide_eq_true (by omega)
    unfold vdesc
    go_enter Try.func3, Try.ntmps3
    go_wp2
    go_ret
    exact ⟨rfl, eb⟩
  have Z0 := Lib.hid (fun left w h h0 h1 => szDescription_c A0 ds0 c0 left w h hw0 h0 h1)
  have T0 := Lib.hid (fun w h hz => toDesc_r A0 ds0 c0 w h hz); have TO0 := Lib.hid (fun w h hz => toDesc_o A0 ds0 c0 w h hz)
  have TI := Lib.hid (fun w h => toIntS_c A1 l1 c1 w h hL)
  have hz0 := szN_lo (szD ds0) (1048576)
  have hs0 : ¬ szN (szD ds0) (1048576) < 0 → (1048576 : Int) ≤ 1048576 → szD ds0 ≤ 1048576 := fun a b => szN_small a b
  generalize hzz0 : szN (szD ds0) (1048576) = z0 at *
  have HZ0 := Lib.hid hzz0; clear hzz0
  have hd1 : decide ((1048576 : Int) < (l1.length : Int)) = false := decide_eq_false (by omega)
  unfold vdesc at *
  go_enter Try.func3, Try.ntmps3
  go_wp2_with fail
  refine (Z0.out _ _ (h0.ext eb) (by omega) (by omega)).mono ?_; rintro _ wz ⟨rfl, sz⟩
  rw [HZ0.out]
  replace B0 := fun w' (e : Ext _ w') => B0 w' (Ext.trans sz e)
  replace eb := eb.trans sz; clear sz
  by_cases d0 : z0 < 0
  · go_wp2
    go_ret
    exact ⟨rfl, eb⟩
  have hl0 := hs0 (by omega) (by omega)
  have U0 := Lib.hid (fun w h => T0.out w h hl0); clear T0; have UO0 := Lib.hid (fun w h => TO0.out w h hl0); clear TO0; have SH0 := Lib.hid hl0; have SD0 := Lib.hid (shortD_of hl0)
  clear hz0 hs0
  go_wp2_with fail
  refine (U0.out _ (h0.ext eb)).mono ?_; rintro _ wsa ⟨XAs, Xcs, rfl, rs0, ssa⟩
  replace B0 := fun w' (e : Ext _ w') => B0 w' (Ext.trans ssa e)
  replace eb := eb.trans ssa; clear ssa
  go_wp2_with fail
  refine (TI.out _ (h1.ext eb)).mono ?_; rintro _ wsb ⟨vsb, rfl, osb, ssb⟩; obtain ⟨XBs, Xds, rfl, rs1⟩ := OwnL.rd osb (by omega); clear osb
  replace B0 := fun w' (e : Ext _ w') => B0 w' (Ext.trans ssb e)
  replace rs0 := rs0.ext ssb
  replace eb := eb.trans ssb; clear ssb
  go_wp2_with fail
  refine (sPercent_c _ _ _ _ _ _ _ rs0 SD0.out hw0 rs1).mono ?_; rintro _ ws ⟨rfl, ss⟩
  clear rs0 rs1
  replace B0 := fun w' (e : Ext _ w') => B0 w' (Ext.trans ss e)
  replace eb := eb.trans ss; clear ss
  go_wp2_with fail
  refine (U0.out _ (h0.ext eb)).mono ?_; rintro _ wx ⟨PA0, Pc0, rfl, rx0, sx⟩
  replace B0 := fun w' (e : Ext _ w') => B0 w' (Ext.trans sx e)
  replace eb := eb.trans sx; clear sx
  have BX0 := fun w' (e : Ext (wx.alloc (.cells #[.slice PA0 ds0.length Pc0] 30)) w') => boxed e
  have tx := Ext_alloc (.cells #[.slice PA0 ds0.length Pc0] 30) (Ext.refl wx)
  replace B0 := fun w' (e : Ext _ w') => B0 w' (Ext.trans tx e)
  replace rx0 := rx0.ext tx
  replace eb := eb.trans tx; clear tx
  go_wp2_with fail
  refine (TI.out _ (h1.ext eb)).mono ?_; rintro _ wy ⟨vy, rfl, oy, sy⟩; obtain ⟨PA1, Pc1, rfl, ry⟩ := OwnL.rd oy (by omega); clear oy
  replace B0 := fun w' (e : Ext _ w') => B0 w' (Ext.trans sy e)
  replace BX0 := fun w' (e : Ext _ w') => BX0 w' (Ext.trans sy e)
  replace rx0 := rx0.ext sy
  replace eb := eb.trans sy; clear sy
  go_wp2_with fail
  refine (iPercent_c _ _ _ _ _ _ _ rx0 SD0.out hw0 ry).mono ?_; rintro _ wg ⟨rfl, sg⟩
  replace B0 := fun w' (e : Ext _ w') => B0 w' (Ext.trans sg e)
  replace BX0 := fun w' (e : Ext _ w') => BX0 w' (Ext.trans sg e)
  replace rx0 := rx0.ext sg
  replace ry := ry.ext sg
  replace eb := eb.trans sg; clear sg
  generalize (percent ds0 l1) = R at *
  have hR : (R != R) = false := by simp
  have HE0 : Hid (eqD ds0 ds0 = true) := eqD_refl ds0
  go_wp2_with fail
  go_region_held3 (fun w' => Ext wg w') (first | assumption | exact Ext_drew (Ext.refl _) | exact Ext.trans (by assumption) (by assumption)) (first
    | (go_at_call 16; refine (U0.out _ (h0.ext (eb.trans (by assumption)))).mono ?_; rintro _ w10 ⟨XA0, Xc0, rfl, r0, s10⟩)
    | (go_at_call 19; refine (eqDescription_c _ _ _ _ _ _ _ (rx0.ext (by assumption)) r0 SD0.out SD0.out).mono ?_; rintro _ wf ⟨rfl, s20⟩; rw [HE0.out]))
  have sf : Ext wg wf := by assumption
  clear r0 s10 s20
  replace B0 := fun w' (e : Ext _ w') => B0 w' (Ext.trans sf e)
  replace BX0 := fun w' (e : Ext _ w') => BX0 w' (Ext.trans sf e)
  replace rx0 := rx0.ext sf
  replace ry := ry.ext sf
  replace eb := eb.trans sf; clear sf
  go_wp2_with fail
  refine (TI.out _ (h1.ext eb)).mono ?_; rintro _ wh ⟨vh, rfl, oh, sh⟩; obtain ⟨QA1, Qc1, rfl, rq⟩ := OwnL.rd oh (by omega); clear oh
  replace B0 := fun w' (e : Ext _ w') => B0 w' (Ext.trans sh e)
  replace BX0 := fun w' (e : Ext _ w') => BX0 w' (Ext.trans sh e)
  replace rx0 := rx0.ext sh
  replace ry := ry.ext sh
  replace eb := eb.trans sh; clear sh
  have HEI : Hid ((l1 == l1) = true) := by show _ = _; simp
  go_wp2_with fail
  refine (eqIntS_c _ _ _ _ _ _ _ ry rq).mono ?_; rintro _ wi ⟨rfl, si⟩; rw [HEI.out]
  clear rq
  replace B0 := fun w' (e : Ext _ w') => B0 w' (Ext.trans si e)
  replace BX0 := fun w' (e : Ext _ w') => BX0 w' (Ext.trans si e)
  replace rx0 := rx0.ext si
  replace ry := ry.ext si
  replace eb := eb.trans si; clear si
  go_wp2
  go_ret
  exact ⟨rfl, eb⟩
end Go.Proofs.Ytmnenemnplpigaa
