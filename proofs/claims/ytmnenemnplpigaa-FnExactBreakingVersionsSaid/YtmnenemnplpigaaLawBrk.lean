/- The walk of the law on BreakingVersions. -/
import Derived.Test.YtmnenemnplpigaaBrk
import Derived.Test.YtmnenemnplpigaaMarkReg
import Derived.Test.YtmnenemnplpigaaDescEq5
namespace Go.Proofs.Ytmnenemnplpigaa
open Go.RowKit Go.Sort

set_option maxRecDepth 100000 in
set_option maxHeartbeats 8000000 in
theorem lawBreakingVersions_c (A0 : Option Addr) (ds0 : List (List DRule)) (c0 : Nat) (w : World) (h0 : RdG w A0 ds0 c0) (hw0 : WfG ds0) :
    Gives Try.prog 11 #[vdesc (.slice A0 ds0.length c0)] w (.bool true) := by
  have eb := (Ext_alloc (.cells #[.slice A0 ds0.length c0] 51) (Ext.refl w))
  have B0 := fun w' (e : Ext (w.alloc (.cells #[.slice A0 ds0.length c0] 51)) w') => boxed e
  have Z0 := Lib.hid (fun left w h h0 h1 => szRegistry_c A0 ds0 c0 left w h hw0 h0 h1)
  have T0 := Lib.hid (fun w h hz => toReg_r A0 ds0 c0 w h hz); have TO0 := Lib.hid (fun w h hz => toReg_o A0 ds0 c0 w h hz)
  have hz0 := szN_lo (szG ds0) (1048576)
  have hs0 : ¬ szN (szG ds0) (1048576) < 0 → (1048576 : Int) ≤ 1048576 → szG ds0 ≤ 1048576 := fun a b => szN_small a b
  generalize hzz0 : szN (szG ds0) (1048576) = z0 at *
  have HZ0 := Lib.hid hzz0; clear hzz0
  unfold vdesc at *
  go_enter Try.func11, Try.ntmps11
  go_wp2_with fail
  refine (Z0.out _ _ (h0.ext eb) (by omega) (by omega)).mono ?_; rintro _ wz ⟨rfl, sz⟩
  rw [HZ0.out]
  replace B0 := fun w' (e : Ext _ w') => B0 w' (Ext.trans sz e)
  replace eb := eb.trans sz; clear sz
  by_cases d0 : z0 < 0
  · go_wp2
    go_ret
    exact ⟨rfl, eb⟩
  have hl0 := hs0 (by omega) (by omega)
  have U0 := Lib.hid (fun w h => T0.out w h hl0); clear T0; have UO0 := Lib.hid (fun w h => TO0.out w h hl0); clear TO0; have SH0 := Lib.hid hl0; have SD0 := Lib.hid (shortG_of hl0)
  have LR : (breaking ds0).length ≤ 1048576 := breaking_len hl0
  have HLN : Hid (ds0.length ≤ 1048576) := by show _ ≤ _; unfold szG at hl0; omega
  clear hz0 hs0 hl0
  go_wp2_with fail
  refine (U0.out _ (h0.ext eb)).mono ?_; rintro _ wsa ⟨XAs, Xcs, rfl, rs0, ssa⟩
  replace B0 := fun w' (e : Ext _ w') => B0 w' (Ext.trans ssa e)
  replace eb := eb.trans ssa; clear ssa
  go_wp2_with fail
  refine (sBrk_c _ _ _ _ rs0 SD0.out hw0 HLN.out).mono ?_; rintro _ ws ⟨vs, rfl, os, ss⟩; obtain ⟨As, cs, rfl, qs⟩ := OwnL.rd os (by omega); clear os
  clear rs0
  replace B0 := fun w' (e : Ext _ w') => B0 w' (Ext.trans ss e)
  replace eb := eb.trans ss; clear ss
  have EB := Lib.hid eb; have QS := Lib.hid qs; have CB0 := Lib.hid B0
  have E0 := Ext.refl ws
  go_wp2_with fail
  refine (UO0.out _ (h0.ext eb)).mono ?_; rintro _ wx ⟨PA0, Pc0, ps0, rfl, rx0, hp0, dm0, sx⟩
  have hlo0 := Lib.hid E0.size; have hhi0 := Lib.hid sx.size; have hp0 := Lib.hid hp0
  replace B0 := fun w' (e : Ext _ w') => B0 w' (Ext.trans sx e)
  replace qs := qs.ext sx
  replace eb := eb.trans sx; replace E0 := E0.trans sx; clear sx
  have BX0 := fun w' (e : Ext (wx.alloc (.cells #[.slice PA0 ds0.length Pc0] 55)) w') => boxed e
  have tx := Ext_alloc (.cells #[.slice PA0 ds0.length Pc0] 55) (Ext.refl wx)
  have bx0 := Box.new wx #[.slice PA0 ds0.length Pc0] 55
  replace dm0 := dm0.ext tx
  have hal0 : (wx.alloc (.cells #[.slice PA0 ds0.length Pc0] 55)).heap.size = wx.heap.size + 1 := by simp
  have hal0 := Lib.hid hal0
  replace B0 := fun w' (e : Ext _ w') => B0 w' (Ext.trans tx e)
  replace qs := qs.ext tx
  replace rx0 := rx0.ext tx
  replace eb := eb.trans tx; replace E0 := E0.trans tx; clear tx
  go_wp2_with fail
  refine (iBrk_c _ _ _ _ rx0 SD0.out hw0 HLN.out).mono ?_; rintro _ wg ⟨vg, rfl, og, sg⟩; obtain ⟨Ag, cg, rfl, qg⟩ := OwnL.rd og (by omega)
  replace dm0 := dm0.ext sg
  replace bx0 := bx0.ext sg
  replace B0 := fun w' (e : Ext _ w') => B0 w' (Ext.trans sg e)
  replace BX0 := fun w' (e : Ext _ w') => BX0 w' (Ext.trans sg e)
  replace qs := qs.ext sg
  replace rx0 := rx0.ext sg
  replace eb := eb.trans sg; replace E0 := E0.trans sg; clear sg
  have HRR : Hid (((breaking ds0) == (breaking ds0)) = true) := by show _ = _; simp
  generalize hRR : (breaking ds0) = R at *
  have HRE := Lib.hid hRR; clear hRR
  go_wp2_with fail
  refine (eqIntS_c _ _ _ _ _ _ _ qg qs).mono ?_; rintro _ we ⟨rfl, se⟩; rw [HRR.out]
  replace dm0 := dm0.ext se
  replace bx0 := bx0.ext se
  replace og := og.ext se
  replace B0 := fun w' (e : Ext _ w') => B0 w' (Ext.trans se e)
  replace BX0 := fun w' (e : Ext _ w') => BX0 w' (Ext.trans se e)
  replace qs := qs.ext se
  replace rx0 := rx0.ext se
  replace qg := qg.ext se
  replace eb := eb.trans se; replace E0 := E0.trans se; clear se
  have HE0 : Hid (eqG ds0 ds0 = true) := eqG_refl ds0
  go_wp2_with fail
  go_region_held3 (fun w' => Ext we w') (first | assumption | exact Ext_drew (Ext.refl _) | exact Ext.trans (by assumption) (by assumption)) (first
    | (go_at_call 41; refine (U0.out _ (h0.ext (eb.trans (by assumption)))).mono ?_; rintro _ w10 ⟨XA0, Xc0, rfl, r0, s10⟩)
    | (go_at_call 43; refine (eqRegistry_c _ _ _ _ _ _ _ (rx0.ext (by assumption)) r0 SD0.out SD0.out).mono ?_; rintro _ wf ⟨rfl, s20⟩; rw [HE0.out]))
  have sf : Ext we wf := by assumption
  clear r0 s10 s20
  replace dm0 := dm0.ext sf
  replace bx0 := bx0.ext sf
  replace og := og.ext sf
  replace B0 := fun w' (e : Ext _ w') => B0 w' (Ext.trans sf e)
  replace BX0 := fun w' (e : Ext _ w') => BX0 w' (Ext.trans sf e)
  replace qs := qs.ext sf
  replace rx0 := rx0.ext sf
  replace qg := qg.ext sf
  replace eb := eb.trans sf; replace E0 := E0.trans sf; clear sf
  clear BX0 B0 qs qg rx0 eb
  have z00 := (bx0.cell 0)
  simp only [List.getElem?_toArray, List.getElem?_cons_zero] at z00
  have hql : ds0.length = ps0.length := by rw [← hp0.out]; simp [descsOf]
  have HQL := Lib.hid hql; clear hql
  go_wp2_with fail
  refine (markReg_c _ _ _ ps0 1 _ _ _ HQL.out dm0 (by rw [hp0.out]; exact SH0.out) (by omega) (by omega)).mono ?_; rintro _ wm ⟨k0, hk0a, hk0b, rfl, hm0⟩
  replace og := OwnL.behind og hm0 (by have := hlo0.out; have := hhi0.out; have := hal0.out; omega)
  replace E0 := hm0.below E0 (by have := hlo0.out; have := hhi0.out; have := hal0.out; omega)
  clear z00 hm0 dm0 bx0
  obtain ⟨_, _, hvg, qg⟩ := OwnL.rd og (by omega); injection hvg with q1 _ q2; subst q1; subst q2
  have qs := QS.out.ext E0; have eb := EB.out.trans E0
  have B0 := fun w' (e : Ext wm w') => CB0.out w' (Ext.trans E0 e)
  go_wp2_with fail
  refine (eqIntS_c _ _ _ _ _ _ _ qg qs).mono ?_; rintro _ wo ⟨rfl, sn⟩; rw [HRR.out]
  replace og := og.ext sn; replace E0 := E0.trans sn
  clear qg qs eb B0
  go_wp2_with fail
  refine (markIntS_c _ _ _ 1 _ _ _ og (by omega) (by omega)).mono ?_; rintro _ wr ⟨rfl, om, gm⟩
  replace E0 := E0.grown gm (fun b hb => by have := (World.ownsRow.lt og b hb).1; exact (by have := hlo0.out; have := hhi0.out; have := hal0.out; omega))
  have rm := Own.mk_rd om (by omega)
  clear og om gm
  have qs := QS.out.ext E0; have eb := EB.out.trans E0
  have B0 := fun w' (e : Ext wr w') => CB0.out w' (Ext.trans E0 e)
  clear E0 QS EB CB0
  go_wp2_with fail
  refine (heldIntS_c _ _ _ 1 _ rm (by omega) (by omega)).mono ?_; rintro _ wk ⟨rfl, sk⟩
  replace B0 := fun w' (e : Ext _ w') => B0 w' (Ext.trans sk e)
  replace qs := qs.ext sk
  replace rm := rm.ext sk
  replace eb := eb.trans sk; clear sk
  go_wp2_with fail
  refine (U0.out _ (h0.ext eb)).mono ?_; rintro _ wta ⟨XAt, Xct, rfl, rt0, sta⟩
  replace B0 := fun w' (e : Ext _ w') => B0 w' (Ext.trans sta e)
  replace qs := qs.ext sta
  replace rm := rm.ext sta
  replace eb := eb.trans sta; clear sta
  go_wp2_with fail
  refine (iBrk_c _ _ _ _ rt0 SD0.out hw0 HLN.out).mono ?_; rintro _ wl ⟨vl, rfl, ol, sl⟩; rw [HRE.out] at ol; obtain ⟨Al, cl, rfl, ql⟩ := OwnL.rd ol (by omega); clear ol rt0
  replace B0 := fun w' (e : Ext _ w') => B0 w' (Ext.trans sl e)
  replace qs := qs.ext sl
  replace rm := rm.ext sl
  replace eb := eb.trans sl; clear sl
  go_wp2_with fail
  refine (eqIntS_c _ _ _ _ _ _ _ ql qs).mono ?_; rintro _ wp ⟨rfl, sp⟩; rw [HRR.out]
  replace B0 := fun w' (e : Ext _ w') => B0 w' (Ext.trans sp e)
  replace qs := qs.ext sp
  replace rm := rm.ext sp
  replace ql := ql.ext sp
  replace eb := eb.trans sp; clear sp
  go_wp2_with fail
  refine (heldIntS_c _ _ _ 1 _ rm (by omega) (by omega)).mono ?_; rintro _ wq ⟨rfl, sq⟩
  go_wp2
  go_ret
  exact ⟨rfl, eb.trans sq⟩
end Go.Proofs.Ytmnenemnplpigaa
