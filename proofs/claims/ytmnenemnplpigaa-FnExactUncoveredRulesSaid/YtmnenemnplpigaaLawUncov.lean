/- The walk of the law on UncoveredRules. -/
import Derived.Test.YtmnenemnplpigaaCover5
import Derived.Test.YtmnenemnplpigaaHeldStr
namespace Go.Proofs.Ytmnenemnplpigaa
open Go.RowKit Go.Sort

set_option maxRecDepth 100000 in
set_option maxHeartbeats 8000000 in
theorem lawUncoveredRules_c (A0 : Option Addr) (ds0 : List DRule) (c0 : Nat) (A1 : Option Addr) (l1 : List Int) (c1 : Nat) (w : World) (h0 : RdD w A0 ds0 c0) (hw0 : WfD ds0) (h1 : Rd0 vint w A1 l1 c1) (hw1 : ∀ x ∈ l1, (Lit.int .i64 x).wf = true) :
    Gives Try.prog 5 #[vdesc (.slice A0 ds0.length c0), .slice A1 l1.length c1] w (.bool true) := by
  clear hw1
  have hl1 := h1.len
  have eb := (Ext_alloc (.cells #[.slice A0 ds0.length c0] 24) (Ext.refl w))
  have B0 := fun w' (e : Ext (w.alloc (.cells #[.slice A0 ds0.length c0] 24)) w') => boxed e
  by_cases hL : l1.length ≤ 1048576
  case neg =>
    have hd1 : decide ((1048576 : Int) < (l1.length : Int)) = true := decide_eq_true (by omega)
    unfold vdesc
    go_enter Try.func5, Try.ntmps5
    go_wp2
    go_ret
    exact ⟨rfl, eb⟩
  have Z0 := Lib.hid (fun left w h h0 h1 => szDescription_c A0 ds0 c0 left w h hw0 h0 h1)
  have T0 := Lib.hid (fun w h hz => toDesc_r A0 ds0 c0 w h hz); have TO0 := Lib.hid (fun w h hz => toDesc_o A0 ds0 c0 w h hz)
  have TI := Lib.hid (fun w h => toIntS_c A1 l1 c1 w h hL)
  have hz0 := szN_lo (szD ds0) (1048576)
  have hs0 : ¬ szN (szD ds0) (1048576) < 0 → (1048576 : Int) ≤ 1048576 → szD ds0 ≤ 1048576 := fun a b => szN_small a b
  generalize hzz0 : szN (szD ds0) (1048576) = z0 at *
  have HZ0 := Lib.hid hzz0; clear hzz0
  have hd1 : decide ((1048576 : Int) < (l1.length : Int)) = false := decide_eq_false (by omega)
  unfold vdesc at *
  go_enter Try.func5, Try.ntmps5
  go_wp2_with fail
  refine (Z0.out _ _ (h0.ext eb) (by omega) (by omega)).mono ?_; rintro _ wz ⟨rfl, sz⟩
  rw [HZ0.out]
  replace B0 := fun w' (e : Ext _ w') => B0 w' (Ext.trans sz e)
  replace eb := eb.trans sz; clear sz
  by_cases d0 : z0 < 0
  · go_wp2
    go_ret
    exact ⟨rfl, eb⟩
  have hl0 := hs0 (by omega) (by omega)
  have U0 := Lib.hid (fun w h => T0.out w h hl0); clear T0; have UO0 := Lib.hid (fun w h => TO0.out w h hl0); clear TO0; have SH0 := Lib.hid hl0; have SD0 := Lib.hid (shortD_of hl0)
  have LR : (uncovered ds0 l1).length ≤ 1048576 := uncovered_len hl0
  clear hz0 hs0 hl0
  go_wp2_with fail
  refine (U0.out _ (h0.ext eb)).mono ?_; rintro _ wsa ⟨XAs, Xcs, rfl, rs0, ssa⟩
  replace B0 := fun w' (e : Ext _ w') => B0 w' (Ext.trans ssa e)
  replace eb := eb.trans ssa; clear ssa
  go_wp2_with fail
  refine (TI.out _ (h1.ext eb)).mono ?_; rintro _ wsb ⟨vsb, rfl, osb, ssb⟩; obtain ⟨XBs, Xds, rfl, rs1⟩ := OwnL.rd osb (by omega); clear osb
  replace B0 := fun w' (e : Ext _ w') => B0 w' (Ext.trans ssb e)
  replace rs0 := rs0.ext ssb
  replace eb := eb.trans ssb; clear ssb
  go_wp2_with fail
  refine (sUncov_c _ _ _ _ _ _ _ rs0 SD0.out hw0 rs1 SH0.out).mono ?_; rintro _ ws ⟨vs, rfl, os, ss⟩; obtain ⟨As, cs, rfl, qs⟩ := OwnL.rd os (by omega); clear os
  clear rs0 rs1
  replace B0 := fun w' (e : Ext _ w') => B0 w' (Ext.trans ss e)
  replace eb := eb.trans ss; clear ss
  have EB := Lib.hid eb; have QS := Lib.hid qs; have CB0 := Lib.hid B0
  have E0 := Ext.refl ws
  go_wp2_with fail
  refine (UO0.out _ (h0.ext eb)).mono ?_; rintro _ wx ⟨PA0, Pc0, ps0, rfl, rx0, hp0, dm0, sx⟩
  have hlo0 := Lib.hid E0.size; have hhi0 := Lib.hid sx.size; have hp0 := Lib.hid hp0
  replace B0 := fun w' (e : Ext _ w') => B0 w' (Ext.trans sx e)
  replace qs := qs.ext sx
  replace eb := eb.trans sx; replace E0 := E0.trans sx; clear sx
  have BX0 := fun w' (e : Ext (wx.alloc (.cells #[.slice PA0 ds0.length Pc0] 30)) w') => boxed e
  have tx := Ext_alloc (.cells #[.slice PA0 ds0.length Pc0] 30) (Ext.refl wx)
  have bx0 := Box.new wx #[.slice PA0 ds0.length Pc0] 30
  replace dm0 := dm0.ext tx
  have hal0 : (wx.alloc (.cells #[.slice PA0 ds0.length Pc0] 30)).heap.size = wx.heap.size + 1 := by simp
  have hal0 := Lib.hid hal0
  replace B0 := fun w' (e : Ext _ w') => B0 w' (Ext.trans tx e)
  replace qs := qs.ext tx
  replace rx0 := rx0.ext tx
  replace eb := eb.trans tx; replace E0 := E0.trans tx; clear tx
  go_wp2_with fail
  refine (TI.out _ (h1.ext eb)).mono ?_; rintro _ wy ⟨vy, rfl, oy, sy⟩; obtain ⟨PA1, Pc1, rfl, ry⟩ := OwnL.rd oy (by omega)
  have hly := Lib.hid E0.size; have hby := Lib.hid (fun b hb => (World.ownsRow.lt oy b hb).2); have hyy := Lib.hid sy.size
  replace dm0 := dm0.ext sy
  replace bx0 := bx0.ext sy
  replace B0 := fun w' (e : Ext _ w') => B0 w' (Ext.trans sy e)
  replace BX0 := fun w' (e : Ext _ w') => BX0 w' (Ext.trans sy e)
  replace qs := qs.ext sy
  replace rx0 := rx0.ext sy
  replace eb := eb.trans sy; replace E0 := E0.trans sy; clear sy
  go_wp2_with fail
  have hgl : wy.heap.size ≤ wy.heap.size := Nat.le_refl _
  refine (iUncov_c _ _ _ _ _ _ _ rx0 SD0.out hw0 ry SH0.out).mono ?_; rintro _ wg ⟨vg, rfl, og, sg⟩; obtain ⟨Ag, cg, rfl, qg⟩ := OwnL.rd og (by omega)
  replace dm0 := dm0.ext sg
  replace bx0 := bx0.ext sg
  replace oy := oy.ext sg
  replace B0 := fun w' (e : Ext _ w') => B0 w' (Ext.trans sg e)
  replace BX0 := fun w' (e : Ext _ w') => BX0 w' (Ext.trans sg e)
  replace qs := qs.ext sg
  replace rx0 := rx0.ext sg
  replace ry := ry.ext sg
  replace eb := eb.trans sg; replace E0 := E0.trans sg; clear sg
  have HRR : Hid (eqNms (uncovered ds0 l1) (uncovered ds0 l1) = true) := eqNms_refl _
  generalize hRR : (uncovered ds0 l1) = R at *
  have HRE := Lib.hid hRR; clear hRR
  go_wp2_with fail
  refine (eqStringS_c _ _ _ _ _ _ _ qg.1 qs.1).mono ?_; rintro _ we ⟨rfl, se⟩; rw [HRR.out]
  replace dm0 := dm0.ext se
  replace bx0 := bx0.ext se
  replace oy := oy.ext se
  replace og := og.ext se
  replace B0 := fun w' (e : Ext _ w') => B0 w' (Ext.trans se e)
  replace BX0 := fun w' (e : Ext _ w') => BX0 w' (Ext.trans se e)
  replace qs := qs.ext se
  replace rx0 := rx0.ext se
  replace ry := ry.ext se
  replace qg := qg.ext se
  replace eb := eb.trans se; replace E0 := E0.trans se; clear se
  have HE0 : Hid (eqD ds0 ds0 = true) := eqD_refl ds0
  go_wp2_with fail
  go_region_held3 (fun w' => Ext we w') (first | assumption | exact Ext_drew (Ext.refl _) | exact Ext.trans (by assumption) (by assumption)) (first
    | (go_at_call 16; refine (U0.out _ (h0.ext (eb.trans (by assumption)))).mono ?_; rintro _ w10 ⟨XA0, Xc0, rfl, r0, s10⟩)
    | (go_at_call 19; refine (eqDescription_c _ _ _ _ _ _ _ (rx0.ext (by assumption)) r0 SD0.out SD0.out).mono ?_; rintro _ wf ⟨rfl, s20⟩; rw [HE0.out]))
  have sf : Ext we wf := by assumption
  clear r0 s10 s20
  replace dm0 := dm0.ext sf
  replace bx0 := bx0.ext sf
  replace oy := oy.ext sf
  replace og := og.ext sf
  replace B0 := fun w' (e : Ext _ w') => B0 w' (Ext.trans sf e)
  replace BX0 := fun w' (e : Ext _ w') => BX0 w' (Ext.trans sf e)
  replace qs := qs.ext sf
  replace rx0 := rx0.ext sf
  replace ry := ry.ext sf
  replace qg := qg.ext sf
  replace eb := eb.trans sf; replace E0 := E0.trans sf; clear sf
  go_wp2_with fail
  refine (TI.out _ (h1.ext eb)).mono ?_; rintro _ wh ⟨vh, rfl, oh, sh⟩; obtain ⟨QA1, Qc1, rfl, rq⟩ := OwnL.rd oh (by omega); clear oh
  replace dm0 := dm0.ext sh
  replace bx0 := bx0.ext sh
  replace oy := oy.ext sh
  replace og := og.ext sh
  replace B0 := fun w' (e : Ext _ w') => B0 w' (Ext.trans sh e)
  replace BX0 := fun w' (e : Ext _ w') => BX0 w' (Ext.trans sh e)
  replace qs := qs.ext sh
  replace rx0 := rx0.ext sh
  replace ry := ry.ext sh
  replace qg := qg.ext sh
  replace eb := eb.trans sh; replace E0 := E0.trans sh; clear sh
  have HEI : Hid ((l1 == l1) = true) := by show _ = _; simp
  go_wp2_with fail
  refine (eqIntS_c _ _ _ _ _ _ _ ry rq).mono ?_; rintro _ wi ⟨rfl, si⟩; rw [HEI.out]
  clear rq
  replace dm0 := dm0.ext si
  replace bx0 := bx0.ext si
  replace oy := oy.ext si
  replace og := og.ext si
  replace B0 := fun w' (e : Ext _ w') => B0 w' (Ext.trans si e)
  replace BX0 := fun w' (e : Ext _ w') => BX0 w' (Ext.trans si e)
  replace qs := qs.ext si
  replace rx0 := rx0.ext si
  replace ry := ry.ext si
  replace qg := qg.ext si
  replace eb := eb.trans si; replace E0 := E0.trans si; clear si
  clear BX0 B0 qs qg rx0 ry eb
  have z00 := (bx0.cell 0)
  simp only [List.getElem?_toArray, List.getElem?_cons_zero] at z00
  go_wp2_with fail
  refine (markDesc_c _ _ _ ps0 1 _ _ _ dm0 (by rw [hp0.out]; exact SH0.out) (by omega) (by omega)).mono ?_; rintro _ wm ⟨k0, hk0a, hk0b, rfl, hm0⟩
  replace oy := OwnL.behind (f := vint) (l := l1) oy hm0 (by have := hlo0.out; have := hhi0.out; have := hal0.out; have := hly.out; have := hyy.out; omega)
  replace og := og.behind hm0 (by have := hlo0.out; have := hhi0.out; have := hal0.out; have := hly.out; have := hyy.out; omega)
  replace E0 := hm0.below E0 (by have := hlo0.out; have := hhi0.out; have := hal0.out; have := hly.out; have := hyy.out; omega)
  clear z00 hm0 dm0 bx0
  go_wp2_with fail
  refine (markIntS_c _ _ _ _ _ _ _ oy (by omega) (by omega)).mono ?_; rintro _ wn ⟨rfl, _, gm1⟩
  replace og := og.kept gm1 hby.out
  replace E0 := E0.grown gm1 (fun b hb => by have := (World.ownsRow.lt oy b hb).1; exact (by have := hlo0.out; have := hhi0.out; have := hal0.out; have := hly.out; have := hyy.out; omega))
  clear oy gm1
  obtain ⟨_, _, hvg, qg⟩ := OwnL.rd og (by omega); injection hvg with q1 _ q2; subst q1; subst q2
  have qs := QS.out.ext E0; have eb := EB.out.trans E0
  have B0 := fun w' (e : Ext wn w') => CB0.out w' (Ext.trans E0 e)
  go_wp2_with fail
  refine (eqStringS_c _ _ _ _ _ _ _ qg.1 qs.1).mono ?_; rintro _ wo ⟨rfl, sn⟩; rw [HRR.out]
  replace og := og.ext sn; replace E0 := E0.trans sn
  clear qg qs eb B0
  go_wp2_with fail
  refine (markStringS_c _ _ _ 1 _ _ _ og (by omega) (by omega)).mono ?_; rintro _ wr ⟨rfl, om, gm⟩
  replace E0 := E0.grown gm (fun b hb => by have := (World.ownsRow.lt og b hb).1; exact (by have := hlo0.out; have := hhi0.out; have := hal0.out; have := hly.out; have := hyy.out; omega))
  have rm := Own.mk_rd om (by omega)
  clear og om gm
  have qs := QS.out.ext E0; have eb := EB.out.trans E0
  have B0 := fun w' (e : Ext wr w') => CB0.out w' (Ext.trans E0 e)
  clear E0 QS EB CB0
  go_wp2_with fail
  refine (heldStringS_c _ _ _ 1 _ rm (by omega) (by omega)).mono ?_; rintro _ wk ⟨rfl, sk⟩
  replace B0 := fun w' (e : Ext _ w') => B0 w' (Ext.trans sk e)
  replace qs := qs.ext sk
  replace rm := rm.ext sk
  replace eb := eb.trans sk; clear sk
  go_wp2_with fail
  refine (U0.out _ (h0.ext eb)).mono ?_; rintro _ wta ⟨XAt, Xct, rfl, rt0, sta⟩
  replace B0 := fun w' (e : Ext _ w') => B0 w' (Ext.trans sta e)
  replace qs := qs.ext sta
  replace rm := rm.ext sta
  replace eb := eb.trans sta; clear sta
  go_wp2_with fail
  refine (TI.out _ (h1.ext eb)).mono ?_; rintro _ wtb ⟨vtb, rfl, otb, stb⟩; obtain ⟨XBt, Xdt, rfl, rt1⟩ := OwnL.rd otb (by omega); clear otb
  replace B0 := fun w' (e : Ext _ w') => B0 w' (Ext.trans stb e)
  replace qs := qs.ext stb
  replace rm := rm.ext stb
  replace rt0 := rt0.ext stb
  replace eb := eb.trans stb; clear stb
  go_wp2_with fail
  refine (iUncov_c _ _ _ _ _ _ _ rt0 SD0.out hw0 rt1 SH0.out).mono ?_; rintro _ wl ⟨vl, rfl, ol, sl⟩; rw [HRE.out] at ol; obtain ⟨Al, cl, rfl, ql⟩ := OwnL.rd ol (by omega); clear ol rt0 rt1
  replace B0 := fun w' (e : Ext _ w') => B0 w' (Ext.trans sl e)
  replace qs := qs.ext sl
  replace rm := rm.ext sl
  replace eb := eb.trans sl; clear sl
  go_wp2_with fail
  refine (eqStringS_c _ _ _ _ _ _ _ ql.1 qs.1).mono ?_; rintro _ wp ⟨rfl, sp⟩; rw [HRR.out]
  replace B0 := fun w' (e : Ext _ w') => B0 w' (Ext.trans sp e)
  replace qs := qs.ext sp
  replace rm := rm.ext sp
  replace ql := ql.ext sp
  replace eb := eb.trans sp; clear sp
  go_wp2_with fail
  refine (heldStringS_c _ _ _ 1 _ rm (by omega) (by omega)).mono ?_; rintro _ wq ⟨rfl, sq⟩
  go_wp2
  go_ret
  exact ⟨rfl, eb.trans sq⟩
end Go.Proofs.Ytmnenemnplpigaa
