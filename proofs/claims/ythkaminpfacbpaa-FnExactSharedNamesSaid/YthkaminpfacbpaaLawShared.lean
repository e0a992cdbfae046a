/- The walk of the law on SharedNames. -/
import Derived.Test.YthkaminpfacbpaaHeldStr
import Derived.Test.YthkaminpfacbpaaShared
namespace Go.Proofs.Ythkaminpfacbpaa
open Go.RowKit Go.Sort

theorem szD_len {ds : List DRule} (h : szD ds ≤ 1048576) : ds.length ≤ 1048576 := by unfold szD at h; omega
set_option maxRecDepth 100000 in
set_option maxHeartbeats 8000000 in
theorem lawSharedNames_c (A0 : Option Addr) (ds0 : List DRule) (c0 : Nat) (A1 : Option Addr) (ds1 : List DRule) (c1 : Nat) (w : World) (h0 : RdD w A0 ds0 c0) (hw0 : WfD ds0) (h1 : RdD w A1 ds1 c1) (hw1 : WfD ds1) :
    Gives Try.prog 4 #[vdesc (.slice A0 ds0.length c0), vdesc (.slice A1 ds1.length c1)] w (.bool true) := by
  have eb := (Ext_alloc (.cells #[.slice A1 ds1.length c1] 35) (Ext_alloc (.cells #[.slice A0 ds0.length c0] 35) (Ext.refl w)))
  have BX := fun w' (e : Ext ((w.alloc (.cells #[.slice A0 ds0.length c0] 35)).alloc (.cells #[.slice A1 ds1.length c1] 35)) w') => boxed2 e
  have B0 := fun w' e => (BX w' e).1; have B1 := fun w' e => (BX w' e).2.1; clear BX
  have Z0 := Lib.hid (fun left w h h0 h1 => szDescription_c A0 ds0 c0 left w h hw0 h0 h1)
  have T0 := Lib.hid (fun w h hz => toDesc_r A0 ds0 c0 w h hz); have TO0 := Lib.hid (fun w h hz => toDesc_o A0 ds0 c0 w h hz)
  have Z1 := Lib.hid (fun left w h h0 h1 => szDescription_c A1 ds1 c1 left w h hw1 h0 h1)
  have T1 := Lib.hid (fun w h hz => toDesc_r A1 ds1 c1 w h hz); have TO1 := Lib.hid (fun w h hz => toDesc_o A1 ds1 c1 w h hz)
  have hz0 := szN_lo (szD ds0) (1048576)
  have hs0 : ¬ szN (szD ds0) (1048576) < 0 → (1048576 : Int) ≤ 1048576 → szD ds0 ≤ 1048576 := fun a b => szN_small a b
  generalize hzz0 : szN (szD ds0) (1048576) = z0 at *
  have HZ0 := Lib.hid hzz0; clear hzz0
  have hz1 := szN_lo (szD ds1) (z0)
  have hs1 : ¬ szN (szD ds1) (z0) < 0 → (z0 : Int) ≤ 1048576 → szD ds1 ≤ 1048576 := fun a b => szN_small a b
  generalize hzz1 : szN (szD ds1) (z0) = z1 at *
  have HZ1 := Lib.hid hzz1; clear hzz1
  unfold vdesc at *
  go_enter Try.func4, Try.ntmps4
  go_wp2_with fail
  refine (Z0.out _ _ (h0.ext eb) (by omega) (by omega)).mono ?_; rintro _ w1 ⟨rfl, s1⟩
  rw [HZ0.out]
  replace B0 := fun w' (e : Ext _ w') => B0 w' (Ext.trans s1 e)
  replace B1 := fun w' (e : Ext _ w') => B1 w' (Ext.trans s1 e)
  replace eb := eb.trans s1; clear s1
  by_cases d0 : z0 < 0
  · go_wp2
    go_ret
    exact ⟨rfl, eb⟩
  have hl0 := hs0 (by omega) (by omega)
  go_wp2_with fail
  refine (Z1.out _ _ (h1.ext eb) (by omega) (by omega)).mono ?_; rintro _ w2 ⟨rfl, s2⟩
  rw [HZ1.out]
  replace B0 := fun w' (e : Ext _ w') => B0 w' (Ext.trans s2 e)
  replace B1 := fun w' (e : Ext _ w') => B1 w' (Ext.trans s2 e)
  replace eb := eb.trans s2; clear s2
  by_cases d1 : z1 < 0
  · go_wp2
    go_ret
    exact ⟨rfl, eb⟩
  have hl1 := hs1 (by omega) (by omega)
  have U0 := Lib.hid (fun w h => T0.out w h hl0); clear T0; have UO0 := Lib.hid (fun w h => TO0.out w h hl0); clear TO0; have SH0 := Lib.hid hl0; have SD0 := Lib.hid (shortD_of hl0)
  have U1 := Lib.hid (fun w h => T1.out w h hl1); clear T1; have UO1 := Lib.hid (fun w h => TO1.out w h hl1); clear TO1; have SH1 := Lib.hid hl1; have SD1 := Lib.hid (shortD_of hl1)
  have LR : (shared ds0 ds1).length ≤ 1048576 := shared_len hl0
  clear hz0 hs0 hl0 hz1 hs1 hl1
  go_wp2_with fail
  go_region_held3 (fun w' => Ext w2 w') (first | assumption | exact Ext_drew (Ext.refl _) | exact Ext.trans (by assumption) (by assumption)) (first
    | (go_at_call 24; (with_reducible refine (U0.out _ ?_).mono ?_); (exact h0.ext (eb.trans (by assumption))); rintro _ ws0 ⟨XA0, Xc0, rfl, r0, ss0⟩)
    | (go_at_call 24; (with_reducible refine (U1.out _ ?_).mono ?_); (exact h1.ext (eb.trans (by assumption))); rintro _ ws1 ⟨XA1, Xc1, rfl, r1, ss1⟩)
    | (go_at_call 23; refine (sShared_c _ _ _ _ _ _ _ (r0.ext ss1) r1 (szD_len SH0.out)).mono ?_; rintro _ ws ⟨vs, rfl, os, ss⟩; obtain ⟨As, cs, rfl, qs⟩ := OwnL.rd os (by omega)))
  have ts : Ext w2 ws := by assumption
  clear r0 r1 ss0 ss1 ss os
  replace B0 := fun w' (e : Ext _ w') => B0 w' (Ext.trans ts e)
  replace B1 := fun w' (e : Ext _ w') => B1 w' (Ext.trans ts e)
  replace eb := eb.trans ts; clear ts
  have EB := Lib.hid eb; have QS := Lib.hid qs
  have CB0 := Lib.hid B0
  have CB1 := Lib.hid B1
  have E0 := Ext.refl ws
  go_wp2_with fail
  refine (UO0.out _ (h0.ext eb)).mono ?_; rintro _ wx0 ⟨PA0, Pc0, ps0, rfl, rx0, hp0, dm0, sx0⟩
  have hlo0 := Lib.hid E0.size; have hhi0 := Lib.hid sx0.size; have hp0 := Lib.hid hp0
  replace B0 := fun w' (e : Ext _ w') => B0 w' (Ext.trans sx0 e)
  replace B1 := fun w' (e : Ext _ w') => B1 w' (Ext.trans sx0 e)
  replace qs := qs.ext sx0
  replace eb := eb.trans sx0; replace E0 := E0.trans sx0; clear sx0
  have BX0 := fun w' (e : Ext (wx0.alloc (.cells #[.slice PA0 ds0.length Pc0] 41)) w') => boxed e
  have tx0 := Ext_alloc (.cells #[.slice PA0 ds0.length Pc0] 41) (Ext.refl wx0)
  have bx0 := Box.new wx0 #[.slice PA0 ds0.length Pc0] 41
  replace dm0 := dm0.ext tx0
  have hal0 : (wx0.alloc (.cells #[.slice PA0 ds0.length Pc0] 41)).heap.size = wx0.heap.size + 1 := by simp
  have hal0 := Lib.hid hal0
  replace B0 := fun w' (e : Ext _ w') => B0 w' (Ext.trans tx0 e)
  replace B1 := fun w' (e : Ext _ w') => B1 w' (Ext.trans tx0 e)
  replace qs := qs.ext tx0
  replace rx0 := rx0.ext tx0
  replace eb := eb.trans tx0; replace E0 := E0.trans tx0; clear tx0
  go_wp2_with fail
  refine (UO1.out _ (h1.ext eb)).mono ?_; rintro _ wx1 ⟨PA1, Pc1, ps1, rfl, rx1, hp1, dm1, sx1⟩
  have hlo1 := Lib.hid E0.size; have hhi1 := Lib.hid sx1.size; have hp1 := Lib.hid hp1
  replace dm0 := dm0.ext sx1; replace bx0 := bx0.ext sx1
  replace B0 := fun w' (e : Ext _ w') => B0 w' (Ext.trans sx1 e)
  replace B1 := fun w' (e : Ext _ w') => B1 w' (Ext.trans sx1 e)
  replace BX0 := fun w' (e : Ext _ w') => BX0 w' (Ext.trans sx1 e)
  replace qs := qs.ext sx1
  replace rx0 := rx0.ext sx1
  replace eb := eb.trans sx1; replace E0 := E0.trans sx1; clear sx1
  have BX1 := fun w' (e : Ext (wx1.alloc (.cells #[.slice PA1 ds1.length Pc1] 41)) w') => boxed e
  have tx1 := Ext_alloc (.cells #[.slice PA1 ds1.length Pc1] 41) (Ext.refl wx1)
  have bx1 := Box.new wx1 #[.slice PA1 ds1.length Pc1] 41
  replace dm1 := dm1.ext tx1
  have hal1 : (wx1.alloc (.cells #[.slice PA1 ds1.length Pc1] 41)).heap.size = wx1.heap.size + 1 := by simp
  have hal1 := Lib.hid hal1
  replace dm0 := dm0.ext tx1; replace bx0 := bx0.ext tx1
  replace B0 := fun w' (e : Ext _ w') => B0 w' (Ext.trans tx1 e)
  replace B1 := fun w' (e : Ext _ w') => B1 w' (Ext.trans tx1 e)
  replace BX0 := fun w' (e : Ext _ w') => BX0 w' (Ext.trans tx1 e)
  replace qs := qs.ext tx1
  replace rx0 := rx0.ext tx1
  replace rx1 := rx1.ext tx1
  replace eb := eb.trans tx1; replace E0 := E0.trans tx1; clear tx1
  go_wp2_with fail
  have hgl : (wx1.alloc (.cells #[.slice PA1 ds1.length Pc1] 41)).heap.size ≤ (wx1.alloc (.cells #[.slice PA1 ds1.length Pc1] 41)).heap.size := Nat.le_refl _
  have hgl := Lib.hid hgl
  refine (iShared_c _ _ _ _ _ _ _ rx0 rx1 (szD_len SH0.out) (szD_len SH1.out)).mono ?_; rintro _ wg ⟨vg, rfl, og, sg⟩; obtain ⟨Ag, cg, rfl, qg⟩ := OwnL.rd og (by omega)
  replace dm0 := dm0.ext sg; replace bx0 := bx0.ext sg
  replace dm1 := dm1.ext sg; replace bx1 := bx1.ext sg
  replace B0 := fun w' (e : Ext _ w') => B0 w' (Ext.trans sg e)
  replace B1 := fun w' (e : Ext _ w') => B1 w' (Ext.trans sg e)
  replace BX0 := fun w' (e : Ext _ w') => BX0 w' (Ext.trans sg e)
  replace BX1 := fun w' (e : Ext _ w') => BX1 w' (Ext.trans sg e)
  replace qs := qs.ext sg
  replace rx0 := rx0.ext sg
  replace rx1 := rx1.ext sg
  replace eb := eb.trans sg; replace E0 := E0.trans sg; clear sg
  have HRR : Hid (eqNms (shared ds0 ds1) (shared ds0 ds1) = true) := eqNms_refl _
  generalize hRR : (shared ds0 ds1) = R at *
  have HRE := Lib.hid hRR; clear hRR
  go_wp2_with fail
  refine (eqStringS_c _ _ _ _ _ _ _ qg.1 qs.1).mono ?_; rintro _ we ⟨rfl, se⟩; rw [HRR.out]
  replace og := og.ext se
  replace dm0 := dm0.ext se; replace bx0 := bx0.ext se
  replace dm1 := dm1.ext se; replace bx1 := bx1.ext se
  replace B0 := fun w' (e : Ext _ w') => B0 w' (Ext.trans se e)
  replace B1 := fun w' (e : Ext _ w') => B1 w' (Ext.trans se e)
  replace BX0 := fun w' (e : Ext _ w') => BX0 w' (Ext.trans se e)
  replace BX1 := fun w' (e : Ext _ w') => BX1 w' (Ext.trans se e)
  replace qs := qs.ext se
  replace rx0 := rx0.ext se
  replace rx1 := rx1.ext se
  replace qg := qg.ext se
  replace eb := eb.trans se; replace E0 := E0.trans se; clear se
  have HE0 : Hid (eqD ds0 ds0 = true) := eqD_refl ds0
  go_wp2_with fail
  go_region_held3 (fun w' => Ext we w') (first | assumption | exact Ext_drew (Ext.refl _) | exact Ext.trans (by assumption) (by assumption)) (first
    | (go_at_call 24; refine (U0.out _ (h0.ext (eb.trans (by assumption)))).mono ?_; rintro _ w10 ⟨XA0, Xc0, rfl, r0, s10⟩)
    | (go_at_call 27; refine (eqDescription_c _ _ _ _ _ _ _ (rx0.ext (by assumption)) r0 SD0.out SD0.out).mono ?_; rintro _ wf0 ⟨rfl, s20⟩; rw [HE0.out]))
  have sf0 : Ext we wf0 := by assumption
  clear r0 s10 s20
  replace og := og.ext sf0
  replace dm0 := dm0.ext sf0; replace bx0 := bx0.ext sf0
  replace dm1 := dm1.ext sf0; replace bx1 := bx1.ext sf0
  replace B0 := fun w' (e : Ext _ w') => B0 w' (Ext.trans sf0 e)
  replace B1 := fun w' (e : Ext _ w') => B1 w' (Ext.trans sf0 e)
  replace BX0 := fun w' (e : Ext _ w') => BX0 w' (Ext.trans sf0 e)
  replace BX1 := fun w' (e : Ext _ w') => BX1 w' (Ext.trans sf0 e)
  replace qs := qs.ext sf0
  replace rx0 := rx0.ext sf0
  replace rx1 := rx1.ext sf0
  replace qg := qg.ext sf0
  replace eb := eb.trans sf0; replace E0 := E0.trans sf0; clear sf0
  have HE1 : Hid (eqD ds1 ds1 = true) := eqD_refl ds1
  go_wp2_with fail
  go_region_held3 (fun w' => Ext wf0 w') (first | assumption | exact Ext_drew (Ext.refl _) | exact Ext.trans (by assumption) (by assumption)) (first
    | (go_at_call 24; refine (U1.out _ (h1.ext (eb.trans (by assumption)))).mono ?_; rintro _ w11 ⟨XA1, Xc1, rfl, r1, s11⟩)
    | (go_at_call 27; refine (eqDescription_c _ _ _ _ _ _ _ (rx1.ext (by assumption)) r1 SD1.out SD1.out).mono ?_; rintro _ wf1 ⟨rfl, s21⟩; rw [HE1.out]))
  have sf1 : Ext wf0 wf1 := by assumption
  clear r1 s11 s21
  replace og := og.ext sf1
  replace dm0 := dm0.ext sf1; replace bx0 := bx0.ext sf1
  replace dm1 := dm1.ext sf1; replace bx1 := bx1.ext sf1
  replace B0 := fun w' (e : Ext _ w') => B0 w' (Ext.trans sf1 e)
  replace B1 := fun w' (e : Ext _ w') => B1 w' (Ext.trans sf1 e)
  replace BX0 := fun w' (e : Ext _ w') => BX0 w' (Ext.trans sf1 e)
  replace BX1 := fun w' (e : Ext _ w') => BX1 w' (Ext.trans sf1 e)
  replace qs := qs.ext sf1
  replace rx0 := rx0.ext sf1
  replace rx1 := rx1.ext sf1
  replace qg := qg.ext sf1
  replace eb := eb.trans sf1; replace E0 := E0.trans sf1; clear sf1
  clear BX0 BX1 B0 B1 qs qg rx0 rx1 eb
  have z00 := (bx0.cell 0)
  simp only [List.getElem?_toArray, List.getElem?_cons_zero] at z00
  go_wp2_with fail
  refine (markDesc_c _ _ _ ps0 1 _ _ _ dm0 (by rw [hp0.out]; exact SH0.out) (by omega) (by omega)).mono ?_; rintro _ wm0 ⟨k0, hk0a, hk0b, rfl, hm0⟩
  replace dm1 := dm1.wrote hm0 (.inr (by have := hlo0.out; have := hhi0.out; have := hal0.out; have := hlo1.out; have := hhi1.out; have := hal1.out; have := hgl.out; omega))
  replace bx1 := bx1.wrote hm0 (by have := hlo0.out; have := hhi0.out; have := hal0.out; have := hlo1.out; have := hhi1.out; have := hal1.out; have := hgl.out; omega)
  replace og := og.behind hm0 (by have := hlo0.out; have := hhi0.out; have := hal0.out; have := hlo1.out; have := hhi1.out; have := hal1.out; have := hgl.out; omega)
  replace E0 := hm0.below E0 (by have := hlo0.out; have := hhi0.out; have := hal0.out; have := hlo1.out; have := hhi1.out; have := hal1.out; have := hgl.out; omega)
  clear z00 hm0 dm0
  have z10 := (bx1.cell 0)
  simp only [List.getElem?_toArray, List.getElem?_cons_zero] at z10
  go_wp2_with fail
  refine (markDesc_c _ _ _ ps1 k0 _ _ _ dm1 (by rw [hp1.out]; exact SH1.out) (by omega) (by omega)).mono ?_; rintro _ wm1 ⟨k1, hk1a, hk1b, rfl, hm1⟩
  replace og := og.behind hm1 (by have := hlo0.out; have := hhi0.out; have := hal0.out; have := hlo1.out; have := hhi1.out; have := hal1.out; have := hgl.out; omega)
  replace E0 := hm1.below E0 (by have := hlo0.out; have := hhi0.out; have := hal0.out; have := hlo1.out; have := hhi1.out; have := hal1.out; have := hgl.out; omega)
  clear z10 hm1 dm1
  obtain ⟨_, _, hvg, qg⟩ := OwnL.rd og (by omega); injection hvg with q1 _ q2; subst q1; subst q2
  have qs := QS.out.ext E0; have eb := EB.out.trans E0
  have B0 := fun w' (e : Ext wm1 w') => CB0.out w' (Ext.trans E0 e)
  have B1 := fun w' (e : Ext wm1 w') => CB1.out w' (Ext.trans E0 e)
  go_wp2_with fail
  refine (eqStringS_c _ _ _ _ _ _ _ qg.1 qs.1).mono ?_; rintro _ wn ⟨rfl, sn⟩; rw [HRR.out]
  replace og := og.ext sn; replace E0 := E0.trans sn
  clear qg qs eb B0 B1
  go_wp2_with fail
  refine (markStringS_c _ _ _ 1 _ _ _ og (by omega) (by omega)).mono ?_; rintro _ wr ⟨rfl, om, gm⟩
  replace E0 := E0.grown gm (fun b hb => by have := (World.ownsRow.lt og b hb).1; exact (by have := hlo0.out; have := hhi0.out; have := hal0.out; have := hlo1.out; have := hhi1.out; have := hal1.out; have := hgl.out; omega))
  have rm := Own.mk_rd om (by omega)
  clear og om gm
  have qs := QS.out.ext E0; have eb := EB.out.trans E0
  have B0 := fun w' (e : Ext wr w') => CB0.out w' (Ext.trans E0 e)
  have B1 := fun w' (e : Ext wr w') => CB1.out w' (Ext.trans E0 e)
  clear E0 QS EB CB0 CB1
  go_wp2_with fail
  refine (heldStringS_c _ _ _ 1 _ rm (by omega) (by omega)).mono ?_; rintro _ wh ⟨rfl, sh⟩
  replace B0 := fun w' (e : Ext _ w') => B0 w' (Ext.trans sh e)
  replace B1 := fun w' (e : Ext _ w') => B1 w' (Ext.trans sh e)
  replace qs := qs.ext sh
  replace rm := rm.ext sh
  replace eb := eb.trans sh; clear sh
  go_wp2_with fail
  go_region_held3 (fun w' => Ext wh w') (first | assumption | exact Ext_drew (Ext.refl _) | exact Ext.trans (by assumption) (by assumption)) (first
    | (go_at_call 24; (with_reducible refine (U0.out _ ?_).mono ?_); (exact h0.ext (eb.trans (by assumption))); rintro _ wi0 ⟨XA0, Xc0, rfl, r0, si0⟩)
    | (go_at_call 24; (with_reducible refine (U1.out _ ?_).mono ?_); (exact h1.ext (eb.trans (by assumption))); rintro _ wi1 ⟨XA1, Xc1, rfl, r1, si1⟩)
    | (go_at_call 25; refine (iShared_c _ _ _ _ _ _ _ (r0.ext si1) r1 (szD_len SH0.out) (szD_len SH1.out)).mono ?_; rintro _ wi ⟨vi, rfl, oi, si⟩; rw [HRE.out] at oi; obtain ⟨Ai, ci, rfl, qi⟩ := OwnL.rd oi (by omega)))
  have ti : Ext wh wi := by assumption
  clear r0 r1 si0 si1 si oi
  replace B0 := fun w' (e : Ext _ w') => B0 w' (Ext.trans ti e)
  replace B1 := fun w' (e : Ext _ w') => B1 w' (Ext.trans ti e)
  replace qs := qs.ext ti
  replace rm := rm.ext ti
  replace eb := eb.trans ti; clear ti
  go_wp2_with fail
  refine (eqStringS_c _ _ _ _ _ _ _ qi.1 qs.1).mono ?_; rintro _ wj ⟨rfl, sj⟩; rw [HRR.out]
  replace B0 := fun w' (e : Ext _ w') => B0 w' (Ext.trans sj e)
  replace B1 := fun w' (e : Ext _ w') => B1 w' (Ext.trans sj e)
  replace qs := qs.ext sj
  replace rm := rm.ext sj
  replace qi := qi.ext sj
  replace eb := eb.trans sj; clear sj
  go_wp2_with fail
  refine (heldStringS_c _ _ _ 1 _ rm (by omega) (by omega)).mono ?_; rintro _ wk ⟨rfl, sk⟩
  go_wp2
  go_ret
  exact ⟨rfl, eb.trans sk⟩
end Go.Proofs.Ythkaminpfacbpaa
