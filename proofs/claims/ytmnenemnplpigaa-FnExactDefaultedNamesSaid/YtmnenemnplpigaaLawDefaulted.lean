/- The walk of the law on DefaultedNames. -/
import Derived.Test.YtmnenemnplpigaaHeldStr
import Derived.Test.YtmnenemnplpigaaLostS
namespace Go.Proofs.Ytmnenemnplpigaa
open Go.RowKit Go.Sort

set_option maxRecDepth 100000 in
theorem sDef_c (A A' : Option Addr) (a b : List DRule) (c c' : Nat) (ra rb : Int) (w : World) (ha : RdD w A a c) (hb : RdD w A' b c') (hsa : ShortD a) (hwa : WfD a) (hsb : ShortD b) (hwb : WfD b) (hL : szD b ≤ 1048576) :
    Calls Try.prog 21 #[vdesc (.slice A a.length c), .int .i64 ra, vdesc (.slice A' b.length c'), .int .i64 rb] w fun e w' => ∃ v, e = .returned v ∧ OwnL vstr 9 w w' v (lost b rb a ra) ∧ Ext w w' := by
  have eb := Ext_alloc (.cells #[.slice A' b.length c'] 30) (Ext_alloc (.cells #[.slice A a.length c] 30) (Ext.refl w))
  have BX := fun w' (e : Ext ((w.alloc (.cells #[.slice A a.length c] 30)).alloc (.cells #[.slice A' b.length c'] 30)) w') => boxed2 e
  have B0 := fun w' e => (BX w' e).1
  have B1 := fun w' e => (BX w' e).2.1
  clear BX
  have CA := Lib.hid (fun w h h' => sLost_c A' A b a c' c rb ra w h h' hsb hwb hsa hwa hL)
  unfold vdesc at *
  go_enter Try.func21, Try.ntmps21
  go_wp2_with fail
  refine (CA.out _ (hb.ext eb) (ha.ext eb)).mono ?_; rintro _ w1 ⟨v, rfl, ho, e1⟩
  go_wp2
  go_ret
  exact ⟨_, rfl, ho.down eb.size, eb.trans e1⟩
set_option maxRecDepth 100000 in
theorem iDef_c (A A' : Option Addr) (a b : List DRule) (c c' : Nat) (ra rb : Int) (w : World) (ha : RdD w A a c) (hb : RdD w A' b c') (hsa : ShortD a) (hwa : WfD a) (hsb : ShortD b) (hwb : WfD b) (hL : szD b ≤ 1048576) :
    Calls Try.prog 22 #[vdesc (.slice A a.length c), .int .i64 ra, vdesc (.slice A' b.length c'), .int .i64 rb] w fun e w' => ∃ v, e = .returned v ∧ OwnL vstr 9 w w' v (lost b rb a ra) ∧ Ext w w' := by
  have eb := Ext_alloc (.cells #[.slice A' b.length c'] 30) (Ext_alloc (.cells #[.slice A a.length c] 30) (Ext.refl w))
  have BX := fun w' (e : Ext ((w.alloc (.cells #[.slice A a.length c] 30)).alloc (.cells #[.slice A' b.length c'] 30)) w') => boxed2 e
  have B0 := fun w' e => (BX w' e).1
  have B1 := fun w' e => (BX w' e).2.1
  clear BX
  have CA := Lib.hid (fun w h h' => iLost_c A' A b a c' c rb ra w h h' hsb hwb hsa hwa hL)
  unfold vdesc at *
  go_enter Try.func22, Try.ntmps22
  go_wp2_with fail
  refine (CA.out _ (hb.ext eb) (ha.ext eb)).mono ?_; rintro _ w1 ⟨v, rfl, ho, e1⟩
  go_wp2
  go_ret
  exact ⟨_, rfl, ho.down eb.size, eb.trans e1⟩
set_option maxRecDepth 100000 in
set_option maxHeartbeats 8000000 in
theorem lawDefaultedNames_c (A0 : Option Addr) (ds0 : List DRule) (c0 : Nat) (n1 : Int) (A2 : Option Addr) (ds2 : List DRule) (c2 : Nat) (n3 : Int) (w : World) (h0 : RdD w A0 ds0 c0) (hw0 : WfD ds0) (hn1 : (Lit.int .i64 n1).wf = true) (h2 : RdD w A2 ds2 c2) (hw2 : WfD ds2) (hn3 : (Lit.int .i64 n3).wf = true) :
    Gives Try.prog 4 #[vdesc (.slice A0 ds0.length c0), .int .i64 n1, vdesc (.slice A2 ds2.length c2), .int .i64 n3] w (.bool true) := by
  have eb := (Ext_alloc (.cells #[.slice A2 ds2.length c2] 24) (Ext_alloc (.cells #[.slice A0 ds0.length c0] 24) (Ext.refl w)))
  have BX := fun w' (e : Ext ((w.alloc (.cells #[.slice A0 ds0.length c0] 24)).alloc (.cells #[.slice A2 ds2.length c2] 24)) w') => boxed2 e
  have B0 := fun w' e => (BX w' e).1; have B1 := fun w' e => (BX w' e).2.1; clear BX
  have Z0 := Lib.hid (fun left w h h0 h1 => szDescription_c A0 ds0 c0 left w h hw0 h0 h1)
  have T0 := Lib.hid (fun w h hz => toDesc_r A0 ds0 c0 w h hz); have TO0 := Lib.hid (fun w h hz => toDesc_o A0 ds0 c0 w h hz)
  have Z2 := Lib.hid (fun left w h h0 h1 => szDescription_c A2 ds2 c2 left w h hw2 h0 h1)
  have T2 := Lib.hid (fun w h hz => toDesc_r A2 ds2 c2 w h hz); have TO2 := Lib.hid (fun w h hz => toDesc_o A2 ds2 c2 w h hz)
  have hz0 := szN_lo (szD ds0) (1048576)
  have hs0 : ¬ szN (szD ds0) (1048576) < 0 → (1048576 : Int) ≤ 1048576 → szD ds0 ≤ 1048576 := fun a b => szN_small a b
  generalize hzz0 : szN (szD ds0) (1048576) = z0 at *
  have HZ0 := Lib.hid hzz0; clear hzz0
  have hz2 := szN_lo (szD ds2) (z0)
  have hs2 : ¬ szN (szD ds2) (z0) < 0 → (z0 : Int) ≤ 1048576 → szD ds2 ≤ 1048576 := fun a b => szN_small a b
  generalize hzz2 : szN (szD ds2) (z0) = z2 at *
  have HZ2 := Lib.hid hzz2; clear hzz2
  unfold vdesc at *
  go_enter Try.func4, Try.ntmps4
  go_wp2_with fail
  refine (Z0.out _ _ (h0.ext eb) (by omega) (by omega)).mono ?_; rintro _ w1 ⟨rfl, s1⟩
  rw [HZ0.out]
  replace B0 := fun w' (e : Ext _ w') => B0 w' (Ext.trans s1 e)
  replace B1 := fun w' (e : Ext _ w') => B1 w' (Ext.trans s1 e)
  replace eb := eb.trans s1; clear s1
  by_cases d0 : z0 < 0
  · go_wp2
    go_ret
    exact ⟨rfl, eb⟩
  have hl0 := hs0 (by omega) (by omega)
  go_wp2_with fail
  refine (Z2.out _ _ (h2.ext eb) (by omega) (by omega)).mono ?_; rintro _ w2 ⟨rfl, s2⟩
  rw [HZ2.out]
  replace B0 := fun w' (e : Ext _ w') => B0 w' (Ext.trans s2 e)
  replace B1 := fun w' (e : Ext _ w') => B1 w' (Ext.trans s2 e)
  replace eb := eb.trans s2; clear s2
  by_cases d2 : z2 < 0
  · go_wp2
    go_ret
    exact ⟨rfl, eb⟩
  have hl2 := hs2 (by omega) (by omega)
  have U0 := Lib.hid (fun w h => T0.out w h hl0); clear T0; have UO0 := Lib.hid (fun w h => TO0.out w h hl0); clear TO0; have SH0 := Lib.hid hl0; have SD0 := Lib.hid (shortD_of hl0)
  have U2 := Lib.hid (fun w h => T2.out w h hl2); clear T2; have UO2 := Lib.hid (fun w h => TO2.out w h hl2); clear TO2; have SH2 := Lib.hid hl2; have SD2 := Lib.hid (shortD_of hl2)
  have LR : (lost ds2 n3 ds0 n1).length ≤ 1048576 := lost_len hl2
  clear hz0 hs0 hl0 hz2 hs2 hl2
  go_wp2_with fail
  go_region_held3 (fun w' => Ext w2 w') (first | assumption | exact Ext_drew (Ext.refl _) | exact Ext.trans (by assumption) (by assumption)) (first
    | (go_at_call 16; (with_reducible refine (U0.out _ ?_).mono ?_); (exact h0.ext (eb.trans (by assumption))); rintro _ ws0 ⟨XA0, Xc0, rfl, r0, ss0⟩)
    | (go_at_call 16; (with_reducible refine (U2.out _ ?_).mono ?_); (exact h2.ext (eb.trans (by assumption))); rintro _ ws2 ⟨XA2, Xc2, rfl, r2, ss2⟩)
    | (go_at_call 21; refine (sDef_c _ _ _ _ _ _ _ _ _ (r0.ext ss2) r2 SD0.out hw0 SD2.out hw2 SH2.out).mono ?_; rintro _ ws ⟨vs, rfl, os, ss⟩; obtain ⟨As, cs, rfl, qs⟩ := OwnL.rd os (by omega)))
  have ts : Ext w2 ws := by assumption
  clear r0 r2 ss0 ss2 ss os
  replace B0 := fun w' (e : Ext _ w') => B0 w' (Ext.trans ts e)
  replace B1 := fun w' (e : Ext _ w') => B1 w' (Ext.trans ts e)
  replace eb := eb.trans ts; clear ts
  have EB := Lib.hid eb; have QS := Lib.hid qs
  have CB0 := Lib.hid B0
  have CB1 := Lib.hid B1
  have E0 := Ext.refl ws
  go_wp2_with fail
  refine (UO0.out _ (h0.ext eb)).mono ?_; rintro _ wx0 ⟨PA0, Pc0, ps0, rfl, rx0, hp0, dm0, sx0⟩
  have hlo0 := Lib.hid E0.size; have hhi0 := Lib.hid sx0.size; have hp0 := Lib.hid hp0
  replace B0 := fun w' (e : Ext _ w') => B0 w' (Ext.trans sx0 e)
  replace B1 := fun w' (e : Ext _ w') => B1 w' (Ext.trans sx0 e)
  replace qs := qs.ext sx0
  replace eb := eb.trans sx0; replace E0 := E0.trans sx0; clear sx0
  have BX0 := fun w' (e : Ext (wx0.alloc (.cells #[.slice PA0 ds0.length Pc0] 30)) w') => boxed e
  have tx0 := Ext_alloc (.cells #[.slice PA0 ds0.length Pc0] 30) (Ext.refl wx0)
  have bx0 := Box.new wx0 #[.slice PA0 ds0.length Pc0] 30
  replace dm0 := dm0.ext tx0
  have hal0 : (wx0.alloc (.cells #[.slice PA0 ds0.length Pc0] 30)).heap.size = wx0.heap.size + 1 := by simp
  have hal0 := Lib.hid hal0
  replace B0 := fun w' (e : Ext _ w') => B0 w' (Ext.trans tx0 e)
  replace B1 := fun w' (e : Ext _ w') => B1 w' (Ext.trans tx0 e)
  replace qs := qs.ext tx0
  replace rx0 := rx0.ext tx0
  replace eb := eb.trans tx0; replace E0 := E0.trans tx0; clear tx0
  go_wp2_with fail
  refine (UO2.out _ (h2.ext eb)).mono ?_; rintro _ wx2 ⟨PA2, Pc2, ps2, rfl, rx2, hp2, dm2, sx2⟩
  have hlo2 := Lib.hid E0.size; have hhi2 := Lib.hid sx2.size; have hp2 := Lib.hid hp2
  replace dm0 := dm0.ext sx2; replace bx0 := bx0.ext sx2
  replace B0 := fun w' (e : Ext _ w') => B0 w' (Ext.trans sx2 e)
  replace B1 := fun w' (e : Ext _ w') => B1 w' (Ext.trans sx2 e)
  replace BX0 := fun w' (e : Ext _ w') => BX0 w' (Ext.trans sx2 e)
  replace qs := qs.ext sx2
  replace rx0 := rx0.ext sx2
  replace eb := eb.trans sx2; replace E0 := E0.trans sx2; clear sx2
  have BX2 := fun w' (e : Ext (wx2.alloc (.cells #[.slice PA2 ds2.length Pc2] 30)) w') => boxed e
  have tx2 := Ext_alloc (.cells #[.slice PA2 ds2.length Pc2] 30) (Ext.refl wx2)
  have bx2 := Box.new wx2 #[.slice PA2 ds2.length Pc2] 30
  replace dm2 := dm2.ext tx2
  have hal2 : (wx2.alloc (.cells #[.slice PA2 ds2.length Pc2] 30)).heap.size = wx2.heap.size + 1 := by simp
  have hal2 := Lib.hid hal2
  replace dm0 := dm0.ext tx2; replace bx0 := bx0.ext tx2
  replace B0 := fun w' (e : Ext _ w') => B0 w' (Ext.trans tx2 e)
  replace B1 := fun w' (e : Ext _ w') => B1 w' (Ext.trans tx2 e)
  replace BX0 := fun w' (e : Ext _ w') => BX0 w' (Ext.trans tx2 e)
  replace qs := qs.ext tx2
  replace rx0 := rx0.ext tx2
  replace rx2 := rx2.ext tx2
  replace eb := eb.trans tx2; replace E0 := E0.trans tx2; clear tx2
  go_wp2_with fail
  have hgl : (wx2.alloc (.cells #[.slice PA2 ds2.length Pc2] 30)).heap.size ≤ (wx2.alloc (.cells #[.slice PA2 ds2.length Pc2] 30)).heap.size := Nat.le_refl _
  have hgl := Lib.hid hgl
  refine (iDef_c _ _ _ _ _ _ _ _ _ rx0 rx2 SD0.out hw0 SD2.out hw2 SH2.out).mono ?_; rintro _ wg ⟨vg, rfl, og, sg⟩; obtain ⟨Ag, cg, rfl, qg⟩ := OwnL.rd og (by omega)
  replace dm0 := dm0.ext sg; replace bx0 := bx0.ext sg
  replace dm2 := dm2.ext sg; replace bx2 := bx2.ext sg
  replace B0 := fun w' (e : Ext _ w') => B0 w' (Ext.trans sg e)
  replace B1 := fun w' (e : Ext _ w') => B1 w' (Ext.trans sg e)
  replace BX0 := fun w' (e : Ext _ w') => BX0 w' (Ext.trans sg e)
  replace BX2 := fun w' (e : Ext _ w') => BX2 w' (Ext.trans sg e)
  replace qs := qs.ext sg
  replace rx0 := rx0.ext sg
  replace rx2 := rx2.ext sg
  replace eb := eb.trans sg; replace E0 := E0.trans sg; clear sg
  have HRR : Hid (eqNms (lost ds2 n3 ds0 n1) (lost ds2 n3 ds0 n1) = true) := eqNms_refl _
  generalize hRR : (lost ds2 n3 ds0 n1) = R at *
  have HRE := Lib.hid hRR; clear hRR
  go_wp2_with fail
  refine (eqStringS_c _ _ _ _ _ _ _ qg.1 qs.1).mono ?_; rintro _ we ⟨rfl, se⟩; rw [HRR.out]
  replace og := og.ext se
  replace dm0 := dm0.ext se; replace bx0 := bx0.ext se
  replace dm2 := dm2.ext se; replace bx2 := bx2.ext se
  replace B0 := fun w' (e : Ext _ w') => B0 w' (Ext.trans se e)
  replace B1 := fun w' (e : Ext _ w') => B1 w' (Ext.trans se e)
  replace BX0 := fun w' (e : Ext _ w') => BX0 w' (Ext.trans se e)
  replace BX2 := fun w' (e : Ext _ w') => BX2 w' (Ext.trans se e)
  replace qs := qs.ext se
  replace rx0 := rx0.ext se
  replace rx2 := rx2.ext se
  replace qg := qg.ext se
  replace eb := eb.trans se; replace E0 := E0.trans se; clear se
  have HE0 : Hid (eqD ds0 ds0 = true) := eqD_refl ds0
  go_wp2_with fail
  go_region_held3 (fun w' => Ext we w') (first | assumption | exact Ext_drew (Ext.refl _) | exact Ext.trans (by assumption) (by assumption)) (first
    | (go_at_call 16; refine (U0.out _ (h0.ext (eb.trans (by assumption)))).mono ?_; rintro _ w10 ⟨XA0, Xc0, rfl, r0, s10⟩)
    | (go_at_call 19; refine (eqDescription_c _ _ _ _ _ _ _ (rx0.ext (by assumption)) r0 SD0.out SD0.out).mono ?_; rintro _ wf0 ⟨rfl, s20⟩; rw [HE0.out]))
  have sf0 : Ext we wf0 := by assumption
  clear r0 s10 s20
  replace og := og.ext sf0
  replace dm0 := dm0.ext sf0; replace bx0 := bx0.ext sf0
  replace dm2 := dm2.ext sf0; replace bx2 := bx2.ext sf0
  replace B0 := fun w' (e : Ext _ w') => B0 w' (Ext.trans sf0 e)
  replace B1 := fun w' (e : Ext _ w') => B1 w' (Ext.trans sf0 e)
  replace BX0 := fun w' (e : Ext _ w') => BX0 w' (Ext.trans sf0 e)
  replace BX2 := fun w' (e : Ext _ w') => BX2 w' (Ext.trans sf0 e)
  replace qs := qs.ext sf0
  replace rx0 := rx0.ext sf0
  replace rx2 := rx2.ext sf0
  replace qg := qg.ext sf0
  replace eb := eb.trans sf0; replace E0 := E0.trans sf0; clear sf0
  have HE2 : Hid (eqD ds2 ds2 = true) := eqD_refl ds2
  go_wp2_with fail
  go_region_held3 (fun w' => Ext wf0 w') (first | assumption | exact Ext_drew (Ext.refl _) | exact Ext.trans (by assumption) (by assumption)) (first
    | (go_at_call 16; refine (U2.out _ (h2.ext (eb.trans (by assumption)))).mono ?_; rintro _ w12 ⟨XA2, Xc2, rfl, r2, s12⟩)
    | (go_at_call 19; refine (eqDescription_c _ _ _ _ _ _ _ (rx2.ext (by assumption)) r2 SD2.out SD2.out).mono ?_; rintro _ wf2 ⟨rfl, s22⟩; rw [HE2.out]))
  have sf2 : Ext wf0 wf2 := by assumption
  clear r2 s12 s22
  replace og := og.ext sf2
  replace dm0 := dm0.ext sf2; replace bx0 := bx0.ext sf2
  replace dm2 := dm2.ext sf2; replace bx2 := bx2.ext sf2
  replace B0 := fun w' (e : Ext _ w') => B0 w' (Ext.trans sf2 e)
  replace B1 := fun w' (e : Ext _ w') => B1 w' (Ext.trans sf2 e)
  replace BX0 := fun w' (e : Ext _ w') => BX0 w' (Ext.trans sf2 e)
  replace BX2 := fun w' (e : Ext _ w') => BX2 w' (Ext.trans sf2 e)
  replace qs := qs.ext sf2
  replace rx0 := rx0.ext sf2
  replace rx2 := rx2.ext sf2
  replace qg := qg.ext sf2
  replace eb := eb.trans sf2; replace E0 := E0.trans sf2; clear sf2
  clear BX0 BX2 B0 B1 qs qg rx0 rx2 eb
  have z00 := (bx0.cell 0)
  simp only [List.getElem?_toArray, List.getElem?_cons_zero] at z00
  go_wp2_with fail
  refine (markDesc_c _ _ _ ps0 1 _ _ _ dm0 (by rw [hp0.out]; exact SH0.out) (by omega) (by omega)).mono ?_; rintro _ wm0 ⟨k0, hk0a, hk0b, rfl, hm0⟩
  replace dm2 := dm2.wrote hm0 (.inr (by have := hlo0.out; have := hhi0.out; have := hal0.out; have := hlo2.out; have := hhi2.out; have := hal2.out; have := hgl.out; omega))
  replace bx2 := bx2.wrote hm0 (by have := hlo0.out; have := hhi0.out; have := hal0.out; have := hlo2.out; have := hhi2.out; have := hal2.out; have := hgl.out; omega)
  replace og := og.behind hm0 (by have := hlo0.out; have := hhi0.out; have := hal0.out; have := hlo2.out; have := hhi2.out; have := hal2.out; have := hgl.out; omega)
  replace E0 := hm0.below E0 (by have := hlo0.out; have := hhi0.out; have := hal0.out; have := hlo2.out; have := hhi2.out; have := hal2.out; have := hgl.out; omega)
  clear z00 hm0 dm0
  have z20 := (bx2.cell 0)
  simp only [List.getElem?_toArray, List.getElem?_cons_zero] at z20
  go_wp2_with fail
  refine (markDesc_c _ _ _ ps2 k0 _ _ _ dm2 (by rw [hp2.out]; exact SH2.out) (by omega) (by omega)).mono ?_; rintro _ wm2 ⟨k2, hk2a, hk2b, rfl, hm2⟩
  replace og := og.behind hm2 (by have := hlo0.out; have := hhi0.out; have := hal0.out; have := hlo2.out; have := hhi2.out; have := hal2.out; have := hgl.out; omega)
  replace E0 := hm2.below E0 (by have := hlo0.out; have := hhi0.out; have := hal0.out; have := hlo2.out; have := hhi2.out; have := hal2.out; have := hgl.out; omega)
  clear z20 hm2 dm2
  obtain ⟨_, _, hvg, qg⟩ := OwnL.rd og (by omega); injection hvg with q1 _ q2; subst q1; subst q2
  have qs := QS.out.ext E0; have eb := EB.out.trans E0
  have B0 := fun w' (e : Ext wm2 w') => CB0.out w' (Ext.trans E0 e)
  have B1 := fun w' (e : Ext wm2 w') => CB1.out w' (Ext.trans E0 e)
  go_wp2_with fail
  refine (eqStringS_c _ _ _ _ _ _ _ qg.1 qs.1).mono ?_; rintro _ wn ⟨rfl, sn⟩; rw [HRR.out]
  replace og := og.ext sn; replace E0 := E0.trans sn
  clear qg qs eb B0 B1
  go_wp2_with fail
  refine (markStringS_c _ _ _ 1 _ _ _ og (by omega) (by omega)).mono ?_; rintro _ wr ⟨rfl, om, gm⟩
  replace E0 := E0.grown gm (fun b hb => by have := (World.ownsRow.lt og b hb).1; exact (by have := hlo0.out; have := hhi0.out; have := hal0.out; have := hlo2.out; have := hhi2.out; have := hal2.out; have := hgl.out; omega))
  have rm := Own.mk_rd om (by omega)
  clear og om gm
  have qs := QS.out.ext E0; have eb := EB.out.trans E0
  have B0 := fun w' (e : Ext wr w') => CB0.out w' (Ext.trans E0 e)
  have B1 := fun w' (e : Ext wr w') => CB1.out w' (Ext.trans E0 e)
  clear E0 QS EB CB0 CB1
  go_wp2_with fail
  refine (heldStringS_c _ _ _ 1 _ rm (by omega) (by omega)).mono ?_; rintro _ wh ⟨rfl, sh⟩
  replace B0 := fun w' (e : Ext _ w') => B0 w' (Ext.trans sh e)
  replace B1 := fun w' (e : Ext _ w') => B1 w' (Ext.trans sh e)
  replace qs := qs.ext sh
  replace rm := rm.ext sh
  replace eb := eb.trans sh; clear sh
  go_wp2_with fail
  go_region_held3 (fun w' => Ext wh w') (first | assumption | exact Ext_drew (Ext.refl _) | exact Ext.trans (by assumption) (by assumption)) (first
    | (go_at_call 16; (with_reducible refine (U0.out _ ?_).mono ?_); (exact h0.ext (eb.trans (by assumption))); rintro _ wi0 ⟨XA0, Xc0, rfl, r0, si0⟩)
    | (go_at_call 16; (with_reducible refine (U2.out _ ?_).mono ?_); (exact h2.ext (eb.trans (by assumption))); rintro _ wi2 ⟨XA2, Xc2, rfl, r2, si2⟩)
    | (go_at_call 22; refine (iDef_c _ _ _ _ _ _ _ _ _ (r0.ext si2) r2 SD0.out hw0 SD2.out hw2 SH2.out).mono ?_; rintro _ wi ⟨vi, rfl, oi, si⟩; rw [HRE.out] at oi; obtain ⟨Ai, ci, rfl, qi⟩ := OwnL.rd oi (by omega)))
  have ti : Ext wh wi := by assumption
  clear r0 r2 si0 si2 si oi
  replace B0 := fun w' (e : Ext _ w') => B0 w' (Ext.trans ti e)
  replace B1 := fun w' (e : Ext _ w') => B1 w' (Ext.trans ti e)
  replace qs := qs.ext ti
  replace rm := rm.ext ti
  replace eb := eb.trans ti; clear ti
  go_wp2_with fail
  refine (eqStringS_c _ _ _ _ _ _ _ qi.1 qs.1).mono ?_; rintro _ wj ⟨rfl, sj⟩; rw [HRR.out]
  replace B0 := fun w' (e : Ext _ w') => B0 w' (Ext.trans sj e)
  replace B1 := fun w' (e : Ext _ w') => B1 w' (Ext.trans sj e)
  replace qs := qs.ext sj
  replace rm := rm.ext sj
  replace qi := qi.ext sj
  replace eb := eb.trans sj; clear sj
  go_wp2_with fail
  refine (heldStringS_c _ _ _ 1 _ rm (by omega) (by omega)).mono ?_; rintro _ wk ⟨rfl, sk⟩
  go_wp2
  go_ret
  exact ⟨rfl, eb.trans sk⟩
end Go.Proofs.Ytmnenemnplpigaa
