/- The walk of the law on RenameRule. -/
import Derived.Test.YtalnekcmfagjoaaRen
import Derived.Test.YtalnekcmfagjoaaHeldRule
import Derived.Test.YtalnekcmfagjoaaDescEq5
namespace Go.Proofs.Ytalnekcmfagjoaa
open Go.RowKit Go.Sort

theorem mlen_setNm (ds : List DRule) (k : Nat) (t : ByteArray) : (setNm ds k t).map mlen = ds.map mlen := by
  unfold setNm
  rw [List.map_set]
  rcases Nat.lt_or_ge k ds.length with h | h
  · rw [show mlen (nmR (ds.getD k ⟨⟨#[]⟩, 0, 0, false, [], [], [], []⟩) t) = (ds.map mlen)[k]'(by simpa using h) by simp [h, mlen, nmR]]
    exact List.set_getElem_self _
  · exact List.set_eq_of_length_le (by simpa using h)
theorem mlen_ren (ds : List DRule) (f t : ByteArray) : (renD ds f t).map mlen = ds.map mlen := by
  unfold renD; split
  · exact mlen_setNm _ _ _
  · rfl
theorem mlen_sum (ds : List DRule) : (ds.map mlen).sum ≤ 4 * szD ds := by
  unfold szD
  induction ds with
  | nil => simp
  | cons a s ih => have := mlen_le a; simp only [List.map_cons, List.sum_cons, List.length_cons] at *; omega
theorem kEndR_rules (k : Nat) (ps : List RV) : kEndR k ps = k + ((rulesOf ps).map mlen).sum := by
  rw [kEndR_eq]; unfold rulesOf; rw [List.map_map]; rfl
theorem ren_len (ds : List DRule) (f t : ByteArray) : (renD ds f t).length = ds.length := by unfold renD; split <;> simp [setNm_len]
theorem ren_short {ds : List DRule} {f t : ByteArray} (h : ShortD ds) : ShortD (renD ds f t) := by
  unfold renD; split
  · rename_i ho
    unfold renOk at ho
    rw [Bool.and_eq_true, decide_eq_true_eq] at ho
    exact short_setNm (by have := findR_lt ds f; omega) h
  · exact h
theorem made_of {w w' : World} {v : Value} {ps : List RV} {R : List DRule} (h : OwnD w w' v ps) (hr : rulesOf ps = R) (hl : R.length ≤ 9223372036854775807) (hs : ShortD R) :
    ∃ A1 c1, v = .slice A1 R.length c1 ∧ RdD w' A1 R c1 ∧ DMade w.heap.size w'.heap.size w' v ps := by
  subst hr
  obtain ⟨A1, c1, hv, hR⟩ := h.rd (by simpa [rulesOf] using hl) (fun p hp => hs p.r (List.mem_map_of_mem hp))
  exact ⟨A1, c1, hv, hR, ⟨⟨w, rfl, h⟩, h.block⟩⟩
theorem sRen_o (A : Option Addr) (ds : List DRule) (c : Nat) (f t : ByteArray) (w : World) (h : RdD w A ds c) (hz : szD ds ≤ 1048576) (hw : WfD ds) (ht : t.size ≤ 9223372036854775807) :
    Calls Try.prog 8 #[vdesc (.slice A ds.length c), .string f, .string t] w fun e w' => ∃ A1 c1 ps, e = .returned (.tuple #[vdesc (.slice A1 (renD ds f t).length c1), .bool (renOk ds f t)]) ∧ RdD w' A1 (renD ds f t) c1 ∧ rulesOf ps = renD ds f t ∧ DMade w.heap.size w'.heap.size w' (.slice A1 (renD ds f t).length c1) ps ∧ Ext w w' := by
  refine (sRen_c A ds c f t w h hz hw ht).mono ?_
  rintro e w' ⟨v, ps, he, hr, ho, hx⟩
  obtain ⟨A1, c1, hv, hR, hD⟩ := made_of ho hr (by rw [ren_len]; unfold szD at hz; omega) (ren_short (shortD_of hz))
  subst hv
  exact ⟨A1, c1, ps, he, hR, hr, hD, hx⟩

theorem iRen_o (A : Option Addr) (ds : List DRule) (c : Nat) (f t : ByteArray) (w : World) (h : RdD w A ds c) (hz : szD ds ≤ 1048576) (hw : WfD ds) (ht : t.size ≤ 9223372036854775807) :
    Calls Try.prog 10 #[vdesc (.slice A ds.length c), .string f, .string t] w fun e w' => ∃ A1 c1 ps, e = .returned (.tuple #[vdesc (.slice A1 (renD ds f t).length c1), .bool (renOk ds f t)]) ∧ RdD w' A1 (renD ds f t) c1 ∧ rulesOf ps = renD ds f t ∧ DMade w.heap.size w'.heap.size w' (.slice A1 (renD ds f t).length c1) ps ∧ Ext w w' := by
  refine (iRen_c A ds c f t w h hz hw ht).mono ?_
  rintro e w' ⟨v, ps, he, hr, ho, hx⟩
  obtain ⟨A1, c1, hv, hR, hD⟩ := made_of ho hr (by rw [ren_len]; unfold szD at hz; omega) (ren_short (shortD_of hz))
  subst hv
  exact ⟨A1, c1, ps, he, hR, hr, hD, hx⟩
set_option maxRecDepth 100000 in
set_option maxHeartbeats 8000000 in
theorem lawRenameRule_c (A0 : Option Addr) (ds0 : List DRule) (c0 : Nat) (s1 s2 : ByteArray) (w : World) (h0 : RdD w A0 ds0 c0) (hw0 : WfD ds0) (h1 : s1.size ≤ 9223372036854775807) (h2 : s2.size ≤ 9223372036854775807) :
    Gives Try.prog 3 #[vdesc (.slice A0 ds0.length c0), .string s1, .string s2] w (.bool true) := by
  have eb := (Ext_alloc (.cells #[.slice A0 ds0.length c0] 24) (Ext.refl w))
  have B0 := fun w' (e : Ext (w.alloc (.cells #[.slice A0 ds0.length c0] 24)) w') => boxed e
  by_cases hL1 : s1.size ≤ 1048576
  case neg =>
    have hd1 : decide ((1048576 : Int) < (s1.size : Int)) = true := decide_eq_true (by omega)
    unfold vdesc
    go_enter Try.func3, Try.ntmps3
    go_wp2
    go_ret
    exact ⟨rfl, eb⟩
  have hd1 : decide ((1048576 : Int) < (s1.size : Int)) = false := decide_eq_false (by omega)
  by_cases hL2 : s2.size ≤ 1048576
  case neg =>
    have hd2 : decide ((1048576 : Int) < (s2.size : Int)) = true := decide_eq_true (by omega)
    unfold vdesc
    go_enter Try.func3, Try.ntmps3
    go_wp2
    go_ret
    exact ⟨rfl, eb⟩
  have hd2 : decide ((1048576 : Int) < (s2.size : Int)) = false := decide_eq_false (by omega)
  have Z0 := Lib.hid (fun left w h h0 h1 => szDescription_c A0 ds0 c0 left w h hw0 h0 h1)
  have T0 := Lib.hid (fun w h hz => toDesc_r A0 ds0 c0 w h hz); have TO0 := Lib.hid (fun w h hz => toDesc_o A0 ds0 c0 w h hz)
  have hz0 := szN_lo (szD ds0) (1048576)
  have hs0 : ¬ szN (szD ds0) (1048576) < 0 → (1048576 : Int) ≤ 1048576 → szD ds0 ≤ 1048576 := fun a b => szN_small a b
  generalize hzz0 : szN (szD ds0) (1048576) = z0 at *
  have HZ0 := Lib.hid hzz0; clear hzz0
  have h2' := Lib.hid h2
  unfold vdesc at *
  go_enter Try.func3, Try.ntmps3
  go_wp2_with fail
  refine (Z0.out _ _ (h0.ext eb) (by omega) (by omega)).mono ?_; rintro _ wz ⟨rfl, sz⟩
  rw [HZ0.out]
  replace B0 := fun w' (e : Ext _ w') => B0 w' (Ext.trans sz e)
  replace eb := eb.trans sz; clear sz
  by_cases d0 : z0 < 0
  · go_wp2
    go_ret
    exact ⟨rfl, eb⟩
  have hl0 := hs0 (by omega) (by omega)
  have U0 := Lib.hid (fun w h => T0.out w h hl0); clear T0; have UO0 := Lib.hid (fun w h => TO0.out w h hl0); clear TO0; have SH0 := Lib.hid hl0; have SD0 := Lib.hid (shortD_of hl0)
  have CS := Lib.hid (fun A c w h => sRen_o A ds0 c s1 s2 w h hl0 hw0 h2); have CI := Lib.hid (fun A c w h => iRen_o A ds0 c s1 s2 w h hl0 hw0 h2)
  have SR := Lib.hid (ren_short (f := s1) (t := s2) (shortD_of hl0))
  have hmk : ∀ ps : List RV, rulesOf ps = renD ds0 s1 s2 → kEndR 1 ps ≤ 100000000 := fun ps hp => by have := mlen_sum ds0; rw [kEndR_rules, hp, mlen_ren]; omega
  have HMK := Lib.hid hmk; clear hmk
  have hlR : (renD ds0 s1 s2).length ≤ 9223372036854775807 := by rw [ren_len]; unfold szD at hl0; omega
  unfold vdesc at CS CI
  generalize renD ds0 s1 s2 = R at *
  generalize renOk ds0 s1 s2 = ok at *
  have qlen : Hid (R.length ≤ 9223372036854775807) := hlR
  have HRR : Hid (eqD R R = true) := eqD_refl R
  have hok : (ok != ok) = false := by simp
  clear hz0 hs0 hl0 h2 hw0
  go_wp2_with fail
  refine (U0.out _ (h0.ext eb)).mono ?_; rintro _ wsa ⟨XAs, Xcs, rfl, rs0, ssa⟩
  replace B0 := fun w' (e : Ext _ w') => B0 w' (Ext.trans ssa e)
  replace eb := eb.trans ssa; clear ssa
  go_wp2_with fail
  refine (CS.out _ _ _ rs0).mono ?_; rintro _ ws ⟨As, cs, pss, rfl, qs, _, _, ss⟩
  clear rs0
  replace B0 := fun w' (e : Ext _ w') => B0 w' (Ext.trans ss e)
  replace eb := eb.trans ss; clear ss
  have B8 := fun w' (e : Ext (ws.alloc (.cells #[.slice As R.length cs] 28)) w') => boxed e
  have t8 := Ext_alloc (.cells #[.slice As R.length cs] 28) (Ext.refl ws)
  have b8 := Box.new ws #[.slice As R.length cs] 28
  have hal8 : (ws.alloc (.cells #[.slice As R.length cs] 28)).heap.size = ws.heap.size + 1 := by simp
  have hal8 := Lib.hid hal8
  replace B0 := fun w' (e : Ext _ w') => B0 w' (Ext.trans t8 e)
  replace qs := qs.ext t8
  replace eb := eb.trans t8; clear t8
  clear b8
  have EB := Lib.hid eb; have QS := Lib.hid qs; have CB0 := Lib.hid B0; have CB8 := Lib.hid B8
  have E0 := Ext.refl (ws.alloc (.cells #[.slice As R.length cs] 28))
  go_wp2_with fail
  refine (UO0.out _ (h0.ext eb)).mono ?_; rintro _ wx ⟨PA0, Pc0, ps0, rfl, rx0, hp0, dm0, sx⟩
  have hlo0 := Lib.hid E0.size; have hhi0 := Lib.hid sx.size; have hp0 := Lib.hid hp0
  replace B0 := fun w' (e : Ext _ w') => B0 w' (Ext.trans sx e)
  replace B8 := fun w' (e : Ext _ w') => B8 w' (Ext.trans sx e)
  replace qs := qs.ext sx
  replace eb := eb.trans sx; replace E0 := E0.trans sx; clear sx
  have B10 := fun w' (e : Ext (wx.alloc (.cells #[.slice PA0 ds0.length Pc0] 28)) w') => boxed e
  have t10 := Ext_alloc (.cells #[.slice PA0 ds0.length Pc0] 28) (Ext.refl wx)
  have b10 := Box.new wx #[.slice PA0 ds0.length Pc0] 28
  have hal10 : (wx.alloc (.cells #[.slice PA0 ds0.length Pc0] 28)).heap.size = wx.heap.size + 1 := by simp
  have hal10 := Lib.hid hal10
  replace B0 := fun w' (e : Ext _ w') => B0 w' (Ext.trans t10 e)
  replace B8 := fun w' (e : Ext _ w') => B8 w' (Ext.trans t10 e)
  replace qs := qs.ext t10
  replace rx0 := rx0.ext t10
  replace dm0 := dm0.ext t10
  replace eb := eb.trans t10; replace E0 := E0.trans t10; clear t10
  go_wp2_with fail
  refine (CI.out _ _ _ rx0).mono ?_; rintro _ wg ⟨Ag, cg, psg, rfl, qg, hpg, dg, sg⟩
  have hlog := Lib.hid E0.size; have hhig := Lib.hid sg.size; have hpg := Lib.hid hpg
  replace B0 := fun w' (e : Ext _ w') => B0 w' (Ext.trans sg e)
  replace B8 := fun w' (e : Ext _ w') => B8 w' (Ext.trans sg e)
  replace B10 := fun w' (e : Ext _ w') => B10 w' (Ext.trans sg e)
  replace qs := qs.ext sg
  replace rx0 := rx0.ext sg
  replace dm0 := dm0.ext sg
  replace b10 := b10.ext sg
  replace eb := eb.trans sg; replace E0 := E0.trans sg; clear sg
  have B11 := fun w' (e : Ext (wg.alloc (.cells #[.slice Ag R.length cg] 28)) w') => boxed e
  have t11 := Ext_alloc (.cells #[.slice Ag R.length cg] 28) (Ext.refl wg)
  have b11 := Box.new wg #[.slice Ag R.length cg] 28
  have hal11 : (wg.alloc (.cells #[.slice Ag R.length cg] 28)).heap.size = wg.heap.size + 1 := by simp
  have hal11 := Lib.hid hal11
  replace B0 := fun w' (e : Ext _ w') => B0 w' (Ext.trans t11 e)
  replace B8 := fun w' (e : Ext _ w') => B8 w' (Ext.trans t11 e)
  replace B10 := fun w' (e : Ext _ w') => B10 w' (Ext.trans t11 e)
  replace qs := qs.ext t11
  replace rx0 := rx0.ext t11
  replace qg := qg.ext t11
  replace dm0 := dm0.ext t11
  replace b10 := b10.ext t11
  replace dg := dg.ext t11
  replace eb := eb.trans t11; replace E0 := E0.trans t11; clear t11
  go_wp2_with fail
  refine (eqDescription_c _ _ _ _ _ _ _ qg qs SR.out SR.out).mono ?_; rintro _ we ⟨rfl, se⟩; rw [HRR.out]
  replace B0 := fun w' (e : Ext _ w') => B0 w' (Ext.trans se e)
  replace B8 := fun w' (e : Ext _ w') => B8 w' (Ext.trans se e)
  replace B10 := fun w' (e : Ext _ w') => B10 w' (Ext.trans se e)
  replace B11 := fun w' (e : Ext _ w') => B11 w' (Ext.trans se e)
  replace qs := qs.ext se
  replace rx0 := rx0.ext se
  replace qg := qg.ext se
  replace dm0 := dm0.ext se
  replace b10 := b10.ext se
  replace dg := dg.ext se
  replace b11 := b11.ext se
  replace eb := eb.trans se; replace E0 := E0.trans se; clear se
  have HE0 : Hid (eqD ds0 ds0 = true) := eqD_refl ds0
  go_wp2_with fail
  go_region_held3 (fun w' => Ext we w') (first | assumption | exact Ext_drew (Ext.refl _) | exact Ext.trans (by assumption) (by assumption)) (first
    | (go_at_call 9; refine (U0.out _ (h0.ext (eb.trans (by assumption)))).mono ?_; rintro _ w1x ⟨XA0, Xc0, rfl, r0, s1x⟩)
    | (go_at_call 11; refine (eqDescription_c _ _ _ _ _ _ _ (rx0.ext (by assumption)) r0 SD0.out SD0.out).mono ?_; rintro _ wf ⟨rfl, s2x⟩; rw [HE0.out]))
  have sf : Ext we wf := by assumption
  clear r0 s1x s2x
  replace B0 := fun w' (e : Ext _ w') => B0 w' (Ext.trans sf e)
  replace B8 := fun w' (e : Ext _ w') => B8 w' (Ext.trans sf e)
  replace B10 := fun w' (e : Ext _ w') => B10 w' (Ext.trans sf e)
  replace B11 := fun w' (e : Ext _ w') => B11 w' (Ext.trans sf e)
  replace qs := qs.ext sf
  replace rx0 := rx0.ext sf
  replace qg := qg.ext sf
  replace dm0 := dm0.ext sf
  replace b10 := b10.ext sf
  replace dg := dg.ext sf
  replace b11 := b11.ext sf
  replace eb := eb.trans sf; replace E0 := E0.trans sf; clear sf
  clear B0 B8 B10 B11 qs qg rx0 eb
  have z00 := (b10.cell 0)
  simp only [List.getElem?_toArray, List.getElem?_cons_zero] at z00
  go_wp2_with fail
  refine (markDesc_c _ _ _ ps0 1 _ _ _ dm0 (by rw [hp0.out]; exact SH0.out) (by omega) (by omega)).mono ?_; rintro _ wm ⟨k0, hk0a, hk0b, rfl, hm0⟩
  replace dg := dg.wrote hm0 (.inr (by have := hlo0.out; have := hhi0.out; have := hal10.out; have := hlog.out; have := hhig.out; have := hal11.out; omega))
  replace b11 := b11.wrote hm0 (by have := hlo0.out; have := hhi0.out; have := hal10.out; have := hlog.out; have := hhig.out; have := hal11.out; omega)
  replace E0 := hm0.below E0 (by have := hlo0.out; have := hhi0.out; have := hal10.out; have := hlog.out; have := hhig.out; have := hal11.out; omega)
  clear z00 hm0 dm0 b10
  have qg : RdD wm Ag R cg := by
    obtain ⟨⟨wo, _, h9⟩, _⟩ := dg
    obtain ⟨A', c', hv, hR⟩ := h9.rd (by have := qlen.out; rw [← hpg.out] at this; simpa [rulesOf] using this) (fun p hp => SR.out p.r (by rw [← hpg.out]; exact List.mem_map_of_mem hp))
    rw [hpg.out] at hv hR
    injection hv with q1 _ q2
    subst q1; subst q2; exact hR
  have qs := QS.out.ext E0; have eb := EB.out.trans E0
  have B0 := fun w' (e : Ext wm w') => CB0.out w' (Ext.trans E0 e); have B8 := fun w' (e : Ext wm w') => CB8.out w' (Ext.trans E0 e); have B11 := fun w' (e : Ext wm w') => (b11.ext e).cell
  go_wp2_with fail
  refine (eqDescription_c _ _ _ _ _ _ _ qg qs SR.out SR.out).mono ?_; rintro _ wn ⟨rfl, sn⟩; rw [HRR.out]
  replace B0 := fun w' (e : Ext _ w') => B0 w' (Ext.trans sn e)
  replace B8 := fun w' (e : Ext _ w') => B8 w' (Ext.trans sn e)
  replace B11 := fun w' (e : Ext _ w') => B11 w' (Ext.trans sn e)
  replace qs := qs.ext sn
  replace qg := qg.ext sn
  replace dg := dg.ext sn
  replace b11 := b11.ext sn
  replace eb := eb.trans sn; replace E0 := E0.trans sn; clear sn
  clear B0 B8 B11 qs qg eb
  have z11 := (b11.cell 0)
  simp only [List.getElem?_toArray, List.getElem?_cons_zero] at z11
  have hgn : R.length = psg.length := by rw [← hpg.out]; simp [rulesOf]
  have HGN := Lib.hid hgn; clear hgn
  have hgs : ∀ p ∈ psg, ShortR p.r := fun p hp => SR.out p.r (by rw [← hpg.out]; exact List.mem_map_of_mem hp)
  have HGS := Lib.hid hgs; clear hgs
  go_wp2_with fail
  refine (markDescK_c _ _ _ psg 1 _ _ _ HGN.out dg HGS.out (by omega) (HMK.out psg hpg.out)).mono ?_; rintro _ wr ⟨rfl, dk, hmg⟩
  have b11' := Box.wrote b11 hmg (by have := hlo0.out; have := hhi0.out; have := hal10.out; have := hlog.out; have := hhig.out; have := hal11.out; omega)
  replace E0 := hmg.below E0 (by have := hlo0.out; have := hhi0.out; have := hal10.out; have := hlog.out; have := hhig.out; have := hal11.out; omega)
  clear z11 hmg dg b11
  have qs := QS.out.ext E0; have eb := EB.out.trans E0
  have B0 := fun w' (e : Ext wr w') => CB0.out w' (Ext.trans E0 e); have B8 := fun w' (e : Ext wr w') => CB8.out w' (Ext.trans E0 e); have B11 := fun w' (e : Ext wr w') => (b11'.ext e).cell
  clear E0 QS EB CB0 CB8
  have HK1 := HMK.out psg hpg.out
  generalize hKK : kEndR 1 psg = K at *
  have HKK := Lib.hid hKK; clear hKK
  have HD := Lib.hid (fun (lo hi : Nat) w' (h : DMarked lo hi w' (.slice Ag R.length cg) psg 1) => heldDesc_c Ag R.length cg psg 1 lo hi w' HGN.out h HGS.out (by omega) (HMK.out psg hpg.out))
  rw [HKK.out] at HD
  unfold vdesc at HD
  go_wp2_with fail
  refine (HD.out _ _ _ dk).mono ?_; rintro _ wh ⟨rfl, sh⟩
  replace B0 := fun w' (e : Ext _ w') => B0 w' (Ext.trans sh e)
  replace B8 := fun w' (e : Ext _ w') => B8 w' (Ext.trans sh e)
  replace B11 := fun w' (e : Ext _ w') => B11 w' (Ext.trans sh e)
  replace qs := qs.ext sh
  replace dk := dk.ext sh
  replace eb := eb.trans sh; clear sh
  go_wp2_with fail
  refine (U0.out _ (h0.ext eb)).mono ?_; rintro _ wta ⟨XAt, Xct, rfl, rt0, sta⟩
  replace B0 := fun w' (e : Ext _ w') => B0 w' (Ext.trans sta e)
  replace B8 := fun w' (e : Ext _ w') => B8 w' (Ext.trans sta e)
  replace B11 := fun w' (e : Ext _ w') => B11 w' (Ext.trans sta e)
  replace qs := qs.ext sta
  replace dk := dk.ext sta
  replace eb := eb.trans sta; clear sta
  go_wp2_with fail
  refine (CI.out _ _ _ rt0).mono ?_; rintro _ wl ⟨Al, cl, psl, rfl, ql, _, _, sl⟩
  clear rt0
  replace B0 := fun w' (e : Ext _ w') => B0 w' (Ext.trans sl e)
  replace B8 := fun w' (e : Ext _ w') => B8 w' (Ext.trans sl e)
  replace B11 := fun w' (e : Ext _ w') => B11 w' (Ext.trans sl e)
  replace qs := qs.ext sl
  replace dk := dk.ext sl
  replace eb := eb.trans sl; clear sl
  have B16 := fun w' (e : Ext (wl.alloc (.cells #[.slice Al R.length cl] 28)) w') => boxed e
  have t16 := Ext_alloc (.cells #[.slice Al R.length cl] 28) (Ext.refl wl)
  have b16 := Box.new wl #[.slice Al R.length cl] 28
  have hal16 : (wl.alloc (.cells #[.slice Al R.length cl] 28)).heap.size = wl.heap.size + 1 := by simp
  have hal16 := Lib.hid hal16
  replace B0 := fun w' (e : Ext _ w') => B0 w' (Ext.trans t16 e)
  replace B8 := fun w' (e : Ext _ w') => B8 w' (Ext.trans t16 e)
  replace B11 := fun w' (e : Ext _ w') => B11 w' (Ext.trans t16 e)
  replace qs := qs.ext t16
  replace ql := ql.ext t16
  replace dk := dk.ext t16
  replace eb := eb.trans t16; clear t16
  clear b16
  go_wp2_with fail
  refine (eqDescription_c _ _ _ _ _ _ _ ql qs SR.out SR.out).mono ?_; rintro _ wp ⟨rfl, sp⟩; rw [HRR.out]
  replace B0 := fun w' (e : Ext _ w') => B0 w' (Ext.trans sp e)
  replace B8 := fun w' (e : Ext _ w') => B8 w' (Ext.trans sp e)
  replace B11 := fun w' (e : Ext _ w') => B11 w' (Ext.trans sp e)
  replace B16 := fun w' (e : Ext _ w') => B16 w' (Ext.trans sp e)
  replace qs := qs.ext sp
  replace ql := ql.ext sp
  replace dk := dk.ext sp
  replace eb := eb.trans sp; clear sp
  go_wp2_with fail
  refine (HD.out _ _ _ dk).mono ?_; rintro _ wq ⟨rfl, sq⟩
  go_wp2
  go_ret
  exact ⟨rfl, eb.trans sq⟩
end Go.Proofs.Ytalnekcmfagjoaa
