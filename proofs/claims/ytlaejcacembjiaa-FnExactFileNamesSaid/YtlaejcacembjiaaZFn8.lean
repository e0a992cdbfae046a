/- The walks of the laws on ListFiles and FileNames. (Printed by gen/gl18.py.) -/
import Derived.Test.YtlaejcacembjiaaZFn7
import Derived.Deep.RegionHeld3
set_option linter.unusedVariables false
set_option linter.unusedSimpArgs false
namespace Go.Proofs.Ytlaejcacembjiaa
open Go.RowKit Go.Sort

theorem OwnF.behind {w0 w w' : World} {v : Value} {ps : List (DFile × Value)} (h : OwnF w0 w v ps) {lo hi : Nat} (hw : Wrote lo hi w w') (hb : hi ≤ w0.heap.size) : OwnF w0 w' v ps :=
  ⟨Own.wrote h.1 hw (fun g hg => .inr (Nat.le_trans hb (World.ownsRow.lt h.1 g hg).1)), fun p hp => OwnL.behind (h.2.1 p hp) hw hb, h.2.2⟩
/-- marks laid over files, whatever their slice is -/
theorem markFiles_any (v : Value) (ps : List (DFile × Value)) (w0 w : World) (h : OwnF w0 w v ps) (he : Ext w0 w) (hk2 : kEndF 1 ps ≤ 1099511627776) (hd : ∀ p ∈ ps, p.1.l.length ≤ 140737488351232) :
    Calls Try.prog 38 #[v, .int .i64 1] w fun e w' => e = .returned (.int .i64 (kEndF 1 ps : Nat)) ∧ (∃ A c, v = .slice A ps.length c ∧ RdMF w' A ps 1 c) ∧ Ext w0 w' := by
  rcases h.1.2 with ⟨rfl, h0⟩ | ⟨g, cap, cur, rfl, hb, hg, hnc, hcm, hcs, htake⟩
  · obtain rfl : ps = [] := List.eq_nil_of_length_eq_zero h0
    clear h h0 hk2 hd
    go_enter Try.func38, Try.ntmps38
    go_wp2
    go_loopw [1, 5] (fun kk i wr => i = .int .i64 0 ∧ kk = .int .i64 1 ∧ Ext w0 wr) (fun _ _ _ => 0)
    case atStart => exact ⟨rfl, rfl, he⟩
    case round =>
      obtain ⟨rfl, rfl, he'⟩ := hrel
      go_wp2
      go_ret
      exact ⟨rfl, ⟨none, 0, rfl, ⟨by simp, fun i hi => by simp at hi, fun hp => by simp at hp⟩⟩, he'⟩
  · exact (markFiles_c g cap ps 1 w0 w h he (by omega) hk2 hd).mono fun e w' ⟨h1, h2, h3⟩ => ⟨h1, ⟨_, _, rfl, h2.rd hd⟩, h3⟩
set_option maxRecDepth 100000 in
set_option maxHeartbeats 8000000 in
theorem lawListFiles_c (A0 : Option Addr) (ds0 : List (List DRule)) (c0 : Nat) (L0 : Option Addr) (l0 : List UInt8) (e0 : Nat) (s0 : Int) (w : World) (h0 : RdA w A0 ds0 c0 L0 l0 e0) (hw0 : WfG ds0) :
    Gives Try.prog 7 #[varch (.slice A0 ds0.length c0) (.slice L0 l0.length e0) s0] w (.bool true) := by
  have eb := (Ext_alloc (.cells #[.slice A0 ds0.length c0, .slice L0 l0.length e0, .int .i64 s0] 49) (Ext.refl w))
  have B0 := fun w' (e : Ext (w.alloc (.cells #[.slice A0 ds0.length c0, .slice L0 l0.length e0, .int .i64 s0] 49)) w') => boxed e
  have Z0 := Lib.hid (fun left w h h0 h1 => szArchive_c A0 ds0 c0 L0 l0 e0 s0 left w h hw0 h0 h1)
  have T0 := Lib.hid (fun w h hz => toArch_r A0 ds0 c0 L0 l0 e0 s0 w h hz); have TO0 := Lib.hid (fun w h hz => toArch_o A0 ds0 c0 L0 l0 e0 s0 w h hz)
  have hz0 := szN_lo (szA ds0 l0) (1048576)
  have hx0 : ¬ szN (szA ds0 l0) (1048576) < 0 → (1048576 : Int) ≤ 1048576 → (szA ds0 l0) ≤ 1048576 := fun a b => szN_small a b
  generalize hzz0 : szN (szA ds0 l0) (1048576) = z0 at *
  have HZ0 := Lib.hid hzz0; clear hzz0
  unfold varch at *
  go_enter Try.func7, Try.ntmps7
  go_wp2_with fail
  refine (Z0.out _ _ (h0.ext eb) (by omega) (by omega)).mono ?_; rintro _ wz0 ⟨rfl, sz0⟩
  rw [HZ0.out]
  replace B0 := fun w' (e : Ext _ w') => B0 w' (Ext.trans sz0 e)
  replace eb := eb.trans sz0; clear sz0
  by_cases d0 : z0 < 0
  · go_wp2
    go_ret
    exact ⟨rfl, eb⟩
  have hl0 := hx0 (by omega) (by omega)
  have hl1 : l0.length ≤ 1048576 := by have := hl0; unfold szA at this; omega
  have U0 := Lib.hid (fun w h => T0.out w h hl0); clear T0; have UO0 := Lib.hid (fun w h => TO0.out w h hl0); clear TO0; have SH0 := Lib.hid hl0; have SD0 := Lib.hid (shortA_of hl0)
  have CS := Lib.hid (fun A C L E w r => sListFiles_c A ds0 C L l0 E s0 w r hl1)
  have CI := Lib.hid (fun A C L E w r => iListFiles_c A ds0 C L l0 E s0 w r hl1)
  have hfl := filesA_len l0 s0; have hfd := filesA_dl l0 s0
  generalize filesA l0 s0 = R at *
  have hlen : ∀ ps : List (DFile × Value), ps.map Prod.fst = R → ps.length ≤ 1099511627776 := fun ps hp => by have := congrArg List.length hp; rw [List.length_map] at this; omega
  have hdat : ∀ ps : List (DFile × Value), ps.map Prod.fst = R → ∀ p ∈ ps, p.1.l.length ≤ 140737488351232 := fun ps hp p hm => by have := hfd p.1 (by rw [← hp]; exact List.mem_map_of_mem hm); omega
  have hkend : ∀ ps : List (DFile × Value), ps.map Prod.fst = R → kEndF 1 ps ≤ 1099511627776 := fun ps hp => by
    have h1 := kEndF_le 1 400 ps (fun p hm => hfd p.1 (by rw [← hp]; exact List.mem_map_of_mem hm))
    have h2 := congrArg List.length hp
    rw [List.length_map] at h2
    omega
  have HLEN := Lib.hid hlen; have HDAT := Lib.hid hdat; have HKE := Lib.hid hkend
  unfold varch at CS CI
  clear hz0 hx0 hl0 hl1 hfl hfd hlen hdat hkend
  go_wp2_with fail
  refine (U0.out _ (h0.ext eb)).mono ?_; rintro _ wsa ⟨AXs, CXs, LXs, EXs, rfl, r0, ssa⟩
  replace B0 := fun w' (e : Ext _ w') => B0 w' (Ext.trans ssa e)
  replace eb := eb.trans ssa; clear ssa
  go_wp2_with fail
  refine (CS.out _ _ _ _ _ r0).mono ?_; rintro _ ws ⟨As, cs, fss, rfl, qs, _, hfs, ts⟩
  have HFS := Lib.hid hfs; clear r0 hfs
  replace B0 := fun w' (e : Ext _ w') => B0 w' (Ext.trans ts e)
  replace eb := eb.trans ts; clear ts
  have EB := Lib.hid eb; have QS := Lib.hid qs; have CB0 := Lib.hid B0
  have E0 := Ext.refl ws
  go_wp2_with fail
  refine (UO0.out _ (h0.ext eb)).mono ?_; rintro _ wx0 ⟨AP0, CP0, LP0, EP0, ps0, rfl, rx0, hp0, dm0, sx0⟩
  have hlo0 := Lib.hid E0.size; have hhi0 := Lib.hid sx0.size; have hp0 := Lib.hid hp0
  replace B0 := fun w' (e : Ext _ w') => B0 w' (Ext.trans sx0 e)
  replace qs := qs.ext sx0
  replace eb := eb.trans sx0; replace E0 := E0.trans sx0; clear sx0
  have Bx0 := fun w' (e : Ext (wx0.alloc (.cells #[.slice AP0 ds0.length CP0, .slice LP0 l0.length EP0, .int .i64 s0] 53)) w') => boxed e
  have tx0 := Ext_alloc (.cells #[.slice AP0 ds0.length CP0, .slice LP0 l0.length EP0, .int .i64 s0] 53) (Ext.refl wx0)
  have bx0 := Box.new wx0 #[.slice AP0 ds0.length CP0, .slice LP0 l0.length EP0, .int .i64 s0] 53
  have halx0 : (wx0.alloc (.cells #[.slice AP0 ds0.length CP0, .slice LP0 l0.length EP0, .int .i64 s0] 53)).heap.size = wx0.heap.size + 1 := by simp
  have halx0 := Lib.hid halx0
  replace B0 := fun w' (e : Ext _ w') => B0 w' (Ext.trans tx0 e)
  replace qs := qs.ext tx0
  replace rx0 := rx0.ext tx0
  replace dm0 := dm0.ext tx0
  replace eb := eb.trans tx0; replace E0 := E0.trans tx0; clear tx0
  have hgl : (wx0.alloc (.cells #[.slice AP0 ds0.length CP0, .slice LP0 l0.length EP0, .int .i64 s0] 53)).heap.size ≤ (wx0.alloc (.cells #[.slice AP0 ds0.length CP0, .slice LP0 l0.length EP0, .int .i64 s0] 53)).heap.size := Nat.le_refl _
  have hgl := Lib.hid hgl; have HE2 := Lib.hid E0
  go_wp2_with fail
  refine (CI.out _ _ _ _ _ rx0).mono ?_; rintro _ wg ⟨vg, fsg, rfl, hfg, og, sg⟩; obtain ⟨Ag, cg, rfl, qg⟩ := og.rd (HLEN.out _ hfg) (HDAT.out _ hfg)
  have HFG := Lib.hid hfg; clear hfg
  replace B0 := fun w' (e : Ext _ w') => B0 w' (Ext.trans sg e)
  replace Bx0 := fun w' (e : Ext _ w') => Bx0 w' (Ext.trans sg e)
  replace qs := qs.ext sg
  replace rx0 := rx0.ext sg
  replace dm0 := dm0.ext sg
  replace bx0 := bx0.ext sg
  replace eb := eb.trans sg; replace E0 := E0.trans sg; clear sg
  go_wp2_with fail
  refine (eqFiles_c _ _ _ _ _ _ _ qg qs (HFG.out.trans HFS.out.symm)).mono ?_; rintro _ we ⟨rfl, se⟩
  replace B0 := fun w' (e : Ext _ w') => B0 w' (Ext.trans se e)
  replace Bx0 := fun w' (e : Ext _ w') => Bx0 w' (Ext.trans se e)
  replace qs := qs.ext se
  replace rx0 := rx0.ext se
  replace qg := qg.ext se
  replace dm0 := dm0.ext se
  replace bx0 := bx0.ext se
  replace og := og.ext se
  replace eb := eb.trans se; replace E0 := E0.trans se; clear se
  have HE0 : Hid (eqA ds0 l0 s0 ds0 l0 s0 = true) := eqA_refl ds0 l0 s0
  go_wp2_with fail
  go_region_held3 (fun w' => Ext we w') (first | assumption | exact Ext_drew (Ext.refl _) | exact Ext.trans (by assumption) (by assumption)) (first
    | (go_at_call 23; refine (U0.out _ (h0.ext (eb.trans (by assumption)))).mono ?_; rintro _ w10 ⟨AX0, CX0, LX0, EX0, rfl, r0, s10⟩)
    | (go_at_call 25; refine (eqArchive_c _ _ _ _ _ _ _ _ _ _ _ _ _ _ _ (rx0.ext (by assumption)) r0 SD0.out SD0.out).mono ?_; rintro _ wf0 ⟨rfl, s20⟩; rw [HE0.out]))
  have sf0 : Ext we wf0 := by assumption
  clear r0 s10 s20
  replace B0 := fun w' (e : Ext _ w') => B0 w' (Ext.trans sf0 e)
  replace Bx0 := fun w' (e : Ext _ w') => Bx0 w' (Ext.trans sf0 e)
  replace qs := qs.ext sf0
  replace rx0 := rx0.ext sf0
  replace qg := qg.ext sf0
  replace dm0 := dm0.ext sf0
  replace bx0 := bx0.ext sf0
  replace og := og.ext sf0
  replace eb := eb.trans sf0; replace E0 := E0.trans sf0; clear sf0
  clear B0 Bx0 qs qg rx0 eb
  have z00 := (bx0.cell 0)
  have z01 := (bx0.cell 1)
  have z02 := (bx0.cell 2)
  simp only [List.getElem?_toArray, List.getElem?_cons_zero, List.getElem?_cons_succ] at z00 z01 z02
  have hql0 : ds0.length = ps0.length := by rw [← hp0.out]; simp [descsOf]
  have HQL0 := Lib.hid hql0; clear hql0
  go_wp2_with fail
  refine (markArch_c _ _ _ ps0 _ _ _ _ 1 _ _ _ HQL0.out rfl dm0 (by rw [hp0.out]; have := SH0.out; unfold szA at this; omega) (by have := SH0.out; unfold szA at this; omega) (by omega) (by omega)).mono ?_; rintro _ wm0 ⟨k0, hk0a, hk0b, rfl, hm0⟩
  replace og := OwnF.behind og hm0 (by have := hlo0.out; have := hhi0.out; have := halx0.out; have := hgl.out; omega)
  replace E0 := hm0.below E0 (by have := hlo0.out; have := hhi0.out; have := halx0.out; have := hgl.out; omega)
  clear z00 z01 z02 hm0 dm0 bx0
  obtain ⟨_, _, hvg, qg⟩ := og.rd (HLEN.out _ HFG.out) (HDAT.out _ HFG.out); injection hvg with q1 _ q2; subst q1; subst q2
  have qs := QS.out.ext E0; have eb := EB.out.trans E0
  have B0 := fun w' (e : Ext wm0 w') => CB0.out w' (Ext.trans E0 e)
  go_wp2_with fail
  refine (eqFiles_c _ _ _ _ _ _ _ qg qs (HFG.out.trans HFS.out.symm)).mono ?_; rintro _ wn ⟨rfl, sn⟩
  replace og := og.ext sn; replace E0 := E0.trans sn
  clear qg qs eb B0 sn
  replace og := og.lower HE2.out
  go_wp2_with fail
  refine (markFiles_any _ _ _ _ og E0 (HKE.out _ HFG.out) (HDAT.out _ HFG.out)).mono ?_; rintro _ wr ⟨rfl, ⟨Ar, cr, hvr, rm⟩, E1⟩
  injection hvr with q1 _ q2; subst q1; subst q2
  clear og E0; have E0 := E1; clear E1
  have qs := QS.out.ext E0; have eb := EB.out.trans E0
  have B0 := fun w' (e : Ext wr w') => CB0.out w' (Ext.trans E0 e)
  clear E0 QS EB CB0
  go_wp2_with fail
  refine (heldFiles_c _ _ _ _ _ rm (by omega) (HKE.out _ HFG.out)).mono ?_; rintro _ wh ⟨rfl, sh⟩
  replace B0 := fun w' (e : Ext _ w') => B0 w' (Ext.trans sh e)
  replace qs := qs.ext sh
  replace rm := rm.ext sh
  replace eb := eb.trans sh; clear sh
  go_wp2_with fail
  refine (U0.out _ (h0.ext eb)).mono ?_; rintro _ wla ⟨AXl, CXl, LXl, EXl, rfl, r0, sla⟩
  replace B0 := fun w' (e : Ext _ w') => B0 w' (Ext.trans sla e)
  replace qs := qs.ext sla
  replace rm := rm.ext sla
  replace eb := eb.trans sla; clear sla
  go_wp2_with fail
  refine (CI.out _ _ _ _ _ r0).mono ?_; rintro _ wi ⟨vi, fsi, rfl, hfi, oi, ti⟩; obtain ⟨Ai, ci, rfl, qi⟩ := oi.rd (HLEN.out _ hfi) (HDAT.out _ hfi)
  have HFI := Lib.hid hfi; clear hfi r0 oi
  replace B0 := fun w' (e : Ext _ w') => B0 w' (Ext.trans ti e)
  replace qs := qs.ext ti
  replace rm := rm.ext ti
  replace eb := eb.trans ti; clear ti
  go_wp2_with fail
  refine (eqFiles_c _ _ _ _ _ _ _ qi qs (HFI.out.trans HFS.out.symm)).mono ?_; rintro _ wj ⟨rfl, sj⟩
  replace B0 := fun w' (e : Ext _ w') => B0 w' (Ext.trans sj e)
  replace qs := qs.ext sj
  replace rm := rm.ext sj
  replace qi := qi.ext sj
  replace eb := eb.trans sj; clear sj
  go_wp2_with fail
  refine (heldFiles_c _ _ _ _ _ rm (by omega) (HKE.out _ HFG.out)).mono ?_; rintro _ wk ⟨rfl, sk⟩
  go_wp2
  go_ret
  exact ⟨rfl, eb.trans sk⟩
set_option maxRecDepth 100000 in
set_option maxHeartbeats 8000000 in
theorem lawFileNames_c (A0 : Option Addr) (ds0 : List (List DRule)) (c0 : Nat) (L0 : Option Addr) (l0 : List UInt8) (e0 : Nat) (s0 : Int) (w : World) (h0 : RdA w A0 ds0 c0 L0 l0 e0) (hw0 : WfG ds0) :
    Gives Try.prog 6 #[varch (.slice A0 ds0.length c0) (.slice L0 l0.length e0) s0] w (.bool true) := by
  have eb := (Ext_alloc (.cells #[.slice A0 ds0.length c0, .slice L0 l0.length e0, .int .i64 s0] 49) (Ext.refl w))
  have B0 := fun w' (e : Ext (w.alloc (.cells #[.slice A0 ds0.length c0, .slice L0 l0.length e0, .int .i64 s0] 49)) w') => boxed e
  have Z0 := Lib.hid (fun left w h h0 h1 => szArchive_c A0 ds0 c0 L0 l0 e0 s0 left w h hw0 h0 h1)
  have T0 := Lib.hid (fun w h hz => toArch_r A0 ds0 c0 L0 l0 e0 s0 w h hz); have TO0 := Lib.hid (fun w h hz => toArch_o A0 ds0 c0 L0 l0 e0 s0 w h hz)
  have hz0 := szN_lo (szA ds0 l0) (1048576)
  have hx0 : ¬ szN (szA ds0 l0) (1048576) < 0 → (1048576 : Int) ≤ 1048576 → (szA ds0 l0) ≤ 1048576 := fun a b => szN_small a b
  generalize hzz0 : szN (szA ds0 l0) (1048576) = z0 at *
  have HZ0 := Lib.hid hzz0; clear hzz0
  unfold varch at *
  go_enter Try.func6, Try.ntmps6
  go_wp2_with fail
  refine (Z0.out _ _ (h0.ext eb) (by omega) (by omega)).mono ?_; rintro _ wz0 ⟨rfl, sz0⟩
  rw [HZ0.out]
  replace B0 := fun w' (e : Ext _ w') => B0 w' (Ext.trans sz0 e)
  replace eb := eb.trans sz0; clear sz0
  by_cases d0 : z0 < 0
  · go_wp2
    go_ret
    exact ⟨rfl, eb⟩
  have hl0 := hx0 (by omega) (by omega)
  have hl1 : l0.length ≤ 1048576 := by have := hl0; unfold szA at this; omega
  have U0 := Lib.hid (fun w h => T0.out w h hl0); clear T0; have UO0 := Lib.hid (fun w h => TO0.out w h hl0); clear TO0; have SH0 := Lib.hid hl0; have SD0 := Lib.hid (shortA_of hl0)
  have CS := Lib.hid (fun A C L E w r => sFileNames_c A ds0 C L l0 E s0 w r hl1)
  have CI := Lib.hid (fun A C L E w r => iFileNames_c A ds0 C L l0 E s0 w r hl1)
  have LR : (nmsF (filesA l0 s0)).length ≤ 1048576 := by have := filesA_len l0 s0; unfold nmsF; rw [List.length_map]; omega
  generalize nmsF (filesA l0 s0) = R at *
  have HRR : Hid (eqNms R R = true) := eqNms_refl _
  unfold varch at CS CI
  clear hz0 hx0 hl0 hl1
  go_wp2_with fail
  refine (U0.out _ (h0.ext eb)).mono ?_; rintro _ wsa ⟨AXs, CXs, LXs, EXs, rfl, r0, ssa⟩
  replace B0 := fun w' (e : Ext _ w') => B0 w' (Ext.trans ssa e)
  replace eb := eb.trans ssa; clear ssa
  go_wp2_with fail
  refine (CS.out _ _ _ _ _ r0).mono ?_; rintro _ ws ⟨vs, rfl, os, ts⟩; obtain ⟨As, cs, rfl, qs⟩ := OwnL.rd os (by omega)
  clear r0 os
  replace B0 := fun w' (e : Ext _ w') => B0 w' (Ext.trans ts e)
  replace eb := eb.trans ts; clear ts
  have EB := Lib.hid eb; have QS := Lib.hid qs; have CB0 := Lib.hid B0
  have E0 := Ext.refl ws
  go_wp2_with fail
  refine (UO0.out _ (h0.ext eb)).mono ?_; rintro _ wx0 ⟨AP0, CP0, LP0, EP0, ps0, rfl, rx0, hp0, dm0, sx0⟩
  have hlo0 := Lib.hid E0.size; have hhi0 := Lib.hid sx0.size; have hp0 := Lib.hid hp0
  replace B0 := fun w' (e : Ext _ w') => B0 w' (Ext.trans sx0 e)
  replace qs := qs.ext sx0
  replace eb := eb.trans sx0; replace E0 := E0.trans sx0; clear sx0
  have Bx0 := fun w' (e : Ext (wx0.alloc (.cells #[.slice AP0 ds0.length CP0, .slice LP0 l0.length EP0, .int .i64 s0] 53)) w') => boxed e
  have tx0 := Ext_alloc (.cells #[.slice AP0 ds0.length CP0, .slice LP0 l0.length EP0, .int .i64 s0] 53) (Ext.refl wx0)
  have bx0 := Box.new wx0 #[.slice AP0 ds0.length CP0, .slice LP0 l0.length EP0, .int .i64 s0] 53
  have halx0 : (wx0.alloc (.cells #[.slice AP0 ds0.length CP0, .slice LP0 l0.length EP0, .int .i64 s0] 53)).heap.size = wx0.heap.size + 1 := by simp
  have halx0 := Lib.hid halx0
  replace B0 := fun w' (e : Ext _ w') => B0 w' (Ext.trans tx0 e)
  replace qs := qs.ext tx0
  replace rx0 := rx0.ext tx0
  replace dm0 := dm0.ext tx0
  replace eb := eb.trans tx0; replace E0 := E0.trans tx0; clear tx0
  have hgl : (wx0.alloc (.cells #[.slice AP0 ds0.length CP0, .slice LP0 l0.length EP0, .int .i64 s0] 53)).heap.size ≤ (wx0.alloc (.cells #[.slice AP0 ds0.length CP0, .slice LP0 l0.length EP0, .int .i64 s0] 53)).heap.size := Nat.le_refl _
  have hgl := Lib.hid hgl; have HE2 := Lib.hid E0
  go_wp2_with fail
  refine (CI.out _ _ _ _ _ rx0).mono ?_; rintro _ wg ⟨vg, rfl, og, sg⟩; obtain ⟨Ag, cg, rfl, qg⟩ := OwnL.rd og (by omega)
  replace B0 := fun w' (e : Ext _ w') => B0 w' (Ext.trans sg e)
  replace Bx0 := fun w' (e : Ext _ w') => Bx0 w' (Ext.trans sg e)
  replace qs := qs.ext sg
  replace rx0 := rx0.ext sg
  replace dm0 := dm0.ext sg
  replace bx0 := bx0.ext sg
  replace eb := eb.trans sg; replace E0 := E0.trans sg; clear sg
  go_wp2_with fail
  refine (eqStringS_c _ _ _ _ _ _ _ qg.1 qs.1).mono ?_; rintro _ we ⟨rfl, se⟩; rw [HRR.out]
  replace B0 := fun w' (e : Ext _ w') => B0 w' (Ext.trans se e)
  replace Bx0 := fun w' (e : Ext _ w') => Bx0 w' (Ext.trans se e)
  replace qs := qs.ext se
  replace rx0 := rx0.ext se
  replace qg := qg.ext se
  replace dm0 := dm0.ext se
  replace bx0 := bx0.ext se
  replace og := og.ext se
  replace eb := eb.trans se; replace E0 := E0.trans se; clear se
  have HE0 : Hid (eqA ds0 l0 s0 ds0 l0 s0 = true) := eqA_refl ds0 l0 s0
  go_wp2_with fail
  go_region_held3 (fun w' => Ext we w') (first | assumption | exact Ext_drew (Ext.refl _) | exact Ext.trans (by assumption) (by assumption)) (first
    | (go_at_call 23; refine (U0.out _ (h0.ext (eb.trans (by assumption)))).mono ?_; rintro _ w10 ⟨AX0, CX0, LX0, EX0, rfl, r0, s10⟩)
    | (go_at_call 25; refine (eqArchive_c _ _ _ _ _ _ _ _ _ _ _ _ _ _ _ (rx0.ext (by assumption)) r0 SD0.out SD0.out).mono ?_; rintro _ wf0 ⟨rfl, s20⟩; rw [HE0.out]))
  have sf0 : Ext we wf0 := by assumption
  clear r0 s10 s20
  replace B0 := fun w' (e : Ext _ w') => B0 w' (Ext.trans sf0 e)
  replace Bx0 := fun w' (e : Ext _ w') => Bx0 w' (Ext.trans sf0 e)
  replace qs := qs.ext sf0
  replace rx0 := rx0.ext sf0
  replace qg := qg.ext sf0
  replace dm0 := dm0.ext sf0
  replace bx0 := bx0.ext sf0
  replace og := og.ext sf0
  replace eb := eb.trans sf0; replace E0 := E0.trans sf0; clear sf0
  clear B0 Bx0 qs qg rx0 eb
  have z00 := (bx0.cell 0)
  have z01 := (bx0.cell 1)
  have z02 := (bx0.cell 2)
  simp only [List.getElem?_toArray, List.getElem?_cons_zero, List.getElem?_cons_succ] at z00 z01 z02
  have hql0 : ds0.length = ps0.length := by rw [← hp0.out]; simp [descsOf]
  have HQL0 := Lib.hid hql0; clear hql0
  go_wp2_with fail
  refine (markArch_c _ _ _ ps0 _ _ _ _ 1 _ _ _ HQL0.out rfl dm0 (by rw [hp0.out]; have := SH0.out; unfold szA at this; omega) (by have := SH0.out; unfold szA at this; omega) (by omega) (by omega)).mono ?_; rintro _ wm0 ⟨k0, hk0a, hk0b, rfl, hm0⟩
  replace og := OwnL.behind og hm0 (by have := hlo0.out; have := hhi0.out; have := halx0.out; have := hgl.out; omega)
  replace E0 := hm0.below E0 (by have := hlo0.out; have := hhi0.out; have := halx0.out; have := hgl.out; omega)
  clear z00 z01 z02 hm0 dm0 bx0
  obtain ⟨_, _, hvg, qg⟩ := OwnL.rd og (by omega); injection hvg with q1 _ q2; subst q1; subst q2
  have qs := QS.out.ext E0; have eb := EB.out.trans E0
  have B0 := fun w' (e : Ext wm0 w') => CB0.out w' (Ext.trans E0 e)
  go_wp2_with fail
  refine (eqStringS_c _ _ _ _ _ _ _ qg.1 qs.1).mono ?_; rintro _ wn ⟨rfl, sn⟩; rw [HRR.out]
  replace og := og.ext sn; replace E0 := E0.trans sn
  clear qg qs eb B0 sn
  replace og := OwnL.lower og HE2.out
  go_wp2_with fail
  refine (markStringS_c _ _ _ 1 _ _ _ og (by omega) (by omega)).mono ?_; rintro _ wr ⟨rfl, om, gm⟩
  replace E0 := E0.grown gm (fun b hb => (World.ownsRow.lt og b hb).1)
  have rm := Own.mk_rd om (by omega)
  clear og om gm
  have qs := QS.out.ext E0; have eb := EB.out.trans E0
  have B0 := fun w' (e : Ext wr w') => CB0.out w' (Ext.trans E0 e)
  clear E0 QS EB CB0
  go_wp2_with fail
  refine (heldStringS_c _ _ _ 1 _ rm (by omega) (by omega)).mono ?_; rintro _ wh ⟨rfl, sh⟩
  replace B0 := fun w' (e : Ext _ w') => B0 w' (Ext.trans sh e)
  replace qs := qs.ext sh
  replace rm := rm.ext sh
  replace eb := eb.trans sh; clear sh
  go_wp2_with fail
  refine (U0.out _ (h0.ext eb)).mono ?_; rintro _ wla ⟨AXl, CXl, LXl, EXl, rfl, r0, sla⟩
  replace B0 := fun w' (e : Ext _ w') => B0 w' (Ext.trans sla e)
  replace qs := qs.ext sla
  replace rm := rm.ext sla
  replace eb := eb.trans sla; clear sla
  go_wp2_with fail
  refine (CI.out _ _ _ _ _ r0).mono ?_; rintro _ wi ⟨vi, rfl, oi, ti⟩; obtain ⟨Ai, ci, rfl, qi⟩ := OwnL.rd oi (by omega)
  clear r0 oi
  replace B0 := fun w' (e : Ext _ w') => B0 w' (Ext.trans ti e)
  replace qs := qs.ext ti
  replace rm := rm.ext ti
  replace eb := eb.trans ti; clear ti
  go_wp2_with fail
  refine (eqStringS_c _ _ _ _ _ _ _ qi.1 qs.1).mono ?_; rintro _ wj ⟨rfl, sj⟩; rw [HRR.out]
  replace B0 := fun w' (e : Ext _ w') => B0 w' (Ext.trans sj e)
  replace qs := qs.ext sj
  replace rm := rm.ext sj
  replace qi := qi.ext sj
  replace eb := eb.trans sj; clear sj
  go_wp2_with fail
  refine (heldStringS_c _ _ _ 1 _ rm (by omega) (by omega)).mono ?_; rintro _ wk ⟨rfl, sk⟩
  go_wp2
  go_ret
  exact ⟨rfl, eb.trans sk⟩
end Go.Proofs.Ytlaejcacembjiaa
