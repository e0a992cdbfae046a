/- Texts, laid into one. -/
import Derived.Test.YtpmcofmdjckijaaGreatZPb35
set_option linter.unusedVariables false
set_option linter.unusedSimpArgs false
set_option maxRecDepth 100000
set_option maxHeartbeats 16000000
namespace Go.Proofs.YtpmcofmdjckijaaGreat
open Go.RowKit Go.Sort
theorem sStack_c (Ac : Option Addr) (cs : List Ins) (cc : Nat) (Ae : Option Addr) (es : List Int) (ce : Nat) (w : World) (hC : RdI w Ac cs cc) (hE : Is w Ae es ce) (hel : es.length ≤ 1000000) :
 Gives Tryz.prog 162 #[.agg #[.slice Ac cs.length cc, .slice Ae es.length ce]] w (.int .i64 (stackN cs es)) := by
 have hl := hC.len; have hcp := hC.cap
 obtain ⟨W0, hW0⟩ : ∃ W, Hid (W = w.alloc (.cells #[.slice Ac cs.length cc, .slice Ae es.length ce] 55)) := ⟨_, rfl⟩
 have e0 : Ext w W0 := ka hW0
 have BP : Box W0 w.heap.size #[.slice Ac cs.length cc, .slice Ae es.length ce] 55 := kb hW0
 have p0 : ∀ w', Ext W0 w' → w'.cell? ⟨w.heap.size, 0, none⟩ = some (Value.slice Ac cs.length cc) := fun w' e => BP.at 0 w' e
 have p1 : ∀ w', Ext W0 w' → w'.cell? ⟨w.heap.size, 1, none⟩ = some (Value.slice Ae es.length ce) := fun w' e => BP.at 1 w' e
 have d0 := p0 _ (Ext.refl _); have d1 := p1 _ (Ext.refl _)
 rw [hW0.out] at d0 d1
 have CS := Lib.hid (fun w' (e : Ext w w') => sSafe_c Ac cs cc Ae es ce w' (hC.ext e) (hE.ext e) hel)
 have CO := Lib.hid (fun (d : Int) w' (e : Ext w w') hd => sIsOp_c Ac cs cc Ae es ce d 7 w' (hC.ext e) (hE.ext e) hd)
 have CB := Lib.hid (fun (x : Int) w' (e : Ext w w') => sBlockOf_c Ac cs cc Ae es ce x w' (hC.ext e) (hE.ext e) hel)
 have CM := Lib.hid (fun (a b : Int) w' => sMax_c a b w')
 have HCI := Lib.hid hC
 cases hsafe : safeOk cs es
 ·rw [hsafe] at CS
  have HF : Hid (stackN cs es = -1) := by show _ = _; unfold stackN; rw [hsafe]; rfl
  clear hsafe
  go_enter Tryz.func162, Tryz.ntmps162
  go_wp2_with fail
  rw [← hW0.out]
  refine (CS.out _ e0).mono ?_; rintro _ w1 ⟨rfl, e1⟩
  go_wp2
  go_ret
  exact ⟨by rw [HF.out]; rfl, e0.trans e1⟩
 have HSF := Lib.hid hsafe
 rw [hsafe] at CS
 have HF : Hid (stackN cs es = 1 + (needN cs es (cs.length - 2)).getD (es.length - 1) 0) := by show _ = _; unfold stackN; rw [hsafe]; rfl
 obtain ⟨hh, ha, hb⟩ := safe_parts hsafe
 obtain ⟨h0, h2, hn2, hn7⟩ := head_facts hh
 have HBA := Lib.hid (fun x (hx : (2 : Int) ≤ x) => blockOf_at (es := es) (x := x) h0 h2 hx)
 have HCA := Lib.hid (safe_calls hsafe hel)
 have HLN := Lib.hid (needN_len cs es)
 have HNI := Lib.hid (needN_in cs es)
 clear hC hE hsafe hh ha hb h2
 go_enter Tryz.func162, Tryz.ntmps162
 go_wp2_with fail
 rw [← hW0.out]
 refine (CS.out _ e0).mono ?_; rintro _ w1 ⟨rfl, e1⟩
 have q1 := p1 w1 e1
 clear CS d0 d1
 go_wp2_with (first
  | (at_make; refine wpList_mk rfl _ _ _ rfl E_int W0 w1 e1 es.length rfl rfl (by omega) (by simp only [maxLen]; omega) ?_; intro w2 ho2 he2 _; rw [made_one _ rfl] at ho2))
 have HO2 : Hid (OwnL vint 3 W0 w2 (.slice (some ⟨w1.heap.size, 0, none⟩) es.length es.length) (needN cs es 0)) := by
  show OwnL _ _ _ _ _ _
  unfold OwnL needN
  simpa [vint] using ho2
 clear ho2
 go_loopw [4] (fun q wr => ∃ k : Nat, k + 2 ≤ cs.length ∧ q = .int .i64 ((k : Int) + 2) ∧ Hid (OwnL vint 3 W0 wr (.slice (some ⟨w1.heap.size, 0, none⟩) es.length es.length) (needN cs es k)) ∧ Ext W0 wr) (fun q _ => cs.length - (intOf q).toNat)
 case atStart => exact ⟨0, by omega, rfl, HO2.out, he2⟩
 case round =>
  clear HO2 he2
  obtain ⟨k, hk, rfl, ho, he⟩ := hrel
  have q0 := fun w' (e : Ext wr w') => p0 w' (he.trans e)
  have v0 := fun w' (e : Ext wr w') => p1 w' (he.trans e)
  by_cases hlt : k + 2 < cs.length
  ·obtain ⟨b, off, hAc, hb, hc⟩ := HCI.out.at (k + 2) hlt
   have HI : Hid (insAt cs ((k : Int) + 2) = cs[k + 2]) := by show _ = _; rw [show (k : Int) + 2 = ((k + 2 : Nat) : Int) by omega]; exact insAt_nat hlt
   have HA2 : Hid (cs[k + 2].1 = 9 → 2 ≤ cs[k + 2].2.1) := fun h => by
    have := HCA.out (k + 2) (by omega) hlt
    rw [show ((k + 2 : Nat) : Int) = (k : Int) + 2 by omega, HI.out] at this
    exact this h
   have HST : Hid (needN cs es (k + 1) = needS cs es ((k : Int) + 2) (needN cs es k)) := rfl
   subst hAc
   have hc0 : ∀ w', Ext wr w' → w'.cell? ⟨b, off + (k + 2) * 3, none⟩ = some (.int .i64 cs[k + 2].1) := fun w' e => (hc w' (e0.trans (he.trans e))).1
   have hc1 : ∀ w', Ext wr w' → w'.cell? ⟨b, off + (k + 2) * 3 + 1, none⟩ = some (.int .i64 cs[k + 2].2.1) := fun w' e => (hc w' (e0.trans (he.trans e))).2.1
   have hki : (k : Int) + 2 < (cs.length : Int) := by omega
   have hkn : ((k : Int) + 2).toNat = k + 2 := by omega
   generalize cs[k + 2] = x at *
   obtain ⟨o, a, z⟩ := x
   dsimp only at *
   clear hc
   by_cases hop : o = 9
   ·subst hop
    obtain ⟨b1, hb1, hB1, _⟩ := HBA.out ((k : Int) + 2) (by omega)
    obtain ⟨b2, hb2, hB2, _⟩ := HBA.out a (HA2.out rfl)
    have hln := HLN.out k
    have hn1 := HNI.out k b1; have hn2 := HNI.out k b2
    obtain ⟨A', c', hsl, rL⟩ := OwnL.rd ho.out (by rw [hln]; omega)
    injection hsl with i1 i2 i3; subst i1
    obtain ⟨g1, o1, hg1, _, r1⟩ := rL.at b1 (by omega)
    injection hg1 with hg1; injection hg1 with j1 j2; subst j1; subst j2
    obtain ⟨g2, o2, hg2, _, r2⟩ := rL.at b2 (by omega)
    injection hg2 with hg2; injection hg2 with j1 j2; subst j1; subst j2
    have HG1 : Hid ((needN cs es k).getD b1 0 = (needN cs es k)[b1]'(by omega)) := by show _ = _; simp [show b1 < (needN cs es k).length by omega]
    have HG2 : Hid ((needN cs es k).getD b2 0 = (needN cs es k)[b2]'(by omega)) := by show _ = _; simp [show b2 < (needN cs es k).length by omega]
    rw [HG1.out] at hn1; rw [HG2.out] at hn2
    have s1 : ∀ w', Ext wr w' → w'.cell? ⟨w1.heap.size, b1, none⟩ = some (.int .i64 ((needN cs es k)[b1]'(by omega))) := fun w' e => by have := r1 w' e; rwa [Nat.zero_add] at this
    have s2 : ∀ w', Ext wr w' → w'.cell? ⟨w1.heap.size, b2, none⟩ = some (.int .i64 ((needN cs es k)[b2]'(by omega))) := fun w' e => by have := r2 w' e; rwa [Nat.zero_add] at this
    have HSTn : Hid (needN cs es (k + 1) = (needN cs es k).set b1 (max ((needN cs es k)[b1]'(by omega)) ((if isOp cs ((k : Int) + 1) 7 then 2 else 1) + (needN cs es k)[b2]'(by omega)))) := by
     show _ = _
     rw [HST.out, needS, HI.out, if_pos rfl, hB1, hB2, Int.toNat_natCast, Int.toNat_natCast, HG1.out, HG2.out, show (k : Int) + 2 - 1 = (k : Int) + 1 by omega]
    generalize (needN cs es k)[b1]'(by omega) = y1 at *
    generalize (needN cs es k)[b2]'(by omega) = y2 at *
    have HHO := Lib.hid ho.out
    have HLL := Lib.hid hln
    have CB1 := Lib.hid (fun w' (e : Ext w w') => CB.out ((k : Int) + 2) w' e)
    have CB2 := Lib.hid (fun w' (e : Ext w w') => CB.out a w' e)
    rw [hB1] at CB1; rw [hB2] at CB2
    clear hln r1 r2 rL i2 i3 HG1 HG2 hB1 hB2 HST HI ho CB
    have hbi1 : (b1 : Int) < (es.length : Int) := by omega
    have hbi2 : (b2 : Int) < (es.length : Int) := by omega
    cases Z : isOp cs ((k : Int) + 1) 7
    ·rw [Z] at HSTn
     have HZ := Lib.hid Z; clear Z
     have hmx : (if y1 < 1 + y2 then 1 + y2 else y1) = max y1 (1 + y2) := by rw [Int.max_def]; split <;> split <;> omega
     have CM1 := Lib.hid (fun w' => CM.out y1 (1 + y2) w')
     rw [hmx] at CM1
     have HST2 : Hid (needN cs es (k + 1) = (needN cs es k).set b1 (max y1 (1 + y2))) := by show _ = _; rw [HSTn.out]; rfl
     generalize max y1 (1 + y2) = mx at *
     clear hmx HSTn
     go_wp2_with fail
     refine (CO.out ((k : Int) + 2 - 1) _ (e0.trans he) (by omega)).mono ?_; rintro _ w5 ⟨rfl, e5⟩; rw [show (k : Int) + 2 - 1 = (k : Int) + 1 by omega, HZ.out]
     have q05 := fun w' (e : Ext w5 w') => q0 w' (e5.trans e)
     have v5 := fun w' (e : Ext w5 w') => v0 w' (e5.trans e)
     go_wp2_with fail
     refine (CB1.out _ (e0.trans (he.trans e5))).mono ?_; rintro _ w6 ⟨rfl, e6⟩
     have e56 := e5.trans e6
     have q06 := fun w' (e : Ext w6 w') => q0 w' (e56.trans e)
     have v6 := fun w' (e : Ext w6 w') => v0 w' (e56.trans e)
     have t1 := fun w' (e : Ext w6 w') => s1 w' (e56.trans e)
     have t2 := fun w' (e : Ext w6 w') => s2 w' (e56.trans e)
     have t3 := fun w' (e : Ext w6 w') => hc1 w' (e56.trans e)
     have hwo : IntKind.i64.wrap (1 + y2) = 1 + y2 := IntWalk.i64_in _ (by omega)
     have E6 := e0.trans (he.trans e56)
     go_wp2_with fail
     refine region_qtail_below 21 (by kernel_rfl) (by kernel_rfl) ?_
     simp only [List.take_succ_cons, List.take_zero, List.drop_succ_cons, List.drop_zero]
     repeat (go_big_quiet_step (first
      | (go_at_call 189; exact Calls.regrown_of (CB2.out _ (E6.trans (Ext_regrown _ _ (Ext.refl _)))))
      | (go_at_call 25; exact Calls.regrown_of (CM1.out _))))
     refine wpQuiet_nil ?_
     rintro w7 ⟨⟨nq, osq⟩, hq⟩
     have e7 := ext_of_q hq
     clear hq nq osq hwo
     have ho7 := HHO.out.ext (e56.trans e7)
     obtain ⟨⟨u1, hu1⟩, hf1⟩ := Own.slot (show Own 3 1 W0 w7 (.slice (some ⟨w1.heap.size, 0, none⟩) es.length es.length) es.length ((needN cs es k).map vint) by have := ho7; unfold OwnL at this; rwa [HLL.out] at this) b1 (by rw [List.length_map, HLL.out]; exact hb1)
     have hst := Own.store (show Own 3 1 W0 w7 (.slice (some ⟨w1.heap.size, 0, none⟩) es.length es.length) es.length ((needN cs es k).map vint) by have := ho7; unfold OwnL at this; rwa [HLL.out] at this) (he.trans (e56.trans e7)) b1 (.int .i64 mx)
     have HN : Hid (OwnL vint 3 W0 (w7.setCell ⟨w1.heap.size, b1, none⟩ (.int .i64 mx)) (.slice (some ⟨w1.heap.size, 0, none⟩) es.length es.length) (needN cs es (k + 1))) := by
      show OwnL _ _ _ _ _ _
      unfold OwnL
      rw [HLN.out, HST2.out, List.map_set]
      exact hst.1
     have HE := Lib.hid hst.2
     clear hst ho7
     go_wp2
     go_roundw
     case rel => exact ⟨k + 1, by omega, by go_num, HN.out, HE.out⟩
     case measure => simp [intOf]; omega
    ·rw [Z] at HSTn
     have HZ := Lib.hid Z; clear Z
     have hmx : (if y1 < 2 + y2 then 2 + y2 else y1) = max y1 (2 + y2) := by rw [Int.max_def]; split <;> split <;> omega
     have CM1 := Lib.hid (fun w' => CM.out y1 (2 + y2) w')
     rw [hmx] at CM1
     have HST2 : Hid (needN cs es (k + 1) = (needN cs es k).set b1 (max y1 (2 + y2))) := by show _ = _; rw [HSTn.out]; rfl
     generalize max y1 (2 + y2) = mx at *
     clear hmx HSTn
     go_wp2_with fail
     refine (CO.out ((k : Int) + 2 - 1) _ (e0.trans he) (by omega)).mono ?_; rintro _ w5 ⟨rfl, e5⟩; rw [show (k : Int) + 2 - 1 = (k : Int) + 1 by omega, HZ.out]
     have q05 := fun w' (e : Ext w5 w') => q0 w' (e5.trans e)
     have v5 := fun w' (e : Ext w5 w') => v0 w' (e5.trans e)
     go_wp2_with fail
     refine (CB1.out _ (e0.trans (he.trans e5))).mono ?_; rintro _ w6 ⟨rfl, e6⟩
     have e56 := e5.trans e6
     have q06 := fun w' (e : Ext w6 w') => q0 w' (e56.trans e)
     have v6 := fun w' (e : Ext w6 w') => v0 w' (e56.trans e)
     have t1 := fun w' (e : Ext w6 w') => s1 w' (e56.trans e)
     have t2 := fun w' (e : Ext w6 w') => s2 w' (e56.trans e)
     have t3 := fun w' (e : Ext w6 w') => hc1 w' (e56.trans e)
     have hwo : IntKind.i64.wrap (2 + y2) = 2 + y2 := IntWalk.i64_in _ (by omega)
     have E6 := e0.trans (he.trans e56)
     go_wp2_with fail
     refine region_qtail_below 21 (by kernel_rfl) (by kernel_rfl) ?_
     simp only [List.take_succ_cons, List.take_zero, List.drop_succ_cons, List.drop_zero]
     repeat (go_big_quiet_step (first
      | (go_at_call 189; exact Calls.regrown_of (CB2.out _ (E6.trans (Ext_regrown _ _ (Ext.refl _)))))
      | (go_at_call 25; exact Calls.regrown_of (CM1.out _))))
     refine wpQuiet_nil ?_
     rintro w7 ⟨⟨nq, osq⟩, hq⟩
     have e7 := ext_of_q hq
     clear hq nq osq hwo
     have ho7 := HHO.out.ext (e56.trans e7)
     obtain ⟨⟨u1, hu1⟩, hf1⟩ := Own.slot (show Own 3 1 W0 w7 (.slice (some ⟨w1.heap.size, 0, none⟩) es.length es.length) es.length ((needN cs es k).map vint) by have := ho7; unfold OwnL at this; rwa [HLL.out] at this) b1 (by rw [List.length_map, HLL.out]; exact hb1)
     have hst := Own.store (show Own 3 1 W0 w7 (.slice (some ⟨w1.heap.size, 0, none⟩) es.length es.length) es.length ((needN cs es k).map vint) by have := ho7; unfold OwnL at this; rwa [HLL.out] at this) (he.trans (e56.trans e7)) b1 (.int .i64 mx)
     have HN : Hid (OwnL vint 3 W0 (w7.setCell ⟨w1.heap.size, b1, none⟩ (.int .i64 mx)) (.slice (some ⟨w1.heap.size, 0, none⟩) es.length es.length) (needN cs es (k + 1))) := by
      show OwnL _ _ _ _ _ _
      unfold OwnL
      rw [HLN.out, HST2.out, List.map_set]
      exact hst.1
     have HE := Lib.hid hst.2
     clear hst ho7
     go_wp2
     go_roundw
     case rel => exact ⟨k + 1, by omega, by go_num, HN.out, HE.out⟩
     case measure => simp [intOf]; omega
   ·have HN : Hid (needN cs es (k + 1) = needN cs es k) := by show _ = _; rw [HST.out, needS, HI.out, if_neg hop]
    clear HST HI HA2
    have hob : (o != 9) = true := by simp [hop]
    go_wp2
    go_roundw
    case rel => exact ⟨k + 1, by omega, by go_num, by show OwnL _ _ _ _ _ _; rw [HN.out]; exact ho.out, he⟩
    case measure => simp [intOf]; omega
  ·obtain hkn : k = cs.length - 2 := by omega
   have hln := HLN.out k
   have hnl := HNI.out k (es.length - 1)
   obtain ⟨A', c', hsl, rL⟩ := OwnL.rd ho.out (by rw [hln]; omega)
   injection hsl with i1 i2 i3; subst i1
   obtain ⟨g1, o1, hg1, _, r1⟩ := rL.at (es.length - 1) (by omega)
   injection hg1 with hg1; injection hg1 with j1 j2; subst j1; subst j2
   have hgd : (needN cs es k).getD (es.length - 1) 0 = (needN cs es k)[es.length - 1]'(by omega) := by simp [show es.length - 1 < (needN cs es k).length by omega]
   have hF : stackN cs es = 1 + (needN cs es k)[es.length - 1]'(by omega) := by rw [HF.out, ← hkn, hgd]
   have HFF := Lib.hid hF
   have s1 : ∀ w', Ext wr w' → w'.cell? ⟨w1.heap.size, es.length - 1, none⟩ = some (.int .i64 ((needN cs es k)[es.length - 1]'(by omega))) := fun w' e => by have := r1 w' e; rwa [Nat.zero_add] at this
   rw [hgd] at hnl
   generalize (needN cs es k)[es.length - 1]'(by omega) = y at *
   have hi0 : (0 : Int) ≤ (es.length : Int) - 1 := by omega
   have hi1 : (es.length : Int) - 1 < (es.length : Int) := by omega
   have hi2 : ((es.length : Int) - 1).toNat = es.length - 1 := by omega
   clear hF hgd r1 rL i2 i3 hln
   go_wp2
   go_ret
   exact ⟨by rw [HFF.out]; rfl, e0.trans he⟩
theorem sFits_c (Ac : Option Addr) (cs : List Ins) (cc : Nat) (Ae : Option Addr) (es : List Int) (ce : Nat) (w : World) (hC : RdI w Ac cs cc) (hE : Is w Ae es ce) (hel : es.length ≤ 1000000) :
 Gives Tryz.prog 126 #[.agg #[.slice Ac cs.length cc, .slice Ae es.length ce]] w (.bool (fitsOk cs es)) := by
 have hl := hC.len
 obtain ⟨W0, hW0⟩ : ∃ W, Hid (W = w.alloc (.cells #[.slice Ac cs.length cc, .slice Ae es.length ce] 55)) := ⟨_, rfl⟩
 have e0 : Ext w W0 := ka hW0
 have BP : Box W0 w.heap.size #[.slice Ac cs.length cc, .slice Ae es.length ce] 55 := kb hW0
 have p0 : ∀ w', Ext W0 w' → w'.cell? ⟨w.heap.size, 0, none⟩ = some (Value.slice Ac cs.length cc) := fun w' e => BP.at 0 w' e
 have p1 : ∀ w', Ext W0 w' → w'.cell? ⟨w.heap.size, 1, none⟩ = some (Value.slice Ae es.length ce) := fun w' e => BP.at 1 w' e
 have d0 := p0 _ (Ext.refl _); have d1 := p1 _ (Ext.refl _)
 rw [hW0.out] at d0 d1
 have CS := Lib.hid (fun w' (e : Ext w w') => sSafe_c Ac cs cc Ae es ce w' (hC.ext e) (hE.ext e) hel)
 have CT := Lib.hid (fun w' (e : Ext w w') => sStack_c Ac cs cc Ae es ce w' (hC.ext e) (hE.ext e) hel)
 have HF : Hid (fitsOk cs es = (safeOk cs es && decide (stackN cs es ≤ 60))) := rfl
 generalize safeOk cs es = z at *
 generalize stackN cs es = n at *
 cases z
 all_goals
  go_enter Tryz.func126, Tryz.ntmps126
  go_wp2_with fail
  rw [← hW0.out]
  refine (CS.out _ e0).mono ?_; rintro _ w1 ⟨rfl, e1⟩
  have r0 := p0 w1 e1; have r1 := p1 w1 e1
  first
   | (go_wp2_with fail
      refine (CT.out _ (e0.trans e1)).mono ?_; rintro _ w2 ⟨rfl, e2⟩
      go_wp2
      go_ret
      exact ⟨by rw [HF.out]; rfl, (e0.trans e1).trans e2⟩)
   | (go_wp2
      go_ret
      exact ⟨by rw [HF.out]; rfl, e0.trans e1⟩)
end Go.Proofs.YtpmcofmdjckijaaGreat
