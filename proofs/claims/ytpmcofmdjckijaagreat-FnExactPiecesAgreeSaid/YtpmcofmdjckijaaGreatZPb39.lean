/- Texts, laid into one. -/
import Derived.Test.YtpmcofmdjckijaaGreatZPb38
import Derived.Test.YtpmcofmdjckijaaGreatZPb25
import Derived.Test.YtpmcofmdjckijaaGreatZPb32
import Derived.Test.YtpmcofmdjckijaaGreatZPb37
set_option linter.unusedVariables false
set_option linter.unusedSimpArgs false
set_option maxRecDepth 100000
set_option maxHeartbeats 16000000
namespace Go.Proofs.YtpmcofmdjckijaaGreat
open Go.RowKit Go.Sort
def mach0 : Mach := ⟨0, 0, [], [], 0, false, false, 0, 0, 0⟩
theorem sNewM_c (w : World) : Calls Tryz.prog 28 #[] w (MRes mach0 w) := by
 unfold MRes mval mcells mach0
 have br := Box.new w #[.int .i64 0, .int .i64 0, .slice none 0 0, .slice none 0 0, .int .i64 0, .bool false, .bool false, .int .i64 0, .int .i64 0, .int .i64 0] 67
 have t2 := br.cell; have tf := br.free
 go_enter Tryz.func28, Tryz.ntmps28
 go_wp2
 refine bodyPost_ret (v := .agg #[.int .i64 0, .int .i64 0, .slice none 0 0, .slice none 0 0, .int .i64 0, .bool false, .bool false, .int .i64 0, .int .i64 0, .int .i64 0]) (by simp [results, Tryz.results28, go_sem, t2, tf]) rfl ?_
 exact ⟨_, _, rfl, OwnL.nil _ _, OwnL.nil _ _, (fun b hb => by simp [Value.ownBlock] at hb), Ext_alloc _ (Ext.refl w)⟩
theorem sEqM_c (m : Mach) (A1 : Option Addr) (c1 : Nat) (A2 : Option Addr) (c2 : Nat) (B1 : Option Addr) (d1 : Nat) (B2 : Option Addr) (d2 : Nat) (w : World) (h1 : Is w A1 m.stack c1) (h2 : Is w A2 m.sums c2) (k1 : Is w B1 m.stack d1) (k2 : Is w B2 m.sums d2) :
 Gives Tryz.prog 29 #[mval m (.slice A1 m.stack.length c1) (.slice A2 m.sums.length c2), mval m (.slice B1 m.stack.length d1) (.slice B2 m.sums.length d2)] w (.bool true) := by
 obtain ⟨W1, hW1, X1, X2, e1, _⟩ := boxes2' w (mcells m (.slice A1 m.stack.length c1) (.slice A2 m.sums.length c2)) (mcells m (.slice B1 m.stack.length d1) (.slice B2 m.sums.length d2)) 67 67
 have C1 := Lib.hid (fun w' (e : Ext w w') => l4Ints_c A1 B1 m.stack m.stack c1 d1 w' (h1.ext e).1 (k1.ext e).1)
 have C2 := Lib.hid (fun w' (e : Ext w w') => l4Ints_c A2 B2 m.sums m.sums c2 d2 w' (h2.ext e).1 (k2.ext e).1)
 have g3 : ∀ w', Ext W1 w' → w'.cell? ⟨w.heap.size, 3, none⟩ = some (Value.slice A2 m.sums.length c2) := fun w' e => X1.at 3 w' e
 have g4 : ∀ w', Ext W1 w' → w'.cell? ⟨w.heap.size + 1, 3, none⟩ = some (Value.slice B2 m.sums.length d2) := fun w' e => X2.at 3 w' e
 clear X1 X2 h1 h2 k1 k2
 unfold mval
 unfold mcells at *
 go_enter Tryz.func29, Tryz.ntmps29
 go_wp2_with fail
 rw [← hW1.out]
 refine (C1.out _ e1).mono ?_; rintro _ w2 ⟨rfl, e2⟩
 rw [show (m.stack == m.stack) = true by simp]
 go_wp2_with fail
 refine (C2.out _ (e1.trans e2)).mono ?_; rintro _ w3 ⟨rfl, e3⟩
 rw [show (m.sums == m.sums) = true by simp]
 go_wp2
 go_ret
 exact ⟨rfl, (e1.trans e2).trans e3⟩
theorem iAdv_c (X : Nat → Prop) (W0 : World) (p : Nat) (m : Mach) (Ac : Option Addr) (cs : List Ins) (cc : Nat) (Ae : Option Addr) (es : List Int) (ce : Nat) (f : Bool) (w : World) (h : MV X W0 w p m) (hm : m.Ok) (hC : ∀ w', MR X w w' → RdI w' Ac cs cc) (hE : ∀ w', MR X w w' → Is w' Ae es ce) :
 Calls Tryz.prog 113 #[.pointer (some ⟨p, 0, none⟩), .agg #[.slice Ac cs.length cc, .slice Ae es.length ce], .bool f] w fun e w' => e = .returned (.tuple #[]) ∧ MV X W0 w' p (advF f cs m) ∧ MR X w w' := by
 obtain ⟨R, HRV⟩ : ∃ R, Hid (advF f cs m = R) := ⟨_, rfl⟩
 rw [HRV.out]
 obtain ⟨vs, vq, hB⟩ := h
 have hC0 := hC w (MR.refl _ _)
 have hl := hC0.len; have hcp := hC0.cap
 obtain ⟨W1, hW1⟩ : ∃ W, Hid (W = w.alloc (.cells #[.slice Ac cs.length cc, .slice Ae es.length ce] 55)) := ⟨_, rfl⟩
 have e1 : Ext w W1 := ka hW1
 have HB : Hid (MB (fun k => X k ∨ k = w.heap.size) W0 W1 p m vs vq) := by rw [hW1.out]; exact hB.guard _
 have HR1 : Hid (MR X w W1) := MR.of_ext e1 hB.low
 have HBP : Hid (Box W1 w.heap.size #[.slice Ac cs.length cc, .slice Ae es.length ce] 55) := by rw [hW1.out]; exact Box.new _ _ _
 have HXW : Hid (∀ k, X k → X k ∨ k = w.heap.size) := fun k hk => .inl hk
 have CF := Lib.hid (fun (m' : Mach) (c : Int) w' h => iFail_c (fun k => X k ∨ k = w.heap.size) W0 p m' c w' h)
 have HC := Lib.hid hC; have HE := Lib.hid hE
 have CI := Lib.hid (fun (d : Int) w' (hr : MR X w w') => iIsIdx_c Ac cs cc Ae es ce d w' (hC w' hr) (hE w' hr))
 have hpl : p < w.heap.size := hB.box.lt
 have hne : p ≠ w.heap.size := by omega
 have hne' : w.heap.size ≠ p := by omega
 have CT := Lib.hid (fun m' x w' h hs hq => iStep_c (fun k => X k ∨ k = w.heap.size) W0 p m' x w' h hs hq)
 have HOK := Lib.hid hm
 have j0 : ∀ w', Ext W1 w' → w'.cell? ⟨w.heap.size, 0, none⟩ = some (Value.slice Ac cs.length cc) := fun w' e => HBP.out.at 0 w' e
 have j1 : ∀ w', Ext W1 w' → w'.cell? ⟨w.heap.size, 1, none⟩ = some (Value.slice Ae es.length ce) := fun w' e => HBP.out.at 1 w' e
 have s0 : ∀ w', Ext W1 w' → w'.cell? ⟨p, 0, none⟩ = some (.int .i64 m.pc) := fun w' e => HB.out.box.at 0 w' e
 have s5 : ∀ w', Ext W1 w' → w'.cell? ⟨p, 5, none⟩ = some (.bool m.started) := fun w' e => HB.out.box.at 5 w' e
 have s7 : ∀ w', Ext W1 w' → w'.cell? ⟨p, 7, none⟩ = some (.int .i64 m.state) := fun w' e => HB.out.box.at 7 w' e
 have CI0 := Lib.hid (fun w' (e : Ext W1 w') => CI.out m.pc w' (HR1.out.trans (MR.of_ext e (fun k hk => HB.out.low k (.inl hk)))))
 clear hB hC0 e1 hm hC hE
 by_cases hst : m.state = 0
 rotate_left
 ·have HF : Hid (R = m) := by show _ = _; rw [← HRV.out]; unfold advF; rw [if_neg hst]
  have hsb : (m.state != 0) = true := by simp [hst]
  clear hst
  go_enter Tryz.func113, Tryz.ntmps113
  go_upto_region 1 with (fail)
  rw [← hW1.out]
  go_wp2
  first
   | exact bodyPost_end (results_none rfl _ _ _) rfl ⟨rfl, (by rw [HF.out]; exact ⟨_, _, HB.out.weak HXW.out⟩), HR1.out⟩
   | exact bodyPost_ret (results_none rfl _ _ _) rfl ⟨rfl, (by rw [HF.out]; exact ⟨_, _, HB.out.weak HXW.out⟩), HR1.out⟩
 have hsb : (m.state != 0) = false := by simp [hst]
 cases f
 ·have HF : Hid (R = m.fail 8) := by show _ = _; rw [← HRV.out]; unfold advF; rw [if_pos hst]; rfl
  go_enter Tryz.func113, Tryz.ntmps113
  go_upto_region 1 with (fail)
  rw [← hW1.out]
  go_wp2_with fail
  refine wp_region_quiet_below (by kernel_rfl) (by kernel_rfl) ?_
  repeat (go_big_quiet_step ((fail)))
  refine wpQuiet_nil ?_
  rintro w4 ⟨⟨nq, osq⟩, hq⟩
  have ew4 := ext_of_q hq
  clear hq nq osq
  go_wp2_with fail
  refine (CF.out m 8 _ ⟨_, _, HB.out.next ew4⟩).mono ?_; rintro _ w5 ⟨rfl, ⟨vs5, vq5, hm5⟩, hr5⟩
  have HRE := HR1.out.trans (((MR.of_ext ew4 HB.out.low).trans hr5).weak HXW.out)
  go_wp2
  first
   | exact bodyPost_end (results_none rfl _ _ _) rfl ⟨rfl, (by rw [HF.out]; exact ⟨_, _, hm5.weak HXW.out⟩), HRE⟩
   | exact bodyPost_ret (results_none rfl _ _ _) rfl ⟨rfl, (by rw [HF.out]; exact ⟨_, _, hm5.weak HXW.out⟩), HRE⟩
 cases hs : m.started
 ·have HA : Hid (R = advN cs 100001 m) := by show _ = _; rw [← HRV.out]; unfold advF; rw [if_pos hst, hs]; rfl
  rw [hs] at s5
  clear HRV hs
  go_enter Tryz.func113, Tryz.ntmps113
  go_upto_region 1 with (fail)
  rw [← hW1.out]
  go_wp2_with fail
  refine wp_region_quiet_below (by kernel_rfl) (by kernel_rfl) ?_
  repeat (go_big_quiet_step ((fail)))
  refine wpQuiet_nil ?_
  rintro w4 ⟨⟨nq, osq⟩, hq⟩
  have ew4 := ext_of_q hq
  clear hq nq osq
  have HB4 := Lib.hid (HB.out.next ew4)
  have HR4 := Lib.hid (HR1.out.trans ((MR.of_ext ew4 HB.out.low).weak HXW.out))
  have HBP4 := Lib.hid (HBP.out.ext ew4)
  have HV0 : Hid (MV (fun k => X k ∨ k = w.heap.size) W0 w4 p m) := ⟨_, _, HB4.out⟩
  clear HB HBP HR1 s0 s5 s7 j0 j1 ew4 CI0 hst hsb
  go_wp2_with fail
  go_loopw [6] (fun q wr => ∃ (k : Nat) (m' : Mach), k ≤ 100001 ∧ q = .int .i64 (k : Int) ∧ Hid m'.Ok ∧ Hid (advN cs (100001 - k) m' = R) ∧ Hid (MV (fun k => X k ∨ k = w.heap.size) W0 wr p m') ∧ Hid (MR (fun k => X k ∨ k = w.heap.size) w4 wr)) (fun q _ => 100002 - (intOf q).toNat)
  case atStart => exact ⟨0, m, by omega, rfl, HOK.out, HA.out.symm, HV0.out, MR.refl _ _⟩
  case round =>
   clear HV0 HOK HA HB4
   obtain ⟨k, m', hk, rfl, hok, hv, hmv, hr⟩ := hrel
   obtain ⟨vs', vq', hb'⟩ := hmv.out
   have HB := Lib.hid hb'
   have hbp : Box wr w.heap.size #[.slice Ac cs.length cc, .slice Ae es.length ce] 55 := (hr.out.kept _ (.inr rfl)).trans HBP4.out
   have j0 : ∀ w', Ext wr w' → w'.cell? ⟨w.heap.size, 0, none⟩ = some (Value.slice Ac cs.length cc) := fun w' e => hbp.at 0 w' e
   have j1 : ∀ w', Ext wr w' → w'.cell? ⟨w.heap.size, 1, none⟩ = some (Value.slice Ae es.length ce) := fun w' e => hbp.at 1 w' e
   have s0 : ∀ w', Ext wr w' → w'.cell? ⟨p, 0, none⟩ = some (.int .i64 m'.pc) := fun w' e => (HB.out.box.ext e).cell 0
   have s5 : wr.cell? ⟨p, 5, none⟩ = some (.bool m'.started) := HB.out.box.cell 5
   have s7 : wr.cell? ⟨p, 7, none⟩ = some (.int .i64 m'.state) := HB.out.box.cell 7
   have HRR := Lib.hid (HR4.out.trans (hr.out.weak HXW.out))
   have CI0 := Lib.hid (fun w' (e : Ext wr w') => CI.out m'.pc w' (HRR.out.trans (MR.of_ext e (fun k hk => HB.out.low k (.inl hk)))))
   clear hb' hbp hmv
   by_cases hrun : m'.state = 0
   rotate_left
   ·have HF : Hid (R = m') := by show _ = _; rw [← hv.out, advN_stop (by simp [hrun])]
    have hrb : (m'.state == 0) = false := by simp [hrun]
    clear hv
    go_wp2
    first
     | exact bodyPost_end (results_none rfl _ _ _) rfl ⟨rfl, (by rw [HF.out]; exact ⟨_, _, HB.out.weak HXW.out⟩), HRR.out⟩
     | exact bodyPost_ret (results_none rfl _ _ _) rfl ⟨rfl, (by rw [HF.out]; exact ⟨_, _, HB.out.weak HXW.out⟩), HRR.out⟩
   rw [hrun] at s7
   cases hst : m'.started
   rotate_left
   ·have HF : Hid (R = m') := by show _ = _; rw [← hv.out, advN_stop (by simp [hst])]
    rw [hst] at s5
    clear hv hst
    go_wp2
    first
     | exact bodyPost_end (results_none rfl _ _ _) rfl ⟨rfl, (by rw [HF.out]; exact ⟨_, _, HB.out.weak HXW.out⟩), HRR.out⟩
     | exact bodyPost_ret (results_none rfl _ _ _) rfl ⟨rfl, (by rw [HF.out]; exact ⟨_, _, HB.out.weak HXW.out⟩), HRR.out⟩
   rw [hst] at s5
   have HRUN := Lib.hid (And.intro hrun hst)
   clear hrun hst
   by_cases hk1 : k = 100001
   ·subst hk1
    have HF : Hid (R = m'.fail 8) := by show _ = _; rw [← hv.out]; show advN cs 0 m' = _; rw [advN, if_pos HRUN.out]
    clear hv
    go_wp2_with fail
    refine wp_region_quiet_below (by kernel_rfl) (by kernel_rfl) ?_
    repeat (go_big_quiet_step ((fail)))
    refine wpQuiet_nil ?_
    rintro w5 ⟨⟨nq, osq⟩, hq⟩
    have ew5 := ext_of_q hq
    clear hq nq osq
    go_wp2_with fail
    refine (CF.out m' 8 _ ⟨_, _, HB.out.next ew5⟩).mono ?_; rintro _ w6 ⟨rfl, ⟨vs5, vq5, hm5⟩, hr5⟩
    have HRE := HRR.out.trans (((MR.of_ext ew5 HB.out.low).trans hr5).weak HXW.out)
    go_wp2
    first
     | exact bodyPost_end (results_none rfl _ _ _) rfl ⟨rfl, (by rw [HF.out]; exact ⟨_, _, hm5.weak HXW.out⟩), HRE⟩
     | exact bodyPost_ret (results_none rfl _ _ _) rfl ⟨rfl, (by rw [HF.out]; exact ⟨_, _, hm5.weak HXW.out⟩), HRE⟩
   have hkb : ((k : Int) == 100001) = false := by rw [beq_eq_false_iff_ne]; omega
   have hkb2 : (k == 100001) = false := by rw [beq_eq_false_iff_ne]; omega
   cases hin : idxB cs m'.pc
   ·have HF : Hid (R = m'.fail 8) := by show _ = _; rw [← hv.out, advN_out HRUN.out hin]
    rw [hin] at CI0
    clear hv hin
    go_wp2_with fail
    refine wp_region_quiet_below (by kernel_rfl) (by kernel_rfl) ?_
    repeat (go_big_quiet_step ((go_at_call 146; exact Calls.regrown_of (CI0.out _ (Ext_regrown _ _ (Ext.refl _))))))
    refine wpQuiet_nil ?_
    rintro w5 ⟨⟨nq, osq⟩, hq⟩
    have ew5 := ext_of_q hq
    clear hq nq osq
    go_wp2_with fail
    refine (CF.out m' 8 _ ⟨_, _, HB.out.next ew5⟩).mono ?_; rintro _ w6 ⟨rfl, ⟨vs5, vq5, hm5⟩, hr5⟩
    have HRE := HRR.out.trans (((MR.of_ext ew5 HB.out.low).trans hr5).weak HXW.out)
    go_wp2
    first
     | exact bodyPost_end (results_none rfl _ _ _) rfl ⟨rfl, (by rw [HF.out]; exact ⟨_, _, hm5.weak HXW.out⟩), HRE⟩
     | exact bodyPost_ret (results_none rfl _ _ _) rfl ⟨rfl, (by rw [HF.out]; exact ⟨_, _, hm5.weak HXW.out⟩), HRE⟩
   rw [hin] at CI0
   have HN : Hid (advN cs (100001 - (k + 1)) (m'.step (insAt cs m'.pc)) = R) := by show _ = _; rw [← hv.out, show 100001 - k = (100001 - (k + 1)) + 1 by omega, advN_go HRUN.out hin]
   obtain ⟨j, hj, hjp⟩ := idxB_in hin
   have HI : Hid (insAt cs m'.pc = cs[j]) := by show _ = _; rw [hjp]; exact insAt_nat hj
   have hIw := HC.out wr HRR.out
   obtain ⟨b, off, hAc, _, hcc⟩ := hIw.at j hj
   subst hAc
   have HOK2 := Lib.hid (hok.out.step (insAt cs m'.pc))
   rw [HI.out] at HOK2
   replace HN := Lib.hid HN.out
   rw [HI.out] at HN
   have c0 : ∀ w', Ext wr w' → w'.cell? ⟨b, off + j * 3, none⟩ = some (.int .i64 cs[j].1) := fun w' e => (hcc w' e).1
   have c1 : ∀ w', Ext wr w' → w'.cell? ⟨b, off + j * 3 + 1, none⟩ = some (.int .i64 cs[j].2.1) := fun w' e => (hcc w' e).2.1
   have c2 : ∀ w', Ext wr w' → w'.cell? ⟨b, off + j * 3 + 2, none⟩ = some (.int .i64 cs[j].2.2) := fun w' e => (hcc w' e).2.2
   rw [hjp] at s0 CI0
   have hji : (j : Int) < (cs.length : Int) := by omega
   generalize cs[j] = x at *
   clear hv hin hcc hIw hjp HI
   go_wp2_with fail
   refine wp_region_quiet_below (by kernel_rfl) (by kernel_rfl) ?_
   repeat (go_big_quiet_step ((go_at_call 146; exact Calls.regrown_of (CI0.out _ (Ext_regrown _ _ (Ext.refl _))))))
   refine wpQuiet_nil ?_
   rintro w5 ⟨⟨nq, osq⟩, hq⟩
   have ew5 := ext_of_q hq
   clear hq nq osq
   have j05 := fun w' (e : Ext w5 w') => j0 w' (ew5.trans e)
   have s05 := fun w' (e : Ext w5 w') => s0 w' (ew5.trans e)
   have c05 := fun w' (e : Ext w5 w') => c0 w' (ew5.trans e)
   have c15 := fun w' (e : Ext w5 w') => c1 w' (ew5.trans e)
   have c25 := fun w' (e : Ext w5 w') => c2 w' (ew5.trans e)
   go_wp2_with fail
   refine region_qtail_below 9 (by kernel_rfl) (by kernel_rfl) ?_
   simp only [List.take_succ_cons, List.take_zero, List.drop_succ_cons, List.drop_zero]
   repeat (go_big_quiet_step (fail))
   refine wpQuiet_nil ?_
   rintro w6 ⟨⟨nq, osq⟩, hq⟩
   have e56 := ew5.trans (ext_of_q hq)
   clear hq nq osq
   go_wp2_with fail
   refine (CT.out m' x _ ⟨_, _, HB.out.next e56⟩ hok.out.st hok.out.sm).mono ?_; rintro _ w7 ⟨rfl, hm6, hr6⟩
   have HM6 := Lib.hid hm6
   have HR6 := Lib.hid (hr.out.trans ((MR.of_ext e56 HB.out.low).trans hr6))
   clear hm6 hr6
   go_wp2
   go_roundw
   case rel => exact ⟨k + 1, m'.step x, by omega, by go_num, HOK2.out, HN.out, HM6.out, HR6.out⟩
   case measure => simp [intOf]; omega
 rw [hs] at s5
 cases hx : idxB cs m.pc
 ·have HF : Hid (R = m.fail 8) := by show _ = _; rw [← HRV.out]; unfold advF; rw [if_pos hst, hs]; unfold idxB at hx; rw [hx]; rfl
  rw [hx] at CI0
  clear HRV hs hx
  go_enter Tryz.func113, Tryz.ntmps113
  go_upto_region 1 with (fail)
  rw [← hW1.out]
  go_wp2_with fail
  refine wp_region_quiet_below (by kernel_rfl) (by kernel_rfl) ?_
  repeat (go_big_quiet_step ((go_at_call 146; exact Calls.regrown_of (CI0.out _ (Ext_regrown _ _ (Ext.refl _))))))
  refine wpQuiet_nil ?_
  rintro w4 ⟨⟨nq, osq⟩, hq⟩
  have ew4 := ext_of_q hq
  clear hq nq osq
  go_wp2_with fail
  refine (CF.out m 8 _ ⟨_, _, HB.out.next ew4⟩).mono ?_; rintro _ w5 ⟨rfl, ⟨vs5, vq5, hm5⟩, hr5⟩
  have HRE := HR1.out.trans (((MR.of_ext ew4 HB.out.low).trans hr5).weak HXW.out)
  go_wp2
  first
   | exact bodyPost_end (results_none rfl _ _ _) rfl ⟨rfl, (by rw [HF.out]; exact ⟨_, _, hm5.weak HXW.out⟩), HRE⟩
   | exact bodyPost_ret (results_none rfl _ _ _) rfl ⟨rfl, (by rw [HF.out]; exact ⟨_, _, hm5.weak HXW.out⟩), HRE⟩
 ·have HA : Hid (R = advN cs 100001 m) := by show _ = _; rw [← HRV.out]; unfold advF; rw [if_pos hst, hs]; unfold idxB at hx; rw [hx]; rfl
  rw [hx] at CI0
  clear HRV hs hx
  go_enter Tryz.func113, Tryz.ntmps113
  go_upto_region 1 with (fail)
  rw [← hW1.out]
  go_wp2_with fail
  refine wp_region_quiet_below (by kernel_rfl) (by kernel_rfl) ?_
  repeat (go_big_quiet_step ((go_at_call 146; exact Calls.regrown_of (CI0.out _ (Ext_regrown _ _ (Ext.refl _))))))
  refine wpQuiet_nil ?_
  rintro w4 ⟨⟨nq, osq⟩, hq⟩
  have ew4 := ext_of_q hq
  clear hq nq osq
  have HB4 := Lib.hid (HB.out.next ew4)
  have HR4 := Lib.hid (HR1.out.trans ((MR.of_ext ew4 HB.out.low).weak HXW.out))
  have HBP4 := Lib.hid (HBP.out.ext ew4)
  have HV0 : Hid (MV (fun k => X k ∨ k = w.heap.size) W0 w4 p m) := ⟨_, _, HB4.out⟩
  clear HB HBP HR1 s0 s5 s7 j0 j1 ew4 CI0 hst hsb
  go_wp2_with fail
  go_loopw [6] (fun q wr => ∃ (k : Nat) (m' : Mach), k ≤ 100001 ∧ q = .int .i64 (k : Int) ∧ Hid m'.Ok ∧ Hid (advN cs (100001 - k) m' = R) ∧ Hid (MV (fun k => X k ∨ k = w.heap.size) W0 wr p m') ∧ Hid (MR (fun k => X k ∨ k = w.heap.size) w4 wr)) (fun q _ => 100002 - (intOf q).toNat)
  case atStart => exact ⟨0, m, by omega, rfl, HOK.out, HA.out.symm, HV0.out, MR.refl _ _⟩
  case round =>
   clear HV0 HOK HA HB4
   obtain ⟨k, m', hk, rfl, hok, hv, hmv, hr⟩ := hrel
   obtain ⟨vs', vq', hb'⟩ := hmv.out
   have HB := Lib.hid hb'
   have hbp : Box wr w.heap.size #[.slice Ac cs.length cc, .slice Ae es.length ce] 55 := (hr.out.kept _ (.inr rfl)).trans HBP4.out
   have j0 : ∀ w', Ext wr w' → w'.cell? ⟨w.heap.size, 0, none⟩ = some (Value.slice Ac cs.length cc) := fun w' e => hbp.at 0 w' e
   have j1 : ∀ w', Ext wr w' → w'.cell? ⟨w.heap.size, 1, none⟩ = some (Value.slice Ae es.length ce) := fun w' e => hbp.at 1 w' e
   have s0 : ∀ w', Ext wr w' → w'.cell? ⟨p, 0, none⟩ = some (.int .i64 m'.pc) := fun w' e => (HB.out.box.ext e).cell 0
   have s5 : wr.cell? ⟨p, 5, none⟩ = some (.bool m'.started) := HB.out.box.cell 5
   have s7 : wr.cell? ⟨p, 7, none⟩ = some (.int .i64 m'.state) := HB.out.box.cell 7
   have HRR := Lib.hid (HR4.out.trans (hr.out.weak HXW.out))
   have CI0 := Lib.hid (fun w' (e : Ext wr w') => CI.out m'.pc w' (HRR.out.trans (MR.of_ext e (fun k hk => HB.out.low k (.inl hk)))))
   clear hb' hbp hmv
   by_cases hrun : m'.state = 0
   rotate_left
   ·have HF : Hid (R = m') := by show _ = _; rw [← hv.out, advN_stop (by simp [hrun])]
    have hrb : (m'.state == 0) = false := by simp [hrun]
    clear hv
    go_wp2
    first
     | exact bodyPost_end (results_none rfl _ _ _) rfl ⟨rfl, (by rw [HF.out]; exact ⟨_, _, HB.out.weak HXW.out⟩), HRR.out⟩
     | exact bodyPost_ret (results_none rfl _ _ _) rfl ⟨rfl, (by rw [HF.out]; exact ⟨_, _, HB.out.weak HXW.out⟩), HRR.out⟩
   rw [hrun] at s7
   cases hst : m'.started
   rotate_left
   ·have HF : Hid (R = m') := by show _ = _; rw [← hv.out, advN_stop (by simp [hst])]
    rw [hst] at s5
    clear hv hst
    go_wp2
    first
     | exact bodyPost_end (results_none rfl _ _ _) rfl ⟨rfl, (by rw [HF.out]; exact ⟨_, _, HB.out.weak HXW.out⟩), HRR.out⟩
     | exact bodyPost_ret (results_none rfl _ _ _) rfl ⟨rfl, (by rw [HF.out]; exact ⟨_, _, HB.out.weak HXW.out⟩), HRR.out⟩
   rw [hst] at s5
   have HRUN := Lib.hid (And.intro hrun hst)
   clear hrun hst
   by_cases hk1 : k = 100001
   ·subst hk1
    have HF : Hid (R = m'.fail 8) := by show _ = _; rw [← hv.out]; show advN cs 0 m' = _; rw [advN, if_pos HRUN.out]
    clear hv
    go_wp2_with fail
    refine wp_region_quiet_below (by kernel_rfl) (by kernel_rfl) ?_
    repeat (go_big_quiet_step ((fail)))
    refine wpQuiet_nil ?_
    rintro w5 ⟨⟨nq, osq⟩, hq⟩
    have ew5 := ext_of_q hq
    clear hq nq osq
    go_wp2_with fail
    refine (CF.out m' 8 _ ⟨_, _, HB.out.next ew5⟩).mono ?_; rintro _ w6 ⟨rfl, ⟨vs5, vq5, hm5⟩, hr5⟩
    have HRE := HRR.out.trans (((MR.of_ext ew5 HB.out.low).trans hr5).weak HXW.out)
    go_wp2
    first
     | exact bodyPost_end (results_none rfl _ _ _) rfl ⟨rfl, (by rw [HF.out]; exact ⟨_, _, hm5.weak HXW.out⟩), HRE⟩
     | exact bodyPost_ret (results_none rfl _ _ _) rfl ⟨rfl, (by rw [HF.out]; exact ⟨_, _, hm5.weak HXW.out⟩), HRE⟩
   have hkb : ((k : Int) == 100001) = false := by rw [beq_eq_false_iff_ne]; omega
   have hkb2 : (k == 100001) = false := by rw [beq_eq_false_iff_ne]; omega
   cases hin : idxB cs m'.pc
   ·have HF : Hid (R = m'.fail 8) := by show _ = _; rw [← hv.out, advN_out HRUN.out hin]
    rw [hin] at CI0
    clear hv hin
    go_wp2_with fail
    refine wp_region_quiet_below (by kernel_rfl) (by kernel_rfl) ?_
    repeat (go_big_quiet_step ((go_at_call 146; exact Calls.regrown_of (CI0.out _ (Ext_regrown _ _ (Ext.refl _))))))
    refine wpQuiet_nil ?_
    rintro w5 ⟨⟨nq, osq⟩, hq⟩
    have ew5 := ext_of_q hq
    clear hq nq osq
    go_wp2_with fail
    refine (CF.out m' 8 _ ⟨_, _, HB.out.next ew5⟩).mono ?_; rintro _ w6 ⟨rfl, ⟨vs5, vq5, hm5⟩, hr5⟩
    have HRE := HRR.out.trans (((MR.of_ext ew5 HB.out.low).trans hr5).weak HXW.out)
    go_wp2
    first
     | exact bodyPost_end (results_none rfl _ _ _) rfl ⟨rfl, (by rw [HF.out]; exact ⟨_, _, hm5.weak HXW.out⟩), HRE⟩
     | exact bodyPost_ret (results_none rfl _ _ _) rfl ⟨rfl, (by rw [HF.out]; exact ⟨_, _, hm5.weak HXW.out⟩), HRE⟩
   rw [hin] at CI0
   have HN : Hid (advN cs (100001 - (k + 1)) (m'.step (insAt cs m'.pc)) = R) := by show _ = _; rw [← hv.out, show 100001 - k = (100001 - (k + 1)) + 1 by omega, advN_go HRUN.out hin]
   obtain ⟨j, hj, hjp⟩ := idxB_in hin
   have HI : Hid (insAt cs m'.pc = cs[j]) := by show _ = _; rw [hjp]; exact insAt_nat hj
   have hIw := HC.out wr HRR.out
   obtain ⟨b, off, hAc, _, hcc⟩ := hIw.at j hj
   subst hAc
   have HOK2 := Lib.hid (hok.out.step (insAt cs m'.pc))
   rw [HI.out] at HOK2
   replace HN := Lib.hid HN.out
   rw [HI.out] at HN
   have c0 : ∀ w', Ext wr w' → w'.cell? ⟨b, off + j * 3, none⟩ = some (.int .i64 cs[j].1) := fun w' e => (hcc w' e).1
   have c1 : ∀ w', Ext wr w' → w'.cell? ⟨b, off + j * 3 + 1, none⟩ = some (.int .i64 cs[j].2.1) := fun w' e => (hcc w' e).2.1
   have c2 : ∀ w', Ext wr w' → w'.cell? ⟨b, off + j * 3 + 2, none⟩ = some (.int .i64 cs[j].2.2) := fun w' e => (hcc w' e).2.2
   rw [hjp] at s0 CI0
   have hji : (j : Int) < (cs.length : Int) := by omega
   generalize cs[j] = x at *
   clear hv hin hcc hIw hjp HI
   go_wp2_with fail
   refine wp_region_quiet_below (by kernel_rfl) (by kernel_rfl) ?_
   repeat (go_big_quiet_step ((go_at_call 146; exact Calls.regrown_of (CI0.out _ (Ext_regrown _ _ (Ext.refl _))))))
   refine wpQuiet_nil ?_
   rintro w5 ⟨⟨nq, osq⟩, hq⟩
   have ew5 := ext_of_q hq
   clear hq nq osq
   have j05 := fun w' (e : Ext w5 w') => j0 w' (ew5.trans e)
   have s05 := fun w' (e : Ext w5 w') => s0 w' (ew5.trans e)
   have c05 := fun w' (e : Ext w5 w') => c0 w' (ew5.trans e)
   have c15 := fun w' (e : Ext w5 w') => c1 w' (ew5.trans e)
   have c25 := fun w' (e : Ext w5 w') => c2 w' (ew5.trans e)
   go_wp2_with fail
   refine region_qtail_below 9 (by kernel_rfl) (by kernel_rfl) ?_
   simp only [List.take_succ_cons, List.take_zero, List.drop_succ_cons, List.drop_zero]
   repeat (go_big_quiet_step (fail))
   refine wpQuiet_nil ?_
   rintro w6 ⟨⟨nq, osq⟩, hq⟩
   have e56 := ew5.trans (ext_of_q hq)
   clear hq nq osq
   go_wp2_with fail
   refine (CT.out m' x _ ⟨_, _, HB.out.next e56⟩ hok.out.st hok.out.sm).mono ?_; rintro _ w7 ⟨rfl, hm6, hr6⟩
   have HM6 := Lib.hid hm6
   have HR6 := Lib.hid (hr.out.trans ((MR.of_ext e56 HB.out.low).trans hr6))
   clear hm6 hr6
   go_wp2
   go_roundw
   case rel => exact ⟨k + 1, m'.step x, by omega, by go_num, HOK2.out, HN.out, HM6.out, HR6.out⟩
   case measure => simp [intOf]; omega
theorem takeI_byte {m : Mach} {x : Ins} {b : Int} (h : m.state = 0) (h1 : ¬ (x.1 = 1 ∧ inB m.left 1 x.2.1 = false)) (h15 : x.1 = 15 → m.sums.length ≠ 0) : m.byteI x b = m.takeI x b := by
 unfold Mach.byteI Mach.takeI
 rw [if_neg h1]
 by_cases h : x.1 = 15
 ·rw [if_pos h, if_pos h, if_neg (h15 h)]
  by_cases hb : m.sums.getLastD 0 = b
  ·rw [if_pos hb, if_pos hb]; exact (rd_take (m := ({ m with sums := m.sums.dropLast } : Mach).eat b) (by assumption) x b).symm
  ·rw [if_neg hb, if_neg hb]
 ·rw [if_neg h, if_neg h]
  exact (rd_take (m := m.eat b) (by assumption) x b).symm
theorem iFeed_c (X : Nat → Prop) (W0 : World) (p : Nat) (m : Mach) (Ac : Option Addr) (cs : List Ins) (cc : Nat) (Ae : Option Addr) (es : List Int) (ce : Nat) (f : Bool) (b : Int) (w : World) (h : MV X W0 w p m) (hm : m.Ok) (hC : ∀ w', MR X w w' → RdI w' Ac cs cc) (hE : ∀ w', MR X w w' → Is w' Ae es ce) (hop : f = true → ∀ j, j < cs.length → (1 ≤ (insAt cs (j : Int)).1 ∧ (insAt cs (j : Int)).1 ≤ 17) ∧ ((insAt cs (j : Int)).1 = 1 → 1 ≤ (insAt cs (j : Int)).2.1 ∧ (insAt cs (j : Int)).2.1 ≤ 4)) (hb : 0 ≤ b ∧ b ≤ 255) :
 Calls Tryz.prog 63 #[.pointer (some ⟨p, 0, none⟩), .agg #[.slice Ac cs.length cc, .slice Ae es.length ce], .bool f, .int .i64 b] w fun e w' => e = .returned (.tuple #[]) ∧ MV X W0 w' p (feedF f cs m b) ∧ MR X w w' := by
 obtain ⟨R, HRV⟩ : ∃ R, Hid (feedF f cs m b = R) := ⟨_, rfl⟩
 rw [HRV.out]
 obtain ⟨vs, vq, hB⟩ := h
 have hC0 := hC w (MR.refl _ _)
 have hl := hC0.len; have hcp := hC0.cap
 obtain ⟨W1, hW1⟩ : ∃ W, Hid (W = w.alloc (.cells #[.slice Ac cs.length cc, .slice Ae es.length ce] 55)) := ⟨_, rfl⟩
 have e1 : Ext w W1 := ka hW1
 have HB : Hid (MB (fun k => X k ∨ k = w.heap.size) W0 W1 p m vs vq) := by rw [hW1.out]; exact hB.guard _
 have HR1 : Hid (MR X w W1) := MR.of_ext e1 hB.low
 have HBP : Hid (Box W1 w.heap.size #[.slice Ac cs.length cc, .slice Ae es.length ce] 55) := by rw [hW1.out]; exact Box.new _ _ _
 have HXW : Hid (∀ k, X k → X k ∨ k = w.heap.size) := fun k hk => .inl hk
 have CF := Lib.hid (fun (m' : Mach) (c : Int) w' h => iFail_c (fun k => X k ∨ k = w.heap.size) W0 p m' c w' h)
 have HC := Lib.hid hC; have HE := Lib.hid hE
 have CI := Lib.hid (fun (d : Int) w' (hr : MR X w w') => iIsIdx_c Ac cs cc Ae es ce d w' (hC w' hr) (hE w' hr))
 have hpl : p < w.heap.size := hB.box.lt
 have hne : p ≠ w.heap.size := by omega
 have hne' : w.heap.size ≠ p := by omega
 have HV1 : Hid (MV (fun k => X k ∨ k = w.heap.size) W0 W1 p m) := ⟨_, _, HB.out⟩
 have CA := Lib.hid (iAdv_c (fun k => X k ∨ k = w.heap.size) W0 p m Ac cs cc Ae es ce f W1 HV1.out hm (fun w' hr => HC.out w' (HR1.out.trans (hr.weak HXW.out))) (fun w' hr => HE.out w' (HR1.out.trans (hr.weak HXW.out))))
 have HOK := Lib.hid (advF_ok (f := f) (cs := cs) hm)
 have HRUN : Hid ((advF f cs m).state = 0 → f = true ∧ inB (advF f cs m).pc 0 ((cs.length : Int) - 1) = true) := fun h => advF_run h
 have HFE : Hid (R = feedO cs (advF f cs m) b) := by show _ = _; rw [← HRV.out]; rfl
 have j0 := HBP.out.cell 0; have j1 := HBP.out.cell 1
 have j0' : W1.cell? ⟨w.heap.size, 0, none⟩ = some (Value.slice Ac cs.length cc) := j0
 have j1' : W1.cell? ⟨w.heap.size, 1, none⟩ = some (Value.slice Ae es.length ce) := j1
 have HOP := Lib.hid hop; have HBB := Lib.hid hb
 generalize advF f cs m = q at *
 clear hB hC0 e1 hm hC hE j0 j1 HV1 HRV hop hb CI
 go_enter Tryz.func63, Tryz.ntmps63
 go_upto_region 1 with (fail)
 rw [← hW1.out]
 go_wp2_with fail
 refine CA.out.mono ?_; rintro _ w2 ⟨rfl, ⟨vs2, vq2, hm2⟩, hr2⟩
 have HB2 := Lib.hid hm2
 have HR2 := Lib.hid (HR1.out.trans (hr2.weak HXW.out))
 have HBP2 : Hid (Box w2 w.heap.size #[.slice Ac cs.length cc, .slice Ae es.length ce] 55) := (hr2.kept _ (.inr rfl)).trans HBP.out
 have s7 : w2.cell? ⟨p, 7, none⟩ = some (.int .i64 q.state) := HB2.out.box.cell 7
 clear hm2 hr2 CA j0' j1' HB HR1 HBP hW1
 by_cases h1 : q.state = 1
 ·have HF : Hid (R = q.fail 7) := by show _ = _; rw [HFE.out]; unfold feedO; rw [if_pos h1]
  have hb1 : (q.state == 1) = true := by simp [h1]
  clear h1
  go_wp2_with fail
  refine (CF.out q 7 _ ⟨_, _, HB2.out⟩).mono ?_; rintro _ w3 ⟨rfl, ⟨vs3, vq3, hm3⟩, hr3⟩
  have HRE := HR2.out.trans (hr3.weak HXW.out)
  go_wp2
  first
   | exact bodyPost_end (results_none rfl _ _ _) rfl ⟨rfl, (by rw [HF.out]; exact ⟨_, _, hm3.weak HXW.out⟩), HRE⟩
   | exact bodyPost_ret (results_none rfl _ _ _) rfl ⟨rfl, (by rw [HF.out]; exact ⟨_, _, hm3.weak HXW.out⟩), HRE⟩
 have n1 : (q.state == 1) = false := by simp [h1]
 by_cases h0 : q.state = 0
 rotate_left
 ·have HF : Hid (R = q) := by show _ = _; rw [HFE.out]; unfold feedO; rw [if_neg h1, if_neg h0]
  have n0 : (q.state == 0) = false := by simp [h0]
  clear h1 h0
  go_wp2
  first
   | exact bodyPost_end (results_none rfl _ _ _) rfl ⟨rfl, (by rw [HF.out]; exact ⟨_, _, HB2.out.weak HXW.out⟩), HR2.out⟩
   | exact bodyPost_ret (results_none rfl _ _ _) rfl ⟨rfl, (by rw [HF.out]; exact ⟨_, _, HB2.out.weak HXW.out⟩), HR2.out⟩
 have hb0 : (q.state == 0) = true := by simp [h0]
 obtain ⟨hft, hpc⟩ := HRUN.out h0
 obtain ⟨j, hj, hjp⟩ := idxB_in (cs := cs) (k := q.pc) hpc
 have HI : Hid (insAt cs q.pc = cs[j]) := by show _ = _; rw [hjp]; exact insAt_nat hj
 have HBY : Hid (R = q.byteI cs[j] b) := by show _ = _; rw [HFE.out]; unfold feedO; rw [if_neg h1, if_pos h0]; unfold Mach.byte; rw [hpc, if_pos rfl, HI.out]
 have HOPJ := Lib.hid (HOP.out hft j hj)
 rw [insAt_nat hj] at HOPJ
 have hIw := HC.out w2 HR2.out
 obtain ⟨g, off, hAc, _, hcc⟩ := hIw.at j hj
 subst hAc
 have c0 : ∀ w', Ext w2 w' → w'.cell? ⟨g, off + j * 3, none⟩ = some (.int .i64 cs[j].1) := fun w' e => (hcc w' e).1
 have c1 : ∀ w', Ext w2 w' → w'.cell? ⟨g, off + j * 3 + 1, none⟩ = some (.int .i64 cs[j].2.1) := fun w' e => (hcc w' e).2.1
 have c2 : ∀ w', Ext w2 w' → w'.cell? ⟨g, off + j * 3 + 2, none⟩ = some (.int .i64 cs[j].2.2) := fun w' e => (hcc w' e).2.2
 have j0 : ∀ w', Ext w2 w' → w'.cell? ⟨w.heap.size, 0, none⟩ = some (Value.slice (some ⟨g, off, none⟩) cs.length cc) := fun w' e => HBP2.out.at 0 w' e
 have s0 : ∀ w', Ext w2 w' → w'.cell? ⟨p, 0, none⟩ = some (.int .i64 (j : Int)) := fun w' e => by rw [← hjp]; exact (HB2.out.box.ext e).cell 0
 have hji : (j : Int) < (cs.length : Int) := by omega
 have HS0 := Lib.hid h0
 generalize cs[j] = x at *
 obtain ⟨o, a, z⟩ := x
 dsimp only at *
 clear hcc hIw hjp HI hpc HRUN HOP h1 h0 HC HE HFE CF
 go_wp2_with fail
 obtain ⟨w4, hw4⟩ : ∃ W, W = w2 := ⟨_, rfl⟩
 have SY : Hid (∀ w', Ext w2 w' → Ext w2 w' ∧ True) := fun _ h1 => ⟨h1, trivial⟩
 go_region_held3 (fun w' => Ext w2 w' ∧ True) (first | exact SY.out _ (Ext_drew (Ext.refl _)) | exact SY.out _ (by assumption) | exact SY.out _ (Ext_alloc _ (Ext_drew (Ext.refl _)))) (fail)
 clear SY
 subst hw4
 obtain ⟨W5, hW5⟩ : ∃ W, Hid (W = (w4.alloc (.cells #[.int .i64 o, .int .i64 a, .int .i64 z] 79)).drew) := ⟨_, rfl⟩
 rw [← hW5.out]
 have e45 : Ext w4 W5 := by rw [hW5.out]; exact Ext_drew (Ext_alloc _ (Ext.refl _))
 have HB5 : Hid (MB (fun k => (X k ∨ k = w.heap.size) ∨ k = w4.heap.size) W0 W5 p q vs2 vq2) := by rw [hW5.out]; exact (HB2.out.guard _).next (Ext_drew (Ext.refl _))
 have HBI : Hid (Box W5 w4.heap.size #[.int .i64 o, .int .i64 a, .int .i64 z] 79) := by rw [hW5.out]; exact (Box.new _ _ _).ext (Ext_drew (Ext.refl _))
 have HR5 : Hid (MR X w W5) := HR2.out.trans (MR.of_ext e45 (fun k hk => HB2.out.low k (.inl hk)))
 have HX2 : Hid (∀ k, X k → (X k ∨ k = w.heap.size) ∨ k = w4.heap.size) := fun k hk => .inl (.inl hk)
 have hne4 : p ≠ w4.heap.size := by have := HB2.out.box.lt; omega
 have hne4' : w4.heap.size ≠ p := fun hh => hne4 hh.symm
 clear j0 s0 c0 c1 c2 e45 hW5 HB2 HBP2 s7 HXW
 have f0 : ∀ w', Ext W5 w' → w'.cell? ⟨w4.heap.size, 0, none⟩ = some (.int .i64 o) := fun w' e => HBI.out.at 0 w' e
 have f1 : ∀ w', Ext W5 w' → w'.cell? ⟨w4.heap.size, 1, none⟩ = some (.int .i64 a) := fun w' e => HBI.out.at 1 w' e
 have f2 : ∀ w', Ext W5 w' → w'.cell? ⟨w4.heap.size, 2, none⟩ = some (.int .i64 z) := fun w' e => HBI.out.at 2 w' e
 have s4 : ∀ w', Ext W5 w' → w'.cell? ⟨p, 4, none⟩ = some (.int .i64 q.left) := fun w' e => (HB5.out.box.ext e).cell 4
 obtain ⟨Aq, cq, hvq, _⟩ := OwnL.rd HB5.out.oq (by have := HOK.out.sm; omega)
 subst hvq
 have r3 : ∀ w', Ext W5 w' → w'.cell? ⟨p, 3, none⟩ = some (Value.slice Aq q.sums.length cq) := fun w' e => (HB5.out.box.ext e).cell 3
 have CF2 := Lib.hid (fun (m' : Mach) (c : Int) w' h => iFail_c (fun k => (X k ∨ k = w.heap.size) ∨ k = w4.heap.size) W0 p m' c w' h)
 have CTK := Lib.hid (fun w' h h1 h15 => iTake_c (fun k => (X k ∨ k = w.heap.size) ∨ k = w4.heap.size) W0 p q (o, a, z) b w' h HOK.out HOPJ.out.1 h1 h15 HBB.out)
 have CI := Lib.hid (fun w' => iInRange_c q.left 1 a w')
 by_cases h1 : o = 1
 ·subst h1
  cases hz : (decide ((1 : Int) ≤ q.left) && decide (q.left ≤ a))
  ·have HF : Hid (R = q.fail 8) := by show _ = _; rw [HBY.out]; unfold Mach.byteI; rw [if_pos ⟨rfl, hz⟩]
   rw [hz] at CI
   clear hz
   go_wp2_with fail
   refine wp_region_quiet_below (by kernel_rfl) (by kernel_rfl) ?_
   repeat (go_big_quiet_step ((go_at_call 97; exact Calls.regrown_of (CI.out _))))
   refine wpQuiet_nil ?_
   rintro w6 ⟨⟨nq, osq⟩, hq⟩
   have ew6 := ext_of_q hq
   clear hq nq osq
   go_wp2_with fail
   refine (CF2.out q 8 _ ⟨_, _, HB5.out.next ew6⟩).mono ?_; rintro _ w7 ⟨rfl, ⟨vs7, vq7, hm7⟩, hr7⟩
   have HRE := HR5.out.trans (((MR.of_ext ew6 HB5.out.low).trans hr7).weak HX2.out)
   go_wp2
   first
    | exact bodyPost_end (results_none rfl _ _ _) rfl ⟨rfl, (by rw [HF.out]; exact ⟨_, _, hm7.weak HX2.out⟩), HRE⟩
    | exact bodyPost_ret (results_none rfl _ _ _) rfl ⟨rfl, (by rw [HF.out]; exact ⟨_, _, hm7.weak HX2.out⟩), HRE⟩
  ·have HLR : Hid (1 ≤ q.left ∧ q.left ≤ a) := by show _ ∧ _; simpa using hz
   have HZ := Lib.hid hz
   rw [hz] at CI
   clear hz
   go_wp2_with fail
   refine wp_region_quiet_below (by kernel_rfl) (by kernel_rfl) ?_
   repeat (go_big_quiet_step ((go_at_call 97; exact Calls.regrown_of (CI.out _))))
   refine wpQuiet_nil ?_
   rintro w6 ⟨⟨nq, osq⟩, hq⟩
   have ew6 := ext_of_q hq
   clear hq nq osq
   replace f0 := kx f0 ew6
   replace f1 := kx f1 ew6
   replace f2 := kx f2 ew6
   have HF : Hid (R = q.takeI (1, a, z) b) := by show _ = _; rw [HBY.out]; exact takeI_byte HS0.out (by intro hh; have := hh.2; unfold inB at this; rw [HZ.out] at this; cases this) (by intro hh; exact absurd hh (by show ¬ (1 : Int) = 15; decide))
   go_wp2_with fail
   refine (CTK.out _ ⟨_, _, HB5.out.next ew6⟩ (fun _ => ⟨(HOPJ.out.2 (by trivial)).1, (HOPJ.out.2 (by trivial)).2, HLR.out.1, HLR.out.2⟩) (fun hh => absurd hh (by show ¬ (1 : Int) = 15; decide))).mono ?_; rintro _ w7 ⟨rfl, ⟨vs7, vq7, hm7⟩, hr7⟩
   have HRE := HR5.out.trans (((MR.of_ext ew6 HB5.out.low).trans hr7).weak HX2.out)
   go_wp2
   first
    | exact bodyPost_end (results_none rfl _ _ _) rfl ⟨rfl, (by rw [HF.out]; exact ⟨_, _, hm7.weak HX2.out⟩), HRE⟩
    | exact bodyPost_ret (results_none rfl _ _ _) rfl ⟨rfl, (by rw [HF.out]; exact ⟨_, _, hm7.weak HX2.out⟩), HRE⟩
 have n1' : (o == 1) = false := by simp [h1]
 by_cases h15 : o = 15
 ·subst h15
  by_cases hq0 : q.sums.length = 0
  ·have HF : Hid (R = q.fail 8) := by show _ = _; rw [HBY.out]; unfold Mach.byteI; rw [if_neg (fun hh => absurd hh.1 (by show ¬ (15 : Int) = 1; decide)), if_pos rfl, if_pos hq0]
   have hqb : ((q.sums.length : Int) == 0) = true := by simp [hq0]
   go_wp2_with fail
   refine wp_region_quiet_below (by kernel_rfl) (by kernel_rfl) ?_
   repeat (go_big_quiet_step ((fail)))
   refine wpQuiet_nil ?_
   rintro w6 ⟨⟨nq, osq⟩, hq⟩
   have ew6 := ext_of_q hq
   clear hq nq osq
   go_wp2_with fail
   refine (CF2.out q 8 _ ⟨_, _, HB5.out.next ew6⟩).mono ?_; rintro _ w7 ⟨rfl, ⟨vs7, vq7, hm7⟩, hr7⟩
   have HRE := HR5.out.trans (((MR.of_ext ew6 HB5.out.low).trans hr7).weak HX2.out)
   go_wp2
   first
    | exact bodyPost_end (results_none rfl _ _ _) rfl ⟨rfl, (by rw [HF.out]; exact ⟨_, _, hm7.weak HX2.out⟩), HRE⟩
    | exact bodyPost_ret (results_none rfl _ _ _) rfl ⟨rfl, (by rw [HF.out]; exact ⟨_, _, hm7.weak HX2.out⟩), HRE⟩
  ·have hqb : ((q.sums.length : Int) == 0) = false := by rw [beq_eq_false_iff_ne]; omega
   have HQ0 := Lib.hid hq0
   clear hq0
   go_wp2_with fail
   refine wp_region_quiet_below (by kernel_rfl) (by kernel_rfl) ?_
   repeat (go_big_quiet_step ((fail)))
   refine wpQuiet_nil ?_
   rintro w6 ⟨⟨nq, osq⟩, hq⟩
   have ew6 := ext_of_q hq
   clear hq nq osq
   replace f0 := kx f0 ew6
   replace f1 := kx f1 ew6
   replace f2 := kx f2 ew6
   have HF : Hid (R = q.takeI (15, a, z) b) := by show _ = _; rw [HBY.out]; exact takeI_byte HS0.out (by intro hh; exact absurd hh.1 (by show ¬ (15 : Int) = 1; decide)) (by intro _; exact HQ0.out)
   go_wp2_with fail
   refine (CTK.out _ ⟨_, _, HB5.out.next ew6⟩ (fun hh => absurd hh (by show ¬ (15 : Int) = 1; decide)) (fun _ => by have := HQ0.out; omega)).mono ?_; rintro _ w7 ⟨rfl, ⟨vs7, vq7, hm7⟩, hr7⟩
   have HRE := HR5.out.trans (((MR.of_ext ew6 HB5.out.low).trans hr7).weak HX2.out)
   go_wp2
   first
    | exact bodyPost_end (results_none rfl _ _ _) rfl ⟨rfl, (by rw [HF.out]; exact ⟨_, _, hm7.weak HX2.out⟩), HRE⟩
    | exact bodyPost_ret (results_none rfl _ _ _) rfl ⟨rfl, (by rw [HF.out]; exact ⟨_, _, hm7.weak HX2.out⟩), HRE⟩
 have n15 : (o == 15) = false := by simp [h15]
 go_wp2_with fail
 refine wp_region_quiet_below (by kernel_rfl) (by kernel_rfl) ?_
 repeat (go_big_quiet_step ((fail)))
 refine wpQuiet_nil ?_
 rintro w6 ⟨⟨nq, osq⟩, hq⟩
 have ew6 := ext_of_q hq
 clear hq nq osq
 replace f0 := kx f0 ew6
 replace f1 := kx f1 ew6
 replace f2 := kx f2 ew6
 have HF : Hid (R = q.takeI (o, a, z) b) := by show _ = _; rw [HBY.out]; exact takeI_byte HS0.out (by intro hh; exact absurd hh.1 h1) (by intro hh; exact absurd hh h15)
 go_wp2_with fail
 refine (CTK.out _ ⟨_, _, HB5.out.next ew6⟩ (fun hh => absurd hh h1) (fun hh => absurd hh h15)).mono ?_; rintro _ w7 ⟨rfl, ⟨vs7, vq7, hm7⟩, hr7⟩
 have HRE := HR5.out.trans (((MR.of_ext ew6 HB5.out.low).trans hr7).weak HX2.out)
 go_wp2
 first
  | exact bodyPost_end (results_none rfl _ _ _) rfl ⟨rfl, (by rw [HF.out]; exact ⟨_, _, hm7.weak HX2.out⟩), HRE⟩
  | exact bodyPost_ret (results_none rfl _ _ _) rfl ⟨rfl, (by rw [HF.out]; exact ⟨_, _, hm7.weak HX2.out⟩), HRE⟩
theorem iEqM_c (m : Mach) (A1 : Option Addr) (c1 : Nat) (A2 : Option Addr) (c2 : Nat) (B1 : Option Addr) (d1 : Nat) (B2 : Option Addr) (d2 : Nat) (w : World) (h1 : Is w A1 m.stack c1) (h2 : Is w A2 m.sums c2) (k1 : Is w B1 m.stack d1) (k2 : Is w B2 m.sums d2) :
 Gives Tryz.prog 36 #[mval m (.slice A1 m.stack.length c1) (.slice A2 m.sums.length c2), mval m (.slice B1 m.stack.length d1) (.slice B2 m.sums.length d2)] w (.bool true) := by
 obtain ⟨W1, hW1, X1, X2, e1, _⟩ := boxes2' w (mcells m (.slice A1 m.stack.length c1) (.slice A2 m.sums.length c2)) (mcells m (.slice B1 m.stack.length d1) (.slice B2 m.sums.length d2)) 67 67
 have C1 := Lib.hid (fun w' (e : Ext w w') => iEqInts_c A1 B1 m.stack m.stack c1 d1 w' (h1.ext e).1 (k1.ext e).1)
 have C2 := Lib.hid (fun w' (e : Ext w w') => iEqInts_c A2 B2 m.sums m.sums c2 d2 w' (h2.ext e).1 (k2.ext e).1)
 have g3 : ∀ w', Ext W1 w' → w'.cell? ⟨w.heap.size, 3, none⟩ = some (Value.slice A2 m.sums.length c2) := fun w' e => X1.at 3 w' e
 have g4 : ∀ w', Ext W1 w' → w'.cell? ⟨w.heap.size + 1, 3, none⟩ = some (Value.slice B2 m.sums.length d2) := fun w' e => X2.at 3 w' e
 have x4 : ∀ w', Ext W1 w' → w'.cell? ⟨w.heap.size, 4, none⟩ = some (.int .i64 m.left) := fun w' e => X1.at 4 w' e
 have y4 : ∀ w', Ext W1 w' → w'.cell? ⟨w.heap.size + 1, 4, none⟩ = some (.int .i64 m.left) := fun w' e => X2.at 4 w' e
 have x5 : ∀ w', Ext W1 w' → w'.cell? ⟨w.heap.size, 5, none⟩ = some (.bool m.started) := fun w' e => X1.at 5 w' e
 have y5 : ∀ w', Ext W1 w' → w'.cell? ⟨w.heap.size + 1, 5, none⟩ = some (.bool m.started) := fun w' e => X2.at 5 w' e
 have x6 : ∀ w', Ext W1 w' → w'.cell? ⟨w.heap.size, 6, none⟩ = some (.bool m.escaped) := fun w' e => X1.at 6 w' e
 have y6 : ∀ w', Ext W1 w' → w'.cell? ⟨w.heap.size + 1, 6, none⟩ = some (.bool m.escaped) := fun w' e => X2.at 6 w' e
 have x7 : ∀ w', Ext W1 w' → w'.cell? ⟨w.heap.size, 7, none⟩ = some (.int .i64 m.state) := fun w' e => X1.at 7 w' e
 have y7 : ∀ w', Ext W1 w' → w'.cell? ⟨w.heap.size + 1, 7, none⟩ = some (.int .i64 m.state) := fun w' e => X2.at 7 w' e
 have x8 : ∀ w', Ext W1 w' → w'.cell? ⟨w.heap.size, 8, none⟩ = some (.int .i64 m.code) := fun w' e => X1.at 8 w' e
 have y8 : ∀ w', Ext W1 w' → w'.cell? ⟨w.heap.size + 1, 8, none⟩ = some (.int .i64 m.code) := fun w' e => X2.at 8 w' e
 have x9 : ∀ w', Ext W1 w' → w'.cell? ⟨w.heap.size, 9, none⟩ = some (.int .i64 m.read) := fun w' e => X1.at 9 w' e
 have y9 : ∀ w', Ext W1 w' → w'.cell? ⟨w.heap.size + 1, 9, none⟩ = some (.int .i64 m.read) := fun w' e => X2.at 9 w' e
 clear X1 X2 h1 h2 k1 k2
 unfold mval
 unfold mcells at *
 go_enter Tryz.func36, Tryz.ntmps36
 go_wp2_with fail
 rw [← hW1.out]
 refine (C1.out _ e1).mono ?_; rintro _ w2 ⟨rfl, e2⟩
 rw [show (m.stack == m.stack) = true by simp]
 go_wp2_with fail
 refine (C2.out _ (e1.trans e2)).mono ?_; rintro _ w3 ⟨rfl, e3⟩
 rw [show (m.sums == m.sums) = true by simp]
 have e13 := e2.trans e3
 replace x4 := x4 _ e13
 replace y4 := y4 _ e13
 replace x5 := x5 _ e13
 replace y5 := y5 _ e13
 replace x6 := x6 _ e13
 replace y6 := y6 _ e13
 replace x7 := x7 _ e13
 replace y7 := y7 _ e13
 replace x8 := x8 _ e13
 replace y8 := y8 _ e13
 replace x9 := x9 _ e13
 replace y9 := y9 _ e13
 go_wp2
 go_ret
 exact ⟨rfl, (e1.trans e2).trans e3⟩
def EntL (es : List Int) : Prop := ∀ x ∈ es, (0 : Int) ≤ x ∧ x ≤ 100000
theorem EntL.b {es : List Int} (h : EntL es) : EntB es := fun b hb => by
 rw [List.getD_eq_getElem?_getD, List.getElem?_eq_getElem hb]
 have := h _ (List.getElem_mem hb)
 simp only [Option.getD_some]; omega
theorem EntL.app {es : List Int} (h : EntL es) (x : Int) (h0 : 0 ≤ x) (h1 : x ≤ 100000) : EntL (es ++ [x]) := fun y hy => by
 rw [List.mem_append, List.mem_singleton] at hy
 rcases hy with hy | rfl
 ·exact h y hy
 ·exact ⟨h0, h1⟩
theorem cons_of_len {α : Type} {l : List α} (h : 0 < l.length) : ∃ x t, l = x :: t := by
 cases l with
 | nil => simp at h
 | cons x t => exact ⟨x, t, rfl⟩
theorem PSt.set0' {W0 w : World} {g gc n cap : Nat} {ve : Value} {x : Ins} {t l : List Ins} {e : List Int} (h : PSt W0 w g (.slice (some ⟨gc, 0, none⟩) n cap) ve l e) (hl : l = x :: t) (y : Int) :
 PSt W0 (w.setCell ⟨gc, 1, none⟩ (.int .i64 y)) g (.slice (some ⟨gc, 0, none⟩) n cap) ve ((x.1, y, x.2.2) :: t) e := by
 subst hl; exact h.set0 y
theorem iCompE_c (A : Option Addr) (ds : List DRule) (c : Nat) (w : World) (hd : RdD w A ds c) (hs : ShortD ds) (hw : WfD ds) :
 Calls Tryz.prog 33 #[vdesc (.slice A ds.length c)] w fun e w' => ∃ vc ve, e = .returned (.agg #[vc, ve]) ∧ ∃ (cs : List Ins) (es : List Int), cs.length ≤ 1000000 ∧ OwnI w w' vc cs ∧ es.length ≤ 1000000 ∧ EntB es ∧ OwnL vint 3 w w' ve es ∧ Ext w w' := by
 have hl := hd.len
 have CV := Lib.hid (fun w' (e : Ext w w') => iValidDesc_c A ds c w' (hd.ext e) hs hw)
 obtain ⟨W0, hW0, BD, BR, e0, hsz⟩ := boxes2' w #[.slice A ds.length c] #[.slice none 0 0, .slice none 0 0] 26 55
 have kD : ∀ w', Ext W0 w' → w'.cell? ⟨w.heap.size, 0, none⟩ = some (Value.slice A ds.length c) := fun w' e => BD.at 0 w' e
 have d0 := kD _ (Ext.refl _)
 rw [hW0.out] at d0
 have HSZ := Lib.hid hsz
 have HBR := Lib.hid BR
 clear hsz BR BD
 unfold vdesc at *
 cases hok : descOk ds
 ·rw [hok] at CV
  go_enter Tryz.func33, Tryz.ntmps33
  go_wp2_with fail
  rw [← hW0.out]
  refine (CV.out _ e0).mono ?_; rintro _ w1 ⟨rfl, e1⟩
  have br := HBR.out.ext e1
  have r2 := br.cell; have f2 := br.free
  have E1 := e0.trans e1
  go_wp2
  refine bodyPost_ret (v := .agg #[.slice none 0 0, .slice none 0 0]) (by simp [results, Tryz.results33, go_sem, r2, f2]) rfl ?_
  exact ⟨_, _, rfl, [], [], by simp, ⟨by simp, .inl ⟨rfl, rfl⟩⟩, by simp, fun b hb => by simp at hb, OwnL.nil _ _, (E1.setCell (p := ⟨w.heap.size + 1, 0, none⟩) (by show _ ≤ _ + 1; omega) _).setCell (p := ⟨w.heap.size + 1, 1, none⟩) (by show _ ≤ _ + 1; omega) _⟩
 rw [hok] at CV
 have h24 := descOk_24 hok
 have hpos : 0 < ds.length := (descOk_len hok).1
 obtain ⟨m, hm⟩ : ∃ m, ds.length = m + 1 := ⟨ds.length - 1, by omega⟩
 have CRT := Lib.hid (fun w' => iRoot_n A ds c m w' (by omega) hm)
 have HM := Lib.hid hm
 clear hm
 have CR : Hid (∀ k, (hk : k < ds.length) → ∀ (E : Option Addr) (es : List Int) (ec start : Nat) w', Ext w w' → Is w' E es ec → es.length = k → start ≤ 100000 →
  Calls Tryz.prog 59 #[.agg #[.slice A ds.length c], .int .i64 (k : Int), .int .i64 (start : Int), .slice E es.length ec] w' fun e w'' => ∃ (v : Value) (l : List Ins), e = .returned v ∧ l.length ≤ 60 ∧ OwnI w' w'' v l ∧ Ext w' w'') := fun k hk E es ec start w' e hE he hst =>
  iRuleC_c A ds c hok k hk E es ec start w' (hd.ext e) hs hw hE he hst
 clear hd hs hw hok
 unfold vdesc at *
 go_enter Tryz.func33, Tryz.ntmps33
 go_wp2_with fail
 rw [← hW0.out]
 refine (CV.out _ e0).mono ?_; rintro _ w1 ⟨rfl, e1⟩
 clear d0 CV
 have P0 : Hid (PSt W0 ((w1.alloc (.cells #[.int .i64 9, .int .i64 0, .int .i64 0, .int .i64 17, .int .i64 0, .int .i64 0] 79)).alloc (.cells #[.slice (some ⟨w1.heap.size, 0, none⟩) 2 2, .slice none 0 0] 55)) (w1.heap.size + 1) (.slice (some ⟨w1.heap.size, 0, none⟩) 2 2) (.slice none 0 0) [(9, 0, 0), (17, 0, 0)] []) := by
  have h1 := e1.size
  have hb := Box.new (w1.alloc (.cells #[.int .i64 9, .int .i64 0, .int .i64 0, .int .i64 17, .int .i64 0, .int .i64 0] 79)) #[.slice (some ⟨w1.heap.size, 0, none⟩) 2 2, .slice none 0 0] 55
  rw [World.size_alloc] at hb
  refine ⟨by omega, hb, (OwnI.new e1 [(9, 0, 0), (17, 0, 0)] _ rfl 2 rfl (by simp)).ext (Ext_alloc _ (Ext.refl _)), OwnL.nil _ _, ?_, ?_, ?_, Ext_alloc _ (Ext_alloc _ e1)⟩
  ·show some w1.heap.size ≠ some (w1.heap.size + 1); exact some_ne (by omega)
  ·show none ≠ _; intro hh; cases hh
  ·intro b _; show none ≠ _; intro hh; cases hh
 have kdx := kD _ P0.out.ext
 go_wp2_with fail
 go_loopw [17] (fun q wr => ∃ (k : Nat) (vc ve : Value) (cs : List Ins) (es : List Int), k ≤ ds.length ∧ q = .int .i64 (k : Int) ∧ Hid (es.length = k) ∧ Hid (2 ≤ cs.length ∧ cs.length ≤ 2 + 60 * k) ∧ Hid (EntL es) ∧ Hid (PSt W0 wr (w1.heap.size + 1) vc ve cs es)) (fun q _ => ds.length - (intOf q).toNat)
 case atStart => exact ⟨0, _, _, [(9, 0, 0), (17, 0, 0)], [], by omega, rfl, (show _ = _ from rfl), (show _ ∧ _ from ⟨by simp, by simp⟩), (show EntL [] from fun x hx => by cases hx), P0.out⟩
 case round =>
  clear P0 kdx
  obtain ⟨k, vc, ve, cs, es, hk, rfl, hel, hcl, HEB, hP⟩ := hrel
  obtain ⟨Ac, cc, hvc, _⟩ := hP.out.oc.rd (by have := hcl.out; omega)
  obtain ⟨Ae, ce, hve, rE⟩ := hP.out.oe.rd (by rw [hel.out]; omega)
  have hbx : Box wr (w1.heap.size + 1) #[vc, ve] 55 := hP.out.box
  have b0 : wr.cell? ⟨w1.heap.size + 1, 0, none⟩ = some vc := hbx.cell 0
  have b1 : wr.cell? ⟨w1.heap.size + 1, 1, none⟩ = some ve := hbx.cell 1
  have kd := kD wr hP.out.ext
  have hEw := e0.trans hP.out.ext
  by_cases hlt : k < ds.length
  ·subst hvc; subst hve
   have CR1 := Lib.hid (CR.out k hlt)
   have HPd := Lib.hid (hP.out.next (Ext_drew (Ext.refl wr)))
   have HAB : lv2 (fun w' => Box w' (w1.heap.size + 1) #[Value.slice Ac cs.length cc, Value.slice Ae es.length ce] 55 ∧ w'.cell? ⟨w.heap.size, 0, none⟩ = some (Value.slice A ds.length c)) (fun _ => True) 1 wr.drew := ⟨HPd.out.box, kD _ HPd.out.ext⟩
   go_wp2_with fail
   refine wp_region_C (C := fun j => lv2 (fun w' => Box w' (w1.heap.size + 1) #[Value.slice Ac cs.length cc, Value.slice Ae es.length ce] 55 ∧ w'.cell? ⟨w.heap.size, 0, none⟩ = some (Value.slice A ds.length c)) (fun _ => True) (([0, 1, 1, 0, 0, 0, 1, 1, 0, 0, 0] : List Nat).getD j 0)) (by kernel_rfl) ?_
   refine tkC 0 (i := 0) (v := ?_) rfl (by kernel_rfl) trivial (Or.inl ⟨by rfl, ?_⟩) ?_
   rotate_left
   ·(intro w9 hSw; clear hSw; go_simp; try with_reducible rfl)
   try simp only [Act.put, lpa, lpz, lps]
   refine tkC 0 (i := 3) (v := ?_) rfl (by kernel_rfl) trivial (Or.inl ⟨by rfl, ?_⟩) ?_
   rotate_left
   ·(intro w9 hSw; clear hSw; go_simp; try with_reducible rfl)
   try simp only [Act.put, lpa, lpz, lps]
   refine tkC 0 (i := 4) (v := ?_) rfl (by kernel_rfl) trivial (Or.inl ⟨by rfl, ?_⟩) ?_
   rotate_left
   ·(intro w9 hSw; clear hSw; go_simp; try with_reducible rfl)
   try simp only [Act.put, lpa, lpz, lps]
   refine tkC 0 (i := 5) (v := ?_) rfl (by kernel_rfl) trivial (Or.inl ⟨by rfl, ?_⟩) ?_
   rotate_left
   ·(intro w9 hSw; clear hSw; go_simp; try with_reducible rfl)
   try simp only [Act.put, lpa, lpz, lps]
   refine tkC 1 (i := 1) (v := ?_) rfl (by kernel_rfl) HAB (Or.inl ⟨by rfl, ?_⟩) ?_
   rotate_left
   ·(intro w9 hSw; have hfact : w9.cell? ⟨w1.heap.size + 1, 0, none⟩ = some (Value.slice Ac cs.length cc) := hSw.1.cell 0; clear hSw; go_simp; try with_reducible rfl)
   try simp only [Act.put, lpa, lpz, lps]
   refine tkC 1 (i := 2) (v := ?_) rfl (by kernel_rfl) HAB (Or.inl ⟨by rfl, ?_⟩) ?_
   rotate_left
   ·(intro w9 hSw; have hfact : w9.cell? ⟨w.heap.size, 0, none⟩ = some (Value.slice A ds.length c) := hSw.2; clear hSw; go_simp; try with_reducible rfl)
   try simp only [Act.put, lpa, lpz, lps]
   refine tkC 1 (i := 6) (v := ?_) rfl (by kernel_rfl) HAB (Or.inl ⟨by rfl, ?_⟩) ?_
   rotate_left
   ·(intro w9 hSw; have hfact : w9.cell? ⟨w1.heap.size + 1, 1, none⟩ = some (Value.slice Ae es.length ce) := hSw.1.cell 1; clear hSw; go_simp; try with_reducible rfl)
   try simp only [Act.put, lpa, lpz, lps]
   refine wpAnyC_one (i := 7) (by kernel_rfl) rfl (fun K hK => ?_)
   go_simp
   go_at_call 59
   have hx := HPd.out
   refine (CR1.out Ae es ce cs.length _ (e0.trans hx.ext) (rE.ext (Ext_drew (Ext.refl wr))) hel.out (by have := hcl.out; omega)).mono ?_
   rintro _ w5 ⟨v5, l5, rfl, HL5', ho5, e5⟩
   have HL5 := Lib.hid HL5'
   clear HL5'
   obtain ⟨A5, c5, hv5, _⟩ := OwnI.rd ho5 (by have := HL5.out; omega)
   subst hv5
   have HP5 := Lib.hid (HPd.out.next e5)
   have hB5 : (30 : Nat) = 30 := rfl
   refine Shut.out hK _ _ ⟨HP5.out.box, kD _ HP5.out.ext⟩ ?_
   try simp only [Act.put, lpa, lpz, lps]
   refine wpAnyC_one (i := 8) (by kernel_rfl) rfl (fun K hK => ?_)
   refine step_appR rfl (.tmp 24) (.tmp 30) _ rfl E_ins W0 _ w5 _ cs l5 rfl HP5.out.oc HP5.out.ext A5 c5 rfl ho5 rfl (by have := HL5.out; have := hcl.out; omega) ?_
   intro v7 w7 ho7 he7 hv7 hg7
   obtain ⟨A7, n7, c7, hv7'⟩ := Own.slice ho7
   subst hv7'
   have q0 : _ = some (Value.slice Ac cs.length cc) := (HP5.out.box.moved hg7 HP5.out.n1).cell 0
   have q0f := (HP5.out.box.moved hg7 HP5.out.n1).free 0
   refine Shut.out hK _ _ trivial ?_
   try simp only [Act.put, lpa, lpz, lps]
   refine wpAnyC_one (i := 9) (by kernel_rfl) rfl (fun K hK => ?_)
   go_simp
   refine Shut.out hK _ _ trivial ?_
   try simp only [Act.put, lpa, lpz, lps]
   refine wpAnyC_one (i := 10) (by kernel_rfl) rfl (fun K hK => ?_)
   go_simp
   refine Shut.out hK _ _ trivial ?_
   try simp only [Act.put, lpa, lpz, lps]
   refine wpAnyC_done (by kernel_rfl) ?_ _
   have z1 : _ = some (Value.slice Ae es.length ce) := (HP5.out.box.moved hg7 HP5.out.n1).cell 1
   have HP7 := Lib.hid (HP5.out.appC ho7 he7 hv7 hg7)
   clear HP5 ho7 he7 hv7 hg7 HAB HPd hP b0 b1 q0 q0f kd hbx
   have HP8 := Lib.hid (HP7.out.next (Ext_alloc (.cells #[.int .i64 (cs.length : Int)] 3) (Ext.refl _)))
   have HBD : Hid ((es.length + [(cs.length : Int)].length) * 8 ≤ 140737488355328) := by show _ ≤ _; have := hel.out; simp; omega
   go_wp2_with (first
    | (at_builtin; go_must (refine wpList_appNB rfl (.tmp 34) (.tmp 36) _ rfl E_int (by omega) W0 _ vint (fun _ => rfl) _ rfl _ _ _ rfl (by simp) es [(cs.length : Int)] _ rfl HP7.out.oe HP7.out.ext rfl HBD.out ?_); intro v9 w9 ho9 he9 hv9 hg9; obtain ⟨A9, n9, c9, hv9'⟩ := Own.slice ho9; subst hv9'; have q1 : _ = some (Value.slice Ae es.length ce) := (HP8.out.box.moved hg9 HP8.out.n2).cell 1; have q1f := (HP8.out.box.moved hg9 HP8.out.n2).free 1))
   have HP9 := Lib.hid (HP8.out.appE ho9 he9 hv9 hg9)
   clear HP8 HP7 ho9 he9 hv9 hg9 HBD z1 q1 q1f
   go_roundw
   case rel => exact ⟨k + 1, _, _, _, _, by omega, by go_num, (show _ = _ by rw [List.length_append]; have := hel.out; simp; omega), (show _ ∧ _ by rw [List.length_append]; have := hcl.out; have := HL5.out; omega), HEB.out.app _ (by omega) (by have := hcl.out; omega), HP9.out⟩
   case measure => simp [intOf]; omega
  ·obtain rfl : k = ds.length := by omega
   obtain ⟨gc, cap, hvc'⟩ := hP.out.oc.shape (by have := hcl.out; omega)
   subst hve
   obtain ⟨be, oe, hAe, hbe, hce⟩ := rE.at m (by have := hel.out; have := HM.out; omega)
   clear hvc
   subst hvc'; subst hAe
   generalize hgd : es[m]'(by have := hel.out; have := HM.out; omega) = last at *
   have HCP : (0 : Int) < (cs.length : Int) := by have := hcl.out; omega
   have HCP' : 0 < cs.length := by have := hcl.out; omega
   have hmi : (m : Int) < (es.length : Int) := by have := hel.out; have := HM.out; omega
   have hmi' : m < es.length := by omega
   have hlt1 : ¬ ((ds.length : Int) < (ds.length : Int)) := by omega
   have HAB : lv2 (fun w' => Box w' (w1.heap.size + 1) #[Value.slice (some ⟨gc, 0, none⟩) cs.length cap, Value.slice (some ⟨be, oe, none⟩) es.length ce] 55 ∧ w'.cell? ⟨w.heap.size, 0, none⟩ = some (Value.slice A ds.length c) ∧ w'.cell? ⟨be, oe + m, none⟩ = some (.int .i64 last)) (fun _ => True) 1 wr.drew := ⟨hP.out.box.ext (Ext_drew (Ext.refl wr)), kD _ (hP.out.ext.trans (Ext_drew (Ext.refl wr))), hce _ (Ext_drew (Ext.refl wr))⟩
   have HCE := Lib.hid hce
   have HPd := Lib.hid (hP.out.next (Ext_drew (Ext.refl wr)))
   clear hgd hce b0 b1 hbx CR rE hlt hP
   go_wp2_with fail
   refine wp_region_C (C := fun j => lv2 (fun w' => Box w' (w1.heap.size + 1) #[Value.slice (some ⟨gc, 0, none⟩) cs.length cap, Value.slice (some ⟨be, oe, none⟩) es.length ce] 55 ∧ w'.cell? ⟨w.heap.size, 0, none⟩ = some (Value.slice A ds.length c) ∧ w'.cell? ⟨be, oe + m, none⟩ = some (.int .i64 last)) (fun _ => True) (([0, 1, 0, 1, 1, 1, 1, 1, 0, 0, 0] : List Nat).getD j 0)) (by kernel_rfl) ?_
   refine tkC 0 (i := 0) (v := ?_) rfl (by kernel_rfl) trivial (Or.inl ⟨by rfl, ?_⟩) ?_
   rotate_left
   ·(intro w9 hSw; clear hSw; go_simp; try with_reducible rfl)
   try simp only [Act.put, lpa, lpz, lps]
   refine tkC 0 (i := 2) (v := ?_) rfl (by kernel_rfl) trivial (Or.inl ⟨by rfl, ?_⟩) ?_
   rotate_left
   ·(intro w9 hSw; clear hSw; go_simp; try with_reducible rfl)
   try simp only [Act.put, lpa, lpz, lps]
   refine tkC 1 (i := 1) (v := ?_) rfl (by kernel_rfl) HAB (Or.inl ⟨by rfl, ?_⟩) ?_
   rotate_left
   ·(intro w9 hSw; have hfact : w9.cell? ⟨w1.heap.size + 1, 0, none⟩ = some (Value.slice (some ⟨gc, 0, none⟩) cs.length cap) := hSw.1.cell 0; clear hSw; go_simp; try with_reducible rfl)
   try simp only [Act.put, lpa, lpz, lps]
   refine tkC 1 (i := 3) (v := ?_) rfl (by kernel_rfl) HAB (Or.inl ⟨by rfl, ?_⟩) ?_
   rotate_left
   ·(intro w9 hSw; have hfact : w9.cell? ⟨w1.heap.size + 1, 1, none⟩ = some (Value.slice (some ⟨be, oe, none⟩) es.length ce) := hSw.1.cell 1; clear hSw; go_simp; try with_reducible rfl)
   try simp only [Act.put, lpa, lpz, lps]
   refine tkC 1 (i := 4) (v := ?_) rfl (by kernel_rfl) HAB (Or.inl ⟨by rfl, ?_⟩) ?_
   rotate_left
   ·(intro w9 hSw; have hfact : w9.cell? ⟨w.heap.size, 0, none⟩ = some (Value.slice A ds.length c) := hSw.2.1; clear hSw; go_simp; try with_reducible rfl)
   try simp only [Act.put, lpa, lpz, lps]
   refine wpAnyC_one (i := 5) (by kernel_rfl) rfl (fun K hK => ?_)
   go_simp
   go_at_call 60
   refine (CRT.out _).mono ?_
   rintro _ w5 ⟨rfl, e5⟩
   have HP5 := Lib.hid (HPd.out.next e5)
   have hHst : lv2 (fun w' => Box w' (w1.heap.size + 1) #[Value.slice (some ⟨gc, 0, none⟩) cs.length cap, Value.slice (some ⟨be, oe, none⟩) es.length ce] 55 ∧ w'.cell? ⟨w.heap.size, 0, none⟩ = some (Value.slice A ds.length c) ∧ w'.cell? ⟨be, oe + m, none⟩ = some (.int .i64 last)) (fun _ => True) 1 w5 := ⟨HP5.out.box, kD _ HP5.out.ext, HCE.out _ ((Ext_drew (Ext.refl wr)).trans e5)⟩
   obtain ⟨⟨u1, hu1⟩, hf1⟩ := Own.slot HP5.out.oc 1 (by rw [icells_len]; have := HCP'; omega)
   clear HCE HPd HAB
   refine Shut.out hK _ _ hHst ?_
   try simp only [Act.put, lpa, lpz, lps]
   refine tkC 1 (i := 6) (v := ?_) rfl (by kernel_rfl) (hHst) (Or.inl ⟨by rfl, ?_⟩) ?_
   rotate_left
   ·(intro w9 hSw; clear hSw; go_simp; try with_reducible rfl)
   try simp only [Act.put, lpa, lpz, lps]
   refine tkC 1 (i := 7) (v := ?_) rfl (by kernel_rfl) (hHst) (Or.inl ⟨by rfl, ?_⟩) ?_
   rotate_left
   ·(intro w9 hSw; have hfact : w9.cell? ⟨be, oe + m, none⟩ = some (.int .i64 last) := hSw.2.2; clear hSw; go_simp; try with_reducible rfl)
   try simp only [Act.put, lpa, lpz, lps]
   refine tkC 0 (i := 8) (v := ?_) rfl (by kernel_rfl) (trivial) (Or.inl ⟨by rfl, ?_⟩) ?_
   rotate_left
   ·(intro w9 hSw; clear hSw; go_simp; try with_reducible rfl)
   try simp only [Act.put, lpa, lpz, lps]
   refine tkC 0 (i := 9) (v := ?_) rfl (by kernel_rfl) (trivial) (Or.inl ⟨by rfl, ?_⟩) ?_
   rotate_left
   ·(intro w9 hSw; clear hSw; go_simp; try with_reducible rfl)
   try simp only [Act.put, lpa, lpz, lps]
   refine wpAnyC_one (i := 10) (by kernel_rfl) rfl (fun K hK => ?_)
   go_simp
   refine Shut.out hK _ _ trivial ?_
   try simp only [Act.put, lpa, lpz, lps]
   refine wpAnyC_done (by kernel_rfl) ?_ _
   clear hHst
   have hgne : gc ≠ w1.heap.size + 1 := fun hh => HP5.out.n1 (by rw [hh]; rfl)
   have hgne' : w1.heap.size + 1 ≠ gc := fun hh => hgne hh.symm
   have hglo : w.heap.size + 2 ≤ gc := by have := (World.ownsRow.lt HP5.out.oc gc rfl).1; rw [HSZ.out] at this; exact this
   have hgn2 : gc ≠ w.heap.size + 1 := by omega
   have hgn3 : w.heap.size + 1 ≠ gc := by omega
   have br := HBR.out.ext HP5.out.ext
   have r2 := br.cell; have f2 := br.free
   have hlo3 : w.heap.size + 1 ≠ w1.heap.size + 1 := by have := HP5.out.lo; rw [HSZ.out] at this; omega
   have z0 : _ = some (Value.slice (some ⟨gc, 0, none⟩) cs.length cap) := HP5.out.box.cell 0
   have z1 : _ = some (Value.slice (some ⟨be, oe, none⟩) es.length ce) := HP5.out.box.cell 1
   go_wp2
   refine bodyPost_ret (v := .agg #[.slice (some ⟨gc, 0, none⟩) cs.length cap, .slice (some ⟨be, oe, none⟩) es.length ce]) (by simp [results, Tryz.results33, go_sem, r2, f2, hgn2, hgn3]) rfl ?_
   have HEF := Lib.hid HEB.out
   have HP5x := HP5.out
   have hcll := hcl.out
   have hell := hel.out
   obtain ⟨x, t, hxt⟩ := cons_of_len HCP'
   have HP6 := Lib.hid (HP5x.set0' hxt last)
   have nv : (Value.slice (some ⟨gc, 0, none⟩) cs.length cap).ownBlock ≠ some (w.heap.size + 1) := some_ne hgn2
   have ne2 := OwnL.far HP6.out.oe (b := w.heap.size + 1) (.inl (by rw [HSZ.out]; omega))
   refine ⟨_, _, rfl, (x.1, last, x.2.2) :: t, es, ?_, ?_, by omega, HEF.out.b, ?_, ((e0.trans HP6.out.ext).setCell (p := ⟨w.heap.size + 1, 0, none⟩) (by show _ ≤ _ + 1; omega) _).setCell (p := ⟨w.heap.size + 1, 1, none⟩) (by show _ ≤ _ + 1; omega) _⟩
   ·rw [hxt] at hcll; simp at hcll ⊢; omega
   ·exact OwnI.down (Own.other (Own.other HP6.out.oc ⟨w.heap.size + 1, 0, none⟩ _ nv) ⟨w.heap.size + 1, 1, none⟩ _ nv) e0.size
   ·exact OwnL.down (OwnL.other (OwnL.other HP6.out.oe ⟨w.heap.size + 1, 0, none⟩ _ ne2) ⟨w.heap.size + 1, 1, none⟩ _ ne2) e0.size
end Go.Proofs.YtpmcofmdjckijaaGreat
