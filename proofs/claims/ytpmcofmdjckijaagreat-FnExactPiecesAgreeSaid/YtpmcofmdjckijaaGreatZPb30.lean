/- Texts, laid into one. -/
import Derived.Test.YtpmcofmdjckijaaGreatZPb27
set_option linter.unusedVariables false
set_option linter.unusedSimpArgs false
set_option maxRecDepth 100000
set_option maxHeartbeats 16000000
namespace Go.Proofs.YtpmcofmdjckijaaGreat
open Go.RowKit Go.Sort
theorem sAdv_c (X : Nat → Prop) (W0 : World) (p : Nat) (m : Mach) (Ac : Option Addr) (cs : List Ins) (cc : Nat) (Ae : Option Addr) (es : List Int) (ce : Nat) (w : World) (h : MV X W0 w p m) (hm : m.Ok) (hC : ∀ w', MR X w w' → RdI w' Ac cs cc) :
 Calls Tryz.prog 127 #[.agg #[.slice Ac cs.length cc, .slice Ae es.length ce], .pointer (some ⟨p, 0, none⟩)] w fun e w' => e = .returned (.tuple #[]) ∧ MV X W0 w' p (advN cs 100001 m) ∧ MR X w w' := by
 obtain ⟨vs, vq, hb⟩ := h
 have hC0 := hC w (MR.refl _ _)
 have hl := hC0.len; have hcp := hC0.cap
 obtain ⟨W1, hW1⟩ : ∃ W, Hid (W = w.alloc (.cells #[.slice Ac cs.length cc, .slice Ae es.length ce] 55)) := ⟨_, rfl⟩
 have e1 : Ext w W1 := ka hW1
 have HB : Hid (MB (fun k => X k ∨ k = w.heap.size) W0 W1 p m vs vq) := by rw [hW1.out]; exact hb.guard _
 have HR1 : Hid (MR X w W1) := MR.of_ext e1 hb.low
 have HBP : Hid (Box W1 w.heap.size #[.slice Ac cs.length cc, .slice Ae es.length ce] 55) := by rw [hW1.out]; exact Box.new _ _ _
 have CF := Lib.hid (fun m' w' h => sFail_c (fun k => X k ∨ k = w.heap.size) W0 p m' 8 w' h)
 have CT := Lib.hid (fun m' x w' h hs hq => sStep_c (fun k => X k ∨ k = w.heap.size) W0 p m' x w' h hs hq)
 have CI := Lib.hid (fun x lo hi w => l1In_c x lo hi w)
 have HXW : Hid (∀ k, X k → X k ∨ k = w.heap.size) := fun k hk => .inl hk
 have HC := Lib.hid hC
 have HV0 : Hid (MV (fun k => X k ∨ k = w.heap.size) W0 W1 p m) := ⟨_, _, HB.out⟩
 have HOK := Lib.hid hm
 clear hb hC hC0 e1 hm
 go_enter Tryz.func127, Tryz.ntmps127
 go_wp2_with fail
 rw [← hW1.out]
 go_loopw [4] (fun q wr => ∃ (k : Nat) (m' : Mach), k ≤ 100001 ∧ q = .int .i64 (k : Int) ∧ Hid m'.Ok ∧ Hid (advN cs (100001 - k) m' = advN cs 100001 m) ∧ Hid (MV (fun k => X k ∨ k = w.heap.size) W0 wr p m') ∧ Hid (MR (fun k => X k ∨ k = w.heap.size) W1 wr)) (fun q _ => 100002 - (intOf q).toNat)
 case atStart => exact ⟨0, m, by omega, rfl, HOK.out, rfl, HV0.out, MR.refl _ _⟩
 case round =>
  clear HV0 HB HOK
  obtain ⟨k, m', hk, rfl, hok, hv, hmv, hr⟩ := hrel
  obtain ⟨vs', vq', hb'⟩ := hmv.out
  have HB := Lib.hid hb'
  have hbp : Box wr w.heap.size #[.slice Ac cs.length cc, .slice Ae es.length ce] 55 := (hr.out.kept _ (.inr rfl)).trans HBP.out
  have j0 : ∀ w', Ext wr w' → w'.cell? ⟨w.heap.size, 0, none⟩ = some (Value.slice Ac cs.length cc) := fun w' e => hbp.at 0 w' e
  have s0 : ∀ w', Ext wr w' → w'.cell? ⟨p, 0, none⟩ = some (.int .i64 m'.pc) := fun w' e => (HB.out.box.ext e).cell 0
  have s5 : wr.cell? ⟨p, 5, none⟩ = some (.bool m'.started) := HB.out.box.cell 5
  have s7 : wr.cell? ⟨p, 7, none⟩ = some (.int .i64 m'.state) := HB.out.box.cell 7
  have HRR := Lib.hid (HR1.out.trans (hr.out.weak HXW.out))
  clear hb' hbp hmv
  by_cases hrun : m'.state = 0
  rotate_left
  ·have HF : Hid (advN cs 100001 m = m') := by show _ = _; rw [← hv.out, advN_stop (by simp [hrun])]
   have hrb : (m'.state == 0) = false := by simp [hrun]
   clear hv
   go_wp2
   first
    | exact bodyPost_end (results_none rfl _ _ _) rfl ⟨rfl, (by rw [HF.out]; exact ⟨_, _, HB.out.weak HXW.out⟩), HRR.out⟩
    | exact bodyPost_ret (results_none rfl _ _ _) rfl ⟨rfl, (by rw [HF.out]; exact ⟨_, _, HB.out.weak HXW.out⟩), HRR.out⟩
  rw [hrun] at s7
  cases hst : m'.started
  rotate_left
  ·have HF : Hid (advN cs 100001 m = m') := by show _ = _; rw [← hv.out, advN_stop (by simp [hst])]
   rw [hst] at s5
   clear hv hst
   go_wp2
   first
    | exact bodyPost_end (results_none rfl _ _ _) rfl ⟨rfl, (by rw [HF.out]; exact ⟨_, _, HB.out.weak HXW.out⟩), HRR.out⟩
    | exact bodyPost_ret (results_none rfl _ _ _) rfl ⟨rfl, (by rw [HF.out]; exact ⟨_, _, HB.out.weak HXW.out⟩), HRR.out⟩
  rw [hst] at s5
  have HRUN := Lib.hid (And.intro hrun hst)
  clear hrun hst
  have hiw : IntKind.i64.wrap ((cs.length : Int) - 1) = (cs.length : Int) - 1 := IntWalk.i64_in _ (by omega)
  have CI1 := Lib.hid (fun w' => CI.out m'.pc 0 ((cs.length : Int) - 1) w')
  cases hin : (decide ((0 : Int) ≤ m'.pc) && decide (m'.pc ≤ (cs.length : Int) - 1))
  ·have HF : Hid (advN cs 100001 m = m'.fail 8) := by show _ = _; rw [← hv.out, advN_out HRUN.out hin]
   rw [hin] at CI1
   clear hv hin
   go_wp2_with fail
   refine wp_region_quiet_below (by kernel_rfl) (by kernel_rfl) ?_
   repeat (go_big_quiet_step ((go_at_call 71; exact Calls.regrown_of (CI1.out _))))
   refine wpQuiet_nil ?_
   rintro w4 ⟨⟨nq, osq⟩, hq⟩
   have ew4 := ext_of_q hq
   clear hq nq osq
   go_wp2_with fail
   refine (CF.out m' _ ⟨_, _, HB.out.next ew4⟩).mono ?_; rintro _ w5 ⟨rfl, ⟨vs5, vq5, hm5⟩, hr5⟩
   have HRE := HRR.out.trans (((MR.of_ext ew4 HB.out.low).trans hr5).weak HXW.out)
   go_wp2
   first
    | exact bodyPost_end (results_none rfl _ _ _) rfl ⟨rfl, (by rw [HF.out]; exact ⟨_, _, hm5.weak HXW.out⟩), HRE⟩
    | exact bodyPost_ret (results_none rfl _ _ _) rfl ⟨rfl, (by rw [HF.out]; exact ⟨_, _, hm5.weak HXW.out⟩), HRE⟩
  rw [hin] at CI1
  by_cases hk1 : k = 100001
  ·subst hk1
   have HF : Hid (advN cs 100001 m = m'.fail 8) := by show _ = _; rw [← hv.out]; show advN cs 0 m' = _; rw [advN, if_pos HRUN.out]
   clear hv hin
   go_wp2_with fail
   refine wp_region_quiet_below (by kernel_rfl) (by kernel_rfl) ?_
   repeat (go_big_quiet_step ((go_at_call 71; exact Calls.regrown_of (CI1.out _))))
   refine wpQuiet_nil ?_
   rintro w4 ⟨⟨nq, osq⟩, hq⟩
   have ew4 := ext_of_q hq
   clear hq nq osq
   go_wp2_with fail
   refine (CF.out m' _ ⟨_, _, HB.out.next ew4⟩).mono ?_; rintro _ w5 ⟨rfl, ⟨vs5, vq5, hm5⟩, hr5⟩
   have HRE := HRR.out.trans (((MR.of_ext ew4 HB.out.low).trans hr5).weak HXW.out)
   go_wp2
   first
    | exact bodyPost_end (results_none rfl _ _ _) rfl ⟨rfl, (by rw [HF.out]; exact ⟨_, _, hm5.weak HXW.out⟩), HRE⟩
    | exact bodyPost_ret (results_none rfl _ _ _) rfl ⟨rfl, (by rw [HF.out]; exact ⟨_, _, hm5.weak HXW.out⟩), HRE⟩
  have hk2 : k ≤ 100000 := by omega
  have hkd : decide ((100000 : Int) < (k : Int)) = false := by simp; omega
  have hkd2 : decide (100000 < k) = false := by simp; omega
  have HN : Hid (advN cs (100001 - (k + 1)) (m'.step (insAt cs m'.pc)) = advN cs 100001 m) := by show _ = _; rw [← hv.out, show 100001 - k = (100001 - (k + 1)) + 1 by omega, advN_go HRUN.out hin]
  obtain ⟨j, hj, hjp⟩ : ∃ j : Nat, ∃ _ : j < cs.length, m'.pc = (j : Int) := by
   simp only [Bool.and_eq_true, decide_eq_true_eq] at hin
   exact ⟨m'.pc.toNat, by omega, by omega⟩
  have HI : Hid (insAt cs m'.pc = cs[j]) := by show _ = _; rw [hjp]; exact insAt_nat hj
  have hIw := HC.out wr HRR.out
  obtain ⟨b, off, hAc, _, hcc⟩ := hIw.at j hj
  subst hAc
  have HOK2 := Lib.hid (hok.out.step (insAt cs m'.pc))
  rw [HI.out] at HOK2
  replace HN := Lib.hid HN.out
  rw [HI.out] at HN
  have c0 : ∀ w', Ext wr w' → w'.cell? ⟨b, off + j * 3, none⟩ = some (.int .i64 cs[j].1) := fun w' e => (hcc w' e).1
  have c1 : ∀ w', Ext wr w' → w'.cell? ⟨b, off + j * 3 + 1, none⟩ = some (.int .i64 cs[j].2.1) := fun w' e => (hcc w' e).2.1
  have c2 : ∀ w', Ext wr w' → w'.cell? ⟨b, off + j * 3 + 2, none⟩ = some (.int .i64 cs[j].2.2) := fun w' e => (hcc w' e).2.2
  rw [hjp] at s0 CI1
  have hji : (j : Int) < (cs.length : Int) := by omega
  generalize cs[j] = x at *
  clear hv hin hcc hIw hjp HI
  go_wp2_with fail
  refine wp_region_quiet_below (by kernel_rfl) (by kernel_rfl) ?_
  repeat (go_big_quiet_step ((go_at_call 71; exact Calls.regrown_of (CI1.out _))))
  refine wpQuiet_nil ?_
  rintro w4 ⟨⟨nq, osq⟩, hq⟩
  have ew4 := ext_of_q hq
  clear hq nq osq
  clear hiw
  have j04 := fun w' (e : Ext w4 w') => j0 w' (ew4.trans e)
  have s04 := fun w' (e : Ext w4 w') => s0 w' (ew4.trans e)
  have c04 := fun w' (e : Ext w4 w') => c0 w' (ew4.trans e)
  have c14 := fun w' (e : Ext w4 w') => c1 w' (ew4.trans e)
  have c24 := fun w' (e : Ext w4 w') => c2 w' (ew4.trans e)
  go_wp2_with fail
  refine region_qtail_below 9 (by kernel_rfl) (by kernel_rfl) ?_
  simp only [List.take_succ_cons, List.take_zero, List.drop_succ_cons, List.drop_zero]
  repeat (go_big_quiet_step (fail))
  refine wpQuiet_nil ?_
  rintro w5 ⟨⟨nq, osq⟩, hq⟩
  have e5 := ext_of_q hq
  have e45 := ew4.trans e5
  clear hq nq osq
  go_wp2_with fail
  refine (CT.out m' x _ ⟨_, _, HB.out.next e45⟩ hok.out.st hok.out.sm).mono ?_; rintro _ w6 ⟨rfl, hm6, hr6⟩
  have HM6 := Lib.hid hm6
  have HR6 := Lib.hid (hr.out.trans ((MR.of_ext e45 HB.out.low).trans hr6))
  clear hm6 hr6
  go_wp2
  go_roundw
  case rel => exact ⟨k + 1, m'.step x, by omega, by go_num, HOK2.out, HN.out, HM6.out, HR6.out⟩
  case measure => simp [intOf]; omega
theorem Rd.srcM {α : Type} {f : α → Value} {w w' : World} {A : Option Addr} {l : List α} {c : Nat} (h : Rd f w A l c) (e : Ext w w') :
 0 < l.length → ∃ ad, A = some ad ∧ ∀ j u, (l.map f)[j]? = some u → w'.cell? (ad.add j) = some u := by
 intro hp
 obtain ⟨b, off, h1, _, h3⟩ := h.base hp
 refine ⟨_, h1, fun j u hu => ?_⟩
 have := part_cells (h3 w' e) 0 l.length j u (by simpa using hu)
 simpa using this
theorem put10_ext {w0 w : World} {g : Nat} (e : Ext w0 w) (hg : w0.heap.size ≤ g) (u0 u1 u2 u3 u4 u5 u6 u7 u8 u9 : Value) : Ext w0 ((((((((((w.setCell ⟨g, 0, none⟩ u0).setCell ⟨g, 1, none⟩ u1).setCell ⟨g, 2, none⟩ u2).setCell ⟨g, 3, none⟩ u3).setCell ⟨g, 4, none⟩ u4).setCell ⟨g, 5, none⟩ u5).setCell ⟨g, 6, none⟩ u6).setCell ⟨g, 7, none⟩ u7).setCell ⟨g, 8, none⟩ u8).setCell ⟨g, 9, none⟩ u9) := ((((((((((e.setCell (p := ⟨g, 0, none⟩) hg u0).setCell (p := ⟨g, 1, none⟩) hg u1).setCell (p := ⟨g, 2, none⟩) hg u2).setCell (p := ⟨g, 3, none⟩) hg u3).setCell (p := ⟨g, 4, none⟩) hg u4).setCell (p := ⟨g, 5, none⟩) hg u5).setCell (p := ⟨g, 6, none⟩) hg u6).setCell (p := ⟨g, 7, none⟩) hg u7).setCell (p := ⟨g, 8, none⟩) hg u8).setCell (p := ⟨g, 9, none⟩) hg u9)
theorem put10_own {w0 w : World} {g : Nat} {v : Value} {l : List Int} (h : OwnL vint 3 w0 w v l) (hne : v.ownBlock ≠ some g) (u0 u1 u2 u3 u4 u5 u6 u7 u8 u9 : Value) : OwnL vint 3 w0 ((((((((((w.setCell ⟨g, 0, none⟩ u0).setCell ⟨g, 1, none⟩ u1).setCell ⟨g, 2, none⟩ u2).setCell ⟨g, 3, none⟩ u3).setCell ⟨g, 4, none⟩ u4).setCell ⟨g, 5, none⟩ u5).setCell ⟨g, 6, none⟩ u6).setCell ⟨g, 7, none⟩ u7).setCell ⟨g, 8, none⟩ u8).setCell ⟨g, 9, none⟩ u9) v l := ((((((((((h.other ⟨g, 0, none⟩ u0 hne).other ⟨g, 1, none⟩ u1 hne).other ⟨g, 2, none⟩ u2 hne).other ⟨g, 3, none⟩ u3 hne).other ⟨g, 4, none⟩ u4 hne).other ⟨g, 5, none⟩ u5 hne).other ⟨g, 6, none⟩ u6 hne).other ⟨g, 7, none⟩ u7 hne).other ⟨g, 8, none⟩ u8 hne).other ⟨g, 9, none⟩ u9 hne)
def mval (m : Mach) (vs vq : Value) : Value := .agg (mcells m vs vq)
theorem sCopyM_c (m : Mach) (A1 : Option Addr) (c1 : Nat) (A2 : Option Addr) (c2 : Nat) (w : World) (hS : Is w A1 m.stack c1) (hQ : Is w A2 m.sums c2) (hm : m.Ok) :
 Calls Tryz.prog 51 #[mval m (.slice A1 m.stack.length c1) (.slice A2 m.sums.length c2)] w fun e w' => ∃ vs vq, e = .returned (mval m vs vq) ∧ OwnL vint 3 w w' vs m.stack ∧ OwnL vint 3 w w' vq m.sums ∧ (∀ b, vs.ownBlock = some b → vq.ownBlock ≠ some b) ∧ Ext w w' := by
 have hs := hm.st; have hq := hm.sm
 obtain ⟨Wb, hWb, B1, B2, eb, hszb⟩ := boxes2' w (mcells m (.slice A1 m.stack.length c1) (.slice A2 m.sums.length c2)) (mcells ⟨0, 0, [], [], 0, false, false, 0, 0, 0⟩ (.slice none 0 0) (.slice none 0 0)) 67 67
 obtain ⟨W0, hW0⟩ : ∃ W, Hid (W = Wb.alloc (.cells (mcells m (.slice A1 m.stack.length c1) (.slice A2 m.sums.length c2)) 67)) := ⟨_, rfl⟩
 have e0b : Ext Wb W0 := ka hW0
 have B3 : Box W0 (w.heap.size + 1 + 1) (mcells m (.slice A1 m.stack.length c1) (.slice A2 m.sums.length c2)) 67 := by have := Box.new Wb (mcells m (.slice A1 m.stack.length c1) (.slice A2 m.sums.length c2)) 67; rw [hszb] at this; rw [hW0.out]; exact this
 have hsz : W0.heap.size = w.heap.size + 3 := by rw [hW0.out]; simp; omega
 have HW : Hid (W0 = ((w.alloc (.cells (mcells m (.slice A1 m.stack.length c1) (.slice A2 m.sums.length c2)) 67)).alloc (.cells (mcells ⟨0, 0, [], [], 0, false, false, 0, 0, 0⟩ (.slice none 0 0) (.slice none 0 0)) 67)).alloc (.cells (mcells m (.slice A1 m.stack.length c1) (.slice A2 m.sums.length c2)) 67)) := by show _ = _; rw [hW0.out, hWb.out]
 have k2 : ∀ w', Ext Wb w' → w'.cell? ⟨w.heap.size, 2, none⟩ = some (Value.slice A1 m.stack.length c1) := fun w' e => B1.at 2 w' e
 have k3 : ∀ w', Ext Wb w' → w'.cell? ⟨w.heap.size, 3, none⟩ = some (Value.slice A2 m.sums.length c2) := fun w' e => B1.at 3 w' e
 have HB2 := Lib.hid B2; have HB3 := Lib.hid B3; have HSZ := Lib.hid hsz; have HSB := Lib.hid hszb
 have e1 := Ext_alloc (.cells #[] 3) (Ext.refl W0)
 have E1 := e0b.trans e1
 have HOE : Hid (OwnL vint 3 Wb W0 (.slice none 0 0) []) := OwnL.nil _ _
 have OE := OwnL.empty (f := vint) (e := 3) e0b
 rw [hsz] at OE
 have HOE := Lib.hid OE
 have HS := Lib.hid (((hS.ext eb).ext e0b).ext e1)
 have HQ0 := Lib.hid (hQ.ext eb)
 have a2 := k2 _ E1
 have HEB := Lib.hid eb
 clear B1 B2 B3 OE hsz hS hQ e0b hszb hW0 hWb eb
 unfold mval mcells at *
 go_enter Tryz.func51, Tryz.ntmps51
 go_wp2_with (first
  | (at_builtin; rw [← HW.out]; go_must (refine wpList_appL rfl (.tmp 5) (.tmp 7) _ rfl E_int (by omega) Wb _ vint (fun _ => rfl) (.slice (some ⟨w.heap.size + 3, 0, none⟩) 0 0) rfl A1 m.stack.length c1 rfl [] m.stack HOE.out E1 rfl (Rd.srcM HS.out (Ext.refl _)) (by simp; omega) ?_); intro v4 w4 ho4 he4 hv4 hg4; obtain ⟨A4, n4, c4, hv4'⟩ := Own.slice2 ho4; subst hv4'; have bx4 := (HB3.out.ext e1).moved hg4 (show some (w.heap.size + 3) ≠ some (w.heap.size + 1 + 1) from fun hh => by have := Option.some.inj hh; omega); have HX4 := Lib.hid bx4; have q2 : w4.cell? ⟨w.heap.size + 1 + 1, 2, none⟩ = some (Value.slice A1 m.stack.length c1) := bx4.cell 2; have q2f := bx4.free 2; have E5 : Ext Wb (w4.setCell ⟨w.heap.size + 1 + 1, 2, none⟩ (.slice A4 n4 c4)) := he4.setCell (p := ⟨w.heap.size + 1 + 1, 2, none⟩) (by have := HSB.out; show _ ≤ _ + 1 + 1; omega) _; have e6 := Ext_alloc (.cells #[] 3) (Ext.refl (w4.setCell ⟨w.heap.size + 1 + 1, 2, none⟩ (.slice A4 n4 c4))); have E6 := E5.trans e6; have a3 := k3 _ E6; have HO4 := Lib.hid ho4; have OE5 := OwnL.empty (f := vint) (e := 3) E5; rw [show (w4.setCell ⟨w.heap.size + 1 + 1, 2, none⟩ (.slice A4 n4 c4)).heap.size = w4.heap.size by simp] at OE5; have HOE5 := Lib.hid OE5; have HQ6 := Lib.hid (HQ0.out.ext E6); clear bx4 OE5)
  | (at_builtin; go_must (refine wpList_appL rfl (.tmp 10) (.tmp 12) _ rfl E_int (by omega) Wb _ vint (fun _ => rfl) (.slice (some ⟨w4.heap.size, 0, none⟩) 0 0) rfl A2 m.sums.length c2 rfl [] m.sums HOE5.out E6 rfl (Rd.srcM HQ6.out (Ext.refl _)) (by simp; omega) ?_); intro v6 w6 ho6 he6 hv6 hg6; obtain ⟨A6, n6, c6, hv6'⟩ := Own.slice2 ho6; subst hv6'; have hl4 := HX4.out.lt; have bx5 := HX4.out.set 2 (Value.slice A4 n4 c4); have bx6 := (bx5.ext e6).moved hg6 (show some w4.heap.size ≠ some (w.heap.size + 1 + 1) from fun hh => by have := Option.some.inj hh; omega); have HX6 := Lib.hid bx6; have q3 : w6.cell? ⟨w.heap.size + 1 + 1, 3, none⟩ = some (Value.slice A2 m.sums.length c2) := bx6.cell 3; have q3f := bx6.free 3; have HO6 := Lib.hid ho6; have bx7 := bx6.set 3 (Value.slice A6 n6 c6); have HX7 := Lib.hid bx7; have E7 : Ext Wb (w6.setCell ⟨w.heap.size + 1 + 1, 3, none⟩ (.slice A6 n6 c6)) := he6.setCell (p := ⟨w.heap.size + 1 + 1, 3, none⟩) (by have := HSB.out; show _ ≤ _ + 1 + 1; omega) _; have br := HB2.out.ext he6; have HE7 := Lib.hid E7; have HG6 := Lib.hid hg6; have r0 : w6.cell? ⟨w.heap.size + 1 + 1, 0, none⟩ = some (.int .i64 m.pc) := bx6.cell 0; have r1 : w6.cell? ⟨w.heap.size + 1 + 1, 1, none⟩ = some (.int .i64 m.reg) := bx6.cell 1; have r2 : w6.cell? ⟨w.heap.size + 1 + 1, 2, none⟩ = some (Value.slice A4 n4 c4) := bx6.cell 2; have r4 : w6.cell? ⟨w.heap.size + 1 + 1, 4, none⟩ = some (.int .i64 m.left) := bx6.cell 4; have r5 : w6.cell? ⟨w.heap.size + 1 + 1, 5, none⟩ = some (.bool m.started) := bx6.cell 5; have r6 : w6.cell? ⟨w.heap.size + 1 + 1, 6, none⟩ = some (.bool m.escaped) := bx6.cell 6; have r7 : w6.cell? ⟨w.heap.size + 1 + 1, 7, none⟩ = some (.int .i64 m.state) := bx6.cell 7; have r8 : w6.cell? ⟨w.heap.size + 1 + 1, 8, none⟩ = some (.int .i64 m.code) := bx6.cell 8; have r9 : w6.cell? ⟨w.heap.size + 1 + 1, 9, none⟩ = some (.int .i64 m.read) := bx6.cell 9; have t2 := br.cell; have tf := br.free; clear bx5 bx6 bx7 br E5 E6 E7 k2 k3 a2 a3 q2 q2f hg6 hg4))
 have h4 : ∀ b, (Value.slice A4 n4 c4).ownBlock = some b → w.heap.size + 3 ≤ b ∧ b < w4.heap.size := by
  intro b hb
  refine ⟨?_, (World.ownsRow.lt HO4.out b hb).2⟩
  rcases hv4 with hv | hv
  ·rw [hb] at hv; have h1 : b = w.heap.size + 3 := Option.some.inj hv; omega
  ·rw [hb] at hv; have h1 := Option.some.inj hv; rw [World.size_alloc, HSZ.out] at h1; omega
 have h6 : ∀ b, (Value.slice A6 n6 c6).ownBlock = some b → w4.heap.size ≤ b := by
  intro b hb
  rcases hv6 with hv | hv
  ·rw [hb] at hv; have h1 : b = w4.heap.size := Option.some.inj hv; omega
  ·rw [hb] at hv; have h1 := Option.some.inj hv; simp at h1; omega
 have hl4 := HX4.out.lt
 have hb1 := HSB.out
 have o4 : OwnL vint 3 Wb (w6.setCell ⟨w.heap.size + 1 + 1, 3, none⟩ (.slice A6 n6 c6)) (.slice A4 n4 c4) m.stack := by
  have a1 := (HO4.out.other ⟨w.heap.size + 1 + 1, 2, none⟩ (.slice A4 n4 c4) (fun hh => by have := (h4 _ hh).1; have h9 : (⟨w.heap.size + 1 + 1, 2, none⟩ : Addr).block = w.heap.size + 1 + 1 := rfl; rw [h9] at this; omega)).ext e6
  have a2 := a1.keep HG6.out (fun b hb hr => by have := (h4 b hb).2; have h1 : w4.heap.size = b := Option.some.inj hr; omega)
  exact a2.other ⟨w.heap.size + 1 + 1, 3, none⟩ _ (fun hh => by have := (h4 _ hh).1; have h9 : (⟨w.heap.size + 1 + 1, 3, none⟩ : Addr).block = w.heap.size + 1 + 1 := rfl; rw [h9] at this; omega)
 have o6 : OwnL vint 3 Wb (w6.setCell ⟨w.heap.size + 1 + 1, 3, none⟩ (.slice A6 n6 c6)) (.slice A6 n6 c6) m.sums :=
  HO6.out.other ⟨w.heap.size + 1 + 1, 3, none⟩ _ (fun hh => by have := h6 _ hh; have h9 : (⟨w.heap.size + 1 + 1, 3, none⟩ : Addr).block = w.heap.size + 1 + 1 := rfl; rw [h9] at this; omega)
 have F4 := put10_own (g := w.heap.size + 1) o4 (fun hh => by have := (h4 _ hh).1; omega) (.int .i64 m.pc) (.int .i64 m.reg) (.slice A4 n4 c4) (.slice A6 n6 c6) (.int .i64 m.left) (.bool m.started) (.bool m.escaped) (.int .i64 m.state) (.int .i64 m.code) (.int .i64 m.read)
 have F6 := put10_own (g := w.heap.size + 1) o6 (fun hh => by have := h6 _ hh; omega) (.int .i64 m.pc) (.int .i64 m.reg) (.slice A4 n4 c4) (.slice A6 n6 c6) (.int .i64 m.left) (.bool m.started) (.bool m.escaped) (.int .i64 m.state) (.int .i64 m.code) (.int .i64 m.read)
 have FE := put10_ext (g := w.heap.size + 1) (HEB.out.trans HE7.out) (by omega) (.int .i64 m.pc) (.int .i64 m.reg) (.slice A4 n4 c4) (.slice A6 n6 c6) (.int .i64 m.left) (.bool m.started) (.bool m.escaped) (.int .i64 m.state) (.int .i64 m.code) (.int .i64 m.read)
 refine bodyPost_ret (v := .agg #[.int .i64 m.pc, .int .i64 m.reg, .slice A4 n4 c4, .slice A6 n6 c6, .int .i64 m.left, .bool m.started, .bool m.escaped, .int .i64 m.state, .int .i64 m.code, .int .i64 m.read]) (by simp [results, Tryz.results51, go_sem, t2, tf]) rfl ?_
 exact ⟨_, _, rfl, F4.down HEB.out.size, F6.down HEB.out.size, fun b hb hh => by have := (h4 b hb).2; have := h6 b hh; omega, FE⟩
end Go.Proofs.YtpmcofmdjckijaaGreat
