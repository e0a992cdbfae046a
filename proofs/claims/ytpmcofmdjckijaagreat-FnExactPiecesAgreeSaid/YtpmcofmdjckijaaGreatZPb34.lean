/- Texts, laid into one. -/
import Derived.Test.YtpmcofmdjckijaaGreatZPb33
set_option linter.unusedVariables false
set_option linter.unusedSimpArgs false
set_option maxRecDepth 100000
set_option maxHeartbeats 16000000
namespace Go.Proofs.YtpmcofmdjckijaaGreat
open Go.RowKit Go.Sort
theorem safe_eq {cs : List Ins} {es : List Int} (h : headOk cs es = true) : safeOk cs es = (allFrom (fun i => insOk cs (i : Int)) cs.length 0 && (allFrom (ascOk cs es) (es.length - 1) 0 && blocksOk cs es)) := by
 unfold safeOk; rw [h, Bool.true_and, Bool.and_assoc]
theorem allFrom_step {p : Nat → Bool} {n k : Nat} (h : k < n) : allFrom p (n - k) k = (p k && allFrom p (n - (k + 1)) (k + 1)) := by
 have : n - k = (n - (k + 1)) + 1 := by omega
 rw [this, allFrom]
theorem head_facts {cs : List Ins} {es : List Int} (h : headOk cs es = true) : 0 < es.length ∧ es.getD 0 0 = 2 ∧ 2 ≤ cs.length ∧ cs.length ≤ 700 := by
 unfold headOk at h
 simp only [Bool.not_eq_true', Bool.or_eq_false_iff, decide_eq_false_iff_not, Bool.not_eq_false'] at h
 obtain ⟨⟨⟨⟨⟨h1, h2⟩, h3⟩, h4⟩, h5⟩, h6⟩ := h
 obtain ⟨j, hj, hj1⟩ := isOp_in h5
 refine ⟨?_, by simpa using h3, by omega, by omega⟩
 rcases Nat.eq_zero_or_pos es.length with h0 | h0
 ·rw [h0] at h2; simp at h2
 ·exact h0
theorem entIn_of {cs : List Ins} {es : List Int} (h : headOk cs es = true) (hel : es.length ≤ 1000000) (ha : ∀ i, i < es.length - 1 → ascOk cs es i = true) : EntIn cs es ∧ ∀ b (hb : b < es.length), 2 ≤ es[b] := by
 obtain ⟨h0, h2, hn, _⟩ := head_facts h
 have key : ∀ b (hb : b < es.length), 2 ≤ es[b] ∧ es[b] ≤ (cs.length : Int) := by
  intro b
  induction b with
  | zero => intro hb; have : es.getD 0 0 = es[0] := by simp [hb]
            rw [this] at h2; omega
  | succ b ih =>
   intro hb
   have h1 := ih (by omega)
   have h3 := ha b (by omega)
   unfold ascOk at h3
   have e1 : es.getD b 0 = es[b] := by simp [show b < es.length by omega]
   have e2 : es.getD (b + 1) 0 = es[b + 1] := by simp [hb]
   rw [e1, e2] at h3
   simp only [Bool.not_eq_true', Bool.or_eq_false_iff, decide_eq_false_iff_not] at h3
   omega
 exact ⟨⟨hel, fun b hb => ⟨by have := (key b hb).1; omega, (key b hb).2⟩⟩, fun b hb => (key b hb).1⟩
theorem sSafe_c (Ac : Option Addr) (cs : List Ins) (cc : Nat) (Ae : Option Addr) (es : List Int) (ce : Nat) (w : World) (hC : RdI w Ac cs cc) (hE : Is w Ae es ce) (hel : es.length ≤ 1000000) :
 Gives Tryz.prog 161 #[.agg #[.slice Ac cs.length cc, .slice Ae es.length ce]] w (.bool (safeOk cs es)) := by
 have hl := hC.len; have hcp := hC.cap
 obtain ⟨W0, hW0⟩ : ∃ W, Hid (W = w.alloc (.cells #[.slice Ac cs.length cc, .slice Ae es.length ce] 55)) := ⟨_, rfl⟩
 have e0 : Ext w W0 := ka hW0
 have BP : Box W0 w.heap.size #[.slice Ac cs.length cc, .slice Ae es.length ce] 55 := kb hW0
 have p0 : ∀ w', Ext W0 w' → w'.cell? ⟨w.heap.size, 0, none⟩ = some (Value.slice Ac cs.length cc) := fun w' e => BP.at 0 w' e
 have p1 : ∀ w', Ext W0 w' → w'.cell? ⟨w.heap.size, 1, none⟩ = some (Value.slice Ae es.length ce) := fun w' e => BP.at 1 w' e
 have d0 := p0 _ (Ext.refl _); have d1 := p1 _ (Ext.refl _)
 rw [hW0.out] at d0 d1
 have C0 : Hid (∀ w', Ext w w' → Calls Tryz.prog 186 #[.agg #[.slice Ac cs.length cc, .slice Ae es.length ce], .int .i64 0, .int .i64 9] w' fun e w'' => e = .returned (.bool (isOp cs 0 9)) ∧ Ext w' w'') := fun w' e => sIsOp_c Ac cs cc Ae es ce 0 9 w' (hC.ext e) (hE.ext e) (by omega)
 have C1 : Hid (∀ w', Ext w w' → Calls Tryz.prog 186 #[.agg #[.slice Ac cs.length cc, .slice Ae es.length ce], .int .i64 1, .int .i64 17] w' fun e w'' => e = .returned (.bool (isOp cs 1 17)) ∧ Ext w' w'') := fun w' e => sIsOp_c Ac cs cc Ae es ce 1 17 w' (hC.ext e) (hE.ext e) (by omega)
 have CS := Lib.hid (fun (k : Int) w' (e : Ext w w') hk => sInsOk_c Ac cs cc Ae es ce k w' (hC.ext e) (hE.ext e) hk)
 have CB := Lib.hid (fun hin w' (e : Ext w w') => sBlocks_c Ac cs cc Ae es ce w' (hC.ext e) (hE.ext e) hin)
 have HEI := Lib.hid hE; have HCI := Lib.hid hC
 clear hC hE
 go_enter Tryz.func161, Tryz.ntmps161
 go_wp2_with fail
 rw [← hW0.out]
 clear d0 d1
 by_cases A1 : 700 < cs.length
 ·have hA1 : decide ((700 : Int) < (cs.length : Int)) = true := by simp; omega
  have hA1' : decide (700 < cs.length) = true := by simp; omega
  have HF : Hid (safeOk cs es = false) := by show _ = _; unfold safeOk headOk; rw [hA1]; simp
  refine wp_region_quiet_below (by kernel_rfl) (by kernel_rfl) ?_
  repeat (go_big_quiet_step ((fail)))
  refine wpQuiet_nil ?_
  rintro w4 ⟨⟨nq, osq⟩, hq⟩
  have ew4 := ext_of_q hq
  clear hq nq osq
  go_wp2
  go_ret
  exact ⟨by rw [HF.out]; rfl, e0.trans ew4⟩
 have hA1 : decide ((700 : Int) < (cs.length : Int)) = false := by simp; omega
 have hA1' : decide (700 < cs.length) = false := by simp; omega
 by_cases A2 : es.length = 0
 ·have hA2 : ((es.length : Int) == 0) = true := by rw [A2]; rfl
  have HF : Hid (safeOk cs es = false) := by show _ = _; unfold safeOk headOk; rw [hA1, hA2]; simp
  refine wp_region_quiet_below (by kernel_rfl) (by kernel_rfl) ?_
  repeat (go_big_quiet_step ((fail)))
  refine wpQuiet_nil ?_
  rintro w4 ⟨⟨nq, osq⟩, hq⟩
  have ew4 := ext_of_q hq
  clear hq nq osq
  go_wp2
  go_ret
  exact ⟨by rw [HF.out]; rfl, e0.trans ew4⟩
 have hA2 : ((es.length : Int) == 0) = false := by rw [beq_eq_false_iff_ne]; omega
 have hA2n : (es.length == 0) = false := by rw [beq_eq_false_iff_ne]; omega
 have h0 : 0 < es.length := by omega
 have h0i : (0 : Int) < (es.length : Int) := by omega
 obtain ⟨be, oe, hAe, hbe, hce⟩ := HEI.out.at 0 h0
 subst hAe
 have hc0 : ∀ w', Ext W0 w' → w'.cell? ⟨be, oe, none⟩ = some (.int .i64 es[0]) := fun w' e => hce w' (e0.trans e)
 have HG0 : Hid (es.getD 0 0 = es[0]) := by show _ = _; simp [h0]
 have hcl : ∀ w', Ext W0 w' → w'.cell? ⟨be, oe + (es.length - 1), none⟩ = some (.int .i64 (es.getD (es.length - 1) 0)) := fun w' e => by
  obtain ⟨be', oe', hAe', _, hce'⟩ := HEI.out.at (es.length - 1) (by omega)
  injection hAe' with hAe'; injection hAe' with i1 i2; subst i1; subst i2
  rw [hce' w' (e0.trans e)]; simp [show es.length - 1 < es.length by omega]; rfl
 clear hce
 generalize es[0] = y0 at *
 by_cases A3 : y0 = 2
 rotate_left
 ·have hA3 : (y0 == 2) = false := by simp [A3]
  have hA3b : (y0 != 2) = true := by simp [A3]
  have HF : Hid (safeOk cs es = false) := by show _ = _; unfold safeOk headOk; rw [hA1, hA2, HG0.out, hA3]; simp
  refine wp_region_quiet_below (by kernel_rfl) (by kernel_rfl) ?_
  repeat (go_big_quiet_step ((fail)))
  refine wpQuiet_nil ?_
  rintro w4 ⟨⟨nq, osq⟩, hq⟩
  have ew4 := ext_of_q hq
  clear hq nq osq
  go_wp2
  go_ret
  exact ⟨by rw [HF.out]; rfl, e0.trans ew4⟩
 subst A3
 have hA3 : ((2 : Int) == 2) = true := rfl
 cases A4 : isOp cs 0 9
 ·rw [A4] at C0
  have HF : Hid (safeOk cs es = false) := by show _ = _; unfold safeOk headOk; rw [hA1, hA2, HG0.out, hA3, A4]; simp
  refine wp_region_quiet_below (by kernel_rfl) (by kernel_rfl) ?_
  repeat (go_big_quiet_step ((go_at_call 186; first | with_reducible exact Calls.regrown_of (C0.out _ (e0.trans (Ext_regrown _ _ (Ext.refl _)))) | with_reducible exact Calls.regrown_of (C1.out _ (e0.trans (Ext_regrown _ _ (Ext.refl _)))))))
  refine wpQuiet_nil ?_
  rintro w4 ⟨⟨nq, osq⟩, hq⟩
  have ew4 := ext_of_q hq
  clear hq nq osq
  go_wp2
  go_ret
  exact ⟨by rw [HF.out]; rfl, e0.trans ew4⟩
 rw [A4] at C0
 cases A5 : isOp cs 1 17
 ·rw [A5] at C1
  have HF : Hid (safeOk cs es = false) := by show _ = _; unfold safeOk headOk; rw [hA1, hA2, HG0.out, hA3, A4, A5]; simp
  refine wp_region_quiet_below (by kernel_rfl) (by kernel_rfl) ?_
  repeat (go_big_quiet_step ((go_at_call 186; first | with_reducible exact Calls.regrown_of (C0.out _ (e0.trans (Ext_regrown _ _ (Ext.refl _)))) | with_reducible exact Calls.regrown_of (C1.out _ (e0.trans (Ext_regrown _ _ (Ext.refl _)))))))
  refine wpQuiet_nil ?_
  rintro w4 ⟨⟨nq, osq⟩, hq⟩
  have ew4 := ext_of_q hq
  clear hq nq osq
  go_wp2
  go_ret
  exact ⟨by rw [HF.out]; rfl, e0.trans ew4⟩
 rw [A5] at C1
 obtain ⟨j1, hj1, hjj⟩ := isOp_in A5
 have hcs0 : 0 < cs.length := by omega
 obtain ⟨b, off, hAc, hb, hc⟩ := HCI.out.at 0 hcs0
 subst hAc
 have HI0 : Hid (insAt cs 0 = cs[0]) := insAt_nat (j := 0) hcs0
 have hc1 : ∀ w', Ext W0 w' → w'.cell? ⟨b, off + 1, none⟩ = some (.int .i64 cs[0].2.1) := fun w' e => by have := (hc w' (e0.trans e)).2.1; rwa [Nat.zero_mul, Nat.add_zero] at this
 have hcsi : (0 : Int) < (cs.length : Int) := by omega
 generalize cs[0] = x0 at *
 generalize hz : x0.2.1 = z0 at *
 generalize hl2 : es.getD (es.length - 1) 0 = z1 at *
 have HZ := Lib.hid hz; have HL2 := Lib.hid hl2; clear hz hl2 hc hjj hj1 j1
 have hi0 : (0 : Int) ≤ (es.length : Int) - 1 := by omega
 have hi1 : (es.length : Int) - 1 < (es.length : Int) := by omega
 have hi2 : ((es.length : Int) - 1).toNat = es.length - 1 := by omega
 have hiw : IntKind.i64.wrap ((es.length : Int) - 1) = (es.length : Int) - 1 := IntWalk.i64_in _ (by omega)
 by_cases A6 : z0 = z1
 rotate_left
 ·have hA6 : (z0 == z1) = false := by simp [A6]
  have hA6b : (z0 != z1) = true := by simp [A6]
  have HF : Hid (safeOk cs es = false) := by show _ = _; unfold safeOk headOk; rw [hA1, hA2, HG0.out, hA3, A4, A5, HI0.out, HZ.out, HL2.out, hA6]; simp
  refine wp_region_quiet_below (by kernel_rfl) (by kernel_rfl) ?_
  repeat (go_big_quiet_step ((go_at_call 186; first | with_reducible exact Calls.regrown_of (C0.out _ (e0.trans (Ext_regrown _ _ (Ext.refl _)))) | with_reducible exact Calls.regrown_of (C1.out _ (e0.trans (Ext_regrown _ _ (Ext.refl _)))))))
  refine wpQuiet_nil ?_
  rintro w4 ⟨⟨nq, osq⟩, hq⟩
  have ew4 := ext_of_q hq
  clear hq nq osq
  go_wp2
  go_ret
  exact ⟨by rw [HF.out]; rfl, e0.trans ew4⟩
 have HH : Hid (headOk cs es = true) := by
  show _ = _
  unfold headOk; rw [hA1, hA2, HG0.out, hA3, A4, A5, HI0.out, HZ.out, HL2.out, show (z0 == z1) = true by simp [A6]]; rfl
 subst A6
 refine wp_region_quiet_below (by kernel_rfl) (by kernel_rfl) ?_
 repeat (go_big_quiet_step ((go_at_call 186; first | with_reducible exact Calls.regrown_of (C0.out _ (e0.trans (Ext_regrown _ _ (Ext.refl _)))) | with_reducible exact Calls.regrown_of (C1.out _ (e0.trans (Ext_regrown _ _ (Ext.refl _)))))))
 refine wpQuiet_nil ?_
 rintro w4 ⟨⟨nq, osq⟩, hq⟩
 have ew4 := ext_of_q hq
 clear hq nq osq
 clear hi0 hi1 hi2 hiw hA1 hA2 hA3 hcl hc0 hc1 HG0 HI0 HZ HL2 A4 A5 C0 C1
 have HS0 : Hid ((allFrom (fun i => insOk cs (i : Int)) (cs.length - 0) 0 && (allFrom (ascOk cs es) (es.length - 1) 0 && blocksOk cs es)) = safeOk cs es) := by show _ = _; rw [safe_eq HH.out]; rfl
 have HEL := Lib.hid hel
 clear hA1' hA2n h0i hcsi hel
 go_wp2_with fail
 go_loopw [4] (fun q wr => ∃ k : Nat, k ≤ cs.length ∧ q = .int .i64 (k : Int) ∧ Hid ((allFrom (fun i => insOk cs (i : Int)) (cs.length - k) k && (allFrom (ascOk cs es) (es.length - 1) 0 && blocksOk cs es)) = safeOk cs es) ∧ Ext W0 wr) (fun q _ => cs.length - (intOf q).toNat)
 case atStart => exact ⟨0, by omega, rfl, HS0.out, ew4⟩
 case round =>
  clear HS0 ew4
  obtain ⟨k, hk, rfl, hv, he⟩ := hrel
  by_cases hlt : k < cs.length
  ·have HS := Lib.hid (allFrom_step (p := fun i => insOk cs (i : Int)) hlt)
   cases Z : insOk cs (k : Int)
   ·have HF : Hid (safeOk cs es = false) := by show _ = _; rw [← hv.out, HS.out, Z]; rfl
    have HZ := Lib.hid Z
    clear hv HS Z
    go_wp2_with fail
    refine (CS.out (k : Int) _ (e0.trans he) (by omega)).mono ?_; rintro _ w5 ⟨rfl, e5⟩; rw [HZ.out]
    go_wp2
    go_ret
    exact ⟨by rw [HF.out]; rfl, (e0.trans he).trans e5⟩
   ·have HN : Hid ((allFrom (fun i => insOk cs (i : Int)) (cs.length - (k + 1)) (k + 1) && (allFrom (ascOk cs es) (es.length - 1) 0 && blocksOk cs es)) = safeOk cs es) := by show _ = _; rw [← hv.out, HS.out, Z]; rfl
    have HZ := Lib.hid Z
    clear hv HS Z
    go_wp2_with fail
    refine (CS.out (k : Int) _ (e0.trans he) (by omega)).mono ?_; rintro _ w5 ⟨rfl, e5⟩; rw [HZ.out]
    go_wp2
    go_roundw
    case rel => exact ⟨k + 1, by omega, by go_num, HN.out, he.trans e5⟩
    case measure => simp [intOf]; omega
  ·have HV : Hid ((allFrom (ascOk cs es) (es.length - 1 - 0) 0 && blocksOk cs es) = safeOk cs es) := by show _ = _; rw [← hv.out, show cs.length - k = 0 by omega, allFrom, Bool.true_and]; rfl
   clear hv
   go_wp2_with fail
   go_loopw [5] (fun q wr => ∃ k : Nat, k + 1 ≤ es.length ∧ q = .int .i64 ((k : Int) + 1) ∧ Hid ((allFrom (ascOk cs es) (es.length - 1 - k) k && blocksOk cs es) = safeOk cs es) ∧ Hid (∀ i, i < k → ascOk cs es i = true) ∧ Ext W0 wr) (fun q _ => es.length - (intOf q).toNat)
   case atStart => exact ⟨0, by omega, rfl, HV.out, fun i hi => by omega, he⟩
   case round =>
    clear HV he hlt hk
    obtain ⟨k, hk, rfl, hv, ha, he⟩ := hrel
    by_cases hlt : k + 1 < es.length
    ·obtain ⟨be1, oe1, hA1, _, hcA⟩ := HEI.out.at k (by omega)
     injection hA1 with hA1; injection hA1 with i1 i2; subst i1; subst i2
     obtain ⟨be1, oe1, hA1, _, hcB⟩ := HEI.out.at (k + 1) hlt
     injection hA1 with hA1; injection hA1 with i1 i2; subst i1; subst i2
     have HS := Lib.hid (allFrom_step (p := ascOk cs es) (show k < es.length - 1 by omega))
     have HAS : Hid (ascOk cs es k = !(decide (es[k + 1] ≤ es[k]) || decide ((cs.length : Int) ≤ es[k + 1]))) := by
      show _ = _
      unfold ascOk
      rw [show es.getD (k + 1) 0 = es[k + 1] by simp [hlt], show es.getD k 0 = es[k] by simp [show k < es.length by omega]]
     have hcA' : ∀ w', Ext wr w' → w'.cell? ⟨be, oe + k, none⟩ = some (.int .i64 es[k]) := fun w' e => hcA w' (e0.trans (he.trans e))
     have hcB' : ∀ w', Ext wr w' → w'.cell? ⟨be, oe + (k + 1), none⟩ = some (.int .i64 es[k + 1]) := fun w' e => hcB w' (e0.trans (he.trans e))
     have q0 := fun w' (e : Ext wr w') => p0 w' (he.trans e)
     have q1 := fun w' (e : Ext wr w') => p1 w' (he.trans e)
     generalize es[k] = y1 at *
     generalize es[k + 1] = y2 at *
     have hki : (k : Int) + 1 < (es.length : Int) := by omega
     have hki0 : (k : Int) < (es.length : Int) := by omega
     have hkn : ((k : Int) + 1).toNat = k + 1 := by omega
     have hk0 : (0 : Int) ≤ (k : Int) + 1 := by omega
     have hw1 : IntKind.i64.wrap ((k : Int) + 1 - 1) = (k : Int) := by rw [show (k : Int) + 1 - 1 = (k : Int) by omega]; exact IntWalk.i64_in _ (by have := HEL.out; omega)
     have hw2 : IntKind.i64.wrap (k : Int) = (k : Int) := IntWalk.i64_in _ (by have := HEL.out; omega)
     clear hcA hcB
     by_cases h1 : y2 ≤ y1
     ·have hd1 : decide (y2 ≤ y1) = true := decide_eq_true h1
      have HF : Hid (safeOk cs es = false) := by show _ = _; rw [← hv.out, show es.length - 1 - k = (es.length - 1) - k by omega, HS.out, HAS.out, hd1]; rfl
      clear hv HS HAS
      go_wp2_with fail
      refine wp_region_quiet_below (by kernel_rfl) (by kernel_rfl) ?_
      repeat (go_big_quiet_step ((fail)))
      refine wpQuiet_nil ?_
      rintro w6 ⟨⟨nq, osq⟩, hq⟩
      have ew6 := ext_of_q hq
      clear hq nq osq
      go_wp2
      go_ret
      exact ⟨by rw [HF.out]; rfl, (e0.trans he).trans ew6⟩
     have hd1 : decide (y2 ≤ y1) = false := decide_eq_false h1
     by_cases h2 : (cs.length : Int) ≤ y2
     ·have hd2 : decide ((cs.length : Int) ≤ y2) = true := decide_eq_true h2
      have HF : Hid (safeOk cs es = false) := by show _ = _; rw [← hv.out, HS.out, HAS.out, hd1, hd2]; rfl
      clear hv HS HAS
      go_wp2_with fail
      refine wp_region_quiet_below (by kernel_rfl) (by kernel_rfl) ?_
      repeat (go_big_quiet_step ((fail)))
      refine wpQuiet_nil ?_
      rintro w6 ⟨⟨nq, osq⟩, hq⟩
      have ew6 := ext_of_q hq
      clear hq nq osq
      go_wp2
      go_ret
      exact ⟨by rw [HF.out]; rfl, (e0.trans he).trans ew6⟩
     have hd2 : decide ((cs.length : Int) ≤ y2) = false := decide_eq_false h2
     have HK : Hid (ascOk cs es k = true) := by show _ = _; rw [HAS.out, hd1, hd2]; rfl
     have HN : Hid ((allFrom (ascOk cs es) (es.length - 1 - (k + 1)) (k + 1) && blocksOk cs es) = safeOk cs es) := by show _ = _; rw [← hv.out, HS.out, HK.out]; rfl
     have HA' : Hid (∀ i, i < k + 1 → ascOk cs es i = true) := fun i hi => by
      rcases Nat.lt_or_ge i k with h | h
      ·exact ha.out i h
      ·rw [show i = k by omega]; exact HK.out
     clear hv HS HAS ha
     go_wp2_with fail
     refine wp_region_quiet_below (by kernel_rfl) (by kernel_rfl) ?_
     repeat (go_big_quiet_step ((fail)))
     refine wpQuiet_nil ?_
     rintro w6 ⟨⟨nq, osq⟩, hq⟩
     have ew6 := ext_of_q hq
     clear hq nq osq
     clear hw1 hw2
     have hel2 : es.length ≤ 1000000 := HEL.out
     go_wp2
     go_roundw
     case rel => exact ⟨k + 1, by omega, by go_num, HN.out, HA'.out, he.trans ew6⟩
     case measure => simp [intOf]; omega
    ·have HIN := entIn_of HH.out HEL.out (fun i hi => ha.out i (by omega))
     have CB1 := Lib.hid (fun w' (e : Ext w w') => CB.out HIN.1 w' e)
     have HF : Hid (safeOk cs es = blocksOk cs es) := by show _ = _; rw [← hv.out, show es.length - 1 - k = 0 by omega, allFrom, Bool.true_and]
     clear hv HIN
     go_wp2_with fail
     refine (CB1.out _ (e0.trans he)).mono ?_; rintro _ w6 ⟨rfl, e6⟩
     go_wp2
     go_ret
     exact ⟨by rw [HF.out]; rfl, (e0.trans he).trans e6⟩
end Go.Proofs.YtpmcofmdjckijaaGreat
