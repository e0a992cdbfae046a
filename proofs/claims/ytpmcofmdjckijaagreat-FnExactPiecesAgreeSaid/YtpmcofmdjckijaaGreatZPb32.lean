/- Texts, laid into one. -/
import Derived.Test.YtpmcofmdjckijaaGreatZPb28
set_option linter.unusedVariables false
set_option linter.unusedSimpArgs false
set_option maxRecDepth 100000
set_option maxHeartbeats 16000000
namespace Go.Proofs.YtpmcofmdjckijaaGreat
open Go.RowKit Go.Sort
theorem choice_tags {ds : List DRule} (h : descOk ds = true) (i : Nat) (hi : i < ds.length) (hk : ds[i].kind = 7) : 1 ≤ ds[i].tags.length ∧ ds[i].tags.length ≤ 8 := by
 have h1 := ruleKind h i hi
 generalize ds[i] = r at *
 unfold kindOk at h1
 rw [if_neg (by omega), if_neg (by omega), if_neg (by omega), if_neg (by omega), if_neg (by omega), if_neg (by omega), if_pos hk] at h1
 unfold choOk at h1
 simp only [between, Bool.and_eq_true, decide_eq_true_eq] at h1; omega
theorem iRuleC_c (A : Option Addr) (ds : List DRule) (c : Nat) (hok : descOk ds = true) (i : Nat) (hi : i < ds.length) (E : Option Addr) (es : List Int) (ec : Nat) (start : Nat) (w : World)
 (hd : RdD w A ds c) (hs : ShortD ds) (hw : WfD ds) (hE : Is w E es ec) (hes : es.length = i) (hst : start ≤ 100000) :
 Calls Tryz.prog 59 #[vdesc (.slice A ds.length c), .int .i64 (i : Int), .int .i64 (start : Int), .slice E es.length ec] w fun e w' => ∃ (v : Value) (l : List Ins), e = .returned v ∧ l.length ≤ 60 ∧ OwnI w w' v l ∧ Ext w w' := by
 have hl := hE.len; have hdl := hd.len; have hdc := hd.cap
 have HKF := kids_facts hok i hi (Nat.le_of_eq hes.symm)
 have HCF := code_facts hok i hi
 have HKL := kids_len hok i hi
 have HCT := choice_tags hok i hi
 have hkr := (ruleFacts hok i hi).kind
 have KN : Hid (∀ w', Ext w w' → Gives Tryz.prog 99 #[.agg #[.slice A ds.length c], .int .i64 (i : Int)] w' (.bool true)) := fun w' e => by
  have := iKnown_c A ds c (i : Int) w' (hd.ext e) hs hw
  rw [known_at hok i hi] at this; exact this
 obtain ⟨b, off, Rb, rb, Rn, rn, Rt, rt, Rk, rk, rfl, hb, hS, hR⟩ := hd.at i hi
 obtain ⟨m0, m1, m2, m3, m4, m5, m6, m7⟩ := hR
 have HS := Lib.hid hS; have HE := Lib.hid hE
 generalize ds[i] = r at *
 obtain ⟨nm, kind, sz, li, bs, ns, ts, ks⟩ := r
 dsimp only at *
 have HKK : Hid (∀ t (ht : t < ks.length), ∃ k : Nat, k < es.length ∧ ks[t] = (k : Int)) := fun t ht => by
  obtain ⟨h1, h2⟩ := HKF t ht
  exact ⟨_, h1, by rw [List.getElem?_eq_getElem ht] at h2; exact Option.some.inj h2⟩
 obtain ⟨W1, hW1⟩ : ∃ W, Hid (W = w.alloc (.cells #[.slice (some ⟨b, off, none⟩) ds.length c] 26)) := ⟨_, rfl⟩
 have e1 : Ext w W1 := ka hW1
 have BD : Box W1 w.heap.size #[.slice (some ⟨b, off, none⟩) ds.length c] 26 := kb hW1
 have d0 : ∀ w', Ext W1 w' → w'.cell? ⟨w.heap.size, 0, none⟩ = some (Value.slice (some ⟨b, off, none⟩) ds.length c) := fun w' e => BD.at 0 w' e
 have hesi : ¬ (es.length : Int) < (i : Int) := by omega
 have hesd : decide ((es.length : Int) < (i : Int)) = false := decide_eq_false hesi
 have hesd' : decide (es.length < i) = false := decide_eq_false (by omega)
 have hii : (i : Int) < (ds.length : Int) := by omega
 have HES := Lib.hid hes
 unfold vdesc at *
 clear BD hS hE hd HKF hok hs hw hes
 go_enter Tryz.func59, Tryz.ntmps59
 go_upto_region 1 with (fail)
 rw [← hW1.out]
 clear hW1
 go_wp2_with fail
 refine (KN.out _ e1).mono ?_; rintro _ w2 ⟨rfl, e2⟩
 have e02 := e1.trans e2
 replace d0 := kx d0 e2
 have c0 := fun w' (e : Ext w2 w') => m0 w' (e02.trans e)
 have c1 := fun w' (e : Ext w2 w') => m1 w' (e02.trans e)
 have c2 := fun w' (e : Ext w2 w') => m2 w' (e02.trans e)
 have c3 := fun w' (e : Ext w2 w') => m3 w' (e02.trans e)
 have c4 := fun w' (e : Ext w2 w') => m4 w' (e02.trans e)
 have c5 := fun w' (e : Ext w2 w') => m5 w' (e02.trans e)
 have c6 := fun w' (e : Ext w2 w') => m6 w' (e02.trans e)
 have c7 := fun w' (e : Ext w2 w') => m7 w' (e02.trans e)
 clear m0 m1 m2 m3 m4 m5 m6 m7 KN e1 e2
 obtain ⟨W3, hW3⟩ : ∃ W, Hid (W = w2.alloc (.cells #[.func (.func 100) #[] #[], .func (.func 101) #[] #[], .func (.func 102) #[] #[], .func (.func 103) #[] #[], .func (.func 104) #[] #[], .func (.func 105) #[] #[], .func (.func 106) #[] #[], .func (.func 107) #[] #[], .func (.func 108) #[] #[], .func (.func 109) #[] #[]] 134)) := ⟨_, rfl⟩
 have e23 : Ext w2 W3 := ka hW3
 have HT3 : Hid (Box W3 w2.heap.size #[.func (.func 100) #[] #[], .func (.func 101) #[] #[], .func (.func 102) #[] #[], .func (.func 103) #[] #[], .func (.func 104) #[] #[], .func (.func 105) #[] #[], .func (.func 106) #[] #[], .func (.func 107) #[] #[], .func (.func 108) #[] #[], .func (.func 109) #[] #[]] 134) := by rw [hW3.out]; exact Box.new _ _ _
 have hs3 : W3.heap.size = w2.heap.size + 1 := by rw [hW3.out]; simp
 obtain ⟨W4, hW4⟩ : ∃ W, Hid (W = W3.alloc (.cells #[.slice (some ⟨b, off, none⟩) ds.length c, .int .i64 (start : Int), .slice E es.length ec, .slice none 0 0] 139)) := ⟨_, rfl⟩
 have e34 : Ext W3 W4 := ka hW4
 have HB4 : Box W4 W3.heap.size #[.slice (some ⟨b, off, none⟩) ds.length c, .int .i64 (start : Int), .slice E es.length ec, .slice none 0 0] 139 := kb hW4
 have hs4 : W4.heap.size = w2.heap.size + 2 := by rw [hW4.out]; simp; omega
 obtain ⟨W5, hW5⟩ : ∃ W, Hid (W = W4.alloc (.cells #[.string nm, .int .i64 kind, .int .i64 sz, .bool li, .slice Rb bs.length rb, .slice Rn ns.length rn, .slice Rt ts.length rt, .slice Rk ks.length rk] 96)) := ⟨_, rfl⟩
 have e45 : Ext W4 W5 := ka hW5
 have HG5 : Hid (Box W5 W4.heap.size #[.string nm, .int .i64 kind, .int .i64 sz, .bool li, .slice Rb bs.length rb, .slice Rn ns.length rn, .slice Rt ts.length rt, .slice Rk ks.length rk] 96) := by rw [hW5.out]; exact Box.new _ _ _
 have e04 : Ext w W4 := e02.trans (e23.trans e34)
 have HK5 : Hid (KV (fun _ => False) w (w2.heap.size + 1) (.slice (some ⟨b, off, none⟩) ds.length c) (start : Int) (.slice E es.length ec) W5 []) := by
  have h2 := e02.size
  rw [hs3] at HB4
  exact ⟨_, (by omega), HB4.ext e45, (⟨by simp, .inl ⟨rfl, rfl⟩⟩), (fun hh => by cases hh), (fun hx => hx), (fun b hb hx => hx), (fun k hx => absurd hx id), e04.trans e45⟩
 have HW4 : Hid (W4 = (w2.alloc (.cells #[.func (.func 100) #[] #[], .func (.func 101) #[] #[], .func (.func 102) #[] #[], .func (.func 103) #[] #[], .func (.func 104) #[] #[], .func (.func 105) #[] #[], .func (.func 106) #[] #[], .func (.func 107) #[] #[], .func (.func 108) #[] #[], .func (.func 109) #[] #[]] 134)).alloc (.cells #[.slice (some ⟨b, off, none⟩) ds.length c, .int .i64 (start : Int), .slice E es.length ec, .slice none 0 0] 139)) := by show _ = _; rw [hW4.out, hW3.out]
 have HW5 := Lib.hid hW5.out
 have e24 := e23.trans e34
 have HT5 : Hid (Box W5 w2.heap.size #[.func (.func 100) #[] #[], .func (.func 101) #[] #[], .func (.func 102) #[] #[], .func (.func 103) #[] #[], .func (.func 104) #[] #[], .func (.func 105) #[] #[], .func (.func 106) #[] #[], .func (.func 107) #[] #[], .func (.func 108) #[] #[], .func (.func 109) #[] #[]] 134) := HT3.out.ext (e34.trans e45)
 clear hW3 hW4 hW5 HB4 e23 e34 e45 hs3 hs4 HT3
 go_upto_region 5 with (fail)
 rw [← HW4.out]
 clear HW4
 replace d0 := kx d0 e24
 replace c0 := kx c0 e24
 replace c1 := kx c1 e24
 replace c2 := kx c2 e24
 replace c3 := kx c3 e24
 replace c4 := kx c4 e24
 replace c5 := kx c5 e24
 replace c6 := kx c6 e24
 replace c7 := kx c7 e24
 go_upto_region 6 with (fail)
 rw [← HW5.out]
 clear HW5 e24 c0 c1 c2 c3 c4 c5 c6 c7 d0
 have g0 : ∀ w', Ext W5 w' → w'.cell? ⟨W4.heap.size, 0, none⟩ = some (.string nm) := fun w' e => HG5.out.at 0 w' e
 have g1 : ∀ w', Ext W5 w' → w'.cell? ⟨W4.heap.size, 1, none⟩ = some (.int .i64 kind) := fun w' e => HG5.out.at 1 w' e
 have g2 : ∀ w', Ext W5 w' → w'.cell? ⟨W4.heap.size, 2, none⟩ = some (.int .i64 sz) := fun w' e => HG5.out.at 2 w' e
 have g3 : ∀ w', Ext W5 w' → w'.cell? ⟨W4.heap.size, 3, none⟩ = some (.bool li) := fun w' e => HG5.out.at 3 w' e
 have g4 : ∀ w', Ext W5 w' → w'.cell? ⟨W4.heap.size, 4, none⟩ = some (.slice Rb bs.length rb) := fun w' e => HG5.out.at 4 w' e
 have g5 : ∀ w', Ext W5 w' → w'.cell? ⟨W4.heap.size, 5, none⟩ = some (.slice Rn ns.length rn) := fun w' e => HG5.out.at 5 w' e
 have g6 : ∀ w', Ext W5 w' → w'.cell? ⟨W4.heap.size, 6, none⟩ = some (.slice Rt ts.length rt) := fun w' e => HG5.out.at 6 w' e
 have g7 : ∀ w', Ext W5 w' → w'.cell? ⟨W4.heap.size, 7, none⟩ = some (.slice Rk ks.length rk) := fun w' e => HG5.out.at 7 w' e
 have hkk : kind = 1 ∨ kind = 2 ∨ kind = 3 ∨ kind = 4 ∨ kind = 5 ∨ kind = 6 ∨ kind = 7 ∨ kind = 8 ∨ kind = 9 ∨ kind = 10 := by omega
 clear hkr
 rcases hkk with rfl | rfl | rfl | rfl | rfl | rfl | rfl | rfl | rfl | rfl
 ·have CM := Lib.hid (fun w' h => iC_integer (fun _ => False) w (w2.heap.size + 1) (.slice (some ⟨b, off, none⟩) ds.length c) (start : Int) E es ec [] ⟨nm, 1, sz, li, bs, ns, ts, ks⟩ Rb rb Rn rn Rt rt Rk rk w' h (by simp) HS.out HE.out HKK.out)
  have ht : ∀ w', Ext W5 w' → w'.cell? ⟨w2.heap.size, 0, none⟩ = some (Value.func (.func 100) #[] #[]) := fun w' e => HT5.out.at 0 w' e
  clear HKL HCF HCT HKK HS HE
  have hiw : IntKind.i64.wrap ((1 : Int) - 1) = 0 := by rw [show ((1 : Int) - 1) = 0 by omega]; exact IntWalk.i64_in _ (by omega)
  go_wp2_with fail
  refine region_qtail_below 8 (by kernel_rfl) (by kernel_rfl) ?_
  simp only [List.take_succ_cons, List.take_zero, List.drop_succ_cons, List.drop_zero]
  repeat (go_big_quiet_step (fail))
  refine wpQuiet_nil ?_
  rintro w6 ⟨⟨nq, osq⟩, hq⟩
  have e6 := ext_of_q hq
  clear hq nq osq hiw
  have HK6 : Hid (KV (fun _ => False) w (w2.heap.size + 1) (.slice (some ⟨b, off, none⟩) ds.length c) (start : Int) (.slice E es.length ec) w6 []) := let ⟨vc, h⟩ := HK5.out; ⟨vc, h.next e6⟩
  go_wp2_with fail
  refine (CM.out _ HK6.out).mono ?_; rintro _ w7 ⟨rfl, ⟨l7, hl7, hm7⟩, hr7⟩
  have CAD := Lib.hid (iAdd_c (fun _ => False) w (w2.heap.size + 1) (.slice (some ⟨b, off, none⟩) ds.length c) (start : Int) (.slice E es.length ec) l7 10 0 0 w7 hm7 (by simp at hl7; omega))
  clear hm7 hr7 CM g0 g1 g2 g3 g4 g5 g6 g7 ht
  go_wp2_with fail
  refine CAD.out.mono ?_; rintro _ w8 ⟨rfl, ⟨l8, hl8, vc8, hm8⟩, hr8⟩
  obtain ⟨A8, c8, hv8, _⟩ := OwnI.rd hm8.oc (by simp at hl7; omega)
  subst hv8
  have r3 : w8.cell? ⟨w2.heap.size + 1, 3, none⟩ = some (Value.slice A8 l8.length c8) := hm8.box.cell 3
  have HO := Lib.hid hm8.oc; have HX := Lib.hid hm8.ext
  have HL := Lib.hid (show l8.length ≤ 60 by simp at hl7; omega)
  clear hm8 hr8 hl8 hl7
  go_wp2
  go_ret
  exact ⟨_, l8, rfl, HL.out, HO.out, HX.out⟩
 ·have CM := Lib.hid (fun w' h => iC_constant (fun _ => False) w (w2.heap.size + 1) (.slice (some ⟨b, off, none⟩) ds.length c) (start : Int) E es ec [] ⟨nm, 2, sz, li, bs, ns, ts, ks⟩ Rb rb Rn rn Rt rt Rk rk w' h (by simp) HS.out HE.out HKK.out (HCF.1 rfl))
  have ht : ∀ w', Ext W5 w' → w'.cell? ⟨w2.heap.size, 1, none⟩ = some (Value.func (.func 101) #[] #[]) := fun w' e => HT5.out.at 1 w' e
  clear HKL HCF HCT HKK HS HE
  have hiw : IntKind.i64.wrap ((2 : Int) - 1) = 1 := by rw [show ((2 : Int) - 1) = 1 by omega]; exact IntWalk.i64_in _ (by omega)
  go_wp2_with fail
  refine region_qtail_below 8 (by kernel_rfl) (by kernel_rfl) ?_
  simp only [List.take_succ_cons, List.take_zero, List.drop_succ_cons, List.drop_zero]
  repeat (go_big_quiet_step (fail))
  refine wpQuiet_nil ?_
  rintro w6 ⟨⟨nq, osq⟩, hq⟩
  have e6 := ext_of_q hq
  clear hq nq osq hiw
  have HK6 : Hid (KV (fun _ => False) w (w2.heap.size + 1) (.slice (some ⟨b, off, none⟩) ds.length c) (start : Int) (.slice E es.length ec) w6 []) := let ⟨vc, h⟩ := HK5.out; ⟨vc, h.next e6⟩
  go_wp2_with fail
  refine (CM.out _ HK6.out).mono ?_; rintro _ w7 ⟨rfl, ⟨l7, hl7, hm7⟩, hr7⟩
  have CAD := Lib.hid (iAdd_c (fun _ => False) w (w2.heap.size + 1) (.slice (some ⟨b, off, none⟩) ds.length c) (start : Int) (.slice E es.length ec) l7 10 0 0 w7 hm7 (by simp at hl7; omega))
  clear hm7 hr7 CM g0 g1 g2 g3 g4 g5 g6 g7 ht
  go_wp2_with fail
  refine CAD.out.mono ?_; rintro _ w8 ⟨rfl, ⟨l8, hl8, vc8, hm8⟩, hr8⟩
  obtain ⟨A8, c8, hv8, _⟩ := OwnI.rd hm8.oc (by simp at hl7; omega)
  subst hv8
  have r3 : w8.cell? ⟨w2.heap.size + 1, 3, none⟩ = some (Value.slice A8 l8.length c8) := hm8.box.cell 3
  have HO := Lib.hid hm8.oc; have HX := Lib.hid hm8.ext
  have HL := Lib.hid (show l8.length ≤ 60 by simp at hl7; omega)
  clear hm8 hr8 hl8 hl7
  go_wp2
  go_ret
  exact ⟨_, l8, rfl, HL.out, HO.out, HX.out⟩
 ·have CM := Lib.hid (fun w' h => iC_fixed (fun _ => False) w (w2.heap.size + 1) (.slice (some ⟨b, off, none⟩) ds.length c) (start : Int) E es ec [] ⟨nm, 3, sz, li, bs, ns, ts, ks⟩ Rb rb Rn rn Rt rt Rk rk w' h (by simp) HS.out HE.out HKK.out)
  have ht : ∀ w', Ext W5 w' → w'.cell? ⟨w2.heap.size, 2, none⟩ = some (Value.func (.func 102) #[] #[]) := fun w' e => HT5.out.at 2 w' e
  clear HKL HCF HCT HKK HS HE
  have hiw : IntKind.i64.wrap ((3 : Int) - 1) = 2 := by rw [show ((3 : Int) - 1) = 2 by omega]; exact IntWalk.i64_in _ (by omega)
  go_wp2_with fail
  refine region_qtail_below 8 (by kernel_rfl) (by kernel_rfl) ?_
  simp only [List.take_succ_cons, List.take_zero, List.drop_succ_cons, List.drop_zero]
  repeat (go_big_quiet_step (fail))
  refine wpQuiet_nil ?_
  rintro w6 ⟨⟨nq, osq⟩, hq⟩
  have e6 := ext_of_q hq
  clear hq nq osq hiw
  have HK6 : Hid (KV (fun _ => False) w (w2.heap.size + 1) (.slice (some ⟨b, off, none⟩) ds.length c) (start : Int) (.slice E es.length ec) w6 []) := let ⟨vc, h⟩ := HK5.out; ⟨vc, h.next e6⟩
  go_wp2_with fail
  refine (CM.out _ HK6.out).mono ?_; rintro _ w7 ⟨rfl, ⟨l7, hl7, hm7⟩, hr7⟩
  have CAD := Lib.hid (iAdd_c (fun _ => False) w (w2.heap.size + 1) (.slice (some ⟨b, off, none⟩) ds.length c) (start : Int) (.slice E es.length ec) l7 10 0 0 w7 hm7 (by simp at hl7; omega))
  clear hm7 hr7 CM g0 g1 g2 g3 g4 g5 g6 g7 ht
  go_wp2_with fail
  refine CAD.out.mono ?_; rintro _ w8 ⟨rfl, ⟨l8, hl8, vc8, hm8⟩, hr8⟩
  obtain ⟨A8, c8, hv8, _⟩ := OwnI.rd hm8.oc (by simp at hl7; omega)
  subst hv8
  have r3 : w8.cell? ⟨w2.heap.size + 1, 3, none⟩ = some (Value.slice A8 l8.length c8) := hm8.box.cell 3
  have HO := Lib.hid hm8.oc; have HX := Lib.hid hm8.ext
  have HL := Lib.hid (show l8.length ≤ 60 by simp at hl7; omega)
  clear hm8 hr8 hl8 hl7
  go_wp2
  go_ret
  exact ⟨_, l8, rfl, HL.out, HO.out, HX.out⟩
 ·have CM := Lib.hid (fun w' h => iC_sized (fun _ => False) w (w2.heap.size + 1) (.slice (some ⟨b, off, none⟩) ds.length c) (start : Int) E es ec [] ⟨nm, 4, sz, li, bs, ns, ts, ks⟩ Rb rb Rn rn Rt rt Rk rk w' h (by simp) HS.out HE.out HKK.out (HKL.1 rfl).1)
  have ht : ∀ w', Ext W5 w' → w'.cell? ⟨w2.heap.size, 3, none⟩ = some (Value.func (.func 103) #[] #[]) := fun w' e => HT5.out.at 3 w' e
  clear HKL HCF HCT HKK HS HE
  have hiw : IntKind.i64.wrap ((4 : Int) - 1) = 3 := by rw [show ((4 : Int) - 1) = 3 by omega]; exact IntWalk.i64_in _ (by omega)
  go_wp2_with fail
  refine region_qtail_below 8 (by kernel_rfl) (by kernel_rfl) ?_
  simp only [List.take_succ_cons, List.take_zero, List.drop_succ_cons, List.drop_zero]
  repeat (go_big_quiet_step (fail))
  refine wpQuiet_nil ?_
  rintro w6 ⟨⟨nq, osq⟩, hq⟩
  have e6 := ext_of_q hq
  clear hq nq osq hiw
  have HK6 : Hid (KV (fun _ => False) w (w2.heap.size + 1) (.slice (some ⟨b, off, none⟩) ds.length c) (start : Int) (.slice E es.length ec) w6 []) := let ⟨vc, h⟩ := HK5.out; ⟨vc, h.next e6⟩
  go_wp2_with fail
  refine (CM.out _ HK6.out).mono ?_; rintro _ w7 ⟨rfl, ⟨l7, hl7, hm7⟩, hr7⟩
  have CAD := Lib.hid (iAdd_c (fun _ => False) w (w2.heap.size + 1) (.slice (some ⟨b, off, none⟩) ds.length c) (start : Int) (.slice E es.length ec) l7 10 0 0 w7 hm7 (by simp at hl7; omega))
  clear hm7 hr7 CM g0 g1 g2 g3 g4 g5 g6 g7 ht
  go_wp2_with fail
  refine CAD.out.mono ?_; rintro _ w8 ⟨rfl, ⟨l8, hl8, vc8, hm8⟩, hr8⟩
  obtain ⟨A8, c8, hv8, _⟩ := OwnI.rd hm8.oc (by simp at hl7; omega)
  subst hv8
  have r3 : w8.cell? ⟨w2.heap.size + 1, 3, none⟩ = some (Value.slice A8 l8.length c8) := hm8.box.cell 3
  have HO := Lib.hid hm8.oc; have HX := Lib.hid hm8.ext
  have HL := Lib.hid (show l8.length ≤ 60 by simp at hl7; omega)
  clear hm8 hr8 hl8 hl7
  go_wp2
  go_ret
  exact ⟨_, l8, rfl, HL.out, HO.out, HX.out⟩
 ·have CM := Lib.hid (fun w' h => iC_array (fun _ => False) w (w2.heap.size + 1) (.slice (some ⟨b, off, none⟩) ds.length c) (start : Int) E es ec [] ⟨nm, 5, sz, li, bs, ns, ts, ks⟩ Rb rb Rn rn Rt rt Rk rk w' h (by simp) HS.out HE.out HKK.out (HKL.2.1 rfl).1)
  have ht : ∀ w', Ext W5 w' → w'.cell? ⟨w2.heap.size, 4, none⟩ = some (Value.func (.func 104) #[] #[]) := fun w' e => HT5.out.at 4 w' e
  clear HKL HCF HCT HKK HS HE
  have hiw : IntKind.i64.wrap ((5 : Int) - 1) = 4 := by rw [show ((5 : Int) - 1) = 4 by omega]; exact IntWalk.i64_in _ (by omega)
  go_wp2_with fail
  refine region_qtail_below 8 (by kernel_rfl) (by kernel_rfl) ?_
  simp only [List.take_succ_cons, List.take_zero, List.drop_succ_cons, List.drop_zero]
  repeat (go_big_quiet_step (fail))
  refine wpQuiet_nil ?_
  rintro w6 ⟨⟨nq, osq⟩, hq⟩
  have e6 := ext_of_q hq
  clear hq nq osq hiw
  have HK6 : Hid (KV (fun _ => False) w (w2.heap.size + 1) (.slice (some ⟨b, off, none⟩) ds.length c) (start : Int) (.slice E es.length ec) w6 []) := let ⟨vc, h⟩ := HK5.out; ⟨vc, h.next e6⟩
  go_wp2_with fail
  refine (CM.out _ HK6.out).mono ?_; rintro _ w7 ⟨rfl, ⟨l7, hl7, hm7⟩, hr7⟩
  have CAD := Lib.hid (iAdd_c (fun _ => False) w (w2.heap.size + 1) (.slice (some ⟨b, off, none⟩) ds.length c) (start : Int) (.slice E es.length ec) l7 10 0 0 w7 hm7 (by simp at hl7; omega))
  clear hm7 hr7 CM g0 g1 g2 g3 g4 g5 g6 g7 ht
  go_wp2_with fail
  refine CAD.out.mono ?_; rintro _ w8 ⟨rfl, ⟨l8, hl8, vc8, hm8⟩, hr8⟩
  obtain ⟨A8, c8, hv8, _⟩ := OwnI.rd hm8.oc (by simp at hl7; omega)
  subst hv8
  have r3 : w8.cell? ⟨w2.heap.size + 1, 3, none⟩ = some (Value.slice A8 l8.length c8) := hm8.box.cell 3
  have HO := Lib.hid hm8.oc; have HX := Lib.hid hm8.ext
  have HL := Lib.hid (show l8.length ≤ 60 by simp at hl7; omega)
  clear hm8 hr8 hl8 hl7
  go_wp2
  go_ret
  exact ⟨_, l8, rfl, HL.out, HO.out, HX.out⟩
 ·have CM := Lib.hid (fun w' h => iC_sequence (fun _ => False) w (w2.heap.size + 1) (.slice (some ⟨b, off, none⟩) ds.length c) (start : Int) E es ec [] ⟨nm, 6, sz, li, bs, ns, ts, ks⟩ Rb rb Rn rn Rt rt Rk rk w' h (by simp) HS.out HE.out HKK.out (HCF.2.1 rfl))
  have ht : ∀ w', Ext W5 w' → w'.cell? ⟨w2.heap.size, 5, none⟩ = some (Value.func (.func 105) #[] #[]) := fun w' e => HT5.out.at 5 w' e
  clear HKL HCF HCT HKK HS HE
  have hiw : IntKind.i64.wrap ((6 : Int) - 1) = 5 := by rw [show ((6 : Int) - 1) = 5 by omega]; exact IntWalk.i64_in _ (by omega)
  go_wp2_with fail
  refine region_qtail_below 8 (by kernel_rfl) (by kernel_rfl) ?_
  simp only [List.take_succ_cons, List.take_zero, List.drop_succ_cons, List.drop_zero]
  repeat (go_big_quiet_step (fail))
  refine wpQuiet_nil ?_
  rintro w6 ⟨⟨nq, osq⟩, hq⟩
  have e6 := ext_of_q hq
  clear hq nq osq hiw
  have HK6 : Hid (KV (fun _ => False) w (w2.heap.size + 1) (.slice (some ⟨b, off, none⟩) ds.length c) (start : Int) (.slice E es.length ec) w6 []) := let ⟨vc, h⟩ := HK5.out; ⟨vc, h.next e6⟩
  go_wp2_with fail
  refine (CM.out _ HK6.out).mono ?_; rintro _ w7 ⟨rfl, ⟨l7, hl7, hm7⟩, hr7⟩
  have CAD := Lib.hid (iAdd_c (fun _ => False) w (w2.heap.size + 1) (.slice (some ⟨b, off, none⟩) ds.length c) (start : Int) (.slice E es.length ec) l7 10 0 0 w7 hm7 (by simp at hl7; omega))
  clear hm7 hr7 CM g0 g1 g2 g3 g4 g5 g6 g7 ht
  go_wp2_with fail
  refine CAD.out.mono ?_; rintro _ w8 ⟨rfl, ⟨l8, hl8, vc8, hm8⟩, hr8⟩
  obtain ⟨A8, c8, hv8, _⟩ := OwnI.rd hm8.oc (by simp at hl7; omega)
  subst hv8
  have r3 : w8.cell? ⟨w2.heap.size + 1, 3, none⟩ = some (Value.slice A8 l8.length c8) := hm8.box.cell 3
  have HO := Lib.hid hm8.oc; have HX := Lib.hid hm8.ext
  have HL := Lib.hid (show l8.length ≤ 60 by simp at hl7; omega)
  clear hm8 hr8 hl8 hl7
  go_wp2
  go_ret
  exact ⟨_, l8, rfl, HL.out, HO.out, HX.out⟩
 ·have CM := Lib.hid (fun w' h => iC_choice (fun _ => False) w (w2.heap.size + 1) (.slice (some ⟨b, off, none⟩) ds.length c) (start : Int) E es ec [] ⟨nm, 7, sz, li, bs, ns, ts, ks⟩ Rb rb Rn rn Rt rt Rk rk w' h (by simp) HS.out HE.out HKK.out ⟨(HCT rfl).1, (HCT rfl).2, (HKL.2.2.2.1 rfl).1⟩)
  have ht : ∀ w', Ext W5 w' → w'.cell? ⟨w2.heap.size, 6, none⟩ = some (Value.func (.func 106) #[] #[]) := fun w' e => HT5.out.at 6 w' e
  clear HKL HCF HCT HKK HS HE
  have hiw : IntKind.i64.wrap ((7 : Int) - 1) = 6 := by rw [show ((7 : Int) - 1) = 6 by omega]; exact IntWalk.i64_in _ (by omega)
  go_wp2_with fail
  refine region_qtail_below 8 (by kernel_rfl) (by kernel_rfl) ?_
  simp only [List.take_succ_cons, List.take_zero, List.drop_succ_cons, List.drop_zero]
  repeat (go_big_quiet_step (fail))
  refine wpQuiet_nil ?_
  rintro w6 ⟨⟨nq, osq⟩, hq⟩
  have e6 := ext_of_q hq
  clear hq nq osq hiw
  have HK6 : Hid (KV (fun _ => False) w (w2.heap.size + 1) (.slice (some ⟨b, off, none⟩) ds.length c) (start : Int) (.slice E es.length ec) w6 []) := let ⟨vc, h⟩ := HK5.out; ⟨vc, h.next e6⟩
  go_wp2_with fail
  refine (CM.out _ HK6.out).mono ?_; rintro _ w7 ⟨rfl, ⟨l7, hl7, hm7⟩, hr7⟩
  have CAD := Lib.hid (iAdd_c (fun _ => False) w (w2.heap.size + 1) (.slice (some ⟨b, off, none⟩) ds.length c) (start : Int) (.slice E es.length ec) l7 10 0 0 w7 hm7 (by simp at hl7; omega))
  clear hm7 hr7 CM g0 g1 g2 g3 g4 g5 g6 g7 ht
  go_wp2_with fail
  refine CAD.out.mono ?_; rintro _ w8 ⟨rfl, ⟨l8, hl8, vc8, hm8⟩, hr8⟩
  obtain ⟨A8, c8, hv8, _⟩ := OwnI.rd hm8.oc (by simp at hl7; omega)
  subst hv8
  have r3 : w8.cell? ⟨w2.heap.size + 1, 3, none⟩ = some (Value.slice A8 l8.length c8) := hm8.box.cell 3
  have HO := Lib.hid hm8.oc; have HX := Lib.hid hm8.ext
  have HL := Lib.hid (show l8.length ≤ 60 by simp at hl7; omega)
  clear hm8 hr8 hl8 hl7
  go_wp2
  go_ret
  exact ⟨_, l8, rfl, HL.out, HO.out, HX.out⟩
 ·have CM := Lib.hid (fun w' h => iC_option (fun _ => False) w (w2.heap.size + 1) (.slice (some ⟨b, off, none⟩) ds.length c) (start : Int) E es ec [] ⟨nm, 8, sz, li, bs, ns, ts, ks⟩ Rb rb Rn rn Rt rt Rk rk w' h (by simp) HS.out HE.out HKK.out (HKL.2.2.2.2.1 (.inl rfl)))
  have ht : ∀ w', Ext W5 w' → w'.cell? ⟨w2.heap.size, 7, none⟩ = some (Value.func (.func 107) #[] #[]) := fun w' e => HT5.out.at 7 w' e
  clear HKL HCF HCT HKK HS HE
  have hiw : IntKind.i64.wrap ((8 : Int) - 1) = 7 := by rw [show ((8 : Int) - 1) = 7 by omega]; exact IntWalk.i64_in _ (by omega)
  go_wp2_with fail
  refine region_qtail_below 8 (by kernel_rfl) (by kernel_rfl) ?_
  simp only [List.take_succ_cons, List.take_zero, List.drop_succ_cons, List.drop_zero]
  repeat (go_big_quiet_step (fail))
  refine wpQuiet_nil ?_
  rintro w6 ⟨⟨nq, osq⟩, hq⟩
  have e6 := ext_of_q hq
  clear hq nq osq hiw
  have HK6 : Hid (KV (fun _ => False) w (w2.heap.size + 1) (.slice (some ⟨b, off, none⟩) ds.length c) (start : Int) (.slice E es.length ec) w6 []) := let ⟨vc, h⟩ := HK5.out; ⟨vc, h.next e6⟩
  go_wp2_with fail
  refine (CM.out _ HK6.out).mono ?_; rintro _ w7 ⟨rfl, ⟨l7, hl7, hm7⟩, hr7⟩
  have CAD := Lib.hid (iAdd_c (fun _ => False) w (w2.heap.size + 1) (.slice (some ⟨b, off, none⟩) ds.length c) (start : Int) (.slice E es.length ec) l7 10 0 0 w7 hm7 (by simp at hl7; omega))
  clear hm7 hr7 CM g0 g1 g2 g3 g4 g5 g6 g7 ht
  go_wp2_with fail
  refine CAD.out.mono ?_; rintro _ w8 ⟨rfl, ⟨l8, hl8, vc8, hm8⟩, hr8⟩
  obtain ⟨A8, c8, hv8, _⟩ := OwnI.rd hm8.oc (by simp at hl7; omega)
  subst hv8
  have r3 : w8.cell? ⟨w2.heap.size + 1, 3, none⟩ = some (Value.slice A8 l8.length c8) := hm8.box.cell 3
  have HO := Lib.hid hm8.oc; have HX := Lib.hid hm8.ext
  have HL := Lib.hid (show l8.length ≤ 60 by simp at hl7; omega)
  clear hm8 hr8 hl8 hl7
  go_wp2
  go_ret
  exact ⟨_, l8, rfl, HL.out, HO.out, HX.out⟩
 ·have CM := Lib.hid (fun w' h => iC_checked (fun _ => False) w (w2.heap.size + 1) (.slice (some ⟨b, off, none⟩) ds.length c) (start : Int) E es ec [] ⟨nm, 9, sz, li, bs, ns, ts, ks⟩ Rb rb Rn rn Rt rt Rk rk w' h (by simp) HS.out HE.out HKK.out (HKL.2.2.2.2.1 (.inr rfl)))
  have ht : ∀ w', Ext W5 w' → w'.cell? ⟨w2.heap.size, 8, none⟩ = some (Value.func (.func 108) #[] #[]) := fun w' e => HT5.out.at 8 w' e
  clear HKL HCF HCT HKK HS HE
  have hiw : IntKind.i64.wrap ((9 : Int) - 1) = 8 := by rw [show ((9 : Int) - 1) = 8 by omega]; exact IntWalk.i64_in _ (by omega)
  go_wp2_with fail
  refine region_qtail_below 8 (by kernel_rfl) (by kernel_rfl) ?_
  simp only [List.take_succ_cons, List.take_zero, List.drop_succ_cons, List.drop_zero]
  repeat (go_big_quiet_step (fail))
  refine wpQuiet_nil ?_
  rintro w6 ⟨⟨nq, osq⟩, hq⟩
  have e6 := ext_of_q hq
  clear hq nq osq hiw
  have HK6 : Hid (KV (fun _ => False) w (w2.heap.size + 1) (.slice (some ⟨b, off, none⟩) ds.length c) (start : Int) (.slice E es.length ec) w6 []) := let ⟨vc, h⟩ := HK5.out; ⟨vc, h.next e6⟩
  go_wp2_with fail
  refine (CM.out _ HK6.out).mono ?_; rintro _ w7 ⟨rfl, ⟨l7, hl7, hm7⟩, hr7⟩
  have CAD := Lib.hid (iAdd_c (fun _ => False) w (w2.heap.size + 1) (.slice (some ⟨b, off, none⟩) ds.length c) (start : Int) (.slice E es.length ec) l7 10 0 0 w7 hm7 (by simp at hl7; omega))
  clear hm7 hr7 CM g0 g1 g2 g3 g4 g5 g6 g7 ht
  go_wp2_with fail
  refine CAD.out.mono ?_; rintro _ w8 ⟨rfl, ⟨l8, hl8, vc8, hm8⟩, hr8⟩
  obtain ⟨A8, c8, hv8, _⟩ := OwnI.rd hm8.oc (by simp at hl7; omega)
  subst hv8
  have r3 : w8.cell? ⟨w2.heap.size + 1, 3, none⟩ = some (Value.slice A8 l8.length c8) := hm8.box.cell 3
  have HO := Lib.hid hm8.oc; have HX := Lib.hid hm8.ext
  have HL := Lib.hid (show l8.length ≤ 60 by simp at hl7; omega)
  clear hm8 hr8 hl8 hl7
  go_wp2
  go_ret
  exact ⟨_, l8, rfl, HL.out, HO.out, HX.out⟩
 ·have CM := Lib.hid (fun w' h => iC_terminated (fun _ => False) w (w2.heap.size + 1) (.slice (some ⟨b, off, none⟩) ds.length c) (start : Int) E es ec [] ⟨nm, 10, sz, li, bs, ns, ts, ks⟩ Rb rb Rn rn Rt rt Rk rk w' h (by simp) HS.out HE.out HKK.out (HCF.2.2.2 rfl))
  have ht : ∀ w', Ext W5 w' → w'.cell? ⟨w2.heap.size, 9, none⟩ = some (Value.func (.func 109) #[] #[]) := fun w' e => HT5.out.at 9 w' e
  clear HKL HCF HCT HKK HS HE
  have hiw : IntKind.i64.wrap ((10 : Int) - 1) = 9 := by rw [show ((10 : Int) - 1) = 9 by omega]; exact IntWalk.i64_in _ (by omega)
  go_wp2_with fail
  refine region_qtail_below 8 (by kernel_rfl) (by kernel_rfl) ?_
  simp only [List.take_succ_cons, List.take_zero, List.drop_succ_cons, List.drop_zero]
  repeat (go_big_quiet_step (fail))
  refine wpQuiet_nil ?_
  rintro w6 ⟨⟨nq, osq⟩, hq⟩
  have e6 := ext_of_q hq
  clear hq nq osq hiw
  have HK6 : Hid (KV (fun _ => False) w (w2.heap.size + 1) (.slice (some ⟨b, off, none⟩) ds.length c) (start : Int) (.slice E es.length ec) w6 []) := let ⟨vc, h⟩ := HK5.out; ⟨vc, h.next e6⟩
  go_wp2_with fail
  refine (CM.out _ HK6.out).mono ?_; rintro _ w7 ⟨rfl, ⟨l7, hl7, hm7⟩, hr7⟩
  have CAD := Lib.hid (iAdd_c (fun _ => False) w (w2.heap.size + 1) (.slice (some ⟨b, off, none⟩) ds.length c) (start : Int) (.slice E es.length ec) l7 10 0 0 w7 hm7 (by simp at hl7; omega))
  clear hm7 hr7 CM g0 g1 g2 g3 g4 g5 g6 g7 ht
  go_wp2_with fail
  refine CAD.out.mono ?_; rintro _ w8 ⟨rfl, ⟨l8, hl8, vc8, hm8⟩, hr8⟩
  obtain ⟨A8, c8, hv8, _⟩ := OwnI.rd hm8.oc (by simp at hl7; omega)
  subst hv8
  have r3 : w8.cell? ⟨w2.heap.size + 1, 3, none⟩ = some (Value.slice A8 l8.length c8) := hm8.box.cell 3
  have HO := Lib.hid hm8.oc; have HX := Lib.hid hm8.ext
  have HL := Lib.hid (show l8.length ≤ 60 by simp at hl7; omega)
  clear hm8 hr8 hl8 hl7
  go_wp2
  go_ret
  exact ⟨_, l8, rfl, HL.out, HO.out, HX.out⟩
end Go.Proofs.YtpmcofmdjckijaaGreat
