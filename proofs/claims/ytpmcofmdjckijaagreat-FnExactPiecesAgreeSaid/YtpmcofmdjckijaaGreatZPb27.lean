/- Texts, laid into one. -/
import Derived.Test.YtpmcofmdjckijaaGreatZPb23
import Derived.Test.YtpmcofmdjckijaaGreatZPb26
set_option linter.unusedVariables false
set_option linter.unusedSimpArgs false
set_option maxRecDepth 100000
set_option maxHeartbeats 16000000
namespace Go.Proofs.YtpmcofmdjckijaaGreat
open Go.RowKit Go.Sort
theorem insAt_nat {cs : List Ins} {j : Nat} (hj : j < cs.length) : insAt cs (j : Int) = cs[j] := by unfold insAt; simp [hj]
theorem isOp_at {cs : List Ins} {j : Nat} (hj : j < cs.length) (op : Int) : isOp cs (j : Int) op = (cs[j].1 == op) := by
 unfold isOp inB; rw [insAt_nat hj, decide_eq_true (by omega), decide_eq_true (by omega)]; rfl
theorem isOp_out {cs : List Ins} {k op : Int} (h : ¬ (0 ≤ k ∧ k ≤ (cs.length : Int) - 1)) : isOp cs k op = false := by
 unfold isOp inB
 rcases (by omega : ¬ 0 ≤ k ∨ ¬ k ≤ (cs.length : Int) - 1) with h | h
 ·rw [decide_eq_false h]; rfl
 ·rw [decide_eq_false h, Bool.and_false]; rfl
theorem sOpIn_c (x : Int) (A : Option Addr) (l : List Int) (c : Nat) (w : World) (h : Is w A l c) :
 Gives Tryz.prog 195 #[.int .i64 x, .slice A l.length c] w (.bool (l.any (· == x))) := by
 have hl := h.len
 go_enter Tryz.func195, Tryz.ntmps195
 go_wp2
 go_loopw [5] (fun q wr => ∃ k : Nat, k ≤ l.length ∧ q = .int .i64 (k : Int) ∧ Hid ((l.take k).any (· == x) = false) ∧ Ext w wr) (fun q _ => l.length - (intOf q).toNat)
 case atStart => exact ⟨0, by omega, rfl, by show _ = _; simp, Ext.refl _⟩
 case round =>
  obtain ⟨k, hk, rfl, hn, he⟩ := hrel
  by_cases hlt : k < l.length
  ·obtain ⟨b, off, rfl, hb, hc⟩ := h.at k hlt
   have HS : Hid ((l.take (k + 1)).any (· == x) = (l[k] == x)) := by show _ = _; rw [List.take_succ_eq_append_getElem hlt, List.any_append, hn.out]; simp
   have HM : Hid (l[k] ∈ l) := List.getElem_mem hlt
   generalize l[k] = y at *
   by_cases hy : y = x
   ·have HR : Hid (l.any (· == x) = true) := by show _ = _; rw [List.any_eq_true]; exact ⟨y, HM.out, by simp [hy]⟩
    clear hn HS HM
    go_wp2
    go_ret
    exact ⟨by rw [HR.out]; rfl, he⟩
   ·have HN : Hid ((l.take (k + 1)).any (· == x) = false) := by show _ = _; rw [HS.out]; simp [hy]
    clear hn HS HM
    go_wp2
    go_roundw
    case rel => exact ⟨k + 1, by omega, by go_num, HN.out, he⟩
    case measure => simp [intOf]; omega
  ·have HR : Hid (l.any (· == x) = false) := by show _ = _; have := hn.out; rwa [List.take_of_length_le (by omega)] at this
   clear hn
   go_wp2
   go_ret
   exact ⟨by rw [HR.out]; rfl, he⟩
theorem sIsOp_c (Ac : Option Addr) (cs : List Ins) (cc : Nat) (Ae : Option Addr) (es : List Int) (ce : Nat) (k op : Int) (w : World) (hC : RdI w Ac cs cc) (hE : Is w Ae es ce) (hk : -1000000000 ≤ k ∧ k ≤ 1000000000) :
 Gives Tryz.prog 186 #[.agg #[.slice Ac cs.length cc, .slice Ae es.length ce], .int .i64 k, .int .i64 op] w (.bool (isOp cs k op)) := by
 have hl := hC.len; have hcp := hC.cap
 obtain ⟨W0, hW0⟩ : ∃ W, Hid (W = w.alloc (.cells #[.slice Ac cs.length cc, .slice Ae es.length ce] 55)) := ⟨_, rfl⟩
 have e0 : Ext w W0 := ka hW0
 have BP : Box W0 w.heap.size #[.slice Ac cs.length cc, .slice Ae es.length ce] 55 := kb hW0
 have p0 : ∀ w', Ext W0 w' → w'.cell? ⟨w.heap.size, 0, none⟩ = some (Value.slice Ac cs.length cc) := fun w' e => BP.at 0 w' e
 have p1 : ∀ w', Ext W0 w' → w'.cell? ⟨w.heap.size, 1, none⟩ = some (Value.slice Ae es.length ce) := fun w' e => BP.at 1 w' e
 have d0 := p0 _ (Ext.refl _); have d1 := p1 _ (Ext.refl _)
 rw [hW0.out] at d0 d1
 have CI := Lib.hid (fun x lo hi w => l1In_c x lo hi w)
 by_cases hin : 0 ≤ k ∧ k ≤ (cs.length : Int) - 1
 ·obtain ⟨j, rfl⟩ := Int.eq_ofNat_of_zero_le hin.1
  have hj : j < cs.length := by omega
  have HR := Lib.hid (isOp_at hj op)
  obtain ⟨b, off, rfl, hb, hc⟩ := hC.at j hj
  have hc1 : ∀ w', Ext W0 w' → w'.cell? ⟨b, off + j * 3, none⟩ = some (.int .i64 cs[j].1) := fun w' e => (hc w' (e0.trans e)).1
  have HD : Hid ((decide ((0 : Int) ≤ (j : Int)) && decide ((j : Int) ≤ (cs.length : Int) - 1)) = true) := by show _ = _; simp; omega
  generalize cs[j] = x at *
  clear hc
  go_enter Tryz.func186, Tryz.ntmps186
  go_wp2_with fail
  rw [← hW0.out]
  refine (CI.out (j : Int) 0 ((cs.length : Int) - 1) _).mono ?_; rintro _ w1 ⟨rfl, e1⟩; rw [HD.out]
  go_wp2
  go_ret
  exact ⟨by rw [HR.out]; rfl, e0.trans e1⟩
 ·have HR := Lib.hid (isOp_out (op := op) hin)
  have HD : Hid ((decide ((0 : Int) ≤ k) && decide (k ≤ (cs.length : Int) - 1)) = false) := by
   show _ = _
   rcases (by omega : ¬ 0 ≤ k ∨ ¬ k ≤ (cs.length : Int) - 1) with h | h
   ·rw [decide_eq_false h]; rfl
   ·rw [decide_eq_false h, Bool.and_false]
  go_enter Tryz.func186, Tryz.ntmps186
  go_wp2_with fail
  rw [← hW0.out]
  refine (CI.out k 0 ((cs.length : Int) - 1) _).mono ?_; rintro _ w1 ⟨rfl, e1⟩; rw [HD.out]
  go_wp2
  go_ret
  exact ⟨by rw [HR.out]; rfl, e0.trans e1⟩
theorem sOperands_c (x : Ins) (w : World) : Gives Tryz.prog 196 #[.agg #[.int .i64 x.1, .int .i64 x.2.1, .int .i64 x.2.2]] w (.bool (operOk x)) := by
 have CI := Lib.hid (fun x lo hi w => l1In_c x lo hi w)
 have e0 := Ext_alloc (.cells #[.int .i64 x.1, .int .i64 x.2.1, .int .i64 x.2.2] 79) (Ext.refl w)
 have BX := fun w' (e : Ext (w.alloc (.cells #[.int .i64 x.1, .int .i64 x.2.1, .int .i64 x.2.2] 79)) w') => boxed e
 obtain ⟨o, a, b⟩ := x
 dsimp only at *
 by_cases h1 : o = 1
 ·subst h1
  have HR : Hid (operOk (1, a, b) = (inB a 1 4 && inB b 0 1)) := rfl
  cases z1 : (decide ((1 : Int) ≤ a) && decide (a ≤ 4))
  all_goals
   have HZ := Lib.hid z1
   clear z1
   go_enter Tryz.func196, Tryz.ntmps196
   go_wp2_with fail
   refine (CI.out a 1 4 _).mono ?_; rintro _ w1 ⟨rfl, e1⟩; rw [HZ.out]
   have BX1 := fun w' (e : Ext w1 w') => BX w' (Ext.trans e1 e)
   first
    | (go_wp2_with fail
       refine (CI.out b 0 1 _).mono ?_; rintro _ w2 ⟨rfl, e2⟩
       go_wp2
       go_ret
       exact ⟨by rw [HR.out]; unfold inB; rw [HZ.out]; simp, (Ext.trans e0 e1).trans e2⟩)
    | (go_wp2
       go_ret
       exact ⟨by rw [HR.out]; unfold inB; rw [HZ.out]; simp, Ext.trans e0 e1⟩)
 by_cases h2 : o = 2
 ·subst h2
  have HR : Hid (operOk (2, a, b) = inB a 0 255) := rfl
  go_enter Tryz.func196, Tryz.ntmps196
  go_wp2_with fail
  refine (CI.out a 0 255 _).mono ?_; rintro _ w1 ⟨rfl, e1⟩
  go_wp2
  go_ret
  exact ⟨by rw [HR.out]; rfl, Ext.trans e0 e1⟩
 by_cases h16 : o = 16
 ·subst h16
  have HR : Hid (operOk (16, a, b) = inB a 0 255) := rfl
  go_enter Tryz.func196, Tryz.ntmps196
  go_wp2_with fail
  refine (CI.out a 0 255 _).mono ?_; rintro _ w1 ⟨rfl, e1⟩
  go_wp2
  go_ret
  exact ⟨by rw [HR.out]; rfl, Ext.trans e0 e1⟩
 by_cases h3 : o = 3
 ·subst h3
  have HR : Hid (operOk (3, a, b) = inB a 0 400) := rfl
  go_enter Tryz.func196, Tryz.ntmps196
  go_wp2_with fail
  refine (CI.out a 0 400 _).mono ?_; rintro _ w1 ⟨rfl, e1⟩
  go_wp2
  go_ret
  exact ⟨by rw [HR.out]; rfl, Ext.trans e0 e1⟩
 by_cases h5 : o = 5
 ·subst h5
  have HR : Hid (operOk (5, a, b) = inB a 0 400) := rfl
  go_enter Tryz.func196, Tryz.ntmps196
  go_wp2_with fail
  refine (CI.out a 0 400 _).mono ?_; rintro _ w1 ⟨rfl, e1⟩
  go_wp2
  go_ret
  exact ⟨by rw [HR.out]; rfl, Ext.trans e0 e1⟩
 by_cases h12 : o = 12
 ·subst h12
  have HR : Hid (operOk (12, a, b) = inB a 1 8) := rfl
  go_enter Tryz.func196, Tryz.ntmps196
  go_wp2_with fail
  refine (CI.out a 1 8 _).mono ?_; rintro _ w1 ⟨rfl, e1⟩
  go_wp2
  go_ret
  exact ⟨by rw [HR.out]; rfl, Ext.trans e0 e1⟩
 by_cases h11 : o = 11
 ·subst h11
  have HR : Hid (operOk (11, a, b) = decide (0 ≤ a)) := rfl
  go_enter Tryz.func196, Tryz.ntmps196
  go_wp2
  go_ret
  exact ⟨by rw [HR.out]; rfl, e0⟩
 have HR : Hid (operOk (o, a, b) = inB o 1 17) := by
  show _ = _
  unfold operOk
  rw [if_neg h1, if_neg h2, if_neg h16, if_neg h3, if_neg h5, if_neg h11, if_neg h12]
 have q1 : (o == 1) = false := by simpa using h1
 have q2 : (o == 2) = false := by simpa using h2
 have q3 : (o == 3) = false := by simpa using h3
 have q5 : (o == 5) = false := by simpa using h5
 have q11 : (o == 11) = false := by simpa using h11
 have q12 : (o == 12) = false := by simpa using h12
 have q16 : (o == 16) = false := by simpa using h16
 go_enter Tryz.func196, Tryz.ntmps196
 go_wp2_with fail
 refine (CI.out o 1 17 _).mono ?_; rintro _ w1 ⟨rfl, e1⟩
 go_wp2
 go_ret
 exact ⟨by rw [HR.out]; rfl, Ext.trans e0 e1⟩
theorem isOp_in {cs : List Ins} {k op : Int} (h : isOp cs k op = true) : ∃ j : Nat, ∃ _ : j < cs.length, k = (j : Int) := by
 unfold isOp inB at h
 simp only [Bool.and_eq_true, decide_eq_true_eq] at h
 exact ⟨k.toNat, by omega, by omega⟩
theorem sLoop_c (Ac : Option Addr) (cs : List Ins) (cc : Nat) (Ae : Option Addr) (es : List Int) (ce : Nat) (k : Int) (w : World) (hC : RdI w Ac cs cc) (hE : Is w Ae es ce) (hk : -100000000 ≤ k ∧ k ≤ 100000000) :
 Gives Tryz.prog 202 #[.agg #[.slice Ac cs.length cc, .slice Ae es.length ce], .int .i64 k] w (.bool (loopOk cs k)) := by
 have hl := hC.len; have hcp := hC.cap
 obtain ⟨W0, hW0⟩ : ∃ W, Hid (W = w.alloc (.cells #[.slice Ac cs.length cc, .slice Ae es.length ce] 55)) := ⟨_, rfl⟩
 have e0 : Ext w W0 := ka hW0
 have BP : Box W0 w.heap.size #[.slice Ac cs.length cc, .slice Ae es.length ce] 55 := kb hW0
 have p0 : ∀ w', Ext W0 w' → w'.cell? ⟨w.heap.size, 0, none⟩ = some (Value.slice Ac cs.length cc) := fun w' e => BP.at 0 w' e
 have p1 : ∀ w', Ext W0 w' → w'.cell? ⟨w.heap.size, 1, none⟩ = some (Value.slice Ae es.length ce) := fun w' e => BP.at 1 w' e
 have d0 := p0 _ (Ext.refl _); have d1 := p1 _ (Ext.refl _)
 rw [hW0.out] at d0 d1
 have CI := Lib.hid (fun (d o : Int) w' (e : Ext w w') (hd : -1000000000 ≤ d ∧ d ≤ 1000000000) => sIsOp_c Ac cs cc Ae es ce d o w' (hC.ext e) (hE.ext e) hd)
 cases z1 : isOp cs (k - 1) 6
 ·have HR : Hid (loopOk cs k = false) := by show _ = _; unfold loopOk; rw [z1]; rfl
  have HZ1 := Lib.hid z1; clear z1
  go_enter Tryz.func202, Tryz.ntmps202
  go_wp2_with fail
  rw [← hW0.out]
  refine (CI.out (k - 1) 6 _ e0 (by omega)).mono ?_; rintro _ w1 ⟨rfl, e1⟩; rw [HZ1.out]
  go_wp2
  go_ret
  exact ⟨by rw [HR.out]; rfl, e0.trans e1⟩
 have HZ1 := Lib.hid z1; clear z1
 cases z2 : isOp cs k 7
 ·have HR : Hid (loopOk cs k = false) := by show _ = _; unfold loopOk; rw [HZ1.out, z2]; rfl
  have HZ2 := Lib.hid z2; clear z2
  go_enter Tryz.func202, Tryz.ntmps202
  go_wp2_with fail
  rw [← hW0.out]
  refine (CI.out (k - 1) 6 _ e0 (by omega)).mono ?_; rintro _ w1 ⟨rfl, e1⟩; rw [HZ1.out]
  have y0 := p0 w1 e1; have y1 := p1 w1 e1
  go_wp2_with fail
  refine (CI.out k 7 _ (e0.trans e1) (by omega)).mono ?_; rintro _ w2 ⟨rfl, e2⟩; rw [HZ2.out]
  go_wp2
  go_ret
  exact ⟨by rw [HR.out]; rfl, (e0.trans e1).trans e2⟩
 have HZ2 := Lib.hid z2; clear z2
 cases z3 : isOp cs (k + 1) 9
 ·have HR : Hid (loopOk cs k = false) := by show _ = _; unfold loopOk; rw [HZ1.out, HZ2.out, z3]; rfl
  have HZ3 := Lib.hid z3; clear z3
  go_enter Tryz.func202, Tryz.ntmps202
  go_wp2_with fail
  rw [← hW0.out]
  refine (CI.out (k - 1) 6 _ e0 (by omega)).mono ?_; rintro _ w1 ⟨rfl, e1⟩; rw [HZ1.out]
  go_wp2_with fail
  refine (CI.out k 7 _ (e0.trans e1) (by omega)).mono ?_; rintro _ w2 ⟨rfl, e2⟩; rw [HZ2.out]
  have e12 := e1.trans e2
  go_wp2_with fail
  refine (CI.out (k + 1) 9 _ (e0.trans e12) (by omega)).mono ?_; rintro _ w3 ⟨rfl, e3⟩; rw [HZ3.out]
  go_wp2
  go_ret
  exact ⟨by rw [HR.out]; rfl, (e0.trans e12).trans e3⟩
 have HZ3 := Lib.hid z3; clear z3
 cases z4 : isOp cs (k + 2) 8
 ·have HR : Hid (loopOk cs k = false) := by show _ = _; unfold loopOk; rw [HZ1.out, HZ2.out, HZ3.out, z4]; rfl
  have HZ4 := Lib.hid z4; clear z4
  go_enter Tryz.func202, Tryz.ntmps202
  go_wp2_with fail
  rw [← hW0.out]
  refine (CI.out (k - 1) 6 _ e0 (by omega)).mono ?_; rintro _ w1 ⟨rfl, e1⟩; rw [HZ1.out]
  go_wp2_with fail
  refine (CI.out k 7 _ (e0.trans e1) (by omega)).mono ?_; rintro _ w2 ⟨rfl, e2⟩; rw [HZ2.out]
  have e12 := e1.trans e2
  go_wp2_with fail
  refine (CI.out (k + 1) 9 _ (e0.trans e12) (by omega)).mono ?_; rintro _ w3 ⟨rfl, e3⟩; rw [HZ3.out]
  have e13 := e12.trans e3
  go_wp2_with fail
  refine (CI.out (k + 2) 8 _ (e0.trans e13) (by omega)).mono ?_; rintro _ w4 ⟨rfl, e4⟩; rw [HZ4.out]
  go_wp2
  go_ret
  exact ⟨by rw [HR.out]; rfl, (e0.trans e13).trans e4⟩
 obtain ⟨j, hj, rfl⟩ := isOp_in HZ2.out
 obtain ⟨j2, hj2, hjj⟩ := isOp_in z4
 have hj2' : j2 = j + 2 := by omega
 subst hj2'
 have HZ4 := Lib.hid z4; clear z4 hjj
 have HR : Hid (loopOk cs (j : Int) = ((cs[j + 2].2.1 == (j : Int)) && (cs[j].2.1 == (j : Int) + 3))) := by
  show _ = _
  unfold loopOk
  rw [HZ1.out, HZ2.out, HZ3.out, HZ4.out, insAt_nat hj, show (j : Int) + 2 = ((j + 2 : Nat) : Int) by omega, insAt_nat hj2]; rfl
 obtain ⟨b, off, rfl, hb, hc⟩ := hC.at j hj
 obtain ⟨b', off', hbb, _, hc2⟩ := hC.at (j + 2) hj2
 injection hbb with hbb; injection hbb with i1 i2; subst i1; subst i2
 have f1 : ∀ w', Ext W0 w' → w'.cell? ⟨b, off + j * 3 + 1, none⟩ = some (.int .i64 cs[j].2.1) := fun w' e => (hc w' (e0.trans e)).2.1
 have f2 : ∀ w', Ext W0 w' → w'.cell? ⟨b, off + (j + 2) * 3 + 1, none⟩ = some (.int .i64 cs[j + 2].2.1) := fun w' e => (hc2 w' (e0.trans e)).2.1
 generalize cs[j].2.1 = x at *
 generalize cs[j + 2].2.1 = y at *
 have hji : (j : Int) + 2 < (cs.length : Int) := by omega
 have hjn : ((j : Int) + 2).toNat = j + 2 := by omega
 have HK := Lib.hid hk
 clear hc hc2 hk
 by_cases hy : y = (j : Int)
 all_goals
  go_enter Tryz.func202, Tryz.ntmps202
  go_wp2_with fail
  rw [← hW0.out]
  refine (CI.out ((j : Int) - 1) 6 _ e0 (by omega)).mono ?_; rintro _ w1 ⟨rfl, e1⟩; rw [HZ1.out]
  go_wp2_with fail
  refine (CI.out (j : Int) 7 _ (e0.trans e1) (by omega)).mono ?_; rintro _ w2 ⟨rfl, e2⟩; rw [HZ2.out]
  have e12 := e1.trans e2
  go_wp2_with fail
  refine (CI.out ((j : Int) + 1) 9 _ (e0.trans e12) (by omega)).mono ?_; rintro _ w3 ⟨rfl, e3⟩; rw [HZ3.out]
  have e13 := e12.trans e3
  go_wp2_with fail
  refine (CI.out ((j : Int) + 2) 8 _ (e0.trans e13) (by omega)).mono ?_; rintro _ w4 ⟨rfl, e4⟩; rw [HZ4.out]
  have e14 := e13.trans e4
  go_wp2
  go_ret
  exact ⟨by rw [HR.out]; simp [hy], e0.trans e14⟩
end Go.Proofs.YtpmcofmdjckijaaGreat
