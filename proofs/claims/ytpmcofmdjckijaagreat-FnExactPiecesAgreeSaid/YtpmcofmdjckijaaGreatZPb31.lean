/- Texts, laid into one. -/
import Derived.Test.YtpmcofmdjckijaaGreatZPb27
set_option linter.unusedVariables false
set_option linter.unusedSimpArgs false
set_option maxRecDepth 100000
set_option maxHeartbeats 16000000
namespace Go.Proofs.YtpmcofmdjckijaaGreat
open Go.RowKit Go.Sort
theorem iIsIdx_c (Ac : Option Addr) (cs : List Ins) (cc : Nat) (Ae : Option Addr) (es : List Int) (ce : Nat) (k : Int) (w : World) (hC : RdI w Ac cs cc) (hE : Is w Ae es ce) :
 Gives Tryz.prog 146 #[.agg #[.slice Ac cs.length cc, .slice Ae es.length ce], .int .i64 k] w (.bool (idxB cs k)) := by
 have hl := hC.len; have hcp := hC.cap
 obtain ⟨W0, hW0⟩ : ∃ W, Hid (W = w.alloc (.cells #[.slice Ac cs.length cc, .slice Ae es.length ce] 55)) := ⟨_, rfl⟩
 have e0 : Ext w W0 := ka hW0
 have BP : Box W0 w.heap.size #[.slice Ac cs.length cc, .slice Ae es.length ce] 55 := kb hW0
 have p0 : ∀ w', Ext W0 w' → w'.cell? ⟨w.heap.size, 0, none⟩ = some (Value.slice Ac cs.length cc) := fun w' e => BP.at 0 w' e
 have p1 : ∀ w', Ext W0 w' → w'.cell? ⟨w.heap.size, 1, none⟩ = some (Value.slice Ae es.length ce) := fun w' e => BP.at 1 w' e
 have d0 := p0 _ (Ext.refl _); have d1 := p1 _ (Ext.refl _)
 rw [hW0.out] at d0 d1
 by_cases h0 : 0 ≤ k
 ·by_cases h1 : k < (cs.length : Int)
  ·have HR : Hid (idxB cs k = true) := by show _ = _; unfold idxB inB; simp; omega
   go_enter Tryz.func146, Tryz.ntmps146
   go_wp2
   go_ret
   exact ⟨by rw [HR.out]; simp [h1], by rw [← hW0.out]; exact e0⟩
  ·have HR : Hid (idxB cs k = false) := by show _ = _; unfold idxB inB; simp; omega
   have hd : decide (k < (cs.length : Int)) = false := decide_eq_false h1
   go_enter Tryz.func146, Tryz.ntmps146
   go_wp2
   go_ret
   exact ⟨by rw [HR.out]; simp [h1], by rw [← hW0.out]; exact e0⟩
 ·have HR : Hid (idxB cs k = false) := by show _ = _; unfold idxB inB; simp; omega
  have hd : decide (0 ≤ k) = false := decide_eq_false h0
  go_enter Tryz.func146, Tryz.ntmps146
  go_wp2
  go_ret
  exact ⟨by rw [HR.out]; rfl, by rw [← hW0.out]; exact e0⟩
theorem iGoesOn_c (o : Int) (w : World) : Gives Tryz.prog 172 #[.int .i64 o] w (.bool (goI o)) := by
 by_cases h8 : o = 8
 ·subst h8
  go_enter Tryz.func172, Tryz.ntmps172
  go_wp2
  go_ret
  exact ⟨rfl, Ext.refl _⟩
 by_cases h10 : o = 10
 ·subst h10
  go_enter Tryz.func172, Tryz.ntmps172
  go_wp2
  go_ret
  exact ⟨rfl, Ext.refl _⟩
 by_cases h12 : o = 12
 ·subst h12
  go_enter Tryz.func172, Tryz.ntmps172
  go_wp2
  go_ret
  exact ⟨rfl, Ext.refl _⟩
 have n8 : (o != 8) = true := by simp [h8]
 have n10 : (o != 10) = true := by simp [h10]
 have n12 : (o != 12) = true := by simp [h12]
 have HR : Hid (goI o = (o != 17)) := by show _ = _; unfold goI; rw [n8, n10, n12]; rfl
 go_enter Tryz.func172, Tryz.ntmps172
 go_wp2
 go_ret
 exact ⟨by rw [HR.out]; rfl, Ext.refl _⟩
theorem iOpAt_c (Ac : Option Addr) (cs : List Ins) (cc : Nat) (Ae : Option Addr) (es : List Int) (ce : Nat) (k : Int) (w : World) (hC : RdI w Ac cs cc) (hE : Is w Ae es ce) :
 Gives Tryz.prog 143 #[.agg #[.slice Ac cs.length cc, .slice Ae es.length ce], .int .i64 k] w (.int .i64 (opA cs k)) := by
 have hl := hC.len; have hcp := hC.cap
 obtain ⟨W0, hW0⟩ : ∃ W, Hid (W = w.alloc (.cells #[.slice Ac cs.length cc, .slice Ae es.length ce] 55)) := ⟨_, rfl⟩
 have e0 : Ext w W0 := ka hW0
 have BP : Box W0 w.heap.size #[.slice Ac cs.length cc, .slice Ae es.length ce] 55 := kb hW0
 have p0 : ∀ w', Ext W0 w' → w'.cell? ⟨w.heap.size, 0, none⟩ = some (Value.slice Ac cs.length cc) := fun w' e => BP.at 0 w' e
 have p1 : ∀ w', Ext W0 w' → w'.cell? ⟨w.heap.size, 1, none⟩ = some (Value.slice Ae es.length ce) := fun w' e => BP.at 1 w' e
 have d0 := p0 _ (Ext.refl _); have d1 := p1 _ (Ext.refl _)
 rw [hW0.out] at d0 d1
 have CI := Lib.hid (fun w' (e : Ext w w') => iIsIdx_c Ac cs cc Ae es ce k w' (hC.ext e) (hE.ext e))
 cases hz : idxB cs k
 ·have HR : Hid (opA cs k = 0) := by show _ = _; unfold opA; unfold idxB at hz; rw [hz]; rfl
  rw [hz] at CI
  go_enter Tryz.func143, Tryz.ntmps143
  go_wp2_with fail
  rw [← hW0.out]
  refine (CI.out _ e0).mono ?_; rintro _ w1 ⟨rfl, e1⟩
  go_wp2
  go_ret
  exact ⟨by rw [HR.out]; rfl, e0.trans e1⟩
 ·rw [hz] at CI
  obtain ⟨j, hj, rfl⟩ := idxB_in hz
  have HR := Lib.hid (opA_at hj)
  obtain ⟨b, off, rfl, hb, hc⟩ := hC.at j hj
  have hc1 : ∀ w', Ext W0 w' → w'.cell? ⟨b, off + j * 3, none⟩ = some (.int .i64 cs[j].1) := fun w' e => (hc w' (e0.trans e)).1
  have hji : (j : Int) < (cs.length : Int) := by omega
  generalize cs[j] = x at *
  clear hc hz
  go_enter Tryz.func143, Tryz.ntmps143
  go_wp2_with fail
  rw [← hW0.out]
  refine (CI.out _ e0).mono ?_; rintro _ w1 ⟨rfl, e1⟩
  go_wp2
  go_ret
  exact ⟨by rw [HR.out]; rfl, e0.trans e1⟩
theorem iBlockEnd_c (Ac : Option Addr) (cs : List Ins) (cc : Nat) (Ae : Option Addr) (es : List Int) (ce : Nat) (b : Nat) (hb : b ≤ 1000000) (w : World) (hC : RdI w Ac cs cc) (hE : Is w Ae es ce) :
 Gives Tryz.prog 142 #[.agg #[.slice Ac cs.length cc, .slice Ae es.length ce], .int .i64 (b : Int)] w (.int .i64 (endOf cs es b)) := by
 have hl := hC.len; have hcp := hC.cap
 obtain ⟨W0, hW0⟩ : ∃ W, Hid (W = w.alloc (.cells #[.slice Ac cs.length cc, .slice Ae es.length ce] 55)) := ⟨_, rfl⟩
 have e0 : Ext w W0 := ka hW0
 have BP : Box W0 w.heap.size #[.slice Ac cs.length cc, .slice Ae es.length ce] 55 := kb hW0
 have p0 : ∀ w', Ext W0 w' → w'.cell? ⟨w.heap.size, 0, none⟩ = some (Value.slice Ac cs.length cc) := fun w' e => BP.at 0 w' e
 have p1 : ∀ w', Ext W0 w' → w'.cell? ⟨w.heap.size, 1, none⟩ = some (Value.slice Ae es.length ce) := fun w' e => BP.at 1 w' e
 have d0 := p0 _ (Ext.refl _); have d1 := p1 _ (Ext.refl _)
 rw [hW0.out] at d0 d1
 have hiw : IntKind.i64.wrap ((b : Int) + 1) = (b : Int) + 1 := IntWalk.i64_in _ (by omega)
 by_cases hb1 : b + 1 < es.length
 ·have HR : Hid (endOf cs es b = es[b + 1]) := by show _ = _; unfold endOf; rw [if_pos hb1]; simp [hb1]
  obtain ⟨g, off, rfl, _, hc⟩ := hE.at (b + 1) hb1
  have hc1 : ∀ w', Ext W0 w' → w'.cell? ⟨g, off + (b + 1), none⟩ = some (.int .i64 es[b + 1]) := fun w' e => hc w' (e0.trans e)
  have hc2 := hc1 W0 (Ext.refl _)
  rw [hW0.out] at hc2
  have hbi : (b : Int) + 1 < (es.length : Int) := by omega
  have hbn : ((b : Int) + 1).toNat = b + 1 := by omega
  generalize es[b + 1] = x at *
  clear hc
  go_enter Tryz.func142, Tryz.ntmps142
  go_wp2
  go_ret
  exact ⟨by rw [HR.out]; rfl, by rw [← hW0.out]; exact e0⟩
 ·have HR : Hid (endOf cs es b = (cs.length : Int)) := by show _ = _; unfold endOf; rw [if_neg hb1]
  have hbi : ¬ (b : Int) + 1 < (es.length : Int) := by omega
  have hd : decide ((b : Int) + 1 < (es.length : Int)) = false := decide_eq_false hbi
  go_enter Tryz.func142, Tryz.ntmps142
  go_wp2
  go_ret
  exact ⟨by rw [HR.out]; rfl, by rw [← hW0.out]; exact e0⟩
theorem iLoop_c (Ac : Option Addr) (cs : List Ins) (cc : Nat) (Ae : Option Addr) (es : List Int) (ce : Nat) (k : Int) (w : World) (hC : RdI w Ac cs cc) (hE : Is w Ae es ce) (hk : -100000000 ≤ k ∧ k ≤ 100000000) :
 Gives Tryz.prog 176 #[.agg #[.slice Ac cs.length cc, .slice Ae es.length ce], .int .i64 k] w (.bool (loopI cs k)) := by
 have hl := hC.len; have hcp := hC.cap
 obtain ⟨W0, hW0⟩ : ∃ W, Hid (W = w.alloc (.cells #[.slice Ac cs.length cc, .slice Ae es.length ce] 55)) := ⟨_, rfl⟩
 have e0 : Ext w W0 := ka hW0
 have BP : Box W0 w.heap.size #[.slice Ac cs.length cc, .slice Ae es.length ce] 55 := kb hW0
 have p0 : ∀ w', Ext W0 w' → w'.cell? ⟨w.heap.size, 0, none⟩ = some (Value.slice Ac cs.length cc) := fun w' e => BP.at 0 w' e
 have p1 : ∀ w', Ext W0 w' → w'.cell? ⟨w.heap.size, 1, none⟩ = some (Value.slice Ae es.length ce) := fun w' e => BP.at 1 w' e
 have d0 := p0 _ (Ext.refl _); have d1 := p1 _ (Ext.refl _)
 rw [hW0.out] at d0 d1
 have CI := Lib.hid (fun (d : Int) w' (e : Ext w w') => iOpAt_c Ac cs cc Ae es ce d w' (hC.ext e) (hE.ext e))
 by_cases z1 : opA cs (k) = 7
 rotate_left
 ·have HR : Hid (loopI cs k = false) := by show _ = _; unfold loopI isO; simp [z1]
  generalize hy : opA cs (k) = y at *
  have HZ1 := Lib.hid hy; clear hy
  have hyb : (y == 7) = false := by simp [z1]
  go_enter Tryz.func176, Tryz.ntmps176
  go_wp2_with fail
  rw [← hW0.out]
  refine (CI.out (k) _ e0).mono ?_; rintro _ w1 ⟨rfl, e1⟩; rw [HZ1.out]
  go_wp2
  go_ret
  exact ⟨by rw [HR.out]; rfl, e0.trans e1⟩
 have HZ1 := Lib.hid z1
 by_cases z2 : opA cs (k - 1) = 6
 rotate_left
 ·have HR : Hid (loopI cs k = false) := by show _ = _; unfold loopI isO; rw [HZ1.out]; simp [z2]
  generalize hy : opA cs (k - 1) = y at *
  have HZ2 := Lib.hid hy; clear hy
  have hyb : (y == 6) = false := by simp [z2]
  go_enter Tryz.func176, Tryz.ntmps176
  go_wp2_with fail
  rw [← hW0.out]
  refine (CI.out (k) _ e0).mono ?_; rintro _ w1 ⟨rfl, e1⟩; rw [HZ1.out]
  go_wp2_with fail
  refine (CI.out (k - 1) _ (e0.trans e1)).mono ?_; rintro _ w2 ⟨rfl, e2_⟩; rw [HZ2.out]
  have e2 := e1.trans e2_
  go_wp2
  go_ret
  exact ⟨by rw [HR.out]; rfl, e0.trans e2⟩
 have HZ2 := Lib.hid z2
 by_cases z3 : opA cs (k + 1) = 9
 rotate_left
 ·have HR : Hid (loopI cs k = false) := by show _ = _; unfold loopI isO; rw [HZ1.out]; rw [HZ2.out]; simp [z3]
  generalize hy : opA cs (k + 1) = y at *
  have HZ3 := Lib.hid hy; clear hy
  have hyb : (y == 9) = false := by simp [z3]
  go_enter Tryz.func176, Tryz.ntmps176
  go_wp2_with fail
  rw [← hW0.out]
  refine (CI.out (k) _ e0).mono ?_; rintro _ w1 ⟨rfl, e1⟩; rw [HZ1.out]
  go_wp2_with fail
  refine (CI.out (k - 1) _ (e0.trans e1)).mono ?_; rintro _ w2 ⟨rfl, e2_⟩; rw [HZ2.out]
  have e2 := e1.trans e2_
  go_wp2_with fail
  refine (CI.out (k + 1) _ (e0.trans e2)).mono ?_; rintro _ w3 ⟨rfl, e3_⟩; rw [HZ3.out]
  have e3 := e2.trans e3_
  go_wp2
  go_ret
  exact ⟨by rw [HR.out]; rfl, e0.trans e3⟩
 have HZ3 := Lib.hid z3
 by_cases z4 : opA cs (k + 2) = 8
 rotate_left
 ·have HR : Hid (loopI cs k = false) := by show _ = _; unfold loopI isO; rw [HZ1.out]; rw [HZ2.out]; rw [HZ3.out]; simp [z4]
  generalize hy : opA cs (k + 2) = y at *
  have HZ4 := Lib.hid hy; clear hy
  have hyb : (y == 8) = false := by simp [z4]
  go_enter Tryz.func176, Tryz.ntmps176
  go_wp2_with fail
  rw [← hW0.out]
  refine (CI.out (k) _ e0).mono ?_; rintro _ w1 ⟨rfl, e1⟩; rw [HZ1.out]
  go_wp2_with fail
  refine (CI.out (k - 1) _ (e0.trans e1)).mono ?_; rintro _ w2 ⟨rfl, e2_⟩; rw [HZ2.out]
  have e2 := e1.trans e2_
  go_wp2_with fail
  refine (CI.out (k + 1) _ (e0.trans e2)).mono ?_; rintro _ w3 ⟨rfl, e3_⟩; rw [HZ3.out]
  have e3 := e2.trans e3_
  go_wp2_with fail
  refine (CI.out (k + 2) _ (e0.trans e3)).mono ?_; rintro _ w4 ⟨rfl, e4_⟩; rw [HZ4.out]
  have e4 := e3.trans e4_
  go_wp2
  go_ret
  exact ⟨by rw [HR.out]; rfl, e0.trans e4⟩
 have HZ4 := Lib.hid z4
 obtain ⟨j, hj, rfl⟩ := isO_in (cs := cs) (k := k) (op := 7) (by unfold isO; rw [z1]; rfl) (by decide)
 obtain ⟨j2, hj2, hjj⟩ := isO_in (cs := cs) (k := (j : Int) + 2) (op := 8) (by unfold isO; rw [z4]; rfl) (by decide)
 have hj2' : j2 = j + 2 := by omega
 subst hj2'
 clear hjj z1 z2 z3 z4
 have HR : Hid (loopI cs (j : Int) = ((cs[j + 2].2.1 == (j : Int)) && (cs[j].2.1 == (j : Int) + 3))) := by
  show _ = _
  unfold loopI isO
  rw [HZ1.out, HZ2.out, HZ3.out, HZ4.out, insAt_nat hj, show (j : Int) + 2 = ((j + 2 : Nat) : Int) by omega, insAt_nat hj2]; rfl
 obtain ⟨b, off, rfl, hb, hc⟩ := hC.at j hj
 obtain ⟨b', off', hbb, _, hc2⟩ := hC.at (j + 2) hj2
 injection hbb with hbb; injection hbb with i1 i2; subst i1; subst i2
 have f1 : ∀ w', Ext W0 w' → w'.cell? ⟨b, off + j * 3 + 1, none⟩ = some (.int .i64 cs[j].2.1) := fun w' e => (hc w' (e0.trans e)).2.1
 have f2 : ∀ w', Ext W0 w' → w'.cell? ⟨b, off + (j + 2) * 3 + 1, none⟩ = some (.int .i64 cs[j + 2].2.1) := fun w' e => (hc2 w' (e0.trans e)).2.1
 generalize cs[j].2.1 = x at *
 generalize cs[j + 2].2.1 = y at *
 have hji : (j : Int) + 2 < (cs.length : Int) := by omega
 have hjn : ((j : Int) + 2).toNat = j + 2 := by omega
 have HK := Lib.hid hk
 clear hc hc2 hk
 by_cases hy : y = (j : Int)
 ·subst hy
  by_cases hx : x = (j : Int) + 3
  ·subst hx
   go_enter Tryz.func176, Tryz.ntmps176
   go_wp2_with fail
   rw [← hW0.out]
   refine (CI.out ((j : Int)) _ e0).mono ?_; rintro _ w1 ⟨rfl, e1⟩; rw [HZ1.out]
   go_wp2_with fail
   refine (CI.out ((j : Int) - 1) _ (e0.trans e1)).mono ?_; rintro _ w2 ⟨rfl, e2_⟩; rw [HZ2.out]
   have e2 := e1.trans e2_
   go_wp2_with fail
   refine (CI.out ((j : Int) + 1) _ (e0.trans e2)).mono ?_; rintro _ w3 ⟨rfl, e3_⟩; rw [HZ3.out]
   have e3 := e2.trans e3_
   go_wp2_with fail
   refine (CI.out ((j : Int) + 2) _ (e0.trans e3)).mono ?_; rintro _ w4 ⟨rfl, e4_⟩; rw [HZ4.out]
   have e4 := e3.trans e4_
   go_wp2
   go_ret
   exact ⟨by rw [HR.out]; simp, e0.trans e4⟩
  ·have hxb : (x == (j : Int) + 3) = false := by simp [hx]
   go_enter Tryz.func176, Tryz.ntmps176
   go_wp2_with fail
   rw [← hW0.out]
   refine (CI.out ((j : Int)) _ e0).mono ?_; rintro _ w1 ⟨rfl, e1⟩; rw [HZ1.out]
   go_wp2_with fail
   refine (CI.out ((j : Int) - 1) _ (e0.trans e1)).mono ?_; rintro _ w2 ⟨rfl, e2_⟩; rw [HZ2.out]
   have e2 := e1.trans e2_
   go_wp2_with fail
   refine (CI.out ((j : Int) + 1) _ (e0.trans e2)).mono ?_; rintro _ w3 ⟨rfl, e3_⟩; rw [HZ3.out]
   have e3 := e2.trans e3_
   go_wp2_with fail
   refine (CI.out ((j : Int) + 2) _ (e0.trans e3)).mono ?_; rintro _ w4 ⟨rfl, e4_⟩; rw [HZ4.out]
   have e4 := e3.trans e4_
   go_wp2
   go_ret
   exact ⟨by rw [HR.out]; simp [hx], e0.trans e4⟩
 ·have hyb : (y == (j : Int)) = false := by simp [hy]
  go_enter Tryz.func176, Tryz.ntmps176
  go_wp2_with fail
  rw [← hW0.out]
  refine (CI.out ((j : Int)) _ e0).mono ?_; rintro _ w1 ⟨rfl, e1⟩; rw [HZ1.out]
  go_wp2_with fail
  refine (CI.out ((j : Int) - 1) _ (e0.trans e1)).mono ?_; rintro _ w2 ⟨rfl, e2_⟩; rw [HZ2.out]
  have e2 := e1.trans e2_
  go_wp2_with fail
  refine (CI.out ((j : Int) + 1) _ (e0.trans e2)).mono ?_; rintro _ w3 ⟨rfl, e3_⟩; rw [HZ3.out]
  have e3 := e2.trans e3_
  go_wp2_with fail
  refine (CI.out ((j : Int) + 2) _ (e0.trans e3)).mono ?_; rintro _ w4 ⟨rfl, e4_⟩; rw [HZ4.out]
  have e4 := e3.trans e4_
  go_wp2
  go_ret
  exact ⟨by rw [HR.out]; simp [hy], e0.trans e4⟩
theorem iMark_c (Ac : Option Addr) (cs : List Ins) (cc : Nat) (Ae : Option Addr) (es : List Int) (ce : Nat) (k : Int) (w : World) (hC : RdI w Ac cs cc) (hE : Is w Ae es ce) (hk : -100000000 ≤ k ∧ k ≤ 100000000) :
 Gives Tryz.prog 177 #[.agg #[.slice Ac cs.length cc, .slice Ae es.length ce], .int .i64 k] w (.bool (markI cs k)) := by
 have hl := hC.len; have hcp := hC.cap
 obtain ⟨W0, hW0⟩ : ∃ W, Hid (W = w.alloc (.cells #[.slice Ac cs.length cc, .slice Ae es.length ce] 55)) := ⟨_, rfl⟩
 have e0 : Ext w W0 := ka hW0
 have BP : Box W0 w.heap.size #[.slice Ac cs.length cc, .slice Ae es.length ce] 55 := kb hW0
 have p0 : ∀ w', Ext W0 w' → w'.cell? ⟨w.heap.size, 0, none⟩ = some (Value.slice Ac cs.length cc) := fun w' e => BP.at 0 w' e
 have p1 : ∀ w', Ext W0 w' → w'.cell? ⟨w.heap.size, 1, none⟩ = some (Value.slice Ae es.length ce) := fun w' e => BP.at 1 w' e
 have d0 := p0 _ (Ext.refl _); have d1 := p1 _ (Ext.refl _)
 rw [hW0.out] at d0 d1
 have CI := Lib.hid (fun (d : Int) w' (e : Ext w w') => iOpAt_c Ac cs cc Ae es ce d w' (hC.ext e) (hE.ext e))
 by_cases z1 : opA cs (k) = 14
 rotate_left
 ·have HR : Hid (markI cs k = false) := by show _ = _; unfold markI isO; simp [z1]
  generalize hy : opA cs (k) = y at *
  have HZ1 := Lib.hid hy; clear hy
  have hyb : (y == 14) = false := by simp [z1]
  go_enter Tryz.func177, Tryz.ntmps177
  go_wp2_with fail
  rw [← hW0.out]
  refine (CI.out (k) _ e0).mono ?_; rintro _ w1 ⟨rfl, e1⟩; rw [HZ1.out]
  go_wp2
  go_ret
  exact ⟨by rw [HR.out]; rfl, e0.trans e1⟩
 have HZ1 := Lib.hid z1
 by_cases z2 : opA cs (k + 1) = 9
 rotate_left
 ·have HR : Hid (markI cs k = false) := by show _ = _; unfold markI isO; rw [HZ1.out]; simp [z2]
  generalize hy : opA cs (k + 1) = y at *
  have HZ2 := Lib.hid hy; clear hy
  have hyb : (y == 9) = false := by simp [z2]
  go_enter Tryz.func177, Tryz.ntmps177
  go_wp2_with fail
  rw [← hW0.out]
  refine (CI.out (k) _ e0).mono ?_; rintro _ w1 ⟨rfl, e1⟩; rw [HZ1.out]
  go_wp2_with fail
  refine (CI.out (k + 1) _ (e0.trans e1)).mono ?_; rintro _ w2 ⟨rfl, e2_⟩; rw [HZ2.out]
  have e2 := e1.trans e2_
  go_wp2
  go_ret
  exact ⟨by rw [HR.out]; rfl, e0.trans e2⟩
 have HZ2 := Lib.hid z2
 have HR : Hid (markI cs k = (opA cs (k + 2) == 15)) := by show _ = _; unfold markI isO; rw [HZ1.out]; rw [HZ2.out]; simp
 generalize hy : opA cs (k + 2) = y at *
 have HZ3 := Lib.hid hy; clear hy
 go_enter Tryz.func177, Tryz.ntmps177
 go_wp2_with fail
 rw [← hW0.out]
 refine (CI.out (k) _ e0).mono ?_; rintro _ w1 ⟨rfl, e1⟩; rw [HZ1.out]
 go_wp2_with fail
 refine (CI.out (k + 1) _ (e0.trans e1)).mono ?_; rintro _ w2 ⟨rfl, e2_⟩; rw [HZ2.out]
 have e2 := e1.trans e2_
 go_wp2_with fail
 refine (CI.out (k + 2) _ (e0.trans e2)).mono ?_; rintro _ w3 ⟨rfl, e3_⟩; rw [HZ3.out]
 have e3 := e2.trans e3_
 go_wp2
 go_ret
 exact ⟨by rw [HR.out]; rfl, e0.trans e3⟩
theorem insI_at {cs : List Ins} {j : Nat} (hj : j < cs.length) : insI cs (j : Int) =
 (inB cs[j].1 1 17 && !(goI cs[j].1 && !idxB cs ((j : Int) + 1)) &&
 (if cs[j].1 = 7 then idxB cs cs[j].2.1
 else if cs[j].1 = 8 then idxB cs cs[j].2.1
 else if cs[j].1 = 9 then idxB cs cs[j].2.1
 else if cs[j].1 = 13 then idxB cs cs[j].2.1
 else if cs[j].1 = 11 then idxB cs cs[j].2.2 && decide (0 ≤ cs[j].2.1)
 else if cs[j].1 = 1 then inB cs[j].2.1 1 4 && inB cs[j].2.2 0 1
 else if cs[j].1 = 2 then inB cs[j].2.1 0 255
 else if cs[j].1 = 16 then inB cs[j].2.1 0 255
 else if cs[j].1 = 3 then inB cs[j].2.1 0 400
 else if cs[j].1 = 5 then inB cs[j].2.1 0 400
 else if cs[j].1 = 12 then inB cs[j].2.1 1 8
 else true)) := by
 unfold insI
 dsimp only
 rw [insAt_nat hj, show idxB cs (j : Int) = true by unfold idxB inB; simp; omega, Bool.true_and]
theorem iInsOk_c (Ac : Option Addr) (cs : List Ins) (cc : Nat) (Ae : Option Addr) (es : List Int) (ce : Nat) (k : Int) (w : World) (hC : RdI w Ac cs cc) (hE : Is w Ae es ce) (hk : -100000000 ≤ k ∧ k ≤ 100000000) :
 Gives Tryz.prog 141 #[.agg #[.slice Ac cs.length cc, .slice Ae es.length ce], .int .i64 k] w (.bool (insI cs k)) := by
 have hl := hC.len; have hcp := hC.cap
 obtain ⟨W0, hW0⟩ : ∃ W, Hid (W = w.alloc (.cells #[.slice Ac cs.length cc, .slice Ae es.length ce] 55)) := ⟨_, rfl⟩
 have e0 : Ext w W0 := ka hW0
 have BP : Box W0 w.heap.size #[.slice Ac cs.length cc, .slice Ae es.length ce] 55 := kb hW0
 have p0 : ∀ w', Ext W0 w' → w'.cell? ⟨w.heap.size, 0, none⟩ = some (Value.slice Ac cs.length cc) := fun w' e => BP.at 0 w' e
 have p1 : ∀ w', Ext W0 w' → w'.cell? ⟨w.heap.size, 1, none⟩ = some (Value.slice Ae es.length ce) := fun w' e => BP.at 1 w' e
 have d0 := p0 _ (Ext.refl _); have d1 := p1 _ (Ext.refl _)
 rw [hW0.out] at d0 d1
 have CX := Lib.hid (fun (d : Int) w' (e : Ext w w') => iIsIdx_c Ac cs cc Ae es ce d w' (hC.ext e) (hE.ext e))
 have CI := Lib.hid (fun x lo hi w => iInRange_c x lo hi w)
 have CG := Lib.hid (fun x w => iGoesOn_c x w)
 cases hz : idxB cs k
 ·have HR : Hid (insI cs k = false) := by show _ = _; unfold insI; dsimp only; rw [hz]; rfl
  have HZ := Lib.hid hz; clear hz
  go_enter Tryz.func141, Tryz.ntmps141
  go_wp2_with fail
  rw [← hW0.out]
  refine (CX.out k _ e0).mono ?_; rintro _ w1 ⟨rfl, e1⟩; rw [HZ.out]
  go_wp2
  go_ret
  exact ⟨by rw [HR.out]; rfl, e0.trans e1⟩
 have HZ := Lib.hid hz
 obtain ⟨j, hj, rfl⟩ := idxB_in hz
 have HR := Lib.hid (insI_at hj)
 obtain ⟨b, off, rfl, hb, hc⟩ := hC.at j hj
 have c0 : ∀ w', Ext W0 w' → w'.cell? ⟨b, off + j * 3, none⟩ = some (.int .i64 cs[j].1) := fun w' e => (hc w' (e0.trans e)).1
 have c1 : ∀ w', Ext W0 w' → w'.cell? ⟨b, off + j * 3 + 1, none⟩ = some (.int .i64 cs[j].2.1) := fun w' e => (hc w' (e0.trans e)).2.1
 have c2 : ∀ w', Ext W0 w' → w'.cell? ⟨b, off + j * 3 + 2, none⟩ = some (.int .i64 cs[j].2.2) := fun w' e => (hc w' (e0.trans e)).2.2
 have hji : (j : Int) < (cs.length : Int) := by omega
 have hiw : IntKind.i64.wrap ((j : Int) + 1) = (j : Int) + 1 := IntWalk.i64_in _ (by omega)
 generalize cs[j] = x at *
 obtain ⟨o, a, q⟩ := x
 dsimp only at *
 clear hc hz
 by_cases h7 : o = 7
 ·subst h7
  have HIN : Hid ((decide ((1 : Int) ≤ 7) && decide ((7 : Int) ≤ 17)) = true) := rfl
  have HG : Hid (goI 7 = true) := rfl
  cases hx : idxB cs ((j : Int) + 1)
  ·have HX := Lib.hid hx; clear hx
   have HV : Hid (insI cs (j : Int) = false) := by show _ = _; rw [HR.out, HG.out, HX.out]; rfl
   go_enter Tryz.func141, Tryz.ntmps141
   go_wp2_with fail
   rw [← hW0.out]
   refine (CX.out (j : Int) _ e0).mono ?_; rintro _ w1 ⟨rfl, e1⟩; rw [HZ.out]
   have EW := e0
   replace p0 := kx p0 e1
   replace p1 := kx p1 e1
   replace c0 := kx c0 e1
   replace c1 := kx c1 e1
   replace c2 := kx c2 e1
   replace EW := EW.trans e1; clear e1
   have y0 := c0 w1 (Ext.refl _); have y1 := c1 w1 (Ext.refl _); have y2 := c2 w1 (Ext.refl _)
   obtain ⟨W2, hW2⟩ : ∃ W, Hid (W = w1.alloc (.cells #[.int .i64 7, .int .i64 a, .int .i64 q] 79)) := ⟨_, rfl⟩
   have e2 : Ext w1 W2 := ka hW2
   have BX : Box W2 w1.heap.size #[.int .i64 7, .int .i64 a, .int .i64 q] 79 := kb hW2
   have f0 : ∀ w', Ext W2 w' → w'.cell? ⟨w1.heap.size, 0, none⟩ = some (.int .i64 7) := fun w' e => BX.at 0 w' e
   have f1 : ∀ w', Ext W2 w' → w'.cell? ⟨w1.heap.size, 1, none⟩ = some (.int .i64 a) := fun w' e => BX.at 1 w' e
   have f2 : ∀ w', Ext W2 w' → w'.cell? ⟨w1.heap.size, 2, none⟩ = some (.int .i64 q) := fun w' e => BX.at 2 w' e
   have z0 := f0 W2 (Ext.refl _)
   rw [hW2.out] at z0
   go_wp2_with fail
   rw [← hW2.out]
   replace p0 := kx p0 e2
   replace p1 := kx p1 e2
   replace EW := EW.trans e2; clear e2
   refine (CI.out 7 1 17 _).mono ?_; rintro _ w3 ⟨rfl, e3⟩; rw [HIN.out]
   replace p0 := kx p0 e3
   replace p1 := kx p1 e3
   replace f0 := kx f0 e3
   replace f1 := kx f1 e3
   replace f2 := kx f2 e3
   replace EW := EW.trans e3; clear e3
   clear z0 y0 y1 y2 BX c0 c1 c2
   go_wp2_with fail
   refine (CG.out 7 _).mono ?_; rintro _ w4 ⟨rfl, e4⟩; rw [HG.out]
   replace p0 := kx p0 e4
   replace p1 := kx p1 e4
   replace f0 := kx f0 e4
   replace f1 := kx f1 e4
   replace f2 := kx f2 e4
   replace EW := EW.trans e4; clear e4
   go_wp2_with fail
   refine (CX.out ((j : Int) + 1) _ EW).mono ?_; rintro _ w5 ⟨rfl, e5⟩; rw [HX.out]
   replace p0 := kx p0 e5
   replace p1 := kx p1 e5
   replace f0 := kx f0 e5
   replace f1 := kx f1 e5
   replace f2 := kx f2 e5
   replace EW := EW.trans e5; clear e5
   go_wp2
   go_ret
   exact ⟨by rw [HV.out]; rfl, EW⟩
  ·have HX := Lib.hid hx; clear hx
   have HV : Hid (insI cs (j : Int) = idxB cs a) := by show _ = _; rw [HR.out, HG.out, HX.out]; rfl
   go_enter Tryz.func141, Tryz.ntmps141
   go_wp2_with fail
   rw [← hW0.out]
   refine (CX.out (j : Int) _ e0).mono ?_; rintro _ w1 ⟨rfl, e1⟩; rw [HZ.out]
   have EW := e0
   replace p0 := kx p0 e1
   replace p1 := kx p1 e1
   replace c0 := kx c0 e1
   replace c1 := kx c1 e1
   replace c2 := kx c2 e1
   replace EW := EW.trans e1; clear e1
   have y0 := c0 w1 (Ext.refl _); have y1 := c1 w1 (Ext.refl _); have y2 := c2 w1 (Ext.refl _)
   obtain ⟨W2, hW2⟩ : ∃ W, Hid (W = w1.alloc (.cells #[.int .i64 7, .int .i64 a, .int .i64 q] 79)) := ⟨_, rfl⟩
   have e2 : Ext w1 W2 := ka hW2
   have BX : Box W2 w1.heap.size #[.int .i64 7, .int .i64 a, .int .i64 q] 79 := kb hW2
   have f0 : ∀ w', Ext W2 w' → w'.cell? ⟨w1.heap.size, 0, none⟩ = some (.int .i64 7) := fun w' e => BX.at 0 w' e
   have f1 : ∀ w', Ext W2 w' → w'.cell? ⟨w1.heap.size, 1, none⟩ = some (.int .i64 a) := fun w' e => BX.at 1 w' e
   have f2 : ∀ w', Ext W2 w' → w'.cell? ⟨w1.heap.size, 2, none⟩ = some (.int .i64 q) := fun w' e => BX.at 2 w' e
   have z0 := f0 W2 (Ext.refl _)
   rw [hW2.out] at z0
   go_wp2_with fail
   rw [← hW2.out]
   replace p0 := kx p0 e2
   replace p1 := kx p1 e2
   replace EW := EW.trans e2; clear e2
   refine (CI.out 7 1 17 _).mono ?_; rintro _ w3 ⟨rfl, e3⟩; rw [HIN.out]
   replace p0 := kx p0 e3
   replace p1 := kx p1 e3
   replace f0 := kx f0 e3
   replace f1 := kx f1 e3
   replace f2 := kx f2 e3
   replace EW := EW.trans e3; clear e3
   clear z0 y0 y1 y2 BX c0 c1 c2
   go_wp2_with fail
   refine (CG.out 7 _).mono ?_; rintro _ w4 ⟨rfl, e4⟩; rw [HG.out]
   replace p0 := kx p0 e4
   replace p1 := kx p1 e4
   replace f0 := kx f0 e4
   replace f1 := kx f1 e4
   replace f2 := kx f2 e4
   replace EW := EW.trans e4; clear e4
   go_wp2_with fail
   refine (CX.out ((j : Int) + 1) _ EW).mono ?_; rintro _ w5 ⟨rfl, e5⟩; rw [HX.out]
   replace p0 := kx p0 e5
   replace p1 := kx p1 e5
   replace f0 := kx f0 e5
   replace f1 := kx f1 e5
   replace f2 := kx f2 e5
   replace EW := EW.trans e5; clear e5
   go_wp2_with fail
   refine (CX.out a _ EW).mono ?_; rintro _ w6 ⟨rfl, e6⟩
   replace p0 := kx p0 e6
   replace p1 := kx p1 e6
   replace f0 := kx f0 e6
   replace f1 := kx f1 e6
   replace f2 := kx f2 e6
   replace EW := EW.trans e6; clear e6
   go_wp2
   go_ret
   exact ⟨by rw [HV.out]; rfl, EW⟩
 by_cases h8 : o = 8
 ·subst h8
  have HIN : Hid ((decide ((1 : Int) ≤ 8) && decide ((8 : Int) ≤ 17)) = true) := rfl
  have HG : Hid (goI 8 = false) := rfl
  have HV : Hid (insI cs (j : Int) = idxB cs a) := by show _ = _; rw [HR.out, HG.out]; rfl
  go_enter Tryz.func141, Tryz.ntmps141
  go_wp2_with fail
  rw [← hW0.out]
  refine (CX.out (j : Int) _ e0).mono ?_; rintro _ w1 ⟨rfl, e1⟩; rw [HZ.out]
  have EW := e0
  replace p0 := kx p0 e1
  replace p1 := kx p1 e1
  replace c0 := kx c0 e1
  replace c1 := kx c1 e1
  replace c2 := kx c2 e1
  replace EW := EW.trans e1; clear e1
  have y0 := c0 w1 (Ext.refl _); have y1 := c1 w1 (Ext.refl _); have y2 := c2 w1 (Ext.refl _)
  obtain ⟨W2, hW2⟩ : ∃ W, Hid (W = w1.alloc (.cells #[.int .i64 8, .int .i64 a, .int .i64 q] 79)) := ⟨_, rfl⟩
  have e2 : Ext w1 W2 := ka hW2
  have BX : Box W2 w1.heap.size #[.int .i64 8, .int .i64 a, .int .i64 q] 79 := kb hW2
  have f0 : ∀ w', Ext W2 w' → w'.cell? ⟨w1.heap.size, 0, none⟩ = some (.int .i64 8) := fun w' e => BX.at 0 w' e
  have f1 : ∀ w', Ext W2 w' → w'.cell? ⟨w1.heap.size, 1, none⟩ = some (.int .i64 a) := fun w' e => BX.at 1 w' e
  have f2 : ∀ w', Ext W2 w' → w'.cell? ⟨w1.heap.size, 2, none⟩ = some (.int .i64 q) := fun w' e => BX.at 2 w' e
  have z0 := f0 W2 (Ext.refl _)
  rw [hW2.out] at z0
  go_wp2_with fail
  rw [← hW2.out]
  replace p0 := kx p0 e2
  replace p1 := kx p1 e2
  replace EW := EW.trans e2; clear e2
  refine (CI.out 8 1 17 _).mono ?_; rintro _ w3 ⟨rfl, e3⟩; rw [HIN.out]
  replace p0 := kx p0 e3
  replace p1 := kx p1 e3
  replace f0 := kx f0 e3
  replace f1 := kx f1 e3
  replace f2 := kx f2 e3
  replace EW := EW.trans e3; clear e3
  clear z0 y0 y1 y2 BX c0 c1 c2
  go_wp2_with fail
  refine (CG.out 8 _).mono ?_; rintro _ w4 ⟨rfl, e4⟩; rw [HG.out]
  replace p0 := kx p0 e4
  replace p1 := kx p1 e4
  replace f0 := kx f0 e4
  replace f1 := kx f1 e4
  replace f2 := kx f2 e4
  replace EW := EW.trans e4; clear e4
  go_wp2_with fail
  refine (CX.out a _ EW).mono ?_; rintro _ w6 ⟨rfl, e6⟩
  replace p0 := kx p0 e6
  replace p1 := kx p1 e6
  replace f0 := kx f0 e6
  replace f1 := kx f1 e6
  replace f2 := kx f2 e6
  replace EW := EW.trans e6; clear e6
  go_wp2
  go_ret
  exact ⟨by rw [HV.out]; rfl, EW⟩
 by_cases h9 : o = 9
 ·subst h9
  have HIN : Hid ((decide ((1 : Int) ≤ 9) && decide ((9 : Int) ≤ 17)) = true) := rfl
  have HG : Hid (goI 9 = true) := rfl
  cases hx : idxB cs ((j : Int) + 1)
  ·have HX := Lib.hid hx; clear hx
   have HV : Hid (insI cs (j : Int) = false) := by show _ = _; rw [HR.out, HG.out, HX.out]; rfl
   go_enter Tryz.func141, Tryz.ntmps141
   go_wp2_with fail
   rw [← hW0.out]
   refine (CX.out (j : Int) _ e0).mono ?_; rintro _ w1 ⟨rfl, e1⟩; rw [HZ.out]
   have EW := e0
   replace p0 := kx p0 e1
   replace p1 := kx p1 e1
   replace c0 := kx c0 e1
   replace c1 := kx c1 e1
   replace c2 := kx c2 e1
   replace EW := EW.trans e1; clear e1
   have y0 := c0 w1 (Ext.refl _); have y1 := c1 w1 (Ext.refl _); have y2 := c2 w1 (Ext.refl _)
   obtain ⟨W2, hW2⟩ : ∃ W, Hid (W = w1.alloc (.cells #[.int .i64 9, .int .i64 a, .int .i64 q] 79)) := ⟨_, rfl⟩
   have e2 : Ext w1 W2 := ka hW2
   have BX : Box W2 w1.heap.size #[.int .i64 9, .int .i64 a, .int .i64 q] 79 := kb hW2
   have f0 : ∀ w', Ext W2 w' → w'.cell? ⟨w1.heap.size, 0, none⟩ = some (.int .i64 9) := fun w' e => BX.at 0 w' e
   have f1 : ∀ w', Ext W2 w' → w'.cell? ⟨w1.heap.size, 1, none⟩ = some (.int .i64 a) := fun w' e => BX.at 1 w' e
   have f2 : ∀ w', Ext W2 w' → w'.cell? ⟨w1.heap.size, 2, none⟩ = some (.int .i64 q) := fun w' e => BX.at 2 w' e
   have z0 := f0 W2 (Ext.refl _)
   rw [hW2.out] at z0
   go_wp2_with fail
   rw [← hW2.out]
   replace p0 := kx p0 e2
   replace p1 := kx p1 e2
   replace EW := EW.trans e2; clear e2
   refine (CI.out 9 1 17 _).mono ?_; rintro _ w3 ⟨rfl, e3⟩; rw [HIN.out]
   replace p0 := kx p0 e3
   replace p1 := kx p1 e3
   replace f0 := kx f0 e3
   replace f1 := kx f1 e3
   replace f2 := kx f2 e3
   replace EW := EW.trans e3; clear e3
   clear z0 y0 y1 y2 BX c0 c1 c2
   go_wp2_with fail
   refine (CG.out 9 _).mono ?_; rintro _ w4 ⟨rfl, e4⟩; rw [HG.out]
   replace p0 := kx p0 e4
   replace p1 := kx p1 e4
   replace f0 := kx f0 e4
   replace f1 := kx f1 e4
   replace f2 := kx f2 e4
   replace EW := EW.trans e4; clear e4
   go_wp2_with fail
   refine (CX.out ((j : Int) + 1) _ EW).mono ?_; rintro _ w5 ⟨rfl, e5⟩; rw [HX.out]
   replace p0 := kx p0 e5
   replace p1 := kx p1 e5
   replace f0 := kx f0 e5
   replace f1 := kx f1 e5
   replace f2 := kx f2 e5
   replace EW := EW.trans e5; clear e5
   go_wp2
   go_ret
   exact ⟨by rw [HV.out]; rfl, EW⟩
  ·have HX := Lib.hid hx; clear hx
   have HV : Hid (insI cs (j : Int) = idxB cs a) := by show _ = _; rw [HR.out, HG.out, HX.out]; rfl
   go_enter Tryz.func141, Tryz.ntmps141
   go_wp2_with fail
   rw [← hW0.out]
   refine (CX.out (j : Int) _ e0).mono ?_; rintro _ w1 ⟨rfl, e1⟩; rw [HZ.out]
   have EW := e0
   replace p0 := kx p0 e1
   replace p1 := kx p1 e1
   replace c0 := kx c0 e1
   replace c1 := kx c1 e1
   replace c2 := kx c2 e1
   replace EW := EW.trans e1; clear e1
   have y0 := c0 w1 (Ext.refl _); have y1 := c1 w1 (Ext.refl _); have y2 := c2 w1 (Ext.refl _)
   obtain ⟨W2, hW2⟩ : ∃ W, Hid (W = w1.alloc (.cells #[.int .i64 9, .int .i64 a, .int .i64 q] 79)) := ⟨_, rfl⟩
   have e2 : Ext w1 W2 := ka hW2
   have BX : Box W2 w1.heap.size #[.int .i64 9, .int .i64 a, .int .i64 q] 79 := kb hW2
   have f0 : ∀ w', Ext W2 w' → w'.cell? ⟨w1.heap.size, 0, none⟩ = some (.int .i64 9) := fun w' e => BX.at 0 w' e
   have f1 : ∀ w', Ext W2 w' → w'.cell? ⟨w1.heap.size, 1, none⟩ = some (.int .i64 a) := fun w' e => BX.at 1 w' e
   have f2 : ∀ w', Ext W2 w' → w'.cell? ⟨w1.heap.size, 2, none⟩ = some (.int .i64 q) := fun w' e => BX.at 2 w' e
   have z0 := f0 W2 (Ext.refl _)
   rw [hW2.out] at z0
   go_wp2_with fail
   rw [← hW2.out]
   replace p0 := kx p0 e2
   replace p1 := kx p1 e2
   replace EW := EW.trans e2; clear e2
   refine (CI.out 9 1 17 _).mono ?_; rintro _ w3 ⟨rfl, e3⟩; rw [HIN.out]
   replace p0 := kx p0 e3
   replace p1 := kx p1 e3
   replace f0 := kx f0 e3
   replace f1 := kx f1 e3
   replace f2 := kx f2 e3
   replace EW := EW.trans e3; clear e3
   clear z0 y0 y1 y2 BX c0 c1 c2
   go_wp2_with fail
   refine (CG.out 9 _).mono ?_; rintro _ w4 ⟨rfl, e4⟩; rw [HG.out]
   replace p0 := kx p0 e4
   replace p1 := kx p1 e4
   replace f0 := kx f0 e4
   replace f1 := kx f1 e4
   replace f2 := kx f2 e4
   replace EW := EW.trans e4; clear e4
   go_wp2_with fail
   refine (CX.out ((j : Int) + 1) _ EW).mono ?_; rintro _ w5 ⟨rfl, e5⟩; rw [HX.out]
   replace p0 := kx p0 e5
   replace p1 := kx p1 e5
   replace f0 := kx f0 e5
   replace f1 := kx f1 e5
   replace f2 := kx f2 e5
   replace EW := EW.trans e5; clear e5
   go_wp2_with fail
   refine (CX.out a _ EW).mono ?_; rintro _ w6 ⟨rfl, e6⟩
   replace p0 := kx p0 e6
   replace p1 := kx p1 e6
   replace f0 := kx f0 e6
   replace f1 := kx f1 e6
   replace f2 := kx f2 e6
   replace EW := EW.trans e6; clear e6
   go_wp2
   go_ret
   exact ⟨by rw [HV.out]; rfl, EW⟩
 by_cases h13 : o = 13
 ·subst h13
  have HIN : Hid ((decide ((1 : Int) ≤ 13) && decide ((13 : Int) ≤ 17)) = true) := rfl
  have HG : Hid (goI 13 = true) := rfl
  cases hx : idxB cs ((j : Int) + 1)
  ·have HX := Lib.hid hx; clear hx
   have HV : Hid (insI cs (j : Int) = false) := by show _ = _; rw [HR.out, HG.out, HX.out]; rfl
   go_enter Tryz.func141, Tryz.ntmps141
   go_wp2_with fail
   rw [← hW0.out]
   refine (CX.out (j : Int) _ e0).mono ?_; rintro _ w1 ⟨rfl, e1⟩; rw [HZ.out]
   have EW := e0
   replace p0 := kx p0 e1
   replace p1 := kx p1 e1
   replace c0 := kx c0 e1
   replace c1 := kx c1 e1
   replace c2 := kx c2 e1
   replace EW := EW.trans e1; clear e1
   have y0 := c0 w1 (Ext.refl _); have y1 := c1 w1 (Ext.refl _); have y2 := c2 w1 (Ext.refl _)
   obtain ⟨W2, hW2⟩ : ∃ W, Hid (W = w1.alloc (.cells #[.int .i64 13, .int .i64 a, .int .i64 q] 79)) := ⟨_, rfl⟩
   have e2 : Ext w1 W2 := ka hW2
   have BX : Box W2 w1.heap.size #[.int .i64 13, .int .i64 a, .int .i64 q] 79 := kb hW2
   have f0 : ∀ w', Ext W2 w' → w'.cell? ⟨w1.heap.size, 0, none⟩ = some (.int .i64 13) := fun w' e => BX.at 0 w' e
   have f1 : ∀ w', Ext W2 w' → w'.cell? ⟨w1.heap.size, 1, none⟩ = some (.int .i64 a) := fun w' e => BX.at 1 w' e
   have f2 : ∀ w', Ext W2 w' → w'.cell? ⟨w1.heap.size, 2, none⟩ = some (.int .i64 q) := fun w' e => BX.at 2 w' e
   have z0 := f0 W2 (Ext.refl _)
   rw [hW2.out] at z0
   go_wp2_with fail
   rw [← hW2.out]
   replace p0 := kx p0 e2
   replace p1 := kx p1 e2
   replace EW := EW.trans e2; clear e2
   refine (CI.out 13 1 17 _).mono ?_; rintro _ w3 ⟨rfl, e3⟩; rw [HIN.out]
   replace p0 := kx p0 e3
   replace p1 := kx p1 e3
   replace f0 := kx f0 e3
   replace f1 := kx f1 e3
   replace f2 := kx f2 e3
   replace EW := EW.trans e3; clear e3
   clear z0 y0 y1 y2 BX c0 c1 c2
   go_wp2_with fail
   refine (CG.out 13 _).mono ?_; rintro _ w4 ⟨rfl, e4⟩; rw [HG.out]
   replace p0 := kx p0 e4
   replace p1 := kx p1 e4
   replace f0 := kx f0 e4
   replace f1 := kx f1 e4
   replace f2 := kx f2 e4
   replace EW := EW.trans e4; clear e4
   go_wp2_with fail
   refine (CX.out ((j : Int) + 1) _ EW).mono ?_; rintro _ w5 ⟨rfl, e5⟩; rw [HX.out]
   replace p0 := kx p0 e5
   replace p1 := kx p1 e5
   replace f0 := kx f0 e5
   replace f1 := kx f1 e5
   replace f2 := kx f2 e5
   replace EW := EW.trans e5; clear e5
   go_wp2
   go_ret
   exact ⟨by rw [HV.out]; rfl, EW⟩
  ·have HX := Lib.hid hx; clear hx
   have HV : Hid (insI cs (j : Int) = idxB cs a) := by show _ = _; rw [HR.out, HG.out, HX.out]; rfl
   go_enter Tryz.func141, Tryz.ntmps141
   go_wp2_with fail
   rw [← hW0.out]
   refine (CX.out (j : Int) _ e0).mono ?_; rintro _ w1 ⟨rfl, e1⟩; rw [HZ.out]
   have EW := e0
   replace p0 := kx p0 e1
   replace p1 := kx p1 e1
   replace c0 := kx c0 e1
   replace c1 := kx c1 e1
   replace c2 := kx c2 e1
   replace EW := EW.trans e1; clear e1
   have y0 := c0 w1 (Ext.refl _); have y1 := c1 w1 (Ext.refl _); have y2 := c2 w1 (Ext.refl _)
   obtain ⟨W2, hW2⟩ : ∃ W, Hid (W = w1.alloc (.cells #[.int .i64 13, .int .i64 a, .int .i64 q] 79)) := ⟨_, rfl⟩
   have e2 : Ext w1 W2 := ka hW2
   have BX : Box W2 w1.heap.size #[.int .i64 13, .int .i64 a, .int .i64 q] 79 := kb hW2
   have f0 : ∀ w', Ext W2 w' → w'.cell? ⟨w1.heap.size, 0, none⟩ = some (.int .i64 13) := fun w' e => BX.at 0 w' e
   have f1 : ∀ w', Ext W2 w' → w'.cell? ⟨w1.heap.size, 1, none⟩ = some (.int .i64 a) := fun w' e => BX.at 1 w' e
   have f2 : ∀ w', Ext W2 w' → w'.cell? ⟨w1.heap.size, 2, none⟩ = some (.int .i64 q) := fun w' e => BX.at 2 w' e
   have z0 := f0 W2 (Ext.refl _)
   rw [hW2.out] at z0
   go_wp2_with fail
   rw [← hW2.out]
   replace p0 := kx p0 e2
   replace p1 := kx p1 e2
   replace EW := EW.trans e2; clear e2
   refine (CI.out 13 1 17 _).mono ?_; rintro _ w3 ⟨rfl, e3⟩; rw [HIN.out]
   replace p0 := kx p0 e3
   replace p1 := kx p1 e3
   replace f0 := kx f0 e3
   replace f1 := kx f1 e3
   replace f2 := kx f2 e3
   replace EW := EW.trans e3; clear e3
   clear z0 y0 y1 y2 BX c0 c1 c2
   go_wp2_with fail
   refine (CG.out 13 _).mono ?_; rintro _ w4 ⟨rfl, e4⟩; rw [HG.out]
   replace p0 := kx p0 e4
   replace p1 := kx p1 e4
   replace f0 := kx f0 e4
   replace f1 := kx f1 e4
   replace f2 := kx f2 e4
   replace EW := EW.trans e4; clear e4
   go_wp2_with fail
   refine (CX.out ((j : Int) + 1) _ EW).mono ?_; rintro _ w5 ⟨rfl, e5⟩; rw [HX.out]
   replace p0 := kx p0 e5
   replace p1 := kx p1 e5
   replace f0 := kx f0 e5
   replace f1 := kx f1 e5
   replace f2 := kx f2 e5
   replace EW := EW.trans e5; clear e5
   go_wp2_with fail
   refine (CX.out a _ EW).mono ?_; rintro _ w6 ⟨rfl, e6⟩
   replace p0 := kx p0 e6
   replace p1 := kx p1 e6
   replace f0 := kx f0 e6
   replace f1 := kx f1 e6
   replace f2 := kx f2 e6
   replace EW := EW.trans e6; clear e6
   go_wp2
   go_ret
   exact ⟨by rw [HV.out]; rfl, EW⟩
 by_cases h11 : o = 11
 ·subst h11
  have HIN : Hid ((decide ((1 : Int) ≤ 11) && decide ((11 : Int) ≤ 17)) = true) := rfl
  have HG : Hid (goI 11 = true) := rfl
  cases hx : idxB cs ((j : Int) + 1)
  ·have HX := Lib.hid hx; clear hx
   have HV : Hid (insI cs (j : Int) = false) := by show _ = _; rw [HR.out, HG.out, HX.out]; rfl
   go_enter Tryz.func141, Tryz.ntmps141
   go_wp2_with fail
   rw [← hW0.out]
   refine (CX.out (j : Int) _ e0).mono ?_; rintro _ w1 ⟨rfl, e1⟩; rw [HZ.out]
   have EW := e0
   replace p0 := kx p0 e1
   replace p1 := kx p1 e1
   replace c0 := kx c0 e1
   replace c1 := kx c1 e1
   replace c2 := kx c2 e1
   replace EW := EW.trans e1; clear e1
   have y0 := c0 w1 (Ext.refl _); have y1 := c1 w1 (Ext.refl _); have y2 := c2 w1 (Ext.refl _)
   obtain ⟨W2, hW2⟩ : ∃ W, Hid (W = w1.alloc (.cells #[.int .i64 11, .int .i64 a, .int .i64 q] 79)) := ⟨_, rfl⟩
   have e2 : Ext w1 W2 := ka hW2
   have BX : Box W2 w1.heap.size #[.int .i64 11, .int .i64 a, .int .i64 q] 79 := kb hW2
   have f0 : ∀ w', Ext W2 w' → w'.cell? ⟨w1.heap.size, 0, none⟩ = some (.int .i64 11) := fun w' e => BX.at 0 w' e
   have f1 : ∀ w', Ext W2 w' → w'.cell? ⟨w1.heap.size, 1, none⟩ = some (.int .i64 a) := fun w' e => BX.at 1 w' e
   have f2 : ∀ w', Ext W2 w' → w'.cell? ⟨w1.heap.size, 2, none⟩ = some (.int .i64 q) := fun w' e => BX.at 2 w' e
   have z0 := f0 W2 (Ext.refl _)
   rw [hW2.out] at z0
   go_wp2_with fail
   rw [← hW2.out]
   replace p0 := kx p0 e2
   replace p1 := kx p1 e2
   replace EW := EW.trans e2; clear e2
   refine (CI.out 11 1 17 _).mono ?_; rintro _ w3 ⟨rfl, e3⟩; rw [HIN.out]
   replace p0 := kx p0 e3
   replace p1 := kx p1 e3
   replace f0 := kx f0 e3
   replace f1 := kx f1 e3
   replace f2 := kx f2 e3
   replace EW := EW.trans e3; clear e3
   clear z0 y0 y1 y2 BX c0 c1 c2
   go_wp2_with fail
   refine (CG.out 11 _).mono ?_; rintro _ w4 ⟨rfl, e4⟩; rw [HG.out]
   replace p0 := kx p0 e4
   replace p1 := kx p1 e4
   replace f0 := kx f0 e4
   replace f1 := kx f1 e4
   replace f2 := kx f2 e4
   replace EW := EW.trans e4; clear e4
   go_wp2_with fail
   refine (CX.out ((j : Int) + 1) _ EW).mono ?_; rintro _ w5 ⟨rfl, e5⟩; rw [HX.out]
   replace p0 := kx p0 e5
   replace p1 := kx p1 e5
   replace f0 := kx f0 e5
   replace f1 := kx f1 e5
   replace f2 := kx f2 e5
   replace EW := EW.trans e5; clear e5
   go_wp2
   go_ret
   exact ⟨by rw [HV.out]; rfl, EW⟩
  ·have HX := Lib.hid hx; clear hx
   have HV : Hid (insI cs (j : Int) = (idxB cs q && decide (0 ≤ a))) := by show _ = _; rw [HR.out, HG.out, HX.out]; rfl
   go_enter Tryz.func141, Tryz.ntmps141
   go_wp2_with fail
   rw [← hW0.out]
   refine (CX.out (j : Int) _ e0).mono ?_; rintro _ w1 ⟨rfl, e1⟩; rw [HZ.out]
   have EW := e0
   replace p0 := kx p0 e1
   replace p1 := kx p1 e1
   replace c0 := kx c0 e1
   replace c1 := kx c1 e1
   replace c2 := kx c2 e1
   replace EW := EW.trans e1; clear e1
   have y0 := c0 w1 (Ext.refl _); have y1 := c1 w1 (Ext.refl _); have y2 := c2 w1 (Ext.refl _)
   obtain ⟨W2, hW2⟩ : ∃ W, Hid (W = w1.alloc (.cells #[.int .i64 11, .int .i64 a, .int .i64 q] 79)) := ⟨_, rfl⟩
   have e2 : Ext w1 W2 := ka hW2
   have BX : Box W2 w1.heap.size #[.int .i64 11, .int .i64 a, .int .i64 q] 79 := kb hW2
   have f0 : ∀ w', Ext W2 w' → w'.cell? ⟨w1.heap.size, 0, none⟩ = some (.int .i64 11) := fun w' e => BX.at 0 w' e
   have f1 : ∀ w', Ext W2 w' → w'.cell? ⟨w1.heap.size, 1, none⟩ = some (.int .i64 a) := fun w' e => BX.at 1 w' e
   have f2 : ∀ w', Ext W2 w' → w'.cell? ⟨w1.heap.size, 2, none⟩ = some (.int .i64 q) := fun w' e => BX.at 2 w' e
   have z0 := f0 W2 (Ext.refl _)
   rw [hW2.out] at z0
   go_wp2_with fail
   rw [← hW2.out]
   replace p0 := kx p0 e2
   replace p1 := kx p1 e2
   replace EW := EW.trans e2; clear e2
   refine (CI.out 11 1 17 _).mono ?_; rintro _ w3 ⟨rfl, e3⟩; rw [HIN.out]
   replace p0 := kx p0 e3
   replace p1 := kx p1 e3
   replace f0 := kx f0 e3
   replace f1 := kx f1 e3
   replace f2 := kx f2 e3
   replace EW := EW.trans e3; clear e3
   clear z0 y0 y1 y2 BX c0 c1 c2
   go_wp2_with fail
   refine (CG.out 11 _).mono ?_; rintro _ w4 ⟨rfl, e4⟩; rw [HG.out]
   replace p0 := kx p0 e4
   replace p1 := kx p1 e4
   replace f0 := kx f0 e4
   replace f1 := kx f1 e4
   replace f2 := kx f2 e4
   replace EW := EW.trans e4; clear e4
   go_wp2_with fail
   refine (CX.out ((j : Int) + 1) _ EW).mono ?_; rintro _ w5 ⟨rfl, e5⟩; rw [HX.out]
   replace p0 := kx p0 e5
   replace p1 := kx p1 e5
   replace f0 := kx f0 e5
   replace f1 := kx f1 e5
   replace f2 := kx f2 e5
   replace EW := EW.trans e5; clear e5
   cases hq : idxB cs q
   ·have HQ := Lib.hid hq; clear hq
    go_wp2_with fail
    refine (CX.out q _ EW).mono ?_; rintro _ w6 ⟨rfl, e6⟩
    rw [HQ.out]
    replace p0 := kx p0 e6
    replace p1 := kx p1 e6
    replace f0 := kx f0 e6
    replace f1 := kx f1 e6
    replace f2 := kx f2 e6
    replace EW := EW.trans e6; clear e6
    go_wp2
    go_ret
    exact ⟨by rw [HV.out, HQ.out]; rfl, EW⟩
   ·have HQ := Lib.hid hq; clear hq
    go_wp2_with fail
    refine (CX.out q _ EW).mono ?_; rintro _ w6 ⟨rfl, e6⟩
    rw [HQ.out]
    replace p0 := kx p0 e6
    replace p1 := kx p1 e6
    replace f0 := kx f0 e6
    replace f1 := kx f1 e6
    replace f2 := kx f2 e6
    replace EW := EW.trans e6; clear e6
    by_cases ha : 0 ≤ a
    ·go_wp2
     go_ret
     exact ⟨by rw [HV.out, HQ.out]; simp [ha], EW⟩
    ·have had : decide (0 ≤ a) = false := decide_eq_false ha
     go_wp2
     go_ret
     exact ⟨by rw [HV.out, HQ.out, had]; rfl, EW⟩
 by_cases h1 : o = 1
 ·subst h1
  have HIN : Hid ((decide ((1 : Int) ≤ 1) && decide ((1 : Int) ≤ 17)) = true) := rfl
  have HG : Hid (goI 1 = true) := rfl
  cases hx : idxB cs ((j : Int) + 1)
  ·have HX := Lib.hid hx; clear hx
   have HV : Hid (insI cs (j : Int) = false) := by show _ = _; rw [HR.out, HG.out, HX.out]; rfl
   go_enter Tryz.func141, Tryz.ntmps141
   go_wp2_with fail
   rw [← hW0.out]
   refine (CX.out (j : Int) _ e0).mono ?_; rintro _ w1 ⟨rfl, e1⟩; rw [HZ.out]
   have EW := e0
   replace p0 := kx p0 e1
   replace p1 := kx p1 e1
   replace c0 := kx c0 e1
   replace c1 := kx c1 e1
   replace c2 := kx c2 e1
   replace EW := EW.trans e1; clear e1
   have y0 := c0 w1 (Ext.refl _); have y1 := c1 w1 (Ext.refl _); have y2 := c2 w1 (Ext.refl _)
   obtain ⟨W2, hW2⟩ : ∃ W, Hid (W = w1.alloc (.cells #[.int .i64 1, .int .i64 a, .int .i64 q] 79)) := ⟨_, rfl⟩
   have e2 : Ext w1 W2 := ka hW2
   have BX : Box W2 w1.heap.size #[.int .i64 1, .int .i64 a, .int .i64 q] 79 := kb hW2
   have f0 : ∀ w', Ext W2 w' → w'.cell? ⟨w1.heap.size, 0, none⟩ = some (.int .i64 1) := fun w' e => BX.at 0 w' e
   have f1 : ∀ w', Ext W2 w' → w'.cell? ⟨w1.heap.size, 1, none⟩ = some (.int .i64 a) := fun w' e => BX.at 1 w' e
   have f2 : ∀ w', Ext W2 w' → w'.cell? ⟨w1.heap.size, 2, none⟩ = some (.int .i64 q) := fun w' e => BX.at 2 w' e
   have z0 := f0 W2 (Ext.refl _)
   rw [hW2.out] at z0
   go_wp2_with fail
   rw [← hW2.out]
   replace p0 := kx p0 e2
   replace p1 := kx p1 e2
   replace EW := EW.trans e2; clear e2
   refine (CI.out 1 1 17 _).mono ?_; rintro _ w3 ⟨rfl, e3⟩; rw [HIN.out]
   replace p0 := kx p0 e3
   replace p1 := kx p1 e3
   replace f0 := kx f0 e3
   replace f1 := kx f1 e3
   replace f2 := kx f2 e3
   replace EW := EW.trans e3; clear e3
   clear z0 y0 y1 y2 BX c0 c1 c2
   go_wp2_with fail
   refine (CG.out 1 _).mono ?_; rintro _ w4 ⟨rfl, e4⟩; rw [HG.out]
   replace p0 := kx p0 e4
   replace p1 := kx p1 e4
   replace f0 := kx f0 e4
   replace f1 := kx f1 e4
   replace f2 := kx f2 e4
   replace EW := EW.trans e4; clear e4
   go_wp2_with fail
   refine (CX.out ((j : Int) + 1) _ EW).mono ?_; rintro _ w5 ⟨rfl, e5⟩; rw [HX.out]
   replace p0 := kx p0 e5
   replace p1 := kx p1 e5
   replace f0 := kx f0 e5
   replace f1 := kx f1 e5
   replace f2 := kx f2 e5
   replace EW := EW.trans e5; clear e5
   go_wp2
   go_ret
   exact ⟨by rw [HV.out]; rfl, EW⟩
  ·have HX := Lib.hid hx; clear hx
   have HV : Hid (insI cs (j : Int) = (inB a 1 4 && inB q 0 1)) := by show _ = _; rw [HR.out, HG.out, HX.out]; rfl
   go_enter Tryz.func141, Tryz.ntmps141
   go_wp2_with fail
   rw [← hW0.out]
   refine (CX.out (j : Int) _ e0).mono ?_; rintro _ w1 ⟨rfl, e1⟩; rw [HZ.out]
   have EW := e0
   replace p0 := kx p0 e1
   replace p1 := kx p1 e1
   replace c0 := kx c0 e1
   replace c1 := kx c1 e1
   replace c2 := kx c2 e1
   replace EW := EW.trans e1; clear e1
   have y0 := c0 w1 (Ext.refl _); have y1 := c1 w1 (Ext.refl _); have y2 := c2 w1 (Ext.refl _)
   obtain ⟨W2, hW2⟩ : ∃ W, Hid (W = w1.alloc (.cells #[.int .i64 1, .int .i64 a, .int .i64 q] 79)) := ⟨_, rfl⟩
   have e2 : Ext w1 W2 := ka hW2
   have BX : Box W2 w1.heap.size #[.int .i64 1, .int .i64 a, .int .i64 q] 79 := kb hW2
   have f0 : ∀ w', Ext W2 w' → w'.cell? ⟨w1.heap.size, 0, none⟩ = some (.int .i64 1) := fun w' e => BX.at 0 w' e
   have f1 : ∀ w', Ext W2 w' → w'.cell? ⟨w1.heap.size, 1, none⟩ = some (.int .i64 a) := fun w' e => BX.at 1 w' e
   have f2 : ∀ w', Ext W2 w' → w'.cell? ⟨w1.heap.size, 2, none⟩ = some (.int .i64 q) := fun w' e => BX.at 2 w' e
   have z0 := f0 W2 (Ext.refl _)
   rw [hW2.out] at z0
   go_wp2_with fail
   rw [← hW2.out]
   replace p0 := kx p0 e2
   replace p1 := kx p1 e2
   replace EW := EW.trans e2; clear e2
   refine (CI.out 1 1 17 _).mono ?_; rintro _ w3 ⟨rfl, e3⟩; rw [HIN.out]
   replace p0 := kx p0 e3
   replace p1 := kx p1 e3
   replace f0 := kx f0 e3
   replace f1 := kx f1 e3
   replace f2 := kx f2 e3
   replace EW := EW.trans e3; clear e3
   clear z0 y0 y1 y2 BX c0 c1 c2
   go_wp2_with fail
   refine (CG.out 1 _).mono ?_; rintro _ w4 ⟨rfl, e4⟩; rw [HG.out]
   replace p0 := kx p0 e4
   replace p1 := kx p1 e4
   replace f0 := kx f0 e4
   replace f1 := kx f1 e4
   replace f2 := kx f2 e4
   replace EW := EW.trans e4; clear e4
   go_wp2_with fail
   refine (CX.out ((j : Int) + 1) _ EW).mono ?_; rintro _ w5 ⟨rfl, e5⟩; rw [HX.out]
   replace p0 := kx p0 e5
   replace p1 := kx p1 e5
   replace f0 := kx f0 e5
   replace f1 := kx f1 e5
   replace f2 := kx f2 e5
   replace EW := EW.trans e5; clear e5
   cases hq : (decide ((1 : Int) ≤ a) && decide (a ≤ 4))
   ·have HQ := Lib.hid hq; clear hq
    go_wp2_with fail
    refine (CI.out a 1 4 _).mono ?_; rintro _ w6 ⟨rfl, e6⟩
    rw [HQ.out]
    replace p0 := kx p0 e6
    replace p1 := kx p1 e6
    replace f0 := kx f0 e6
    replace f1 := kx f1 e6
    replace f2 := kx f2 e6
    replace EW := EW.trans e6; clear e6
    go_wp2
    go_ret
    exact ⟨by rw [HV.out]; unfold inB; rw [HQ.out]; rfl, EW⟩
   ·have HQ := Lib.hid hq; clear hq
    go_wp2_with fail
    refine (CI.out a 1 4 _).mono ?_; rintro _ w6 ⟨rfl, e6⟩
    rw [HQ.out]
    replace p0 := kx p0 e6
    replace p1 := kx p1 e6
    replace f0 := kx f0 e6
    replace f1 := kx f1 e6
    replace f2 := kx f2 e6
    replace EW := EW.trans e6; clear e6
    go_wp2_with fail
    refine (CI.out q 0 1 _).mono ?_; rintro _ w7 ⟨rfl, e7⟩
    replace p0 := kx p0 e7
    replace p1 := kx p1 e7
    replace f0 := kx f0 e7
    replace f1 := kx f1 e7
    replace f2 := kx f2 e7
    replace EW := EW.trans e7; clear e7
    go_wp2
    go_ret
    exact ⟨by rw [HV.out]; unfold inB; rw [HQ.out]; rfl, EW⟩
 by_cases h2 : o = 2
 ·subst h2
  have HIN : Hid ((decide ((1 : Int) ≤ 2) && decide ((2 : Int) ≤ 17)) = true) := rfl
  have HG : Hid (goI 2 = true) := rfl
  cases hx : idxB cs ((j : Int) + 1)
  ·have HX := Lib.hid hx; clear hx
   have HV : Hid (insI cs (j : Int) = false) := by show _ = _; rw [HR.out, HG.out, HX.out]; rfl
   go_enter Tryz.func141, Tryz.ntmps141
   go_wp2_with fail
   rw [← hW0.out]
   refine (CX.out (j : Int) _ e0).mono ?_; rintro _ w1 ⟨rfl, e1⟩; rw [HZ.out]
   have EW := e0
   replace p0 := kx p0 e1
   replace p1 := kx p1 e1
   replace c0 := kx c0 e1
   replace c1 := kx c1 e1
   replace c2 := kx c2 e1
   replace EW := EW.trans e1; clear e1
   have y0 := c0 w1 (Ext.refl _); have y1 := c1 w1 (Ext.refl _); have y2 := c2 w1 (Ext.refl _)
   obtain ⟨W2, hW2⟩ : ∃ W, Hid (W = w1.alloc (.cells #[.int .i64 2, .int .i64 a, .int .i64 q] 79)) := ⟨_, rfl⟩
   have e2 : Ext w1 W2 := ka hW2
   have BX : Box W2 w1.heap.size #[.int .i64 2, .int .i64 a, .int .i64 q] 79 := kb hW2
   have f0 : ∀ w', Ext W2 w' → w'.cell? ⟨w1.heap.size, 0, none⟩ = some (.int .i64 2) := fun w' e => BX.at 0 w' e
   have f1 : ∀ w', Ext W2 w' → w'.cell? ⟨w1.heap.size, 1, none⟩ = some (.int .i64 a) := fun w' e => BX.at 1 w' e
   have f2 : ∀ w', Ext W2 w' → w'.cell? ⟨w1.heap.size, 2, none⟩ = some (.int .i64 q) := fun w' e => BX.at 2 w' e
   have z0 := f0 W2 (Ext.refl _)
   rw [hW2.out] at z0
   go_wp2_with fail
   rw [← hW2.out]
   replace p0 := kx p0 e2
   replace p1 := kx p1 e2
   replace EW := EW.trans e2; clear e2
   refine (CI.out 2 1 17 _).mono ?_; rintro _ w3 ⟨rfl, e3⟩; rw [HIN.out]
   replace p0 := kx p0 e3
   replace p1 := kx p1 e3
   replace f0 := kx f0 e3
   replace f1 := kx f1 e3
   replace f2 := kx f2 e3
   replace EW := EW.trans e3; clear e3
   clear z0 y0 y1 y2 BX c0 c1 c2
   go_wp2_with fail
   refine (CG.out 2 _).mono ?_; rintro _ w4 ⟨rfl, e4⟩; rw [HG.out]
   replace p0 := kx p0 e4
   replace p1 := kx p1 e4
   replace f0 := kx f0 e4
   replace f1 := kx f1 e4
   replace f2 := kx f2 e4
   replace EW := EW.trans e4; clear e4
   go_wp2_with fail
   refine (CX.out ((j : Int) + 1) _ EW).mono ?_; rintro _ w5 ⟨rfl, e5⟩; rw [HX.out]
   replace p0 := kx p0 e5
   replace p1 := kx p1 e5
   replace f0 := kx f0 e5
   replace f1 := kx f1 e5
   replace f2 := kx f2 e5
   replace EW := EW.trans e5; clear e5
   go_wp2
   go_ret
   exact ⟨by rw [HV.out]; rfl, EW⟩
  ·have HX := Lib.hid hx; clear hx
   have HV : Hid (insI cs (j : Int) = inB a 0 255) := by show _ = _; rw [HR.out, HG.out, HX.out]; rfl
   go_enter Tryz.func141, Tryz.ntmps141
   go_wp2_with fail
   rw [← hW0.out]
   refine (CX.out (j : Int) _ e0).mono ?_; rintro _ w1 ⟨rfl, e1⟩; rw [HZ.out]
   have EW := e0
   replace p0 := kx p0 e1
   replace p1 := kx p1 e1
   replace c0 := kx c0 e1
   replace c1 := kx c1 e1
   replace c2 := kx c2 e1
   replace EW := EW.trans e1; clear e1
   have y0 := c0 w1 (Ext.refl _); have y1 := c1 w1 (Ext.refl _); have y2 := c2 w1 (Ext.refl _)
   obtain ⟨W2, hW2⟩ : ∃ W, Hid (W = w1.alloc (.cells #[.int .i64 2, .int .i64 a, .int .i64 q] 79)) := ⟨_, rfl⟩
   have e2 : Ext w1 W2 := ka hW2
   have BX : Box W2 w1.heap.size #[.int .i64 2, .int .i64 a, .int .i64 q] 79 := kb hW2
   have f0 : ∀ w', Ext W2 w' → w'.cell? ⟨w1.heap.size, 0, none⟩ = some (.int .i64 2) := fun w' e => BX.at 0 w' e
   have f1 : ∀ w', Ext W2 w' → w'.cell? ⟨w1.heap.size, 1, none⟩ = some (.int .i64 a) := fun w' e => BX.at 1 w' e
   have f2 : ∀ w', Ext W2 w' → w'.cell? ⟨w1.heap.size, 2, none⟩ = some (.int .i64 q) := fun w' e => BX.at 2 w' e
   have z0 := f0 W2 (Ext.refl _)
   rw [hW2.out] at z0
   go_wp2_with fail
   rw [← hW2.out]
   replace p0 := kx p0 e2
   replace p1 := kx p1 e2
   replace EW := EW.trans e2; clear e2
   refine (CI.out 2 1 17 _).mono ?_; rintro _ w3 ⟨rfl, e3⟩; rw [HIN.out]
   replace p0 := kx p0 e3
   replace p1 := kx p1 e3
   replace f0 := kx f0 e3
   replace f1 := kx f1 e3
   replace f2 := kx f2 e3
   replace EW := EW.trans e3; clear e3
   clear z0 y0 y1 y2 BX c0 c1 c2
   go_wp2_with fail
   refine (CG.out 2 _).mono ?_; rintro _ w4 ⟨rfl, e4⟩; rw [HG.out]
   replace p0 := kx p0 e4
   replace p1 := kx p1 e4
   replace f0 := kx f0 e4
   replace f1 := kx f1 e4
   replace f2 := kx f2 e4
   replace EW := EW.trans e4; clear e4
   go_wp2_with fail
   refine (CX.out ((j : Int) + 1) _ EW).mono ?_; rintro _ w5 ⟨rfl, e5⟩; rw [HX.out]
   replace p0 := kx p0 e5
   replace p1 := kx p1 e5
   replace f0 := kx f0 e5
   replace f1 := kx f1 e5
   replace f2 := kx f2 e5
   replace EW := EW.trans e5; clear e5
   go_wp2_with fail
   refine (CI.out a 0 255 _).mono ?_; rintro _ w6 ⟨rfl, e6⟩
   replace p0 := kx p0 e6
   replace p1 := kx p1 e6
   replace f0 := kx f0 e6
   replace f1 := kx f1 e6
   replace f2 := kx f2 e6
   replace EW := EW.trans e6; clear e6
   go_wp2
   go_ret
   exact ⟨by rw [HV.out]; rfl, EW⟩
 by_cases h16 : o = 16
 ·subst h16
  have HIN : Hid ((decide ((1 : Int) ≤ 16) && decide ((16 : Int) ≤ 17)) = true) := rfl
  have HG : Hid (goI 16 = true) := rfl
  cases hx : idxB cs ((j : Int) + 1)
  ·have HX := Lib.hid hx; clear hx
   have HV : Hid (insI cs (j : Int) = false) := by show _ = _; rw [HR.out, HG.out, HX.out]; rfl
   go_enter Tryz.func141, Tryz.ntmps141
   go_wp2_with fail
   rw [← hW0.out]
   refine (CX.out (j : Int) _ e0).mono ?_; rintro _ w1 ⟨rfl, e1⟩; rw [HZ.out]
   have EW := e0
   replace p0 := kx p0 e1
   replace p1 := kx p1 e1
   replace c0 := kx c0 e1
   replace c1 := kx c1 e1
   replace c2 := kx c2 e1
   replace EW := EW.trans e1; clear e1
   have y0 := c0 w1 (Ext.refl _); have y1 := c1 w1 (Ext.refl _); have y2 := c2 w1 (Ext.refl _)
   obtain ⟨W2, hW2⟩ : ∃ W, Hid (W = w1.alloc (.cells #[.int .i64 16, .int .i64 a, .int .i64 q] 79)) := ⟨_, rfl⟩
   have e2 : Ext w1 W2 := ka hW2
   have BX : Box W2 w1.heap.size #[.int .i64 16, .int .i64 a, .int .i64 q] 79 := kb hW2
   have f0 : ∀ w', Ext W2 w' → w'.cell? ⟨w1.heap.size, 0, none⟩ = some (.int .i64 16) := fun w' e => BX.at 0 w' e
   have f1 : ∀ w', Ext W2 w' → w'.cell? ⟨w1.heap.size, 1, none⟩ = some (.int .i64 a) := fun w' e => BX.at 1 w' e
   have f2 : ∀ w', Ext W2 w' → w'.cell? ⟨w1.heap.size, 2, none⟩ = some (.int .i64 q) := fun w' e => BX.at 2 w' e
   have z0 := f0 W2 (Ext.refl _)
   rw [hW2.out] at z0
   go_wp2_with fail
   rw [← hW2.out]
   replace p0 := kx p0 e2
   replace p1 := kx p1 e2
   replace EW := EW.trans e2; clear e2
   refine (CI.out 16 1 17 _).mono ?_; rintro _ w3 ⟨rfl, e3⟩; rw [HIN.out]
   replace p0 := kx p0 e3
   replace p1 := kx p1 e3
   replace f0 := kx f0 e3
   replace f1 := kx f1 e3
   replace f2 := kx f2 e3
   replace EW := EW.trans e3; clear e3
   clear z0 y0 y1 y2 BX c0 c1 c2
   go_wp2_with fail
   refine (CG.out 16 _).mono ?_; rintro _ w4 ⟨rfl, e4⟩; rw [HG.out]
   replace p0 := kx p0 e4
   replace p1 := kx p1 e4
   replace f0 := kx f0 e4
   replace f1 := kx f1 e4
   replace f2 := kx f2 e4
   replace EW := EW.trans e4; clear e4
   go_wp2_with fail
   refine (CX.out ((j : Int) + 1) _ EW).mono ?_; rintro _ w5 ⟨rfl, e5⟩; rw [HX.out]
   replace p0 := kx p0 e5
   replace p1 := kx p1 e5
   replace f0 := kx f0 e5
   replace f1 := kx f1 e5
   replace f2 := kx f2 e5
   replace EW := EW.trans e5; clear e5
   go_wp2
   go_ret
   exact ⟨by rw [HV.out]; rfl, EW⟩
  ·have HX := Lib.hid hx; clear hx
   have HV : Hid (insI cs (j : Int) = inB a 0 255) := by show _ = _; rw [HR.out, HG.out, HX.out]; rfl
   go_enter Tryz.func141, Tryz.ntmps141
   go_wp2_with fail
   rw [← hW0.out]
   refine (CX.out (j : Int) _ e0).mono ?_; rintro _ w1 ⟨rfl, e1⟩; rw [HZ.out]
   have EW := e0
   replace p0 := kx p0 e1
   replace p1 := kx p1 e1
   replace c0 := kx c0 e1
   replace c1 := kx c1 e1
   replace c2 := kx c2 e1
   replace EW := EW.trans e1; clear e1
   have y0 := c0 w1 (Ext.refl _); have y1 := c1 w1 (Ext.refl _); have y2 := c2 w1 (Ext.refl _)
   obtain ⟨W2, hW2⟩ : ∃ W, Hid (W = w1.alloc (.cells #[.int .i64 16, .int .i64 a, .int .i64 q] 79)) := ⟨_, rfl⟩
   have e2 : Ext w1 W2 := ka hW2
   have BX : Box W2 w1.heap.size #[.int .i64 16, .int .i64 a, .int .i64 q] 79 := kb hW2
   have f0 : ∀ w', Ext W2 w' → w'.cell? ⟨w1.heap.size, 0, none⟩ = some (.int .i64 16) := fun w' e => BX.at 0 w' e
   have f1 : ∀ w', Ext W2 w' → w'.cell? ⟨w1.heap.size, 1, none⟩ = some (.int .i64 a) := fun w' e => BX.at 1 w' e
   have f2 : ∀ w', Ext W2 w' → w'.cell? ⟨w1.heap.size, 2, none⟩ = some (.int .i64 q) := fun w' e => BX.at 2 w' e
   have z0 := f0 W2 (Ext.refl _)
   rw [hW2.out] at z0
   go_wp2_with fail
   rw [← hW2.out]
   replace p0 := kx p0 e2
   replace p1 := kx p1 e2
   replace EW := EW.trans e2; clear e2
   refine (CI.out 16 1 17 _).mono ?_; rintro _ w3 ⟨rfl, e3⟩; rw [HIN.out]
   replace p0 := kx p0 e3
   replace p1 := kx p1 e3
   replace f0 := kx f0 e3
   replace f1 := kx f1 e3
   replace f2 := kx f2 e3
   replace EW := EW.trans e3; clear e3
   clear z0 y0 y1 y2 BX c0 c1 c2
   go_wp2_with fail
   refine (CG.out 16 _).mono ?_; rintro _ w4 ⟨rfl, e4⟩; rw [HG.out]
   replace p0 := kx p0 e4
   replace p1 := kx p1 e4
   replace f0 := kx f0 e4
   replace f1 := kx f1 e4
   replace f2 := kx f2 e4
   replace EW := EW.trans e4; clear e4
   go_wp2_with fail
   refine (CX.out ((j : Int) + 1) _ EW).mono ?_; rintro _ w5 ⟨rfl, e5⟩; rw [HX.out]
   replace p0 := kx p0 e5
   replace p1 := kx p1 e5
   replace f0 := kx f0 e5
   replace f1 := kx f1 e5
   replace f2 := kx f2 e5
   replace EW := EW.trans e5; clear e5
   go_wp2_with fail
   refine (CI.out a 0 255 _).mono ?_; rintro _ w6 ⟨rfl, e6⟩
   replace p0 := kx p0 e6
   replace p1 := kx p1 e6
   replace f0 := kx f0 e6
   replace f1 := kx f1 e6
   replace f2 := kx f2 e6
   replace EW := EW.trans e6; clear e6
   go_wp2
   go_ret
   exact ⟨by rw [HV.out]; rfl, EW⟩
 by_cases h3 : o = 3
 ·subst h3
  have HIN : Hid ((decide ((1 : Int) ≤ 3) && decide ((3 : Int) ≤ 17)) = true) := rfl
  have HG : Hid (goI 3 = true) := rfl
  cases hx : idxB cs ((j : Int) + 1)
  ·have HX := Lib.hid hx; clear hx
   have HV : Hid (insI cs (j : Int) = false) := by show _ = _; rw [HR.out, HG.out, HX.out]; rfl
   go_enter Tryz.func141, Tryz.ntmps141
   go_wp2_with fail
   rw [← hW0.out]
   refine (CX.out (j : Int) _ e0).mono ?_; rintro _ w1 ⟨rfl, e1⟩; rw [HZ.out]
   have EW := e0
   replace p0 := kx p0 e1
   replace p1 := kx p1 e1
   replace c0 := kx c0 e1
   replace c1 := kx c1 e1
   replace c2 := kx c2 e1
   replace EW := EW.trans e1; clear e1
   have y0 := c0 w1 (Ext.refl _); have y1 := c1 w1 (Ext.refl _); have y2 := c2 w1 (Ext.refl _)
   obtain ⟨W2, hW2⟩ : ∃ W, Hid (W = w1.alloc (.cells #[.int .i64 3, .int .i64 a, .int .i64 q] 79)) := ⟨_, rfl⟩
   have e2 : Ext w1 W2 := ka hW2
   have BX : Box W2 w1.heap.size #[.int .i64 3, .int .i64 a, .int .i64 q] 79 := kb hW2
   have f0 : ∀ w', Ext W2 w' → w'.cell? ⟨w1.heap.size, 0, none⟩ = some (.int .i64 3) := fun w' e => BX.at 0 w' e
   have f1 : ∀ w', Ext W2 w' → w'.cell? ⟨w1.heap.size, 1, none⟩ = some (.int .i64 a) := fun w' e => BX.at 1 w' e
   have f2 : ∀ w', Ext W2 w' → w'.cell? ⟨w1.heap.size, 2, none⟩ = some (.int .i64 q) := fun w' e => BX.at 2 w' e
   have z0 := f0 W2 (Ext.refl _)
   rw [hW2.out] at z0
   go_wp2_with fail
   rw [← hW2.out]
   replace p0 := kx p0 e2
   replace p1 := kx p1 e2
   replace EW := EW.trans e2; clear e2
   refine (CI.out 3 1 17 _).mono ?_; rintro _ w3 ⟨rfl, e3⟩; rw [HIN.out]
   replace p0 := kx p0 e3
   replace p1 := kx p1 e3
   replace f0 := kx f0 e3
   replace f1 := kx f1 e3
   replace f2 := kx f2 e3
   replace EW := EW.trans e3; clear e3
   clear z0 y0 y1 y2 BX c0 c1 c2
   go_wp2_with fail
   refine (CG.out 3 _).mono ?_; rintro _ w4 ⟨rfl, e4⟩; rw [HG.out]
   replace p0 := kx p0 e4
   replace p1 := kx p1 e4
   replace f0 := kx f0 e4
   replace f1 := kx f1 e4
   replace f2 := kx f2 e4
   replace EW := EW.trans e4; clear e4
   go_wp2_with fail
   refine (CX.out ((j : Int) + 1) _ EW).mono ?_; rintro _ w5 ⟨rfl, e5⟩; rw [HX.out]
   replace p0 := kx p0 e5
   replace p1 := kx p1 e5
   replace f0 := kx f0 e5
   replace f1 := kx f1 e5
   replace f2 := kx f2 e5
   replace EW := EW.trans e5; clear e5
   go_wp2
   go_ret
   exact ⟨by rw [HV.out]; rfl, EW⟩
  ·have HX := Lib.hid hx; clear hx
   have HV : Hid (insI cs (j : Int) = inB a 0 400) := by show _ = _; rw [HR.out, HG.out, HX.out]; rfl
   go_enter Tryz.func141, Tryz.ntmps141
   go_wp2_with fail
   rw [← hW0.out]
   refine (CX.out (j : Int) _ e0).mono ?_; rintro _ w1 ⟨rfl, e1⟩; rw [HZ.out]
   have EW := e0
   replace p0 := kx p0 e1
   replace p1 := kx p1 e1
   replace c0 := kx c0 e1
   replace c1 := kx c1 e1
   replace c2 := kx c2 e1
   replace EW := EW.trans e1; clear e1
   have y0 := c0 w1 (Ext.refl _); have y1 := c1 w1 (Ext.refl _); have y2 := c2 w1 (Ext.refl _)
   obtain ⟨W2, hW2⟩ : ∃ W, Hid (W = w1.alloc (.cells #[.int .i64 3, .int .i64 a, .int .i64 q] 79)) := ⟨_, rfl⟩
   have e2 : Ext w1 W2 := ka hW2
   have BX : Box W2 w1.heap.size #[.int .i64 3, .int .i64 a, .int .i64 q] 79 := kb hW2
   have f0 : ∀ w', Ext W2 w' → w'.cell? ⟨w1.heap.size, 0, none⟩ = some (.int .i64 3) := fun w' e => BX.at 0 w' e
   have f1 : ∀ w', Ext W2 w' → w'.cell? ⟨w1.heap.size, 1, none⟩ = some (.int .i64 a) := fun w' e => BX.at 1 w' e
   have f2 : ∀ w', Ext W2 w' → w'.cell? ⟨w1.heap.size, 2, none⟩ = some (.int .i64 q) := fun w' e => BX.at 2 w' e
   have z0 := f0 W2 (Ext.refl _)
   rw [hW2.out] at z0
   go_wp2_with fail
   rw [← hW2.out]
   replace p0 := kx p0 e2
   replace p1 := kx p1 e2
   replace EW := EW.trans e2; clear e2
   refine (CI.out 3 1 17 _).mono ?_; rintro _ w3 ⟨rfl, e3⟩; rw [HIN.out]
   replace p0 := kx p0 e3
   replace p1 := kx p1 e3
   replace f0 := kx f0 e3
   replace f1 := kx f1 e3
   replace f2 := kx f2 e3
   replace EW := EW.trans e3; clear e3
   clear z0 y0 y1 y2 BX c0 c1 c2
   go_wp2_with fail
   refine (CG.out 3 _).mono ?_; rintro _ w4 ⟨rfl, e4⟩; rw [HG.out]
   replace p0 := kx p0 e4
   replace p1 := kx p1 e4
   replace f0 := kx f0 e4
   replace f1 := kx f1 e4
   replace f2 := kx f2 e4
   replace EW := EW.trans e4; clear e4
   go_wp2_with fail
   refine (CX.out ((j : Int) + 1) _ EW).mono ?_; rintro _ w5 ⟨rfl, e5⟩; rw [HX.out]
   replace p0 := kx p0 e5
   replace p1 := kx p1 e5
   replace f0 := kx f0 e5
   replace f1 := kx f1 e5
   replace f2 := kx f2 e5
   replace EW := EW.trans e5; clear e5
   go_wp2_with fail
   refine (CI.out a 0 400 _).mono ?_; rintro _ w6 ⟨rfl, e6⟩
   replace p0 := kx p0 e6
   replace p1 := kx p1 e6
   replace f0 := kx f0 e6
   replace f1 := kx f1 e6
   replace f2 := kx f2 e6
   replace EW := EW.trans e6; clear e6
   go_wp2
   go_ret
   exact ⟨by rw [HV.out]; rfl, EW⟩
 by_cases h5 : o = 5
 ·subst h5
  have HIN : Hid ((decide ((1 : Int) ≤ 5) && decide ((5 : Int) ≤ 17)) = true) := rfl
  have HG : Hid (goI 5 = true) := rfl
  cases hx : idxB cs ((j : Int) + 1)
  ·have HX := Lib.hid hx; clear hx
   have HV : Hid (insI cs (j : Int) = false) := by show _ = _; rw [HR.out, HG.out, HX.out]; rfl
   go_enter Tryz.func141, Tryz.ntmps141
   go_wp2_with fail
   rw [← hW0.out]
   refine (CX.out (j : Int) _ e0).mono ?_; rintro _ w1 ⟨rfl, e1⟩; rw [HZ.out]
   have EW := e0
   replace p0 := kx p0 e1
   replace p1 := kx p1 e1
   replace c0 := kx c0 e1
   replace c1 := kx c1 e1
   replace c2 := kx c2 e1
   replace EW := EW.trans e1; clear e1
   have y0 := c0 w1 (Ext.refl _); have y1 := c1 w1 (Ext.refl _); have y2 := c2 w1 (Ext.refl _)
   obtain ⟨W2, hW2⟩ : ∃ W, Hid (W = w1.alloc (.cells #[.int .i64 5, .int .i64 a, .int .i64 q] 79)) := ⟨_, rfl⟩
   have e2 : Ext w1 W2 := ka hW2
   have BX : Box W2 w1.heap.size #[.int .i64 5, .int .i64 a, .int .i64 q] 79 := kb hW2
   have f0 : ∀ w', Ext W2 w' → w'.cell? ⟨w1.heap.size, 0, none⟩ = some (.int .i64 5) := fun w' e => BX.at 0 w' e
   have f1 : ∀ w', Ext W2 w' → w'.cell? ⟨w1.heap.size, 1, none⟩ = some (.int .i64 a) := fun w' e => BX.at 1 w' e
   have f2 : ∀ w', Ext W2 w' → w'.cell? ⟨w1.heap.size, 2, none⟩ = some (.int .i64 q) := fun w' e => BX.at 2 w' e
   have z0 := f0 W2 (Ext.refl _)
   rw [hW2.out] at z0
   go_wp2_with fail
   rw [← hW2.out]
   replace p0 := kx p0 e2
   replace p1 := kx p1 e2
   replace EW := EW.trans e2; clear e2
   refine (CI.out 5 1 17 _).mono ?_; rintro _ w3 ⟨rfl, e3⟩; rw [HIN.out]
   replace p0 := kx p0 e3
   replace p1 := kx p1 e3
   replace f0 := kx f0 e3
   replace f1 := kx f1 e3
   replace f2 := kx f2 e3
   replace EW := EW.trans e3; clear e3
   clear z0 y0 y1 y2 BX c0 c1 c2
   go_wp2_with fail
   refine (CG.out 5 _).mono ?_; rintro _ w4 ⟨rfl, e4⟩; rw [HG.out]
   replace p0 := kx p0 e4
   replace p1 := kx p1 e4
   replace f0 := kx f0 e4
   replace f1 := kx f1 e4
   replace f2 := kx f2 e4
   replace EW := EW.trans e4; clear e4
   go_wp2_with fail
   refine (CX.out ((j : Int) + 1) _ EW).mono ?_; rintro _ w5 ⟨rfl, e5⟩; rw [HX.out]
   replace p0 := kx p0 e5
   replace p1 := kx p1 e5
   replace f0 := kx f0 e5
   replace f1 := kx f1 e5
   replace f2 := kx f2 e5
   replace EW := EW.trans e5; clear e5
   go_wp2
   go_ret
   exact ⟨by rw [HV.out]; rfl, EW⟩
  ·have HX := Lib.hid hx; clear hx
   have HV : Hid (insI cs (j : Int) = inB a 0 400) := by show _ = _; rw [HR.out, HG.out, HX.out]; rfl
   go_enter Tryz.func141, Tryz.ntmps141
   go_wp2_with fail
   rw [← hW0.out]
   refine (CX.out (j : Int) _ e0).mono ?_; rintro _ w1 ⟨rfl, e1⟩; rw [HZ.out]
   have EW := e0
   replace p0 := kx p0 e1
   replace p1 := kx p1 e1
   replace c0 := kx c0 e1
   replace c1 := kx c1 e1
   replace c2 := kx c2 e1
   replace EW := EW.trans e1; clear e1
   have y0 := c0 w1 (Ext.refl _); have y1 := c1 w1 (Ext.refl _); have y2 := c2 w1 (Ext.refl _)
   obtain ⟨W2, hW2⟩ : ∃ W, Hid (W = w1.alloc (.cells #[.int .i64 5, .int .i64 a, .int .i64 q] 79)) := ⟨_, rfl⟩
   have e2 : Ext w1 W2 := ka hW2
   have BX : Box W2 w1.heap.size #[.int .i64 5, .int .i64 a, .int .i64 q] 79 := kb hW2
   have f0 : ∀ w', Ext W2 w' → w'.cell? ⟨w1.heap.size, 0, none⟩ = some (.int .i64 5) := fun w' e => BX.at 0 w' e
   have f1 : ∀ w', Ext W2 w' → w'.cell? ⟨w1.heap.size, 1, none⟩ = some (.int .i64 a) := fun w' e => BX.at 1 w' e
   have f2 : ∀ w', Ext W2 w' → w'.cell? ⟨w1.heap.size, 2, none⟩ = some (.int .i64 q) := fun w' e => BX.at 2 w' e
   have z0 := f0 W2 (Ext.refl _)
   rw [hW2.out] at z0
   go_wp2_with fail
   rw [← hW2.out]
   replace p0 := kx p0 e2
   replace p1 := kx p1 e2
   replace EW := EW.trans e2; clear e2
   refine (CI.out 5 1 17 _).mono ?_; rintro _ w3 ⟨rfl, e3⟩; rw [HIN.out]
   replace p0 := kx p0 e3
   replace p1 := kx p1 e3
   replace f0 := kx f0 e3
   replace f1 := kx f1 e3
   replace f2 := kx f2 e3
   replace EW := EW.trans e3; clear e3
   clear z0 y0 y1 y2 BX c0 c1 c2
   go_wp2_with fail
   refine (CG.out 5 _).mono ?_; rintro _ w4 ⟨rfl, e4⟩; rw [HG.out]
   replace p0 := kx p0 e4
   replace p1 := kx p1 e4
   replace f0 := kx f0 e4
   replace f1 := kx f1 e4
   replace f2 := kx f2 e4
   replace EW := EW.trans e4; clear e4
   go_wp2_with fail
   refine (CX.out ((j : Int) + 1) _ EW).mono ?_; rintro _ w5 ⟨rfl, e5⟩; rw [HX.out]
   replace p0 := kx p0 e5
   replace p1 := kx p1 e5
   replace f0 := kx f0 e5
   replace f1 := kx f1 e5
   replace f2 := kx f2 e5
   replace EW := EW.trans e5; clear e5
   go_wp2_with fail
   refine (CI.out a 0 400 _).mono ?_; rintro _ w6 ⟨rfl, e6⟩
   replace p0 := kx p0 e6
   replace p1 := kx p1 e6
   replace f0 := kx f0 e6
   replace f1 := kx f1 e6
   replace f2 := kx f2 e6
   replace EW := EW.trans e6; clear e6
   go_wp2
   go_ret
   exact ⟨by rw [HV.out]; rfl, EW⟩
 by_cases h12 : o = 12
 ·subst h12
  have HIN : Hid ((decide ((1 : Int) ≤ 12) && decide ((12 : Int) ≤ 17)) = true) := rfl
  have HG : Hid (goI 12 = false) := rfl
  have HV : Hid (insI cs (j : Int) = inB a 1 8) := by show _ = _; rw [HR.out, HG.out]; rfl
  go_enter Tryz.func141, Tryz.ntmps141
  go_wp2_with fail
  rw [← hW0.out]
  refine (CX.out (j : Int) _ e0).mono ?_; rintro _ w1 ⟨rfl, e1⟩; rw [HZ.out]
  have EW := e0
  replace p0 := kx p0 e1
  replace p1 := kx p1 e1
  replace c0 := kx c0 e1
  replace c1 := kx c1 e1
  replace c2 := kx c2 e1
  replace EW := EW.trans e1; clear e1
  have y0 := c0 w1 (Ext.refl _); have y1 := c1 w1 (Ext.refl _); have y2 := c2 w1 (Ext.refl _)
  obtain ⟨W2, hW2⟩ : ∃ W, Hid (W = w1.alloc (.cells #[.int .i64 12, .int .i64 a, .int .i64 q] 79)) := ⟨_, rfl⟩
  have e2 : Ext w1 W2 := ka hW2
  have BX : Box W2 w1.heap.size #[.int .i64 12, .int .i64 a, .int .i64 q] 79 := kb hW2
  have f0 : ∀ w', Ext W2 w' → w'.cell? ⟨w1.heap.size, 0, none⟩ = some (.int .i64 12) := fun w' e => BX.at 0 w' e
  have f1 : ∀ w', Ext W2 w' → w'.cell? ⟨w1.heap.size, 1, none⟩ = some (.int .i64 a) := fun w' e => BX.at 1 w' e
  have f2 : ∀ w', Ext W2 w' → w'.cell? ⟨w1.heap.size, 2, none⟩ = some (.int .i64 q) := fun w' e => BX.at 2 w' e
  have z0 := f0 W2 (Ext.refl _)
  rw [hW2.out] at z0
  go_wp2_with fail
  rw [← hW2.out]
  replace p0 := kx p0 e2
  replace p1 := kx p1 e2
  replace EW := EW.trans e2; clear e2
  refine (CI.out 12 1 17 _).mono ?_; rintro _ w3 ⟨rfl, e3⟩; rw [HIN.out]
  replace p0 := kx p0 e3
  replace p1 := kx p1 e3
  replace f0 := kx f0 e3
  replace f1 := kx f1 e3
  replace f2 := kx f2 e3
  replace EW := EW.trans e3; clear e3
  clear z0 y0 y1 y2 BX c0 c1 c2
  go_wp2_with fail
  refine (CG.out 12 _).mono ?_; rintro _ w4 ⟨rfl, e4⟩; rw [HG.out]
  replace p0 := kx p0 e4
  replace p1 := kx p1 e4
  replace f0 := kx f0 e4
  replace f1 := kx f1 e4
  replace f2 := kx f2 e4
  replace EW := EW.trans e4; clear e4
  go_wp2_with fail
  refine (CI.out a 1 8 _).mono ?_; rintro _ w6 ⟨rfl, e6⟩
  replace p0 := kx p0 e6
  replace p1 := kx p1 e6
  replace f0 := kx f0 e6
  replace f1 := kx f1 e6
  replace f2 := kx f2 e6
  replace EW := EW.trans e6; clear e6
  go_wp2
  go_ret
  exact ⟨by rw [HV.out]; rfl, EW⟩
 have n7 : (o == 7) = false := by simp [h7]
 have n8 : (o == 8) = false := by simp [h8]
 have n9 : (o == 9) = false := by simp [h9]
 have n13 : (o == 13) = false := by simp [h13]
 have n11 : (o == 11) = false := by simp [h11]
 have n1 : (o == 1) = false := by simp [h1]
 have n2 : (o == 2) = false := by simp [h2]
 have n16 : (o == 16) = false := by simp [h16]
 have n3 : (o == 3) = false := by simp [h3]
 have n5 : (o == 5) = false := by simp [h5]
 have n12 : (o == 12) = false := by simp [h12]
 have HV : Hid (insI cs (j : Int) = (inB o 1 17 && !(goI o && !idxB cs ((j : Int) + 1)))) := by
  show _ = _
  rw [HR.out, if_neg h7, if_neg h8, if_neg h9, if_neg h13, if_neg h11, if_neg h1, if_neg h2, if_neg h16, if_neg h3, if_neg h5, if_neg h12, Bool.and_true]
 clear HR h7 h8 h9 h13 h11 h1 h2 h16 h3 h5 h12
 cases hi : (decide ((1 : Int) ≤ o) && decide (o ≤ 17))
 ·have HIN := Lib.hid hi
  have HF : Hid (insI cs (j : Int) = false) := by show _ = _; rw [HV.out]; unfold inB; rw [hi]; rfl
  clear hi
  go_enter Tryz.func141, Tryz.ntmps141
  go_wp2_with fail
  rw [← hW0.out]
  refine (CX.out (j : Int) _ e0).mono ?_; rintro _ w1 ⟨rfl, e1⟩; rw [HZ.out]
  have EW := e0
  replace p0 := kx p0 e1
  replace p1 := kx p1 e1
  replace c0 := kx c0 e1
  replace c1 := kx c1 e1
  replace c2 := kx c2 e1
  replace EW := EW.trans e1; clear e1
  have y0 := c0 w1 (Ext.refl _); have y1 := c1 w1 (Ext.refl _); have y2 := c2 w1 (Ext.refl _)
  obtain ⟨W2, hW2⟩ : ∃ W, Hid (W = w1.alloc (.cells #[.int .i64 o, .int .i64 a, .int .i64 q] 79)) := ⟨_, rfl⟩
  have e2 : Ext w1 W2 := ka hW2
  have BX : Box W2 w1.heap.size #[.int .i64 o, .int .i64 a, .int .i64 q] 79 := kb hW2
  have f0 : ∀ w', Ext W2 w' → w'.cell? ⟨w1.heap.size, 0, none⟩ = some (.int .i64 o) := fun w' e => BX.at 0 w' e
  have f1 : ∀ w', Ext W2 w' → w'.cell? ⟨w1.heap.size, 1, none⟩ = some (.int .i64 a) := fun w' e => BX.at 1 w' e
  have f2 : ∀ w', Ext W2 w' → w'.cell? ⟨w1.heap.size, 2, none⟩ = some (.int .i64 q) := fun w' e => BX.at 2 w' e
  have z0 := f0 W2 (Ext.refl _)
  rw [hW2.out] at z0
  go_wp2_with fail
  rw [← hW2.out]
  replace p0 := kx p0 e2
  replace p1 := kx p1 e2
  replace EW := EW.trans e2; clear e2
  refine (CI.out o 1 17 _).mono ?_; rintro _ w3 ⟨rfl, e3⟩; rw [HIN.out]
  replace p0 := kx p0 e3
  replace p1 := kx p1 e3
  replace f0 := kx f0 e3
  replace f1 := kx f1 e3
  replace f2 := kx f2 e3
  replace EW := EW.trans e3; clear e3
  clear z0 y0 y1 y2 BX c0 c1 c2
  go_wp2
  go_ret
  exact ⟨by rw [HF.out]; rfl, EW⟩
 have HIN := Lib.hid hi
 have HI2 : Hid (inB o 1 17 = true) := hi
 clear hi
 cases hg : goI o
 ·have HG := Lib.hid hg
  have HF : Hid (insI cs (j : Int) = true) := by show _ = _; rw [HV.out, HI2.out, hg]; rfl
  clear hg
  go_enter Tryz.func141, Tryz.ntmps141
  go_wp2_with fail
  rw [← hW0.out]
  refine (CX.out (j : Int) _ e0).mono ?_; rintro _ w1 ⟨rfl, e1⟩; rw [HZ.out]
  have EW := e0
  replace p0 := kx p0 e1
  replace p1 := kx p1 e1
  replace c0 := kx c0 e1
  replace c1 := kx c1 e1
  replace c2 := kx c2 e1
  replace EW := EW.trans e1; clear e1
  have y0 := c0 w1 (Ext.refl _); have y1 := c1 w1 (Ext.refl _); have y2 := c2 w1 (Ext.refl _)
  obtain ⟨W2, hW2⟩ : ∃ W, Hid (W = w1.alloc (.cells #[.int .i64 o, .int .i64 a, .int .i64 q] 79)) := ⟨_, rfl⟩
  have e2 : Ext w1 W2 := ka hW2
  have BX : Box W2 w1.heap.size #[.int .i64 o, .int .i64 a, .int .i64 q] 79 := kb hW2
  have f0 : ∀ w', Ext W2 w' → w'.cell? ⟨w1.heap.size, 0, none⟩ = some (.int .i64 o) := fun w' e => BX.at 0 w' e
  have f1 : ∀ w', Ext W2 w' → w'.cell? ⟨w1.heap.size, 1, none⟩ = some (.int .i64 a) := fun w' e => BX.at 1 w' e
  have f2 : ∀ w', Ext W2 w' → w'.cell? ⟨w1.heap.size, 2, none⟩ = some (.int .i64 q) := fun w' e => BX.at 2 w' e
  have z0 := f0 W2 (Ext.refl _)
  rw [hW2.out] at z0
  go_wp2_with fail
  rw [← hW2.out]
  replace p0 := kx p0 e2
  replace p1 := kx p1 e2
  replace EW := EW.trans e2; clear e2
  refine (CI.out o 1 17 _).mono ?_; rintro _ w3 ⟨rfl, e3⟩; rw [HIN.out]
  replace p0 := kx p0 e3
  replace p1 := kx p1 e3
  replace f0 := kx f0 e3
  replace f1 := kx f1 e3
  replace f2 := kx f2 e3
  replace EW := EW.trans e3; clear e3
  clear z0 y0 y1 y2 BX c0 c1 c2
  go_wp2_with fail
  refine (CG.out o _).mono ?_; rintro _ w4 ⟨rfl, e4⟩; rw [HG.out]
  replace p0 := kx p0 e4
  replace p1 := kx p1 e4
  replace f0 := kx f0 e4
  replace f1 := kx f1 e4
  replace f2 := kx f2 e4
  replace EW := EW.trans e4; clear e4
  go_wp2
  go_ret
  exact ⟨by rw [HF.out]; rfl, EW⟩
 have HG := Lib.hid hg
 clear hg
 cases hx : idxB cs ((j : Int) + 1)
 ·have HX := Lib.hid hx
  have HF : Hid (insI cs (j : Int) = false) := by show _ = _; rw [HV.out, HI2.out, HG.out, hx]; rfl
  clear hx
  go_enter Tryz.func141, Tryz.ntmps141
  go_wp2_with fail
  rw [← hW0.out]
  refine (CX.out (j : Int) _ e0).mono ?_; rintro _ w1 ⟨rfl, e1⟩; rw [HZ.out]
  have EW := e0
  replace p0 := kx p0 e1
  replace p1 := kx p1 e1
  replace c0 := kx c0 e1
  replace c1 := kx c1 e1
  replace c2 := kx c2 e1
  replace EW := EW.trans e1; clear e1
  have y0 := c0 w1 (Ext.refl _); have y1 := c1 w1 (Ext.refl _); have y2 := c2 w1 (Ext.refl _)
  obtain ⟨W2, hW2⟩ : ∃ W, Hid (W = w1.alloc (.cells #[.int .i64 o, .int .i64 a, .int .i64 q] 79)) := ⟨_, rfl⟩
  have e2 : Ext w1 W2 := ka hW2
  have BX : Box W2 w1.heap.size #[.int .i64 o, .int .i64 a, .int .i64 q] 79 := kb hW2
  have f0 : ∀ w', Ext W2 w' → w'.cell? ⟨w1.heap.size, 0, none⟩ = some (.int .i64 o) := fun w' e => BX.at 0 w' e
  have f1 : ∀ w', Ext W2 w' → w'.cell? ⟨w1.heap.size, 1, none⟩ = some (.int .i64 a) := fun w' e => BX.at 1 w' e
  have f2 : ∀ w', Ext W2 w' → w'.cell? ⟨w1.heap.size, 2, none⟩ = some (.int .i64 q) := fun w' e => BX.at 2 w' e
  have z0 := f0 W2 (Ext.refl _)
  rw [hW2.out] at z0
  go_wp2_with fail
  rw [← hW2.out]
  replace p0 := kx p0 e2
  replace p1 := kx p1 e2
  replace EW := EW.trans e2; clear e2
  refine (CI.out o 1 17 _).mono ?_; rintro _ w3 ⟨rfl, e3⟩; rw [HIN.out]
  replace p0 := kx p0 e3
  replace p1 := kx p1 e3
  replace f0 := kx f0 e3
  replace f1 := kx f1 e3
  replace f2 := kx f2 e3
  replace EW := EW.trans e3; clear e3
  clear z0 y0 y1 y2 BX c0 c1 c2
  go_wp2_with fail
  refine (CG.out o _).mono ?_; rintro _ w4 ⟨rfl, e4⟩; rw [HG.out]
  replace p0 := kx p0 e4
  replace p1 := kx p1 e4
  replace f0 := kx f0 e4
  replace f1 := kx f1 e4
  replace f2 := kx f2 e4
  replace EW := EW.trans e4; clear e4
  go_wp2_with fail
  refine (CX.out ((j : Int) + 1) _ EW).mono ?_; rintro _ w5 ⟨rfl, e5⟩; rw [HX.out]
  replace p0 := kx p0 e5
  replace p1 := kx p1 e5
  replace f0 := kx f0 e5
  replace f1 := kx f1 e5
  replace f2 := kx f2 e5
  replace EW := EW.trans e5; clear e5
  go_wp2
  go_ret
  exact ⟨by rw [HF.out]; rfl, EW⟩
 ·have HX := Lib.hid hx
  have HF : Hid (insI cs (j : Int) = true) := by show _ = _; rw [HV.out, HI2.out, HG.out, hx]; rfl
  clear hx
  go_enter Tryz.func141, Tryz.ntmps141
  go_wp2_with fail
  rw [← hW0.out]
  refine (CX.out (j : Int) _ e0).mono ?_; rintro _ w1 ⟨rfl, e1⟩; rw [HZ.out]
  have EW := e0
  replace p0 := kx p0 e1
  replace p1 := kx p1 e1
  replace c0 := kx c0 e1
  replace c1 := kx c1 e1
  replace c2 := kx c2 e1
  replace EW := EW.trans e1; clear e1
  have y0 := c0 w1 (Ext.refl _); have y1 := c1 w1 (Ext.refl _); have y2 := c2 w1 (Ext.refl _)
  obtain ⟨W2, hW2⟩ : ∃ W, Hid (W = w1.alloc (.cells #[.int .i64 o, .int .i64 a, .int .i64 q] 79)) := ⟨_, rfl⟩
  have e2 : Ext w1 W2 := ka hW2
  have BX : Box W2 w1.heap.size #[.int .i64 o, .int .i64 a, .int .i64 q] 79 := kb hW2
  have f0 : ∀ w', Ext W2 w' → w'.cell? ⟨w1.heap.size, 0, none⟩ = some (.int .i64 o) := fun w' e => BX.at 0 w' e
  have f1 : ∀ w', Ext W2 w' → w'.cell? ⟨w1.heap.size, 1, none⟩ = some (.int .i64 a) := fun w' e => BX.at 1 w' e
  have f2 : ∀ w', Ext W2 w' → w'.cell? ⟨w1.heap.size, 2, none⟩ = some (.int .i64 q) := fun w' e => BX.at 2 w' e
  have z0 := f0 W2 (Ext.refl _)
  rw [hW2.out] at z0
  go_wp2_with fail
  rw [← hW2.out]
  replace p0 := kx p0 e2
  replace p1 := kx p1 e2
  replace EW := EW.trans e2; clear e2
  refine (CI.out o 1 17 _).mono ?_; rintro _ w3 ⟨rfl, e3⟩; rw [HIN.out]
  replace p0 := kx p0 e3
  replace p1 := kx p1 e3
  replace f0 := kx f0 e3
  replace f1 := kx f1 e3
  replace f2 := kx f2 e3
  replace EW := EW.trans e3; clear e3
  clear z0 y0 y1 y2 BX c0 c1 c2
  go_wp2_with fail
  refine (CG.out o _).mono ?_; rintro _ w4 ⟨rfl, e4⟩; rw [HG.out]
  replace p0 := kx p0 e4
  replace p1 := kx p1 e4
  replace f0 := kx f0 e4
  replace f1 := kx f1 e4
  replace f2 := kx f2 e4
  replace EW := EW.trans e4; clear e4
  go_wp2_with fail
  refine (CX.out ((j : Int) + 1) _ EW).mono ?_; rintro _ w5 ⟨rfl, e5⟩; rw [HX.out]
  replace p0 := kx p0 e5
  replace p1 := kx p1 e5
  replace f0 := kx f0 e5
  replace f1 := kx f1 e5
  replace f2 := kx f2 e5
  replace EW := EW.trans e5; clear e5
  go_wp2
  go_ret
  exact ⟨by rw [HF.out]; rfl, EW⟩
theorem iBlockOf_c (Ac : Option Addr) (cs : List Ins) (cc : Nat) (Ae : Option Addr) (es : List Int) (ce : Nat) (x : Int) (w : World) (hC : RdI w Ac cs cc) (hE : Is w Ae es ce) (hel : es.length ≤ 1000000) :
 Gives Tryz.prog 145 #[.agg #[.slice Ac cs.length cc, .slice Ae es.length ce], .int .i64 x] w (.int .i64 (blockOf es x)) := by
 have hl := hC.len; have hcp := hC.cap
 obtain ⟨W0, hW0⟩ : ∃ W, Hid (W = w.alloc (.cells #[.slice Ac cs.length cc, .slice Ae es.length ce] 55)) := ⟨_, rfl⟩
 have e0 : Ext w W0 := ka hW0
 have BP : Box W0 w.heap.size #[.slice Ac cs.length cc, .slice Ae es.length ce] 55 := kb hW0
 have p0 : ∀ w', Ext W0 w' → w'.cell? ⟨w.heap.size, 0, none⟩ = some (Value.slice Ac cs.length cc) := fun w' e => BP.at 0 w' e
 have p1 : ∀ w', Ext W0 w' → w'.cell? ⟨w.heap.size, 1, none⟩ = some (Value.slice Ae es.length ce) := fun w' e => BP.at 1 w' e
 have d0 := p0 _ (Ext.refl _); have d1 := p1 _ (Ext.refl _)
 rw [hW0.out] at d0 d1
 have HB : Hid (blockN es x es.length = blockOf es x) := rfl
 have hiw : IntKind.i64.wrap ((es.length : Int) - 1) = (es.length : Int) - 1 := IntWalk.i64_in _ (by omega)
 go_enter Tryz.func145, Tryz.ntmps145
 go_wp2_with fail
 rw [← hW0.out]
 clear d0 d1
 go_loopw [5] (fun q wr => ∃ k : Nat, k ≤ es.length ∧ q = .int .i64 ((k : Int) - 1) ∧ Hid (blockN es x k = blockOf es x) ∧ Ext W0 wr) (fun q _ => (intOf q + 1).toNat)
 case atStart => exact ⟨es.length, Nat.le_refl _, rfl, HB.out, Ext.refl _⟩
 case round =>
  clear HB
  obtain ⟨k, hk, rfl, hv, he⟩ := hrel
  cases k with
  | zero =>
   have HF : Hid (blockOf es x = -1) := by show _ = _; rw [← hv.out]; rfl
   clear hv
   go_wp2
   go_ret
   exact ⟨by rw [HF.out]; rfl, e0.trans he⟩
  | succ i =>
   have hlt : i < es.length := by omega
   rw [show ((i + 1 : Nat) : Int) - 1 = (i : Int) by omega]
   obtain ⟨g, og, rfl, _, hc⟩ := hE.at i hlt
   have hc' : ∀ w', Ext wr w' → w'.cell? ⟨g, og + i, none⟩ = some (.int .i64 es[i]) := fun w' e => hc w' (e0.trans (he.trans e))
   have hgd : es.getD i 0 = es[i] := by simp [hlt]
   have HS : Hid (blockN es x (i + 1) = if es[i] ≤ x then (i : Int) else blockN es x i) := by show _ = _; rw [blockN, hgd]
   have q0 := fun w' (e : Ext wr w') => p0 w' (he.trans e)
   have q1 := fun w' (e : Ext wr w') => p1 w' (he.trans e)
   have hiw1 : IntKind.i64.wrap ((i : Int) - 1) = (i : Int) - 1 := IntWalk.i64_in _ (by omega)
   generalize es[i] = y at *
   clear hc hgd p0 p1
   by_cases hy : y ≤ x
   ·have HF : Hid (blockOf es x = (i : Int)) := by show _ = _; rw [← hv.out, HS.out, if_pos hy]
    clear hv HS
    go_wp2
    go_ret
    exact ⟨by rw [HF.out]; rfl, e0.trans he⟩
   ·have HN : Hid (blockN es x i = blockOf es x) := by show _ = _; rw [← hv.out, HS.out, if_neg hy]
    have hyd : decide (y ≤ x) = false := decide_eq_false hy
    clear hv HS
    go_wp2
    go_roundw
    case rel => exact ⟨i, by omega, rfl, HN.out, he⟩
    case measure => simp [intOf]
end Go.Proofs.YtpmcofmdjckijaaGreat
