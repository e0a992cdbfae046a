/- Texts, laid into one. -/
import Derived.Test.YtpmcofmdjckijaaGreatZPb27
set_option linter.unusedVariables false
set_option linter.unusedSimpArgs false
set_option maxRecDepth 100000
set_option maxHeartbeats 16000000
namespace Go.Proofs.YtpmcofmdjckijaaGreat
open Go.RowKit Go.Sort
theorem Is.new (w : World) (l : List Int) (cs : Array Value) (hcs : cs = (l.map vint).toArray) (hl : l.length ≤ 1000) (m : Nat) (hm : m = l.length) : Is (w.alloc (.cells cs 3)) (some ⟨w.heap.size, 0, none⟩) l m := by
 subst hcs hm
 refine ⟨⟨Nat.le_refl _, by omega, fun _ => ⟨w.heap.size, 0, rfl, by simp, fun w' e i hi => ?_⟩⟩, by omega⟩
 rw [row_cell (heap_alloc_new w _) e, Nat.zero_add]
 simp [hi]
theorem isA (w : World) (g : Nat) (hg : g = w.heap.size) : Is (w.alloc (.cells #[.int .i64 7, .int .i64 8, .int .i64 9, .int .i64 13] 3)) (some ⟨g, 0, none⟩) [7, 8, 9, 13] 4 := by subst hg; exact Is.new w [7, 8, 9, 13] _ rfl (by simp) 4 rfl
theorem isB (w : World) : Is (w.alloc (.cells #[.int .i64 8, .int .i64 10, .int .i64 12, .int .i64 17] 3)) (some ⟨w.heap.size, 0, none⟩) [8, 10, 12, 17] 4 := Is.new w [8, 10, 12, 17] _ rfl (by simp) 4 rfl
theorem insOk_at {cs : List Ins} {j : Nat} (hj : j < cs.length) : insOk cs (j : Int) =
 (!(jumpOp cs[j].1 && !inB cs[j].2.1 0 ((cs.length : Int) - 1)) && !(cs[j].1 == 11 && !inB cs[j].2.2 0 ((cs.length : Int) - 1)) &&
 !(!(stopOp cs[j].1) && ((j : Int) == (cs.length : Int) - 1)) && operOk cs[j]) := by
 unfold insOk
 rw [insAt_nat hj, show inB (j : Int) 0 ((cs.length : Int) - 1) = true by unfold inB; simp; omega, Bool.true_and]
theorem sInsOk_c (Ac : Option Addr) (cs : List Ins) (cc : Nat) (Ae : Option Addr) (es : List Int) (ce : Nat) (k : Int) (w : World) (hC : RdI w Ac cs cc) (hE : Is w Ae es ce) (hk : -100000000 ≤ k ∧ k ≤ 100000000) :
 Gives Tryz.prog 187 #[.agg #[.slice Ac cs.length cc, .slice Ae es.length ce], .int .i64 k] w (.bool (insOk cs k)) := by
 have hl := hC.len; have hcp := hC.cap
 obtain ⟨W0, hW0⟩ : ∃ W, Hid (W = w.alloc (.cells #[.slice Ac cs.length cc, .slice Ae es.length ce] 55)) := ⟨_, rfl⟩
 have e0 : Ext w W0 := ka hW0
 have BP : Box W0 w.heap.size #[.slice Ac cs.length cc, .slice Ae es.length ce] 55 := kb hW0
 have p0 : ∀ w', Ext W0 w' → w'.cell? ⟨w.heap.size, 0, none⟩ = some (Value.slice Ac cs.length cc) := fun w' e => BP.at 0 w' e
 have p1 : ∀ w', Ext W0 w' → w'.cell? ⟨w.heap.size, 1, none⟩ = some (Value.slice Ae es.length ce) := fun w' e => BP.at 1 w' e
 have d0 := p0 _ (Ext.refl _); have d1 := p1 _ (Ext.refl _)
 rw [hW0.out] at d0 d1
 have CI := Lib.hid (fun x lo hi w => l1In_c x lo hi w)
 have CLA : Hid (∀ x A c w, Is w A [7, 8, 9, 13] c → Gives Tryz.prog 195 #[.int .i64 x, .slice A 4 c] w (.bool (jumpOp x))) := fun x A c w h => sOpIn_c x A [7, 8, 9, 13] c w h
 have CLB : Hid (∀ x A c w, Is w A [8, 10, 12, 17] c → Gives Tryz.prog 195 #[.int .i64 x, .slice A 4 c] w (.bool (stopOp x))) := fun x A c w h => sOpIn_c x A [8, 10, 12, 17] c w h
 have CX := Lib.hid (fun x w => sOperands_c x w)
 by_cases hin : 0 ≤ k ∧ k ≤ (cs.length : Int) - 1
 ·obtain ⟨j, rfl⟩ := Int.eq_ofNat_of_zero_le hin.1
  have hj : j < cs.length := by omega
  have HR := Lib.hid (insOk_at hj)
  obtain ⟨b, off, rfl, hb, hc⟩ := hC.at j hj
  have c0 : ∀ w', Ext W0 w' → w'.cell? ⟨b, off + j * 3, none⟩ = some (.int .i64 cs[j].1) := fun w' e => (hc w' (e0.trans e)).1
  have c1 : ∀ w', Ext W0 w' → w'.cell? ⟨b, off + j * 3 + 1, none⟩ = some (.int .i64 cs[j].2.1) := fun w' e => (hc w' (e0.trans e)).2.1
  have c2 : ∀ w', Ext W0 w' → w'.cell? ⟨b, off + j * 3 + 2, none⟩ = some (.int .i64 cs[j].2.2) := fun w' e => (hc w' (e0.trans e)).2.2
  have HD : Hid ((decide ((0 : Int) ≤ (j : Int)) && decide ((j : Int) ≤ (cs.length : Int) - 1)) = true) := by show _ = _; simp; omega
  generalize cs[j] = x at *
  obtain ⟨o, a, q⟩ := x
  dsimp only at *
  clear hc hin
  go_enter Tryz.func187, Tryz.ntmps187
  go_wp2_with fail
  rw [← hW0.out]
  refine (CI.out (j : Int) 0 ((cs.length : Int) - 1) _).mono ?_; rintro _ w1 ⟨rfl, e1⟩; rw [HD.out]
  have y0 := c0 w1 e1; have y1 := c1 w1 e1; have y2 := c2 w1 e1
  obtain ⟨W2, hW2⟩ : ∃ W, Hid (W = w1.alloc (.cells #[.int .i64 o, .int .i64 a, .int .i64 q] 79)) := ⟨_, rfl⟩
  have e2 : Ext w1 W2 := ka hW2
  have BX : Box W2 w1.heap.size #[.int .i64 o, .int .i64 a, .int .i64 q] 79 := kb hW2
  have f0 : ∀ w', Ext W2 w' → w'.cell? ⟨w1.heap.size, 0, none⟩ = some (.int .i64 o) := fun w' e => BX.at 0 w' e
  have f1 : ∀ w', Ext W2 w' → w'.cell? ⟨w1.heap.size, 1, none⟩ = some (.int .i64 a) := fun w' e => BX.at 1 w' e
  have f2 : ∀ w', Ext W2 w' → w'.cell? ⟨w1.heap.size, 2, none⟩ = some (.int .i64 q) := fun w' e => BX.at 2 w' e
  have E2 := (e0.trans e1).trans e2
  have z0 := f0 W2 (Ext.refl _)
  rw [hW2.out] at z0
  go_wp2_with fail
  rw [← hW2.out]
  have e3 : Ext W2 (W2.alloc (.cells #[.int .i64 7, .int .i64 8, .int .i64 9, .int .i64 13] 3)) := Ext_alloc _ (Ext.refl _)
  refine (CLA.out o _ 4 _ (isA W2 (w1.heap.size + 1) (by rw [hW2.out]; simp))).mono ?_; rintro _ w4 ⟨rfl, e4⟩
  have e24 := Ext.trans e3 e4
  clear c0 c1 c2 y0 y1 y2 z0 BX e3 e4
  cases Z1 : jumpOp o
  ·skip
   by_cases h11 : o = 11
   ·subst h11
    have q11 : ((11 : Int) == 11) = true := rfl
    go_wp2_with fail
    refine (CI.out q 0 ((cs.length : Int) - 1) _).mono ?_; rintro _ w6 ⟨rfl, e6⟩
    have e26 := e24.trans e6
    cases Y2 : (decide ((0 : Int) ≤ q) && decide (q ≤ (cs.length : Int) - 1))
    ·go_wp2
     go_ret
     have hv : insOk cs (j : Int) = false := by rw [HR.out, q11]; unfold inB; rw [Y2]; simp
     exact ⟨by rw [hv]; rfl, E2.trans e26⟩
    ·skip
     go_wp2_with fail
     have e3 := Ext_alloc (.cells #[.int .i64 8, .int .i64 10, .int .i64 12, .int .i64 17] 3) e26
     refine (CLB.out 11 _ 4 _ (isB _)).mono ?_; rintro _ w7 ⟨rfl, e7⟩
     have e27 := Ext.trans e3 e7
     cases Z3 : stopOp 11
     ·by_cases hlast : (j : Int) = (cs.length : Int) - 1
      ·go_wp2
       go_ret
       have hv : insOk cs (j : Int) = false := by rw [HR.out, Z3, show ((j : Int) == (cs.length : Int) - 1) = true by simp [hlast]]; simp
       exact ⟨by rw [hv]; rfl, E2.trans e27⟩
      ·have hlf : ((j : Int) == (cs.length : Int) - 1) = false := by simpa using hlast
       have HRR : Hid (insOk cs (j : Int) = operOk (11, a, q)) := by show _ = _; rw [HR.out]; rw [Z3, hlf]; rw [Z1]; rw [show inB q 0 ((cs.length : Int) - 1) = true from Y2]; simp
       go_wp2_with fail
       refine (CX.out (11, a, q) _).mono ?_; rintro _ w9 ⟨rfl, e9⟩
       go_wp2
       go_ret
       exact ⟨by rw [HRR.out]; rfl, E2.trans (e27.trans e9)⟩
     ·skip
      have HRR : Hid (insOk cs (j : Int) = operOk (11, a, q)) := by show _ = _; rw [HR.out]; rw [Z3]; rw [Z1]; rw [show inB q 0 ((cs.length : Int) - 1) = true from Y2]; simp
      go_wp2_with fail
      refine (CX.out (11, a, q) _).mono ?_; rintro _ w9 ⟨rfl, e9⟩
      go_wp2
      go_ret
      exact ⟨by rw [HRR.out]; rfl, E2.trans (e27.trans e9)⟩
   ·have q11 : (o == 11) = false := by simp [h11]
    go_wp2_with fail
    have e3 := Ext_alloc (.cells #[.int .i64 8, .int .i64 10, .int .i64 12, .int .i64 17] 3) e24
    refine (CLB.out o _ 4 _ (isB _)).mono ?_; rintro _ w7 ⟨rfl, e7⟩
    have e27 := Ext.trans e3 e7
    cases Z3 : stopOp o
    ·by_cases hlast : (j : Int) = (cs.length : Int) - 1
     ·go_wp2
      go_ret
      have hv : insOk cs (j : Int) = false := by rw [HR.out, Z3, show ((j : Int) == (cs.length : Int) - 1) = true by simp [hlast]]; simp
      exact ⟨by rw [hv]; rfl, E2.trans e27⟩
     ·have hlf : ((j : Int) == (cs.length : Int) - 1) = false := by simpa using hlast
      have HRR : Hid (insOk cs (j : Int) = operOk (o, a, q)) := by show _ = _; rw [HR.out]; rw [Z3, hlf]; rw [Z1]; rw [q11]; simp
      go_wp2_with fail
      refine (CX.out (o, a, q) _).mono ?_; rintro _ w9 ⟨rfl, e9⟩
      go_wp2
      go_ret
      exact ⟨by rw [HRR.out]; rfl, E2.trans (e27.trans e9)⟩
    ·skip
     have HRR : Hid (insOk cs (j : Int) = operOk (o, a, q)) := by show _ = _; rw [HR.out]; rw [Z3]; rw [Z1]; rw [q11]; simp
     go_wp2_with fail
     refine (CX.out (o, a, q) _).mono ?_; rintro _ w9 ⟨rfl, e9⟩
     go_wp2
     go_ret
     exact ⟨by rw [HRR.out]; rfl, E2.trans (e27.trans e9)⟩
  ·go_wp2_with fail
   refine (CI.out a 0 ((cs.length : Int) - 1) _).mono ?_; rintro _ w5 ⟨rfl, e5⟩
   have e25 := e24.trans e5
   cases Y1 : (decide ((0 : Int) ≤ a) && decide (a ≤ (cs.length : Int) - 1))
   ·go_wp2
    go_ret
    have hv : insOk cs (j : Int) = false := by rw [HR.out, Z1]; unfold inB; rw [Y1]; rfl
    exact ⟨by rw [hv]; rfl, E2.trans e25⟩
   ·skip
    by_cases h11 : o = 11
    ·subst h11
     have q11 : ((11 : Int) == 11) = true := rfl
     go_wp2_with fail
     refine (CI.out q 0 ((cs.length : Int) - 1) _).mono ?_; rintro _ w6 ⟨rfl, e6⟩
     have e26 := e25.trans e6
     cases Y2 : (decide ((0 : Int) ≤ q) && decide (q ≤ (cs.length : Int) - 1))
     ·go_wp2
      go_ret
      have hv : insOk cs (j : Int) = false := by rw [HR.out, q11]; unfold inB; rw [Y2]; simp
      exact ⟨by rw [hv]; rfl, E2.trans e26⟩
     ·skip
      go_wp2_with fail
      have e3 := Ext_alloc (.cells #[.int .i64 8, .int .i64 10, .int .i64 12, .int .i64 17] 3) e26
      refine (CLB.out 11 _ 4 _ (isB _)).mono ?_; rintro _ w7 ⟨rfl, e7⟩
      have e27 := Ext.trans e3 e7
      cases Z3 : stopOp 11
      ·by_cases hlast : (j : Int) = (cs.length : Int) - 1
       ·go_wp2
        go_ret
        have hv : insOk cs (j : Int) = false := by rw [HR.out, Z3, show ((j : Int) == (cs.length : Int) - 1) = true by simp [hlast]]; simp
        exact ⟨by rw [hv]; rfl, E2.trans e27⟩
       ·have hlf : ((j : Int) == (cs.length : Int) - 1) = false := by simpa using hlast
        have HRR : Hid (insOk cs (j : Int) = operOk (11, a, q)) := by show _ = _; rw [HR.out]; rw [Z3, hlf]; rw [show inB a 0 ((cs.length : Int) - 1) = true from Y1]; rw [show inB q 0 ((cs.length : Int) - 1) = true from Y2]; simp
        go_wp2_with fail
        refine (CX.out (11, a, q) _).mono ?_; rintro _ w9 ⟨rfl, e9⟩
        go_wp2
        go_ret
        exact ⟨by rw [HRR.out]; rfl, E2.trans (e27.trans e9)⟩
      ·skip
       have HRR : Hid (insOk cs (j : Int) = operOk (11, a, q)) := by show _ = _; rw [HR.out]; rw [Z3]; rw [show inB a 0 ((cs.length : Int) - 1) = true from Y1]; rw [show inB q 0 ((cs.length : Int) - 1) = true from Y2]; simp
       go_wp2_with fail
       refine (CX.out (11, a, q) _).mono ?_; rintro _ w9 ⟨rfl, e9⟩
       go_wp2
       go_ret
       exact ⟨by rw [HRR.out]; rfl, E2.trans (e27.trans e9)⟩
    ·have q11 : (o == 11) = false := by simp [h11]
     go_wp2_with fail
     have e3 := Ext_alloc (.cells #[.int .i64 8, .int .i64 10, .int .i64 12, .int .i64 17] 3) e25
     refine (CLB.out o _ 4 _ (isB _)).mono ?_; rintro _ w7 ⟨rfl, e7⟩
     have e27 := Ext.trans e3 e7
     cases Z3 : stopOp o
     ·by_cases hlast : (j : Int) = (cs.length : Int) - 1
      ·go_wp2
       go_ret
       have hv : insOk cs (j : Int) = false := by rw [HR.out, Z3, show ((j : Int) == (cs.length : Int) - 1) = true by simp [hlast]]; simp
       exact ⟨by rw [hv]; rfl, E2.trans e27⟩
      ·have hlf : ((j : Int) == (cs.length : Int) - 1) = false := by simpa using hlast
       have HRR : Hid (insOk cs (j : Int) = operOk (o, a, q)) := by show _ = _; rw [HR.out]; rw [Z3, hlf]; rw [show inB a 0 ((cs.length : Int) - 1) = true from Y1]; rw [q11]; simp
       go_wp2_with fail
       refine (CX.out (o, a, q) _).mono ?_; rintro _ w9 ⟨rfl, e9⟩
       go_wp2
       go_ret
       exact ⟨by rw [HRR.out]; rfl, E2.trans (e27.trans e9)⟩
     ·skip
      have HRR : Hid (insOk cs (j : Int) = operOk (o, a, q)) := by show _ = _; rw [HR.out]; rw [Z3]; rw [show inB a 0 ((cs.length : Int) - 1) = true from Y1]; rw [q11]; simp
      go_wp2_with fail
      refine (CX.out (o, a, q) _).mono ?_; rintro _ w9 ⟨rfl, e9⟩
      go_wp2
      go_ret
      exact ⟨by rw [HRR.out]; rfl, E2.trans (e27.trans e9)⟩
 ·have HR : Hid (insOk cs k = false) := by
   show _ = _
   unfold insOk inB
   rcases (by omega : ¬ 0 ≤ k ∨ ¬ k ≤ (cs.length : Int) - 1) with h | h
   ·rw [decide_eq_false h]; rfl
   ·rw [decide_eq_false h, Bool.and_false]; rfl
  have HD : Hid ((decide ((0 : Int) ≤ k) && decide (k ≤ (cs.length : Int) - 1)) = false) := by
   show _ = _
   rcases (by omega : ¬ 0 ≤ k ∨ ¬ k ≤ (cs.length : Int) - 1) with h | h
   ·rw [decide_eq_false h]; rfl
   ·rw [decide_eq_false h, Bool.and_false]
  go_enter Tryz.func187, Tryz.ntmps187
  go_wp2_with fail
  rw [← hW0.out]
  refine (CI.out k 0 ((cs.length : Int) - 1) _).mono ?_; rintro _ w1 ⟨rfl, e1⟩; rw [HD.out]
  go_wp2
  go_ret
  exact ⟨by rw [HR.out]; rfl, e0.trans e1⟩
theorem sBlockOf_c (Ac : Option Addr) (cs : List Ins) (cc : Nat) (Ae : Option Addr) (es : List Int) (ce : Nat) (x : Int) (w : World) (hC : RdI w Ac cs cc) (hE : Is w Ae es ce) (hel : es.length ≤ 1000000) :
 Gives Tryz.prog 189 #[.agg #[.slice Ac cs.length cc, .slice Ae es.length ce], .int .i64 x] w (.int .i64 (blockOf es x)) := by
 obtain ⟨W0, hW0⟩ : ∃ W, Hid (W = w.alloc (.cells #[.slice Ac cs.length cc, .slice Ae es.length ce] 55)) := ⟨_, rfl⟩
 have e0 : Ext w W0 := ka hW0
 have BP : Box W0 w.heap.size #[.slice Ac cs.length cc, .slice Ae es.length ce] 55 := kb hW0
 have p0 : ∀ w', Ext W0 w' → w'.cell? ⟨w.heap.size, 0, none⟩ = some (Value.slice Ac cs.length cc) := fun w' e => BP.at 0 w' e
 have p1 : ∀ w', Ext W0 w' → w'.cell? ⟨w.heap.size, 1, none⟩ = some (Value.slice Ae es.length ce) := fun w' e => BP.at 1 w' e
 have d0 := p0 _ (Ext.refl _); have d1 := p1 _ (Ext.refl _)
 rw [hW0.out] at d0 d1
 have HBO : Hid (blockOf es x = blockN es x es.length) := rfl
 go_enter Tryz.func189, Tryz.ntmps189
 go_wp2_with fail
 rw [← hW0.out]
 go_loopw [5, 6] (fun v q wr => ∃ k : Nat, k ≤ es.length ∧ v = .int .i64 (blockN es x k) ∧ q = .int .i64 (k : Int) ∧ Ext W0 wr) (fun _ q _ => es.length - (intOf q).toNat)
 case atStart => exact ⟨0, by omega, rfl, rfl, Ext.refl _⟩
 case round =>
  clear d0 d1
  obtain ⟨k, hk, rfl, rfl, he⟩ := hrel
  by_cases hlt : k < es.length
  ·obtain ⟨b, off, rfl, hb, hc⟩ := hE.at k hlt
   have hc' := fun w' (e : Ext W0 w') => hc w' (e0.trans e)
   have HS : Hid (blockN es x (k + 1) = if es[k] ≤ x then (k : Int) else blockN es x k) := by show _ = _; rw [blockN]; simp [hlt]
   generalize es[k] = y at *
   generalize blockN es x k = z at *
   clear hc
   by_cases hy : y ≤ x
   ·have HS' : Hid (blockN es x (k + 1) = (k : Int)) := by show _ = _; rw [HS.out, if_pos hy]
    clear HS
    go_wp2
    go_roundw
    case rel => exact ⟨k + 1, by omega, by rw [HS'.out], by go_num, he⟩
    case measure => simp [intOf]; omega
   ·have HS' : Hid (blockN es x (k + 1) = z) := by show _ = _; rw [HS.out, if_neg hy]
    clear HS
    go_wp2
    go_roundw
    case rel => exact ⟨k + 1, by omega, by rw [HS'.out], by go_num, he⟩
    case measure => simp [intOf]; omega
  ·obtain rfl : k = es.length := by omega
   go_wp2
   go_ret
   exact ⟨by rw [HBO.out]; rfl, e0.trans he⟩
theorem sInner_17 (Ac : Option Addr) (cs : List Ins) (cc : Nat) (Ae : Option Addr) (es : List Int) (ce : Nat) (j : Nat) (hj : j < cs.length) (start fin : Int) (w : World) (hC : RdI w Ac cs cc) (hE : Is w Ae es ce) (hel : es.length ≤ 1000000) (hs : -100000000 ≤ start ∧ start ≤ 100000000) (hf : -100000000 ≤ fin ∧ fin ≤ 100000000) (hop : cs[j].1 = 17) :
 Gives Tryz.prog 197 #[.agg #[.slice Ac cs.length cc, .slice Ae es.length ce], .int .i64 (j : Int), .int .i64 start, .int .i64 fin] w (.bool (innerOk cs es (j : Int) start fin)) := by
 have hl := hC.len; have hcp := hC.cap
 obtain ⟨W0, hW0⟩ : ∃ W, Hid (W = w.alloc (.cells #[.slice Ac cs.length cc, .slice Ae es.length ce] 55)) := ⟨_, rfl⟩
 have e0 : Ext w W0 := ka hW0
 have BP : Box W0 w.heap.size #[.slice Ac cs.length cc, .slice Ae es.length ce] 55 := kb hW0
 have p0 : ∀ w', Ext W0 w' → w'.cell? ⟨w.heap.size, 0, none⟩ = some (Value.slice Ac cs.length cc) := fun w' e => BP.at 0 w' e
 have p1 : ∀ w', Ext W0 w' → w'.cell? ⟨w.heap.size, 1, none⟩ = some (Value.slice Ae es.length ce) := fun w' e => BP.at 1 w' e
 have d0 := p0 _ (Ext.refl _); have d1 := p1 _ (Ext.refl _)
 rw [hW0.out] at d0 d1
 have CI := Lib.hid (fun x lo hi w => l1In_c x lo hi w)
 have CO := Lib.hid (fun (d o : Int) w' (e : Ext w w') (hd : -1000000000 ≤ d ∧ d ≤ 1000000000) => sIsOp_c Ac cs cc Ae es ce d o w' (hC.ext e) (hE.ext e) hd)
 have CQ := Lib.hid (fun (d : Int) w' (e : Ext w w') (hd : -100000000 ≤ d ∧ d ≤ 100000000) => sLoop_c Ac cs cc Ae es ce d w' (hC.ext e) (hE.ext e) hd)
 have HI : Hid (insAt cs (j : Int) = cs[j]) := insAt_nat hj
 obtain ⟨b, off, rfl, hb, hc⟩ := hC.at j hj
 have c0 : ∀ w', Ext W0 w' → w'.cell? ⟨b, off + j * 3, none⟩ = some (.int .i64 cs[j].1) := fun w' e => (hc w' (e0.trans e)).1
 have c1 : ∀ w', Ext W0 w' → w'.cell? ⟨b, off + j * 3 + 1, none⟩ = some (.int .i64 cs[j].2.1) := fun w' e => (hc w' (e0.trans e)).2.1
 have c2 : ∀ w', Ext W0 w' → w'.cell? ⟨b, off + j * 3 + 2, none⟩ = some (.int .i64 cs[j].2.2) := fun w' e => (hc w' (e0.trans e)).2.2
 generalize cs[j] = x at *
 obtain ⟨o, a, q⟩ := x
 dsimp only at *
 subst hop
 clear hc
 have y0 := c0 W0 (Ext.refl _); have y1 := c1 W0 (Ext.refl _); have y2 := c2 W0 (Ext.refl _)
 rw [hW0.out] at y0 y1 y2
 obtain ⟨W2, hW2⟩ : ∃ W, Hid (W = W0.alloc (.cells #[.int .i64 17, .int .i64 a, .int .i64 q] 79)) := ⟨_, rfl⟩
 have e2 : Ext W0 W2 := ka hW2
 have BX : Box W2 W0.heap.size #[.int .i64 17, .int .i64 a, .int .i64 q] 79 := kb hW2
 have hsz : W0.heap.size = w.heap.size + 1 := by rw [hW0.out]; simp
 rw [hsz] at BX
 have f0 : ∀ w', Ext W2 w' → w'.cell? ⟨w.heap.size + 1, 0, none⟩ = some (.int .i64 17) := fun w' e => BX.at 0 w' e
 have f1 : ∀ w', Ext W2 w' → w'.cell? ⟨w.heap.size + 1, 1, none⟩ = some (.int .i64 a) := fun w' e => BX.at 1 w' e
 have f2 : ∀ w', Ext W2 w' → w'.cell? ⟨w.heap.size + 1, 2, none⟩ = some (.int .i64 q) := fun w' e => BX.at 2 w' e
 have E2 := e0.trans e2
 have z0 := f0 W2 (Ext.refl _); have z1 := f1 W2 (Ext.refl _); have z2 := f2 W2 (Ext.refl _)
 rw [hW2.out, hW0.out] at z0 z1 z2
 have g0 := p0 W2 e2; have g1 := p1 W2 e2
 rw [hW2.out, hW0.out] at g0 g1
 have p02 := fun w' (e : Ext W2 w') => p0 w' (e2.trans e)
 have p12 := fun w' (e : Ext W2 w') => p1 w' (e2.trans e)
 have hjs : j < 1000000 := by omega
 clear hsz BX
 have HR : Hid (innerOk cs es (j : Int) start fin = false) := by show _ = _; unfold innerOk; rw [HI.out]; rfl
 go_enter Tryz.func197, Tryz.ntmps197
 go_wp2
 go_ret
 exact ⟨by rw [HR.out]; rfl, by have := E2; rw [hW2.out, hW0.out] at this; exact this⟩
theorem sInner_6 (Ac : Option Addr) (cs : List Ins) (cc : Nat) (Ae : Option Addr) (es : List Int) (ce : Nat) (j : Nat) (hj : j < cs.length) (start fin : Int) (w : World) (hC : RdI w Ac cs cc) (hE : Is w Ae es ce) (hel : es.length ≤ 1000000) (hs : -100000000 ≤ start ∧ start ≤ 100000000) (hf : -100000000 ≤ fin ∧ fin ≤ 100000000) (hop : cs[j].1 = 6) :
 Gives Tryz.prog 197 #[.agg #[.slice Ac cs.length cc, .slice Ae es.length ce], .int .i64 (j : Int), .int .i64 start, .int .i64 fin] w (.bool (innerOk cs es (j : Int) start fin)) := by
 have hl := hC.len; have hcp := hC.cap
 obtain ⟨W0, hW0⟩ : ∃ W, Hid (W = w.alloc (.cells #[.slice Ac cs.length cc, .slice Ae es.length ce] 55)) := ⟨_, rfl⟩
 have e0 : Ext w W0 := ka hW0
 have BP : Box W0 w.heap.size #[.slice Ac cs.length cc, .slice Ae es.length ce] 55 := kb hW0
 have p0 : ∀ w', Ext W0 w' → w'.cell? ⟨w.heap.size, 0, none⟩ = some (Value.slice Ac cs.length cc) := fun w' e => BP.at 0 w' e
 have p1 : ∀ w', Ext W0 w' → w'.cell? ⟨w.heap.size, 1, none⟩ = some (Value.slice Ae es.length ce) := fun w' e => BP.at 1 w' e
 have d0 := p0 _ (Ext.refl _); have d1 := p1 _ (Ext.refl _)
 rw [hW0.out] at d0 d1
 have CI := Lib.hid (fun x lo hi w => l1In_c x lo hi w)
 have CO := Lib.hid (fun (d o : Int) w' (e : Ext w w') (hd : -1000000000 ≤ d ∧ d ≤ 1000000000) => sIsOp_c Ac cs cc Ae es ce d o w' (hC.ext e) (hE.ext e) hd)
 have CQ := Lib.hid (fun (d : Int) w' (e : Ext w w') (hd : -100000000 ≤ d ∧ d ≤ 100000000) => sLoop_c Ac cs cc Ae es ce d w' (hC.ext e) (hE.ext e) hd)
 have HI : Hid (insAt cs (j : Int) = cs[j]) := insAt_nat hj
 obtain ⟨b, off, rfl, hb, hc⟩ := hC.at j hj
 have c0 : ∀ w', Ext W0 w' → w'.cell? ⟨b, off + j * 3, none⟩ = some (.int .i64 cs[j].1) := fun w' e => (hc w' (e0.trans e)).1
 have c1 : ∀ w', Ext W0 w' → w'.cell? ⟨b, off + j * 3 + 1, none⟩ = some (.int .i64 cs[j].2.1) := fun w' e => (hc w' (e0.trans e)).2.1
 have c2 : ∀ w', Ext W0 w' → w'.cell? ⟨b, off + j * 3 + 2, none⟩ = some (.int .i64 cs[j].2.2) := fun w' e => (hc w' (e0.trans e)).2.2
 generalize cs[j] = x at *
 obtain ⟨o, a, q⟩ := x
 dsimp only at *
 subst hop
 clear hc
 have y0 := c0 W0 (Ext.refl _); have y1 := c1 W0 (Ext.refl _); have y2 := c2 W0 (Ext.refl _)
 rw [hW0.out] at y0 y1 y2
 obtain ⟨W2, hW2⟩ : ∃ W, Hid (W = W0.alloc (.cells #[.int .i64 6, .int .i64 a, .int .i64 q] 79)) := ⟨_, rfl⟩
 have e2 : Ext W0 W2 := ka hW2
 have BX : Box W2 W0.heap.size #[.int .i64 6, .int .i64 a, .int .i64 q] 79 := kb hW2
 have hsz : W0.heap.size = w.heap.size + 1 := by rw [hW0.out]; simp
 rw [hsz] at BX
 have f0 : ∀ w', Ext W2 w' → w'.cell? ⟨w.heap.size + 1, 0, none⟩ = some (.int .i64 6) := fun w' e => BX.at 0 w' e
 have f1 : ∀ w', Ext W2 w' → w'.cell? ⟨w.heap.size + 1, 1, none⟩ = some (.int .i64 a) := fun w' e => BX.at 1 w' e
 have f2 : ∀ w', Ext W2 w' → w'.cell? ⟨w.heap.size + 1, 2, none⟩ = some (.int .i64 q) := fun w' e => BX.at 2 w' e
 have E2 := e0.trans e2
 have z0 := f0 W2 (Ext.refl _); have z1 := f1 W2 (Ext.refl _); have z2 := f2 W2 (Ext.refl _)
 rw [hW2.out, hW0.out] at z0 z1 z2
 have g0 := p0 W2 e2; have g1 := p1 W2 e2
 rw [hW2.out, hW0.out] at g0 g1
 have p02 := fun w' (e : Ext W2 w') => p0 w' (e2.trans e)
 have p12 := fun w' (e : Ext W2 w') => p1 w' (e2.trans e)
 have hjs : j < 1000000 := by omega
 clear hsz BX
 have HR : Hid (innerOk cs es (j : Int) start fin = (loopOk cs ((j : Int) + 1) && decide ((j : Int) + 4 < fin))) := by show _ = _; unfold innerOk; rw [HI.out]; rfl
 go_enter Tryz.func197, Tryz.ntmps197
 go_wp2_with fail
 rw [← hW0.out, ← hW2.out]
 refine (CQ.out ((j : Int) + 1) _ E2 (by omega)).mono ?_; rintro _ w4 ⟨rfl, e4⟩
 have ex0 : Ext W2 w4 := e4
 cases Z0 : loopOk cs ((j : Int) + 1)
 ·go_wp2
  go_ret
  have hv : innerOk cs es (j : Int) start fin = false := by rw [HR.out, Z0]; simp
  exact ⟨by rw [hv]; rfl, E2.trans e4⟩
 by_cases T0 : (j : Int) + 4 < fin
 ·have hv0 : decide ((j : Int) + 4 < fin) = true := by simp; omega
  have hv : innerOk cs es (j : Int) start fin = true := by rw [HR.out, Z0, hv0]; rfl
  go_wp2
  go_ret
  exact ⟨by rw [hv]; rfl, E2.trans e4⟩
 ·have hv0 : decide ((j : Int) + 4 < fin) = false := by simp; omega
  go_wp2
  go_ret
  have hv : innerOk cs es (j : Int) start fin = false := by rw [HR.out, Z0, hv0]; simp
  exact ⟨by rw [hv]; rfl, E2.trans e4⟩
theorem sInner_7 (Ac : Option Addr) (cs : List Ins) (cc : Nat) (Ae : Option Addr) (es : List Int) (ce : Nat) (j : Nat) (hj : j < cs.length) (start fin : Int) (w : World) (hC : RdI w Ac cs cc) (hE : Is w Ae es ce) (hel : es.length ≤ 1000000) (hs : -100000000 ≤ start ∧ start ≤ 100000000) (hf : -100000000 ≤ fin ∧ fin ≤ 100000000) (hop : cs[j].1 = 7) :
 Gives Tryz.prog 197 #[.agg #[.slice Ac cs.length cc, .slice Ae es.length ce], .int .i64 (j : Int), .int .i64 start, .int .i64 fin] w (.bool (innerOk cs es (j : Int) start fin)) := by
 have hl := hC.len; have hcp := hC.cap
 obtain ⟨W0, hW0⟩ : ∃ W, Hid (W = w.alloc (.cells #[.slice Ac cs.length cc, .slice Ae es.length ce] 55)) := ⟨_, rfl⟩
 have e0 : Ext w W0 := ka hW0
 have BP : Box W0 w.heap.size #[.slice Ac cs.length cc, .slice Ae es.length ce] 55 := kb hW0
 have p0 : ∀ w', Ext W0 w' → w'.cell? ⟨w.heap.size, 0, none⟩ = some (Value.slice Ac cs.length cc) := fun w' e => BP.at 0 w' e
 have p1 : ∀ w', Ext W0 w' → w'.cell? ⟨w.heap.size, 1, none⟩ = some (Value.slice Ae es.length ce) := fun w' e => BP.at 1 w' e
 have d0 := p0 _ (Ext.refl _); have d1 := p1 _ (Ext.refl _)
 rw [hW0.out] at d0 d1
 have CI := Lib.hid (fun x lo hi w => l1In_c x lo hi w)
 have CO := Lib.hid (fun (d o : Int) w' (e : Ext w w') (hd : -1000000000 ≤ d ∧ d ≤ 1000000000) => sIsOp_c Ac cs cc Ae es ce d o w' (hC.ext e) (hE.ext e) hd)
 have CQ := Lib.hid (fun (d : Int) w' (e : Ext w w') (hd : -100000000 ≤ d ∧ d ≤ 100000000) => sLoop_c Ac cs cc Ae es ce d w' (hC.ext e) (hE.ext e) hd)
 have HI : Hid (insAt cs (j : Int) = cs[j]) := insAt_nat hj
 obtain ⟨b, off, rfl, hb, hc⟩ := hC.at j hj
 have c0 : ∀ w', Ext W0 w' → w'.cell? ⟨b, off + j * 3, none⟩ = some (.int .i64 cs[j].1) := fun w' e => (hc w' (e0.trans e)).1
 have c1 : ∀ w', Ext W0 w' → w'.cell? ⟨b, off + j * 3 + 1, none⟩ = some (.int .i64 cs[j].2.1) := fun w' e => (hc w' (e0.trans e)).2.1
 have c2 : ∀ w', Ext W0 w' → w'.cell? ⟨b, off + j * 3 + 2, none⟩ = some (.int .i64 cs[j].2.2) := fun w' e => (hc w' (e0.trans e)).2.2
 generalize cs[j] = x at *
 obtain ⟨o, a, q⟩ := x
 dsimp only at *
 subst hop
 clear hc
 have y0 := c0 W0 (Ext.refl _); have y1 := c1 W0 (Ext.refl _); have y2 := c2 W0 (Ext.refl _)
 rw [hW0.out] at y0 y1 y2
 obtain ⟨W2, hW2⟩ : ∃ W, Hid (W = W0.alloc (.cells #[.int .i64 7, .int .i64 a, .int .i64 q] 79)) := ⟨_, rfl⟩
 have e2 : Ext W0 W2 := ka hW2
 have BX : Box W2 W0.heap.size #[.int .i64 7, .int .i64 a, .int .i64 q] 79 := kb hW2
 have hsz : W0.heap.size = w.heap.size + 1 := by rw [hW0.out]; simp
 rw [hsz] at BX
 have f0 : ∀ w', Ext W2 w' → w'.cell? ⟨w.heap.size + 1, 0, none⟩ = some (.int .i64 7) := fun w' e => BX.at 0 w' e
 have f1 : ∀ w', Ext W2 w' → w'.cell? ⟨w.heap.size + 1, 1, none⟩ = some (.int .i64 a) := fun w' e => BX.at 1 w' e
 have f2 : ∀ w', Ext W2 w' → w'.cell? ⟨w.heap.size + 1, 2, none⟩ = some (.int .i64 q) := fun w' e => BX.at 2 w' e
 have E2 := e0.trans e2
 have z0 := f0 W2 (Ext.refl _); have z1 := f1 W2 (Ext.refl _); have z2 := f2 W2 (Ext.refl _)
 rw [hW2.out, hW0.out] at z0 z1 z2
 have g0 := p0 W2 e2; have g1 := p1 W2 e2
 rw [hW2.out, hW0.out] at g0 g1
 have p02 := fun w' (e : Ext W2 w') => p0 w' (e2.trans e)
 have p12 := fun w' (e : Ext W2 w') => p1 w' (e2.trans e)
 have hjs : j < 1000000 := by omega
 clear hsz BX
 have HR : Hid (innerOk cs es (j : Int) start fin = (loopOk cs (j : Int) && decide (start ≤ (j : Int) - 1) && decide ((j : Int) + 3 < fin))) := by show _ = _; unfold innerOk; rw [HI.out]; rfl
 go_enter Tryz.func197, Tryz.ntmps197
 go_wp2_with fail
 rw [← hW0.out, ← hW2.out]
 refine (CQ.out (j : Int) _ E2 (by omega)).mono ?_; rintro _ w4 ⟨rfl, e4⟩
 have ex0 : Ext W2 w4 := e4
 cases Z0 : loopOk cs (j : Int)
 ·go_wp2
  go_ret
  have hv : innerOk cs es (j : Int) start fin = false := by rw [HR.out, Z0]; simp
  exact ⟨by rw [hv]; rfl, E2.trans e4⟩
 by_cases T0 : start ≤ (j : Int) - 1
 ·have hv0 : decide (start ≤ (j : Int) - 1) = true := by simp; omega
  by_cases T1 : (j : Int) + 3 < fin
  ·have hv1 : decide ((j : Int) + 3 < fin) = true := by simp; omega
   have hv : innerOk cs es (j : Int) start fin = true := by rw [HR.out, Z0, hv0, hv1]; rfl
   go_wp2
   go_ret
   exact ⟨by rw [hv]; rfl, E2.trans e4⟩
  ·have hv1 : decide ((j : Int) + 3 < fin) = false := by simp; omega
   go_wp2
   go_ret
   have hv : innerOk cs es (j : Int) start fin = false := by rw [HR.out, Z0, hv0, hv1]; simp
   exact ⟨by rw [hv]; rfl, E2.trans e4⟩
 ·have hv0 : decide (start ≤ (j : Int) - 1) = false := by simp; omega
  go_wp2
  go_ret
  have hv : innerOk cs es (j : Int) start fin = false := by rw [HR.out, Z0, hv0]; simp
  exact ⟨by rw [hv]; rfl, E2.trans e4⟩
theorem sInner_8 (Ac : Option Addr) (cs : List Ins) (cc : Nat) (Ae : Option Addr) (es : List Int) (ce : Nat) (j : Nat) (hj : j < cs.length) (start fin : Int) (w : World) (hC : RdI w Ac cs cc) (hE : Is w Ae es ce) (hel : es.length ≤ 1000000) (hs : -100000000 ≤ start ∧ start ≤ 100000000) (hf : -100000000 ≤ fin ∧ fin ≤ 100000000) (hop : cs[j].1 = 8) :
 Gives Tryz.prog 197 #[.agg #[.slice Ac cs.length cc, .slice Ae es.length ce], .int .i64 (j : Int), .int .i64 start, .int .i64 fin] w (.bool (innerOk cs es (j : Int) start fin)) := by
 have hl := hC.len; have hcp := hC.cap
 obtain ⟨W0, hW0⟩ : ∃ W, Hid (W = w.alloc (.cells #[.slice Ac cs.length cc, .slice Ae es.length ce] 55)) := ⟨_, rfl⟩
 have e0 : Ext w W0 := ka hW0
 have BP : Box W0 w.heap.size #[.slice Ac cs.length cc, .slice Ae es.length ce] 55 := kb hW0
 have p0 : ∀ w', Ext W0 w' → w'.cell? ⟨w.heap.size, 0, none⟩ = some (Value.slice Ac cs.length cc) := fun w' e => BP.at 0 w' e
 have p1 : ∀ w', Ext W0 w' → w'.cell? ⟨w.heap.size, 1, none⟩ = some (Value.slice Ae es.length ce) := fun w' e => BP.at 1 w' e
 have d0 := p0 _ (Ext.refl _); have d1 := p1 _ (Ext.refl _)
 rw [hW0.out] at d0 d1
 have CI := Lib.hid (fun x lo hi w => l1In_c x lo hi w)
 have CO := Lib.hid (fun (d o : Int) w' (e : Ext w w') (hd : -1000000000 ≤ d ∧ d ≤ 1000000000) => sIsOp_c Ac cs cc Ae es ce d o w' (hC.ext e) (hE.ext e) hd)
 have CQ := Lib.hid (fun (d : Int) w' (e : Ext w w') (hd : -100000000 ≤ d ∧ d ≤ 100000000) => sLoop_c Ac cs cc Ae es ce d w' (hC.ext e) (hE.ext e) hd)
 have HI : Hid (insAt cs (j : Int) = cs[j]) := insAt_nat hj
 obtain ⟨b, off, rfl, hb, hc⟩ := hC.at j hj
 have c0 : ∀ w', Ext W0 w' → w'.cell? ⟨b, off + j * 3, none⟩ = some (.int .i64 cs[j].1) := fun w' e => (hc w' (e0.trans e)).1
 have c1 : ∀ w', Ext W0 w' → w'.cell? ⟨b, off + j * 3 + 1, none⟩ = some (.int .i64 cs[j].2.1) := fun w' e => (hc w' (e0.trans e)).2.1
 have c2 : ∀ w', Ext W0 w' → w'.cell? ⟨b, off + j * 3 + 2, none⟩ = some (.int .i64 cs[j].2.2) := fun w' e => (hc w' (e0.trans e)).2.2
 generalize cs[j] = x at *
 obtain ⟨o, a, q⟩ := x
 dsimp only at *
 subst hop
 clear hc
 have y0 := c0 W0 (Ext.refl _); have y1 := c1 W0 (Ext.refl _); have y2 := c2 W0 (Ext.refl _)
 rw [hW0.out] at y0 y1 y2
 obtain ⟨W2, hW2⟩ : ∃ W, Hid (W = W0.alloc (.cells #[.int .i64 8, .int .i64 a, .int .i64 q] 79)) := ⟨_, rfl⟩
 have e2 : Ext W0 W2 := ka hW2
 have BX : Box W2 W0.heap.size #[.int .i64 8, .int .i64 a, .int .i64 q] 79 := kb hW2
 have hsz : W0.heap.size = w.heap.size + 1 := by rw [hW0.out]; simp
 rw [hsz] at BX
 have f0 : ∀ w', Ext W2 w' → w'.cell? ⟨w.heap.size + 1, 0, none⟩ = some (.int .i64 8) := fun w' e => BX.at 0 w' e
 have f1 : ∀ w', Ext W2 w' → w'.cell? ⟨w.heap.size + 1, 1, none⟩ = some (.int .i64 a) := fun w' e => BX.at 1 w' e
 have f2 : ∀ w', Ext W2 w' → w'.cell? ⟨w.heap.size + 1, 2, none⟩ = some (.int .i64 q) := fun w' e => BX.at 2 w' e
 have E2 := e0.trans e2
 have z0 := f0 W2 (Ext.refl _); have z1 := f1 W2 (Ext.refl _); have z2 := f2 W2 (Ext.refl _)
 rw [hW2.out, hW0.out] at z0 z1 z2
 have g0 := p0 W2 e2; have g1 := p1 W2 e2
 rw [hW2.out, hW0.out] at g0 g1
 have p02 := fun w' (e : Ext W2 w') => p0 w' (e2.trans e)
 have p12 := fun w' (e : Ext W2 w') => p1 w' (e2.trans e)
 have hjs : j < 1000000 := by omega
 clear hsz BX
 have HR : Hid (innerOk cs es (j : Int) start fin = (loopOk cs ((j : Int) - 2) && decide (start ≤ (j : Int) - 3))) := by show _ = _; unfold innerOk; rw [HI.out]; rfl
 go_enter Tryz.func197, Tryz.ntmps197
 go_wp2_with fail
 rw [← hW0.out, ← hW2.out]
 refine (CQ.out ((j : Int) - 2) _ E2 (by omega)).mono ?_; rintro _ w4 ⟨rfl, e4⟩
 have ex0 : Ext W2 w4 := e4
 cases Z0 : loopOk cs ((j : Int) - 2)
 ·go_wp2
  go_ret
  have hv : innerOk cs es (j : Int) start fin = false := by rw [HR.out, Z0]; simp
  exact ⟨by rw [hv]; rfl, E2.trans e4⟩
 by_cases T0 : start ≤ (j : Int) - 3
 ·have hv0 : decide (start ≤ (j : Int) - 3) = true := by simp; omega
  have hv : innerOk cs es (j : Int) start fin = true := by rw [HR.out, Z0, hv0]; rfl
  go_wp2
  go_ret
  exact ⟨by rw [hv]; rfl, E2.trans e4⟩
 ·have hv0 : decide (start ≤ (j : Int) - 3) = false := by simp; omega
  go_wp2
  go_ret
  have hv : innerOk cs es (j : Int) start fin = false := by rw [HR.out, Z0, hv0]; simp
  exact ⟨by rw [hv]; rfl, E2.trans e4⟩
theorem sInner_14 (Ac : Option Addr) (cs : List Ins) (cc : Nat) (Ae : Option Addr) (es : List Int) (ce : Nat) (j : Nat) (hj : j < cs.length) (start fin : Int) (w : World) (hC : RdI w Ac cs cc) (hE : Is w Ae es ce) (hel : es.length ≤ 1000000) (hs : -100000000 ≤ start ∧ start ≤ 100000000) (hf : -100000000 ≤ fin ∧ fin ≤ 100000000) (hop : cs[j].1 = 14) :
 Gives Tryz.prog 197 #[.agg #[.slice Ac cs.length cc, .slice Ae es.length ce], .int .i64 (j : Int), .int .i64 start, .int .i64 fin] w (.bool (innerOk cs es (j : Int) start fin)) := by
 have hl := hC.len; have hcp := hC.cap
 obtain ⟨W0, hW0⟩ : ∃ W, Hid (W = w.alloc (.cells #[.slice Ac cs.length cc, .slice Ae es.length ce] 55)) := ⟨_, rfl⟩
 have e0 : Ext w W0 := ka hW0
 have BP : Box W0 w.heap.size #[.slice Ac cs.length cc, .slice Ae es.length ce] 55 := kb hW0
 have p0 : ∀ w', Ext W0 w' → w'.cell? ⟨w.heap.size, 0, none⟩ = some (Value.slice Ac cs.length cc) := fun w' e => BP.at 0 w' e
 have p1 : ∀ w', Ext W0 w' → w'.cell? ⟨w.heap.size, 1, none⟩ = some (Value.slice Ae es.length ce) := fun w' e => BP.at 1 w' e
 have d0 := p0 _ (Ext.refl _); have d1 := p1 _ (Ext.refl _)
 rw [hW0.out] at d0 d1
 have CI := Lib.hid (fun x lo hi w => l1In_c x lo hi w)
 have CO := Lib.hid (fun (d o : Int) w' (e : Ext w w') (hd : -1000000000 ≤ d ∧ d ≤ 1000000000) => sIsOp_c Ac cs cc Ae es ce d o w' (hC.ext e) (hE.ext e) hd)
 have CQ := Lib.hid (fun (d : Int) w' (e : Ext w w') (hd : -100000000 ≤ d ∧ d ≤ 100000000) => sLoop_c Ac cs cc Ae es ce d w' (hC.ext e) (hE.ext e) hd)
 have HI : Hid (insAt cs (j : Int) = cs[j]) := insAt_nat hj
 obtain ⟨b, off, rfl, hb, hc⟩ := hC.at j hj
 have c0 : ∀ w', Ext W0 w' → w'.cell? ⟨b, off + j * 3, none⟩ = some (.int .i64 cs[j].1) := fun w' e => (hc w' (e0.trans e)).1
 have c1 : ∀ w', Ext W0 w' → w'.cell? ⟨b, off + j * 3 + 1, none⟩ = some (.int .i64 cs[j].2.1) := fun w' e => (hc w' (e0.trans e)).2.1
 have c2 : ∀ w', Ext W0 w' → w'.cell? ⟨b, off + j * 3 + 2, none⟩ = some (.int .i64 cs[j].2.2) := fun w' e => (hc w' (e0.trans e)).2.2
 generalize cs[j] = x at *
 obtain ⟨o, a, q⟩ := x
 dsimp only at *
 subst hop
 clear hc
 have y0 := c0 W0 (Ext.refl _); have y1 := c1 W0 (Ext.refl _); have y2 := c2 W0 (Ext.refl _)
 rw [hW0.out] at y0 y1 y2
 obtain ⟨W2, hW2⟩ : ∃ W, Hid (W = W0.alloc (.cells #[.int .i64 14, .int .i64 a, .int .i64 q] 79)) := ⟨_, rfl⟩
 have e2 : Ext W0 W2 := ka hW2
 have BX : Box W2 W0.heap.size #[.int .i64 14, .int .i64 a, .int .i64 q] 79 := kb hW2
 have hsz : W0.heap.size = w.heap.size + 1 := by rw [hW0.out]; simp
 rw [hsz] at BX
 have f0 : ∀ w', Ext W2 w' → w'.cell? ⟨w.heap.size + 1, 0, none⟩ = some (.int .i64 14) := fun w' e => BX.at 0 w' e
 have f1 : ∀ w', Ext W2 w' → w'.cell? ⟨w.heap.size + 1, 1, none⟩ = some (.int .i64 a) := fun w' e => BX.at 1 w' e
 have f2 : ∀ w', Ext W2 w' → w'.cell? ⟨w.heap.size + 1, 2, none⟩ = some (.int .i64 q) := fun w' e => BX.at 2 w' e
 have E2 := e0.trans e2
 have z0 := f0 W2 (Ext.refl _); have z1 := f1 W2 (Ext.refl _); have z2 := f2 W2 (Ext.refl _)
 rw [hW2.out, hW0.out] at z0 z1 z2
 have g0 := p0 W2 e2; have g1 := p1 W2 e2
 rw [hW2.out, hW0.out] at g0 g1
 have p02 := fun w' (e : Ext W2 w') => p0 w' (e2.trans e)
 have p12 := fun w' (e : Ext W2 w') => p1 w' (e2.trans e)
 have hjs : j < 1000000 := by omega
 clear hsz BX
 have HR : Hid (innerOk cs es (j : Int) start fin = (isOp cs ((j : Int) + 1) 9 && isOp cs ((j : Int) + 2) 15 && decide ((j : Int) + 2 < fin))) := by show _ = _; unfold innerOk; rw [HI.out]; rfl
 go_enter Tryz.func197, Tryz.ntmps197
 go_wp2_with fail
 rw [← hW0.out, ← hW2.out]
 refine (CO.out ((j : Int) + 1) 9 _ E2 (by omega)).mono ?_; rintro _ w4 ⟨rfl, e4⟩
 have ex0 : Ext W2 w4 := e4
 cases Z0 : isOp cs ((j : Int) + 1) 9
 ·go_wp2
  go_ret
  have hv : innerOk cs es (j : Int) start fin = false := by rw [HR.out, Z0]; simp
  exact ⟨by rw [hv]; rfl, E2.trans e4⟩
 go_wp2_with fail
 refine (CO.out ((j : Int) + 2) 15 _ (E2.trans e4) (by omega)).mono ?_; rintro _ w5 ⟨rfl, e5⟩
 have ex1 : Ext W2 w5 := (e4.trans e5)
 cases Z1 : isOp cs ((j : Int) + 2) 15
 ·go_wp2
  go_ret
  have hv : innerOk cs es (j : Int) start fin = false := by rw [HR.out, Z0, Z1]; simp
  exact ⟨by rw [hv]; rfl, E2.trans (e4.trans e5)⟩
 by_cases T0 : (j : Int) + 2 < fin
 ·have hv0 : decide ((j : Int) + 2 < fin) = true := by simp; omega
  have hv : innerOk cs es (j : Int) start fin = true := by rw [HR.out, Z0, Z1, hv0]; rfl
  go_wp2
  go_ret
  exact ⟨by rw [hv]; rfl, E2.trans (e4.trans e5)⟩
 ·have hv0 : decide ((j : Int) + 2 < fin) = false := by simp; omega
  go_wp2
  go_ret
  have hv : innerOk cs es (j : Int) start fin = false := by rw [HR.out, Z0, Z1, hv0]; simp
  exact ⟨by rw [hv]; rfl, E2.trans (e4.trans e5)⟩
theorem sInner_15 (Ac : Option Addr) (cs : List Ins) (cc : Nat) (Ae : Option Addr) (es : List Int) (ce : Nat) (j : Nat) (hj : j < cs.length) (start fin : Int) (w : World) (hC : RdI w Ac cs cc) (hE : Is w Ae es ce) (hel : es.length ≤ 1000000) (hs : -100000000 ≤ start ∧ start ≤ 100000000) (hf : -100000000 ≤ fin ∧ fin ≤ 100000000) (hop : cs[j].1 = 15) :
 Gives Tryz.prog 197 #[.agg #[.slice Ac cs.length cc, .slice Ae es.length ce], .int .i64 (j : Int), .int .i64 start, .int .i64 fin] w (.bool (innerOk cs es (j : Int) start fin)) := by
 have hl := hC.len; have hcp := hC.cap
 obtain ⟨W0, hW0⟩ : ∃ W, Hid (W = w.alloc (.cells #[.slice Ac cs.length cc, .slice Ae es.length ce] 55)) := ⟨_, rfl⟩
 have e0 : Ext w W0 := ka hW0
 have BP : Box W0 w.heap.size #[.slice Ac cs.length cc, .slice Ae es.length ce] 55 := kb hW0
 have p0 : ∀ w', Ext W0 w' → w'.cell? ⟨w.heap.size, 0, none⟩ = some (Value.slice Ac cs.length cc) := fun w' e => BP.at 0 w' e
 have p1 : ∀ w', Ext W0 w' → w'.cell? ⟨w.heap.size, 1, none⟩ = some (Value.slice Ae es.length ce) := fun w' e => BP.at 1 w' e
 have d0 := p0 _ (Ext.refl _); have d1 := p1 _ (Ext.refl _)
 rw [hW0.out] at d0 d1
 have CI := Lib.hid (fun x lo hi w => l1In_c x lo hi w)
 have CO := Lib.hid (fun (d o : Int) w' (e : Ext w w') (hd : -1000000000 ≤ d ∧ d ≤ 1000000000) => sIsOp_c Ac cs cc Ae es ce d o w' (hC.ext e) (hE.ext e) hd)
 have CQ := Lib.hid (fun (d : Int) w' (e : Ext w w') (hd : -100000000 ≤ d ∧ d ≤ 100000000) => sLoop_c Ac cs cc Ae es ce d w' (hC.ext e) (hE.ext e) hd)
 have HI : Hid (insAt cs (j : Int) = cs[j]) := insAt_nat hj
 obtain ⟨b, off, rfl, hb, hc⟩ := hC.at j hj
 have c0 : ∀ w', Ext W0 w' → w'.cell? ⟨b, off + j * 3, none⟩ = some (.int .i64 cs[j].1) := fun w' e => (hc w' (e0.trans e)).1
 have c1 : ∀ w', Ext W0 w' → w'.cell? ⟨b, off + j * 3 + 1, none⟩ = some (.int .i64 cs[j].2.1) := fun w' e => (hc w' (e0.trans e)).2.1
 have c2 : ∀ w', Ext W0 w' → w'.cell? ⟨b, off + j * 3 + 2, none⟩ = some (.int .i64 cs[j].2.2) := fun w' e => (hc w' (e0.trans e)).2.2
 generalize cs[j] = x at *
 obtain ⟨o, a, q⟩ := x
 dsimp only at *
 subst hop
 clear hc
 have y0 := c0 W0 (Ext.refl _); have y1 := c1 W0 (Ext.refl _); have y2 := c2 W0 (Ext.refl _)
 rw [hW0.out] at y0 y1 y2
 obtain ⟨W2, hW2⟩ : ∃ W, Hid (W = W0.alloc (.cells #[.int .i64 15, .int .i64 a, .int .i64 q] 79)) := ⟨_, rfl⟩
 have e2 : Ext W0 W2 := ka hW2
 have BX : Box W2 W0.heap.size #[.int .i64 15, .int .i64 a, .int .i64 q] 79 := kb hW2
 have hsz : W0.heap.size = w.heap.size + 1 := by rw [hW0.out]; simp
 rw [hsz] at BX
 have f0 : ∀ w', Ext W2 w' → w'.cell? ⟨w.heap.size + 1, 0, none⟩ = some (.int .i64 15) := fun w' e => BX.at 0 w' e
 have f1 : ∀ w', Ext W2 w' → w'.cell? ⟨w.heap.size + 1, 1, none⟩ = some (.int .i64 a) := fun w' e => BX.at 1 w' e
 have f2 : ∀ w', Ext W2 w' → w'.cell? ⟨w.heap.size + 1, 2, none⟩ = some (.int .i64 q) := fun w' e => BX.at 2 w' e
 have E2 := e0.trans e2
 have z0 := f0 W2 (Ext.refl _); have z1 := f1 W2 (Ext.refl _); have z2 := f2 W2 (Ext.refl _)
 rw [hW2.out, hW0.out] at z0 z1 z2
 have g0 := p0 W2 e2; have g1 := p1 W2 e2
 rw [hW2.out, hW0.out] at g0 g1
 have p02 := fun w' (e : Ext W2 w') => p0 w' (e2.trans e)
 have p12 := fun w' (e : Ext W2 w') => p1 w' (e2.trans e)
 have hjs : j < 1000000 := by omega
 clear hsz BX
 have HR : Hid (innerOk cs es (j : Int) start fin = (isOp cs ((j : Int) - 1) 9 && isOp cs ((j : Int) - 2) 14 && decide (start ≤ (j : Int) - 2))) := by show _ = _; unfold innerOk; rw [HI.out]; rfl
 go_enter Tryz.func197, Tryz.ntmps197
 go_wp2_with fail
 rw [← hW0.out, ← hW2.out]
 refine (CO.out ((j : Int) - 1) 9 _ E2 (by omega)).mono ?_; rintro _ w4 ⟨rfl, e4⟩
 have ex0 : Ext W2 w4 := e4
 cases Z0 : isOp cs ((j : Int) - 1) 9
 ·go_wp2
  go_ret
  have hv : innerOk cs es (j : Int) start fin = false := by rw [HR.out, Z0]; simp
  exact ⟨by rw [hv]; rfl, E2.trans e4⟩
 go_wp2_with fail
 refine (CO.out ((j : Int) - 2) 14 _ (E2.trans e4) (by omega)).mono ?_; rintro _ w5 ⟨rfl, e5⟩
 have ex1 : Ext W2 w5 := (e4.trans e5)
 cases Z1 : isOp cs ((j : Int) - 2) 14
 ·go_wp2
  go_ret
  have hv : innerOk cs es (j : Int) start fin = false := by rw [HR.out, Z0, Z1]; simp
  exact ⟨by rw [hv]; rfl, E2.trans (e4.trans e5)⟩
 by_cases T0 : start ≤ (j : Int) - 2
 ·have hv0 : decide (start ≤ (j : Int) - 2) = true := by simp; omega
  have hv : innerOk cs es (j : Int) start fin = true := by rw [HR.out, Z0, Z1, hv0]; rfl
  go_wp2
  go_ret
  exact ⟨by rw [hv]; rfl, E2.trans (e4.trans e5)⟩
 ·have hv0 : decide (start ≤ (j : Int) - 2) = false := by simp; omega
  go_wp2
  go_ret
  have hv : innerOk cs es (j : Int) start fin = false := by rw [HR.out, Z0, Z1, hv0]; simp
  exact ⟨by rw [hv]; rfl, E2.trans (e4.trans e5)⟩
theorem sInner_13 (Ac : Option Addr) (cs : List Ins) (cc : Nat) (Ae : Option Addr) (es : List Int) (ce : Nat) (j : Nat) (hj : j < cs.length) (start fin : Int) (w : World) (hC : RdI w Ac cs cc) (hE : Is w Ae es ce) (hel : es.length ≤ 1000000) (hs : -100000000 ≤ start ∧ start ≤ 100000000) (hf : -100000000 ≤ fin ∧ fin ≤ 100000000) (hop : cs[j].1 = 13) :
 Gives Tryz.prog 197 #[.agg #[.slice Ac cs.length cc, .slice Ae es.length ce], .int .i64 (j : Int), .int .i64 start, .int .i64 fin] w (.bool (innerOk cs es (j : Int) start fin)) := by
 have hl := hC.len; have hcp := hC.cap
 obtain ⟨W0, hW0⟩ : ∃ W, Hid (W = w.alloc (.cells #[.slice Ac cs.length cc, .slice Ae es.length ce] 55)) := ⟨_, rfl⟩
 have e0 : Ext w W0 := ka hW0
 have BP : Box W0 w.heap.size #[.slice Ac cs.length cc, .slice Ae es.length ce] 55 := kb hW0
 have p0 : ∀ w', Ext W0 w' → w'.cell? ⟨w.heap.size, 0, none⟩ = some (Value.slice Ac cs.length cc) := fun w' e => BP.at 0 w' e
 have p1 : ∀ w', Ext W0 w' → w'.cell? ⟨w.heap.size, 1, none⟩ = some (Value.slice Ae es.length ce) := fun w' e => BP.at 1 w' e
 have d0 := p0 _ (Ext.refl _); have d1 := p1 _ (Ext.refl _)
 rw [hW0.out] at d0 d1
 have CI := Lib.hid (fun x lo hi w => l1In_c x lo hi w)
 have CO := Lib.hid (fun (d o : Int) w' (e : Ext w w') (hd : -1000000000 ≤ d ∧ d ≤ 1000000000) => sIsOp_c Ac cs cc Ae es ce d o w' (hC.ext e) (hE.ext e) hd)
 have CQ := Lib.hid (fun (d : Int) w' (e : Ext w w') (hd : -100000000 ≤ d ∧ d ≤ 100000000) => sLoop_c Ac cs cc Ae es ce d w' (hC.ext e) (hE.ext e) hd)
 have HI : Hid (insAt cs (j : Int) = cs[j]) := insAt_nat hj
 obtain ⟨b, off, rfl, hb, hc⟩ := hC.at j hj
 have c0 : ∀ w', Ext W0 w' → w'.cell? ⟨b, off + j * 3, none⟩ = some (.int .i64 cs[j].1) := fun w' e => (hc w' (e0.trans e)).1
 have c1 : ∀ w', Ext W0 w' → w'.cell? ⟨b, off + j * 3 + 1, none⟩ = some (.int .i64 cs[j].2.1) := fun w' e => (hc w' (e0.trans e)).2.1
 have c2 : ∀ w', Ext W0 w' → w'.cell? ⟨b, off + j * 3 + 2, none⟩ = some (.int .i64 cs[j].2.2) := fun w' e => (hc w' (e0.trans e)).2.2
 generalize cs[j] = x at *
 obtain ⟨o, a, q⟩ := x
 dsimp only at *
 subst hop
 clear hc
 have y0 := c0 W0 (Ext.refl _); have y1 := c1 W0 (Ext.refl _); have y2 := c2 W0 (Ext.refl _)
 rw [hW0.out] at y0 y1 y2
 obtain ⟨W2, hW2⟩ : ∃ W, Hid (W = W0.alloc (.cells #[.int .i64 13, .int .i64 a, .int .i64 q] 79)) := ⟨_, rfl⟩
 have e2 : Ext W0 W2 := ka hW2
 have BX : Box W2 W0.heap.size #[.int .i64 13, .int .i64 a, .int .i64 q] 79 := kb hW2
 have hsz : W0.heap.size = w.heap.size + 1 := by rw [hW0.out]; simp
 rw [hsz] at BX
 have f0 : ∀ w', Ext W2 w' → w'.cell? ⟨w.heap.size + 1, 0, none⟩ = some (.int .i64 13) := fun w' e => BX.at 0 w' e
 have f1 : ∀ w', Ext W2 w' → w'.cell? ⟨w.heap.size + 1, 1, none⟩ = some (.int .i64 a) := fun w' e => BX.at 1 w' e
 have f2 : ∀ w', Ext W2 w' → w'.cell? ⟨w.heap.size + 1, 2, none⟩ = some (.int .i64 q) := fun w' e => BX.at 2 w' e
 have E2 := e0.trans e2
 have z0 := f0 W2 (Ext.refl _); have z1 := f1 W2 (Ext.refl _); have z2 := f2 W2 (Ext.refl _)
 rw [hW2.out, hW0.out] at z0 z1 z2
 have g0 := p0 W2 e2; have g1 := p1 W2 e2
 rw [hW2.out, hW0.out] at g0 g1
 have p02 := fun w' (e : Ext W2 w') => p0 w' (e2.trans e)
 have p12 := fun w' (e : Ext W2 w') => p1 w' (e2.trans e)
 have hjs : j < 1000000 := by omega
 clear hsz BX
 have HR : Hid (innerOk cs es (j : Int) start fin = (inB a ((j : Int) + 1) (fin - 1))) := by show _ = _; unfold innerOk; rw [HI.out]; rfl
 go_enter Tryz.func197, Tryz.ntmps197
 go_wp2_with fail
 rw [← hW0.out, ← hW2.out]
 refine (CI.out a ((j : Int) + 1) (fin - 1) _).mono ?_; rintro _ w4 ⟨rfl, e4⟩
 go_wp2
 go_ret
 exact ⟨by rw [HR.out]; rfl, E2.trans e4⟩
theorem sInner_11 (Ac : Option Addr) (cs : List Ins) (cc : Nat) (Ae : Option Addr) (es : List Int) (ce : Nat) (j : Nat) (hj : j < cs.length) (start fin : Int) (w : World) (hC : RdI w Ac cs cc) (hE : Is w Ae es ce) (hel : es.length ≤ 1000000) (hs : -100000000 ≤ start ∧ start ≤ 100000000) (hf : -100000000 ≤ fin ∧ fin ≤ 100000000) (hop : cs[j].1 = 11) :
 Gives Tryz.prog 197 #[.agg #[.slice Ac cs.length cc, .slice Ae es.length ce], .int .i64 (j : Int), .int .i64 start, .int .i64 fin] w (.bool (innerOk cs es (j : Int) start fin)) := by
 have hl := hC.len; have hcp := hC.cap
 obtain ⟨W0, hW0⟩ : ∃ W, Hid (W = w.alloc (.cells #[.slice Ac cs.length cc, .slice Ae es.length ce] 55)) := ⟨_, rfl⟩
 have e0 : Ext w W0 := ka hW0
 have BP : Box W0 w.heap.size #[.slice Ac cs.length cc, .slice Ae es.length ce] 55 := kb hW0
 have p0 : ∀ w', Ext W0 w' → w'.cell? ⟨w.heap.size, 0, none⟩ = some (Value.slice Ac cs.length cc) := fun w' e => BP.at 0 w' e
 have p1 : ∀ w', Ext W0 w' → w'.cell? ⟨w.heap.size, 1, none⟩ = some (Value.slice Ae es.length ce) := fun w' e => BP.at 1 w' e
 have d0 := p0 _ (Ext.refl _); have d1 := p1 _ (Ext.refl _)
 rw [hW0.out] at d0 d1
 have CI := Lib.hid (fun x lo hi w => l1In_c x lo hi w)
 have CO := Lib.hid (fun (d o : Int) w' (e : Ext w w') (hd : -1000000000 ≤ d ∧ d ≤ 1000000000) => sIsOp_c Ac cs cc Ae es ce d o w' (hC.ext e) (hE.ext e) hd)
 have CQ := Lib.hid (fun (d : Int) w' (e : Ext w w') (hd : -100000000 ≤ d ∧ d ≤ 100000000) => sLoop_c Ac cs cc Ae es ce d w' (hC.ext e) (hE.ext e) hd)
 have HI : Hid (insAt cs (j : Int) = cs[j]) := insAt_nat hj
 obtain ⟨b, off, rfl, hb, hc⟩ := hC.at j hj
 have c0 : ∀ w', Ext W0 w' → w'.cell? ⟨b, off + j * 3, none⟩ = some (.int .i64 cs[j].1) := fun w' e => (hc w' (e0.trans e)).1
 have c1 : ∀ w', Ext W0 w' → w'.cell? ⟨b, off + j * 3 + 1, none⟩ = some (.int .i64 cs[j].2.1) := fun w' e => (hc w' (e0.trans e)).2.1
 have c2 : ∀ w', Ext W0 w' → w'.cell? ⟨b, off + j * 3 + 2, none⟩ = some (.int .i64 cs[j].2.2) := fun w' e => (hc w' (e0.trans e)).2.2
 generalize cs[j] = x at *
 obtain ⟨o, a, q⟩ := x
 dsimp only at *
 subst hop
 clear hc
 have y0 := c0 W0 (Ext.refl _); have y1 := c1 W0 (Ext.refl _); have y2 := c2 W0 (Ext.refl _)
 rw [hW0.out] at y0 y1 y2
 obtain ⟨W2, hW2⟩ : ∃ W, Hid (W = W0.alloc (.cells #[.int .i64 11, .int .i64 a, .int .i64 q] 79)) := ⟨_, rfl⟩
 have e2 : Ext W0 W2 := ka hW2
 have BX : Box W2 W0.heap.size #[.int .i64 11, .int .i64 a, .int .i64 q] 79 := kb hW2
 have hsz : W0.heap.size = w.heap.size + 1 := by rw [hW0.out]; simp
 rw [hsz] at BX
 have f0 : ∀ w', Ext W2 w' → w'.cell? ⟨w.heap.size + 1, 0, none⟩ = some (.int .i64 11) := fun w' e => BX.at 0 w' e
 have f1 : ∀ w', Ext W2 w' → w'.cell? ⟨w.heap.size + 1, 1, none⟩ = some (.int .i64 a) := fun w' e => BX.at 1 w' e
 have f2 : ∀ w', Ext W2 w' → w'.cell? ⟨w.heap.size + 1, 2, none⟩ = some (.int .i64 q) := fun w' e => BX.at 2 w' e
 have E2 := e0.trans e2
 have z0 := f0 W2 (Ext.refl _); have z1 := f1 W2 (Ext.refl _); have z2 := f2 W2 (Ext.refl _)
 rw [hW2.out, hW0.out] at z0 z1 z2
 have g0 := p0 W2 e2; have g1 := p1 W2 e2
 rw [hW2.out, hW0.out] at g0 g1
 have p02 := fun w' (e : Ext W2 w') => p0 w' (e2.trans e)
 have p12 := fun w' (e : Ext W2 w') => p1 w' (e2.trans e)
 have hjs : j < 1000000 := by omega
 clear hsz BX
 have HR : Hid (innerOk cs es (j : Int) start fin = (inB q ((j : Int) + 1) (fin - 1))) := by show _ = _; unfold innerOk; rw [HI.out]; rfl
 go_enter Tryz.func197, Tryz.ntmps197
 go_wp2_with fail
 rw [← hW0.out, ← hW2.out]
 refine (CI.out q ((j : Int) + 1) (fin - 1) _).mono ?_; rintro _ w4 ⟨rfl, e4⟩
 go_wp2
 go_ret
 exact ⟨by rw [HR.out]; rfl, E2.trans e4⟩
theorem sInner_else (Ac : Option Addr) (cs : List Ins) (cc : Nat) (Ae : Option Addr) (es : List Int) (ce : Nat) (j : Nat) (hj : j < cs.length) (start fin : Int) (w : World) (hC : RdI w Ac cs cc) (hE : Is w Ae es ce) (hel : es.length ≤ 1000000) (hs : -100000000 ≤ start ∧ start ≤ 100000000) (hf : -100000000 ≤ fin ∧ fin ≤ 100000000) (hop : cs[j].1 ≠ 17 ∧ cs[j].1 ≠ 9 ∧ cs[j].1 ≠ 6 ∧ cs[j].1 ≠ 7 ∧ cs[j].1 ≠ 8 ∧ cs[j].1 ≠ 13 ∧ cs[j].1 ≠ 11 ∧ cs[j].1 ≠ 14 ∧ cs[j].1 ≠ 15) :
 Gives Tryz.prog 197 #[.agg #[.slice Ac cs.length cc, .slice Ae es.length ce], .int .i64 (j : Int), .int .i64 start, .int .i64 fin] w (.bool (innerOk cs es (j : Int) start fin)) := by
 have hl := hC.len; have hcp := hC.cap
 obtain ⟨W0, hW0⟩ : ∃ W, Hid (W = w.alloc (.cells #[.slice Ac cs.length cc, .slice Ae es.length ce] 55)) := ⟨_, rfl⟩
 have e0 : Ext w W0 := ka hW0
 have BP : Box W0 w.heap.size #[.slice Ac cs.length cc, .slice Ae es.length ce] 55 := kb hW0
 have p0 : ∀ w', Ext W0 w' → w'.cell? ⟨w.heap.size, 0, none⟩ = some (Value.slice Ac cs.length cc) := fun w' e => BP.at 0 w' e
 have p1 : ∀ w', Ext W0 w' → w'.cell? ⟨w.heap.size, 1, none⟩ = some (Value.slice Ae es.length ce) := fun w' e => BP.at 1 w' e
 have d0 := p0 _ (Ext.refl _); have d1 := p1 _ (Ext.refl _)
 rw [hW0.out] at d0 d1
 have CI := Lib.hid (fun x lo hi w => l1In_c x lo hi w)
 have CO := Lib.hid (fun (d o : Int) w' (e : Ext w w') (hd : -1000000000 ≤ d ∧ d ≤ 1000000000) => sIsOp_c Ac cs cc Ae es ce d o w' (hC.ext e) (hE.ext e) hd)
 have CQ := Lib.hid (fun (d : Int) w' (e : Ext w w') (hd : -100000000 ≤ d ∧ d ≤ 100000000) => sLoop_c Ac cs cc Ae es ce d w' (hC.ext e) (hE.ext e) hd)
 have HI : Hid (insAt cs (j : Int) = cs[j]) := insAt_nat hj
 obtain ⟨b, off, rfl, hb, hc⟩ := hC.at j hj
 have c0 : ∀ w', Ext W0 w' → w'.cell? ⟨b, off + j * 3, none⟩ = some (.int .i64 cs[j].1) := fun w' e => (hc w' (e0.trans e)).1
 have c1 : ∀ w', Ext W0 w' → w'.cell? ⟨b, off + j * 3 + 1, none⟩ = some (.int .i64 cs[j].2.1) := fun w' e => (hc w' (e0.trans e)).2.1
 have c2 : ∀ w', Ext W0 w' → w'.cell? ⟨b, off + j * 3 + 2, none⟩ = some (.int .i64 cs[j].2.2) := fun w' e => (hc w' (e0.trans e)).2.2
 generalize cs[j] = x at *
 obtain ⟨o, a, q⟩ := x
 dsimp only at *
 have n17 : (o == 17) = false := by simp [hop]
 have n9 : (o == 9) = false := by simp [hop]
 have n6 : (o == 6) = false := by simp [hop]
 have n7 : (o == 7) = false := by simp [hop]
 have n8 : (o == 8) = false := by simp [hop]
 have n13 : (o == 13) = false := by simp [hop]
 have n11 : (o == 11) = false := by simp [hop]
 have n14 : (o == 14) = false := by simp [hop]
 have n15 : (o == 15) = false := by simp [hop]
 clear hc
 have y0 := c0 W0 (Ext.refl _); have y1 := c1 W0 (Ext.refl _); have y2 := c2 W0 (Ext.refl _)
 rw [hW0.out] at y0 y1 y2
 obtain ⟨W2, hW2⟩ : ∃ W, Hid (W = W0.alloc (.cells #[.int .i64 o, .int .i64 a, .int .i64 q] 79)) := ⟨_, rfl⟩
 have e2 : Ext W0 W2 := ka hW2
 have BX : Box W2 W0.heap.size #[.int .i64 o, .int .i64 a, .int .i64 q] 79 := kb hW2
 have hsz : W0.heap.size = w.heap.size + 1 := by rw [hW0.out]; simp
 rw [hsz] at BX
 have f0 : ∀ w', Ext W2 w' → w'.cell? ⟨w.heap.size + 1, 0, none⟩ = some (.int .i64 o) := fun w' e => BX.at 0 w' e
 have f1 : ∀ w', Ext W2 w' → w'.cell? ⟨w.heap.size + 1, 1, none⟩ = some (.int .i64 a) := fun w' e => BX.at 1 w' e
 have f2 : ∀ w', Ext W2 w' → w'.cell? ⟨w.heap.size + 1, 2, none⟩ = some (.int .i64 q) := fun w' e => BX.at 2 w' e
 have E2 := e0.trans e2
 have z0 := f0 W2 (Ext.refl _); have z1 := f1 W2 (Ext.refl _); have z2 := f2 W2 (Ext.refl _)
 rw [hW2.out, hW0.out] at z0 z1 z2
 have g0 := p0 W2 e2; have g1 := p1 W2 e2
 rw [hW2.out, hW0.out] at g0 g1
 have p02 := fun w' (e : Ext W2 w') => p0 w' (e2.trans e)
 have p12 := fun w' (e : Ext W2 w') => p1 w' (e2.trans e)
 have hjs : j < 1000000 := by omega
 clear hsz BX
 have HR : Hid (innerOk cs es (j : Int) start fin = true) := by
  show _ = _; unfold innerOk; rw [HI.out]
  obtain ⟨h1, h2, h3, h4, h5, h6, h7, h8, h9⟩ := hop
  rw [if_neg h1, if_neg h2, if_neg h3, if_neg h4, if_neg h5, if_neg h6, if_neg h7, if_neg h8, if_neg h9]
 clear hop
 go_enter Tryz.func197, Tryz.ntmps197
 go_wp2
 go_ret
 exact ⟨by rw [HR.out]; rfl, by have := E2; rw [hW2.out, hW0.out] at this; exact this⟩
end Go.Proofs.YtpmcofmdjckijaaGreat
