/- Texts, laid into one. -/
import Derived.Test.YtpmcofmdjckijaaGreatZPb31
import Derived.WalkMore
import Derived.Test.YtpmcofmdjckijaaGreatZPb35
set_option linter.unusedVariables false
set_option linter.unusedSimpArgs false
set_option maxRecDepth 100000
set_option maxHeartbeats 16000000
namespace Go.Proofs.YtpmcofmdjckijaaGreat
open Go.RowKit Go.Sort
theorem iInside_c (Ac : Option Addr) (cs : List Ins) (cc : Nat) (Ae : Option Addr) (es : List Int) (ce : Nat) (b : Nat) (hb : b ≤ 1000000) (k t : Int) (gi gp gb : Nat) (w : World) (hC : RdI w Ac cs cc) (hE : Is w Ae es ce) (hi : ∀ w', Ext w w' → w'.cell? ⟨gi, 0, none⟩ = some (.int .i64 k)) (hp0 : ∀ w', Ext w w' → w'.cell? ⟨gp, 0, none⟩ = some (Value.slice Ac cs.length cc)) (hp1 : ∀ w', Ext w w' → w'.cell? ⟨gp, 1, none⟩ = some (Value.slice Ae es.length ce)) (hbl : ∀ w', Ext w w' → w'.cell? ⟨gb, 0, none⟩ = some (.int .i64 (b : Int))) :
 Gives Tryz.prog 173 #[.int .i64 t, .pointer (some ⟨gi, 0, none⟩), .pointer (some ⟨gp, 0, none⟩), .pointer (some ⟨gb, 0, none⟩)] w (.bool (insideI cs es b k t)) := by
 have CB := Lib.hid (fun w' (e : Ext w w') => iBlockEnd_c Ac cs cc Ae es ce b hb w' (hC.ext e) (hE.ext e))
 clear hC hE
 by_cases hk : k < t
 ·have HR : Hid (insideI cs es b k t = decide (t < endOf cs es b)) := by show _ = _; unfold insideI; rw [decide_eq_true hk]; rfl
  generalize endOf cs es b = z at *
  go_enter Tryz.func173, Tryz.ntmps173
  go_wp2_with fail
  refine (CB.out _ (Ext.refl _)).mono ?_; rintro _ w1 ⟨rfl, e1⟩
  by_cases hz : t < z
  ·have hzd : decide (t < z) = true := decide_eq_true hz
   go_wp2
   go_ret
   exact ⟨by rw [HR.out, hzd]; rfl, e1⟩
  ·have hzd : decide (t < z) = false := decide_eq_false hz
   go_wp2
   go_ret
   exact ⟨by rw [HR.out, hzd]; rfl, e1⟩
 ·have HR : Hid (insideI cs es b k t = false) := by show _ = _; unfold insideI; rw [decide_eq_false hk]; rfl
  have hkd : decide (k < t) = false := decide_eq_false hk
  go_enter Tryz.func173, Tryz.ntmps173
  go_wp2
  go_ret
  exact ⟨by rw [HR.out]; rfl, Ext.refl _⟩
theorem iSameA_c (x a : Int) (g : Nat) (w : World) (hc : ∀ w', Ext w w' → w'.cell? ⟨g, 1, none⟩ = some (.int .i64 a)) :
 Gives Tryz.prog 175 #[.int .i64 x, .pointer (some ⟨g, 0, none⟩)] w (.bool (x == a)) := by
 go_enter Tryz.func175, Tryz.ntmps175
 go_wp2
 go_ret
 exact ⟨rfl, Ext.refl _⟩
theorem iIndexI_c (A : Option Addr) (l : List Int) (c : Nat) (g : Nat) (a : Int) (w : World) (h : Is w A l c) (hc : ∀ w', Ext w w' → w'.cell? ⟨g, 1, none⟩ = some (.int .i64 a)) :
 Calls Tryz.prog 174 #[.slice A l.length c, .func (.func 175) #[] #[.pointer (some ⟨g, 0, none⟩)]] w fun e w' => ∃ r : Int, e = .returned (.int .i64 r) ∧ decide (0 ≤ r) = l.any (· == a) ∧ Ext w w' := by
 have hl := h.len
 have C := Lib.hid (fun x w' (e : Ext w w') => iSameA_c x a g w' (fun w'' e' => hc w'' (e.trans e')))
 clear hc
 go_enter Tryz.func174, Tryz.ntmps174
 go_wp2
 go_loopw [9] (fun ix wr => ∃ k : Nat, k ≤ l.length ∧ ix = .int .i64 k ∧ Hid ((l.take k).any (· == a) = false) ∧ Ext w wr) (fun ix _ => l.length - (intOf ix).toNat)
 case atStart => exact ⟨0, by omega, rfl, (by show _ = _; simp), Ext.refl _⟩
 case round =>
  obtain ⟨k, hk, rfl, hn, he⟩ := hrel
  by_cases hlt : k < l.length
  ·obtain ⟨b, off, rfl, hb, hcl⟩ := h.at k hlt
   have hck : ∀ w', Ext wr w' → w'.cell? ⟨b, off + k, none⟩ = some (.int .i64 l[k]) := fun w' (e : Ext wr w') => hcl w' (he.trans e)
   have HS : Hid ((l.take (k + 1)).any (· == a) = (l[k] == a)) := by show _ = _; rw [List.take_succ_eq_append_getElem hlt, List.any_append, hn.out]; simp
   have HM : Hid (l[k] ∈ l) := List.getElem_mem hlt
   generalize l[k] = y at *
   clear hcl hn
   cases kx : (y == a)
   ·have HN : Hid ((l.take (k + 1)).any (· == a) = false) := by show _ = _; rw [HS.out, kx]
    clear HS HM
    go_wp2_with fail
    refine (C.out _ _ he).mono ?_; rintro _ w1 ⟨rfl, s1⟩; rw [kx]
    go_wp2
    go_roundw
    case rel => exact ⟨k + 1, by omega, by go_num, HN.out, he.trans s1⟩
    case measure => simp [intOf]; omega
   ·have HR : Hid (l.any (· == a) = true) := by show _ = _; rw [List.any_eq_true]; exact ⟨y, HM.out, kx⟩
    clear HS HM
    go_wp2_with fail
    refine (C.out _ _ he).mono ?_; rintro _ w1 ⟨rfl, s1⟩; rw [kx]
    go_wp2
    go_ret
    exact ⟨_, rfl, by rw [HR.out]; simp, he.trans s1⟩
  ·have HR : Hid (l.any (· == a) = false) := by show _ = _; have := hn.out; rwa [List.take_of_length_le (by omega)] at this
   clear hn
   go_wp2
   go_ret
   exact ⟨_, rfl, by rw [HR.out]; rfl, he⟩
theorem placeI_at {cs : List Ins} {es : List Int} {b j : Nat} (hj : j < cs.length) : placeI cs es b (j : Int) =
 (if cs[j].1 = 17 then false
 else if cs[j].1 = 9 then (es.take b).any (· == cs[j].2.1)
 else if cs[j].1 = 7 then loopI cs (j : Int) && insideI cs es b (j : Int) cs[j].2.1
 else if cs[j].1 = 8 then loopI cs ((j : Int) - 2)
 else if cs[j].1 = 6 then loopI cs ((j : Int) + 1)
 else if cs[j].1 = 13 then insideI cs es b (j : Int) cs[j].2.1
 else if cs[j].1 = 11 then insideI cs es b (j : Int) cs[j].2.2
 else if cs[j].1 = 14 then markI cs (j : Int)
 else if cs[j].1 = 15 then markI cs ((j : Int) - 2)
 else true) := by
 unfold placeI
 dsimp only
 rw [insAt_nat hj]
theorem iPlace_c (Ac : Option Addr) (cs : List Ins) (cc : Nat) (Ae : Option Addr) (es : List Int) (ce : Nat) (b : Nat) (hbl : b < es.length) (j : Nat) (hj : j < cs.length) (w : World) (hC : RdI w Ac cs cc) (hE : Is w Ae es ce) (hel : es.length ≤ 1000000) :
 Gives Tryz.prog 144 #[.agg #[.slice Ac cs.length cc, .slice Ae es.length ce], .int .i64 (b : Int), .int .i64 (j : Int)] w (.bool (placeI cs es b (j : Int))) := by
 have hl := hC.len; have hcp := hC.cap; have hecp := hE.cap
 obtain ⟨W0, hW0, B0, B1, B2, e0, hsz⟩ := boxes3' w #[.slice Ac cs.length cc, .slice Ae es.length ce] #[.int .i64 (b : Int)] #[.int .i64 (j : Int)] 55 3 3
 have p0 : ∀ w', Ext W0 w' → w'.cell? ⟨w.heap.size, 0, none⟩ = some (Value.slice Ac cs.length cc) := fun w' e => B0.at 0 w' e
 have p1 : ∀ w', Ext W0 w' → w'.cell? ⟨w.heap.size, 1, none⟩ = some (Value.slice Ae es.length ce) := fun w' e => B0.at 1 w' e
 have pb : ∀ w', Ext W0 w' → w'.cell? ⟨w.heap.size + 1, 0, none⟩ = some (.int .i64 (b : Int)) := fun w' e => B1.at 0 w' e
 have pk : ∀ w', Ext W0 w' → w'.cell? ⟨w.heap.size + 1 + 1, 0, none⟩ = some (.int .i64 (j : Int)) := fun w' e => B2.at 0 w' e
 have HR := Lib.hid (placeI_at (es := es) (b := b) hj)
 obtain ⟨g, off, hAc, _, hcc⟩ := hC.at j hj
 have c0 : ∀ w', Ext W0 w' → w'.cell? ⟨g, off + j * 3, none⟩ = some (.int .i64 cs[j].1) := fun w' e => (hcc w' (e0.trans e)).1
 have c1 : ∀ w', Ext W0 w' → w'.cell? ⟨g, off + j * 3 + 1, none⟩ = some (.int .i64 cs[j].2.1) := fun w' e => (hcc w' (e0.trans e)).2.1
 have c2 : ∀ w', Ext W0 w' → w'.cell? ⟨g, off + j * 3 + 2, none⟩ = some (.int .i64 cs[j].2.2) := fun w' e => (hcc w' (e0.trans e)).2.2
 have CL := Lib.hid (fun (d : Int) w' (e : Ext w w') (hd : -100000000 ≤ d ∧ d ≤ 100000000) => iLoop_c Ac cs cc Ae es ce d w' (hC.ext e) (hE.ext e) hd)
 have CM := Lib.hid (fun (d : Int) w' (e : Ext w w') (hd : -100000000 ≤ d ∧ d ≤ 100000000) => iMark_c Ac cs cc Ae es ce d w' (hC.ext e) (hE.ext e) hd)
 have CN := Lib.hid (fun (t : Int) w' (e : Ext W0 w') => iInside_c Ac cs cc Ae es ce b (by omega) (j : Int) t (w.heap.size + 1 + 1) w.heap.size (w.heap.size + 1) w' (hC.ext (e0.trans e)) (hE.ext (e0.trans e)) (fun w'' e' => pk w'' (e.trans e')) (fun w'' e' => p0 w'' (e.trans e')) (fun w'' e' => p1 w'' (e.trans e')) (fun w'' e' => pb w'' (e.trans e')))
 have hlt : (es.take b).length = b := by rw [List.length_take]; omega
 have CX := Lib.hid (fun (q : Nat) (a : Int) w' (e : Ext w w') hc => iIndexI_c Ae (es.take b) ce q a w' ((Rd.take hE b).ext e) hc)
 rw [hlt] at CX
 subst hAc
 have hji : (j : Int) < (cs.length : Int) := by omega
 have hbe : b ≤ ce := by omega
 generalize cs[j] = x at *
 obtain ⟨o, a, q⟩ := x
 dsimp only at *
 have d0 := p0 W0 (Ext.refl _); have d1 := p1 W0 (Ext.refl _); have db := pb W0 (Ext.refl _); have dk := pk W0 (Ext.refl _)
 have y0 := c0 W0 (Ext.refl _); have y1 := c1 W0 (Ext.refl _); have y2 := c2 W0 (Ext.refl _)
 clear hcc hC hE B0 B1 B2 hsz hlt hecp
 by_cases h17 : o = 17
 ·subst h17
  have HV : Hid (placeI cs es b (j : Int) = false) := HR.out
  clear HR
  obtain ⟨W2, hW2⟩ : ∃ W, Hid (W = W0.alloc (.cells #[.int .i64 17, .int .i64 a, .int .i64 q] 79)) := ⟨_, rfl⟩
  have e2 : Ext W0 W2 := ka hW2
  have BX : Box W2 W0.heap.size #[.int .i64 17, .int .i64 a, .int .i64 q] 79 := kb hW2
  have f0 : ∀ w', Ext W2 w' → w'.cell? ⟨W0.heap.size, 0, none⟩ = some (.int .i64 17) := fun w' e => BX.at 0 w' e
  have f1 : ∀ w', Ext W2 w' → w'.cell? ⟨W0.heap.size, 1, none⟩ = some (.int .i64 a) := fun w' e => BX.at 1 w' e
  have f2 : ∀ w', Ext W2 w' → w'.cell? ⟨W0.heap.size, 2, none⟩ = some (.int .i64 q) := fun w' e => BX.at 2 w' e
  have z0 := f0 W2 (Ext.refl _)
  rw [hW2.out] at z0
  go_enter Tryz.func144, Tryz.ntmps144
  go_upto_region 1 with (fail)
  rw [← hW0.out]
  clear hW0
  go_upto_region 3 with (fail)
  rw [← hW2.out]
  clear hW2 z0 BX c0 c1 c2 y0 y1 y2 d0 d1 db dk
  replace p0 := kx p0 e2
  replace p1 := kx p1 e2
  replace pb := kx pb e2
  replace pk := kx pk e2
  have EW := e0.trans e2
  go_wp2
  go_ret
  exact ⟨by rw [HV.out]; rfl, EW⟩
 by_cases h9 : o = 9
 ·subst h9
  have HV : Hid (placeI cs es b (j : Int) = (es.take b).any (· == a)) := HR.out
  clear HR
  obtain ⟨W2, hW2⟩ : ∃ W, Hid (W = W0.alloc (.cells #[.int .i64 9, .int .i64 a, .int .i64 q] 79)) := ⟨_, rfl⟩
  have e2 : Ext W0 W2 := ka hW2
  have BX : Box W2 W0.heap.size #[.int .i64 9, .int .i64 a, .int .i64 q] 79 := kb hW2
  have f0 : ∀ w', Ext W2 w' → w'.cell? ⟨W0.heap.size, 0, none⟩ = some (.int .i64 9) := fun w' e => BX.at 0 w' e
  have f1 : ∀ w', Ext W2 w' → w'.cell? ⟨W0.heap.size, 1, none⟩ = some (.int .i64 a) := fun w' e => BX.at 1 w' e
  have f2 : ∀ w', Ext W2 w' → w'.cell? ⟨W0.heap.size, 2, none⟩ = some (.int .i64 q) := fun w' e => BX.at 2 w' e
  have z0 := f0 W2 (Ext.refl _)
  rw [hW2.out] at z0
  go_enter Tryz.func144, Tryz.ntmps144
  go_upto_region 1 with (fail)
  rw [← hW0.out]
  clear hW0
  go_upto_region 3 with (fail)
  rw [← hW2.out]
  clear hW2 z0 BX c0 c1 c2 y0 y1 y2 d0 d1 db dk
  replace p0 := kx p0 e2
  replace p1 := kx p1 e2
  replace pb := kx pb e2
  replace pk := kx pk e2
  have EW := e0.trans e2
  go_wp2_with fail
  refine (CX.out _ a _ EW f1).mono ?_; rintro _ w4 ⟨r, rfl, hr, e4⟩
  have HR4 := Lib.hid hr
  clear hr
  cases hz : decide (0 ≤ r)
  ·go_wp2
   go_ret
   exact ⟨by rw [HV.out, ← HR4.out, hz]; rfl, EW.trans e4⟩
  ·go_wp2
   go_ret
   exact ⟨by rw [HV.out, ← HR4.out, hz]; rfl, EW.trans e4⟩
 by_cases h7 : o = 7
 ·subst h7
  have HV : Hid (placeI cs es b (j : Int) = (loopI cs (j : Int) && insideI cs es b (j : Int) a)) := HR.out
  clear HR
  obtain ⟨W2, hW2⟩ : ∃ W, Hid (W = W0.alloc (.cells #[.int .i64 7, .int .i64 a, .int .i64 q] 79)) := ⟨_, rfl⟩
  have e2 : Ext W0 W2 := ka hW2
  have BX : Box W2 W0.heap.size #[.int .i64 7, .int .i64 a, .int .i64 q] 79 := kb hW2
  have f0 : ∀ w', Ext W2 w' → w'.cell? ⟨W0.heap.size, 0, none⟩ = some (.int .i64 7) := fun w' e => BX.at 0 w' e
  have f1 : ∀ w', Ext W2 w' → w'.cell? ⟨W0.heap.size, 1, none⟩ = some (.int .i64 a) := fun w' e => BX.at 1 w' e
  have f2 : ∀ w', Ext W2 w' → w'.cell? ⟨W0.heap.size, 2, none⟩ = some (.int .i64 q) := fun w' e => BX.at 2 w' e
  have z0 := f0 W2 (Ext.refl _)
  rw [hW2.out] at z0
  go_enter Tryz.func144, Tryz.ntmps144
  go_upto_region 1 with (fail)
  rw [← hW0.out]
  clear hW0
  go_upto_region 3 with (fail)
  rw [← hW2.out]
  clear hW2 z0 BX c0 c1 c2 y0 y1 y2 d0 d1 db dk
  replace p0 := kx p0 e2
  replace p1 := kx p1 e2
  replace pb := kx pb e2
  replace pk := kx pk e2
  have EW := e0.trans e2
  cases hz : loopI cs (j : Int)
  ·have HZ := Lib.hid hz; clear hz
   go_wp2_with fail
   refine (CL.out (j : Int) _ EW (by omega)).mono ?_; rintro _ w4 ⟨rfl, e4⟩
   rw [HZ.out]
   go_wp2
   go_ret
   exact ⟨by rw [HV.out, HZ.out]; rfl, EW.trans e4⟩
  ·have HZ := Lib.hid hz; clear hz
   go_wp2_with fail
   refine (CL.out (j : Int) _ EW (by omega)).mono ?_; rintro _ w4 ⟨rfl, e4⟩
   rw [HZ.out]
   replace f1 := kx f1 e4
   have e24 := e2.trans e4
   go_wp2_with fail
   refine (CN.out a _ e24).mono ?_; rintro _ w5 ⟨rfl, e5⟩
   have e6 := e4.trans e5
   go_wp2
   go_ret
   exact ⟨by rw [HV.out, HZ.out]; rfl, EW.trans e6⟩
 by_cases h8 : o = 8
 ·subst h8
  have HV : Hid (placeI cs es b (j : Int) = loopI cs ((j : Int) - 2)) := HR.out
  clear HR
  obtain ⟨W2, hW2⟩ : ∃ W, Hid (W = W0.alloc (.cells #[.int .i64 8, .int .i64 a, .int .i64 q] 79)) := ⟨_, rfl⟩
  have e2 : Ext W0 W2 := ka hW2
  have BX : Box W2 W0.heap.size #[.int .i64 8, .int .i64 a, .int .i64 q] 79 := kb hW2
  have f0 : ∀ w', Ext W2 w' → w'.cell? ⟨W0.heap.size, 0, none⟩ = some (.int .i64 8) := fun w' e => BX.at 0 w' e
  have f1 : ∀ w', Ext W2 w' → w'.cell? ⟨W0.heap.size, 1, none⟩ = some (.int .i64 a) := fun w' e => BX.at 1 w' e
  have f2 : ∀ w', Ext W2 w' → w'.cell? ⟨W0.heap.size, 2, none⟩ = some (.int .i64 q) := fun w' e => BX.at 2 w' e
  have z0 := f0 W2 (Ext.refl _)
  rw [hW2.out] at z0
  go_enter Tryz.func144, Tryz.ntmps144
  go_upto_region 1 with (fail)
  rw [← hW0.out]
  clear hW0
  go_upto_region 3 with (fail)
  rw [← hW2.out]
  clear hW2 z0 BX c0 c1 c2 y0 y1 y2 d0 d1 db dk
  replace p0 := kx p0 e2
  replace p1 := kx p1 e2
  replace pb := kx pb e2
  replace pk := kx pk e2
  have EW := e0.trans e2
  go_wp2_with fail
  refine (CL.out ((j : Int) - 2) _ EW (by omega)).mono ?_; rintro _ w4 ⟨rfl, e4⟩
  go_wp2
  go_ret
  exact ⟨by rw [HV.out]; rfl, EW.trans e4⟩
 by_cases h6 : o = 6
 ·subst h6
  have HV : Hid (placeI cs es b (j : Int) = loopI cs ((j : Int) + 1)) := HR.out
  clear HR
  obtain ⟨W2, hW2⟩ : ∃ W, Hid (W = W0.alloc (.cells #[.int .i64 6, .int .i64 a, .int .i64 q] 79)) := ⟨_, rfl⟩
  have e2 : Ext W0 W2 := ka hW2
  have BX : Box W2 W0.heap.size #[.int .i64 6, .int .i64 a, .int .i64 q] 79 := kb hW2
  have f0 : ∀ w', Ext W2 w' → w'.cell? ⟨W0.heap.size, 0, none⟩ = some (.int .i64 6) := fun w' e => BX.at 0 w' e
  have f1 : ∀ w', Ext W2 w' → w'.cell? ⟨W0.heap.size, 1, none⟩ = some (.int .i64 a) := fun w' e => BX.at 1 w' e
  have f2 : ∀ w', Ext W2 w' → w'.cell? ⟨W0.heap.size, 2, none⟩ = some (.int .i64 q) := fun w' e => BX.at 2 w' e
  have z0 := f0 W2 (Ext.refl _)
  rw [hW2.out] at z0
  go_enter Tryz.func144, Tryz.ntmps144
  go_upto_region 1 with (fail)
  rw [← hW0.out]
  clear hW0
  go_upto_region 3 with (fail)
  rw [← hW2.out]
  clear hW2 z0 BX c0 c1 c2 y0 y1 y2 d0 d1 db dk
  replace p0 := kx p0 e2
  replace p1 := kx p1 e2
  replace pb := kx pb e2
  replace pk := kx pk e2
  have EW := e0.trans e2
  go_wp2_with fail
  refine (CL.out ((j : Int) + 1) _ EW (by omega)).mono ?_; rintro _ w4 ⟨rfl, e4⟩
  go_wp2
  go_ret
  exact ⟨by rw [HV.out]; rfl, EW.trans e4⟩
 by_cases h13 : o = 13
 ·subst h13
  have HV : Hid (placeI cs es b (j : Int) = insideI cs es b (j : Int) a) := HR.out
  clear HR
  obtain ⟨W2, hW2⟩ : ∃ W, Hid (W = W0.alloc (.cells #[.int .i64 13, .int .i64 a, .int .i64 q] 79)) := ⟨_, rfl⟩
  have e2 : Ext W0 W2 := ka hW2
  have BX : Box W2 W0.heap.size #[.int .i64 13, .int .i64 a, .int .i64 q] 79 := kb hW2
  have f0 : ∀ w', Ext W2 w' → w'.cell? ⟨W0.heap.size, 0, none⟩ = some (.int .i64 13) := fun w' e => BX.at 0 w' e
  have f1 : ∀ w', Ext W2 w' → w'.cell? ⟨W0.heap.size, 1, none⟩ = some (.int .i64 a) := fun w' e => BX.at 1 w' e
  have f2 : ∀ w', Ext W2 w' → w'.cell? ⟨W0.heap.size, 2, none⟩ = some (.int .i64 q) := fun w' e => BX.at 2 w' e
  have z0 := f0 W2 (Ext.refl _)
  rw [hW2.out] at z0
  go_enter Tryz.func144, Tryz.ntmps144
  go_upto_region 1 with (fail)
  rw [← hW0.out]
  clear hW0
  go_upto_region 3 with (fail)
  rw [← hW2.out]
  clear hW2 z0 BX c0 c1 c2 y0 y1 y2 d0 d1 db dk
  replace p0 := kx p0 e2
  replace p1 := kx p1 e2
  replace pb := kx pb e2
  replace pk := kx pk e2
  have EW := e0.trans e2
  go_wp2_with fail
  refine (CN.out a _ e2).mono ?_; rintro _ w4 ⟨rfl, e4⟩
  go_wp2
  go_ret
  exact ⟨by rw [HV.out]; rfl, EW.trans e4⟩
 by_cases h11 : o = 11
 ·subst h11
  have HV : Hid (placeI cs es b (j : Int) = insideI cs es b (j : Int) q) := HR.out
  clear HR
  obtain ⟨W2, hW2⟩ : ∃ W, Hid (W = W0.alloc (.cells #[.int .i64 11, .int .i64 a, .int .i64 q] 79)) := ⟨_, rfl⟩
  have e2 : Ext W0 W2 := ka hW2
  have BX : Box W2 W0.heap.size #[.int .i64 11, .int .i64 a, .int .i64 q] 79 := kb hW2
  have f0 : ∀ w', Ext W2 w' → w'.cell? ⟨W0.heap.size, 0, none⟩ = some (.int .i64 11) := fun w' e => BX.at 0 w' e
  have f1 : ∀ w', Ext W2 w' → w'.cell? ⟨W0.heap.size, 1, none⟩ = some (.int .i64 a) := fun w' e => BX.at 1 w' e
  have f2 : ∀ w', Ext W2 w' → w'.cell? ⟨W0.heap.size, 2, none⟩ = some (.int .i64 q) := fun w' e => BX.at 2 w' e
  have z0 := f0 W2 (Ext.refl _)
  rw [hW2.out] at z0
  go_enter Tryz.func144, Tryz.ntmps144
  go_upto_region 1 with (fail)
  rw [← hW0.out]
  clear hW0
  go_upto_region 3 with (fail)
  rw [← hW2.out]
  clear hW2 z0 BX c0 c1 c2 y0 y1 y2 d0 d1 db dk
  replace p0 := kx p0 e2
  replace p1 := kx p1 e2
  replace pb := kx pb e2
  replace pk := kx pk e2
  have EW := e0.trans e2
  go_wp2_with fail
  refine (CN.out q _ e2).mono ?_; rintro _ w4 ⟨rfl, e4⟩
  go_wp2
  go_ret
  exact ⟨by rw [HV.out]; rfl, EW.trans e4⟩
 by_cases h14 : o = 14
 ·subst h14
  have HV : Hid (placeI cs es b (j : Int) = markI cs (j : Int)) := HR.out
  clear HR
  obtain ⟨W2, hW2⟩ : ∃ W, Hid (W = W0.alloc (.cells #[.int .i64 14, .int .i64 a, .int .i64 q] 79)) := ⟨_, rfl⟩
  have e2 : Ext W0 W2 := ka hW2
  have BX : Box W2 W0.heap.size #[.int .i64 14, .int .i64 a, .int .i64 q] 79 := kb hW2
  have f0 : ∀ w', Ext W2 w' → w'.cell? ⟨W0.heap.size, 0, none⟩ = some (.int .i64 14) := fun w' e => BX.at 0 w' e
  have f1 : ∀ w', Ext W2 w' → w'.cell? ⟨W0.heap.size, 1, none⟩ = some (.int .i64 a) := fun w' e => BX.at 1 w' e
  have f2 : ∀ w', Ext W2 w' → w'.cell? ⟨W0.heap.size, 2, none⟩ = some (.int .i64 q) := fun w' e => BX.at 2 w' e
  have z0 := f0 W2 (Ext.refl _)
  rw [hW2.out] at z0
  go_enter Tryz.func144, Tryz.ntmps144
  go_upto_region 1 with (fail)
  rw [← hW0.out]
  clear hW0
  go_upto_region 3 with (fail)
  rw [← hW2.out]
  clear hW2 z0 BX c0 c1 c2 y0 y1 y2 d0 d1 db dk
  replace p0 := kx p0 e2
  replace p1 := kx p1 e2
  replace pb := kx pb e2
  replace pk := kx pk e2
  have EW := e0.trans e2
  go_wp2_with fail
  refine (CM.out (j : Int) _ EW (by omega)).mono ?_; rintro _ w4 ⟨rfl, e4⟩
  go_wp2
  go_ret
  exact ⟨by rw [HV.out]; rfl, EW.trans e4⟩
 by_cases h15 : o = 15
 ·subst h15
  have HV : Hid (placeI cs es b (j : Int) = markI cs ((j : Int) - 2)) := HR.out
  clear HR
  obtain ⟨W2, hW2⟩ : ∃ W, Hid (W = W0.alloc (.cells #[.int .i64 15, .int .i64 a, .int .i64 q] 79)) := ⟨_, rfl⟩
  have e2 : Ext W0 W2 := ka hW2
  have BX : Box W2 W0.heap.size #[.int .i64 15, .int .i64 a, .int .i64 q] 79 := kb hW2
  have f0 : ∀ w', Ext W2 w' → w'.cell? ⟨W0.heap.size, 0, none⟩ = some (.int .i64 15) := fun w' e => BX.at 0 w' e
  have f1 : ∀ w', Ext W2 w' → w'.cell? ⟨W0.heap.size, 1, none⟩ = some (.int .i64 a) := fun w' e => BX.at 1 w' e
  have f2 : ∀ w', Ext W2 w' → w'.cell? ⟨W0.heap.size, 2, none⟩ = some (.int .i64 q) := fun w' e => BX.at 2 w' e
  have z0 := f0 W2 (Ext.refl _)
  rw [hW2.out] at z0
  go_enter Tryz.func144, Tryz.ntmps144
  go_upto_region 1 with (fail)
  rw [← hW0.out]
  clear hW0
  go_upto_region 3 with (fail)
  rw [← hW2.out]
  clear hW2 z0 BX c0 c1 c2 y0 y1 y2 d0 d1 db dk
  replace p0 := kx p0 e2
  replace p1 := kx p1 e2
  replace pb := kx pb e2
  replace pk := kx pk e2
  have EW := e0.trans e2
  go_wp2_with fail
  refine (CM.out ((j : Int) - 2) _ EW (by omega)).mono ?_; rintro _ w4 ⟨rfl, e4⟩
  go_wp2
  go_ret
  exact ⟨by rw [HV.out]; rfl, EW.trans e4⟩
 have n17 : (o == 17) = false := by simp [h17]
 have n9 : (o == 9) = false := by simp [h9]
 have n7 : (o == 7) = false := by simp [h7]
 have n8 : (o == 8) = false := by simp [h8]
 have n6 : (o == 6) = false := by simp [h6]
 have n13 : (o == 13) = false := by simp [h13]
 have n11 : (o == 11) = false := by simp [h11]
 have n14 : (o == 14) = false := by simp [h14]
 have n15 : (o == 15) = false := by simp [h15]
 have HV : Hid (placeI cs es b (j : Int) = true) := by show _ = _; rw [HR.out, if_neg h17, if_neg h9, if_neg h7, if_neg h8, if_neg h6, if_neg h13, if_neg h11, if_neg h14, if_neg h15]
 clear HR h17 h9 h7 h8 h6 h13 h11 h14 h15
 obtain ⟨W2, hW2⟩ : ∃ W, Hid (W = W0.alloc (.cells #[.int .i64 o, .int .i64 a, .int .i64 q] 79)) := ⟨_, rfl⟩
 have e2 : Ext W0 W2 := ka hW2
 have BX : Box W2 W0.heap.size #[.int .i64 o, .int .i64 a, .int .i64 q] 79 := kb hW2
 have f0 : ∀ w', Ext W2 w' → w'.cell? ⟨W0.heap.size, 0, none⟩ = some (.int .i64 o) := fun w' e => BX.at 0 w' e
 have f1 : ∀ w', Ext W2 w' → w'.cell? ⟨W0.heap.size, 1, none⟩ = some (.int .i64 a) := fun w' e => BX.at 1 w' e
 have f2 : ∀ w', Ext W2 w' → w'.cell? ⟨W0.heap.size, 2, none⟩ = some (.int .i64 q) := fun w' e => BX.at 2 w' e
 have z0 := f0 W2 (Ext.refl _)
 rw [hW2.out] at z0
 go_enter Tryz.func144, Tryz.ntmps144
 go_upto_region 1 with (fail)
 rw [← hW0.out]
 clear hW0
 go_upto_region 3 with (fail)
 rw [← hW2.out]
 clear hW2 z0 BX c0 c1 c2 y0 y1 y2 d0 d1 db dk
 replace p0 := kx p0 e2
 replace p1 := kx p1 e2
 replace pb := kx pb e2
 replace pk := kx pk e2
 have EW := e0.trans e2
 go_wp2
 go_ret
 exact ⟨by rw [HV.out]; rfl, EW⟩
theorem asc_step (es : List Int) {i : Nat} (hi : i + 1 < es.length) : allFrom (ascI es) (es.length - 1 - i) i = (ascI es i && allFrom (ascI es) (es.length - 1 - (i + 1)) (i + 1)) := by
 have : es.length - 1 - i = (es.length - 1 - (i + 1)) + 1 := by omega
 rw [this, allFrom]
theorem iFrame_c (Ac : Option Addr) (cs : List Ins) (cc : Nat) (Ae : Option Addr) (es : List Int) (ce : Nat) (w : World) (hC : RdI w Ac cs cc) (hE : Is w Ae es ce) (hel : es.length ≤ 1000000) :
 Gives Tryz.prog 140 #[.agg #[.slice Ac cs.length cc, .slice Ae es.length ce]] w (.bool (frameI cs es)) := by
 have hl := hC.len; have hcp := hC.cap
 obtain ⟨W0, hW0⟩ : ∃ W, Hid (W = w.alloc (.cells #[.slice Ac cs.length cc, .slice Ae es.length ce] 55)) := ⟨_, rfl⟩
 have e0 : Ext w W0 := ka hW0
 have BP : Box W0 w.heap.size #[.slice Ac cs.length cc, .slice Ae es.length ce] 55 := kb hW0
 have p0 : ∀ w', Ext W0 w' → w'.cell? ⟨w.heap.size, 0, none⟩ = some (Value.slice Ac cs.length cc) := fun w' e => BP.at 0 w' e
 have p1 : ∀ w', Ext W0 w' → w'.cell? ⟨w.heap.size, 1, none⟩ = some (Value.slice Ae es.length ce) := fun w' e => BP.at 1 w' e
 have d0 := p0 _ (Ext.refl _); have d1 := p1 _ (Ext.refl _)
 rw [hW0.out] at d0 d1
 have CO := Lib.hid (fun (d : Int) w' (e : Ext w w') => iOpAt_c Ac cs cc Ae es ce d w' (hC.ext e) (hE.ext e))
 by_cases h7 : 700 < cs.length
 ·have HR : Hid (frameI cs es = false) := by show _ = _; unfold frameI; rw [decide_eq_true (by omega : (700 : Int) < (cs.length : Int))]; rfl
  have hi7 : (700 : Int) < (cs.length : Int) := by omega
  go_enter Tryz.func140, Tryz.ntmps140
  go_wp2
  go_ret
  exact ⟨by rw [HR.out]; rfl, Ext_alloc _ (Ext.refl _)⟩
 have hd7 : decide ((700 : Int) < (cs.length : Int)) = false := decide_eq_false (by omega)
 have hd7' : decide (700 < cs.length) = false := decide_eq_false h7
 by_cases h0 : es.length = 0
 ·have HR : Hid (frameI cs es = false) := by show _ = _; unfold frameI; rw [hd7, show ((es.length : Int) == 0) = true by simp [h0]]; rfl
  have hi0 : ((es.length : Int) == 0) = true := by simp [h0]
  go_enter Tryz.func140, Tryz.ntmps140
  go_wp2
  go_ret
  exact ⟨by rw [HR.out]; rfl, Ext_alloc _ (Ext.refl _)⟩
 have hd0 : ((es.length : Int) == 0) = false := by rw [beq_eq_false_iff_ne]; omega
 obtain ⟨be, oe, hAe, hbe, hce⟩ := hE.at 0 (by omega)
 have hg0 : es.getD 0 0 = es[0]'(by omega) := by rw [List.getD_eq_getElem?_getD, List.getElem?_eq_getElem (by omega)]; rfl
 have hc0 : ∀ w', Ext W0 w' → w'.cell? ⟨be, oe, none⟩ = some (.int .i64 (es.getD 0 0)) := fun w' e => by rw [hg0]; exact hce w' (e0.trans e)
 have hc0' := hc0 W0 (Ext.refl _)
 rw [hW0.out] at hc0'
 subst hAe
 have HEAT : Hid (∀ i (hi : i < es.length) w', Ext w w' → w'.cell? ⟨be, oe + i, none⟩ = some (.int .i64 (es.getD i 0))) := fun i hi w' e => by
  obtain ⟨b', o', hb', _, hc'⟩ := hE.at i hi
  injection hb' with hb'; injection hb' with i1 i2; subst i1; subst i2
  rw [hc' w' e, List.getD_eq_getElem?_getD, List.getElem?_eq_getElem hi]; rfl
 have HFR : Hid (frameI cs es = (!(!(es.getD 0 0 == 2) || !isO cs 0 9 || !isO cs 1 17) && allFrom (ascI es) (es.length - 1) 0 && ((insAt cs 0).2.1 == es.getD (es.length - 1) 0))) := by
  show _ = _; unfold frameI; rw [hd7, hd0]; rfl
 have hepos : 0 < es.length := by omega
 have hpi : (0 : Int) < (es.length : Int) := by omega
 clear hce hg0
 generalize hz0 : es.getD 0 0 = z0 at hc0 hc0' HFR
 by_cases h2 : z0 = 2
 rotate_left
 ·have HR : Hid (frameI cs es = false) := by show _ = _; rw [HFR.out, show (z0 == 2) = false by simp [h2]]; rfl
  have hb2 : (z0 != 2) = true := by simp [h2]
  go_enter Tryz.func140, Tryz.ntmps140
  go_wp2
  go_ret
  exact ⟨by rw [HR.out]; rfl, Ext_alloc _ (Ext.refl _)⟩
 have hb2 : (z0 == 2) = true := by simp [h2]
 have hb2' : (z0 != 2) = false := by simp [h2]
 rw [hb2] at HFR
 by_cases h9 : opA cs 0 = 9
 rotate_left
 ·have HR : Hid (frameI cs es = false) := by show _ = _; rw [HFR.out]; unfold isO; rw [show (opA cs 0 == 9) = false by simp [h9]]; rfl
  generalize hy : opA cs 0 = y at *
  have HZ1 := Lib.hid hy; clear hy
  have hyb : (y != 9) = true := by simp [h9]
  go_enter Tryz.func140, Tryz.ntmps140
  go_wp2_with fail
  rw [← hW0.out]
  refine (CO.out 0 _ e0).mono ?_; rintro _ w1 ⟨rfl, e1⟩; rw [HZ1.out]
  go_wp2
  go_ret
  exact ⟨by rw [HR.out]; rfl, e0.trans e1⟩
 have HZ1 := Lib.hid h9
 by_cases h17 : opA cs 1 = 17
 rotate_left
 ·have HR : Hid (frameI cs es = false) := by show _ = _; rw [HFR.out]; unfold isO; rw [show (opA cs 1 == 17) = false by simp [h17], Bool.not_false, Bool.or_true]; rfl
  generalize hy : opA cs 1 = y at *
  have HZ2 := Lib.hid hy; clear hy
  have hyb : (y != 17) = true := by simp [h17]
  go_enter Tryz.func140, Tryz.ntmps140
  go_wp2_with fail
  rw [← hW0.out]
  refine (CO.out 0 _ e0).mono ?_; rintro _ w1 ⟨rfl, e1⟩; rw [HZ1.out]
  have y0 := p0 w1 e1; have y1 := p1 w1 e1
  go_wp2_with fail
  refine (CO.out 1 _ (e0.trans e1)).mono ?_; rintro _ w2 ⟨rfl, e2⟩; rw [HZ2.out]
  go_wp2
  go_ret
  exact ⟨by rw [HR.out]; rfl, (e0.trans e1).trans e2⟩
 have HZ2 := Lib.hid h17
 have HV : Hid ((allFrom (ascI es) (es.length - 1 - 0) 0 && ((insAt cs 0).2.1 == es.getD (es.length - 1) 0)) = frameI cs es) := by
  show _ = _; rw [HFR.out]; unfold isO; rw [h9, h17]; rfl
 obtain ⟨j0, hj0, hj0e⟩ := isO_in (cs := cs) (k := 0) (op := 9) (by unfold isO; rw [h9]; rfl) (by decide)
 have hjz : j0 = 0 := by omega
 subst hjz
 obtain ⟨gc, oc, hAc, _, hcc⟩ := hC.at 0 hj0
 have hia : (insAt cs 0).2.1 = cs[0].2.1 := by unfold insAt; simp [hj0]
 have c1 : ∀ w', Ext W0 w' → w'.cell? ⟨gc, oc + 1, none⟩ = some (.int .i64 (insAt cs 0).2.1) := fun w' e => by rw [hia]; have := (hcc w' (e0.trans e)).2.1; simpa using this
 subst hAc
 have hcpos : (0 : Int) < (cs.length : Int) := by omega
 clear hcc hia hj0e HFR h9 h17 hb2 hz0
 generalize (insAt cs 0).2.1 = x at *
 go_enter Tryz.func140, Tryz.ntmps140
 go_wp2_with fail
 rw [← hW0.out]
 refine (CO.out 0 _ e0).mono ?_; rintro _ w1 ⟨rfl, e1⟩; rw [HZ1.out]
 have y0 := p0 w1 e1; have y1 := p1 w1 e1
 go_wp2_with fail
 refine (CO.out 1 _ (e0.trans e1)).mono ?_; rintro _ w2 ⟨rfl, e2⟩; rw [HZ2.out]
 have e02 := e1.trans e2
 clear y0 y1 hc0' d0 d1
 go_wp2_with fail
 go_loopw [3] (fun q wr => ∃ i : Nat, i < es.length ∧ q = .int .i64 ((i : Int) + 1) ∧ Hid ((allFrom (ascI es) (es.length - 1 - i) i && (x == es.getD (es.length - 1) 0)) = frameI cs es) ∧ Ext W0 wr) (fun q _ => es.length - (intOf q).toNat)
 case atStart => exact ⟨0, hepos, rfl, HV.out, e02⟩
 case round =>
  clear HV
  obtain ⟨i, hi, rfl, hv, he⟩ := hrel
  have EW := e0.trans he
  have q0 := fun w' (e : Ext wr w') => p0 w' (he.trans e)
  have q1 := fun w' (e : Ext wr w') => p1 w' (he.trans e)
  have q2 := fun w' (e : Ext wr w') => c1 w' (he.trans e)
  clear hc0 c1 p0 p1
  by_cases hlt : i + 1 < es.length
  ·have HS := Lib.hid (asc_step es hlt)
   have u0 : ∀ w', Ext wr w' → w'.cell? ⟨be, oe + i, none⟩ = some (.int .i64 (es.getD i 0)) := fun w' e => HEAT.out i hi w' (EW.trans e)
   have u1 : ∀ w', Ext wr w' → w'.cell? ⟨be, oe + (i + 1), none⟩ = some (.int .i64 (es.getD (i + 1) 0)) := fun w' e => HEAT.out (i + 1) hlt w' (EW.trans e)
   have HA : Hid (ascI es i = decide (es.getD i 0 < es.getD (i + 1) 0)) := rfl
   have hki : (i : Int) + 1 < (es.length : Int) := by omega
   have hiw : IntKind.i64.wrap ((i : Int) + 1 - 1) = (i : Int) := by rw [show (i : Int) + 1 - 1 = (i : Int) by omega]; exact IntWalk.i64_in _ (by omega)
   have hin : ((i : Int) + 1).toNat = i + 1 := by omega
   have hil : (i : Int) < (es.length : Int) := by omega
   have hil1 : (0 : Int) ≤ (i : Int) + 1 := by omega
   generalize es.getD i 0 = y at *
   generalize es.getD (i + 1) 0 = v at *
   by_cases hyv : v ≤ y
   ·have HF : Hid (frameI cs es = false) := by show _ = _; rw [← hv.out, HS.out, HA.out, decide_eq_false (by omega)]; rfl
    have hdv : decide (v ≤ y) = true := decide_eq_true hyv
    clear hv HS HA
    go_wp2_with fail
    refine wp_region_quiet_below (by kernel_rfl) (by kernel_rfl) ?_
    repeat (go_big_quiet_step ((fail)))
    refine wpQuiet_nil ?_
    rintro w4 ⟨⟨nq, osq⟩, hq⟩
    have ew4 := ext_of_q hq
    clear hq nq osq
    clear hiw
    go_wp2
    go_ret
    exact ⟨by rw [HF.out]; rfl, EW.trans ew4⟩
   ·have HN : Hid ((allFrom (ascI es) (es.length - 1 - (i + 1)) (i + 1) && (x == es.getD (es.length - 1) 0)) = frameI cs es) := by show _ = _; rw [← hv.out, HS.out, HA.out, decide_eq_true (by omega)]; rfl
    have hdv : decide (v ≤ y) = false := decide_eq_false hyv
    clear hv HS HA
    go_wp2_with fail
    refine wp_region_quiet_below (by kernel_rfl) (by kernel_rfl) ?_
    repeat (go_big_quiet_step ((fail)))
    refine wpQuiet_nil ?_
    rintro w4 ⟨⟨nq, osq⟩, hq⟩
    have ew4 := ext_of_q hq
    clear hq nq osq
    clear hiw
    have hi2 : (i : Int) + 2 ≤ 1000000 := by omega
    go_wp2
    go_roundw
    case rel => exact ⟨i + 1, hlt, by go_num, HN.out, he.trans ew4⟩
    case measure => simp [intOf]; omega
  ·have hie : i = es.length - 1 := by omega
   have HF : Hid (frameI cs es = (x == es.getD (es.length - 1) 0)) := by show _ = _; rw [← hv.out, show es.length - 1 - i = 0 by omega]; rfl
   have u0 : ∀ w', Ext wr w' → w'.cell? ⟨be, oe + (es.length - 1), none⟩ = some (.int .i64 (es.getD (es.length - 1) 0)) := fun w' e => HEAT.out (es.length - 1) (by omega) w' (EW.trans e)
   have hki : ¬ (i : Int) + 1 < (es.length : Int) := by omega
   have hkd : decide ((i : Int) + 1 < (es.length : Int)) = false := decide_eq_false hki
   generalize es.getD (es.length - 1) 0 = y at *
   clear hv
   go_upto_region 8 with (fail)
   have hiw : IntKind.i64.wrap ((es.length : Int) - 1) = (es.length : Int) - 1 := IntWalk.i64_in _ (by omega)
   have hin : ((es.length : Int) - 1).toNat = es.length - 1 := by omega
   have hil : (es.length : Int) - 1 < (es.length : Int) := by omega
   have hil0 : (0 : Int) ≤ (es.length : Int) - 1 := by omega
   refine wp_region_quiet_below (by kernel_rfl) (by kernel_rfl) ?_
   repeat (go_big_quiet_step ((fail)))
   refine wpQuiet_nil ?_
   rintro w4 ⟨⟨nq, osq⟩, hq⟩
   have ew4 := ext_of_q hq
   clear hq nq osq
   go_wp2
   go_ret
   exact ⟨by rw [HF.out]; rfl, EW.trans ew4⟩
def EntB (es : List Int) : Prop := ∀ b, b < es.length → -100000000 ≤ es.getD b 0 ∧ es.getD b 0 ≤ 100000000
theorem allFromI_step {p : Nat → Bool} {n k : Nat} (h : k < n) : allFrom p (n - k) k = (p k && allFrom p (n - (k + 1)) (k + 1)) := by
 have : n - k = (n - (k + 1)) + 1 := by omega
 rw [this, allFrom]
theorem rowI_step {cs : List Ins} {es : List Int} {b : Nat} {fin k : Int} (h : k < fin) : rowI cs es b (fin - k).toNat k = (placeI cs es b k && rowI cs es b (fin - (k + 1)).toNat (k + 1)) := by
 have : (fin - k).toNat = (fin - (k + 1)).toNat + 1 := by omega
 rw [this, rowI]
theorem endOf_b {cs : List Ins} {es : List Int} (h : EntB es) (hl : cs.length ≤ 1000000) (b : Nat) : -100000000 ≤ endOf cs es b ∧ endOf cs es b ≤ 100000000 := by
 unfold endOf
 split
 ·rename_i hb; exact h (b + 1) hb
 ·omega
theorem iSafe_c (Ac : Option Addr) (cs : List Ins) (cc : Nat) (Ae : Option Addr) (es : List Int) (ce : Nat) (w : World) (hC : RdI w Ac cs cc) (hE : Is w Ae es ce) (hel : es.length ≤ 1000000) (hin : EntB es) :
 Gives Tryz.prog 111 #[.agg #[.slice Ac cs.length cc, .slice Ae es.length ce]] w (.bool (safeI cs es)) := by
 have hl := hC.len; have hcp := hC.cap
 obtain ⟨W0, hW0⟩ : ∃ W, Hid (W = w.alloc (.cells #[.slice Ac cs.length cc, .slice Ae es.length ce] 55)) := ⟨_, rfl⟩
 have e0 : Ext w W0 := ka hW0
 have BP : Box W0 w.heap.size #[.slice Ac cs.length cc, .slice Ae es.length ce] 55 := kb hW0
 have p0 : ∀ w', Ext W0 w' → w'.cell? ⟨w.heap.size, 0, none⟩ = some (Value.slice Ac cs.length cc) := fun w' e => BP.at 0 w' e
 have p1 : ∀ w', Ext W0 w' → w'.cell? ⟨w.heap.size, 1, none⟩ = some (Value.slice Ae es.length ce) := fun w' e => BP.at 1 w' e
 have d0 := p0 _ (Ext.refl _); have d1 := p1 _ (Ext.refl _)
 rw [hW0.out] at d0 d1
 have CO := Lib.hid (fun (d : Int) w' (e : Ext w w') => iOpAt_c Ac cs cc Ae es ce d w' (hC.ext e) (hE.ext e))
 have CF := Lib.hid (fun w' (e : Ext w w') => iFrame_c Ac cs cc Ae es ce w' (hC.ext e) (hE.ext e) hel)
 have CI := Lib.hid (fun (k : Nat) (hk : k < cs.length) w' (e : Ext w w') => iInsOk_c Ac cs cc Ae es ce (k : Int) w' (hC.ext e) (hE.ext e) (by omega))
 have CB := Lib.hid (fun (b : Nat) (hb : b < es.length) w' (e : Ext w w') => iBlockEnd_c Ac cs cc Ae es ce b (by omega) w' (hC.ext e) (hE.ext e))
 have CP := Lib.hid (fun (b : Nat) (hb : b < es.length) (j : Nat) (hj : j < cs.length) w' (e : Ext w w') => iPlace_c Ac cs cc Ae es ce b hb j hj w' (hC.ext e) (hE.ext e) hel)
 cases hf : frameI cs es
 ·have HR : Hid (safeI cs es = false) := by show _ = _; unfold safeI; rw [hf]; rfl
  have HZ := Lib.hid hf; clear hf
  go_enter Tryz.func111, Tryz.ntmps111
  go_wp2
  go_step3
  go_wp2_with fail
  rw [← hW0.out]
  refine (CF.out _ e0).mono ?_; rintro _ w1 ⟨rfl, e1⟩; rw [HZ.out]
  go_wp2
  first | go_ret | (rw [Exit.noGoto_ret]; go_ret)
  exact ⟨by rw [HR.out]; rfl, e0.trans e1⟩
 have HZ := Lib.hid hf
 have HASC := Lib.hid (frameI_asc hf)
 have HV0 : Hid ((allFrom (fun i => insI cs (i : Int)) (cs.length - 0) 0 && allFrom (blockI cs es) (es.length - 0) 0) = safeI cs es) := by show _ = _; unfold safeI; rw [hf]; rfl
 have HEI := Lib.hid hE
 have HIN := Lib.hid hin
 have HLC := Lib.hid hl
 generalize safeI cs es = R at *
 clear hf hC hE hin
 go_enter Tryz.func111, Tryz.ntmps111
 go_wp2
 go_step3
 go_wp2_with fail
 rw [← hW0.out]
 refine (CF.out _ e0).mono ?_; rintro _ w1 ⟨rfl, e1⟩; rw [HZ.out]
 clear d0 d1 CF HZ
 go_wp2_with fail
 go_loopw [14] (fun q wr => ∃ k : Nat, k ≤ cs.length ∧ q = .int .i64 (k : Int) ∧ Hid ((allFrom (fun i => insI cs (i : Int)) (cs.length - k) k && allFrom (blockI cs es) (es.length - 0) 0) = R) ∧ Ext W0 wr) (fun q _ => cs.length - (intOf q).toNat)
 case atStart => exact ⟨0, by omega, rfl, HV0.out, e1⟩
 case round =>
  clear HV0
  obtain ⟨k, hk, rfl, hv, he⟩ := hrel
  have q0 := fun w' (e : Ext wr w') => p0 w' (he.trans e)
  have q1 := fun w' (e : Ext wr w') => p1 w' (he.trans e)
  by_cases hlt : k < cs.length
  ·have HS := Lib.hid (allFromI_step (p := fun i => insI cs (i : Int)) hlt)
   have CI1 := Lib.hid (CI.out k hlt wr (e0.trans he))
   cases hz : insI cs (k : Int)
   ·have HF : Hid (R = false) := by show _ = _; rw [← hv.out, HS.out, hz]; rfl
    rw [hz] at CI1
    clear hv HS hz
    go_wp2_with fail
    refine CI1.out.mono ?_; rintro _ w2 ⟨rfl, e2⟩
    go_wp2
    first | go_ret | (rw [Exit.noGoto_ret]; go_ret)
    exact ⟨by rw [HF.out]; rfl, (e0.trans he).trans e2⟩
   ·have HN : Hid ((allFrom (fun i => insI cs (i : Int)) (cs.length - (k + 1)) (k + 1) && allFrom (blockI cs es) (es.length - 0) 0) = R) := by show _ = _; rw [← hv.out, HS.out, hz]; rfl
    rw [hz] at CI1
    clear hv HS hz
    go_wp2_with fail
    refine CI1.out.mono ?_; rintro _ w2 ⟨rfl, e2⟩
    go_wp2
    go_roundw
    case rel => exact ⟨k + 1, by omega, by go_num, HN.out, he.trans e2⟩
    case measure => simp [intOf]; omega
  ·have HB0 : Hid (allFrom (blockI cs es) (es.length - 0) 0 = R) := by show _ = _; rw [← hv.out, show cs.length - k = 0 by omega]; rfl
   have hkd : decide ((k : Int) < (cs.length : Int)) = false := decide_eq_false (by omega)
   have hkd' : decide (k < cs.length) = false := decide_eq_false hlt
   clear hv CI
   go_wp2
   go_step3
   go_wp2_with fail
   go_loopw [4, 25] (fun s q wr => ∃ b : Nat, b ≤ es.length ∧ q = .int .i64 (b : Int) ∧ s = .bool true ∧ Hid (allFrom (blockI cs es) (es.length - b) b = R) ∧ Ext W0 wr) (fun _ q _ => es.length - (intOf q).toNat)
   case atStart => exact ⟨0, by omega, rfl, rfl, HB0.out, he⟩
   case round =>
    clear HB0 he hkd hkd' q0 q1
    obtain ⟨b, hb, rfl, rfl, hv, he⟩ := hrel
    have EW := e0.trans he
    have q0 := fun w' (e : Ext wr w') => p0 w' (he.trans e)
    have q1 := fun w' (e : Ext wr w') => p1 w' (he.trans e)
    by_cases hblt : b < es.length
    ·have HS := Lib.hid (allFromI_step (p := blockI cs es) hblt)
     obtain ⟨be, oe, hAe, hbe, hce⟩ := HEI.out.at b hblt
     have hgb : es.getD b 0 = es[b] := by rw [List.getD_eq_getElem?_getD, List.getElem?_eq_getElem hblt]; rfl
     have hc' : ∀ w', Ext wr w' → w'.cell? ⟨be, oe + b, none⟩ = some (.int .i64 (es.getD b 0)) := fun w' e => by rw [hgb]; exact hce w' (e0.trans (he.trans e))
     have hye := HASC.out b hblt
     have hfin := endOf_b HIN.out HLC.out b
     have HBK : Hid (blockI cs es b = (isO cs (endOf cs es b - 1) 10 && rowI cs es b (endOf cs es b - es.getD b 0).toNat (es.getD b 0))) := rfl
     have CB1 := Lib.hid (CB.out b hblt wr EW)
     have CP1 := Lib.hid (CP.out b hblt)
     subst hAe
     clear hce hgb
     generalize es.getD b 0 = y at *
     generalize endOf cs es b = fin at *
     have CO1 := Lib.hid (fun w' (e : Ext w w') => CO.out (fin - 1) w' e)
     cases hz : isO cs (fin - 1) 10
     ·have HF : Hid (R = false) := by show _ = _; rw [← hv.out, HS.out, HBK.out, hz]; rfl
      have hzb : (opA cs (fin - 1) != 10) = true := by unfold isO at hz; simpa using hz
      clear hv HS HBK hz
      generalize opA cs (fin - 1) = v at *
      go_wp2_with fail
      refine CB1.out.mono ?_; rintro _ w2 ⟨rfl, e2⟩
      go_wp2_with fail
      refine (CO1.out _ (EW.trans e2)).mono ?_; rintro _ w3 ⟨rfl, e3⟩
      go_wp2
      first | go_ret | (rw [Exit.noGoto_ret]; go_ret)
      exact ⟨by rw [HF.out]; rfl, (EW.trans e2).trans e3⟩
     obtain ⟨jf, hjf, hjfe⟩ := isO_in hz (by decide)
     have hfl : fin ≤ (cs.length : Int) := by omega
     have hzb : (opA cs (fin - 1) != 10) = false := by unfold isO at hz; simpa using hz
     have HV : Hid ((rowI cs es b (fin - y).toNat y && allFrom (blockI cs es) (es.length - (b + 1)) (b + 1)) = R) := by show _ = _; rw [← hv.out, HS.out, HBK.out, hz]; rfl
     clear hv HS HBK hz hjfe
     generalize opA cs (fin - 1) = v at *
     go_wp2_with fail
     refine CB1.out.mono ?_; rintro _ w2 ⟨rfl, e2⟩
     go_wp2_with fail
     refine (CO1.out _ (EW.trans e2)).mono ?_; rintro _ w3 ⟨rfl, e3⟩
     have e23 := e2.trans e3
     clear CB1 CO1 hjf
     go_wp2_with fail
     go_loopw [4, 7] (fun s q wr3 => ∃ i : Int, y ≤ i ∧ q = .int .i64 i ∧ s = .bool true ∧ Hid ((rowI cs es b (fin - i).toNat i && allFrom (blockI cs es) (es.length - (b + 1)) (b + 1)) = R) ∧ Ext wr wr3) (fun _ q _ => (fin - intOf q).toNat)
     case atStart => exact ⟨y, by omega, rfl, rfl, HV.out, e23⟩
     case round =>
      rename_i wo
      clear HV
      obtain ⟨i, hi, rfl, rfl, hv, he3⟩ := hrel
      have q0 := fun w' (e : Ext wr w') => q0 w' (he3.trans e)
      have q1 := fun w' (e : Ext wr w') => q1 w' (he3.trans e)
      have EW3 := EW.trans he3
      by_cases hif : i < fin
      ·obtain ⟨j, rfl⟩ := Int.eq_ofNat_of_zero_le (by omega : 0 ≤ i)
       have HS := Lib.hid (rowI_step (cs := cs) (es := es) (b := b) hif)
       have CP2 := Lib.hid (CP1.out j (by omega) wr EW3)
       cases hz : placeI cs es b (j : Int)
       ·have HF : Hid (R = false) := by show _ = _; rw [← hv.out, HS.out, hz]; rfl
        rw [hz] at CP2
        clear hv HS hz
        go_wp2_with fail
        refine CP2.out.mono ?_; rintro _ w4 ⟨rfl, e4⟩
        go_wp2
        first | go_ret | (rw [Exit.noGoto_ret]; go_ret)
        exact ⟨by rw [HF.out]; rfl, EW3.trans e4⟩
       ·have HN : Hid ((rowI cs es b (fin - ((j : Int) + 1)).toNat ((j : Int) + 1) && allFrom (blockI cs es) (es.length - (b + 1)) (b + 1)) = R) := by show _ = _; rw [← hv.out, HS.out, hz]; rfl
        rw [hz] at CP2
        clear hv HS hz
        have hj30 : (j : Int) + 1 ≤ 100000000 := by omega
        go_wp2_with fail
        refine CP2.out.mono ?_; rintro _ w4 ⟨rfl, e4⟩
        go_wp2
        go_roundw
        case rel => exact ⟨(j : Int) + 1, by omega, by go_num, rfl, HN.out, he3.trans e4⟩
        case measure => simp [intOf]; omega
      ·have HN : Hid (allFrom (blockI cs es) (es.length - (b + 1)) (b + 1) = R) := by show _ = _; rw [← hv.out, show (fin - i).toNat = 0 by omega]; rfl
       have hid : decide (i < fin) = false := decide_eq_false hif
       clear hv
       go_wp2
       go_roundw
       case rel => exact ⟨b + 1, by omega, by go_num, rfl, HN.out, he.trans he3⟩
       case measure => simp [intOf]; omega
    ·have HF : Hid (R = true) := by show _ = _; rw [← hv.out, show es.length - b = 0 by omega]; rfl
     have hbd : decide ((b : Int) < (es.length : Int)) = false := decide_eq_false (by omega)
     clear hv
     go_wp2
     first | go_ret | (rw [Exit.noGoto_ret]; go_ret)
     exact ⟨by rw [HF.out]; rfl, EW⟩
end Go.Proofs.YtpmcofmdjckijaaGreat
namespace Go.Proofs.YtpmcofmdjckijaaGreat
theorem needI_len (cs : List Ins) (es : List Int) (b : Nat) (k : Int) (l : List Int) : (needI cs es b k l).length = l.length := by
 unfold needI; split <;> simp
theorem needR_len (cs : List Ins) (es : List Int) (b : Nat) : ∀ (f : Nat) (k : Int) (l : List Int), (needR cs es b f k l).length = l.length
 | 0, _, _ => rfl
 | f + 1, k, l => by rw [needR, needR_len cs es b f, needI_len]
theorem needB_len (cs : List Ins) (es : List Int) : ∀ b, (needB cs es b).length = es.length
 | 0 => by simp [needB]
 | b + 1 => by rw [needB, needR_len, needB_len cs es b]
def InM (M : Int) (l : List Int) : Prop := ∀ i, 0 ≤ l.getD i 0 ∧ l.getD i 0 ≤ M
theorem needI_in {cs : List Ins} {es : List Int} {b : Nat} {k M : Int} {l : List Int} (h : InM M l) : InM (M + 2) (needI cs es b k l) := by
 intro i
 unfold needI
 split
 ·have h1 := h i; have h2 := h b; have h3 := h (blockOf es (insAt cs k).2.1).toNat
  rw [List.getD_eq_getElem?_getD, List.getElem?_set]
  split
  ·split
   ·simp only [Option.getD_some]
    rw [Int.max_def]
    split <;> split <;> omega
   ·simp; omega
  ·rw [← List.getD_eq_getElem?_getD]; omega
 ·have := h i; omega
theorem needR_in {cs : List Ins} {es : List Int} {b : Nat} : ∀ (f : Nat) (k : Int) (l : List Int) (M : Int), InM M l → InM (M + 2 * (f : Int)) (needR cs es b f k l)
 | 0, _, l, M, h => by simpa [needR] using h
 | f + 1, k, l, M, h => by
  have := needR_in (cs := cs) (es := es) (b := b) f (k + 1) _ _ (needI_in (cs := cs) (es := es) (b := b) (k := k) h)
  rw [needR]
  have he : M + 2 + 2 * (f : Int) = M + 2 * ((f + 1 : Nat) : Int) := by omega
  rwa [he] at this
theorem needB_in {cs : List Ins} {es : List Int} (hb : ∀ b, b < es.length → endOf cs es b - es.getD b 0 ≤ 1000000) : ∀ b, b ≤ es.length → InM (2000000 * (b : Int)) (needB cs es b)
 | 0, _ => fun i => by
  simp only [needB, List.getD_eq_getElem?_getD, List.getElem?_replicate]
  split <;> simp
 | b + 1, h => by
  have h1 := needR_in (cs := cs) (es := es) (b := b) (endOf cs es b - es.getD b 0).toNat (es.getD b 0) _ _ (needB_in hb b (by omega))
  have h2 := hb b (by omega)
  intro i
  have h3 := h1 i
  rw [needB]
  omega
theorem needR_step {cs : List Ins} {es : List Int} {b : Nat} {fin k : Int} {l : List Int} (h : k < fin) : needR cs es b (fin - k).toNat k l = needR cs es b (fin - (k + 1)).toNat (k + 1) (needI cs es b k l) := by
 have : (fin - k).toNat = (fin - (k + 1)).toNat + 1 := by omega
 rw [this, needR]
theorem rowI_at {cs : List Ins} {es : List Int} {b : Nat} : ∀ {F : Nat} {k0 : Int}, rowI cs es b F k0 = true → ∀ k, k0 ≤ k → k < k0 + F → placeI cs es b k = true
 | 0, k0, _, k, h1, h2 => by omega
 | F + 1, k0, h, k, h1, h2 => by
  rw [rowI, Bool.and_eq_true] at h
  rcases Int.lt_or_eq_of_le h1 with h3 | h3
  ·exact rowI_at h.2 k (by omega) (by omega)
  ·rw [← h3]; exact h.1
theorem safeI_block {cs : List Ins} {es : List Int} (h : safeI cs es = true) (b : Nat) (hb : b < es.length) : endOf cs es b ≤ (cs.length : Int) ∧ ∀ i : Nat, es.getD b 0 ≤ (i : Int) → (i : Int) < endOf cs es b → (insAt cs (i : Int)).1 = 9 → 2 ≤ (insAt cs (i : Int)).2.1 := by
 obtain ⟨hf, _, hB⟩ := safeI_parts h
 have h1 := hB b hb
 unfold blockI at h1
 rw [Bool.and_eq_true] at h1
 obtain ⟨j, hj, hje⟩ := isO_in h1.1 (by decide)
 refine ⟨by omega, fun i h2 h3 h9 => ?_⟩
 have h4 := rowI_at h1.2 (i : Int) h2 (by omega)
 unfold placeI at h4
 dsimp only at h4
 rw [if_neg (by omega), if_pos h9, List.any_eq_true] at h4
 obtain ⟨x, hx, hxe⟩ := h4
 have hxe' : x = (insAt cs (i : Int)).2.1 := by simpa using hxe
 obtain ⟨t, ht, hte⟩ := List.getElem_of_mem hx
 rw [List.getElem_take] at hte
 have h5 := frameI_asc hf t (by rw [List.length_take] at ht; omega)
 have h6 : es.getD t 0 = x := by rw [← hte, List.getD_eq_getElem?_getD, List.getElem?_eq_getElem (by rw [List.length_take] at ht; omega)]; rfl
 rw [← hxe', ← h6]; omega
end Go.Proofs.YtpmcofmdjckijaaGreat
namespace Go.Proofs.YtpmcofmdjckijaaGreat
open Go.RowKit Go.Sort
theorem iStack_c (Ac : Option Addr) (cs : List Ins) (cc : Nat) (Ae : Option Addr) (es : List Int) (ce : Nat) (w : World) (hC : RdI w Ac cs cc) (hE : Is w Ae es ce) (hel : es.length ≤ 1000000) (hin : EntB es) (hs : safeI cs es = true) :
 Gives Tryz.prog 112 #[.agg #[.slice Ac cs.length cc, .slice Ae es.length ce]] w (.int .i64 (stackI cs es)) := by
 have hl := hC.len; have hcp := hC.cap
 obtain ⟨W0, hW0⟩ : ∃ W, Hid (W = w.alloc (.cells #[.slice Ac cs.length cc, .slice Ae es.length ce] 55)) := ⟨_, rfl⟩
 have e0 : Ext w W0 := ka hW0
 have BP : Box W0 w.heap.size #[.slice Ac cs.length cc, .slice Ae es.length ce] 55 := kb hW0
 have p0 : ∀ w', Ext W0 w' → w'.cell? ⟨w.heap.size, 0, none⟩ = some (Value.slice Ac cs.length cc) := fun w' e => BP.at 0 w' e
 have p1 : ∀ w', Ext W0 w' → w'.cell? ⟨w.heap.size, 1, none⟩ = some (Value.slice Ae es.length ce) := fun w' e => BP.at 1 w' e
 have d0 := p0 _ (Ext.refl _); have d1 := p1 _ (Ext.refl _)
 rw [hW0.out] at d0 d1
 have CB := Lib.hid (fun (x : Int) w' (e : Ext w w') => iBlockOf_c Ac cs cc Ae es ce x w' (hC.ext e) (hE.ext e) hel)
 have CN := Lib.hid (fun (b : Nat) (hb : b < es.length) w' (e : Ext w w') => iBlockEnd_c Ac cs cc Ae es ce b (by omega) w' (hC.ext e) (hE.ext e))
 have CM := Lib.hid (fun (a b : Int) w' => iMax_c a b w')
 obtain ⟨hf, _, _⟩ := safeI_parts hs
 obtain ⟨h700, h0, h2, _⟩ := frameI_facts hf
 have HASC := Lib.hid (frameI_asc hf)
 have HBL := Lib.hid (safeI_block hs)
 have HBA := Lib.hid (fun x (hx : (2 : Int) ≤ x) => blockOf_at (es := es) (x := x) h0 h2 hx)
 have HNB := Lib.hid (needB_in (cs := cs) (es := es) (fun b hb => by have h1 := (safeI_block hs b hb).1; have h3 := frameI_asc hf b hb; omega))
 have HNL := Lib.hid (needB_len cs es)
 have HF : Hid (stackI cs es = 1 + (needB cs es es.length).getD (es.length - 1) 0) := rfl
 have HCI := Lib.hid hC; have HEI := Lib.hid hE; have HIN := Lib.hid hin; have HLC := Lib.hid hl
 have h7 : cs.length ≤ 700 := h700
 generalize stackI cs es = R at *
 clear hC hE hin hs hf h2
 go_enter Tryz.func112, Tryz.ntmps112
 go_upto_region 1 with (fail)
 rw [← hW0.out]
 clear d0 d1
 go_wp2_with (first
  | (at_make; refine wpList_mk rfl _ _ _ rfl E_int W0 W0 (Ext.refl _) es.length rfl rfl (by omega) (by simp only [maxLen]; omega) ?_; intro w2 ho2 he2 _; rw [made_one _ rfl] at ho2))
 have HO2 : Hid (OwnL vint 3 W0 w2 (.slice (some ⟨W0.heap.size, 0, none⟩) es.length es.length) (needB cs es 0)) := by
  show OwnL _ _ _ _ _ _
  unfold OwnL needB
  simpa [vint] using ho2
 clear ho2
 go_loopw [14] (fun q wr => ∃ b : Nat, b ≤ es.length ∧ q = .int .i64 (b : Int) ∧ Hid (OwnL vint 3 W0 wr (.slice (some ⟨W0.heap.size, 0, none⟩) es.length es.length) (needB cs es b)) ∧ Ext W0 wr) (fun q _ => es.length - (intOf q).toNat)
 case atStart => exact ⟨0, by omega, rfl, HO2.out, he2⟩
 case round =>
  clear HO2 he2
  obtain ⟨b, hb, rfl, ho, he⟩ := hrel
  have EW := e0.trans he
  have q0 := fun w' (e : Ext wr w') => p0 w' (he.trans e)
  have q1 := fun w' (e : Ext wr w') => p1 w' (he.trans e)
  by_cases hlt : b < es.length
  ·obtain ⟨be, oe, hAe, hbe, hce⟩ := HEI.out.at b hlt
   have hgb : es.getD b 0 = es[b] := by rw [List.getD_eq_getElem?_getD, List.getElem?_eq_getElem hlt]; rfl
   have hc' : ∀ w', Ext wr w' → w'.cell? ⟨be, oe + b, none⟩ = some (.int .i64 (es.getD b 0)) := fun w' e => by rw [hgb]; exact hce w' (e0.trans (he.trans e))
   have hye := HASC.out b hlt
   have HBB := HBL.out b hlt
   have hfl := HBB.1
   have HCL := Lib.hid HBB.2
   have CN1 := Lib.hid (CN.out b hlt)
   have HV : Hid (needR cs es b (endOf cs es b - es.getD b 0).toNat (es.getD b 0) (needB cs es b) = needB cs es (b + 1)) := rfl
   have HM0 := Lib.hid (HNB.out b hb); have HL0 := Lib.hid (HNL.out b)
   subst hAe
   clear hce hgb HBB
   generalize es.getD b 0 = y at *
   generalize endOf cs es b = fin at *
   generalize needB cs es b = L0 at *
   go_wp2_with fail
   go_loopw [5] (fun q wr3 => ∃ (i : Int) (L : List Int), y ≤ i ∧ (i ≤ fin ∨ i = y) ∧ q = .int .i64 i ∧ Hid (L.length = es.length) ∧ Hid (InM (2000000 * (b : Int) + 2 * (i - y)) L) ∧ Hid (needR cs es b (fin - i).toNat i L = needB cs es (b + 1)) ∧ Hid (OwnL vint 3 W0 wr3 (.slice (some ⟨W0.heap.size, 0, none⟩) es.length es.length) L) ∧ Ext W0 wr3) (fun q _ => (fin - intOf q).toNat)
   case atStart => exact ⟨y, L0, by omega, .inr rfl, rfl, HL0.out, (by show InM _ _; have := HM0.out; simpa using this), HV.out, ho.out, he⟩
   case round =>
    clear HV HM0 HL0 ho q0 q1 hc' EW he
    obtain ⟨i, L, hi, hif0, rfl, hL, hM, hv, ho, he⟩ := hrel
    have EW := e0.trans he
    have q0 := fun w' (e : Ext wr w') => p0 w' (he.trans e)
    have q1 := fun w' (e : Ext wr w') => p1 w' (he.trans e)
    have CN2 := Lib.hid (CN1.out wr EW)
    by_cases hif : i < fin
    rotate_left
    ·have HN : Hid (L = needB cs es (b + 1)) := by show _ = _; rw [← hv.out, show (fin - i).toNat = 0 by omega]; rfl
     have hid : decide (i < fin) = false := decide_eq_false hif
     clear hv
     go_wp2_with fail
     refine CN2.out.mono ?_; rintro _ w4 ⟨rfl, e4⟩
     go_wp2
     go_roundw
     case rel => exact ⟨b + 1, by omega, by go_num, (by show OwnL _ _ _ _ _ _; rw [← HN.out]; exact ho.out.ext e4), he.trans e4⟩
     case measure => simp [intOf]; omega
    obtain ⟨j, rfl⟩ := Int.eq_ofNat_of_zero_le (by omega : 0 ≤ i)
    have hj : j < cs.length := by omega
    have hjp : j - 1 < cs.length := by omega
    have HS := Lib.hid (needR_step (cs := cs) (es := es) (b := b) (l := L) hif)
    have HMN := Lib.hid (needI_in (cs := cs) (es := es) (b := b) (k := (j : Int)) hM.out)
    have HLN : Hid ((needI cs es b (j : Int) L).length = es.length) := by show _ = _; rw [needI_len, hL.out]
    have HNI : Hid (needI cs es b (j : Int) L = if (insAt cs (j : Int)).1 = 9 then L.set b (max (L.getD b 0) ((1 + L.getD (blockOf es (insAt cs (j : Int)).2.1).toNat 0) + (if (insAt cs ((j : Int) - 1)).1 = 7 then 1 else 0))) else L) := rfl
    have HCL2 := Lib.hid (HCL.out j hi hif)
    have HI : insAt cs (j : Int) = cs[j] := insAt_nat hj
    have HIP : insAt cs ((j : Int) - 1) = cs[j - 1] := by rw [show (j : Int) - 1 = ((j - 1 : Nat) : Int) by omega]; exact insAt_nat hjp
    rw [HI] at HNI HCL2
    rw [HIP] at HNI
    obtain ⟨gc, oc, hAc, _, hcc⟩ := HCI.out.at j hj
    obtain ⟨gc', oc', hAc', _, hcp⟩ := HCI.out.at (j - 1) hjp
    rw [hAc] at hAc'; injection hAc' with hAc'; injection hAc' with i1 i2; subst i1; subst i2
    subst hAc
    have c0 : ∀ w', Ext wr w' → w'.cell? ⟨gc, oc + j * 3, none⟩ = some (.int .i64 cs[j].1) := fun w' e => (hcc w' (EW.trans e)).1
    have c1 : ∀ w', Ext wr w' → w'.cell? ⟨gc, oc + j * 3 + 1, none⟩ = some (.int .i64 cs[j].2.1) := fun w' e => (hcc w' (EW.trans e)).2.1
    have c2 : ∀ w', Ext wr w' → w'.cell? ⟨gc, oc + (j - 1) * 3, none⟩ = some (.int .i64 cs[j - 1].1) := fun w' e => (hcp w' (EW.trans e)).1
    have hji : (j : Int) < (cs.length : Int) := by omega
    have hjm : ((j : Int) - 1).toNat = j - 1 := by omega
    have hjm0 : (0 : Int) ≤ (j : Int) - 1 := by omega
    have hjm1 : (j : Int) - 1 < (cs.length : Int) := by omega
    generalize cs[j] = x at *
    generalize cs[j - 1].1 = op1 at *
    obtain ⟨o, a, z⟩ := x
    dsimp only at *
    clear hcc hcp HI HIP
    have HMI : Hid (InM 4000000000000 L) := fun i => by have := hM.out i; omega
    clear hM
    by_cases hop : o = 9
    rotate_left
    ·have HN : Hid (needI cs es b (j : Int) L = L) := by show _ = _; rw [HNI.out, if_neg hop]
     have hob : (o != 9) = true := by simp [hop]
     clear HNI HCL2
     have HV2 : Hid (needR cs es b (fin - ((j : Int) + 1)).toNat ((j : Int) + 1) L = needB cs es (b + 1)) := by show _ = _; rw [← hv.out, HS.out, HN.out]
     rw [HN.out] at HMN
     go_wp2_with fail
     refine CN2.out.mono ?_; rintro _ w4 ⟨rfl, e4⟩
     replace q0 := kx q0 e4
     replace c0 := kx c0 e4
     go_wp2
     go_roundw
     case rel => exact ⟨(j : Int) + 1, L, by omega, .inl (by omega), by go_num, hL.out, (by show InM _ _; have := HMN.out; rwa [show 2000000 * (b : Int) + 2 * ((j : Int) - y) + 2 = 2000000 * (b : Int) + 2 * ((j : Int) + 1 - y) by omega] at this), HV2.out, ho.out.ext e4, he.trans e4⟩
     case measure => simp [intOf]; omega
    subst hop
    have ha2 := HCL2.out rfl
    obtain ⟨b2, hb2, hB2, _⟩ := HBA.out a ha2
    have hln := hL.out
    have s1 : ∀ w', Ext wr w' → w'.cell? ⟨W0.heap.size, b, none⟩ = some (.int .i64 (L.getD b 0)) := fun w' e => by
     rw [OwnL.cellN (ho.out.ext e) b (by omega)]; simp [show b < L.length by omega]
    have s2 : ∀ w', Ext wr w' → w'.cell? ⟨W0.heap.size, b2, none⟩ = some (.int .i64 (L.getD b2 0)) := fun w' e => by
     rw [OwnL.cellN (ho.out.ext e) b2 (by omega)]; simp [show b2 < L.length by omega]
    have HN : Hid (needI cs es b (j : Int) L = L.set b (max (L.getD b 0) ((1 + L.getD b2 0) + (if op1 = 7 then 1 else 0)))) := by show _ = _; rw [HNI.out, if_pos rfl, hB2, Int.toNat_natCast]
    have HMB : Hid ((0 ≤ L.getD b 0 ∧ L.getD b 0 ≤ 4000000000000) ∧ 0 ≤ L.getD b2 0 ∧ L.getD b2 0 ≤ 4000000000000) := by
     have h1 := HMI.out b; have h2 := HMI.out b2
     show _ ∧ _
     omega
    have hm1 := HMB.out.1; have hm2 := HMB.out.2
    generalize L.getD b 0 = y1 at *
    generalize L.getD b2 0 = y2 at *
    have CB1 := Lib.hid (fun w' (e : Ext w w') => CB.out a w' e)
    rw [hB2] at CB1
    have hbi : (b : Int) < (es.length : Int) := by omega
    have hbi2 : (b2 : Int) < (es.length : Int) := by omega
    clear HNI HCL2 hln HMB
    by_cases h71 : op1 = 7
    ·have h7b : (op1 == 7) = true := by simp [h71]
     have HN2 : Hid (needI cs es b (j : Int) L = L.set b (max y1 (1 + y2 + 1))) := by show _ = _; rw [HN.out, if_pos h71]
     have hmx : (if y1 < 1 + y2 + 1 then 1 + y2 + 1 else y1) = max y1 (1 + y2 + 1) := by rw [Int.max_def]; split <;> split <;> omega
     have CM1 := Lib.hid (fun w' => CM.out y1 (1 + y2 + 1) w')
     rw [hmx] at CM1
     clear hmx HN
     go_wp2_with fail
     refine CN2.out.mono ?_; rintro _ w4 ⟨rfl, e4⟩
     have q04 := fun w' (e : Ext w4 w') => q0 w' (e4.trans e)
     have q14 := fun w' (e : Ext w4 w') => q1 w' (e4.trans e)
     have c04 := fun w' (e : Ext w4 w') => c0 w' (e4.trans e)
     have c14 := fun w' (e : Ext w4 w') => c1 w' (e4.trans e)
     have c24 := fun w' (e : Ext w4 w') => c2 w' (e4.trans e)
     have s14 := fun w' (e : Ext w4 w') => s1 w' (e4.trans e)
     have s24 := fun w' (e : Ext w4 w') => s2 w' (e4.trans e)
     have E4 := EW.trans e4
     have hwo : IntKind.i64.wrap (1 + y2) = 1 + y2 := IntWalk.i64_in _ (by omega)
     go_wp2_with fail
     refine wp_region_quiet_below (by kernel_rfl) (by kernel_rfl) ?_
     repeat (go_big_quiet_step ((go_at_call 145; exact Calls.regrown_of (CB1.out _ (E4.trans (Ext_regrown _ _ (Ext.refl _)))))))
     refine wpQuiet_nil ?_
     rintro w5 ⟨⟨nq, osq⟩, hq⟩
     have ew5 := ext_of_q hq
     clear hq nq osq
     clear hwo
     have e45 := e4.trans ew5
     have q05 := fun w' (e : Ext w5 w') => q0 w' (e45.trans e)
     have c25 := fun w' (e : Ext w5 w') => c2 w' (e45.trans e)
     have s15 := fun w' (e : Ext w5 w') => s1 w' (e45.trans e)
     have h12 : (1 : Int) + y2 + 1 ≤ 4000000000002 := by omega
     go_wp2_with fail
     refine (CM1.out _).mono ?_; rintro _ w6 ⟨rfl, e6⟩
     have e46 := e45.trans e6
     have HO6 := Lib.hid (ho.out.ext e46)
     have t1 := s1 w6 e46
     have tf := OwnL.freeN HO6.out b
     have HO7 := Lib.hid (OwnL.putN HO6.out b (max y1 (1 + y2 + 1)))
     have HE7 : Hid (Ext W0 (w6.setCell ⟨W0.heap.size, b, none⟩ (.int .i64 (max y1 (1 + y2 + 1))))) := (he.trans e46).setCell (p := ⟨W0.heap.size, b, none⟩) (Nat.le_refl _) _
     have HV2 : Hid (needR cs es b (fin - ((j : Int) + 1)).toNat ((j : Int) + 1) (L.set b (max y1 (1 + y2 + 1))) = needB cs es (b + 1)) := by show _ = _; rw [← hv.out, HS.out, HN2.out]
     have HL7 : Hid ((L.set b (max y1 (1 + y2 + 1))).length = es.length) := by show _ = _; rw [List.length_set]; exact hL.out
     have HM7 : Hid (InM (2000000 * (b : Int) + 2 * ((j : Int) + 1 - y)) (L.set b (max y1 (1 + y2 + 1)))) := by
      show InM _ _
      have := HMN.out
      rw [HN2.out] at this
      rwa [show 2000000 * (b : Int) + 2 * ((j : Int) - y) + 2 = 2000000 * (b : Int) + 2 * ((j : Int) + 1 - y) by omega] at this
     clear HO6 HS hv HMN
     generalize max y1 (1 + y2 + 1) = mx at *
     go_wp2
     go_roundw
     case rel => exact ⟨(j : Int) + 1, L.set b mx, by omega, .inl (by omega), by go_num, HL7.out, HM7.out, HV2.out, HO7.out, HE7.out⟩
     case measure => simp [intOf]; omega
    ·have h7b : (op1 == 7) = false := by simp [h71]
     have HN2 : Hid (needI cs es b (j : Int) L = L.set b (max y1 (1 + y2))) := by show _ = _; rw [HN.out, if_neg h71, Int.add_zero]
     have hmx : (if y1 < 1 + y2 then 1 + y2 else y1) = max y1 (1 + y2) := by rw [Int.max_def]; split <;> split <;> omega
     have CM1 := Lib.hid (fun w' => CM.out y1 (1 + y2) w')
     rw [hmx] at CM1
     clear hmx HN
     go_wp2_with fail
     refine CN2.out.mono ?_; rintro _ w4 ⟨rfl, e4⟩
     have q04 := fun w' (e : Ext w4 w') => q0 w' (e4.trans e)
     have q14 := fun w' (e : Ext w4 w') => q1 w' (e4.trans e)
     have c04 := fun w' (e : Ext w4 w') => c0 w' (e4.trans e)
     have c14 := fun w' (e : Ext w4 w') => c1 w' (e4.trans e)
     have c24 := fun w' (e : Ext w4 w') => c2 w' (e4.trans e)
     have s14 := fun w' (e : Ext w4 w') => s1 w' (e4.trans e)
     have s24 := fun w' (e : Ext w4 w') => s2 w' (e4.trans e)
     have E4 := EW.trans e4
     have hwo : IntKind.i64.wrap (1 + y2) = 1 + y2 := IntWalk.i64_in _ (by omega)
     go_wp2_with fail
     refine wp_region_quiet_below (by kernel_rfl) (by kernel_rfl) ?_
     repeat (go_big_quiet_step ((go_at_call 145; exact Calls.regrown_of (CB1.out _ (E4.trans (Ext_regrown _ _ (Ext.refl _)))))))
     refine wpQuiet_nil ?_
     rintro w5 ⟨⟨nq, osq⟩, hq⟩
     have ew5 := ext_of_q hq
     clear hq nq osq
     clear hwo
     have e45 := e4.trans ew5
     have q05 := fun w' (e : Ext w5 w') => q0 w' (e45.trans e)
     have c25 := fun w' (e : Ext w5 w') => c2 w' (e45.trans e)
     have s15 := fun w' (e : Ext w5 w') => s1 w' (e45.trans e)
     have h12 : (1 : Int) + y2 + 1 ≤ 4000000000002 := by omega
     go_wp2_with fail
     refine (CM1.out _).mono ?_; rintro _ w6 ⟨rfl, e6⟩
     have e46 := e45.trans e6
     have HO6 := Lib.hid (ho.out.ext e46)
     have t1 := s1 w6 e46
     have tf := OwnL.freeN HO6.out b
     have HO7 := Lib.hid (OwnL.putN HO6.out b (max y1 (1 + y2)))
     have HE7 : Hid (Ext W0 (w6.setCell ⟨W0.heap.size, b, none⟩ (.int .i64 (max y1 (1 + y2))))) := (he.trans e46).setCell (p := ⟨W0.heap.size, b, none⟩) (Nat.le_refl _) _
     have HV2 : Hid (needR cs es b (fin - ((j : Int) + 1)).toNat ((j : Int) + 1) (L.set b (max y1 (1 + y2))) = needB cs es (b + 1)) := by show _ = _; rw [← hv.out, HS.out, HN2.out]
     have HL7 : Hid ((L.set b (max y1 (1 + y2))).length = es.length) := by show _ = _; rw [List.length_set]; exact hL.out
     have HM7 : Hid (InM (2000000 * (b : Int) + 2 * ((j : Int) + 1 - y)) (L.set b (max y1 (1 + y2)))) := by
      show InM _ _
      have := HMN.out
      rw [HN2.out] at this
      rwa [show 2000000 * (b : Int) + 2 * ((j : Int) - y) + 2 = 2000000 * (b : Int) + 2 * ((j : Int) + 1 - y) by omega] at this
     clear HO6 HS hv HMN
     generalize max y1 (1 + y2) = mx at *
     go_wp2
     go_roundw
     case rel => exact ⟨(j : Int) + 1, L.set b mx, by omega, .inl (by omega), by go_num, HL7.out, HM7.out, HV2.out, HO7.out, HE7.out⟩
     case measure => simp [intOf]; omega
  ·obtain rfl : b = es.length := by omega
   have hln := HNL.out es.length
   have hm := HNB.out es.length (Nat.le_refl _) (es.length - 1)
   have s1 : ∀ w', Ext wr w' → w'.cell? ⟨W0.heap.size, es.length - 1, none⟩ = some (.int .i64 ((needB cs es es.length).getD (es.length - 1) 0)) := fun w' e => by
    rw [OwnL.cellN (ho.out.ext e) (es.length - 1) (by omega)]; simp [show es.length - 1 < (needB cs es es.length).length by omega]
   have hbd : decide ((es.length : Int) < (es.length : Int)) = false := by simp
   generalize (needB cs es es.length).getD (es.length - 1) 0 = y at *
   clear hln
   have hi0 : (0 : Int) ≤ (es.length : Int) - 1 := by omega
   have hi1 : (es.length : Int) - 1 < (es.length : Int) := by omega
   have hi2 : ((es.length : Int) - 1).toNat = es.length - 1 := by omega
   go_wp2
   go_ret
   exact ⟨by rw [HF.out]; rfl, EW⟩
theorem iFits_c (Ac : Option Addr) (cs : List Ins) (cc : Nat) (Ae : Option Addr) (es : List Int) (ce : Nat) (w : World) (hC : RdI w Ac cs cc) (hE : Is w Ae es ce) (hel : es.length ≤ 1000000) (hin : EntB es) :
 Gives Tryz.prog 62 #[.agg #[.slice Ac cs.length cc, .slice Ae es.length ce]] w (.bool (fitsI cs es)) := by
 obtain ⟨W0, hW0⟩ : ∃ W, Hid (W = w.alloc (.cells #[.slice Ac cs.length cc, .slice Ae es.length ce] 55)) := ⟨_, rfl⟩
 have e0 : Ext w W0 := ka hW0
 have BP : Box W0 w.heap.size #[.slice Ac cs.length cc, .slice Ae es.length ce] 55 := kb hW0
 have p0 : ∀ w', Ext W0 w' → w'.cell? ⟨w.heap.size, 0, none⟩ = some (Value.slice Ac cs.length cc) := fun w' e => BP.at 0 w' e
 have p1 : ∀ w', Ext W0 w' → w'.cell? ⟨w.heap.size, 1, none⟩ = some (Value.slice Ae es.length ce) := fun w' e => BP.at 1 w' e
 have d0 := p0 _ (Ext.refl _); have d1 := p1 _ (Ext.refl _)
 rw [hW0.out] at d0 d1
 have CS := Lib.hid (fun w' (e : Ext w w') => iSafe_c Ac cs cc Ae es ce w' (hC.ext e) (hE.ext e) hel hin)
 cases hz : safeI cs es
 ·have HR : Hid (fitsI cs es = false) := by show _ = _; unfold fitsI; rw [hz]; rfl
  rw [hz] at CS
  clear hz
  go_enter Tryz.func62, Tryz.ntmps62
  go_wp2_with fail
  rw [← hW0.out]
  refine (CS.out _ e0).mono ?_; rintro _ w1 ⟨rfl, e1⟩
  go_wp2
  go_ret
  exact ⟨by rw [HR.out]; rfl, e0.trans e1⟩
 ·have CT := Lib.hid (fun w' (e : Ext w w') => iStack_c Ac cs cc Ae es ce w' (hC.ext e) (hE.ext e) hel hin hz)
  have HR : Hid (fitsI cs es = decide (stackI cs es ≤ 60)) := by show _ = _; unfold fitsI; rw [hz]; rfl
  rw [hz] at CS
  generalize stackI cs es = y at *
  clear hz
  by_cases hy : y ≤ 60
  ·have hyd : decide (y ≤ 60) = true := decide_eq_true hy
   go_enter Tryz.func62, Tryz.ntmps62
   go_wp2_with fail
   rw [← hW0.out]
   refine (CS.out _ e0).mono ?_; rintro _ w1 ⟨rfl, e1⟩
   go_wp2_with fail
   refine (CT.out _ (e0.trans e1)).mono ?_; rintro _ w2 ⟨rfl, e2⟩
   go_wp2
   go_ret
   exact ⟨by rw [HR.out, hyd]; rfl, (e0.trans e1).trans e2⟩
  ·have hyd : decide (y ≤ 60) = false := decide_eq_false hy
   go_enter Tryz.func62, Tryz.ntmps62
   go_wp2_with fail
   rw [← hW0.out]
   refine (CS.out _ e0).mono ?_; rintro _ w1 ⟨rfl, e1⟩
   go_wp2_with fail
   refine (CT.out _ (e0.trans e1)).mono ?_; rintro _ w2 ⟨rfl, e2⟩
   go_wp2
   go_ret
   exact ⟨by rw [HR.out, hyd]; rfl, (e0.trans e1).trans e2⟩
end Go.Proofs.YtpmcofmdjckijaaGreat
