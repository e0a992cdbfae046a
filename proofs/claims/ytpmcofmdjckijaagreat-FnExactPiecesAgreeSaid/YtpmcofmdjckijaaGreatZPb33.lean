/- Texts, laid into one. -/
import Derived.Test.YtpmcofmdjckijaaGreatZPb29
set_option linter.unusedVariables false
set_option linter.unusedSimpArgs false
set_option maxRecDepth 100000
set_option maxHeartbeats 16000000
namespace Go.Proofs.YtpmcofmdjckijaaGreat
open Go.RowKit Go.Sort
theorem callOk_drop {es : List Int} {a start : Int} {k : Nat} (hk : k < es.length) : callOk es a start (es.drop k) = if es[k] < start then (if es[k] = a then true else callOk es a start (es.drop (k + 1))) else false := by
 rw [List.drop_eq_getElem_cons hk, callOk]
theorem sInner_9 (Ac : Option Addr) (cs : List Ins) (cc : Nat) (Ae : Option Addr) (es : List Int) (ce : Nat) (j : Nat) (hj : j < cs.length) (start fin : Int) (w : World) (hC : RdI w Ac cs cc) (hE : Is w Ae es ce) (hel : es.length ≤ 1000000) (hs : -100000000 ≤ start ∧ start ≤ 100000000) (hf : -100000000 ≤ fin ∧ fin ≤ 100000000) (hop : cs[j].1 = 9) :
 Gives Tryz.prog 197 #[.agg #[.slice Ac cs.length cc, .slice Ae es.length ce], .int .i64 (j : Int), .int .i64 start, .int .i64 fin] w (.bool (innerOk cs es (j : Int) start fin)) := by
 have hl := hC.len; have hcp := hC.cap
 obtain ⟨W0, hW0⟩ : ∃ W, Hid (W = w.alloc (.cells #[.slice Ac cs.length cc, .slice Ae es.length ce] 55)) := ⟨_, rfl⟩
 have e0 : Ext w W0 := ka hW0
 have BP : Box W0 w.heap.size #[.slice Ac cs.length cc, .slice Ae es.length ce] 55 := kb hW0
 have p0 : ∀ w', Ext W0 w' → w'.cell? ⟨w.heap.size, 0, none⟩ = some (Value.slice Ac cs.length cc) := fun w' e => BP.at 0 w' e
 have p1 : ∀ w', Ext W0 w' → w'.cell? ⟨w.heap.size, 1, none⟩ = some (Value.slice Ae es.length ce) := fun w' e => BP.at 1 w' e
 have d0 := p0 _ (Ext.refl _); have d1 := p1 _ (Ext.refl _)
 rw [hW0.out] at d0 d1
 have CI := Lib.hid (fun x lo hi w => l1In_c x lo hi w)
 have CO := Lib.hid (fun (d o : Int) w' (e : Ext w w') (hd : -1000000000 ≤ d ∧ d ≤ 1000000000) => sIsOp_c Ac cs cc Ae es ce d o w' (hC.ext e) (hE.ext e) hd)
 have CQ := Lib.hid (fun (d : Int) w' (e : Ext w w') (hd : -100000000 ≤ d ∧ d ≤ 100000000) => sLoop_c Ac cs cc Ae es ce d w' (hC.ext e) (hE.ext e) hd)
 have HI : Hid (insAt cs (j : Int) = cs[j]) := insAt_nat hj
 obtain ⟨b, off, rfl, hb, hc⟩ := hC.at j hj
 have c0 : ∀ w', Ext W0 w' → w'.cell? ⟨b, off + j * 3, none⟩ = some (.int .i64 cs[j].1) := fun w' e => (hc w' (e0.trans e)).1
 have c1 : ∀ w', Ext W0 w' → w'.cell? ⟨b, off + j * 3 + 1, none⟩ = some (.int .i64 cs[j].2.1) := fun w' e => (hc w' (e0.trans e)).2.1
 have c2 : ∀ w', Ext W0 w' → w'.cell? ⟨b, off + j * 3 + 2, none⟩ = some (.int .i64 cs[j].2.2) := fun w' e => (hc w' (e0.trans e)).2.2
 generalize cs[j] = x at *
 obtain ⟨o, a, q⟩ := x
 dsimp only at *
 subst hop
 clear hc
 have y0 := c0 W0 (Ext.refl _); have y1 := c1 W0 (Ext.refl _); have y2 := c2 W0 (Ext.refl _)
 rw [hW0.out] at y0 y1 y2
 obtain ⟨W2, hW2⟩ : ∃ W, Hid (W = W0.alloc (.cells #[.int .i64 9, .int .i64 a, .int .i64 q] 79)) := ⟨_, rfl⟩
 have e2 : Ext W0 W2 := ka hW2
 have BX : Box W2 W0.heap.size #[.int .i64 9, .int .i64 a, .int .i64 q] 79 := kb hW2
 have hsz : W0.heap.size = w.heap.size + 1 := by rw [hW0.out]; simp
 rw [hsz] at BX
 have f0 : ∀ w', Ext W2 w' → w'.cell? ⟨w.heap.size + 1, 0, none⟩ = some (.int .i64 9) := fun w' e => BX.at 0 w' e
 have f1 : ∀ w', Ext W2 w' → w'.cell? ⟨w.heap.size + 1, 1, none⟩ = some (.int .i64 a) := fun w' e => BX.at 1 w' e
 have f2 : ∀ w', Ext W2 w' → w'.cell? ⟨w.heap.size + 1, 2, none⟩ = some (.int .i64 q) := fun w' e => BX.at 2 w' e
 have E2 := e0.trans e2
 have z0 := f0 W2 (Ext.refl _); have z1 := f1 W2 (Ext.refl _); have z2 := f2 W2 (Ext.refl _)
 rw [hW2.out, hW0.out] at z0 z1 z2
 have g0 := p0 W2 e2; have g1 := p1 W2 e2
 rw [hW2.out, hW0.out] at g0 g1
 have p02 := fun w' (e : Ext W2 w') => p0 w' (e2.trans e)
 have p12 := fun w' (e : Ext W2 w') => p1 w' (e2.trans e)
 have hjs : j < 1000000 := by omega
 clear hsz BX
 have HR : Hid (innerOk cs es (j : Int) start fin = (callOk es a start es)) := by show _ = _; unfold innerOk; rw [HI.out]; rfl
 have HR0 : Hid (callOk es a start (es.drop 0) = innerOk cs es (j : Int) start fin) := by show _ = _; rw [HR.out, List.drop_zero]
 go_enter Tryz.func197, Tryz.ntmps197
 go_wp2_with fail
 rw [← hW0.out, ← hW2.out]
 go_loopw [10] (fun q' wr => ∃ k : Nat, k ≤ es.length ∧ q' = .int .i64 (k : Int) ∧ Hid (callOk es a start (es.drop k) = innerOk cs es (j : Int) start fin) ∧ Ext W2 wr) (fun q' _ => es.length - (intOf q').toNat)
 case atStart => exact ⟨0, by omega, rfl, HR0.out, Ext.refl _⟩
 case round =>
  clear HR HR0 d0 d1 y0 y1 y2 z0 z1 z2 g0 g1 c0 c1 c2 p0 p1 CI CO CQ
  obtain ⟨k, hk, rfl, hv, he⟩ := hrel
  by_cases hlt : k < es.length
  ·obtain ⟨be, oe, rfl, hbe, hce⟩ := hE.at k hlt
   have hc' := fun w' (e : Ext W2 w') => hce w' (E2.trans e)
   have HS := Lib.hid (callOk_drop (a := a) (start := start) hlt)
   generalize es[k] = y at *
   clear hce
   by_cases hy : y < start
   ·have HS1 : Hid (callOk es a start (es.drop k) = if y = a then true else callOk es a start (es.drop (k + 1))) := by show _ = _; rw [HS.out, if_pos hy]
    clear HS
    have q0 := fun w' (e : Ext wr w') => p12 w' (he.trans e)
    have q1 := fun w' (e : Ext wr w') => f1 w' (he.trans e)
    have q2 := fun w' (e : Ext wr w') => hc' w' (he.trans e)
    by_cases hya : y = a
    ·have HF : Hid (innerOk cs es (j : Int) start fin = true) := by show _ = _; rw [← hv.out, HS1.out, if_pos hya]
     clear hv HS1
     go_wp2_with fail
     refine wp_region_quiet_below (by kernel_rfl) (by kernel_rfl) ?_
     repeat (go_big_quiet_step ((fail)))
     refine wpQuiet_nil ?_
     rintro w5 ⟨⟨nq, osq⟩, hq⟩
     have ew5 := ext_of_q hq
     clear hq nq osq
     go_wp2
     go_ret
     exact ⟨by rw [HF.out]; rfl, E2.trans (he.trans ew5)⟩
    ·have HN : Hid (callOk es a start (es.drop (k + 1)) = innerOk cs es (j : Int) start fin) := by show _ = _; rw [← hv.out, HS1.out, if_neg hya]
     clear hv HS1
     go_wp2_with fail
     refine wp_region_quiet_below (by kernel_rfl) (by kernel_rfl) ?_
     repeat (go_big_quiet_step ((fail)))
     refine wpQuiet_nil ?_
     rintro w5 ⟨⟨nq, osq⟩, hq⟩
     have ew5 := ext_of_q hq
     clear hq nq osq
     go_wp2
     go_roundw
     case rel => exact ⟨k + 1, by omega, by go_num, HN.out, he.trans ew5⟩
     case measure => simp [intOf]; omega
   ·have HF : Hid (innerOk cs es (j : Int) start fin = false) := by show _ = _; rw [← hv.out, HS.out, if_neg hy]
    clear hv HS
    go_wp2
    go_ret
    exact ⟨by rw [HF.out]; rfl, E2.trans he⟩
  ·have HF : Hid (innerOk cs es (j : Int) start fin = false) := by show _ = _; rw [← hv.out, List.drop_eq_nil_of_le (by omega)]; rfl
   clear hv
   go_wp2
   go_ret
   exact ⟨by rw [HF.out]; rfl, E2.trans he⟩
theorem sInner_c (Ac : Option Addr) (cs : List Ins) (cc : Nat) (Ae : Option Addr) (es : List Int) (ce : Nat) (j : Nat) (hj : j < cs.length) (start fin : Int) (w : World) (hC : RdI w Ac cs cc) (hE : Is w Ae es ce) (hel : es.length ≤ 1000000) (hs : -100000000 ≤ start ∧ start ≤ 100000000) (hf : -100000000 ≤ fin ∧ fin ≤ 100000000) :
 Gives Tryz.prog 197 #[.agg #[.slice Ac cs.length cc, .slice Ae es.length ce], .int .i64 (j : Int), .int .i64 start, .int .i64 fin] w (.bool (innerOk cs es (j : Int) start fin)) := by
 by_cases h17 : cs[j].1 = 17
 ·exact sInner_17 Ac cs cc Ae es ce j hj start fin w hC hE hel hs hf h17
 by_cases h9 : cs[j].1 = 9
 ·exact sInner_9 Ac cs cc Ae es ce j hj start fin w hC hE hel hs hf h9
 by_cases h6 : cs[j].1 = 6
 ·exact sInner_6 Ac cs cc Ae es ce j hj start fin w hC hE hel hs hf h6
 by_cases h7 : cs[j].1 = 7
 ·exact sInner_7 Ac cs cc Ae es ce j hj start fin w hC hE hel hs hf h7
 by_cases h8 : cs[j].1 = 8
 ·exact sInner_8 Ac cs cc Ae es ce j hj start fin w hC hE hel hs hf h8
 by_cases h13 : cs[j].1 = 13
 ·exact sInner_13 Ac cs cc Ae es ce j hj start fin w hC hE hel hs hf h13
 by_cases h11 : cs[j].1 = 11
 ·exact sInner_11 Ac cs cc Ae es ce j hj start fin w hC hE hel hs hf h11
 by_cases h14 : cs[j].1 = 14
 ·exact sInner_14 Ac cs cc Ae es ce j hj start fin w hC hE hel hs hf h14
 by_cases h15 : cs[j].1 = 15
 ·exact sInner_15 Ac cs cc Ae es ce j hj start fin w hC hE hel hs hf h15
 exact sInner_else Ac cs cc Ae es ce j hj start fin w hC hE hel hs hf ⟨h17, h9, h6, h7, h8, h13, h11, h14, h15⟩
def EntIn (cs : List Ins) (es : List Int) : Prop := es.length ≤ 1000000 ∧ ∀ b (h : b < es.length), 0 ≤ es[b] ∧ es[b] ≤ (cs.length : Int)
theorem endOf_in {cs : List Ins} {es : List Int} (h : EntIn cs es) (b : Nat) : 0 ≤ endOf cs es b ∧ endOf cs es b ≤ (cs.length : Int) := by
 unfold endOf
 split
 ·rename_i hb
  have := h.2 (b + 1) hb
  rw [List.getD_eq_getElem?_getD, List.getElem?_eq_getElem hb]
  exact this
 ·omega
theorem rowOk_step {cs : List Ins} {es : List Int} {start fin k : Int} (h : k < fin) : rowOk cs es start fin (fin - k).toNat k = (innerOk cs es k start fin && rowOk cs es start fin (fin - (k + 1)).toNat (k + 1)) := by
 have : (fin - k).toNat = (fin - (k + 1)).toNat + 1 := by omega
 rw [this, rowOk]
theorem blockOk_eq (cs : List Ins) (es : List Int) (b : Nat) (hb : b < es.length) : blockOk cs es b = (!(decide (endOf cs es b ≤ es[b]) || !isOp cs (endOf cs es b - 1) 10) && rowOk cs es es[b] (endOf cs es b) (endOf cs es b - es[b]).toNat es[b]) := by
 have : es.getD b 0 = es[b] := by simp [hb]
 unfold blockOk; rw [this]
theorem blocks_step (cs : List Ins) (es : List Int) {b : Nat} (hb : b < es.length) : allFrom (blockOk cs es) (es.length - b) b = (blockOk cs es b && allFrom (blockOk cs es) (es.length - (b + 1)) (b + 1)) := by
 have : es.length - b = (es.length - (b + 1)) + 1 := by omega
 rw [this, allFrom]
theorem sBlocks_c (Ac : Option Addr) (cs : List Ins) (cc : Nat) (Ae : Option Addr) (es : List Int) (ce : Nat) (w : World) (hC : RdI w Ac cs cc) (hE : Is w Ae es ce) (hin : EntIn cs es) :
 Gives Tryz.prog 188 #[.agg #[.slice Ac cs.length cc, .slice Ae es.length ce]] w (.bool (blocksOk cs es)) := by
 have hl := hC.len; have hcp := hC.cap
 have hel := hin.1
 obtain ⟨W0, hW0⟩ : ∃ W, Hid (W = w.alloc (.cells #[.slice Ac cs.length cc, .slice Ae es.length ce] 55)) := ⟨_, rfl⟩
 have e0 : Ext w W0 := ka hW0
 have BP : Box W0 w.heap.size #[.slice Ac cs.length cc, .slice Ae es.length ce] 55 := kb hW0
 have p0 : ∀ w', Ext W0 w' → w'.cell? ⟨w.heap.size, 0, none⟩ = some (Value.slice Ac cs.length cc) := fun w' e => BP.at 0 w' e
 have p1 : ∀ w', Ext W0 w' → w'.cell? ⟨w.heap.size, 1, none⟩ = some (Value.slice Ae es.length ce) := fun w' e => BP.at 1 w' e
 have d0 := p0 _ (Ext.refl _); have d1 := p1 _ (Ext.refl _)
 rw [hW0.out] at d0 d1
 have CO := Lib.hid (fun (d o : Int) w' (e : Ext w w') (hd : -1000000000 ≤ d ∧ d ≤ 1000000000) => sIsOp_c Ac cs cc Ae es ce d o w' (hC.ext e) (hE.ext e) hd)
 have CN := Lib.hid (fun (j : Nat) (hj : j < cs.length) (start fin : Int) w' (e : Ext w w') hs hf => sInner_c Ac cs cc Ae es ce j hj start fin w' (hC.ext e) (hE.ext e) hel hs hf)
 have HEI := Lib.hid hE
 have HIN := Lib.hid hin
 have HB0 : Hid (allFrom (blockOk cs es) (es.length - 0) 0 = blocksOk cs es) := rfl
 clear hC hE hin hcp
 go_enter Tryz.func188, Tryz.ntmps188
 go_wp2_with fail
 rw [← hW0.out]
 go_loopw [3] (fun q wr => ∃ b : Nat, b ≤ es.length ∧ q = .int .i64 (b : Int) ∧ Hid (allFrom (blockOk cs es) (es.length - b) b = blocksOk cs es) ∧ Ext W0 wr) (fun q _ => es.length - (intOf q).toNat)
 case atStart => exact ⟨0, by omega, rfl, HB0.out, Ext.refl _⟩
 case round =>
  clear HB0 d0 d1
  obtain ⟨b, hb, rfl, hv, he⟩ := hrel
  by_cases hlt : b < es.length
  ·obtain ⟨be, oe, hAe, hbe, hce⟩ := HEI.out.at b hlt
   have hHIN := HIN.out.2 b hlt
   have hfin := endOf_in HIN.out b
   have HS := Lib.hid (blocks_step cs es hlt)
   have HBK := Lib.hid (blockOk_eq cs es b hlt)
   have HEN : Hid (endOf cs es b = if b + 1 < es.length then es.getD (b + 1) 0 else (cs.length : Int)) := rfl
   have hcn : ∀ hb1 : b + 1 < es.length, ∀ w', Ext wr w' → w'.cell? ⟨be, oe + (b + 1), none⟩ = some (.int .i64 (es.getD (b + 1) 0)) := fun hb1 w' e => by
    obtain ⟨be', oe', hAe', _, hce'⟩ := HEI.out.at (b + 1) hb1
    rw [hAe] at hAe'; injection hAe' with hAe'; injection hAe' with i1 i2; subst i1; subst i2
    have := hce' w' (e0.trans (he.trans e))
    rw [this]; simp [hb1]; rfl
   have HCN := Lib.hid hcn
   clear hcn
   subst hAe
   have hc' : ∀ w', Ext wr w' → w'.cell? ⟨be, oe + b, none⟩ = some (.int .i64 es[b]) := fun w' e => hce w' (e0.trans (he.trans e))
   have q0 := fun w' (e : Ext wr w') => p0 w' (he.trans e)
   have q1 := fun w' (e : Ext wr w') => p1 w' (he.trans e)
   generalize es[b] = y at *
   generalize endOf cs es b = fin at *
   clear hce
   go_upto_if 21 with (fail)
   go_cut [4] from 22 to 27 (fun s4 wx => s4 = .int .i64 fin ∧ Ext wr wx)
   case first =>
    by_cases hb1 : b + 1 < es.length
    ·have hcx := HCN.out hb1
     have HF : Hid (fin = es.getD (b + 1) 0) := by show _ = _; rw [HEN.out, if_pos hb1]
     generalize es.getD (b + 1) 0 = z at *
     have hbi : (b : Int) + 1 < (es.length : Int) := by omega
     have hbn : ((b : Int) + 1).toNat = b + 1 := by omega
     go_wp2
     go_meet
     exact ⟨by rw [HF.out], Ext.refl _⟩
    ·have HF : Hid (fin = (cs.length : Int)) := by show _ = _; rw [HEN.out, if_neg hb1]
     have hbi : ¬ (b : Int) + 1 < (es.length : Int) := by omega
     go_wp2
     go_meet
     exact ⟨by rw [HF.out], Ext.refl _⟩
   case rest =>
    obtain ⟨rfl, hwc⟩ := hcut
    clear HCN HEN
    have q0 := fun w' (e : Ext wc w') => q0 w' (hwc.trans e)
    have q1 := fun w' (e : Ext wc w') => q1 w' (hwc.trans e)
    have hc' := fun w' (e : Ext wc w') => hc' w' (hwc.trans e)
    have EW : Ext w wc := e0.trans (he.trans hwc)
    by_cases hge : fin ≤ y
    ·have HF : Hid (blocksOk cs es = false) := by show _ = _; rw [← hv.out, HS.out, HBK.out, decide_eq_true hge]; rfl
     clear hv HS HBK
     go_wp2
     go_ret
     exact ⟨by rw [HF.out]; rfl, EW⟩
    ·have hdg : decide (fin ≤ y) = false := decide_eq_false hge
     go_wp2_with fail
     refine (CO.out (fin - 1) 10 _ EW (by omega)).mono ?_; rintro _ w5 ⟨rfl, e5⟩
     cases Z : isOp cs (fin - 1) 10
     ·have HF : Hid (blocksOk cs es = false) := by show _ = _; rw [← hv.out, HS.out, HBK.out, hdg, Z]; rfl
      clear hv HS HBK
      go_wp2
      go_ret
      exact ⟨by rw [HF.out]; rfl, EW.trans e5⟩
     ·have HV : Hid ((rowOk cs es y fin (fin - y).toNat y && allFrom (blockOk cs es) (es.length - (b + 1)) (b + 1)) = blocksOk cs es) := by show _ = _; rw [← hv.out, HS.out, HBK.out, hdg, Z]; rfl
      clear hv HS HBK
      go_wp2_with fail
      go_loopw [5] (fun q wr => ∃ k : Nat, y ≤ (k : Int) ∧ (k : Int) ≤ fin ∧ q = .int .i64 (k : Int) ∧ Hid ((rowOk cs es y fin (fin - (k : Int)).toNat (k : Int) && allFrom (blockOk cs es) (es.length - (b + 1)) (b + 1)) = blocksOk cs es) ∧ Ext wc wr) (fun q _ => (fin - intOf q).toNat)
      case atStart => exact ⟨y.toNat, by omega, by omega, by congr 1; omega, by show _ = _; rw [show ((y.toNat : Nat) : Int) = y by omega]; exact HV.out, e5⟩
      case round =>
       clear HV
       obtain ⟨k, hk1, hk2, rfl, hv, he5⟩ := hrel
       have q0 := fun w' (e : Ext wr w') => q0 w' (he5.trans e)
       have q1 := fun w' (e : Ext wr w') => q1 w' (he5.trans e)
       have hc' := fun w' (e : Ext wr w') => hc' w' (he5.trans e)
       have EW5 := EW.trans he5
       by_cases hkl : (k : Int) < fin
       ·have HS := Lib.hid (rowOk_step (cs := cs) (es := es) (start := y) hkl)
        have CN1 := Lib.hid (fun w' (e : Ext w w') => CN.out k (by omega) y fin w' e (by omega) (by omega))
        generalize hz : innerOk cs es (k : Int) y fin = z at *
        clear hz
        cases z
        ·have HF : Hid (blocksOk cs es = false) := by show _ = _; rw [← hv.out, HS.out]; rfl
         clear hv HS
         go_wp2_with fail
         refine wp_region_quiet_below (by kernel_rfl) (by kernel_rfl) ?_
         repeat (go_big_quiet_step (((go_at_call 197; exact Calls.regrown_of (CN1.out _ (EW5.trans (Ext_regrown _ _ (Ext.refl _))))))))
         refine wpQuiet_nil ?_
         rintro w7 ⟨⟨nq, osq⟩, hq⟩
         have ew7 := ext_of_q hq
         clear hq nq osq
         go_wp2
         go_ret
         exact ⟨by rw [HF.out]; rfl, EW5.trans ew7⟩
        ·have HN : Hid ((rowOk cs es y fin (fin - ((k : Int) + 1)).toNat ((k : Int) + 1) && allFrom (blockOk cs es) (es.length - (b + 1)) (b + 1)) = blocksOk cs es) := by show _ = _; rw [← hv.out, HS.out]; rfl
         clear hv HS
         go_wp2_with fail
         refine wp_region_quiet_below (by kernel_rfl) (by kernel_rfl) ?_
         repeat (go_big_quiet_step (((go_at_call 197; exact Calls.regrown_of (CN1.out _ (EW5.trans (Ext_regrown _ _ (Ext.refl _))))))))
         refine wpQuiet_nil ?_
         rintro w7 ⟨⟨nq, osq⟩, hq⟩
         have ew7 := ext_of_q hq
         clear hq nq osq
         go_wp2
         go_roundw
         case rel => exact ⟨k + 1, by omega, by omega, by go_num, by show _ = _; rw [show ((k + 1 : Nat) : Int) = (k : Int) + 1 by omega]; exact HN.out, he5.trans ew7⟩
         case measure => simp [intOf]; omega
       ·have HN : Hid (allFrom (blockOk cs es) (es.length - (b + 1)) (b + 1) = blocksOk cs es) := by show _ = _; rw [← hv.out, show (fin - (k : Int)).toNat = 0 by omega, rowOk, Bool.true_and]
        clear hv
        go_wp2
        go_roundw
        case rel => exact ⟨b + 1, by omega, by go_num, HN.out, he.trans (hwc.trans he5)⟩
        case measure => simp [intOf]; omega
  ·have HF : Hid (blocksOk cs es = true) := by show _ = _; rw [← hv.out, show es.length - b = 0 by omega]; rfl
   clear hv
   go_wp2
   go_ret
   exact ⟨by rw [HF.out]; rfl, e0.trans he⟩
end Go.Proofs.YtpmcofmdjckijaaGreat
