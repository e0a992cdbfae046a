/- The walks of the laws on StoreLog and CrashLog. -/
import Derived.Test.YtohejlknihleeaaCrash
import Derived.Test.YtohejlknihleeaaLawLog2
import Derived.Test.YtohejlknihleeaaLawDec
namespace Go.Proofs.Ytohejlknihleeaa
open Go.RowKit Go.Sort

set_option maxRecDepth 100000 in
set_option maxHeartbeats 4000000 in
theorem lawStoreLog_c (A : Option Addr) (l : List UInt8) (c : Nat) (s : Int)  (w : World) (h : Rd0 vu8 w A l c) :
    Gives Try.prog 12 #[vlog (.slice A l.length c) s] w (.bool true) := by
  have Z1 := Lib.hid (fun left w h h0 h1 => szLog_c A l c s left w h h0 h1)
  have T1 := Lib.hid (fun w h hL => toLog_c A l c s w h hL)
  have V1 := Lib.hid (fun A c w h hL => sStoreLog_c A l c s w h hL)
  have V2 := Lib.hid (fun A c w h hL => iStoreLog_c A l c s w h hL)
  have hz := szN_lo l.length 1048576 (by omega) (by omega)
  have hz1 : 0 ≤ szN l.length 1048576 → l.length ≤ 1048576 := szN_len (by omega)
  generalize hzz : szN l.length 1048576 = z at *
  have HZ := Lib.hid hzz; clear hzz
  obtain ⟨R, hR⟩ : ∃ R : List UInt8, l = R := ⟨_, rfl⟩
  have hRl : R.length ≤ l.length := by rw [← hR]; first | exact Nat.le_refl _ | exact List.length_take_le' _ _
  have V1 : Hid (∀ A c w, Bs w A l c → l.length ≤ 1099511627776 → Calls Try.prog 58 #[vlog (.slice A l.length c) s] w fun e w' => ∃ v, e = .returned (vlog v (storeAt l s)) ∧ OwnL vu8 5 w w' v R ∧ Ext w w') := by
    intro A c w h hL; have := V1.out A c w h hL; first | (rw [hR] at this; exact this) | (subst hR; exact this)
  have V2 : Hid (∀ A c w, Bs w A l c → l.length ≤ 1099511627776 → Calls Try.prog 59 #[vlog (.slice A l.length c) s] w fun e w' => ∃ v, e = .returned (vlog v (storeAt l s)) ∧ OwnL vu8 5 w w' v R ∧ Ext w w') := by
    intro A c w h hL; have := V2.out A c w h hL; first | (rw [hR] at this; exact this) | (subst hR; exact this)
  clear hR
  generalize storeAt l s = q at *
  have eb := Ext_alloc (.cells #[.slice A l.length c, .int .i64 s] 50) (Ext.refl w)
  have B := fun w' (e : Ext (w.alloc (.cells #[.slice A l.length c, .int .i64 s] 50)) w') => boxed e
  have HE1 : Hid ((l == l && s == s) = true) := by simp [Hid]
  have HE2 : Hid ((R == R && q == q) = true) := by simp [Hid]
  have M1 := Lib.hid (fun A c xs w0 w ho hk2 => markLog_c s A l.length c 1 xs w0 w ho (by omega) hk2)
  have M2 := Lib.hid (fun A c xs w0 w ho hk2 => markLog_c q A R.length c 1 xs w0 w ho (by omega) hk2)
  have G2 := Lib.hid (fun A c w h hk2 => heldLog_c q A R.length c 1 w h (by omega) hk2)
  unfold vlog at *
  go_enter Try.func12, Try.ntmps12
  go_wp2_with fail
  refine (Z1.out _ _ (h.ext eb) (by omega) (by omega)).mono ?_; rintro _ w1 ⟨rfl, he1⟩
  rw [HZ.out]
  by_cases c1 : z < 0
  · go_wp2
    go_ret
    exact ⟨rfl, eb.trans he1⟩
  have hL := hz1 (by omega)
  have hl : l.length ≤ 140737488351232 := by omega
  have hl2 : l.length ≤ 1099511627776 := by omega
  have hRk : R.length ≤ 140737488351232 := by omega
  go_wp2_with fail
  refine (T1.out _ (h.ext (eb.trans he1)) hL).mono ?_; rintro _ w2 ⟨v2, rfl, ho2, he2⟩; obtain ⟨A2, c2, rfl, r2⟩ := OwnL.rd ho2 hl
  go_wp2_with fail
  refine (V1.out _ _ _ r2 hl2).mono ?_; rintro _ w3 ⟨v3, rfl, ho3, he3⟩; obtain ⟨A3, c3, rfl, r3⟩ := OwnL.rd ho3 hRk
  have HW := Lib.hid (heap_new w3 (.cells #[.slice A3 R.length c3, .int .i64 q] 53))
  have f3 := Ext_alloc (.cells #[.slice A3 R.length c3, .int .i64 q] 53) (Ext.refl w3)
  have b3 := ((he1.trans he2).trans he3).trans f3
  have r3' := r3.ext f3; clear he1 he2 he3 ho2 r2 ho3 r3
  go_wp2_with fail
  refine (T1.out _ (h.ext (eb.trans b3)) hL).mono ?_; rintro _ w4 ⟨v4, rfl, ho4, he4⟩; obtain ⟨A4, c4, rfl, r4⟩ := OwnL.rd ho4 hl
  have HX := Lib.hid (heap_new w4 (.cells #[.slice A4 l.length c4, .int .i64 s] 53))
  have f4 := Ext_alloc (.cells #[.slice A4 l.length c4, .int .i64 s] 53) (Ext.refl w4)
  go_wp2_with fail
  refine (V2.out _ _ _ (r4.ext f4) hl2).mono ?_; rintro _ w5 ⟨v5, rfl, ho5, he5⟩; obtain ⟨A5, c5, rfl, r5⟩ := OwnL.rd ho5 hRk
  have HG := Lib.hid (heap_new w5 (.cells #[.slice A5 R.length c5, .int .i64 q] 53))
  have f5 := Ext_alloc (.cells #[.slice A5 R.length c5, .int .i64 q] 53) (Ext.refl w5)
  have e45 := (f4.trans he5).trans f5
  have e35 := he4.trans e45
  have HX5 := Lib.hid (heap_ext HX.out (he5.trans f5))
  have HW5 := Lib.hid (heap_ext HW.out e35)
  have DW := fun w' (e : Ext (w5.alloc (.cells #[.slice A5 R.length c5, .int .i64 q] 53)) w') => boxed_at HW5.out e
  go_wp2_with fail
  refine (eqLog_c _ _ _ _ _ _ _ _ _ (r5.ext f5) (r3'.ext e35)).mono ?_; rintro _ w6 ⟨rfl, he6⟩; rw [HE2.out]
  have e36 := e35.trans he6
  have r46 := r4.ext (e45.trans he6)
  have o46 := OwnL.ext ho4 (e45.trans he6)
  have o56 := OwnL.ext ho5 (f5.trans he6)
  have HX6 := Lib.hid (heap_ext HX5.out he6); have HG6 := Lib.hid (heap_ext HG.out he6)
  have HB4 := Lib.hid (fun g hg => Nat.lt_of_lt_of_le (OwnL.block ho4 g hg) f4.size)
  have HN5 := Lib.hid (OwnL.ne ho4 (f4.trans he5).size)
  have HN5' := Lib.hid (OwnL.ne ho5 (Nat.le_refl _))
  have HS5 : Hid ((w3.alloc (.cells #[.slice A3 R.length c3, .int .i64 q] 53)).heap.size ≤ (w4.alloc (.cells #[.slice A4 l.length c4, .int .i64 s] 53)).heap.size) := (he4.trans f4).size
  have D0 := fun w' (e : Ext w6 w') => B w' ((b3.trans e36).trans e)
  have DX := fun w' (e : Ext w6 w') => boxed_at HX6.out e
  have b6 := eb.trans (b3.trans e36)
  clear DW e35 e45 he5 he6 f5 r5 r4 HX HX5 HG HW5 ho4 ho5
  go_wp2_with fail
  go_region_held3 (fun w' => Ext w6 w') (first | assumption | exact Ext_drew (Ext.refl _) | exact Ext.trans (by assumption) (by assumption)) (first
    | (go_at_call 48; (with_reducible refine (T1.out _ ?_ hL).mono ?_); (exact h.ext (b6.trans (by assumption))); rintro _ w7 ⟨v7, rfl, ho7, he7⟩; obtain ⟨A7, c7, rfl, r7⟩ := OwnL.rd ho7 hl)
    | (go_at_call 50; refine (eqLog_c _ _ _ _ _ _ _ _ _ (r46.ext (by assumption)) r7).mono ?_; rintro _ w8 ⟨rfl, he8⟩; rw [HE1.out]))
  have e68 : Ext w6 w8 := by assumption
  clear r7 ho7 he8
  have e38 := e36.trans e68
  have o48 := OwnL.ext o46 e68
  have o58 := OwnL.ext o56 e68
  have HG8 := Lib.hid (heap_ext HG6.out e68)
  have DX' := fun w' (e : Ext w8 w') => DX w' (e68.trans e)
  clear D0 DX r46 o46 o56 e36 e68 b6 HX6 HG6
  go_wp2_with fail
  refine (M1.out _ _ _ _ _ o48 (by omega)).mono ?_; rintro _ w9 ⟨rfl, _, hg9⟩
  have e39 := e38.grown hg9 (fun k hk => (World.ownsRow.lt o48 k hk).1)
  have o59 := OwnL.kept o58 hg9 HB4.out
  obtain ⟨A9, c9, hv9, r9⟩ := OwnL.rd o59 hRk; injection hv9 with q1 _ q2; subst q1; subst q2
  have HG9 := Lib.hid (heap_grown HG8.out hg9 HN5.out)
  have HW9 := Lib.hid (heap_ext HW.out e39)
  have DG := fun w' (e : Ext w9 w') => boxed_at HG9.out e
  have DW := fun w' (e : Ext w9 w') => boxed_at HW9.out e
  clear DX' o48 o58 hg9 e38 HG8
  go_wp2_with fail
  refine (eqLog_c _ _ _ _ _ _ _ _ _ r9 (r3'.ext e39)).mono ?_; rintro _ w10 ⟨rfl, he10⟩; rw [HE2.out]
  have e3a := e39.trans he10; have oa := OwnL.ext o59 he10
  have HGa := Lib.hid (heap_ext HG9.out he10)
  have DG' := fun w' (e : Ext w10 w') => boxed_at HGa.out e
  clear r9 o59 DG DW HG9 HW9 e39
  go_wp2_with fail
  refine (M2.out _ _ _ _ _ oa (by omega)).mono ?_; rintro _ w11 ⟨rfl, ob, hg11⟩
  have e3b := e3a.grown hg11 (fun k hk => Nat.le_trans HS5.out (World.ownsRow.lt oa k hk).1)
  have rb := Own.mk_rd ob (by omega)
  have HGb := Lib.hid (heap_grown HGa.out hg11 HN5'.out)
  have HWb := Lib.hid (heap_ext HW.out e3b)
  have DG := fun w' (e : Ext w11 w') => boxed_at HGb.out e
  clear DG' ob hg11 oa e3a HGa
  go_wp2_with fail
  refine (G2.out _ _ _ rb (by omega)).mono ?_; rintro _ w12 ⟨rfl, he12⟩
  have e3c := e3b.trans he12
  have D0 := fun w' (e : Ext w12 w') => B w' ((b3.trans e3c).trans e)
  go_wp2_with fail
  refine (T1.out _ (h.ext (eb.trans (b3.trans e3c))) hL).mono ?_; rintro _ w13 ⟨v13, rfl, ho13, he13⟩; obtain ⟨A13, c13, rfl, r13⟩ := OwnL.rd ho13 hl
  go_wp2_with fail
  refine (V2.out _ _ _ r13 hl2).mono ?_; rintro _ w14 ⟨v14, rfl, ho14, he14⟩; obtain ⟨A14, c14, rfl, r14⟩ := OwnL.rd ho14 hRk
  have f14 := Ext_alloc (.cells #[.slice A14 R.length c14, .int .i64 q] 53) (Ext.refl w14)
  have ebe := ((he12.trans he13).trans he14).trans f14
  have e3d := e3b.trans ebe
  have HWd := Lib.hid (heap_ext HWb.out ebe)
  have DW := fun w' (e : Ext (w14.alloc (.cells #[.slice A14 R.length c14, .int .i64 q] 53)) w') => boxed_at HWd.out e
  clear ho13 r13 he13 he14 he12 ho14 e3c D0
  go_wp2_with fail
  refine (eqLog_c _ _ _ _ _ _ _ _ _ (r14.ext f14) (r3'.ext e3d)).mono ?_; rintro _ w15 ⟨rfl, he15⟩; rw [HE2.out]
  have ebf := ebe.trans he15
  have rf := rb.ext ebf
  have DG' := fun w' (e : Ext w15 w') => DG w' (ebf.trans e)
  clear DW DG rb ebe r14 HWd
  go_wp2_with fail
  refine (G2.out _ _ _ rf (by omega)).mono ?_; rintro _ w16 ⟨rfl, he16⟩
  go_wp2
  go_ret
  exact ⟨rfl, (eb.trans b3).trans ((e3d.trans he15).trans he16)⟩

set_option maxRecDepth 100000 in
set_option maxHeartbeats 4000000 in
theorem lawCrashLog_c (A : Option Addr) (l : List UInt8) (c : Nat) (s : Int) (k : Int) (w : World) (h : Rd0 vu8 w A l c) :
    Gives Try.prog 13 #[vlog (.slice A l.length c) s, .int .i64 k] w (.bool true) := by
  have Z1 := Lib.hid (fun left w h h0 h1 => szLog_c A l c s left w h h0 h1)
  have T1 := Lib.hid (fun w h hL => toLog_c A l c s w h hL)
  have V1 := Lib.hid (fun A c w h hL => sCrashLog_c A l c s k w h hL)
  have V2 := Lib.hid (fun A c w h hL => iCrashLog_c A l c s k w h hL)
  have hz := szN_lo l.length 1048576 (by omega) (by omega)
  have hz1 : 0 ≤ szN l.length 1048576 → l.length ≤ 1048576 := szN_len (by omega)
  generalize hzz : szN l.length 1048576 = z at *
  have HZ := Lib.hid hzz; clear hzz
  obtain ⟨R, hR⟩ : ∃ R : List UInt8, (l.take (crashEnd l s k)) = R := ⟨_, rfl⟩
  have hRl : R.length ≤ l.length := by rw [← hR]; first | exact Nat.le_refl _ | exact List.length_take_le' _ _
  have V1 : Hid (∀ A c w, Bs w A l c → l.length ≤ 1099511627776 → Calls Try.prog 62 #[vlog (.slice A l.length c) s, .int .i64 k] w fun e w' => ∃ v, e = .returned (vlog v (crashAt l s k)) ∧ OwnL vu8 5 w w' v R ∧ Ext w w') := by
    intro A c w h hL; have := V1.out A c w h hL; first | (rw [hR] at this; exact this) | (subst hR; exact this)
  have V2 : Hid (∀ A c w, Bs w A l c → l.length ≤ 1099511627776 → Calls Try.prog 63 #[vlog (.slice A l.length c) s, .int .i64 k] w fun e w' => ∃ v, e = .returned (vlog v (crashAt l s k)) ∧ OwnL vu8 5 w w' v R ∧ Ext w w') := by
    intro A c w h hL; have := V2.out A c w h hL; first | (rw [hR] at this; exact this) | (subst hR; exact this)
  clear hR
  generalize crashAt l s k = q at *
  have eb := Ext_alloc (.cells #[.slice A l.length c, .int .i64 s] 50) (Ext.refl w)
  have B := fun w' (e : Ext (w.alloc (.cells #[.slice A l.length c, .int .i64 s] 50)) w') => boxed e
  have HE1 : Hid ((l == l && s == s) = true) := by simp [Hid]
  have HE2 : Hid ((R == R && q == q) = true) := by simp [Hid]
  have M1 := Lib.hid (fun A c xs w0 w ho hk2 => markLog_c s A l.length c 1 xs w0 w ho (by omega) hk2)
  have M2 := Lib.hid (fun A c xs w0 w ho hk2 => markLog_c q A R.length c 1 xs w0 w ho (by omega) hk2)
  have G2 := Lib.hid (fun A c w h hk2 => heldLog_c q A R.length c 1 w h (by omega) hk2)
  unfold vlog at *
  go_enter Try.func13, Try.ntmps13
  go_wp2_with fail
  refine (Z1.out _ _ (h.ext eb) (by omega) (by omega)).mono ?_; rintro _ w1 ⟨rfl, he1⟩
  rw [HZ.out]
  by_cases c1 : z < 0
  · go_wp2
    go_ret
    exact ⟨rfl, eb.trans he1⟩
  have hL := hz1 (by omega)
  have hl : l.length ≤ 140737488351232 := by omega
  have hl2 : l.length ≤ 1099511627776 := by omega
  have hRk : R.length ≤ 140737488351232 := by omega
  go_wp2_with fail
  refine (T1.out _ (h.ext (eb.trans he1)) hL).mono ?_; rintro _ w2 ⟨v2, rfl, ho2, he2⟩; obtain ⟨A2, c2, rfl, r2⟩ := OwnL.rd ho2 hl
  go_wp2_with fail
  refine (V1.out _ _ _ r2 hl2).mono ?_; rintro _ w3 ⟨v3, rfl, ho3, he3⟩; obtain ⟨A3, c3, rfl, r3⟩ := OwnL.rd ho3 hRk
  have HW := Lib.hid (heap_new w3 (.cells #[.slice A3 R.length c3, .int .i64 q] 53))
  have f3 := Ext_alloc (.cells #[.slice A3 R.length c3, .int .i64 q] 53) (Ext.refl w3)
  have b3 := ((he1.trans he2).trans he3).trans f3
  have r3' := r3.ext f3; clear he1 he2 he3 ho2 r2 ho3 r3
  go_wp2_with fail
  refine (T1.out _ (h.ext (eb.trans b3)) hL).mono ?_; rintro _ w4 ⟨v4, rfl, ho4, he4⟩; obtain ⟨A4, c4, rfl, r4⟩ := OwnL.rd ho4 hl
  have HX := Lib.hid (heap_new w4 (.cells #[.slice A4 l.length c4, .int .i64 s] 53))
  have f4 := Ext_alloc (.cells #[.slice A4 l.length c4, .int .i64 s] 53) (Ext.refl w4)
  go_wp2_with fail
  refine (V2.out _ _ _ (r4.ext f4) hl2).mono ?_; rintro _ w5 ⟨v5, rfl, ho5, he5⟩; obtain ⟨A5, c5, rfl, r5⟩ := OwnL.rd ho5 hRk
  have HG := Lib.hid (heap_new w5 (.cells #[.slice A5 R.length c5, .int .i64 q] 53))
  have f5 := Ext_alloc (.cells #[.slice A5 R.length c5, .int .i64 q] 53) (Ext.refl w5)
  have e45 := (f4.trans he5).trans f5
  have e35 := he4.trans e45
  have HX5 := Lib.hid (heap_ext HX.out (he5.trans f5))
  have HW5 := Lib.hid (heap_ext HW.out e35)
  have DW := fun w' (e : Ext (w5.alloc (.cells #[.slice A5 R.length c5, .int .i64 q] 53)) w') => boxed_at HW5.out e
  go_wp2_with fail
  refine (eqLog_c _ _ _ _ _ _ _ _ _ (r5.ext f5) (r3'.ext e35)).mono ?_; rintro _ w6 ⟨rfl, he6⟩; rw [HE2.out]
  have e36 := e35.trans he6
  have r46 := r4.ext (e45.trans he6)
  have o46 := OwnL.ext ho4 (e45.trans he6)
  have o56 := OwnL.ext ho5 (f5.trans he6)
  have HX6 := Lib.hid (heap_ext HX5.out he6); have HG6 := Lib.hid (heap_ext HG.out he6)
  have HB4 := Lib.hid (fun g hg => Nat.lt_of_lt_of_le (OwnL.block ho4 g hg) f4.size)
  have HN5 := Lib.hid (OwnL.ne ho4 (f4.trans he5).size)
  have HN5' := Lib.hid (OwnL.ne ho5 (Nat.le_refl _))
  have HS5 : Hid ((w3.alloc (.cells #[.slice A3 R.length c3, .int .i64 q] 53)).heap.size ≤ (w4.alloc (.cells #[.slice A4 l.length c4, .int .i64 s] 53)).heap.size) := (he4.trans f4).size
  have D0 := fun w' (e : Ext w6 w') => B w' ((b3.trans e36).trans e)
  have DX := fun w' (e : Ext w6 w') => boxed_at HX6.out e
  have b6 := eb.trans (b3.trans e36)
  clear DW e35 e45 he5 he6 f5 r5 r4 HX HX5 HG HW5 ho4 ho5
  go_wp2_with fail
  go_region_held3 (fun w' => Ext w6 w') (first | assumption | exact Ext_drew (Ext.refl _) | exact Ext.trans (by assumption) (by assumption)) (first
    | (go_at_call 48; (with_reducible refine (T1.out _ ?_ hL).mono ?_); (exact h.ext (b6.trans (by assumption))); rintro _ w7 ⟨v7, rfl, ho7, he7⟩; obtain ⟨A7, c7, rfl, r7⟩ := OwnL.rd ho7 hl)
    | (go_at_call 50; refine (eqLog_c _ _ _ _ _ _ _ _ _ (r46.ext (by assumption)) r7).mono ?_; rintro _ w8 ⟨rfl, he8⟩; rw [HE1.out]))
  have e68 : Ext w6 w8 := by assumption
  clear r7 ho7 he8
  have e38 := e36.trans e68
  have o48 := OwnL.ext o46 e68
  have o58 := OwnL.ext o56 e68
  have HG8 := Lib.hid (heap_ext HG6.out e68)
  have DX' := fun w' (e : Ext w8 w') => DX w' (e68.trans e)
  clear D0 DX r46 o46 o56 e36 e68 b6 HX6 HG6
  go_wp2_with fail
  refine (M1.out _ _ _ _ _ o48 (by omega)).mono ?_; rintro _ w9 ⟨rfl, _, hg9⟩
  have e39 := e38.grown hg9 (fun k hk => (World.ownsRow.lt o48 k hk).1)
  have o59 := OwnL.kept o58 hg9 HB4.out
  obtain ⟨A9, c9, hv9, r9⟩ := OwnL.rd o59 hRk; injection hv9 with q1 _ q2; subst q1; subst q2
  have HG9 := Lib.hid (heap_grown HG8.out hg9 HN5.out)
  have HW9 := Lib.hid (heap_ext HW.out e39)
  have DG := fun w' (e : Ext w9 w') => boxed_at HG9.out e
  have DW := fun w' (e : Ext w9 w') => boxed_at HW9.out e
  clear DX' o48 o58 hg9 e38 HG8
  go_wp2_with fail
  refine (eqLog_c _ _ _ _ _ _ _ _ _ r9 (r3'.ext e39)).mono ?_; rintro _ w10 ⟨rfl, he10⟩; rw [HE2.out]
  have e3a := e39.trans he10; have oa := OwnL.ext o59 he10
  have HGa := Lib.hid (heap_ext HG9.out he10)
  have DG' := fun w' (e : Ext w10 w') => boxed_at HGa.out e
  clear r9 o59 DG DW HG9 HW9 e39
  go_wp2_with fail
  refine (M2.out _ _ _ _ _ oa (by omega)).mono ?_; rintro _ w11 ⟨rfl, ob, hg11⟩
  have e3b := e3a.grown hg11 (fun k hk => Nat.le_trans HS5.out (World.ownsRow.lt oa k hk).1)
  have rb := Own.mk_rd ob (by omega)
  have HGb := Lib.hid (heap_grown HGa.out hg11 HN5'.out)
  have HWb := Lib.hid (heap_ext HW.out e3b)
  have DG := fun w' (e : Ext w11 w') => boxed_at HGb.out e
  clear DG' ob hg11 oa e3a HGa
  go_wp2_with fail
  refine (G2.out _ _ _ rb (by omega)).mono ?_; rintro _ w12 ⟨rfl, he12⟩
  have e3c := e3b.trans he12
  have D0 := fun w' (e : Ext w12 w') => B w' ((b3.trans e3c).trans e)
  go_wp2_with fail
  refine (T1.out _ (h.ext (eb.trans (b3.trans e3c))) hL).mono ?_; rintro _ w13 ⟨v13, rfl, ho13, he13⟩; obtain ⟨A13, c13, rfl, r13⟩ := OwnL.rd ho13 hl
  go_wp2_with fail
  refine (V2.out _ _ _ r13 hl2).mono ?_; rintro _ w14 ⟨v14, rfl, ho14, he14⟩; obtain ⟨A14, c14, rfl, r14⟩ := OwnL.rd ho14 hRk
  have f14 := Ext_alloc (.cells #[.slice A14 R.length c14, .int .i64 q] 53) (Ext.refl w14)
  have ebe := ((he12.trans he13).trans he14).trans f14
  have e3d := e3b.trans ebe
  have HWd := Lib.hid (heap_ext HWb.out ebe)
  have DW := fun w' (e : Ext (w14.alloc (.cells #[.slice A14 R.length c14, .int .i64 q] 53)) w') => boxed_at HWd.out e
  clear ho13 r13 he13 he14 he12 ho14 e3c D0
  go_wp2_with fail
  refine (eqLog_c _ _ _ _ _ _ _ _ _ (r14.ext f14) (r3'.ext e3d)).mono ?_; rintro _ w15 ⟨rfl, he15⟩; rw [HE2.out]
  have ebf := ebe.trans he15
  have rf := rb.ext ebf
  have DG' := fun w' (e : Ext w15 w') => DG w' (ebf.trans e)
  clear DW DG rb ebe r14 HWd
  go_wp2_with fail
  refine (G2.out _ _ _ rf (by omega)).mono ?_; rintro _ w16 ⟨rfl, he16⟩
  go_wp2
  go_ret
  exact ⟨rfl, (eb.trans b3).trans ((e3d.trans he15).trans he16)⟩
end Go.Proofs.Ytohejlknihleeaa
