/- The walks of the laws on CountRecords and IsValidLog. -/
import Derived.Test.YtohejlknihleeaaValidLog
import Derived.Test.YtohejlknihleeaaLawLog
namespace Go.Proofs.Ytohejlknihleeaa
open Go.RowKit Go.Sort

theorem szN_len {n : Nat} {left : Int} (h : left ≤ 1048576) : 0 ≤ szN n left → n ≤ 1048576 := by unfold szN; split <;> omega
set_option maxRecDepth 100000 in
set_option maxHeartbeats 2000000 in
theorem lawCountRecords_c (A : Option Addr) (l : List UInt8) (c : Nat) (s : Int) (w : World) (h : Rd0 vu8 w A l c) :
    Gives Try.prog 9 #[vlog (.slice A l.length c) s] w (.bool true) := by
  have Z1 := Lib.hid (fun left w h h0 h1 => szLog_c A l c s left w h h0 h1)
  have T1 := Lib.hid (fun w h hL => toLog_c A l c s w h hL)
  have V1 := Lib.hid (fun A c w h hL => sCountRecords_c A l c s w h hL)
  have V2 := Lib.hid (fun A c w h hL => iCountRecords_c A l c s w h hL)
  have hz := szN_lo l.length 1048576 (by omega) (by omega)
  have hz1 : 0 ≤ szN l.length 1048576 → l.length ≤ 1048576 := szN_len (by omega)
  generalize hzz : szN l.length 1048576 = z at *
  have HZ := Lib.hid hzz; clear hzz
  generalize (recs l 0).length = q at *
  have eb := Ext_alloc (.cells #[.slice A l.length c, .int .i64 s] 50) (Ext.refl w)
  have B := fun w' (e : Ext (w.alloc (.cells #[.slice A l.length c, .int .i64 s] 50)) w') => boxed e
  unfold vlog at *
  go_enter Try.func9, Try.ntmps9
  go_wp2_with fail
  refine (Z1.out _ _ (h.ext eb) (by omega) (by omega)).mono ?_; rintro _ w1 ⟨rfl, he1⟩
  rw [HZ.out]
  by_cases c1 : z < 0
  · go_wp2
    go_ret
    exact ⟨rfl, eb.trans he1⟩
  have hL := hz1 (by omega)
  have hl : l.length ≤ 140737488351232 := by omega
  have hl2 : l.length ≤ 1099511627776 := by omega
  go_wp2_with fail
  refine (T1.out _ (h.ext (eb.trans he1)) hL).mono ?_; rintro _ w2 ⟨v2, rfl, ho2, he2⟩; obtain ⟨A2, c2, rfl, r2⟩ := OwnL.rd ho2 hl
  go_wp2_with fail
  refine (V1.out _ _ _ r2 hl2).mono ?_; rintro _ w3 ⟨rfl, he3⟩
  have e3 := (he1.trans he2).trans he3; clear he1 he2 he3 ho2 r2
  go_wp2_with fail
  refine (T1.out _ (h.ext (eb.trans e3)) hL).mono ?_; rintro _ w4 ⟨v4, rfl, ho4, he4⟩; obtain ⟨A4, c4, rfl, r4⟩ := OwnL.rd ho4 hl
  have e4 := e3.trans he4; clear e3 he4 ho4
  have f4 := Ext_alloc (.cells #[.slice A4 l.length c4, .int .i64 s] 53) (Ext.refl w4)
  go_wp2_with fail
  refine (V2.out _ _ _ (r4.ext f4) hl2).mono ?_; rintro _ w5 ⟨rfl, he5⟩
  have e5 := (e4.trans f4).trans he5
  have r5 := (r4.ext f4).ext he5
  have D0 := fun w' (e : Ext w5 w') => B w' (e5.trans e)
  have D4 := fun w' (e : Ext w5 w') => boxed (he5.trans e)
  have e5' := eb.trans e5
  clear B e4 f4 he5 e5 r4
  have HE : Hid (((q : Int) != (q : Int)) = false) := by simp [Hid]
  have HE1 : Hid ((l == l && s == s) = true) := by simp [Hid]
  go_wp2_with fail
  go_region_held3 (fun w' => Ext w5 w') (first | assumption | exact Ext_drew (Ext.refl _) | exact Ext.trans (by assumption) (by assumption)) (first
    | (go_at_call 48; (with_reducible refine (T1.out _ ?_ hL).mono ?_); (exact h.ext (e5'.trans (by assumption))); rintro _ w9 ⟨v9, rfl, ho9, he9⟩; obtain ⟨A9, c9, rfl, r9⟩ := OwnL.rd ho9 hl)
    | (go_at_call 50; refine (eqLog_c _ _ _ _ _ _ _ _ _ (r5.ext (by assumption)) r9).mono ?_; rintro _ w10 ⟨rfl, he10⟩; rw [HE1.out]))
  have e10 : Ext w5 w10 := by assumption
  go_wp2
  go_ret
  exact ⟨rfl, e5'.trans e10⟩

set_option maxRecDepth 100000 in
set_option maxHeartbeats 2000000 in
theorem lawIsValidLog_c (A : Option Addr) (l : List UInt8) (c : Nat) (s : Int) (w : World) (h : Rd0 vu8 w A l c) :
    Gives Try.prog 10 #[vlog (.slice A l.length c) s] w (.bool true) := by
  have Z1 := Lib.hid (fun left w h h0 h1 => szLog_c A l c s left w h h0 h1)
  have T1 := Lib.hid (fun w h hL => toLog_c A l c s w h hL)
  have V1 := Lib.hid (fun A c w h hL => sIsValidLog_c A l c s w h hL)
  have V2 := Lib.hid (fun A c w h hL => iIsValidLog_c A l c s w h hL)
  have hz := szN_lo l.length 1048576 (by omega) (by omega)
  have hz1 : 0 ≤ szN l.length 1048576 → l.length ≤ 1048576 := szN_len (by omega)
  generalize hzz : szN l.length 1048576 = z at *
  have HZ := Lib.hid hzz; clear hzz
  generalize validLog l s = q at *
  have eb := Ext_alloc (.cells #[.slice A l.length c, .int .i64 s] 50) (Ext.refl w)
  have B := fun w' (e : Ext (w.alloc (.cells #[.slice A l.length c, .int .i64 s] 50)) w') => boxed e
  unfold vlog at *
  go_enter Try.func10, Try.ntmps10
  go_wp2_with fail
  refine (Z1.out _ _ (h.ext eb) (by omega) (by omega)).mono ?_; rintro _ w1 ⟨rfl, he1⟩
  rw [HZ.out]
  by_cases c1 : z < 0
  · go_wp2
    go_ret
    exact ⟨rfl, eb.trans he1⟩
  have hL := hz1 (by omega)
  have hl : l.length ≤ 140737488351232 := by omega
  have hl2 : l.length ≤ 1099511627776 := by omega
  go_wp2_with fail
  refine (T1.out _ (h.ext (eb.trans he1)) hL).mono ?_; rintro _ w2 ⟨v2, rfl, ho2, he2⟩; obtain ⟨A2, c2, rfl, r2⟩ := OwnL.rd ho2 hl
  go_wp2_with fail
  refine (V1.out _ _ _ r2 hl2).mono ?_; rintro _ w3 ⟨rfl, he3⟩
  have e3 := (he1.trans he2).trans he3; clear he1 he2 he3 ho2 r2
  go_wp2_with fail
  refine (T1.out _ (h.ext (eb.trans e3)) hL).mono ?_; rintro _ w4 ⟨v4, rfl, ho4, he4⟩; obtain ⟨A4, c4, rfl, r4⟩ := OwnL.rd ho4 hl
  have e4 := e3.trans he4; clear e3 he4 ho4
  have f4 := Ext_alloc (.cells #[.slice A4 l.length c4, .int .i64 s] 53) (Ext.refl w4)
  go_wp2_with fail
  refine (V2.out _ _ _ (r4.ext f4) hl2).mono ?_; rintro _ w5 ⟨rfl, he5⟩
  have e5 := (e4.trans f4).trans he5
  have r5 := (r4.ext f4).ext he5
  have D0 := fun w' (e : Ext w5 w') => B w' (e5.trans e)
  have D4 := fun w' (e : Ext w5 w') => boxed (he5.trans e)
  have e5' := eb.trans e5
  clear B e4 f4 he5 e5 r4
  have HE : Hid ((q != q) = false) := by simp [Hid]
  have HE1 : Hid ((l == l && s == s) = true) := by simp [Hid]
  go_wp2_with fail
  go_region_held3 (fun w' => Ext w5 w') (first | assumption | exact Ext_drew (Ext.refl _) | exact Ext.trans (by assumption) (by assumption)) (first
    | (go_at_call 48; (with_reducible refine (T1.out _ ?_ hL).mono ?_); (exact h.ext (e5'.trans (by assumption))); rintro _ w9 ⟨v9, rfl, ho9, he9⟩; obtain ⟨A9, c9, rfl, r9⟩ := OwnL.rd ho9 hl)
    | (go_at_call 50; refine (eqLog_c _ _ _ _ _ _ _ _ _ (r5.ext (by assumption)) r9).mono ?_; rintro _ w10 ⟨rfl, he10⟩; rw [HE1.out]))
  have e10 : Ext w5 w10 := by assumption
  go_wp2
  go_ret
  exact ⟨rfl, e5'.trans e10⟩
end Go.Proofs.Ytohejlknihleeaa
