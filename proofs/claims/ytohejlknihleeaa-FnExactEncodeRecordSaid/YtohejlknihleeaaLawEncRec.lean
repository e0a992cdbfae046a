/- The walk of the law on EncodeRecord. -/
import Derived.Test.YtohejlknihleeaaLawRecord
import Derived.Test.YtohejlknihleeaaEncRec
import Derived.Test.YtohejlknihleeaaMarkRec
namespace Go.Proofs.Ytohejlknihleeaa
open Go.RowKit Go.Sort

set_option maxRecDepth 100000 in
set_option maxHeartbeats 4000000 in
theorem lawEncodeRecord_c (k : Int) (nm : ByteArray) (ver : Int) (A : Option Addr) (l : List UInt8) (c : Nat) (w : World) (h : Rd0 vu8 w A l c) (hn : nm.size ≤ 9223372036854775807) :
    Gives Try.prog 7 #[vrec k nm ver (.slice A l.length c)] w (.bool true) := by
  have Z1 := Lib.hid (fun left w h h0 h1 => szRecord_c k nm ver A l c left w h hn h0 h1)
  have T1 := Lib.hid (fun w h hL => toRecord_c k nm ver A l c w h hL)
  have V1 := Lib.hid (fun A c w h => sEncodeRecord_c k nm ver A l c w h hn)
  have V2 := Lib.hid (fun A c w h => iEncodeRecord_c k nm ver A l c w h hn)
  have M1 := Lib.hid (fun A c xs w0 w ho hk2 => markRecord_c k nm ver A l.length c 1 xs w0 w ho (by omega) hk2)
  have hz := szR_lo nm.size l.length 1048576 (by omega) (by omega)
  have hz1 : 0 ≤ szR nm.size l.length 1048576 → l.length ≤ 1048576 := szR_len (by omega) (by omega)
  generalize hzz : szR nm.size l.length 1048576 = z at *
  have HZ := Lib.hid hzz; clear hzz
  have hR := encRec_le k nm ver l
  generalize encRec k nm ver l = R at *
  have eb := Ext_alloc (.cells #[.int .i64 k, .string nm, .int .i64 ver, .slice A l.length c] 34) (Ext.refl w)
  have B := fun w' (e : Ext (w.alloc (.cells #[.int .i64 k, .string nm, .int .i64 ver, .slice A l.length c] 34)) w') => boxed e
  unfold vrec at *
  go_enter Try.func7, Try.ntmps7
  go_wp2_with fail
  refine (Z1.out _ _ (h.ext eb) (by omega) (by omega)).mono ?_; rintro _ w1 ⟨rfl, he1⟩
  rw [HZ.out]
  by_cases c1 : z < 0
  · go_wp2
    go_ret
    exact ⟨rfl, eb.trans he1⟩
  have hL := hz1 (by omega)
  have hl : l.length ≤ 140737488351232 := by omega
  go_wp2_with fail
  refine (T1.out _ (h.ext (eb.trans he1)) hL).mono ?_; rintro _ w2 ⟨v2, rfl, ho2, he2⟩; obtain ⟨A2, c2, rfl, r2⟩ := OwnL.rd ho2 hl
  go_wp2_with fail
  refine (V1.out _ _ _ r2).mono ?_; rintro _ w3 ⟨v3, rfl, ho3, he3⟩; obtain ⟨A3, c3, rfl, r3⟩ := OwnL.rd ho3 (by omega)
  have b3 := (he1.trans he2).trans he3; clear he1 he2 he3 ho2 r2 ho3
  go_wp2_with fail
  refine (T1.out _ (h.ext (eb.trans b3)) hL).mono ?_; rintro _ w4 ⟨v4, rfl, ho4, he4⟩; obtain ⟨A4, c4, rfl, r4⟩ := OwnL.rd ho4 hl
  have f4 := Ext_alloc (.cells #[.int .i64 k, .string nm, .int .i64 ver, .slice A4 l.length c4] 37) (Ext.refl w4)
  have b4 := b3.trans he4
  go_wp2_with fail
  refine (V2.out _ _ _ (r4.ext f4)).mono ?_; rintro _ w5 ⟨v5, rfl, ho5, he5⟩; obtain ⟨A5, c5, rfl, r5⟩ := OwnL.rd ho5 (by omega)
  have e35 := (he4.trans f4).trans he5
  go_wp2_with fail
  refine (eqByteS_c _ _ _ _ _ _ _ r5 (r3.ext e35)).mono ?_; rintro _ w6 ⟨rfl, he6⟩
  have e36 := e35.trans he6
  have e46 := (f4.trans he5).trans he6
  have r46 := r4.ext e46
  have D0 := fun w' (e : Ext w6 w') => B w' ((b3.trans e36).trans e)
  have D4 := fun w' (e : Ext w6 w') => boxed ((he5.trans he6).trans e)
  have b6 := eb.trans (b3.trans e36)
  have o46 := Own.ext ho4 e46
  have HB4 := Lib.hid (fun g hg => Nat.lt_of_lt_of_le (OwnL.block ho4 g hg) f4.size)
  have o56 := Own.ext ho5 he6
  clear r4 b4 e35 r5 ho4 ho5
  have HE1 : Hid ((k == k && nm.toList == nm.toList && ver == ver && l == l) = true) := by simp [Hid]
  go_wp2_with fail
  go_region_held3 (fun w' => Ext w6 w') (first | assumption | exact Ext_drew (Ext.refl _) | exact Ext.trans (by assumption) (by assumption)) (first
    | (go_at_call 25; (with_reducible refine (T1.out _ ?_ hL).mono ?_); (exact h.ext (b6.trans (by assumption))); rintro _ w7 ⟨v7, rfl, ho7, he7⟩; obtain ⟨A7, c7, rfl, r7⟩ := OwnL.rd ho7 hl)
    | (go_at_call 27; refine (eqRecord_c _ _ _ _ _ _ _ _ _ _ _ _ _ (r46.ext (by assumption)) r7).mono ?_; rintro _ w8 ⟨rfl, he8⟩; rw [HE1.out]))
  have e68 : Ext w6 w8 := by assumption
  clear r7 ho7 he8
  have e38 := e36.trans e68
  have o48 := Own.ext o46 e68
  have o58 := Own.ext o56 e68
  have D4' := fun w' (e : Ext w8 w') => D4 w' (e68.trans e)
  clear D0 D4 r46 o46 o56 e36 e46 he6 e68 b6
  go_wp2_with fail
  refine (M1.out _ _ _ _ _ o48 (by omega)).mono ?_; rintro _ w9 ⟨rfl, _, hg9⟩
  have e39 := e38.grown hg9 (fun k hk => (World.ownsRow.lt o48 k hk).1)
  have o59 := OwnL.kept o58 hg9 HB4.out
  obtain ⟨A9, c9, hv9, r9⟩ := OwnL.rd o59 (by omega); injection hv9 with q1 _ q2; subst q1; subst q2
  have b9 := b3.trans e39
  have D0 := fun w' (e : Ext w9 w') => B w' (b9.trans e)
  clear D4' o48 o58 hg9 e38
  go_wp2_with fail
  refine (eqByteS_c _ _ _ _ _ _ _ r9 (r3.ext e39)).mono ?_; rintro _ w10 ⟨rfl, he10⟩
  have e3a := e39.trans he10; have oa := OwnL.ext o59 he10; clear r9 o59 D0 b9
  go_wp2_with fail
  refine (markByteS_c _ _ _ _ _ _ _ oa (by omega) (by omega)).mono ?_; rintro _ w11 ⟨rfl, ob, hg11⟩
  have e3b := e3a.grown hg11 (fun k hk => Nat.le_trans (he4.trans f4).size (World.ownsRow.lt oa k hk).1)
  have rb := Own.mk_rd ob (by omega); clear ob hg11 oa e3a
  go_wp2_with fail
  refine (heldByteS_c _ _ _ _ _ rb (by omega) (by omega)).mono ?_; rintro _ w12 ⟨rfl, he12⟩
  have e3c := e3b.trans he12
  have b12 := b3.trans e3c
  have D0 := fun w' (e : Ext w12 w') => B w' (b12.trans e)
  go_wp2_with fail
  refine (T1.out _ (h.ext (eb.trans b12)) hL).mono ?_; rintro _ w13 ⟨v13, rfl, ho13, he13⟩; obtain ⟨A13, c13, rfl, r13⟩ := OwnL.rd ho13 hl
  go_wp2_with fail
  refine (V2.out _ _ _ r13).mono ?_; rintro _ w14 ⟨v14, rfl, ho14, he14⟩; obtain ⟨A14, c14, rfl, r14⟩ := OwnL.rd ho14 (by omega)
  have eb14 := (he12.trans he13).trans he14
  have e3d := e3b.trans eb14
  clear ho13 r13 he13 he14 he12 ho14 e3b
  go_wp2_with fail
  refine (eqByteS_c _ _ _ _ _ _ _ r14 (r3.ext e3d)).mono ?_; rintro _ w15 ⟨rfl, he15⟩
  have rf := rb.ext (eb14.trans he15)
  clear r14 rb eb14
  go_wp2_with fail
  refine (heldByteS_c _ _ _ _ _ rf (by omega) (by omega)).mono ?_; rintro _ w16 ⟨rfl, he16⟩
  go_wp2
  go_ret
  exact ⟨rfl, (eb.trans b3).trans ((e3d.trans he15).trans he16)⟩
end Go.Proofs.Ytohejlknihleeaa
