/- The walk of the law on PackBytes. -/
import Derived.Test.YtdhagklecmbckaaBytes
import Derived.Test.YtdhagklecmbckaaPack
namespace Go.Proofs.Ytdhagklecmbckaa
open Go.RowKit Go.Sort

set_option maxRecDepth 100000 in
set_option maxHeartbeats 1000000 in
theorem lawPackBytes_c (A : Option Addr) (l : List UInt8) (c : Nat) (w : World) (h : Rd0 vu8 w A l c) :
    Gives Try.prog 14 #[.slice A l.length c] w (.bool true) := by
  have hl := h.len
  by_cases hL : l.length ≤ 1048576
  · have hL' : l.length ≤ 140737488351232 := by omega
    have hR : (pack l).length ≤ 2097152 := by have := pack_le l; omega
    have C1 := Lib.hid (fun A c w h => sPackBytes_c A l c w h (by omega)); have C2 := Lib.hid (fun A c w h => iPackBytes_c A l c w h (by omega))
    generalize pack l = R at *
    have hd : decide ((1048576 : Int) < (l.length : Int)) = false := by simp; omega
    go_enter Try.func14, Try.ntmps14
    go_wp2_with fail
    refine (toByteS_c _ _ _ _ h hL).mono ?_; rintro _ w1 ⟨v1, rfl, ho1, he1⟩; obtain ⟨A1, c1, rfl, r1⟩ := OwnL.rd ho1 hL'; clear ho1
    go_wp2_with fail
    refine (C1.out _ _ _ r1).mono ?_; rintro _ w2 ⟨v2, rfl, ho2, he2⟩; obtain ⟨A2, c2, rfl, r2⟩ := OwnL.rd ho2 (by omega)
    have e02 := he1.trans he2; clear he1 he2 r1 ho2
    go_wp2_with fail
    refine (toByteS_c _ _ _ _ (h.ext e02) hL).mono ?_; rintro _ w3 ⟨v3, rfl, ho3, he3⟩; obtain ⟨A3, c3, rfl, r3⟩ := OwnL.rd ho3 hL'
    go_wp2_with fail
    refine (C2.out _ _ _ r3).mono ?_; rintro _ w4 ⟨v4, rfl, ho4, he4⟩; obtain ⟨A4, c4, rfl, r4⟩ := OwnL.rd ho4 (by omega)
    have e24 := he3.trans he4
    go_wp2_with fail
    refine (eqByteS_c _ _ _ _ _ _ _ r4 (r2.ext e24)).mono ?_; rintro _ w5 ⟨rfl, he5⟩
    have e25 := e24.trans he5; have e35 := he4.trans he5
    go_wp2_with fail
    refine (toByteS_c _ _ _ _ (h.ext (e02.trans e25)) hL).mono ?_; rintro _ w6 ⟨v6, rfl, ho6, he6⟩; obtain ⟨A6, c6, rfl, r6⟩ := OwnL.rd ho6 hL'
    have e26 := e25.trans he6; have e36 := e35.trans he6; have e46 := he5.trans he6; clear e25 e35 he5 he6 e24
    go_wp2_with fail
    refine (eqByteS_c _ _ _ _ _ _ _ (r3.ext e36) r6).mono ?_; rintro _ w7 ⟨rfl, he7⟩
    have e27 := e26.trans he7; have e37 := e36.trans he7; have e47 := e46.trans he7; clear e26 e36 e46 he7 r6 ho6 r3 r4
    go_wp2_with fail
    refine (markByteS_c _ _ _ _ _ _ _ (Own.ext ho3 e37) (by omega) (by omega)).mono ?_; rintro _ w8 ⟨rfl, _, hg8⟩
    have e28 := e27.grown hg8 (fun k hk => (ho3.lt k hk).1)
    have ho8 := (ho4.ext e47).kept hg8 (OwnL.block ho3)
    obtain ⟨A8, c8, hv8, r8⟩ := ho8.rd (by omega); injection hv8 with q1 _ q2; subst q1; subst q2
    clear ho4 ho3 e47 hg8 e27
    go_wp2_with fail
    refine (eqByteS_c _ _ _ _ _ _ _ r8 (r2.ext e28)).mono ?_; rintro _ w9 ⟨rfl, he9⟩
    have e29 := e28.trans he9; have ho9 := ho8.ext he9; clear r8 ho8 e28 he9
    go_wp2_with fail
    refine (markByteS_c _ _ _ _ _ _ _ ho9 (by omega) (by omega)).mono ?_; rintro _ w10 ⟨rfl, ho10, hg10⟩
    have e2a := e29.grown hg10 (fun k hk => Nat.le_trans he3.size (ho9.lt k hk).1)
    have r10 := Own.mk_rd ho10 (by omega); clear ho10 hg10 ho9 e29
    go_wp2_with fail
    refine (heldByteS_c _ _ _ _ _ r10 (by omega) (by omega)).mono ?_; rintro _ w11 ⟨rfl, he11⟩
    have e2b := e2a.trans he11
    go_wp2_with fail
    refine (toByteS_c _ _ _ _ (h.ext (e02.trans e2b)) hL).mono ?_; rintro _ w12 ⟨v12, rfl, ho12, he12⟩; obtain ⟨A12, c12, rfl, r12⟩ := OwnL.rd ho12 hL'
    have e2c := e2b.trans he12; have f12 := he11.trans he12; clear e2b e2a he11 he12 ho12
    go_wp2_with fail
    refine (C2.out _ _ _ r12).mono ?_; rintro _ w13 ⟨v13, rfl, ho13, he13⟩; obtain ⟨A13, c13, rfl, r13⟩ := OwnL.rd ho13 (by omega)
    have e2d := e2c.trans he13; have f13 := f12.trans he13; clear e2c f12 he13 ho13
    go_wp2_with fail
    refine (eqByteS_c _ _ _ _ _ _ _ r13 (r2.ext e2d)).mono ?_; rintro _ w14 ⟨rfl, he14⟩
    have e2e := e2d.trans he14; have f14 := f13.trans he14; clear e2d f13 he14 r13
    go_wp2_with fail
    refine (heldByteS_c _ _ _ _ _ (r10.ext f14) (by omega) (by omega)).mono ?_; rintro _ w15 ⟨rfl, he15⟩
    go_wp2
    go_ret
    exact ⟨rfl, e02.trans (e2e.trans he15)⟩
  · have hd : decide ((1048576 : Int) < (l.length : Int)) = true := by simp; omega
    go_enter Try.func14, Try.ntmps14
    go_wp2
    go_ret
    exact ⟨rfl, Ext.refl _⟩
end Go.Proofs.Ytdhagklecmbckaa
