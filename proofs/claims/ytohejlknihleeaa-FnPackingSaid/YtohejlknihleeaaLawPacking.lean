/- The law on packing: what PackBytes lays is unpacked, short, of the size named, and packed; bent bytes are unpacked as the reference says. -/
import Derived.Test.YtohejlknihleeaaBent
import Derived.Test.YtohejlknihleeaaLawUnpack
namespace Go.Proofs.Ytohejlknihleeaa
open Go.RowKit Go.Sort

set_option maxRecDepth 100000 in
set_option maxHeartbeats 4000000 in
theorem lawPacking_c (A : Option Addr) (l : List UInt8) (c : Nat) (w : World) (h : Rd0 vu8 w A l c) :
    Gives Try.prog 6 #[.slice A l.length c] w (.bool true) := by
  have hl := h.len
  go_enter Try.func6, Try.ntmps6
  go_wp2_with fail
  refine (big_c _ _ _ _ h).mono ?_; rintro _ w1 ⟨rfl, he1⟩
  by_cases hL : l.length ≤ 1048576
  · have hd : decide ((1048576 : Int) < (l.length : Int)) = false := by simp; omega
    rw [hd]
    go_wp2_with fail
    refine (drawPack_c A l c w1 ⟨h.ext he1, by omega⟩).mono ?_; rintro _ w2 ⟨v, q, hq, rfl, ho, he2⟩
    obtain ⟨A2, c2, rfl, rq⟩ := ho.rd (by omega); clear ho
    have e2 := he1.trans he2; clear he1 he2
    have CPS := Lib.hid (fun w' (e : Ext w2 w') => iPackedSize_c A2 q c2 w' (rq.ext e) (by omega))
    have hpl := pack_short q
    have hup := unpack_pack q (by omega)
    have CPB := Lib.hid (iPackBytes_c A2 q c2 w2 rq (by omega))
    generalize pack q = p at *
    go_wp2_with fail
    refine CPB.out.mono ?_; rintro _ w3 ⟨v, rfl, ho, he3⟩
    obtain ⟨A3, c3, rfl, rp⟩ := ho.rd (by omega); clear ho CPB
    have e3 := e2.trans he3
    go_wp2_with fail
    refine (iUnpackBytes_c A3 p c3 w3 rp).mono ?_; rintro _ w4 ⟨v, rfl, ho, he4⟩
    rw [hup] at ho ⊢
    obtain ⟨A4, c4, rfl, ru⟩ := ho.rd (by simp; omega); clear ho
    have e4 := e3.trans he4; have e24 := he3.trans he4
    go_wp2_with fail
    refine (drawUnpack_c A l c w4 ⟨h.ext e4, by omega⟩).mono ?_; rintro _ w5 ⟨v, m, hm, rfl, ho, he5⟩
    obtain ⟨A5, c5, rfl, rm⟩ := ho.rd (by omega); clear ho
    have hR := unpack_le m
    have C1 := Lib.hid (fun A c w => sUnpackBytes_c A m c w); have C2 := Lib.hid (fun A c w => iUnpackBytes_c A m c w); have C3 := Lib.hid (fun A c w => iIsPacked_c A m c w)
    generalize (unpack m).getD [] = R at *
    generalize (unpack m).isSome = ok at *
    go_wp2_with fail
    refine (C2.out A5 c5 w5 rm).mono ?_; rintro _ w6 ⟨v, rfl, ho, he6⟩
    obtain ⟨A6, c6, rfl, r6⟩ := ho.rd (by omega); clear ho
    go_wp2_with fail
    refine (C1.out A5 c5 w6 (rm.ext he6)).mono ?_; rintro _ w7 ⟨v, rfl, ho, he7⟩
    obtain ⟨A7, c7, rfl, r7⟩ := ho.rd (by omega); clear ho
    have e57 := he6.trans he7
    have e47 := he5.trans e57
    have e37 := he4.trans e47
    have e27 := he3.trans e37
    have et := e2.trans e27
    have hq0 : ((some q : Option (List UInt8)).getD []) = q := rfl
    rw [hq0] at ru
    have s1 : (p.length : Int) ≤ (q.length : Int) + (q.length : Int) / 100 + 2 := by omega
    go_wp2_with fail
    refine (sameBytes_c _ _ _ _ _ _ w7 (ru.ext e47) (rq.ext e27)).mono ?_; rintro _ w8 ⟨rfl, he8⟩
    have hqq : (q == q) = true := by simp
    rw [hqq]
    go_wp2_with fail
    refine (CPS.out w8 (e27.trans he8)).mono ?_; rintro _ w9 ⟨rfl, he9⟩
    have e79 := he8.trans he9
    go_wp2_with fail
    refine (iIsPacked_c A3 p c3 w9 (rp.ext (e37.trans e79))).mono ?_; rintro _ w10 ⟨rfl, he10⟩
    rw [hup]
    have e7a := e79.trans he10
    go_wp2_with fail
    refine (sameBytes_c _ _ _ _ _ _ w10 (r6.ext (he7.trans e7a)) (r7.ext e7a)).mono ?_; rintro _ w11 ⟨rfl, he11⟩
    have hRR : (R == R) = true := by simp
    rw [hRR]
    have e7b := e7a.trans he11
    go_wp2_with fail
    refine (C3.out A5 c5 w11 (rm.ext (e57.trans e7b))).mono ?_; rintro _ w12 ⟨rfl, he12⟩
    go_wp2
    go_ret
    exact ⟨by simp, et.trans (e7b.trans he12)⟩
  · have hd : decide ((1048576 : Int) < (l.length : Int)) = true := by simp; omega
    rw [hd]
    go_wp2
    go_ret
    exact ⟨rfl, he1⟩
end Go.Proofs.Ytohejlknihleeaa
