/- HexLines of the program, and the walk of the law on HexLines. -/
import Derived.Test.YtdbbdoldndnbhaaDoorZHx3
import Derived.Test.YtdbbdoldndnbhaaDoorRows
import Derived.Stop.LaidErr
import Derived.LaidLaws
set_option linter.unusedVariables false
set_option linter.unusedSimpArgs false
namespace Go.Proofs.YtdbbdoldndnbhaaDoor
open Go.RowKit Go.Sort

set_option maxRecDepth 100000 in
set_option maxHeartbeats 2000000 in
theorem iHexLines_c (A : Option Addr) (l : List UInt8) (c : Nat) (wd : Int) (w : World) (h : Bs w A l c) (hT : Tab w) (hL : l.length ≤ 1048576) :
    Calls Tryd.prog 28 #[.slice A l.length c, .int .i64 wd] w fun e w' => ∃ v, e = .returned v ∧ OwnL vstr 9 w w' v (hexLs l wd) ∧ Ext w w' := by
  have eb := Ext_alloc (.cells #[.int .i64 wd] 3) (Ext_alloc (.cells #[.slice A l.length c] 44) (Ext.refl w))
  have BX := fun w' (e : Ext ((w.alloc (.cells #[.slice A l.length c] 44)).alloc (.cells #[.int .i64 wd] 3)) w') => boxed2 e
  have B0 := fun w' e => (BX w' e).1 0
  have B1 := fun w' e => (BX w' e).2.1 0
  clear BX
  by_cases hw : 1 ≤ wd ∧ wd ≤ 64
  · obtain ⟨m, rfl⟩ : ∃ m : Nat, wd = (m : Int) := ⟨wd.toNat, by omega⟩
    have hm : 0 < m ∧ m ≤ 64 := by omega
    have HR : Hid (hexLs l (m : Int) = linesH l m (nH l.length m)) := by show _ = _; unfold hexLs; rw [if_pos hw]; simp
    rw [HR.out]
    have HI : Hid ((decide ((1 : Int) ≤ (m : Int)) && decide ((m : Int) ≤ 64)) = true) := by show _ = _; simp; omega
    clear hw HR
    go_enter Tryd.func28, Tryd.ntmps28
    go_wp2_with fail
    refine (iInRange_c (m : Int) 1 64 _).mono ?_; rintro _ w1 ⟨rfl, s1⟩; rw [HI.out]
    have e1 := eb.trans s1
    have C := Lib.hid (collect_in 8 (by omega) w1 w.heap.size (w.heap.size + 1) A l c m hm hL (h.ext e1) (hT.ext e1) (fun w' e => B0 w' (s1.trans e)) (fun w' e => B1 w' (s1.trans e)))
    go_wp2_with fail
    refine (callsIn_wide.1 C.out).mono ?_; rintro _ w2 ⟨v2, rfl, ho2, s2⟩
    have ho := Lib.hid (OwnL.lower ho2 e1)
    go_wp2
    go_ret
    exact ⟨v2, rfl, ho.out, e1.trans s2⟩
  · have HR : Hid (hexLs l wd = []) := if_neg hw
    rw [HR.out]
    have HI : Hid ((decide ((1 : Int) ≤ wd) && decide (wd ≤ 64)) = false) := by show _ = _; rw [Bool.and_eq_false_iff]; simp; omega
    clear hw HR
    go_enter Tryd.func28, Tryd.ntmps28
    go_wp2_with fail
    refine (iInRange_c wd 1 64 _).mono ?_; rintro _ w1 ⟨rfl, s1⟩; rw [HI.out]
    have e1 := eb.trans s1
    have HO : Hid (OwnL vstr 9 w (w1.alloc (.cells #[] 9)) (.slice (some ⟨w1.heap.size, 0, none⟩) 0 0) []) := OwnL.lower (OwnL.empty (f := vstr) (e := 9) (Ext.refl w1)) e1
    go_wp2
    go_ret
    exact ⟨_, rfl, HO.out, Ext_alloc _ e1⟩
set_option maxRecDepth 100000 in
set_option maxHeartbeats 4000000 in
theorem lawHexLines_c (A : Option Addr) (l : List UInt8) (c : Nat) (wd : Int) (w : World) (h : Rd0 vu8 w A l c) (hT : Tab w) :
    Gives Tryd.prog 6 #[.slice A l.length c, .int .i64 wd] w (.bool true) := by
  have hl := h.len
  by_cases hL : l.length ≤ 1048576
  · have hL' : l.length ≤ 140737488351232 := by omega
    have HT := Lib.hid hT; clear hT
    have C1 := Lib.hid (fun A c w h => sHexLines_c A l c wd w h hL); have C2 := Lib.hid (fun A c w h hT => iHexLines_c A l c wd w h hT hL)
    have LR : (hexLs l wd).length ≤ 1048576 := by have := hexLs_len l wd; omega
    generalize hexLs l wd = R at *
    have HRR : Hid (eqNms R R = true) := eqNms_refl _
    have hd : decide ((1048576 : Int) < (l.length : Int)) = false := by simp; omega
    go_enter Tryd.func6, Tryd.ntmps6
    go_wp2_with fail
    refine (toByteS_c _ _ _ _ h hL).mono ?_; rintro _ w1 ⟨v1, rfl, ho1, he1⟩; obtain ⟨A1, c1, rfl, r1⟩ := OwnL.rd ho1 hL'; clear ho1
    go_wp2_with fail
    refine (C1.out _ _ _ r1).mono ?_; rintro _ w2 ⟨v2, rfl, ho2, he2⟩; obtain ⟨A2, c2, rfl, r2⟩ := OwnL.rd ho2 (by omega)
    have b2 := he1.trans he2; clear he1 he2 r1 ho2
    go_wp2_with fail
    refine (toByteS_c _ _ _ _ (h.ext b2) hL).mono ?_; rintro _ w3 ⟨v3, rfl, ho3, he3⟩; obtain ⟨A3, c3, rfl, r3⟩ := OwnL.rd ho3 hL'
    go_wp2_with fail
    refine (C2.out _ _ _ r3 (HT.out.ext (b2.trans he3))).mono ?_; rintro _ w4 ⟨v4, rfl, ho4, he4⟩; obtain ⟨A4, c4, rfl, r4⟩ := OwnL.rd ho4 (by omega)
    have e24 := he3.trans he4
    go_wp2_with fail
    refine (eqStringS_c _ _ _ _ _ _ _ r4.1 (r2.ext e24).1).mono ?_; rintro _ w5 ⟨rfl, he5⟩; rw [HRR.out]
    have e25 := e24.trans he5; have e35 := he4.trans he5
    go_wp2_with fail
    refine (toByteS_c _ _ _ _ (h.ext (b2.trans e25)) hL).mono ?_; rintro _ w6 ⟨v6, rfl, ho6, he6⟩; obtain ⟨A6, c6, rfl, r6⟩ := OwnL.rd ho6 hL'
    have e26 := e25.trans he6; have e36 := e35.trans he6; have e46 := he5.trans he6; clear e25 e35 he5 he6 e24
    go_wp2_with fail
    refine (eqByteS_c _ _ _ _ _ _ _ (r3.ext e36) r6).mono ?_; rintro _ w7 ⟨rfl, he7⟩
    have e27 := e26.trans he7; have e37 := e36.trans he7; have e47 := e46.trans he7; clear e26 e36 e46 he7 r6 ho6 r3 r4
    have o37 := OwnL.ext ho3 e37; have o47 := OwnL.ext ho4 e47
    have HB3 := Lib.hid (OwnL.block ho3)
    clear ho4
    go_wp2_with fail
    refine (markByteS_c _ _ _ _ _ _ _ o37 (by omega) (by omega)).mono ?_; rintro _ w8 ⟨rfl, _, hg8⟩
    have e28 := e27.grown hg8 (fun k hk => (World.ownsRow.lt o37 k hk).1)
    have o48 := OwnL.kept o47 hg8 HB3.out
    obtain ⟨A8, c8, hv8, r8⟩ := OwnL.rd o48 (by omega); injection hv8 with q1 _ q2; subst q1; subst q2
    clear hg8 o37 o47 e27 e37 e47
    go_wp2_with fail
    refine (eqStringS_c _ _ _ _ _ _ _ r8.1 (r2.ext e28).1).mono ?_; rintro _ w9 ⟨rfl, he9⟩; rw [HRR.out]
    have e29 := e28.trans he9
    have o49 := OwnL.lower (OwnL.ext o48 he9) he3
    clear r8 o48 e28
    go_wp2_with fail
    refine (markStringS_c _ _ _ 1 _ _ _ o49 (by omega) (by omega)).mono ?_; rintro _ w10 ⟨rfl, om, gm⟩
    have e2a := e29.grown gm (fun b hb => (World.ownsRow.lt o49 b hb).1)
    have rm := Own.mk_rd om (by omega)
    clear om gm o49 e29
    go_wp2_with fail
    refine (heldStringS_c _ _ _ 1 _ rm (by omega) (by omega)).mono ?_; rintro _ w11 ⟨rfl, he11⟩
    have e2b := e2a.trans he11
    go_wp2_with fail
    refine (toByteS_c _ _ _ _ (h.ext (b2.trans e2b)) hL).mono ?_; rintro _ w12 ⟨v12, rfl, ho12, he12⟩; obtain ⟨A12, c12, rfl, r12⟩ := OwnL.rd ho12 hL'
    go_wp2_with fail
    refine (C2.out _ _ _ r12 (HT.out.ext ((b2.trans e2b).trans he12))).mono ?_; rintro _ w13 ⟨v13, rfl, ho13, he13⟩; obtain ⟨A13, c13, rfl, r13⟩ := OwnL.rd ho13 (by omega)
    have eb := (he11.trans he12).trans he13
    go_wp2_with fail
    refine (eqStringS_c _ _ _ _ _ _ _ r13.1 (r2.ext (e2a.trans eb)).1).mono ?_; rintro _ w14 ⟨rfl, he14⟩; rw [HRR.out]
    go_wp2_with fail
    refine (heldStringS_c _ _ _ 1 _ (rm.ext (eb.trans he14)) (by omega) (by omega)).mono ?_; rintro _ w15 ⟨rfl, he15⟩
    go_wp2
    go_ret
    exact ⟨rfl, (b2.trans e2a).trans ((eb.trans he14).trans he15)⟩
  · have hd : decide ((1048576 : Int) < (l.length : Int)) = true := by simp; omega
    go_enter Tryd.func6, Tryd.ntmps6
    go_wp2
    go_ret
    exact ⟨rfl, Ext.refl _⟩
end Go.Proofs.YtdbbdoldndnbhaaDoor

/- The tables that the rows of this seat list, as a call finds them. -/
namespace Go.Proofs.YtdbbdoldndnbhaaDoor
open Go.RowKit

noncomputable def laidWorld (os : Os) : World :=
  { World.holding Tryd.prog os ⟨#[], #[], []⟩ with heap := ((((World.holding Tryd.prog os ⟨#[], #[], []⟩).heap.modify 2 fun
      | .cells _ t frozen => .cells #[.int .u8 0, .int .u8 1, .int .u8 28, .int .u8 2, .int .u8 29, .int .u8 14, .int .u8 24, .int .u8 3, .int .u8 30, .int .u8 22, .int .u8 20, .int .u8 15, .int .u8 25, .int .u8 17, .int .u8 4, .int .u8 8, .int .u8 31, .int .u8 27, .int .u8 13, .int .u8 23, .int .u8 21, .int .u8 19, .int .u8 16, .int .u8 7, .int .u8 26, .int .u8 12, .int .u8 18, .int .u8 6, .int .u8 11, .int .u8 5, .int .u8 10, .int .u8 9] t frozen
      | o => o).modify 3 fun
      | .cells _ t frozen => .cells #[.int .u8 0, .int .u8 1, .int .u8 56, .int .u8 2, .int .u8 57, .int .u8 49, .int .u8 28, .int .u8 3, .int .u8 61, .int .u8 58, .int .u8 42, .int .u8 50, .int .u8 38, .int .u8 29, .int .u8 17, .int .u8 4, .int .u8 62, .int .u8 47, .int .u8 59, .int .u8 36, .int .u8 45, .int .u8 43, .int .u8 51, .int .u8 22, .int .u8 53, .int .u8 39, .int .u8 33, .int .u8 30, .int .u8 24, .int .u8 18, .int .u8 12, .int .u8 5, .int .u8 63, .int .u8 55, .int .u8 48, .int .u8 27, .int .u8 60, .int .u8 41, .int .u8 37, .int .u8 16, .int .u8 46, .int .u8 35, .int .u8 44, .int .u8 21, .int .u8 52, .int .u8 32, .int .u8 23, .int .u8 11, .int .u8 54, .int .u8 26, .int .u8 40, .int .u8 15, .int .u8 34, .int .u8 20, .int .u8 31, .int .u8 10, .int .u8 25, .int .u8 14, .int .u8 19, .int .u8 9, .int .u8 13, .int .u8 8, .int .u8 7, .int .u8 6] t frozen
      | o => o).modify 0 fun
      | .cells _ t frozen => .cells #[.int .u64 1, .int .u64 10, .int .u64 100, .int .u64 1000, .int .u64 10000, .int .u64 100000, .int .u64 1000000, .int .u64 10000000, .int .u64 100000000, .int .u64 1000000000, .int .u64 10000000000, .int .u64 100000000000, .int .u64 1000000000000, .int .u64 10000000000000, .int .u64 100000000000000, .int .u64 1000000000000000, .int .u64 10000000000000000, .int .u64 100000000000000000, .int .u64 1000000000000000000, .int .u64 10000000000000000000] t frozen
      | o => o) }
def doorList : List (String × DataW Unit) := [("math/bits.deBruijn32tab", Rows.laid_math_bits_deBruijn32tab), ("math/bits.deBruijn64tab", Rows.laid_math_bits_deBruijn64tab), ("internal/strconv.uint64pow10", Rows.laid_internal_strconv_uint64pow10)]
theorem gTab : Tryd.prog.globalNamed "internal/strconv.uint64pow10" = some 0 := by kernel_rfl
theorem gTabType : (Tryd.prog.globals[0]?).map (·.type) = some 142 := by kernel_rfl
theorem cellsTab : Tryd.prog.cellsOf 142 = 20 := by kernel_rfl
theorem cellsU64 : Tryd.prog.cellsOf 133 = 1 := by kernel_rfl
theorem tab_of_laid {W : World} (h : laidMetH Tryd.prog doorList W) : Tab W := by
  have h0 : laidMet Tryd.prog doorList W := h
  have h1 : laidMet Tryd.prog [("internal/strconv.uint64pow10", Lib.tabData .u64 Lib.pow10Tab)] W := h0.tail.tail
  exact Lib.tabIs_of_head (rest := []) gTab gTabType Tryd.underlying142 Tryd.underlying133 cellsU64 cellsTab h1
end Go.Proofs.YtdbbdoldndnbhaaDoor
