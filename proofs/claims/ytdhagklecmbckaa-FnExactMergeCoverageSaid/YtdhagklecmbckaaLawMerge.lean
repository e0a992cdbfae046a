/- The walk of the law on MergeCoverage. -/
import Derived.Test.YtdhagklecmbckaaMerge
namespace Go.Proofs.Ytdhagklecmbckaa
open Go.RowKit Go.Sort

set_option maxRecDepth 100000 in
set_option maxHeartbeats 2000000 in
theorem lawMerge_c (A A' : Option Addr) (l l' : List Int) (c c' : Nat) (w : World) (h : Rd0 vint w A l c) (h' : Rd0 vint w A' l' c') (hw : ∀ i, wrap64 (at0 l i) = at0 l i) :
    Gives Try.prog 8 #[.slice A l.length c, .slice A' l'.length c'] w (.bool true) := by
  have hl := h.len
  have hl' := h'.len
  by_cases hL : l.length ≤ 1048576
  · have hd : decide ((1048576 : Int) < (l.length : Int)) = false := by simp; omega
    by_cases hM : l'.length ≤ 1048576
    · have hd' : decide ((1048576 : Int) < (l'.length : Int)) = false := by simp; omega
      have q1 : l.length ≤ 140737488351232 := by omega
      have q2 : l'.length ≤ 140737488351232 := by omega
      have hR : (merged l l').length ≤ 1048576 := by rw [merged_len]; omega
      have C1 := Lib.hid (fun A c A' c' w h h' => sMerge_c A A' l l' c c' w h h' hL hM hw)
      have C2 := Lib.hid (fun A c A' c' w h h' => iMerge_c A A' l l' c c' w h h' hL hM)
      generalize merged l l' = R at *
      clear hw
      go_enter Try.func8, Try.ntmps8
      go_wp2_with fail
      refine (toIntS_c _ _ _ _ h hL).mono ?_; rintro _ w1 ⟨v1, rfl, ho1, he1⟩; obtain ⟨A1, c1, rfl, r1⟩ := OwnL.rd ho1 q1
      go_wp2_with fail
      refine (toIntS_c _ _ _ _ (h'.ext he1) hM).mono ?_; rintro _ w2 ⟨v2, rfl, ho2, he2⟩; obtain ⟨A2, c2, rfl, r2⟩ := OwnL.rd ho2 q2
      go_wp2_with fail
      refine (C1.out _ _ _ _ _ (r1.ext he2) r2).mono ?_; rintro _ w3 ⟨v3, rfl, ho3, he3⟩; obtain ⟨A3, c3, rfl, r3⟩ := OwnL.rd ho3 (by omega)
      have e03 := (he1.trans he2).trans he3; clear he1 he2 he3 ho1 ho2 ho3 r1 r2
      go_wp2_with fail
      refine (toIntS_c _ _ _ _ (h.ext e03) hL).mono ?_; rintro _ w4 ⟨v4, rfl, ho4, he4⟩; obtain ⟨A4, c4, rfl, r4⟩ := OwnL.rd ho4 q1
      go_wp2_with fail
      refine (toIntS_c _ _ _ _ (h'.ext (e03.trans he4)) hM).mono ?_; rintro _ w5 ⟨v5, rfl, ho5, he5⟩; obtain ⟨A5, c5, rfl, r5⟩ := OwnL.rd ho5 q2
      go_wp2_with fail
      refine (C2.out _ _ _ _ _ (r4.ext he5) r5).mono ?_; rintro _ w6 ⟨v6, rfl, ho6, he6⟩; obtain ⟨A6, c6, rfl, r6⟩ := OwnL.rd ho6 (by omega)
      have e36 := (he4.trans he5).trans he6; have e46 := he5.trans he6
      go_wp2_with fail
      refine (eqIntS_c _ _ _ _ _ _ _ r6 (r3.ext e36)).mono ?_; rintro _ w7 ⟨rfl, he7⟩
      have e37 := e36.trans he7; have e47 := e46.trans he7; have e57 := he6.trans he7; have e67 := he7; clear e36 e46 he7
      go_wp2_with fail
      refine (toIntS_c _ _ _ _ (h.ext (e03.trans e37)) hL).mono ?_; rintro _ w8 ⟨v8, rfl, ho8, he8⟩; obtain ⟨A8, c8, rfl, r8⟩ := OwnL.rd ho8 q1
      go_wp2_with fail
      refine (eqIntS_c _ _ _ _ _ _ _ (r4.ext (e47.trans he8)) r8).mono ?_; rintro _ w9 ⟨rfl, he9⟩
      have f9 := he8.trans he9; have e39 := e37.trans f9; have e49 := e47.trans f9; have e59 := e57.trans f9; have e69 := e67.trans f9; clear e37 e47 e57 e67 he8 he9 f9 ho8 r8
      go_wp2_with fail
      refine (toIntS_c _ _ _ _ (h'.ext (e03.trans e39)) hM).mono ?_; rintro _ w10 ⟨v10, rfl, ho10, he10⟩; obtain ⟨A10, c10, rfl, r10⟩ := OwnL.rd ho10 q2
      go_wp2_with fail
      refine (eqIntS_c _ _ _ _ _ _ _ (r5.ext (e59.trans he10)) r10).mono ?_; rintro _ w11 ⟨rfl, he11⟩
      have f11 := he10.trans he11; have e3 := e39.trans f11; have e4 := e49.trans f11; have e5 := e59.trans f11; have e6 := e69.trans f11; clear e39 e49 e59 e69 he10 he11 f11 ho10 r10 r4 r5 r6
      go_wp2_with fail
      refine (markIntS_c _ _ _ _ _ _ _ (Own.ext ho4 e4) (by omega) (by omega)).mono ?_; rintro _ w12 ⟨rfl, _, hg⟩
      have e3a := e3.grown hg (fun k hk => (ho4.lt k hk).1)
      have ho5a := (OwnL.ext ho5 e5).kept hg (OwnL.block ho4)
      have ho6a := (OwnL.ext ho6 e6).kept hg (fun g hg => Nat.lt_of_lt_of_le (OwnL.block ho4 g hg) he5.size)
      clear hg e3 e4 e5 e6 ho6
      go_wp2_with fail
      refine (markIntS_c _ _ _ _ _ _ _ ho5a (by omega) (by omega)).mono ?_; rintro _ w13 ⟨rfl, _, hg⟩
      have e3b := e3a.grown hg (fun k hk => Nat.le_trans he4.size (ho5.lt k hk).1)
      have ho6b := ho6a.kept hg (OwnL.block ho5)
      obtain ⟨A13, c13, hv, r13⟩ := ho6b.rd (by omega); injection hv with p1 _ p2; subst p1; subst p2
      clear hg e3a ho5a ho6a
      go_wp2_with fail
      refine (eqIntS_c _ _ _ _ _ _ _ r13 (r3.ext e3b)).mono ?_; rintro _ w14 ⟨rfl, he14⟩
      have e3c := e3b.trans he14; have ho6c := ho6b.ext he14; clear e3b he14 ho6b r13
      go_wp2_with fail
      refine (markIntS_c _ _ _ _ _ _ _ ho6c (by omega) (by omega)).mono ?_; rintro _ w15 ⟨rfl, ho15, hg⟩
      have e3d := e3c.grown hg (fun k hk => Nat.le_trans (he4.trans he5).size (ho6c.lt k hk).1)
      have r15 := Own.mk_rd ho15 (by omega); clear ho15 hg ho6c e3c
      go_wp2_with fail
      refine (heldIntS_c _ _ _ _ _ r15 (by omega) (by omega)).mono ?_; rintro _ w16 ⟨rfl, he16⟩
      have e3e := e3d.trans he16
      go_wp2_with fail
      refine (toIntS_c _ _ _ _ (h.ext (e03.trans e3e)) hL).mono ?_; rintro _ w17 ⟨v17, rfl, ho17, he17⟩; obtain ⟨A17, c17, rfl, r17⟩ := OwnL.rd ho17 q1
      have e3f := e3e.trans he17
      go_wp2_with fail
      refine (toIntS_c _ _ _ _ (h'.ext (e03.trans e3f)) hM).mono ?_; rintro _ w18 ⟨v18, rfl, ho18, he18⟩; obtain ⟨A18, c18, rfl, r18⟩ := OwnL.rd ho18 q2
      go_wp2_with fail
      refine (C2.out _ _ _ _ _ (r17.ext he18) r18).mono ?_; rintro _ w19 ⟨v19, rfl, ho19, he19⟩; obtain ⟨A19, c19, rfl, r19⟩ := OwnL.rd ho19 (by omega)
      have e3g := (e3f.trans he18).trans he19; have f19 := ((he16.trans he17).trans he18).trans he19
      clear e3d e3e e3f he16 he17 he18 he19 ho17 ho18 ho19 r17 r18
      go_wp2_with fail
      refine (eqIntS_c _ _ _ _ _ _ _ r19 (r3.ext e3g)).mono ?_; rintro _ w20 ⟨rfl, he20⟩
      go_wp2_with fail
      refine (heldIntS_c _ _ _ _ _ (r15.ext (f19.trans he20)) (by omega) (by omega)).mono ?_; rintro _ w21 ⟨rfl, he21⟩
      go_wp2
      go_ret
      exact ⟨rfl, ((e03.trans e3g).trans he20).trans he21⟩
    · have hd' : decide ((1048576 : Int) < (l'.length : Int)) = true := by simp; omega
      go_enter Try.func8, Try.ntmps8
      go_wp2
      go_ret
      exact ⟨rfl, Ext.refl _⟩
  · have hd : decide ((1048576 : Int) < (l.length : Int)) = true := by simp; omega
    go_enter Try.func8, Try.ntmps8
    go_wp2
    go_ret
    exact ⟨rfl, Ext.refl _⟩
end Go.Proofs.Ytdhagklecmbckaa
