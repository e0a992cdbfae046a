/- The walk of the law on EqualRecords. -/
import Derived.Test.YtdhagklecmbckaaRecord
import Derived.Deep.RegionHeld3
namespace Go.Proofs.Ytdhagklecmbckaa
open Go.RowKit Go.Sort

theorem szR_lo (n m : Nat) (left : Int) (h : left ≤ 1048576) (h0 : 0 ≤ left) : -1 ≤ szR n m left ∧ szR n m left ≤ 1048576 := by
  unfold szR szN; split
  · omega
  · split <;> omega
theorem szR_len {n m : Nat} {left : Int} (h : left ≤ 1048576) (h0 : 0 ≤ left) : 0 ≤ szR n m left → m ≤ 1048576 := by
  unfold szR szN
  intro hh
  split at hh
  · omega
  · split at hh
    · omega
    · omega
set_option maxRecDepth 100000 in
set_option maxHeartbeats 2000000 in
theorem lawEqualRecords_c (k : Int) (nm : ByteArray) (ver : Int) (A : Option Addr) (l : List UInt8) (c : Nat) (k' : Int) (nm' : ByteArray) (ver' : Int) (A' : Option Addr) (l' : List UInt8) (c' : Nat) (w : World) (h : Rd0 vu8 w A l c) (h' : Rd0 vu8 w A' l' c') (hn : nm.size ≤ 9223372036854775807) (hn' : nm'.size ≤ 9223372036854775807) :
    Gives Try.prog 10 #[vrec k nm ver (.slice A l.length c), vrec k' nm' ver' (.slice A' l'.length c')] w (.bool true) := by
  have Z1 := Lib.hid (fun left w h h0 h1 => szRecord_c k nm ver A l c left w h hn h0 h1)
  have Z2 := Lib.hid (fun left w h h0 h1 => szRecord_c k' nm' ver' A' l' c' left w h hn' h0 h1)
  have T1 := Lib.hid (fun w h hL => toRecord_c k nm ver A l c w h hL)
  have T2 := Lib.hid (fun w h hL => toRecord_c k' nm' ver' A' l' c' w h hL)
  have hz := szR_lo nm.size l.length 1048576 (by omega) (by omega)
  have hz1 : 0 ≤ szR nm.size l.length 1048576 → l.length ≤ 1048576 := szR_len (by omega) (by omega)
  generalize hzz : szR nm.size l.length 1048576 = z at *
  have hz2 : 0 ≤ szR nm'.size l'.length z → 0 ≤ z → l'.length ≤ 1048576 := fun h h2 => szR_len hz.2 h2 h
  have hz3 := szR_lo nm'.size l'.length z
  generalize hyy : szR nm'.size l'.length z = y at *
  have HZ := Lib.hid hzz; have HY := Lib.hid hyy; clear hzz hyy
  have eb := Ext_alloc (.cells #[.int .i64 k', .string nm', .int .i64 ver', .slice A' l'.length c'] 48) (Ext_alloc (.cells #[.int .i64 k, .string nm, .int .i64 ver, .slice A l.length c] 48) (Ext.refl w))
  unfold vrec at *
  go_enter Try.func10, Try.ntmps10
  go_wp2_with fail
  refine (Z1.out _ _ (h.ext eb) (by omega) (by omega)).mono ?_; rintro _ w1 ⟨rfl, he1⟩
  rw [HZ.out]
  by_cases c1 : z < 0
  · go_wp2
    go_ret
    exact ⟨rfl, eb.trans he1⟩
  obtain ⟨b0, b1, _⟩ := boxed2 he1
  go_wp2_with fail
  refine (Z2.out _ _ (h'.ext (eb.trans he1)) (by omega) (by omega)).mono ?_; rintro _ w2 ⟨rfl, he2⟩
  rw [HY.out]
  have e2 := he1.trans he2; clear he1 he2 b0 b1
  by_cases c2 : y < 0
  · go_wp2
    go_ret
    exact ⟨rfl, eb.trans e2⟩
  have hL := hz1 (by omega); have hL' := hz2 (by omega) (by omega)
  have hl : l.length ≤ 140737488351232 := by omega
  have hl' : l'.length ≤ 140737488351232 := by omega
  have B0 := fun w' (e : Ext w2 w') => (boxed2 (e2.trans e)).1
  have B1 := fun w' (e : Ext w2 w') => (boxed2 (e2.trans e)).2.1
  have eb2 := eb.trans e2
  go_wp2_with fail
  go_region_held3 (fun w' => Ext w2 w') (first | assumption | exact Ext_drew (Ext.refl _) | exact Ext.trans (by assumption) (by assumption)) (first
    | (go_at_call 53; (with_reducible refine (T1.out _ ?_ hL).mono ?_); (exact h.ext (eb2.trans (by assumption))); rintro _ w3 ⟨v3, rfl, ho3, he3⟩; obtain ⟨A3, c3, rfl, r3⟩ := OwnL.rd ho3 hl)
    | (go_at_call 53; (with_reducible refine (T2.out _ ?_ hL').mono ?_); (exact h'.ext (eb2.trans (by assumption))); rintro _ w4 ⟨v4, rfl, ho4, he4⟩; obtain ⟨A4, c4, rfl, r4⟩ := OwnL.rd ho4 hl')
    | (go_at_call 52; refine (sEqualRecords_c _ _ _ _ _ _ _ _ _ _ _ _ _ (r3.ext he4) r4).mono ?_; rintro _ w5 ⟨rfl, he5⟩))
  have e5 : Ext w2 w5 := by assumption
  clear he5 r3 r4 ho3 ho4 he4
  go_wp2_with fail
  refine (T1.out _ (h.ext (eb2.trans e5)) hL).mono ?_; rintro _ w6 ⟨v6, rfl, ho6, he6⟩; obtain ⟨A6, c6, rfl, r6⟩ := OwnL.rd ho6 hl
  have e6 := e5.trans he6; clear e5 he6 ho6
  have f6 := Ext_alloc (.cells #[.int .i64 k, .string nm, .int .i64 ver, .slice A6 l.length c6] 51) (Ext.refl w6)
  have B6 := fun w' (e : Ext (w6.alloc (.cells #[.int .i64 k, .string nm, .int .i64 ver, .slice A6 l.length c6] 51)) w') => boxed e
  have g6 := e6.trans f6
  go_wp2_with fail
  refine (T2.out _ (h'.ext (eb2.trans g6)) hL').mono ?_; rintro _ w7 ⟨v7, rfl, ho7, he7⟩; obtain ⟨A7, c7, rfl, r7⟩ := OwnL.rd ho7 hl'
  clear ho7
  have f7 := Ext_alloc (.cells #[.int .i64 k', .string nm', .int .i64 ver', .slice A7 l'.length c7] 51) (Ext.refl w7)
  have B7 := fun w' (e : Ext (w7.alloc (.cells #[.int .i64 k', .string nm', .int .i64 ver', .slice A7 l'.length c7] 51)) w') => boxed e
  have g7 := he7.trans f7
  go_wp2_with fail
  refine (iEqualRecords_c _ _ _ _ _ _ _ _ _ _ _ _ _ ((r6.ext f6).ext g7) (r7.ext f7)).mono ?_; rintro _ w8 ⟨rfl, he8⟩
  have D0 := fun w' (e : Ext w8 w') => B0 w' (((g6.trans g7).trans he8).trans e)
  have D1 := fun w' (e : Ext w8 w') => B1 w' (((g6.trans g7).trans he8).trans e)
  have D6 := fun w' (e : Ext w8 w') => B6 w' ((g7.trans he8).trans e)
  have D7 := fun w' (e : Ext w8 w') => B7 w' (he8.trans e)
  have e8 := eb2.trans ((g6.trans g7).trans he8)
  have r68 := ((r6.ext f6).ext g7).ext he8; have r78 := (r7.ext f7).ext he8
  clear B0 B1 B6 B7 g6 g7 he8 f6 f7 he7 e6 r6 r7 e2 eb2
  have HE : Hid (((k == k' && nm.toList == nm'.toList && ver == ver' && l == l') != (k == k' && nm.toList == nm'.toList && ver == ver' && l == l')) = false) := by simp [Hid]
  have HE1 : Hid ((k == k && nm.toList == nm.toList && ver == ver && l == l) = true) := by simp [Hid]
  have HE2 : Hid ((k' == k' && nm'.toList == nm'.toList && ver' == ver' && l' == l') = true) := by simp [Hid]
  generalize (k == k' && nm.toList == nm'.toList && ver == ver' && l == l') = q at *
  go_wp2_with fail
  go_region_held3 (fun w' => Ext w8 w') (first | assumption | exact Ext_drew (Ext.refl _) | exact Ext.trans (by assumption) (by assumption)) (first
    | (go_at_call 53; (with_reducible refine (T1.out _ ?_ hL).mono ?_); (exact h.ext (e8.trans (by assumption))); rintro _ w9 ⟨v9, rfl, ho9, he9⟩; obtain ⟨A9, c9, rfl, r9⟩ := OwnL.rd ho9 hl)
    | (go_at_call 55; refine (eqRecord_c _ _ _ _ _ _ _ _ _ _ _ _ _ (r68.ext (by assumption)) r9).mono ?_; rintro _ w10 ⟨rfl, he10⟩; rw [HE1.out]))
  have e10 : Ext w8 w10 := by assumption
  clear r9 ho9 he10
  go_wp2_with fail
  have G0 := fun w' (e : Ext w10 w') => D0 w' (e10.trans e)
  have G1 := fun w' (e : Ext w10 w') => D1 w' (e10.trans e)
  have G7 := fun w' (e : Ext w10 w') => D7 w' (e10.trans e)
  have e10' := e8.trans e10
  have r710 := r78.ext e10
  clear D0 D1 D6 D7 r68 r78 e8
  go_region_held3 (fun w' => Ext w10 w') (first | assumption | exact Ext_drew (Ext.refl _) | exact Ext.trans (by assumption) (by assumption)) (first
    | (go_at_call 53; (with_reducible refine (T2.out _ ?_ hL').mono ?_); (exact h'.ext (e10'.trans (by assumption))); rintro _ w11 ⟨v11, rfl, ho11, he11⟩; obtain ⟨A11, c11, rfl, r11⟩ := OwnL.rd ho11 hl')
    | (go_at_call 55; refine (eqRecord_c _ _ _ _ _ _ _ _ _ _ _ _ _ (r710.ext (by assumption)) r11).mono ?_; rintro _ w12 ⟨rfl, he12⟩; rw [HE2.out]))
  have e12 : Ext w10 w12 := by assumption
  go_wp2
  go_ret
  exact ⟨rfl, e10'.trans e12⟩
end Go.Proofs.Ytdhagklecmbckaa
