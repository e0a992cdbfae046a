/- The walk of the law on AppendRecord. -/
import Derived.Test.YtohejlknihleeaaAppend
import Derived.Test.YtohejlknihleeaaLawLog2
import Derived.Test.YtohejlknihleeaaLawRecord
import Derived.Test.YtohejlknihleeaaLawDec
import Derived.Deep.DeepCutAuto
namespace Go.Proofs.Ytohejlknihleeaa
open Go.RowKit Go.Sort

/-- Ext, as the held condition of a region: kept apart from the contracts' own -/
structure HExt (a b : World) : Prop where
  e : Ext a b
/-- what a region leaves that lays a call's log in a new variable -/
def LogVar (w2 wx : World) (g : Nat) (R : List UInt8) (s : Int) : Prop := ∃ A c, w2.heap.size ≤ g ∧ Bs wx A R c ∧ wx.cell? ⟨g, 0, none⟩ = some (.slice A R.length c) ∧ wx.cell? ⟨g, 1, none⟩ = some (.int .i64 s) ∧ Ext w2 wx

theorem LogVar.stored {w2 w0 w5 : World} {g : Nat} {A : Option Addr} {R : List UInt8} {c : Nat} {s : Int} (hz : w2.heap.size ≤ g) (hg : g < w0.heap.size) (ho : OwnL vu8 5 w0 w5 (.slice A R.length c) R) (hR : R.length ≤ 140737488351232)
    (hc : ∀ i, w5.cell? ⟨g, i, none⟩ = #[Value.slice none 0 0, Value.int .i64 0][i]?) (e : Ext w2 w5) : LogVar w2 ((w5.setCell ⟨g, 0, none⟩ (.slice A R.length c)).setCell ⟨g, 1, none⟩ (.int .i64 s)) g R s := by
  obtain ⟨s0, s1⟩ := stored2 hc
  have hne := OwnL.lt_ne ho (.inl hg)
  have ho' := OwnL.set (OwnL.set ho ⟨g, 0, none⟩ (.slice A R.length c) hne) ⟨g, 1, none⟩ (.int .i64 s) hne
  obtain ⟨A', c', hv, hr⟩ := OwnL.rd ho' hR
  injection hv with q1 _ q2
  subst q1; subst q2
  refine ⟨A, c, hz, hr, ?_, s1 _ _, (e.setCell hz _).setCell hz _⟩
  have hoth : ((w5.setCell ⟨g, 0, none⟩ (.slice A R.length c)).setCell ⟨g, 1, none⟩ (.int .i64 s)).cell? ⟨g, 0, none⟩ = (w5.setCell ⟨g, 0, none⟩ (.slice A R.length c)).cell? ⟨g, 0, none⟩ := by
    apply World.cell?_setCell_other
    intro hh; injection hh with _ hh; omega
  exact hoth.trans (s0 _)
theorem LogVar.new {w2 w5 : World} {A : Option Addr} {R : List UInt8} {c : Nat} {s : Int} {T : TypeId} (hr : Bs w5 A R c) (e : Ext w2 w5) : LogVar w2 (w5.alloc (.cells #[.slice A R.length c, .int .i64 s] T)) w5.heap.size R s :=
  ⟨A, c, e.size, hr.ext (Ext_alloc _ (Ext.refl _)), boxed (Ext.refl _) 0, boxed (Ext.refl _) 1, Ext_alloc _ e⟩

set_option maxRecDepth 100000 in
set_option maxHeartbeats 8000000 in
theorem lawAppendRecord_c (A : Option Addr) (l : List UInt8) (c : Nat) (s : Int) (k : Int) (nm : ByteArray) (ver : Int) (A' : Option Addr) (d : List UInt8) (c' : Nat) (w : World) (h : Rd0 vu8 w A l c) (h' : Rd0 vu8 w A' d c') (hn : nm.size ≤ 9223372036854775807) :
    Gives Try.prog 14 #[vlog (.slice A l.length c) s, vrec k nm ver (.slice A' d.length c')] w (.bool true) := by
  have Z1 := Lib.hid (fun left w h h0 h1 => szLog_c A l c s left w h h0 h1)
  have Z2 := Lib.hid (fun left w h h0 h1 => szRecord_c k nm ver A' d c' left w h hn h0 h1)
  have T1 := Lib.hid (fun w h hL => toLog_c A l c s w h hL)
  have T2 := Lib.hid (fun w h hL => toRecord_c k nm ver A' d c' w h hL)
  have V1 := Lib.hid (fun A c A' c' w h h' hL => sAppendRecord_c A l c s k nm ver A' d c' w h h' hn hL)
  have V2 := Lib.hid (fun A c A' c' w h h' hL => iAppendRecord_c A l c s k nm ver A' d c' w h h' hn hL)
  have hz := szN_lo l.length 1048576 (by omega) (by omega)
  have hz1 : 0 ≤ szN l.length 1048576 → l.length ≤ 1048576 := szN_len (by omega)
  generalize hzz : szN l.length 1048576 = z at *
  have hz2 : 0 ≤ szR nm.size d.length z → 0 ≤ z → d.length ≤ 1048576 := fun h h2 => szR_len hz.2 h2 h
  have hz3 := szR_lo nm.size d.length z
  generalize hyy : szR nm.size d.length z = y at *
  have HZ := Lib.hid hzz; have HY := Lib.hid hyy; clear hzz hyy
  have hRl : (appBytes l s k nm ver d).length ≤ l.length + 818 := by
    unfold appBytes; split
    · rw [List.length_append]; have := encRec_le k nm ver d; omega
    · omega
  generalize appBytes l s k nm ver d = R at *
  generalize appOk l s k nm ver d = ok at *
  have eb := Ext_alloc (.cells #[.int .i64 k, .string nm, .int .i64 ver, .slice A' d.length c'] 34) (Ext_alloc (.cells #[.slice A l.length c, .int .i64 s] 50) (Ext.refl w))
  have BX := fun w' (e : Ext ((w.alloc (.cells #[.slice A l.length c, .int .i64 s] 50)).alloc (.cells #[.int .i64 k, .string nm, .int .i64 ver, .slice A' d.length c'] 34)) w') => boxed2 e
  have B0 := fun w' e => (BX w' e).1
  have B1 := fun w' e => (BX w' e).2.1
  clear BX
  have HE1 : Hid ((l == l && s == s) = true) := by simp [Hid]
  have HE2 : Hid ((R == R && s == s) = true) := by simp [Hid]
  have HE3 : Hid ((k == k && nm.toList == nm.toList && ver == ver && d == d) = true) := by simp [Hid]
  have HK : (ok != ok) = false := by simp
  have M1 := Lib.hid (fun A c xs w0 w ho hk2 => markLog_c s A l.length c 1 xs w0 w ho (by omega) hk2)
  have M2 := Lib.hid (fun A c kk xs w0 w ho hk hk2 => markRecord_c k nm ver A d.length c kk xs w0 w ho hk hk2)
  have M3 := Lib.hid (fun A c xs w0 w ho hk2 => markLog_c s A R.length c 1 xs w0 w ho (by omega) hk2)
  have G3 := Lib.hid (fun A c w h hk2 => heldLog_c s A R.length c 1 w h (by omega) hk2)
  unfold vlog vrec at *
  go_enter Try.func14, Try.ntmps14
  go_wp2_with fail
  refine (Z1.out _ _ (h.ext eb) (by omega) (by omega)).mono ?_; rintro _ w1 ⟨rfl, he1⟩
  rw [HZ.out]
  by_cases c1 : z < 0
  · go_wp2
    go_ret
    exact ⟨rfl, eb.trans he1⟩
  go_wp2_with fail
  refine (Z2.out _ _ (h'.ext (eb.trans he1)) (by omega) (by omega)).mono ?_; rintro _ w2 ⟨rfl, he2⟩
  rw [HY.out]
  have e2 := he1.trans he2; clear he1 he2
  by_cases c2 : y < 0
  · go_wp2
    go_ret
    exact ⟨rfl, eb.trans e2⟩
  have hL := hz1 (by omega); have hL' := hz2 (by omega) (by omega)
  have hl : l.length ≤ 140737488351232 := by omega
  have hl2 : l.length ≤ 1099511627776 := by omega
  have hd : d.length ≤ 140737488351232 := by omega
  have hRk : R.length ≤ 140737488351232 := by omega
  have B0' := fun w' (e : HExt w2 w') => B0 w' (e2.trans e.e)
  have B1' := fun w' (e : HExt w2 w') => B1 w' (e2.trans e.e)
  have BG := fun (W : World) w' (e : Ext (W.alloc (.cells #[.slice none 0 0, .int .i64 0] 53)) w') i => boxed e i
  have FG := fun (W : World) w' (e : Ext (W.alloc (.cells #[.slice none 0 0, .int .i64 0] 53)) w') i => boxed_free e i
  have BG2 := fun (W : World) w' (e : Ext (W.alloc (.cells #[.slice none 0 0, .int .i64 0] 53)).drew w') i => boxed ((Ext_drew (Ext.refl _)).trans e) i
  have FG2 := fun (W : World) w' (e : Ext (W.alloc (.cells #[.slice none 0 0, .int .i64 0] 53)).drew w') i => boxed_free ((Ext_drew (Ext.refl _)).trans e) i
  have eb2 := eb.trans e2
  go_wp2_with fail
  go_cut [6, 7] (fun s6 s7 wx => ∃ g : Nat, s6 = .pointer (some ⟨g, 0, none⟩) ∧ s7 = .bool ok ∧ LogVar w2 wx g R s)
  case first =>
    go_region_held3 (fun w' => HExt w2 w') (first | assumption | exact ⟨Ext_drew (Ext.refl _)⟩ | exact ⟨(HExt.e (by assumption)).trans (by assumption)⟩ | exact ⟨Ext_alloc _ (HExt.e (by assumption))⟩ | exact ⟨Ext_alloc _ (by assumption)⟩ | exact ⟨((HExt.e (by assumption)).setCell (by first | exact Nat.le_refl _ | assumption) _).setCell (by first | exact Nat.le_refl _ | assumption) _⟩) (first
      | (go_at_call 48; (with_reducible refine (T1.out _ ?_ hL).mono ?_); (exact h.ext (eb2.trans (HExt.e (by assumption)))); rintro _ w3 ⟨v3, rfl, ho3, he3⟩; obtain ⟨A3, c3, rfl, r3⟩ := OwnL.rd ho3 hl; have z3 : w2.heap.size ≤ w3.heap.size := ((HExt.e (by assumption)).trans he3).size; (try (have he43 := he4.trans he3)))
      | (go_at_call 25; (with_reducible refine (T2.out _ ?_ hL').mono ?_); (exact h'.ext (eb2.trans (HExt.e (by assumption)))); rintro _ w4 ⟨v4, rfl, ho4, he4⟩; obtain ⟨A4, c4, rfl, r4⟩ := OwnL.rd ho4 hd; have z4 : w2.heap.size ≤ w4.heap.size := ((HExt.e (by assumption)).trans he4).size; (try (have he34 := he3.trans he4)))
      | (go_at_call 64; refine (V1.out _ _ _ _ _ (r3.ext (by repeat (first | exact Ext.refl _ | assumption | refine Ext_alloc _ ?_ | refine Ext.trans ?_ (by assumption)))) (r4.ext (by repeat (first | exact Ext.refl _ | assumption | refine Ext_alloc _ ?_ | refine Ext.trans ?_ (by assumption)))) hl2).mono ?_; rintro _ w5 ⟨v5, rfl, ho5, he5⟩; obtain ⟨A5, c5, rfl, r5⟩ := OwnL.rd ho5 hRk; have y5 : Ext w2 w5 := (HExt.e (by assumption)).trans he5; (try (have x1 := he3.trans he5)); (try (have x2 := he4.trans he5)); (try (have x3 := he34.trans he5)); (try (have x4 := he43.trans he5))))
    all_goals
      go_wp2_with fail
      go_meet
      first
        | exact ⟨_, rfl, rfl, LogVar.new r5 y5⟩
        | exact ⟨_, rfl, rfl, LogVar.stored z4 (by simp) ho5 hRk (BG _ _ he5) y5⟩
        | exact ⟨_, rfl, rfl, LogVar.stored z3 (by have := he4.size; simp at this; omega) ho5 hRk (BG _ _ x2) y5⟩
        | exact ⟨_, rfl, rfl, LogVar.stored (Nat.le_refl _) (by have := he34.size; simp at this; omega) ho5 hRk (BG2 _ _ x3) y5⟩
  case rest =>
    obtain ⟨g6, rfl, rfl, A5, c5, hz5, r5, d0, d1, e5⟩ := hcut
    have hg6 := block_lt_of_cell d0
    have W0 := fun w' (e : Ext wc w') => (e.cell (p := ⟨g6, 0, none⟩) hg6).trans d0
    have W1 := fun w' (e : Ext wc w') => (e.cell (p := ⟨g6, 1, none⟩) hg6).trans d1
    have bc := eb2.trans e5
    have Q0 := fun w' (e : Ext wc w') => B0 w' ((e2.trans e5).trans e)
    have Q1 := fun w' (e : Ext wc w') => B1 w' ((e2.trans e5).trans e)
    clear B0' B1' B0 B1 BG FG BG2 FG2 d0 d1
    go_wp2_with fail
    refine (T1.out _ (h.ext bc) hL).mono ?_; rintro _ w7 ⟨v7, rfl, ho7, he7⟩; obtain ⟨A7, c7, rfl, r7⟩ := OwnL.rd ho7 hl
    have HX := Lib.hid (heap_new w7 (.cells #[.slice A7 l.length c7, .int .i64 s] 53))
    have f7 := Ext_alloc (.cells #[.slice A7 l.length c7, .int .i64 s] 53) (Ext.refl w7)
    have e7 := he7.trans f7
    go_wp2_with fail
    refine (T2.out _ (h'.ext (bc.trans e7)) hL').mono ?_; rintro _ w8 ⟨v8, rfl, ho8, he8⟩; obtain ⟨A8, c8, rfl, r8⟩ := OwnL.rd ho8 hd
    have HY1 := Lib.hid (heap_new w8 (.cells #[.int .i64 k, .string nm, .int .i64 ver, .slice A8 d.length c8] 37))
    have f8 := Ext_alloc (.cells #[.int .i64 k, .string nm, .int .i64 ver, .slice A8 d.length c8] 37) (Ext.refl w8)
    have e78 := he8.trans f8
    have HX8 := Lib.hid (heap_ext HX.out e78)
    have DX := fun w' (e : Ext (w8.alloc (.cells #[.int .i64 k, .string nm, .int .i64 ver, .slice A8 d.length c8] 37)) w') => boxed_at HX8.out e
    go_wp2_with fail
    refine (V2.out _ _ _ _ _ ((r7.ext f7).ext e78) (r8.ext f8) hl2).mono ?_; rintro _ w9 ⟨v9, rfl, ho9, he9⟩; obtain ⟨A9, c9, rfl, r9⟩ := OwnL.rd ho9 hRk
    have HG := Lib.hid (heap_new w9 (.cells #[.slice A9 R.length c9, .int .i64 s] 53))
    have f9 := Ext_alloc (.cells #[.slice A9 R.length c9, .int .i64 s] 53) (Ext.refl w9)
    have e89 := f8.trans (he9.trans f9)
    have ec9 := (e7.trans he8).trans e89
    have W0' := fun w' (e : Ext (w9.alloc (.cells #[.slice A9 R.length c9, .int .i64 s] 53)) w') => W0 w' (ec9.trans e)
    have W1' := fun w' (e : Ext (w9.alloc (.cells #[.slice A9 R.length c9, .int .i64 s] 53)) w') => W1 w' (ec9.trans e)
    clear DX
    go_wp2_with fail
    refine (eqLog_c _ _ _ _ _ _ _ _ _ (r9.ext f9) (r5.ext ec9)).mono ?_; rintro _ w10 ⟨rfl, he10⟩; rw [HE2.out]
    have e9a := he9.trans (f9.trans he10)
    have eca := ec9.trans he10
    have HXa := Lib.hid (heap_ext HX8.out e9a)
    have HYa := Lib.hid (heap_ext HY1.out e9a)
    have HGa := Lib.hid (heap_ext HG.out he10)
    have r7a := ((r7.ext f7).ext e78).ext e9a
    have r8a := (r8.ext f8).ext e9a
    have o7a := OwnL.ext (OwnL.ext (OwnL.ext ho7 f7) e78) e9a
    have o8a := OwnL.ext (OwnL.ext ho8 f8) e9a
    have o9a := OwnL.ext ho9 (f9.trans he10)
    have HB7 := Lib.hid (OwnL.block ho7); have HB8 := Lib.hid (OwnL.block ho8)
    have HN9 := Lib.hid (OwnL.ne ho9 (Nat.le_refl _))
    have HN7 := Lib.hid (OwnL.ne ho7 (f7.trans (e78.trans he9)).size)
    have HN7Y := Lib.hid (OwnL.ne ho7 (f7.trans he8).size)
    have HN8 := Lib.hid (OwnL.ne ho8 (f8.trans he9).size)
    have S7 : Hid (w7.heap.size ≤ (w7.alloc (.cells #[.slice A7 l.length c7, .int .i64 s] 53)).heap.size) := f7.size
    have S78 : Hid ((w7.alloc (.cells #[.slice A7 l.length c7, .int .i64 s] 53)).heap.size ≤ (w8.alloc (.cells #[.int .i64 k, .string nm, .int .i64 ver, .slice A8 d.length c8] 37)).heap.size) := e78.size
    have SC7 : Hid (wc.heap.size ≤ (w7.alloc (.cells #[.slice A7 l.length c7, .int .i64 s] 53)).heap.size) := e7.size
    clear W0' W1' HX HX8 HY1 HG r7 r8 r9 ho7 ho8 ho9 e9a ec9 e89 e78 f7 f8 f9 e7 he7 he8 he9 he10
    have DX := fun w' (e : Ext w10 w') => boxed_at HXa.out e
    have DY := fun w' (e : Ext w10 w') => boxed_at HYa.out e
    have P0 := fun w' (e : Ext w10 w') => Q0 w' (eca.trans e)
    have P1 := fun w' (e : Ext w10 w') => Q1 w' (eca.trans e)
    have ba := bc.trans eca
    go_wp2_with fail
    go_region_held3 (fun w' => Ext w10 w') (first | assumption | exact Ext_drew (Ext.refl _) | exact Ext.trans (by assumption) (by assumption)) (first
      | (go_at_call 48; (with_reducible refine (T1.out _ ?_ hL).mono ?_); (exact h.ext (ba.trans (by assumption))); rintro _ w11 ⟨v11, rfl, ho11, he11⟩; obtain ⟨A11, c11, rfl, r11⟩ := OwnL.rd ho11 hl)
      | (go_at_call 50; refine (eqLog_c _ _ _ _ _ _ _ _ _ (r7a.ext (by assumption)) r11).mono ?_; rintro _ w12 ⟨rfl, he12⟩; rw [HE1.out]))
    have eac : Ext w10 w12 := by assumption
    clear r11 ho11 he12 P0 P1
    have P1 := fun w' (e : Ext w12 w') => Q1 w' ((eca.trans eac).trans e)
    have DY' := fun w' (e : Ext w12 w') => DY w' (eac.trans e)
    have DX' := fun w' (e : Ext w12 w') => DX w' (eac.trans e)
    have r8c := r8a.ext eac
    have bcc := ba.trans eac
    clear DX DY r7a r8a
    go_wp2_with fail
    go_region_held3 (fun w' => Ext w12 w') (first | assumption | exact Ext_drew (Ext.refl _) | exact Ext.trans (by assumption) (by assumption)) (first
      | (go_at_call 25; (with_reducible refine (T2.out _ ?_ hL').mono ?_); (exact h'.ext (bcc.trans (by assumption))); rintro _ w13 ⟨v13, rfl, ho13, he13⟩; obtain ⟨A13, c13, rfl, r13⟩ := OwnL.rd ho13 hd)
      | (go_at_call 27; refine (eqRecord_c _ _ _ _ _ _ _ _ _ _ _ _ _ (r8c.ext (by assumption)) r13).mono ?_; rintro _ w14 ⟨rfl, he14⟩; rw [HE3.out]))
    have ece : Ext w12 w14 := by assumption
    have eae := eac.trans ece
    have ecf := eca.trans eae
    clear r13 ho13 he14 P1 r8c bcc ba
    have DX := fun w' (e : Ext w14 w') => DX' w' (ece.trans e)
    have o7e := OwnL.ext o7a eae; have o8e := OwnL.ext o8a eae; have o9e := OwnL.ext o9a eae
    have HYe := Lib.hid (heap_ext HYa.out eae)
    have HGe := Lib.hid (heap_ext HGa.out eae)
    clear DX' DY' o7a o8a o9a HXa HYa HGa eac ece eae eca
    go_wp2_with fail
    refine (M1.out _ _ _ _ _ o7e (by omega)).mono ?_; rintro _ w15 ⟨rfl, _, hg15⟩
    have ecg := ecf.grown hg15 (fun k hk => (World.ownsRow.lt o7e k hk).1)
    have o8g := OwnL.kept o8e hg15 (fun g hg => Nat.lt_of_lt_of_le (HB7.out g hg) S7.out)
    have o9g := OwnL.kept o9e hg15 (fun g hg => Nat.lt_of_lt_of_le (Nat.lt_of_lt_of_le (HB7.out g hg) S7.out) S78.out)
    have HYg := Lib.hid (heap_grown HYe.out hg15 HN7Y.out)
    have HGg := Lib.hid (heap_grown HGe.out hg15 HN7.out)
    have DY := fun w' (e : Ext w15 w') => boxed_at HYg.out e
    clear DX o7e o8e o9e HYe HGe hg15 ecf
    go_wp2_with fail
    refine (M2.out _ _ _ _ _ _ o8g (by omega) (by omega)).mono ?_; rintro _ w16 ⟨rfl, _, hg16⟩
    have ech := ecg.grown hg16 (fun k hk => Nat.le_trans SC7.out (World.ownsRow.lt o8g k hk).1)
    have o9h := OwnL.kept o9g hg16 (fun g hg => Nat.lt_of_lt_of_le (HB8.out g hg) (Ext_alloc _ (Ext.refl _)).size)
    have HGh := Lib.hid (heap_grown HGg.out hg16 HN8.out)
    obtain ⟨A16, c16, hv16, r16⟩ := OwnL.rd o9h hRk; injection hv16 with q1 _ q2; subst q1; subst q2
    have DG := fun w' (e : Ext w16 w') => boxed_at HGh.out e
    have X0 := fun w' (e : Ext w16 w') => W0 w' (ech.trans e)
    have X1 := fun w' (e : Ext w16 w') => W1 w' (ech.trans e)
    clear DY o8g o9g HYg HGg hg16 ecg
    go_wp2_with fail
    refine (eqLog_c _ _ _ _ _ _ _ _ _ r16 (r5.ext ech)).mono ?_; rintro _ w17 ⟨rfl, he17⟩; rw [HE2.out]
    have eci := ech.trans he17
    have oi := OwnL.ext o9h he17
    have HGi := Lib.hid (heap_ext HGh.out he17)
    have DG' := fun w' (e : Ext w17 w') => boxed_at HGi.out e
    clear DG X0 X1 r16 o9h HGh ech
    go_wp2_with fail
    refine (M3.out _ _ _ _ _ oi (by omega)).mono ?_; rintro _ w18 ⟨rfl, oj, hg18⟩
    have ecj := eci.grown hg18 (fun k hk => Nat.le_trans (Nat.le_trans SC7.out S78.out) (World.ownsRow.lt oi k hk).1)
    have rj := Own.mk_rd oj (by omega)
    have HGj := Lib.hid (heap_grown HGi.out hg18 HN9.out)
    have DG := fun w' (e : Ext w18 w') => boxed_at HGj.out e
    clear DG' oj hg18 oi eci HGi
    go_wp2_with fail
    refine (G3.out _ _ _ rj (by omega)).mono ?_; rintro _ w19 ⟨rfl, he19⟩
    have eck := ecj.trans he19
    have rk := rj.ext he19
    have HGk := Lib.hid (heap_ext HGj.out he19)
    clear DG rj HGj ecj he19
    have bk := bc.trans eck
    have B0' := fun w' (e : HExt w19 w') => Q0 w' (eck.trans e.e)
    have B1' := fun w' (e : HExt w19 w') => Q1 w' (eck.trans e.e)
    have BG := fun (W : World) w' (e : Ext (W.alloc (.cells #[.slice none 0 0, .int .i64 0] 53)) w') i => boxed e i
    have FG := fun (W : World) w' (e : Ext (W.alloc (.cells #[.slice none 0 0, .int .i64 0] 53)) w') i => boxed_free e i
    have BG2 := fun (W : World) w' (e : Ext (W.alloc (.cells #[.slice none 0 0, .int .i64 0] 53)).drew w') i => boxed ((Ext_drew (Ext.refl _)).trans e) i
    have FG2 := fun (W : World) w' (e : Ext (W.alloc (.cells #[.slice none 0 0, .int .i64 0] 53)).drew w') i => boxed_free ((Ext_drew (Ext.refl _)).trans e) i
    go_wp2_with fail
    go_cut [15, 16] (fun s6 s7 wx => ∃ g : Nat, s6 = .pointer (some ⟨g, 0, none⟩) ∧ s7 = .bool ok ∧ LogVar w19 wx g R s)
    case first =>
      clear W0 W1 Q0 Q1
      go_region_held3 (fun w' => HExt w19 w') (first | assumption | exact ⟨Ext_drew (Ext.refl _)⟩ | exact ⟨(HExt.e (by assumption)).trans (by assumption)⟩ | exact ⟨Ext_alloc _ (HExt.e (by assumption))⟩ | exact ⟨Ext_alloc _ (by assumption)⟩ | exact ⟨((HExt.e (by assumption)).setCell (by first | exact Nat.le_refl _ | assumption) _).setCell (by first | exact Nat.le_refl _ | assumption) _⟩) (first
        | (go_at_call 48; (with_reducible refine (T1.out _ ?_ hL).mono ?_); (exact h.ext (bk.trans (HExt.e (by assumption)))); rintro _ w3 ⟨v3, rfl, ho3, he3⟩; obtain ⟨A3, c3, rfl, r3⟩ := OwnL.rd ho3 hl; have z3 : w19.heap.size ≤ w3.heap.size := ((HExt.e (by assumption)).trans he3).size; (try (have he43 := he4.trans he3)))
        | (go_at_call 25; (with_reducible refine (T2.out _ ?_ hL').mono ?_); (exact h'.ext (bk.trans (HExt.e (by assumption)))); rintro _ w4 ⟨v4, rfl, ho4, he4⟩; obtain ⟨A4, c4, rfl, r4⟩ := OwnL.rd ho4 hd; have z4 : w19.heap.size ≤ w4.heap.size := ((HExt.e (by assumption)).trans he4).size; (try (have he34 := he3.trans he4)))
        | (go_at_call 65; refine (V2.out _ _ _ _ _ (r3.ext (by repeat (first | exact Ext.refl _ | assumption | refine Ext_alloc _ ?_ | refine Ext.trans ?_ (by assumption)))) (r4.ext (by repeat (first | exact Ext.refl _ | assumption | refine Ext_alloc _ ?_ | refine Ext.trans ?_ (by assumption)))) hl2).mono ?_; rintro _ w5 ⟨v5, rfl, ho5, he5⟩; obtain ⟨A20, c20, rfl, r20⟩ := OwnL.rd ho5 hRk; have y5 : Ext w19 w5 := (HExt.e (by assumption)).trans he5; (try (have x1 := he3.trans he5)); (try (have x2 := he4.trans he5)); (try (have x3 := he34.trans he5)); (try (have x4 := he43.trans he5))))
      all_goals
        go_wp2_with fail
        go_meet
        first
          | exact ⟨_, rfl, rfl, LogVar.new r20 y5⟩
          | exact ⟨_, rfl, rfl, LogVar.stored z4 (by simp) ho5 hRk (BG _ _ he5) y5⟩
          | exact ⟨_, rfl, rfl, LogVar.stored z3 (by have := he4.size; simp at this; omega) ho5 hRk (BG _ _ x2) y5⟩
          | exact ⟨_, rfl, rfl, LogVar.stored (Nat.le_refl _) (by have := he34.size; simp at this; omega) ho5 hRk (BG2 _ _ x3) y5⟩
    case rest =>
      obtain ⟨g15, rfl, rfl, A20, c20, hz20, r20, d0, d1, e20⟩ := hcut
      have hg15 := block_lt_of_cell d0
      have V0 := fun w' (e : Ext wc w') => (e.cell (p := ⟨g15, 0, none⟩) hg15).trans d0
      have V1 := fun w' (e : Ext wc w') => (e.cell (p := ⟨g15, 1, none⟩) hg15).trans d1
      have X0 := fun w' (e : Ext wc w') => W0 w' (eck.trans (e20.trans e))
      have X1 := fun w' (e : Ext wc w') => W1 w' (eck.trans (e20.trans e))
      have DG := fun w' (e : Ext wc w') => boxed_at HGk.out (e20.trans e)
      clear B0' B1' BG FG BG2 FG2 W0 W1 Q0 Q1 d0 d1
      go_wp2_with fail
      refine (eqLog_c _ _ _ _ _ _ _ _ _ r20 (r5.ext (eck.trans e20))).mono ?_; rintro _ w21 ⟨rfl, he21⟩; rw [HE2.out]
      have DG' := fun w' (e : Ext w21 w') => DG w' (he21.trans e)
      clear DG V0 V1 X0 X1
      go_wp2_with fail
      refine (G3.out _ _ _ (rk.ext (e20.trans he21)) (by omega)).mono ?_; rintro _ w22 ⟨rfl, he22⟩
      go_wp2
      go_ret
      exact ⟨rfl, bk.trans ((e20.trans he21).trans he22)⟩
end Go.Proofs.Ytohejlknihleeaa
