/- The walk of the law on DecodeRecord. -/
import Derived.Test.YtohejlknihleeaaDecS
import Derived.Test.YtohejlknihleeaaBytes
import Derived.Test.YtohejlknihleeaaMarkRec
namespace Go.Proofs.Ytohejlknihleeaa
open Go.RowKit Go.Sort

theorem heap_lt {w : World} {g : Nat} {o : Obj} (h : w.heap[g]? = some o) : g < w.heap.size := (Array.getElem?_eq_some_iff.1 h).1
theorem heap_ext {w w' : World} {g : Nat} {o : Obj} (h : w.heap[g]? = some o) (e : Ext w w') : w'.heap[g]? = some o := (Below.block e g (heap_lt h)).trans h
theorem heap_grown {w w' : World} {g : Nat} {o : Obj} {row : Option Nat} (h : w.heap[g]? = some o) (hg : w.grownBy w' row) (hne : some g ≠ row) : w'.heap[g]? = some o := (hg.block g (heap_lt h) hne).trans h
theorem heap_new (w : World) (o : Obj) : (w.alloc o).heap[w.heap.size]? = some o := heap_alloc_new w o
theorem boxed_at {w w' : World} {g : Nat} {cs : Array Value} {T : TypeId} (h : w.heap[g]? = some (.cells cs T (0, 0))) (e : Ext w w') (i : Nat) : w'.cell? ⟨g, i, none⟩ = cs[i]? := cell_of_row w' g i cs T (0, 0) (heap_ext h e)
theorem OwnL.ne {α : Type} {f : α → Value} {e : TypeId} {w0 w : World} {v : Value} {l : List α} (h : OwnL f e w0 w v l) {g : Nat} (hg : w.heap.size ≤ g) : some g ≠ v.ownBlock := by
  intro he; have := (World.ownsRow.lt h g he.symm).2; omega

theorem dec_len (b : List UInt8) (a : Int) : ((dec b a).getD .zero).l.length ≤ 400 := by
  unfold dec
  split
  · simp [DRec.zero]
  · cases hd : decN b a.toNat with
    | none => simp [DRec.zero]
    | some r => have := validRec_facts (decN_some hd).2.1; simp only [Option.getD_some]; omega

set_option maxRecDepth 100000 in
set_option maxHeartbeats 4000000 in
theorem lawDecodeRecord_c (A : Option Addr) (l : List UInt8) (c : Nat) (a : Int) (w : World) (h : Rd0 vu8 w A l c) (ha : (Lit.int .i64 a).wf = true) :
    Gives Try.prog 8 #[.slice A l.length c, .int .i64 a] w (.bool true) := by
  have hl := h.len
  by_cases hL : l.length ≤ 1048576
  · have hL' : l.length ≤ 140737488351232 := by omega
    have hdl := dec_len l a
    have C1 := Lib.hid (fun A c w h => sDecodeRecord_c A l c a w h ha); have C2 := Lib.hid (fun A c w h => iDecodeRecord_c A l c a w h ha)
    unfold DecOut at C1 C2
    generalize decEnd l a = j at *
    generalize (dec l a).isSome = ok at *
    generalize (dec l a).getD .zero = R at *
    obtain ⟨k, nm, ver, d⟩ := R
    dsimp only at hdl C1 C2
    have M1 := Lib.hid (fun A c xs w0 w ho => markRecord_c k nm ver A d.length c 1 xs w0 w ho (by omega) (by omega))
    have G1 := Lib.hid (fun A c w h => heldRecord_c k nm ver A d.length c 1 w h (by omega) (by omega))
    have HE : Hid ((k == k && nm.toList == nm.toList && ver == ver && d == d) = true) := by simp [Hid]
    have HJ : ((j : Int) != j) = false := by simp
    have HK : (ok != ok) = false := by simp
    have hd : decide ((1048576 : Int) < (l.length : Int)) = false := by simp; omega
    clear ha
    unfold vrec at *
    go_enter Try.func8, Try.ntmps8
    go_wp2_with fail
    refine (toByteS_c _ _ _ _ h hL).mono ?_; rintro _ w1 ⟨v1, rfl, ho1, he1⟩; obtain ⟨A1, c1, rfl, r1⟩ := OwnL.rd ho1 hL'; clear ho1
    go_wp2_with fail
    refine (C1.out _ _ _ r1).mono ?_; rintro _ w2 ⟨v2, rfl, ho2, he2⟩; obtain ⟨A2, c2, rfl, r2⟩ := OwnL.rd ho2 (by omega)
    have H2 := heap_new w2 (.cells #[.int .i64 k, .string nm, .int .i64 ver, .slice A2 d.length c2] 37)
    have f2 := Ext_alloc (.cells #[.int .i64 k, .string nm, .int .i64 ver, .slice A2 d.length c2] 37) (Ext.refl w2)
    have b2 := (he1.trans he2).trans f2
    have r2' := r2.ext f2; clear r2 he1 he2 r1 ho2
    go_wp2_with fail
    refine (toByteS_c _ _ _ _ (h.ext b2) hL).mono ?_; rintro _ w3 ⟨v3, rfl, ho3, he3⟩; obtain ⟨A3, c3, rfl, r3⟩ := OwnL.rd ho3 hL'
    go_wp2_with fail
    refine (C2.out _ _ _ r3).mono ?_; rintro _ w4 ⟨v4, rfl, ho4, he4⟩; obtain ⟨A4, c4, rfl, r4⟩ := OwnL.rd ho4 (by omega)
    have H4 := heap_new w4 (.cells #[.int .i64 k, .string nm, .int .i64 ver, .slice A4 d.length c4] 37)
    have f4 := Ext_alloc (.cells #[.int .i64 k, .string nm, .int .i64 ver, .slice A4 d.length c4] 37) (Ext.refl w4)
    have e24 := (he3.trans he4).trans f4
    have e34 := he4.trans f4
    have H2b := heap_ext H2 e24
    have D2 := fun w' (e : Ext (w4.alloc (.cells #[.int .i64 k, .string nm, .int .i64 ver, .slice A4 d.length c4] 37)) w') => boxed_at H2b e
    go_wp2_with fail
    refine (eqRecord_c _ _ _ _ _ _ _ _ _ _ _ _ _ (r4.ext f4) (r2'.ext e24)).mono ?_; rintro _ w5 ⟨rfl, he5⟩; rw [HE.out]
    have e25 := e24.trans he5; have e35 := e34.trans he5; have e45 := f4.trans he5
    clear e24 e34 D2
    go_wp2_with fail
    refine (toByteS_c _ _ _ _ (h.ext (b2.trans e25)) hL).mono ?_; rintro _ w6 ⟨v6, rfl, ho6, he6⟩; obtain ⟨A6, c6, rfl, r6⟩ := OwnL.rd ho6 hL'
    have e26 := e25.trans he6; have e36 := e35.trans he6; have e46 := e45.trans he6; clear e25 e35 e45
    go_wp2_with fail
    refine (eqByteS_c _ _ _ _ _ _ _ (r3.ext e36) r6).mono ?_; rintro _ w7 ⟨rfl, he7⟩
    have e27 := e26.trans he7; have e37 := e36.trans he7; have e47 := e46.trans he7
    have o37 := OwnL.ext ho3 e37; have o47 := OwnL.ext ho4 e47
    have H2c := heap_ext H2b ((he5.trans he6).trans he7); have H4c := heap_ext H4 ((he5.trans he6).trans he7)
    have HB3 := Lib.hid (OwnL.block ho3)
    have HN4 := Lib.hid (OwnL.ne ho3 he4.size)
    clear he6 he7 he5 e26 e36 e46 r6 ho6 r3 r4 H2b H4
    go_wp2_with fail
    refine (markByteS_c _ _ _ _ _ _ _ o37 (by omega) (by omega)).mono ?_; rintro _ w8 ⟨rfl, _, hg8⟩
    have e28 := e27.grown hg8 (fun k hk => (World.ownsRow.lt o37 k hk).1)
    have o48 := OwnL.kept o47 hg8 HB3.out
    obtain ⟨A8, c8, hv8, r8⟩ := OwnL.rd o48 (by omega); injection hv8 with q1 _ q2; subst q1; subst q2
    have H4d := heap_grown H4c hg8 HN4.out
    have H2d := heap_ext H2 e28
    have D2 := fun w' (e : Ext w8 w') => boxed_at H2d e
    have D4 := fun w' (e : Ext w8 w') => boxed_at H4d e
    clear H2c H4c hg8 o37 o47 e27 e37 e47
    go_wp2_with fail
    refine (eqRecord_c _ _ _ _ _ _ _ _ _ _ _ _ _ r8 (r2'.ext e28)).mono ?_; rintro _ w9 ⟨rfl, he9⟩; rw [HE.out]
    have e29 := e28.trans he9
    have o49 := OwnL.ext o48 he9
    have H4e := heap_ext H4d he9
    have D4' := fun w' (e : Ext w9 w') => boxed_at H4e e
    clear D2 D4 r8 o48 H4d H2d e28
    go_wp2_with fail
    refine (M1.out _ _ _ _ _ o49).mono ?_; rintro _ w10 ⟨rfl, o4a, hg10⟩
    have e2a := e29.grown hg10 (fun k hk => Nat.le_trans he3.size (World.ownsRow.lt o49 k hk).1)
    have ra := Own.mk_rd o4a (by omega)
    have H4f := heap_grown H4e hg10 (OwnL.ne ho4 (Nat.le_refl _))
    have H2d := heap_ext H2 e2a
    have D4 := fun w' (e : Ext w10 w') => boxed_at H4f e
    clear D4' o49 H4e hg10 e29 o4a
    go_wp2_with fail
    refine (G1.out _ _ _ ra).mono ?_; rintro _ w11 ⟨rfl, he11⟩
    have e2b := e2a.trans he11
    go_wp2_with fail
    refine (toByteS_c _ _ _ _ (h.ext (b2.trans e2b)) hL).mono ?_; rintro _ w12 ⟨v12, rfl, ho12, he12⟩; obtain ⟨A12, c12, rfl, r12⟩ := OwnL.rd ho12 hL'
    go_wp2_with fail
    refine (C2.out _ _ _ r12).mono ?_; rintro _ w13 ⟨v13, rfl, ho13, he13⟩; obtain ⟨A13, c13, rfl, r13⟩ := OwnL.rd ho13 (by omega)
    have f13 := Ext_alloc (.cells #[.int .i64 k, .string nm, .int .i64 ver, .slice A13 d.length c13] 37) (Ext.refl w13)
    have ea := ((he11.trans he12).trans he13).trans f13
    have H2e := heap_ext H2d ea
    have D2 := fun w' (e : Ext (w13.alloc (.cells #[.int .i64 k, .string nm, .int .i64 ver, .slice A13 d.length c13] 37)) w') => boxed_at H2e e
    have D4' := fun w' (e : Ext (w13.alloc (.cells #[.int .i64 k, .string nm, .int .i64 ver, .slice A13 d.length c13] 37)) w') => D4 w' (ea.trans e)
    clear he12 he13 ho12 ho13 r12 D4 he11 e2b
    go_wp2_with fail
    refine (eqRecord_c _ _ _ _ _ _ _ _ _ _ _ _ _ (r13.ext f13) (r2'.ext (e2a.trans ea))).mono ?_; rintro _ w14 ⟨rfl, he14⟩; rw [HE.out]
    have eb := ea.trans he14
    have D4 := fun w' (e : Ext w14 w') => D4' w' (he14.trans e)
    clear D4' D2
    go_wp2_with fail
    refine (G1.out _ _ _ (ra.ext eb)).mono ?_; rintro _ w15 ⟨rfl, he15⟩
    go_wp2
    go_ret
    exact ⟨rfl, (b2.trans (e2a.trans eb)).trans he15⟩
  · have hd : decide ((1048576 : Int) < (l.length : Int)) = true := by simp; omega
    go_enter Try.func8, Try.ntmps8
    go_wp2
    go_ret
    exact ⟨rfl, Ext.refl _⟩
end Go.Proofs.Ytohejlknihleeaa
