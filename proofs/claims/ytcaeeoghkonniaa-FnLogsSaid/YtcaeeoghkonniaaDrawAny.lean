/- The drawn logs, bent. -/
import Derived.Test.YtcaeeoghkonniaaDrawLog
namespace Go.Proofs.Ytcaeeoghkonniaa
open Go.RowKit Go.Sort

set_option maxRecDepth 100000 in
set_option maxHeartbeats 4000000 in
theorem l34Any_c (wb w : World) (p : Nat) (A : Option Addr) (l : List UInt8) (c : Nat) (hA : Bs wb A l c) (hC : Cur wb w p A l c) :
    Calls Try.prog 20 #[.pointer (some ⟨p, 0, none⟩)] w fun e w' => ∃ d s v, d.length ≤ 4001 ∧ e = .returned (vlog v s) ∧ OwnL vu8 5 wb w' v d ∧ (∀ g, v.ownBlock = some g → w.heap.size ≤ g) ∧ Cur wb w' p A l c ∧ w.grownBy w' (some p) := by
  have CBe := Lib.hid (fun n w h hn => l1Below_c n wb w p A l c hA h hn)
  have CLo := Lib.hid (fun w h => l34Log_c wb w p A l c hA h)
  unfold vlog at CLo
  have hplt := hC.lt
  have hbp := hC.1
  have hbw := hC.2.1.size
  have e0 := Ext_alloc (.cells #[.slice none 0 0, .int .i64 0] 25) (Ext.refl w)
  have HR := Lib.hid (Box.new w #[.slice none 0 0, .int .i64 0] 25)
  have hRp : (some p : Option Nat) ≠ some w.heap.size := some_ne (by omega)
  go_enter Try.func20, Try.ntmps20
  go_wp2_with fail
  refine (CLo.out _ (hC.ext e0)).mono ?_; rintro _ w1 ⟨d, st, v, hd, rfl, ho1, hn1, hC1, hg1⟩
  have HR1 := HR.out.moved hg1 hRp
  have G1 := (grown_ext e0 (some p)).trans hg1
  have hw1 : w.heap.size < w1.heap.size := HR1.lt
  have hn1 : ∀ k, v.ownBlock = some k → w.heap.size < k ∧ k < w1.heap.size := fun k hk => ⟨by have := hn1 k hk; simp at this; omega, (World.ownsRow.lt ho1 k hk).2⟩
  obtain ⟨A1, c1, rfl, _⟩ := OwnL.rd ho1 (by omega)
  have e1 := Ext_alloc (.cells #[.slice A1 d.length c1, .int .i64 st] 25) (Ext.refl w1)
  have HG1 := Box.new w1 #[.slice A1 d.length c1, .int .i64 st] 25
  have hgp : (some p : Option Nat) ≠ some w1.heap.size := some_ne (by omega)
  clear HR e0 hg1
  go_wp2_with fail
  refine (CBe.out 10 _ (hC1.ext e1) (by omega)).mono ?_; rintro _ w2 ⟨y, hy, rfl, hC2, hg2⟩
  clear hy
  have HG2 := Lib.hid (HG1.moved hg2 hgp)
  have HR2 := Lib.hid ((HR1.ext e1).moved hg2 hRp)
  have ho2 := Lib.hid (OwnL.moved (OwnL.ext ho1 e1) hg2 (fun hh => by have := (hn1 _ hh).1; omega))
  have G2 := Lib.hid ((G1.trans (grown_ext e1 _)).trans hg2)
  clear HG1 HR1 ho1 G1 hg2 hC1 e1
  generalize hgn : w1.heap.size = g at *
  clear hgn
  have hg2 : g < w2.heap.size := HG2.out.lt
  have hgp' : g ≠ p := by omega
  have hgR : g ≠ w.heap.size := by omega
  have r2 := Lib.hid (OwnL.rdAt ho2.out (by omega)).1
  obtain ⟨d0, d1, f0, f1⟩ := HG2.out.two
  obtain ⟨x0, x1, h0, h1⟩ := HR2.out.two
  rcases (by omega : y = 0 ∨ y = 1 ∨ y = 2 ∨ 3 ≤ y) with rfl | rfl | rfl | h3
  · have CIn := Lib.hid (l1IntLit_c [-1, 1, (d.length : Int), (d.length : Int) + 1] (by simp) (by simp) 4 rfl #[.int .i64 (-1), .int .i64 1, .int .i64 d.length, .int .i64 ((d.length : Int) + 1)] rfl wb w2 p A l c hA hC2)
    go_wp2_with fail
    refine CIn.out.mono ?_; rintro _ w3 ⟨x, _, rfl, hC3, hg3⟩
    clear d0 d1 f0 f1 x0 x1 h0 h1
    have HG3 := Lib.hid (HG2.out.moved hg3 (some_ne hgp'.symm))
    have HR3 := Lib.hid ((HR2.out.moved hg3 hRp).other (g' := g) hgR.symm 1 (.int .i64 x))
    have ho3 := Lib.hid ((OwnL.moved ho2.out hg3 (fun hh => by have := (hn1 _ hh).1; omega)).set ⟨g, 1, none⟩ (.int .i64 x) (fun hh => Nat.lt_irrefl _ (hn1 _ hh).2))
    have G3 := Lib.hid (grown_new (a := ⟨g, 1, none⟩) (G2.out.trans hg3) (by show _ ≤ g; omega) (.int .i64 x))
    have HC3 := Lib.hid (hC3.set (a := ⟨g, 1, none⟩) hgp' (by show _ ≤ g; omega) (.int .i64 x))
    obtain ⟨x0, x1, h0, h1⟩ := (HR2.out.moved hg3 hRp).two
    obtain ⟨d0, d1, f0, f1⟩ := HG3.out.two
    clear HG2 HR2 ho2 G2 hg3 hC3
    go_wp2_with fail
    clear d0 d1 f0 f1 x0 x1 h0 h1
    have HB := Lib.hid (Box.stored2 HR3.out (.slice A1 d.length c1) (.int .i64 x))
    have HC := Lib.hid (Cur.set2 HC3.out (g := w.heap.size) (by omega) (by omega) (.slice A1 d.length c1) (.int .i64 x))
    have HGz := Lib.hid (grown_new2 G3.out (Nat.le_refl _) (.slice A1 d.length c1) (.int .i64 x))
    have HO := Lib.hid (OwnL.set2 ho3.out (g := w.heap.size) (fun hh => Nat.lt_irrefl _ (hn1 _ hh).1) (.slice A1 d.length c1) (.int .i64 x))
    generalize ((World.setCell (w3.setCell ⟨g, 1, none⟩ (.int .i64 x)) ⟨w.heap.size, 0, none⟩ (.slice A1 d.length c1)).setCell ⟨w.heap.size, 1, none⟩ (.int .i64 x)) = W at *
    have z0 := HB.out.cell 0; have z1 := HB.out.cell 1
    refine bodyPost_ret (v := .agg #[.slice A1 d.length c1, .int .i64 x]) (by simp at z0 z1; simp [results, Try.results20, go_sem, z0, z1]) rfl ?_
    first
      | exact ⟨d, x, _, (by omega), rfl, HO.out, (fun k hk => Nat.le_of_lt (hn1 k hk).1), HC.out, HGz.out⟩
      | exact ⟨d, (by omega), x, _, rfl, HO.out, (fun k hk => Nat.le_of_lt (hn1 k hk).1), HC.out, HGz.out⟩
  · have HB1 : Hid ((d.length + [(1 : UInt8)].length) * 1 ≤ 140737488355328) := by show _ ≤ _; simp; omega
    have HCS : Hid (#[Value.int .u8 1] = ([(1 : UInt8)].map vu8).toArray) := by show _ = _; rfl
    have hnp : (Value.slice A1 d.length c1).ownBlock ≠ some p := fun hh => by have := (hn1 _ hh).1; omega
    go_wp2_with (first
      | (at_builtin; refine wpList_appC rfl (.tmp 24) (.tmp 25) _ rfl E_u8 (by omega) wb _ vu8 (fun _ => rfl) _ rfl _ _ rfl d [(1 : UInt8)] _ HCS.out ho2.out hC2.2.1 rfl HB1.out p hC2.lt hnp ?_; intro v4 w4 ho4 he4 hn4 hg4 hb4 hv4; have hlen4 : (d ++ [(1 : UInt8)]).length ≤ 4001 := (by simp; omega); have hq4 : ∀ k, v4.ownBlock = some k → w.heap.size < k ∧ k ≠ g := (fun k hk => by rcases hv4 with hv4 | hv4 <;> rw [hv4] at hk <;> first | (have := hn1 k hk; omega) | (injection hk with hk; omega)); have HG4 := HG2.out.moved hg4 (fun hh => Nat.lt_irrefl _ (hn1 _ hh).2); have HR4 := HR2.out.moved hg4 (fun hh => Nat.lt_irrefl _ (hn1 _ hh).1); have G4 := grown_own G2.out (fun k hk => Nat.le_of_lt (hn1 k hk).1) hg4; have hC4 := Cur.kept hC2 hg4 hnp he4; generalize d ++ [(1 : UInt8)] = d4 at *; obtain ⟨A4, c4, rfl, _⟩ := OwnL.rd ho4 (by omega); clear d0 d1 f0 f1 x0 x1 h0 h1; obtain ⟨d0, d1, f0, f1⟩ := HG4.two; obtain ⟨x0, x1, h0, h1⟩ := HR4.two; have HR5 := Lib.hid (HR4.other (g' := g) hgR.symm 0 (.slice A4 d4.length c4)); have ho5 := Lib.hid (ho4.set ⟨g, 0, none⟩ (.slice A4 d4.length c4) (fun hh => (hq4 _ hh).2 rfl)); have G5 := Lib.hid (grown_new (a := ⟨g, 0, none⟩) G4 (by show _ ≤ g; omega) (.slice A4 d4.length c4)); have HC5 := Lib.hid (hC4.set (a := ⟨g, 0, none⟩) hgp' (by show _ ≤ g; omega) (.slice A4 d4.length c4)); clear HG4 HR4 G4 hC4 ho4 hg4 hb4 hv4 hn4 HG2 HR2 ho2 G2 hC2))
    clear d0 d1 f0 f1 x0 x1 h0 h1
    have HB := Lib.hid (Box.stored2 HR5.out (.slice A4 d4.length c4) (.int .i64 st))
    have HC := Lib.hid (Cur.set2 HC5.out (g := w.heap.size) (by omega) (by omega) (.slice A4 d4.length c4) (.int .i64 st))
    have HGz := Lib.hid (grown_new2 G5.out (Nat.le_refl _) (.slice A4 d4.length c4) (.int .i64 st))
    have HO := Lib.hid (OwnL.set2 ho5.out (g := w.heap.size) (fun hh => Nat.lt_irrefl _ (hq4 _ hh).1) (.slice A4 d4.length c4) (.int .i64 st))
    generalize ((World.setCell (w4.setCell ⟨g, 0, none⟩ (.slice A4 d4.length c4)) ⟨w.heap.size, 0, none⟩ (.slice A4 d4.length c4)).setCell ⟨w.heap.size, 1, none⟩ (.int .i64 st)) = W at *
    have z0 := HB.out.cell 0; have z1 := HB.out.cell 1
    refine bodyPost_ret (v := .agg #[.slice A4 d4.length c4, .int .i64 st]) (by simp at z0 z1; simp [results, Try.results20, go_sem, z0, z1]) rfl ?_
    first
      | exact ⟨d4, st, _, (by omega), rfl, HO.out, (fun k hk => Nat.le_of_lt (hq4 k hk).1), HC.out, HGz.out⟩
      | exact ⟨d4, (by omega), st, _, rfl, HO.out, (fun k hk => Nat.le_of_lt (hq4 k hk).1), HC.out, HGz.out⟩
  · by_cases hd0 : 0 < d.length
    · go_wp2_with fail
      refine (l1Bent_c wb w2 p A l c hA hC2 A1 d c1 r2.out (by omega)).mono ?_; rintro _ w5 ⟨v5, m, hm, rfl, ho5, he5, hb5, hC5, hg5⟩
      clear d0 d1 f0 f1 x0 x1 h0 h1
      obtain ⟨A5, c5, rfl, _⟩ := OwnL.rd ho5 (by omega)
      obtain ⟨x0, x1, h0, h1⟩ := (HR2.out.moved hg5 hRp).two
      obtain ⟨d0, d1, f0, f1⟩ := (HG2.out.moved hg5 (some_ne hgp'.symm)).two
      have HR6 := Lib.hid ((HR2.out.moved hg5 hRp).other (g' := g) hgR.symm 0 (.slice A5 m.length c5))
      have ho6 := Lib.hid (ho5.set ⟨g, 0, none⟩ (.slice A5 m.length c5) (fun hh => by have : _ ≤ g := hb5 _ hh; omega))
      have G6 := Lib.hid (grown_new (a := ⟨g, 0, none⟩) (G2.out.trans hg5) (by show _ ≤ g; omega) (.slice A5 m.length c5))
      have HC6 := Lib.hid (hC5.set (a := ⟨g, 0, none⟩) hgp' (by show _ ≤ g; omega) (.slice A5 m.length c5))
      clear HG2 HR2 ho2 G2 hg5 hC5 ho5
      go_wp2_with fail
      clear d0 d1 f0 f1 x0 x1 h0 h1
      have HB := Lib.hid (Box.stored2 HR6.out (.slice A5 m.length c5) (.int .i64 st))
      have HC := Lib.hid (Cur.set2 HC6.out (g := w.heap.size) (by omega) (by omega) (.slice A5 m.length c5) (.int .i64 st))
      have HGz := Lib.hid (grown_new2 G6.out (Nat.le_refl _) (.slice A5 m.length c5) (.int .i64 st))
      have HO := Lib.hid (OwnL.set2 ho6.out (g := w.heap.size) (fun hh => by have := hb5 _ hh; omega) (.slice A5 m.length c5) (.int .i64 st))
      generalize ((World.setCell (w5.setCell ⟨g, 0, none⟩ (.slice A5 m.length c5)) ⟨w.heap.size, 0, none⟩ (.slice A5 m.length c5)).setCell ⟨w.heap.size, 1, none⟩ (.int .i64 st)) = W at *
      have z0 := HB.out.cell 0; have z1 := HB.out.cell 1
      refine bodyPost_ret (v := .agg #[.slice A5 m.length c5, .int .i64 st]) (by simp at z0 z1; simp [results, Try.results20, go_sem, z0, z1]) rfl ?_
      first
        | exact ⟨m, st, _, (by omega), rfl, HO.out, (fun k hk => by have := hb5 k hk; omega), HC.out, HGz.out⟩
        | exact ⟨m, (by omega), st, _, rfl, HO.out, (fun k hk => by have := hb5 k hk; omega), HC.out, HGz.out⟩
    · go_wp2_with fail
      clear d0 d1 f0 f1 x0 x1 h0 h1
      have HB := Lib.hid (Box.stored2 HR2.out (.slice A1 d.length c1) (.int .i64 st))
      have HC := Lib.hid (Cur.set2 hC2 (g := w.heap.size) (by omega) (by omega) (.slice A1 d.length c1) (.int .i64 st))
      have HGz := Lib.hid (grown_new2 G2.out (Nat.le_refl _) (.slice A1 d.length c1) (.int .i64 st))
      have HO := Lib.hid (OwnL.set2 ho2.out (g := w.heap.size) (fun hh => Nat.lt_irrefl _ (hn1 _ hh).1) (.slice A1 d.length c1) (.int .i64 st))
      generalize ((World.setCell (w2) ⟨w.heap.size, 0, none⟩ (.slice A1 d.length c1)).setCell ⟨w.heap.size, 1, none⟩ (.int .i64 st)) = W at *
      have z0 := HB.out.cell 0; have z1 := HB.out.cell 1
      refine bodyPost_ret (v := .agg #[.slice A1 d.length c1, .int .i64 st]) (by simp at z0 z1; simp [results, Try.results20, go_sem, z0, z1]) rfl ?_
      first
        | exact ⟨d, st, _, (by omega), rfl, HO.out, (fun k hk => Nat.le_of_lt (hn1 k hk).1), HC.out, HGz.out⟩
        | exact ⟨d, (by omega), st, _, rfl, HO.out, (fun k hk => Nat.le_of_lt (hn1 k hk).1), HC.out, HGz.out⟩
  · go_wp2_with fail
    clear d0 d1 f0 f1 x0 x1 h0 h1
    have HB := Lib.hid (Box.stored2 HR2.out (.slice A1 d.length c1) (.int .i64 st))
    have HC := Lib.hid (Cur.set2 hC2 (g := w.heap.size) (by omega) (by omega) (.slice A1 d.length c1) (.int .i64 st))
    have HGz := Lib.hid (grown_new2 G2.out (Nat.le_refl _) (.slice A1 d.length c1) (.int .i64 st))
    have HO := Lib.hid (OwnL.set2 ho2.out (g := w.heap.size) (fun hh => Nat.lt_irrefl _ (hn1 _ hh).1) (.slice A1 d.length c1) (.int .i64 st))
    generalize ((World.setCell (w2) ⟨w.heap.size, 0, none⟩ (.slice A1 d.length c1)).setCell ⟨w.heap.size, 1, none⟩ (.int .i64 st)) = W at *
    have z0 := HB.out.cell 0; have z1 := HB.out.cell 1
    refine bodyPost_ret (v := .agg #[.slice A1 d.length c1, .int .i64 st]) (by simp at z0 z1; simp [results, Try.results20, go_sem, z0, z1]) rfl ?_
    first
      | exact ⟨d, st, _, (by omega), rfl, HO.out, (fun k hk => Nat.le_of_lt (hn1 k hk).1), HC.out, HGz.out⟩
      | exact ⟨d, (by omega), st, _, rfl, HO.out, (fun k hk => Nat.le_of_lt (hn1 k hk).1), HC.out, HGz.out⟩
end Go.Proofs.Ytcaeeoghkonniaa
