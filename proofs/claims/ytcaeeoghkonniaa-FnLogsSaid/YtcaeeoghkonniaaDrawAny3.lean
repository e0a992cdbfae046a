/- The drawn records, valid or not. -/
import Derived.Test.YtcaeeoghkonniaaDrawRec
namespace Go.Proofs.Ytcaeeoghkonniaa
open Go.RowKit Go.Sort

set_option maxRecDepth 100000 in
set_option maxHeartbeats 8000000 in
theorem l33Any_c (wb w : World) (p : Nat) (A : Option Addr) (l : List UInt8) (c : Nat) (hA : Bs wb A l c) (hC : Cur wb w p A l c) :
    Calls Try.prog 33 #[.pointer (some ⟨p, 0, none⟩)] w fun e w' => ∃ k nm ver d v, nm.size ≤ 100 ∧ d.length ≤ 790 ∧ e = .returned (vrec k nm ver v) ∧ OwnL vu8 5 wb w' v d ∧ (∀ g, v.ownBlock = some g → w.heap.size ≤ g) ∧ Cur wb w' p A l c ∧ w.grownBy w' (some p) := by
  have CBe := Lib.hid (fun n w h hn => l1Below_c n wb w p A l c hA h hn)
  have CRe := Lib.hid (fun w h => l33Record_c wb w p A l c hA h)
  have CI0 := Lib.hid (fun w h => l1IntLit_c [0, 3] (by simp) (by simp) 2 rfl #[.int .i64 0, .int .i64 3] rfl wb w p A l c hA h)
  have CI2 := Lib.hid (fun w h => l1IntLit_c [-1, 7, 8] (by simp) (by simp) 3 rfl #[.int .i64 (-1), .int .i64 7, .int .i64 8] rfl wb w p A l c hA h)
  have CS1 := Lib.hid (fun w h => l1StrLit_c [⟨#[]⟩, ⟨#[65]⟩, ⟨#[97, 118, 101, 114, 121, 108, 111, 110, 103, 110, 97, 109, 101]⟩] (by simp) (by simp) 3 rfl #[.string ⟨#[]⟩, .string ⟨#[65]⟩, .string ⟨#[97, 118, 101, 114, 121, 108, 111, 110, 103, 110, 97, 109, 101]⟩] rfl wb w p A l c hA h)
  unfold vrec at CRe
  have hplt := hC.lt
  have hbp := hC.1
  have hbw := hC.2.1.size
  have e0 := Ext_alloc (.cells #[.int .i64 0, .string ⟨#[]⟩, .int .i64 0, .slice none 0 0] 36) (Ext.refl w)
  have HR := Lib.hid (Box.new w #[.int .i64 0, .string ⟨#[]⟩, .int .i64 0, .slice none 0 0] 36)
  have hRp : (some p : Option Nat) ≠ some w.heap.size := some_ne (by omega)
  go_enter Try.func33, Try.ntmps33
  go_wp2_with fail
  refine (CRe.out _ (hC.ext e0)).mono ?_; rintro _ w1 ⟨k, nm, ver, d, v, hnm, hd, rfl, ho1, hn1, hC1, hg1⟩
  have HR1 := HR.out.moved hg1 hRp
  have G1 := (grown_ext e0 (some p)).trans hg1
  have hw1 : w.heap.size < w1.heap.size := HR1.lt
  have hn1 : ∀ k, v.ownBlock = some k → w.heap.size < k ∧ k < w1.heap.size := fun k hk => ⟨by have := hn1 k hk; simp at this; omega, (World.ownsRow.lt ho1 k hk).2⟩
  obtain ⟨A1, c1, rfl, _⟩ := OwnL.rd ho1 (by omega)
  have e1 := Ext_alloc (.cells #[.int .i64 k, .string nm, .int .i64 ver, .slice A1 d.length c1] 36) (Ext.refl w1)
  have HG1 := Box.new w1 #[.int .i64 k, .string nm, .int .i64 ver, .slice A1 d.length c1] 36
  have hgp : (some p : Option Nat) ≠ some w1.heap.size := some_ne (by omega)
  clear HR e0 hg1
  go_wp2_with fail
  refine (CBe.out 12 _ (hC1.ext e1) (by omega)).mono ?_; rintro _ w2 ⟨y, hy, rfl, hC2, hg2⟩
  clear hy
  have HG2 := Lib.hid (HG1.moved hg2 hgp)
  have HR2 := Lib.hid ((HR1.ext e1).moved hg2 hRp)
  have ho2 := Lib.hid (OwnL.moved (OwnL.ext ho1 e1) hg2 (fun hh => by have := (hn1 _ hh).1; omega))
  have G2 := Lib.hid ((G1.trans (grown_ext e1 _)).trans hg2)
  clear HG1 HR1 ho1 G1 hg2 hC1 e1
  generalize hgn : w1.heap.size = g at *
  clear hgn
  have hg2 : g < w2.heap.size := HG2.out.lt
  have hgp' : g ≠ p := by omega
  have hgR : g ≠ w.heap.size := by omega
  obtain ⟨d0, d1, d2, d3, f0, f1, f2, f3⟩ := HG2.out.four
  obtain ⟨x0, x1, x2, x3, h0, h1, h2, h3⟩ := HR2.out.four
  rcases (by omega : y = 0 ∨ y = 1 ∨ y = 2 ∨ y = 3 ∨ 4 ≤ y) with rfl | rfl | rfl | rfl | h4
  · go_wp2_with fail
    refine (CI0.out _ hC2).mono ?_; rintro _ w3 ⟨x, _, rfl, hC3, hg3⟩
    clear d0 d1 d2 d3 f0 f1 f2 f3 x0 x1 x2 x3 h0 h1 h2 h3
    have HG3 := Lib.hid (HG2.out.moved hg3 (some_ne hgp'.symm))
    have HR3 := Lib.hid ((HR2.out.moved hg3 hRp).other (g' := g) hgR.symm 0 (.int .i64 x))
    have ho3 := Lib.hid ((OwnL.moved ho2.out hg3 (fun hh => by have := (hn1 _ hh).1; omega)).set ⟨g, 0, none⟩ (.int .i64 x) (fun hh => Nat.lt_irrefl _ (hn1 _ hh).2))
    have G3 := Lib.hid (grown_new (a := ⟨g, 0, none⟩) (G2.out.trans hg3) (by show _ ≤ g; omega) (.int .i64 x))
    have HC3 := Lib.hid (hC3.set (a := ⟨g, 0, none⟩) hgp' (by show _ ≤ g; omega) (.int .i64 x))
    obtain ⟨x0, x1, x2, x3, h0, h1, h2, h3⟩ := (HR2.out.moved hg3 hRp).four
    obtain ⟨d0, d1, d2, d3, f0, f1, f2, f3⟩ := HG3.out.four
    clear HG2 HR2 ho2 G2 hg3 hC3
    go_wp2_with fail
    clear d0 d1 d2 d3 f0 f1 f2 f3 x0 x1 x2 x3 h0 h1 h2 h3
    have HB := Lib.hid (Box.stored4 HR3.out (.int .i64 x) (.string nm) (.int .i64 ver) (.slice A1 d.length c1))
    have HC := Lib.hid (Cur.set4 HC3.out (g := w.heap.size) (by omega) (by omega) (.int .i64 x) (.string nm) (.int .i64 ver) (.slice A1 d.length c1))
    have HGz := Lib.hid (grown_new4 G3.out (Nat.le_refl _) (.int .i64 x) (.string nm) (.int .i64 ver) (.slice A1 d.length c1))
    have HO := Lib.hid (OwnL.set4 ho3.out (g := w.heap.size) (fun hh => Nat.lt_irrefl _ (hn1 _ hh).1) (.int .i64 x) (.string nm) (.int .i64 ver) (.slice A1 d.length c1))
    generalize ((((World.setCell (w3.setCell ⟨g, 0, none⟩ (.int .i64 x)) ⟨w.heap.size, 0, none⟩ (.int .i64 x)).setCell ⟨w.heap.size, 1, none⟩ (.string nm)).setCell ⟨w.heap.size, 2, none⟩ (.int .i64 ver)).setCell ⟨w.heap.size, 3, none⟩ (.slice A1 d.length c1)) = W at *
    have z0 := HB.out.cell 0; have z1 := HB.out.cell 1; have z2 := HB.out.cell 2; have z3 := HB.out.cell 3
    refine bodyPost_ret (v := .agg #[.int .i64 x, .string nm, .int .i64 ver, .slice A1 d.length c1]) (by simp at z0 z1 z2 z3; simp [results, Try.results33, go_sem, z0, z1, z2, z3]) rfl ?_
    first
      | exact ⟨x, nm, ver, d, _, hnm, hd, rfl, HO.out, (fun k hk => Nat.le_of_lt (hn1 k hk).1), HC.out, HGz.out⟩
      | exact ⟨x, nm, hnm, ver, d, hd, _, rfl, HO.out, (fun k hk => Nat.le_of_lt (hn1 k hk).1), HC.out, HGz.out⟩
  · go_wp2_with fail
    refine (CS1.out _ hC2).mono ?_; rintro _ w3 ⟨x, hx, rfl, hC3, hg3⟩
    clear d0 d1 d2 d3 f0 f1 f2 f3 x0 x1 x2 x3 h0 h1 h2 h3
    have hx2 : x.size ≤ 100 := by simp at hx; rcases hx with rfl | rfl | rfl <;> decide
    clear hx
    have HG3 := Lib.hid (HG2.out.moved hg3 (some_ne hgp'.symm))
    have HR3 := Lib.hid ((HR2.out.moved hg3 hRp).other (g' := g) hgR.symm 1 (.string x))
    have ho3 := Lib.hid ((OwnL.moved ho2.out hg3 (fun hh => by have := (hn1 _ hh).1; omega)).set ⟨g, 1, none⟩ (.string x) (fun hh => Nat.lt_irrefl _ (hn1 _ hh).2))
    have G3 := Lib.hid (grown_new (a := ⟨g, 1, none⟩) (G2.out.trans hg3) (by show _ ≤ g; omega) (.string x))
    have HC3 := Lib.hid (hC3.set (a := ⟨g, 1, none⟩) hgp' (by show _ ≤ g; omega) (.string x))
    obtain ⟨x0, x1, x2, x3, h0, h1, h2, h3⟩ := (HR2.out.moved hg3 hRp).four
    obtain ⟨d0, d1, d2, d3, f0, f1, f2, f3⟩ := HG3.out.four
    clear HG2 HR2 ho2 G2 hg3 hC3
    go_wp2_with fail
    clear d0 d1 d2 d3 f0 f1 f2 f3 x0 x1 x2 x3 h0 h1 h2 h3
    have HB := Lib.hid (Box.stored4 HR3.out (.int .i64 k) (.string x) (.int .i64 ver) (.slice A1 d.length c1))
    have HC := Lib.hid (Cur.set4 HC3.out (g := w.heap.size) (by omega) (by omega) (.int .i64 k) (.string x) (.int .i64 ver) (.slice A1 d.length c1))
    have HGz := Lib.hid (grown_new4 G3.out (Nat.le_refl _) (.int .i64 k) (.string x) (.int .i64 ver) (.slice A1 d.length c1))
    have HO := Lib.hid (OwnL.set4 ho3.out (g := w.heap.size) (fun hh => Nat.lt_irrefl _ (hn1 _ hh).1) (.int .i64 k) (.string x) (.int .i64 ver) (.slice A1 d.length c1))
    generalize ((((World.setCell (w3.setCell ⟨g, 1, none⟩ (.string x)) ⟨w.heap.size, 0, none⟩ (.int .i64 k)).setCell ⟨w.heap.size, 1, none⟩ (.string x)).setCell ⟨w.heap.size, 2, none⟩ (.int .i64 ver)).setCell ⟨w.heap.size, 3, none⟩ (.slice A1 d.length c1)) = W at *
    have z0 := HB.out.cell 0; have z1 := HB.out.cell 1; have z2 := HB.out.cell 2; have z3 := HB.out.cell 3
    refine bodyPost_ret (v := .agg #[.int .i64 k, .string x, .int .i64 ver, .slice A1 d.length c1]) (by simp at z0 z1 z2 z3; simp [results, Try.results33, go_sem, z0, z1, z2, z3]) rfl ?_
    first
      | exact ⟨k, x, ver, d, _, hx2, hd, rfl, HO.out, (fun k hk => Nat.le_of_lt (hn1 k hk).1), HC.out, HGz.out⟩
      | exact ⟨k, x, hx2, ver, d, hd, _, rfl, HO.out, (fun k hk => Nat.le_of_lt (hn1 k hk).1), HC.out, HGz.out⟩
  · go_wp2_with fail
    refine (CI2.out _ hC2).mono ?_; rintro _ w3 ⟨x, _, rfl, hC3, hg3⟩
    clear d0 d1 d2 d3 f0 f1 f2 f3 x0 x1 x2 x3 h0 h1 h2 h3
    have HG3 := Lib.hid (HG2.out.moved hg3 (some_ne hgp'.symm))
    have HR3 := Lib.hid ((HR2.out.moved hg3 hRp).other (g' := g) hgR.symm 2 (.int .i64 x))
    have ho3 := Lib.hid ((OwnL.moved ho2.out hg3 (fun hh => by have := (hn1 _ hh).1; omega)).set ⟨g, 2, none⟩ (.int .i64 x) (fun hh => Nat.lt_irrefl _ (hn1 _ hh).2))
    have G3 := Lib.hid (grown_new (a := ⟨g, 2, none⟩) (G2.out.trans hg3) (by show _ ≤ g; omega) (.int .i64 x))
    have HC3 := Lib.hid (hC3.set (a := ⟨g, 2, none⟩) hgp' (by show _ ≤ g; omega) (.int .i64 x))
    obtain ⟨x0, x1, x2, x3, h0, h1, h2, h3⟩ := (HR2.out.moved hg3 hRp).four
    obtain ⟨d0, d1, d2, d3, f0, f1, f2, f3⟩ := HG3.out.four
    clear HG2 HR2 ho2 G2 hg3 hC3
    go_wp2_with fail
    clear d0 d1 d2 d3 f0 f1 f2 f3 x0 x1 x2 x3 h0 h1 h2 h3
    have HB := Lib.hid (Box.stored4 HR3.out (.int .i64 k) (.string nm) (.int .i64 x) (.slice A1 d.length c1))
    have HC := Lib.hid (Cur.set4 HC3.out (g := w.heap.size) (by omega) (by omega) (.int .i64 k) (.string nm) (.int .i64 x) (.slice A1 d.length c1))
    have HGz := Lib.hid (grown_new4 G3.out (Nat.le_refl _) (.int .i64 k) (.string nm) (.int .i64 x) (.slice A1 d.length c1))
    have HO := Lib.hid (OwnL.set4 ho3.out (g := w.heap.size) (fun hh => Nat.lt_irrefl _ (hn1 _ hh).1) (.int .i64 k) (.string nm) (.int .i64 x) (.slice A1 d.length c1))
    generalize ((((World.setCell (w3.setCell ⟨g, 2, none⟩ (.int .i64 x)) ⟨w.heap.size, 0, none⟩ (.int .i64 k)).setCell ⟨w.heap.size, 1, none⟩ (.string nm)).setCell ⟨w.heap.size, 2, none⟩ (.int .i64 x)).setCell ⟨w.heap.size, 3, none⟩ (.slice A1 d.length c1)) = W at *
    have z0 := HB.out.cell 0; have z1 := HB.out.cell 1; have z2 := HB.out.cell 2; have z3 := HB.out.cell 3
    refine bodyPost_ret (v := .agg #[.int .i64 k, .string nm, .int .i64 x, .slice A1 d.length c1]) (by simp at z0 z1 z2 z3; simp [results, Try.results33, go_sem, z0, z1, z2, z3]) rfl ?_
    first
      | exact ⟨k, nm, x, d, _, hnm, hd, rfl, HO.out, (fun k hk => Nat.le_of_lt (hn1 k hk).1), HC.out, HGz.out⟩
      | exact ⟨k, nm, hnm, x, d, hd, _, rfl, HO.out, (fun k hk => Nat.le_of_lt (hn1 k hk).1), HC.out, HGz.out⟩
  · go_wp2_with fail
    refine (CBe.out 2 _ hC2 (by omega)).mono ?_; rintro _ w3 ⟨x, hx, rfl, hC3, hg3⟩
    have hx2 : x < 2 := by unfold below at hx; rw [if_neg (by omega)] at hx; omega
    clear hx
    clear d0 d1 d2 d3 f0 f1 f2 f3 x0 x1 x2 x3 h0 h1 h2 h3
    have HG3 := Lib.hid (HG2.out.moved hg3 (some_ne hgp'.symm))
    have HR3 := Lib.hid (HR2.out.moved hg3 hRp)
    have G3 := Lib.hid (G2.out.trans hg3)
    clear HG2 HR2 ho2 G2 hg3 hC2
    have HN4 : Hid ((400 : Int) + (x : Int) = ((400 + x : Nat) : Int)) := by show _ = _; omega
    have hmx : 400 + x ≤ 401 := by omega
    go_wp2_with (first
      | (at_make; refine wpList_mk rfl _ _ _ rfl E_u8 w3 w3 (Ext.refl _) (400 + x) (congrArg (Value.int .i64) HN4.out) (congrArg (Value.int .i64) HN4.out) (by omega) (by simp [maxLen]; omega) ?_; intro w4 ho4 he4 _; rw [made_one _ rfl] at ho4; clear HN4; generalize 400 + x = n at *; have HO4 : Hid (OwnL vu8 5 wb w4 (.slice (some ⟨w3.heap.size, 0, none⟩) (List.replicate n (0 : UInt8)).length n) (List.replicate n 0)) := (by show OwnL _ _ _ _ _ _; unfold OwnL; rw [List.length_replicate, List.map_replicate]; exact World.ownsRow.lower ho4 hC3.2.1.size); rw [List.length_replicate] at HO4; clear ho4; have hw3 : g < w3.heap.size := HG3.out.lt; obtain ⟨x0, x1, x2, x3, h0, h1, h2, h3⟩ := (HR3.out.ext he4).four; obtain ⟨d0, d1, d2, d3, f0, f1, f2, f3⟩ := (HG3.out.ext he4).four; have HR4 := Lib.hid ((HR3.out.ext he4).other (g' := g) hgR.symm 3 (.slice (some ⟨w3.heap.size, 0, none⟩) n n)); have ho5 := Lib.hid (HO4.out.set ⟨g, 3, none⟩ (.slice (some ⟨w3.heap.size, 0, none⟩) n n) (some_ne (by show w3.heap.size ≠ g; omega))); have G4 := Lib.hid (grown_new (a := ⟨g, 3, none⟩) (G3.out.trans (grown_ext he4 _)) (by show _ ≤ g; omega) (.slice (some ⟨w3.heap.size, 0, none⟩) n n)); have HC4 := Lib.hid ((hC3.ext he4).set (a := ⟨g, 3, none⟩) hgp' (by show _ ≤ g; omega) (.slice (some ⟨w3.heap.size, 0, none⟩) n n)); clear HG3 HR3 G3 hC3 HO4))
    clear d0 d1 d2 d3 f0 f1 f2 f3 x0 x1 x2 x3 h0 h1 h2 h3
    have HB := Lib.hid (Box.stored4 HR4.out (.int .i64 k) (.string nm) (.int .i64 ver) (.slice (some ⟨w3.heap.size, 0, none⟩) n n))
    have HC := Lib.hid (Cur.set4 HC4.out (g := w.heap.size) (by omega) (by omega) (.int .i64 k) (.string nm) (.int .i64 ver) (.slice (some ⟨w3.heap.size, 0, none⟩) n n))
    have HGz := Lib.hid (grown_new4 G4.out (Nat.le_refl _) (.int .i64 k) (.string nm) (.int .i64 ver) (.slice (some ⟨w3.heap.size, 0, none⟩) n n))
    have HO := Lib.hid (OwnL.set4 ho5.out (g := w.heap.size) (some_ne (by show w3.heap.size ≠ w.heap.size; omega)) (.int .i64 k) (.string nm) (.int .i64 ver) (.slice (some ⟨w3.heap.size, 0, none⟩) n n))
    generalize ((((World.setCell (w4.setCell ⟨g, 3, none⟩ (.slice (some ⟨w3.heap.size, 0, none⟩) n n)) ⟨w.heap.size, 0, none⟩ (.int .i64 k)).setCell ⟨w.heap.size, 1, none⟩ (.string nm)).setCell ⟨w.heap.size, 2, none⟩ (.int .i64 ver)).setCell ⟨w.heap.size, 3, none⟩ (.slice (some ⟨w3.heap.size, 0, none⟩) n n)) = W at *
    have z0 := HB.out.cell 0; have z1 := HB.out.cell 1; have z2 := HB.out.cell 2; have z3 := HB.out.cell 3
    refine bodyPost_ret (v := .agg #[.int .i64 k, .string nm, .int .i64 ver, .slice (some ⟨w3.heap.size, 0, none⟩) n n]) (by simp at z0 z1 z2 z3; simp [results, Try.results33, go_sem, z0, z1, z2, z3]) rfl ?_
    first
      | exact ⟨k, nm, ver, (List.replicate n 0), _, hnm, (by simp; omega), rfl, HO.out, (fun k hk => by injection hk with hk; simp at hk; omega), HC.out, HGz.out⟩
      | exact ⟨k, nm, hnm, ver, (List.replicate n 0), (by simp; omega), _, rfl, HO.out, (fun k hk => by injection hk with hk; simp at hk; omega), HC.out, HGz.out⟩
  · go_wp2_with fail
    clear d0 d1 d2 d3 f0 f1 f2 f3 x0 x1 x2 x3 h0 h1 h2 h3
    have HB := Lib.hid (Box.stored4 HR2.out (.int .i64 k) (.string nm) (.int .i64 ver) (.slice A1 d.length c1))
    have HC := Lib.hid (Cur.set4 hC2 (g := w.heap.size) (by omega) (by omega) (.int .i64 k) (.string nm) (.int .i64 ver) (.slice A1 d.length c1))
    have HGz := Lib.hid (grown_new4 G2.out (Nat.le_refl _) (.int .i64 k) (.string nm) (.int .i64 ver) (.slice A1 d.length c1))
    have HO := Lib.hid (OwnL.set4 ho2.out (g := w.heap.size) (fun hh => Nat.lt_irrefl _ (hn1 _ hh).1) (.int .i64 k) (.string nm) (.int .i64 ver) (.slice A1 d.length c1))
    generalize ((((World.setCell (w2) ⟨w.heap.size, 0, none⟩ (.int .i64 k)).setCell ⟨w.heap.size, 1, none⟩ (.string nm)).setCell ⟨w.heap.size, 2, none⟩ (.int .i64 ver)).setCell ⟨w.heap.size, 3, none⟩ (.slice A1 d.length c1)) = W at *
    have z0 := HB.out.cell 0; have z1 := HB.out.cell 1; have z2 := HB.out.cell 2; have z3 := HB.out.cell 3
    refine bodyPost_ret (v := .agg #[.int .i64 k, .string nm, .int .i64 ver, .slice A1 d.length c1]) (by simp at z0 z1 z2 z3; simp [results, Try.results33, go_sem, z0, z1, z2, z3]) rfl ?_
    first
      | exact ⟨k, nm, ver, d, _, hnm, hd, rfl, HO.out, (fun k hk => Nat.le_of_lt (hn1 k hk).1), HC.out, HGz.out⟩
      | exact ⟨k, nm, hnm, ver, d, hd, _, rfl, HO.out, (fun k hk => Nat.le_of_lt (hn1 k hk).1), HC.out, HGz.out⟩
set_option maxRecDepth 100000 in
set_option maxHeartbeats 1000000 in
theorem drawRecord_c (A : Option Addr) (l : List UInt8) (c : Nat) (w : World) (hA : Bs w A l c) :
    Calls Try.prog 13 #[.slice A l.length c] w fun e w' => ∃ k nm ver d v, nm.size ≤ 100 ∧ d.length ≤ 790 ∧ e = .returned (vrec k nm ver v) ∧ OwnL vu8 5 w w' v d ∧ Ext w w' := by
  have CAny := Lib.hid (fun wb w p h1 h2 => l33Any_c wb w p A l c h1 h2)
  unfold vrec at CAny
  have e0 := Ext_alloc (.cells #[.int .i64 0, .string ⟨#[]⟩, .int .i64 0, .slice none 0 0] 36) (Ext.refl w)
  have HR := Lib.hid (Box.new w #[.int .i64 0, .string ⟨#[]⟩, .int .i64 0, .slice none 0 0] 36)
  go_enter Try.func13, Try.ntmps13
  go_wp2_with fail
  refine (l1New_c A l c _ (hA.ext e0)).mono ?_; rintro _ w1 ⟨p, rfl, hC1⟩
  go_wp2_with fail
  refine (CAny.out _ w1 p (hA.ext e0) hC1).mono ?_; rintro _ w2 ⟨k, nm, ver, d, v, hnm, hd, rfl, ho2, _, hC2, _⟩
  have HR2 := Lib.hid (HR.out.ext hC2.2.1)
  have hn2 : ∀ k, v.ownBlock = some k → w.heap.size < k := fun k hk => by have := (World.ownsRow.lt ho2 k hk).1; simp at this; omega
  obtain ⟨A2, c2, rfl, _⟩ := OwnL.rd ho2 (by omega)
  have ho2 := Lib.hid (OwnL.lower ho2 e0)
  have e2 := e0.trans hC2.2.1
  obtain ⟨x0, x1, x2, x3, h0, h1, h2, h3⟩ := HR2.out.four
  clear hC1 hC2 e0 HR
  go_wp2_with fail
  clear x0 x1 x2 x3 h0 h1 h2 h3
  have HB := Lib.hid (Box.stored4 HR2.out (.int .i64 k) (.string nm) (.int .i64 ver) (.slice A2 d.length c2))
  have HO := Lib.hid (OwnL.set4 ho2.out (g := w.heap.size) (fun hh => Nat.lt_irrefl _ (hn2 _ hh)) (.int .i64 k) (.string nm) (.int .i64 ver) (.slice A2 d.length c2))
  have HE : Hid (Ext w ((((w2.setCell ⟨w.heap.size, 0, none⟩ (.int .i64 k)).setCell ⟨w.heap.size, 1, none⟩ (.string nm)).setCell ⟨w.heap.size, 2, none⟩ (.int .i64 ver)).setCell ⟨w.heap.size, 3, none⟩ (.slice A2 d.length c2))) := (((e2.setCell (p := ⟨w.heap.size, 0, none⟩) (Nat.le_refl _) _).setCell (p := ⟨w.heap.size, 1, none⟩) (Nat.le_refl _) _).setCell (p := ⟨w.heap.size, 2, none⟩) (Nat.le_refl _) _).setCell (p := ⟨w.heap.size, 3, none⟩) (Nat.le_refl _) _
  generalize ((((World.setCell w2 ⟨w.heap.size, 0, none⟩ (.int .i64 k)).setCell ⟨w.heap.size, 1, none⟩ (.string nm)).setCell ⟨w.heap.size, 2, none⟩ (.int .i64 ver)).setCell ⟨w.heap.size, 3, none⟩ (.slice A2 d.length c2)) = W at *
  have z0 := HB.out.cell 0; have z1 := HB.out.cell 1; have z2 := HB.out.cell 2; have z3 := HB.out.cell 3
  refine bodyPost_ret (v := .agg #[.int .i64 k, .string nm, .int .i64 ver, .slice A2 d.length c2]) (by simp at z0 z1 z2 z3; simp [results, Try.results13, go_sem, z0, z1, z2, z3]) rfl ?_
  first
    | exact ⟨k, nm, ver, d, _, hnm, hd, rfl, HO.out, HE.out⟩
    | exact ⟨k, nm, hnm, ver, d, hd, _, rfl, HO.out, HE.out⟩
end Go.Proofs.Ytcaeeoghkonniaa
