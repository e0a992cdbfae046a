/- The drawn records. -/
import Derived.Test.YtdbbdoldndnbhaaDoorZRc2
import Derived.Shelf.Strings.OnBuilder
import Derived.Shelf.LaysM
import Derived.Shelf.Strconv.Itoa3
import Derived.Test.YtdbbdoldndnbhaaDoorProg
import Derived.Laws.BytesArg
import Derived.Lib.LaidTab
import Derived.Lib.ItoaNum
import Derived.Lib.AppendIntMem
import Derived.Deep.RegionHeld3
import Derived.Test.YtdbbdoldndnbhaaDoorRows
import Derived.Stop.LaidErr
import Derived.LaidLaws
namespace Go.Proofs.YtdbbdoldndnbhaaDoor
open Go.RowKit Go.Sort

set_option maxRecDepth 100000 in
set_option maxHeartbeats 1000000 in
theorem l1Str_c (B : Option Addr) (ns : List ByteArray) (cb : Nat) (hns : 0 < ns.length) (hns2 : ns.length ≤ 256) (wb w : World) (p : Nat) (A : Option Addr) (l : List UInt8) (c : Nat) (hA : Bs wb A l c) (hC : Cur wb w p A l c)
    (hk : ∀ w', w.grownBy w' (some p) → ∀ i (h : i < ns.length), ∃ b off, B = some ⟨b, off, none⟩ ∧ w'.cell? ⟨b, off + i, none⟩ = some (.string ns[i])) :
    Calls Tryd.prog 109 #[.pointer (some ⟨p, 0, none⟩), .slice B ns.length cb] w fun e w' => ∃ x ∈ ns, e = .returned (.string x) ∧ Cur wb w' p A l c ∧ w.grownBy w' (some p) := by
  have CB := Lib.hid (fun w h => l1Below_c ns.length wb w p A l c hA h (by omega))
  go_enter Tryd.func109, Tryd.ntmps109
  go_wp2_with fail
  refine (CB.out _ hC).mono ?_; rintro _ w1 ⟨x, hx, rfl, hC1, hg1⟩
  have hx' : x < ns.length := by unfold below at hx; rw [if_neg (by omega)] at hx; omega
  obtain ⟨b, off, rfl, hc⟩ := hk w1 hg1 x hx'
  go_wp2
  go_ret
  exact ⟨_, List.getElem_mem hx', rfl, hC1, hg1⟩
set_option maxHeartbeats 1000000 in
theorem l1StrLit_c (ns : List ByteArray) (hns : 0 < ns.length) (hns2 : ns.length ≤ 256) (n : Nat) (hn : n = ns.length) (cs : Array Value) (hcs : cs = (ns.map vstr).toArray) (wb w : World) (p : Nat) (A : Option Addr) (l : List UInt8) (c : Nat) (hA : Bs wb A l c) (hC : Cur wb w p A l c) :
    Calls Tryd.prog 109 #[.pointer (some ⟨p, 0, none⟩), .slice (some ⟨w.heap.size, 0, none⟩) n n] (w.alloc (.cells cs 9)) fun e w' => ∃ x ∈ ns, e = .returned (.string x) ∧ Cur wb w' p A l c ∧ w.grownBy w' (some p) := by
  subst hn; subst hcs
  have hC' := hC.ext (Ext_alloc (.cells (ns.map vstr).toArray 9) (Ext.refl w))
  have hlt := hC.lt
  refine (l1Str_c (some ⟨w.heap.size, 0, none⟩) ns ns.length hns hns2 wb _ p A l c hA hC' ?_).mono ?_
  · intro w' hg i hi
    refine ⟨w.heap.size, 0, rfl, ?_⟩
    have h0 := boxed (Ext.refl (w.alloc (.cells (ns.map vstr).toArray 9))) (0 + i)
    refine hg.cell (a := ⟨w.heap.size, 0 + i, none⟩) (h0.trans ?_) (by intro hh; injection hh with hh; simp at hh; omega)
    rw [Nat.zero_add]
    simp [vstr, hi]
  · rintro e w' ⟨x, hx, he, hC1, hg⟩
    exact ⟨x, hx, he, hC1, (World.grownBy_alloc w _ _).trans hg⟩
theorem Box.four {w : World} {g : Nat} {a b c d : Value} {T : TypeId} (h : Box w g #[a, b, c, d] T) :
    (∀ w', Ext w w' → w'.cell? ⟨g, 0, none⟩ = some a) ∧ (∀ w', Ext w w' → w'.cell? ⟨g, 1, none⟩ = some b) ∧ (∀ w', Ext w w' → w'.cell? ⟨g, 2, none⟩ = some c) ∧ (∀ w', Ext w w' → w'.cell? ⟨g, 3, none⟩ = some d) ∧
    (∀ w', Ext w w' → w'.frozen? ⟨g, 0, none⟩ = false) ∧ (∀ w', Ext w w' → w'.frozen? ⟨g, 1, none⟩ = false) ∧ (∀ w', Ext w w' → w'.frozen? ⟨g, 2, none⟩ = false) ∧ (∀ w', Ext w w' → w'.frozen? ⟨g, 3, none⟩ = false) :=
  ⟨fun _ e => (h.ext e).cell 0, fun _ e => (h.ext e).cell 1, fun _ e => (h.ext e).cell 2, fun _ e => (h.ext e).cell 3, fun _ e => (h.ext e).free 0, fun _ e => (h.ext e).free 1, fun _ e => (h.ext e).free 2, fun _ e => (h.ext e).free 3⟩
theorem Box.stored4 {w : World} {g : Nat} {a b c d : Value} {T : TypeId} (h : Box w g #[a, b, c, d] T) (x0 x1 x2 x3 : Value) :
    Box ((((w.setCell ⟨g, 0, none⟩ x0).setCell ⟨g, 1, none⟩ x1).setCell ⟨g, 2, none⟩ x2).setCell ⟨g, 3, none⟩ x3) g #[x0, x1, x2, x3] T := by
  have := (((h.set 0 x0).set 1 x1).set 2 x2).set 3 x3
  simpa using this
theorem Cur.set4 {wb w : World} {p : Nat} {A : Option Addr} {l : List UInt8} {c : Nat} (h : Cur wb w p A l c) {g : Nat} (hne : g ≠ p) (hb : wb.heap.size ≤ g) (x0 x1 x2 x3 : Value) :
    Cur wb ((((w.setCell ⟨g, 0, none⟩ x0).setCell ⟨g, 1, none⟩ x1).setCell ⟨g, 2, none⟩ x2).setCell ⟨g, 3, none⟩ x3) p A l c :=
  (((h.set (a := ⟨g, 0, none⟩) hne hb x0).set (a := ⟨g, 1, none⟩) hne hb x1).set (a := ⟨g, 2, none⟩) hne hb x2).set (a := ⟨g, 3, none⟩) hne hb x3
theorem grown_new4 {w w1 : World} {p : Nat} (h : w.grownBy w1 (some p)) {g : Nat} (hb : w.heap.size ≤ g) (x0 x1 x2 x3 : Value) :
    w.grownBy ((((w1.setCell ⟨g, 0, none⟩ x0).setCell ⟨g, 1, none⟩ x1).setCell ⟨g, 2, none⟩ x2).setCell ⟨g, 3, none⟩ x3) (some p) :=
  grown_new (grown_new (grown_new (grown_new h (a := ⟨g, 0, none⟩) hb x0) (a := ⟨g, 1, none⟩) hb x1) (a := ⟨g, 2, none⟩) hb x2) (a := ⟨g, 3, none⟩) hb x3
theorem OwnL.set4 {α : Type} {f : α → Value} {e : TypeId} {w0 w : World} {v : Value} {l : List α} (h : OwnL f e w0 w v l) {g : Nat} (hne : v.ownBlock ≠ some g) (x0 x1 x2 x3 : Value) :
    OwnL f e w0 ((((w.setCell ⟨g, 0, none⟩ x0).setCell ⟨g, 1, none⟩ x1).setCell ⟨g, 2, none⟩ x2).setCell ⟨g, 3, none⟩ x3) v l :=
  (((h.set ⟨g, 0, none⟩ x0 hne).set ⟨g, 1, none⟩ x1 hne).set ⟨g, 2, none⟩ x2 hne).set ⟨g, 3, none⟩ x3 hne
theorem some_ne {a b : Nat} (h : a ≠ b) : (some a : Option Nat) ≠ some b := fun e => h (Option.some.inj e)
set_option maxRecDepth 100000 in
set_option maxHeartbeats 4000000 in
theorem l33Record_c (wb w : World) (p : Nat) (A : Option Addr) (l : List UInt8) (c : Nat) (hA : Bs wb A l c) (hC : Cur wb w p A l c) :
    Calls Tryd.prog 106 #[.pointer (some ⟨p, 0, none⟩)] w fun e w' => ∃ k nm ver d v, nm.size ≤ 100 ∧ d.length ≤ 790 ∧ e = .returned (vrec k nm ver v) ∧ OwnL vu8 5 wb w' v d ∧ (∀ g, v.ownBlock = some g → w.heap.size ≤ g) ∧ Cur wb w' p A l c ∧ w.grownBy w' (some p) := by
  have CBe := Lib.hid (fun n w h hn => l1Below_c n wb w p A l c hA h hn)
  have COn := Lib.hid (fun n w h hn => l1Once_c n wb w p A l c hA h hn)
  have CSt := Lib.hid (fun w' h => l1StrLit_c [⟨#[97]⟩, ⟨#[98]⟩, ⟨#[102, 105, 108, 101, 49]⟩, ⟨#[120, 50]⟩] (by simp) (by simp) 4 rfl #[.string ⟨#[97]⟩, .string ⟨#[98]⟩, .string ⟨#[102, 105, 108, 101, 49]⟩, .string ⟨#[120, 50]⟩] rfl wb w' p A l c hA h)
  have hplt := hC.lt
  have hbp := hC.1
  have HR := Lib.hid (Box.new w #[.int .i64 0, .string ⟨#[]⟩, .int .i64 0, .slice none 0 0] 49)
  have hC0 := hC.ext (Ext_alloc (.cells #[.int .i64 0, .string ⟨#[]⟩, .int .i64 0, .slice none 0 0] 49) (Ext.refl w))
  have hRp : (some p : Option Nat) ≠ some w.heap.size := by intro hh; injection hh with hh; omega
  have C32 := Lib.hid (fun w h => l32Bytes_c wb w p A l c hA h)
  have hbw := hC.2.1.size
  have G0 := World.grownBy_alloc w (.cells #[.int .i64 0, .string ⟨#[]⟩, .int .i64 0, .slice none 0 0] 49) (some p)
  have hwR : w.heap.size ≠ p := by omega
  go_enter Tryd.func106, Tryd.ntmps106
  go_wp2_with fail
  refine (CBe.out 2 _ hC0 (by omega)).mono ?_; rintro _ w1 ⟨x, hx, rfl, hC1, hg1⟩
  have hx2 : x < 2 := by unfold below at hx; rw [if_neg (by omega)] at hx; omega
  have HR1 := Lib.hid (HR.out.moved hg1 hRp)
  have G1 := G0.trans hg1
  clear HR hC0 hg1 hx G0
  go_wp2_with fail
  refine (CSt.out _ hC1).mono ?_; rintro _ w2 ⟨nm, hnm, rfl, hC2, hg2⟩
  have hnm2 : nm.size ≤ 100 := by simp at hnm; rcases hnm with rfl | rfl | rfl | rfl <;> decide
  have HR2 := Lib.hid (HR1.out.moved hg2 hRp)
  have G2 := Lib.hid (G1.trans hg2)
  have hs2 : w.heap.size < w2.heap.size := HR2.out.lt
  clear HR1 hg2 hC1 hnm CSt G1
  by_cases h1 : x = 0
  · subst h1
    have HG2 := Lib.hid (Box.new w2 #[.int .i64 1, .string nm, .int .i64 0, .slice none 0 0] 49)
    have hgp : w2.heap.size ≠ p := by omega
    have e2 := Ext_alloc (.cells #[.int .i64 1, .string nm, .int .i64 0, .slice none 0 0] 49) (Ext.refl w2)
    go_wp2_with fail
    refine (CBe.out 3 _ (hC2.ext e2) (by omega)).mono ?_; rintro _ w3 ⟨ver, hx, rfl, hC3, hg3⟩
    have HR3 := Lib.hid ((HR2.out.ext e2).moved hg3 hRp)
    have HG3 := Lib.hid (HG2.out.moved hg3 (some_ne hgp.symm))
    have G3 := Lib.hid ((G2.out.trans (grown_ext e2 _)).trans hg3)
    generalize hgn : w2.heap.size = g at *
    clear HR2 HG2 G2 hg3 hC2 hx e2
    obtain ⟨c0, c1, c2, c3, f0, f1, f2, f3⟩ := HG3.out.four
    have HG4 := Lib.hid (HG3.out.set 2 (.int .i64 ver))
    have hC4 := hC3.set (a := ⟨g, 2, none⟩) hgp (by show _ ≤ g; omega) (.int .i64 ver)
    have HR4 := Lib.hid (HR3.out.other (g' := g) (by omega) 2 (.int .i64 ver))
    have G4 := Lib.hid (grown_new (a := ⟨g, 2, none⟩) G3.out (by show _ ≤ g; omega) (.int .i64 ver))
    clear HR3 HG3 G3
    go_wp2_with fail
    clear c0 c1 c2 c3 f0 f1 f2 f3
    refine (C32.out _ hC4).mono ?_; rintro _ w5 ⟨v, q, hq, rfl, ho5, hn5, hC5, hg5⟩
    have hn5 : ∀ k, v.ownBlock = some k → w.heap.size < k ∧ g < k := fun k hk => by
      have h1 := hn5 k hk
      have h2 := HG4.out.lt
      have h3 := HR4.out.lt
      omega
    have HR5 := Lib.hid (HR4.out.moved hg5 hRp)
    have HG5 := Lib.hid (HG4.out.moved hg5 (some_ne hgp.symm))
    have G5 := Lib.hid (G4.out.trans hg5)
    clear HR4 HG4 G4 hg5 hC4 hC3
    obtain ⟨A5, c5, rfl, r5⟩ := OwnL.rd ho5 (by omega)
    have hcap := r5.cap
    have hgR : g ≠ w.heap.size := by omega
    have hn5 : ∀ k m, (Value.slice A5 m c5).ownBlock = some k → w.heap.size < k ∧ g < k := fun k m hk => hn5 k ((ownBlock_len A5 _ m c5).trans hk)
    have neR : ∀ m, (Value.slice A5 m c5).ownBlock ≠ some w.heap.size := fun m hh => Nat.lt_irrefl _ (hn5 _ m hh).1
    have neG : ∀ m, (Value.slice A5 m c5).ownBlock ≠ some g := fun m hh => Nat.lt_irrefl _ (hn5 _ m hh).2
    have HR6 := Lib.hid (HR5.out.other (g' := g) hgR.symm 3 (.slice A5 q.length c5))
    have HG6 := Lib.hid (HG5.out.set 3 (.slice A5 q.length c5))
    have G6 := Lib.hid (grown_new (a := ⟨g, 3, none⟩) G5.out (by show _ ≤ g; omega) (.slice A5 q.length c5))
    have hC6 := Lib.hid (hC5.set (a := ⟨g, 3, none⟩) hgp (by show _ ≤ g; omega) (.slice A5 q.length c5))
    have ho6 := Lib.hid (ho5.set ⟨g, 3, none⟩ (.slice A5 q.length c5) (neG _))
    obtain ⟨c0, c1, c2, c3, f0, f1, f2, f3⟩ := HG5.out.four
    obtain ⟨d0, d1, d2, d3, h0, h1, h2, h3⟩ := HR5.out.four
    clear HR5 HG5 G5 hC5 ho5
    by_cases hq30 : q.length ≤ 30
    · go_wp2_with fail
      clear c0 c1 c2 c3 f0 f1 f2 f3 d0 d1 d2 d3 h0 h1 h2 h3
      have HB := Lib.hid (Box.stored4 HR6.out (.int .i64 1) (.string nm) (.int .i64 ver) (.slice A5 q.length c5))
      have HC := Lib.hid (Cur.set4 hC6.out hwR (by omega) (.int .i64 1) (.string nm) (.int .i64 ver) (.slice A5 q.length c5))
      have HG := Lib.hid (grown_new4 G6.out (Nat.le_refl _) (.int .i64 1) (.string nm) (.int .i64 ver) (.slice A5 q.length c5))
      have HO := Lib.hid (OwnL.set4 ho6.out (neR _) (.int .i64 1) (.string nm) (.int .i64 ver) (.slice A5 q.length c5))
      generalize ((((World.setCell (w5.setCell ⟨g, 3, none⟩ (.slice A5 q.length c5)) ⟨w.heap.size, 0, none⟩ (.int .i64 1)).setCell ⟨w.heap.size, 1, none⟩ (.string nm)).setCell ⟨w.heap.size, 2, none⟩ (.int .i64 ver)).setCell ⟨w.heap.size, 3, none⟩ (.slice A5 q.length c5)) = W at *
      have z0 := HB.out.cell 0; have z1 := HB.out.cell 1; have z2 := HB.out.cell 2; have z3 := HB.out.cell 3
      refine bodyPost_ret (v := .agg #[.int .i64 1, .string nm, .int .i64 ver, .slice A5 q.length c5]) (by simp at z0 z1 z2 z3; simp [results, Tryd.results106, go_sem, z0, z1, z2, z3]) rfl ?_
      exact ⟨1, nm, hnm2, (ver : Int), q, hq, _, rfl, HO.out, (fun k hk => Nat.le_of_lt (hn5 k _ hk).1), HC.out, HG.out⟩
    · have hq31 : (30 : Int) < (q.length : Int) := by omega
      go_wp2_with fail
      clear c0 c1 c2 c3 f0 f1 f2 f3 d0 d1 d2 d3 h0 h1 h2 h3
      refine (COn.out 4 _ hC6.out (by omega)).mono ?_; rintro _ w7 ⟨y, rfl, hC7, hg7⟩
      have HR7 := Lib.hid (HR6.out.moved hg7 hRp)
      have HG7 := Lib.hid (HG6.out.moved hg7 (some_ne hgp.symm))
      have G7 := Lib.hid (G6.out.trans hg7)
      have ho7 := Lib.hid (OwnL.moved ho6.out hg7 (fun hh => by have := (hn5 p _ hh).1; omega))
      clear HR6 HG6 G6 hC6 ho6 hg7
      obtain ⟨c0, c1, c2, c3, f0, f1, f2, f3⟩ := HG7.out.four
      obtain ⟨d0, d1, d2, d3, h0, h1, h2, h3⟩ := HR7.out.four
      cases y
      · have hs30 : (30 : Int) ≤ (c5 : Int) := by omega
        go_wp2_with fail
        clear c0 c1 c2 c3 f0 f1 f2 f3 d0 d1 d2 d3 h0 h1 h2 h3
        have HR8 := Lib.hid (HR7.out.other (g' := g) hgR.symm 3 (.slice A5 30 c5))
        have G8 := Lib.hid (grown_new (a := ⟨g, 3, none⟩) G7.out (by show _ ≤ g; omega) (.slice A5 30 c5))
        have hC8 := Lib.hid (hC7.set (a := ⟨g, 3, none⟩) hgp (by show _ ≤ g; omega) (.slice A5 30 c5))
        have ho8 := Lib.hid ((OwnL.take (n := 30) ho7.out (by omega)).set ⟨g, 3, none⟩ (.slice A5 30 c5) (neG _))
        have HB := Lib.hid (Box.stored4 HR8.out (.int .i64 1) (.string nm) (.int .i64 ver) (.slice A5 30 c5))
        have HC := Lib.hid (Cur.set4 hC8.out hwR (by omega) (.int .i64 1) (.string nm) (.int .i64 ver) (.slice A5 30 c5))
        have HG := Lib.hid (grown_new4 G8.out (Nat.le_refl _) (.int .i64 1) (.string nm) (.int .i64 ver) (.slice A5 30 c5))
        have HO := Lib.hid (OwnL.set4 ho8.out (neR _) (.int .i64 1) (.string nm) (.int .i64 ver) (.slice A5 30 c5))
        generalize ((((World.setCell (w7.setCell ⟨g, 3, none⟩ (.slice A5 30 c5)) ⟨w.heap.size, 0, none⟩ (.int .i64 1)).setCell ⟨w.heap.size, 1, none⟩ (.string nm)).setCell ⟨w.heap.size, 2, none⟩ (.int .i64 ver)).setCell ⟨w.heap.size, 3, none⟩ (.slice A5 30 c5)) = W at *
        have z0 := HB.out.cell 0; have z1 := HB.out.cell 1; have z2 := HB.out.cell 2; have z3 := HB.out.cell 3
        refine bodyPost_ret (v := .agg #[.int .i64 1, .string nm, .int .i64 ver, .slice A5 30 c5]) (by simp at z0 z1 z2 z3; simp [results, Tryd.results106, go_sem, z0, z1, z2, z3]) rfl ?_
        exact ⟨1, nm, (ver : Int), q.take 30, _, hnm2, (by simp; omega), rfl, HO.out, (fun k hk => Nat.le_of_lt (hn5 k _ hk).1), HC.out, HG.out⟩
      · go_wp2_with fail
        clear c0 c1 c2 c3 f0 f1 f2 f3 d0 d1 d2 d3 h0 h1 h2 h3
        have HB := Lib.hid (Box.stored4 HR7.out (.int .i64 1) (.string nm) (.int .i64 ver) (.slice A5 q.length c5))
        have HC := Lib.hid (Cur.set4 hC7 hwR (by omega) (.int .i64 1) (.string nm) (.int .i64 ver) (.slice A5 q.length c5))
        have HG := Lib.hid (grown_new4 G7.out (Nat.le_refl _) (.int .i64 1) (.string nm) (.int .i64 ver) (.slice A5 q.length c5))
        have HO := Lib.hid (OwnL.set4 ho7.out (neR _) (.int .i64 1) (.string nm) (.int .i64 ver) (.slice A5 q.length c5))
        generalize ((((World.setCell (w7) ⟨w.heap.size, 0, none⟩ (.int .i64 1)).setCell ⟨w.heap.size, 1, none⟩ (.string nm)).setCell ⟨w.heap.size, 2, none⟩ (.int .i64 ver)).setCell ⟨w.heap.size, 3, none⟩ (.slice A5 q.length c5)) = W at *
        have z0 := HB.out.cell 0; have z1 := HB.out.cell 1; have z2 := HB.out.cell 2; have z3 := HB.out.cell 3
        refine bodyPost_ret (v := .agg #[.int .i64 1, .string nm, .int .i64 ver, .slice A5 q.length c5]) (by simp at z0 z1 z2 z3; simp [results, Tryd.results106, go_sem, z0, z1, z2, z3]) rfl ?_
        exact ⟨1, nm, (ver : Int), q, _, hnm2, hq, rfl, HO.out, (fun k hk => Nat.le_of_lt (hn5 k _ hk).1), HC.out, HG.out⟩
  · obtain rfl : x = 1 := by omega
    have e2 := Ext_alloc (.cells #[.int .i64 2, .string nm, .int .i64 0, .slice none 0 0] 49) (Ext.refl w2)
    obtain ⟨c0, c1, c2, c3, f0, f1, f2, f3⟩ := HR2.out.four
    go_wp2_with fail
    clear c0 c1 c2 c3 f0 f1 f2 f3
    have HB := Lib.hid ((HR2.out.stored4 (.int .i64 2) (.string nm) (.int .i64 0) (.slice none 0 0)).ext (Ext_alloc (.cells #[.int .i64 2, .string nm, .int .i64 0, .slice none 0 0] 49) (Ext.refl _)))
    have HC := Lib.hid ((hC2.set4 hwR (by omega) (.int .i64 2) (.string nm) (.int .i64 0) (.slice none 0 0)).ext (Ext_alloc (.cells #[.int .i64 2, .string nm, .int .i64 0, .slice none 0 0] 49) (Ext.refl _)))
    have HG := Lib.hid ((grown_new4 G2.out (Nat.le_refl _) (.int .i64 2) (.string nm) (.int .i64 0) (.slice none 0 0)).trans (grown_ext (Ext_alloc (.cells #[.int .i64 2, .string nm, .int .i64 0, .slice none 0 0] 49) (Ext.refl _)) _))
    generalize (((((w2.setCell ⟨w.heap.size, 0, none⟩ (.int .i64 2)).setCell ⟨w.heap.size, 1, none⟩ (.string nm)).setCell ⟨w.heap.size, 2, none⟩ (.int .i64 0)).setCell ⟨w.heap.size, 3, none⟩ (.slice none 0 0)).alloc (.cells #[.int .i64 2, .string nm, .int .i64 0, .slice none 0 0] 49)) = W at *
    have z0 := HB.out.cell 0; have z1 := HB.out.cell 1; have z2 := HB.out.cell 2; have z3 := HB.out.cell 3
    refine bodyPost_ret (v := .agg #[.int .i64 2, .string nm, .int .i64 0, .slice none 0 0]) (by simp at z0 z1 z2 z3; simp [results, Tryd.results106, go_sem, z0, z1, z2, z3]) rfl ?_
    exact ⟨2, nm, 0, [], _, hnm2, by simp, rfl, OwnL.nil _ _, (fun g hg => by cases hg), HC.out, HG.out⟩
end Go.Proofs.YtdbbdoldndnbhaaDoor

/- The drawn records, valid or not. -/
namespace Go.Proofs.YtdbbdoldndnbhaaDoor
open Go.RowKit Go.Sort

set_option maxRecDepth 100000 in
set_option maxHeartbeats 8000000 in
theorem l33Any_c (wb w : World) (p : Nat) (A : Option Addr) (l : List UInt8) (c : Nat) (hA : Bs wb A l c) (hC : Cur wb w p A l c) :
    Calls Tryd.prog 87 #[.pointer (some ⟨p, 0, none⟩)] w fun e w' => ∃ k nm ver d v, nm.size ≤ 100 ∧ d.length ≤ 790 ∧ e = .returned (vrec k nm ver v) ∧ OwnL vu8 5 wb w' v d ∧ (∀ g, v.ownBlock = some g → w.heap.size ≤ g) ∧ Cur wb w' p A l c ∧ w.grownBy w' (some p) := by
  have CBe := Lib.hid (fun n w h hn => l1Below_c n wb w p A l c hA h hn)
  have CRe := Lib.hid (fun w h => l33Record_c wb w p A l c hA h)
  have CI0 := Lib.hid (fun w h => l1IntLit_c [0, 3] (by simp) (by simp) 2 rfl #[.int .i64 0, .int .i64 3] rfl wb w p A l c hA h)
  have CI2 := Lib.hid (fun w h => l1IntLit_c [-1, 7, 8] (by simp) (by simp) 3 rfl #[.int .i64 (-1), .int .i64 7, .int .i64 8] rfl wb w p A l c hA h)
  have CS1 := Lib.hid (fun w h => l1StrLit_c [⟨#[]⟩, ⟨#[65]⟩, ⟨#[97, 118, 101, 114, 121, 108, 111, 110, 103, 110, 97, 109, 101]⟩] (by simp) (by simp) 3 rfl #[.string ⟨#[]⟩, .string ⟨#[65]⟩, .string ⟨#[97, 118, 101, 114, 121, 108, 111, 110, 103, 110, 97, 109, 101]⟩] rfl wb w p A l c hA h)
  unfold vrec at CRe
  have hplt := hC.lt
  have hbp := hC.1
  have hbw := hC.2.1.size
  have e0 := Ext_alloc (.cells #[.int .i64 0, .string ⟨#[]⟩, .int .i64 0, .slice none 0 0] 49) (Ext.refl w)
  have HR := Lib.hid (Box.new w #[.int .i64 0, .string ⟨#[]⟩, .int .i64 0, .slice none 0 0] 49)
  have hRp : (some p : Option Nat) ≠ some w.heap.size := some_ne (by omega)
  go_enter Tryd.func87, Tryd.ntmps87
  go_wp2_with fail
  refine (CRe.out _ (hC.ext e0)).mono ?_; rintro _ w1 ⟨k, nm, ver, d, v, hnm, hd, rfl, ho1, hn1, hC1, hg1⟩
  have HR1 := HR.out.moved hg1 hRp
  have G1 := (grown_ext e0 (some p)).trans hg1
  have hw1 : w.heap.size < w1.heap.size := HR1.lt
  have hn1 : ∀ k, v.ownBlock = some k → w.heap.size < k ∧ k < w1.heap.size := fun k hk => ⟨by have := hn1 k hk; simp at this; omega, (World.ownsRow.lt ho1 k hk).2⟩
  obtain ⟨A1, c1, rfl, _⟩ := OwnL.rd ho1 (by omega)
  have e1 := Ext_alloc (.cells #[.int .i64 k, .string nm, .int .i64 ver, .slice A1 d.length c1] 49) (Ext.refl w1)
  have HG1 := Box.new w1 #[.int .i64 k, .string nm, .int .i64 ver, .slice A1 d.length c1] 49
  have hgp : (some p : Option Nat) ≠ some w1.heap.size := some_ne (by omega)
  clear HR e0 hg1
  go_wp2_with fail
  refine (CBe.out 12 _ (hC1.ext e1) (by omega)).mono ?_; rintro _ w2 ⟨y, hy, rfl, hC2, hg2⟩
  clear hy
  have HG2 := Lib.hid (HG1.moved hg2 hgp)
  have HR2 := Lib.hid ((HR1.ext e1).moved hg2 hRp)
  have ho2 := Lib.hid (OwnL.moved (OwnL.ext ho1 e1) hg2 (fun hh => by have := (hn1 _ hh).1; omega))
  have G2 := Lib.hid ((G1.trans (grown_ext e1 _)).trans hg2)
  clear HG1 HR1 ho1 G1 hg2 hC1 e1
  generalize hgn : w1.heap.size = g at *
  clear hgn
  have hg2 : g < w2.heap.size := HG2.out.lt
  have hgp' : g ≠ p := by omega
  have hgR : g ≠ w.heap.size := by omega
  obtain ⟨d0, d1, d2, d3, f0, f1, f2, f3⟩ := HG2.out.four
  obtain ⟨x0, x1, x2, x3, h0, h1, h2, h3⟩ := HR2.out.four
  rcases (by omega : y = 0 ∨ y = 1 ∨ y = 2 ∨ y = 3 ∨ 4 ≤ y) with rfl | rfl | rfl | rfl | h4
  · go_wp2_with fail
    refine (CI0.out _ hC2).mono ?_; rintro _ w3 ⟨x, _, rfl, hC3, hg3⟩
    clear d0 d1 d2 d3 f0 f1 f2 f3 x0 x1 x2 x3 h0 h1 h2 h3
    have HG3 := Lib.hid (HG2.out.moved hg3 (some_ne hgp'.symm))
    have HR3 := Lib.hid ((HR2.out.moved hg3 hRp).other (g' := g) hgR.symm 0 (.int .i64 x))
    have ho3 := Lib.hid ((OwnL.moved ho2.out hg3 (fun hh => by have := (hn1 _ hh).1; omega)).set ⟨g, 0, none⟩ (.int .i64 x) (fun hh => Nat.lt_irrefl _ (hn1 _ hh).2))
    have G3 := Lib.hid (grown_new (a := ⟨g, 0, none⟩) (G2.out.trans hg3) (by show _ ≤ g; omega) (.int .i64 x))
    have HC3 := Lib.hid (hC3.set (a := ⟨g, 0, none⟩) hgp' (by show _ ≤ g; omega) (.int .i64 x))
    obtain ⟨x0, x1, x2, x3, h0, h1, h2, h3⟩ := (HR2.out.moved hg3 hRp).four
    obtain ⟨d0, d1, d2, d3, f0, f1, f2, f3⟩ := HG3.out.four
    clear HG2 HR2 ho2 G2 hg3 hC3
    go_wp2_with fail
    clear d0 d1 d2 d3 f0 f1 f2 f3 x0 x1 x2 x3 h0 h1 h2 h3
    have HB := Lib.hid (Box.stored4 HR3.out (.int .i64 x) (.string nm) (.int .i64 ver) (.slice A1 d.length c1))
    have HC := Lib.hid (Cur.set4 HC3.out (g := w.heap.size) (by omega) (by omega) (.int .i64 x) (.string nm) (.int .i64 ver) (.slice A1 d.length c1))
    have HGz := Lib.hid (grown_new4 G3.out (Nat.le_refl _) (.int .i64 x) (.string nm) (.int .i64 ver) (.slice A1 d.length c1))
    have HO := Lib.hid (OwnL.set4 ho3.out (g := w.heap.size) (fun hh => Nat.lt_irrefl _ (hn1 _ hh).1) (.int .i64 x) (.string nm) (.int .i64 ver) (.slice A1 d.length c1))
    generalize ((((World.setCell (w3.setCell ⟨g, 0, none⟩ (.int .i64 x)) ⟨w.heap.size, 0, none⟩ (.int .i64 x)).setCell ⟨w.heap.size, 1, none⟩ (.string nm)).setCell ⟨w.heap.size, 2, none⟩ (.int .i64 ver)).setCell ⟨w.heap.size, 3, none⟩ (.slice A1 d.length c1)) = W at *
    have z0 := HB.out.cell 0; have z1 := HB.out.cell 1; have z2 := HB.out.cell 2; have z3 := HB.out.cell 3
    refine bodyPost_ret (v := .agg #[.int .i64 x, .string nm, .int .i64 ver, .slice A1 d.length c1]) (by simp at z0 z1 z2 z3; simp [results, Tryd.results87, go_sem, z0, z1, z2, z3]) rfl ?_
    first
      | exact ⟨x, nm, ver, d, _, hnm, hd, rfl, HO.out, (fun k hk => Nat.le_of_lt (hn1 k hk).1), HC.out, HGz.out⟩
      | exact ⟨x, nm, hnm, ver, d, hd, _, rfl, HO.out, (fun k hk => Nat.le_of_lt (hn1 k hk).1), HC.out, HGz.out⟩
  · go_wp2_with fail
    refine (CS1.out _ hC2).mono ?_; rintro _ w3 ⟨x, hx, rfl, hC3, hg3⟩
    clear d0 d1 d2 d3 f0 f1 f2 f3 x0 x1 x2 x3 h0 h1 h2 h3
    have hx2 : x.size ≤ 100 := by simp at hx; rcases hx with rfl | rfl | rfl <;> decide
    clear hx
    have HG3 := Lib.hid (HG2.out.moved hg3 (some_ne hgp'.symm))
    have HR3 := Lib.hid ((HR2.out.moved hg3 hRp).other (g' := g) hgR.symm 1 (.string x))
    have ho3 := Lib.hid ((OwnL.moved ho2.out hg3 (fun hh => by have := (hn1 _ hh).1; omega)).set ⟨g, 1, none⟩ (.string x) (fun hh => Nat.lt_irrefl _ (hn1 _ hh).2))
    have G3 := Lib.hid (grown_new (a := ⟨g, 1, none⟩) (G2.out.trans hg3) (by show _ ≤ g; omega) (.string x))
    have HC3 := Lib.hid (hC3.set (a := ⟨g, 1, none⟩) hgp' (by show _ ≤ g; omega) (.string x))
    obtain ⟨x0, x1, x2, x3, h0, h1, h2, h3⟩ := (HR2.out.moved hg3 hRp).four
    obtain ⟨d0, d1, d2, d3, f0, f1, f2, f3⟩ := HG3.out.four
    clear HG2 HR2 ho2 G2 hg3 hC3
    go_wp2_with fail
    clear d0 d1 d2 d3 f0 f1 f2 f3 x0 x1 x2 x3 h0 h1 h2 h3
    have HB := Lib.hid (Box.stored4 HR3.out (.int .i64 k) (.string x) (.int .i64 ver) (.slice A1 d.length c1))
    have HC := Lib.hid (Cur.set4 HC3.out (g := w.heap.size) (by omega) (by omega) (.int .i64 k) (.string x) (.int .i64 ver) (.slice A1 d.length c1))
    have HGz := Lib.hid (grown_new4 G3.out (Nat.le_refl _) (.int .i64 k) (.string x) (.int .i64 ver) (.slice A1 d.length c1))
    have HO := Lib.hid (OwnL.set4 ho3.out (g := w.heap.size) (fun hh => Nat.lt_irrefl _ (hn1 _ hh).1) (.int .i64 k) (.string x) (.int .i64 ver) (.slice A1 d.length c1))
    generalize ((((World.setCell (w3.setCell ⟨g, 1, none⟩ (.string x)) ⟨w.heap.size, 0, none⟩ (.int .i64 k)).setCell ⟨w.heap.size, 1, none⟩ (.string x)).setCell ⟨w.heap.size, 2, none⟩ (.int .i64 ver)).setCell ⟨w.heap.size, 3, none⟩ (.slice A1 d.length c1)) = W at *
    have z0 := HB.out.cell 0; have z1 := HB.out.cell 1; have z2 := HB.out.cell 2; have z3 := HB.out.cell 3
    refine bodyPost_ret (v := .agg #[.int .i64 k, .string x, .int .i64 ver, .slice A1 d.length c1]) (by simp at z0 z1 z2 z3; simp [results, Tryd.results87, go_sem, z0, z1, z2, z3]) rfl ?_
    first
      | exact ⟨k, x, ver, d, _, hx2, hd, rfl, HO.out, (fun k hk => Nat.le_of_lt (hn1 k hk).1), HC.out, HGz.out⟩
      | exact ⟨k, x, hx2, ver, d, hd, _, rfl, HO.out, (fun k hk => Nat.le_of_lt (hn1 k hk).1), HC.out, HGz.out⟩
  · go_wp2_with fail
    refine (CI2.out _ hC2).mono ?_; rintro _ w3 ⟨x, _, rfl, hC3, hg3⟩
    clear d0 d1 d2 d3 f0 f1 f2 f3 x0 x1 x2 x3 h0 h1 h2 h3
    have HG3 := Lib.hid (HG2.out.moved hg3 (some_ne hgp'.symm))
    have HR3 := Lib.hid ((HR2.out.moved hg3 hRp).other (g' := g) hgR.symm 2 (.int .i64 x))
    have ho3 := Lib.hid ((OwnL.moved ho2.out hg3 (fun hh => by have := (hn1 _ hh).1; omega)).set ⟨g, 2, none⟩ (.int .i64 x) (fun hh => Nat.lt_irrefl _ (hn1 _ hh).2))
    have G3 := Lib.hid (grown_new (a := ⟨g, 2, none⟩) (G2.out.trans hg3) (by show _ ≤ g; omega) (.int .i64 x))
    have HC3 := Lib.hid (hC3.set (a := ⟨g, 2, none⟩) hgp' (by show _ ≤ g; omega) (.int .i64 x))
    obtain ⟨x0, x1, x2, x3, h0, h1, h2, h3⟩ := (HR2.out.moved hg3 hRp).four
    obtain ⟨d0, d1, d2, d3, f0, f1, f2, f3⟩ := HG3.out.four
    clear HG2 HR2 ho2 G2 hg3 hC3
    go_wp2_with fail
    clear d0 d1 d2 d3 f0 f1 f2 f3 x0 x1 x2 x3 h0 h1 h2 h3
    have HB := Lib.hid (Box.stored4 HR3.out (.int .i64 k) (.string nm) (.int .i64 x) (.slice A1 d.length c1))
    have HC := Lib.hid (Cur.set4 HC3.out (g := w.heap.size) (by omega) (by omega) (.int .i64 k) (.string nm) (.int .i64 x) (.slice A1 d.length c1))
    have HGz := Lib.hid (grown_new4 G3.out (Nat.le_refl _) (.int .i64 k) (.string nm) (.int .i64 x) (.slice A1 d.length c1))
    have HO := Lib.hid (OwnL.set4 ho3.out (g := w.heap.size) (fun hh => Nat.lt_irrefl _ (hn1 _ hh).1) (.int .i64 k) (.string nm) (.int .i64 x) (.slice A1 d.length c1))
    generalize ((((World.setCell (w3.setCell ⟨g, 2, none⟩ (.int .i64 x)) ⟨w.heap.size, 0, none⟩ (.int .i64 k)).setCell ⟨w.heap.size, 1, none⟩ (.string nm)).setCell ⟨w.heap.size, 2, none⟩ (.int .i64 x)).setCell ⟨w.heap.size, 3, none⟩ (.slice A1 d.length c1)) = W at *
    have z0 := HB.out.cell 0; have z1 := HB.out.cell 1; have z2 := HB.out.cell 2; have z3 := HB.out.cell 3
    refine bodyPost_ret (v := .agg #[.int .i64 k, .string nm, .int .i64 x, .slice A1 d.length c1]) (by simp at z0 z1 z2 z3; simp [results, Tryd.results87, go_sem, z0, z1, z2, z3]) rfl ?_
    first
      | exact ⟨k, nm, x, d, _, hnm, hd, rfl, HO.out, (fun k hk => Nat.le_of_lt (hn1 k hk).1), HC.out, HGz.out⟩
      | exact ⟨k, nm, hnm, x, d, hd, _, rfl, HO.out, (fun k hk => Nat.le_of_lt (hn1 k hk).1), HC.out, HGz.out⟩
  · go_wp2_with fail
    refine (CBe.out 2 _ hC2 (by omega)).mono ?_; rintro _ w3 ⟨x, hx, rfl, hC3, hg3⟩
    have hx2 : x < 2 := by unfold below at hx; rw [if_neg (by omega)] at hx; omega
    clear hx
    clear d0 d1 d2 d3 f0 f1 f2 f3 x0 x1 x2 x3 h0 h1 h2 h3
    have HG3 := Lib.hid (HG2.out.moved hg3 (some_ne hgp'.symm))
    have HR3 := Lib.hid (HR2.out.moved hg3 hRp)
    have G3 := Lib.hid (G2.out.trans hg3)
    clear HG2 HR2 ho2 G2 hg3 hC2
    have HN4 : Hid ((400 : Int) + (x : Int) = ((400 + x : Nat) : Int)) := by show _ = _; omega
    have hmx : 400 + x ≤ 401 := by omega
    go_wp2_with (first
      | (at_make; refine wpList_mk rfl _ _ _ rfl E_u8 w3 w3 (Ext.refl _) (400 + x) (congrArg (Value.int .i64) HN4.out) (congrArg (Value.int .i64) HN4.out) (by omega) (by simp [maxLen]; omega) ?_; intro w4 ho4 he4 _; rw [made_one _ rfl] at ho4; clear HN4; generalize 400 + x = n at *; have HO4 : Hid (OwnL vu8 5 wb w4 (.slice (some ⟨w3.heap.size, 0, none⟩) (List.replicate n (0 : UInt8)).length n) (List.replicate n 0)) := (by show OwnL _ _ _ _ _ _; unfold OwnL; rw [List.length_replicate, List.map_replicate]; exact World.ownsRow.lower ho4 hC3.2.1.size); rw [List.length_replicate] at HO4; clear ho4; have hw3 : g < w3.heap.size := HG3.out.lt; obtain ⟨x0, x1, x2, x3, h0, h1, h2, h3⟩ := (HR3.out.ext he4).four; obtain ⟨d0, d1, d2, d3, f0, f1, f2, f3⟩ := (HG3.out.ext he4).four; have HR4 := Lib.hid ((HR3.out.ext he4).other (g' := g) hgR.symm 3 (.slice (some ⟨w3.heap.size, 0, none⟩) n n)); have ho5 := Lib.hid (HO4.out.set ⟨g, 3, none⟩ (.slice (some ⟨w3.heap.size, 0, none⟩) n n) (some_ne (by show w3.heap.size ≠ g; omega))); have G4 := Lib.hid (grown_new (a := ⟨g, 3, none⟩) (G3.out.trans (grown_ext he4 _)) (by show _ ≤ g; omega) (.slice (some ⟨w3.heap.size, 0, none⟩) n n)); have HC4 := Lib.hid ((hC3.ext he4).set (a := ⟨g, 3, none⟩) hgp' (by show _ ≤ g; omega) (.slice (some ⟨w3.heap.size, 0, none⟩) n n)); clear HG3 HR3 G3 hC3 HO4))
    clear d0 d1 d2 d3 f0 f1 f2 f3 x0 x1 x2 x3 h0 h1 h2 h3
    have HB := Lib.hid (Box.stored4 HR4.out (.int .i64 k) (.string nm) (.int .i64 ver) (.slice (some ⟨w3.heap.size, 0, none⟩) n n))
    have HC := Lib.hid (Cur.set4 HC4.out (g := w.heap.size) (by omega) (by omega) (.int .i64 k) (.string nm) (.int .i64 ver) (.slice (some ⟨w3.heap.size, 0, none⟩) n n))
    have HGz := Lib.hid (grown_new4 G4.out (Nat.le_refl _) (.int .i64 k) (.string nm) (.int .i64 ver) (.slice (some ⟨w3.heap.size, 0, none⟩) n n))
    have HO := Lib.hid (OwnL.set4 ho5.out (g := w.heap.size) (some_ne (by show w3.heap.size ≠ w.heap.size; omega)) (.int .i64 k) (.string nm) (.int .i64 ver) (.slice (some ⟨w3.heap.size, 0, none⟩) n n))
    generalize ((((World.setCell (w4.setCell ⟨g, 3, none⟩ (.slice (some ⟨w3.heap.size, 0, none⟩) n n)) ⟨w.heap.size, 0, none⟩ (.int .i64 k)).setCell ⟨w.heap.size, 1, none⟩ (.string nm)).setCell ⟨w.heap.size, 2, none⟩ (.int .i64 ver)).setCell ⟨w.heap.size, 3, none⟩ (.slice (some ⟨w3.heap.size, 0, none⟩) n n)) = W at *
    have z0 := HB.out.cell 0; have z1 := HB.out.cell 1; have z2 := HB.out.cell 2; have z3 := HB.out.cell 3
    refine bodyPost_ret (v := .agg #[.int .i64 k, .string nm, .int .i64 ver, .slice (some ⟨w3.heap.size, 0, none⟩) n n]) (by simp at z0 z1 z2 z3; simp [results, Tryd.results87, go_sem, z0, z1, z2, z3]) rfl ?_
    first
      | exact ⟨k, nm, ver, (List.replicate n 0), _, hnm, (by simp; omega), rfl, HO.out, (fun k hk => by injection hk with hk; simp at hk; omega), HC.out, HGz.out⟩
      | exact ⟨k, nm, hnm, ver, (List.replicate n 0), (by simp; omega), _, rfl, HO.out, (fun k hk => by injection hk with hk; simp at hk; omega), HC.out, HGz.out⟩
  · go_wp2_with fail
    clear d0 d1 d2 d3 f0 f1 f2 f3 x0 x1 x2 x3 h0 h1 h2 h3
    have HB := Lib.hid (Box.stored4 HR2.out (.int .i64 k) (.string nm) (.int .i64 ver) (.slice A1 d.length c1))
    have HC := Lib.hid (Cur.set4 hC2 (g := w.heap.size) (by omega) (by omega) (.int .i64 k) (.string nm) (.int .i64 ver) (.slice A1 d.length c1))
    have HGz := Lib.hid (grown_new4 G2.out (Nat.le_refl _) (.int .i64 k) (.string nm) (.int .i64 ver) (.slice A1 d.length c1))
    have HO := Lib.hid (OwnL.set4 ho2.out (g := w.heap.size) (fun hh => Nat.lt_irrefl _ (hn1 _ hh).1) (.int .i64 k) (.string nm) (.int .i64 ver) (.slice A1 d.length c1))
    generalize ((((World.setCell (w2) ⟨w.heap.size, 0, none⟩ (.int .i64 k)).setCell ⟨w.heap.size, 1, none⟩ (.string nm)).setCell ⟨w.heap.size, 2, none⟩ (.int .i64 ver)).setCell ⟨w.heap.size, 3, none⟩ (.slice A1 d.length c1)) = W at *
    have z0 := HB.out.cell 0; have z1 := HB.out.cell 1; have z2 := HB.out.cell 2; have z3 := HB.out.cell 3
    refine bodyPost_ret (v := .agg #[.int .i64 k, .string nm, .int .i64 ver, .slice A1 d.length c1]) (by simp at z0 z1 z2 z3; simp [results, Tryd.results87, go_sem, z0, z1, z2, z3]) rfl ?_
    first
      | exact ⟨k, nm, ver, d, _, hnm, hd, rfl, HO.out, (fun k hk => Nat.le_of_lt (hn1 k hk).1), HC.out, HGz.out⟩
      | exact ⟨k, nm, hnm, ver, d, hd, _, rfl, HO.out, (fun k hk => Nat.le_of_lt (hn1 k hk).1), HC.out, HGz.out⟩
set_option maxRecDepth 100000 in
set_option maxHeartbeats 1000000 in
theorem drawRecord_c (A : Option Addr) (l : List UInt8) (c : Nat) (w : World) (hA : Bs w A l c) :
    Calls Tryd.prog 66 #[.slice A l.length c] w fun e w' => ∃ k nm ver d v, nm.size ≤ 100 ∧ d.length ≤ 790 ∧ e = .returned (vrec k nm ver v) ∧ OwnL vu8 5 w w' v d ∧ Ext w w' := by
  have CAny := Lib.hid (fun wb w p h1 h2 => l33Any_c wb w p A l c h1 h2)
  unfold vrec at CAny
  have e0 := Ext_alloc (.cells #[.int .i64 0, .string ⟨#[]⟩, .int .i64 0, .slice none 0 0] 49) (Ext.refl w)
  have HR := Lib.hid (Box.new w #[.int .i64 0, .string ⟨#[]⟩, .int .i64 0, .slice none 0 0] 49)
  go_enter Tryd.func66, Tryd.ntmps66
  go_wp2_with fail
  refine (l1New_c A l c _ (hA.ext e0)).mono ?_; rintro _ w1 ⟨p, rfl, hC1⟩
  go_wp2_with fail
  refine (CAny.out _ w1 p (hA.ext e0) hC1).mono ?_; rintro _ w2 ⟨k, nm, ver, d, v, hnm, hd, rfl, ho2, _, hC2, _⟩
  have HR2 := Lib.hid (HR.out.ext hC2.2.1)
  have hn2 : ∀ k, v.ownBlock = some k → w.heap.size < k := fun k hk => by have := (World.ownsRow.lt ho2 k hk).1; simp at this; omega
  obtain ⟨A2, c2, rfl, _⟩ := OwnL.rd ho2 (by omega)
  have ho2 := Lib.hid (OwnL.lower ho2 e0)
  have e2 := e0.trans hC2.2.1
  obtain ⟨x0, x1, x2, x3, h0, h1, h2, h3⟩ := HR2.out.four
  clear hC1 hC2 e0 HR
  go_wp2_with fail
  clear x0 x1 x2 x3 h0 h1 h2 h3
  have HB := Lib.hid (Box.stored4 HR2.out (.int .i64 k) (.string nm) (.int .i64 ver) (.slice A2 d.length c2))
  have HO := Lib.hid (OwnL.set4 ho2.out (g := w.heap.size) (fun hh => Nat.lt_irrefl _ (hn2 _ hh)) (.int .i64 k) (.string nm) (.int .i64 ver) (.slice A2 d.length c2))
  have HE : Hid (Ext w ((((w2.setCell ⟨w.heap.size, 0, none⟩ (.int .i64 k)).setCell ⟨w.heap.size, 1, none⟩ (.string nm)).setCell ⟨w.heap.size, 2, none⟩ (.int .i64 ver)).setCell ⟨w.heap.size, 3, none⟩ (.slice A2 d.length c2))) := (((e2.setCell (p := ⟨w.heap.size, 0, none⟩) (Nat.le_refl _) _).setCell (p := ⟨w.heap.size, 1, none⟩) (Nat.le_refl _) _).setCell (p := ⟨w.heap.size, 2, none⟩) (Nat.le_refl _) _).setCell (p := ⟨w.heap.size, 3, none⟩) (Nat.le_refl _) _
  generalize ((((World.setCell w2 ⟨w.heap.size, 0, none⟩ (.int .i64 k)).setCell ⟨w.heap.size, 1, none⟩ (.string nm)).setCell ⟨w.heap.size, 2, none⟩ (.int .i64 ver)).setCell ⟨w.heap.size, 3, none⟩ (.slice A2 d.length c2)) = W at *
  have z0 := HB.out.cell 0; have z1 := HB.out.cell 1; have z2 := HB.out.cell 2; have z3 := HB.out.cell 3
  refine bodyPost_ret (v := .agg #[.int .i64 k, .string nm, .int .i64 ver, .slice A2 d.length c2]) (by simp at z0 z1 z2 z3; simp [results, Tryd.results66, go_sem, z0, z1, z2, z3]) rfl ?_
  first
    | exact ⟨k, nm, ver, d, _, hnm, hd, rfl, HO.out, HE.out⟩
    | exact ⟨k, nm, hnm, ver, d, hd, _, rfl, HO.out, HE.out⟩
end Go.Proofs.YtdbbdoldndnbhaaDoor

/- Plain laws of logs: cut logs hold the first records; an appended record is read back. No program in sight. -/
namespace Go.Proofs.YtdbbdoldndnbhaaDoor

theorem sizeAt_take {b : List UInt8} {s a : Nat} (h : a + sizeAt b a ≤ s) : sizeAt (b.take s) a = sizeAt b a := by
  unfold sizeAt at h ⊢
  rw [nmAt_take (by omega), szAt_take (by omega)]
/-- a cut list's records are the first ones -/
theorem recs_take {b : List UInt8} {s : Nat} (hs : s ≤ b.length) : ∀ n a, b.length - a ≤ n → recs (b.take s) a <+: recs b a := by
  intro n
  induction n with
  | zero =>
    intro a h
    rw [(read_none (decN_out (b := b.take s) (a := a) (by rw [List.length_take]; omega))).1]
    exact List.nil_prefix
  | succ n ih =>
    intro a h
    cases hd : decN (b.take s) a with
    | none => rw [(read_none hd).1]; exact List.nil_prefix
    | some r =>
      obtain ⟨h1, h2⟩ := decN_take_some hs hd
      have hf := decN_fits h1
      rw [(read_some hd).1, (read_some h1).1, sizeAt_take h2, List.cons_prefix_cons]
      exact ⟨rfl, ih _ (by omega)⟩
theorem stop_mono {b : List UInt8} {s : Nat} (hs : s ≤ b.length) : ∀ n a, b.length - a ≤ n → a ≤ b.length → stop (b.take s) a ≤ stop b a := by
  intro n
  induction n with
  | zero =>
    intro a h h2
    rw [(read_none (decN_out (b := b.take s) (a := a) (by rw [List.length_take]; omega))).2]
    exact (stop_le h2).2
  | succ n ih =>
    intro a h h2
    cases hd : decN (b.take s) a with
    | none => rw [(read_none hd).2]; exact (stop_le h2).2
    | some r =>
      obtain ⟨h3, h4⟩ := decN_take_some hs hd
      have hf := decN_fits h3
      rw [(read_some hd).2, (read_some h3).2, sizeAt_take h4]
      exact ih _ (by omega) (by omega)
/-- what is behind the stop changes nothing -/
theorem stop_cut {b : List UInt8} : ∀ n a, b.length - a ≤ n → a ≤ b.length → recs (b.take (stop b a)) a = recs b a ∧ stop (b.take (stop b a)) a = stop b a := by
  intro n
  induction n with
  | zero =>
    intro a h h2
    have h0 := read_none (decN_out (b := b) (a := a) (by omega))
    rw [h0.1, h0.2]
    exact read_none (decN_out (by rw [List.length_take]; omega))
  | succ n ih =>
    intro a h h2
    cases hd : decN b a with
    | none =>
      have h0 := read_none hd
      rw [h0.1, h0.2]
      exact read_none (decN_out (by rw [List.length_take]; omega))
    | some r =>
      have hf := decN_fits hd
      have h3 := read_some hd
      have h4 := ih (a + sizeAt b a) (by omega) (by omega)
      have h5 := stop_le (b := b) (a := a + sizeAt b a) (by omega)
      rw [h3.1, h3.2]
      have hd' := (decN_take_eq (s := stop b (a + sizeAt b a)) h5.1 h5.2).trans hd
      have h6 := read_some hd'
      rw [sizeAt_take h5.2] at h6
      rw [h6.1, h6.2, h4.1, h4.2]
      exact ⟨rfl, rfl⟩
/-- behind a list that is read to its end -/
theorem read_app {b c : List UInt8} : ∀ n a, b.length - a ≤ n → a ≤ b.length → stop b a = b.length → recs (b ++ c) a = recs b a ++ recs (b ++ c) b.length ∧ stop (b ++ c) a = stop (b ++ c) b.length := by
  intro n
  induction n with
  | zero =>
    intro a h h2 _
    obtain rfl : a = b.length := by omega
    rw [(read_none (decN_out (b := b) (a := b.length) (by omega))).1]
    exact ⟨rfl, rfl⟩
  | succ n ih =>
    intro a h h2 hst
    cases hd : decN b a with
    | none =>
      have h0 := read_none hd
      rw [h0.2] at hst
      subst hst
      rw [h0.1]
      exact ⟨rfl, rfl⟩
    | some r =>
      have hf := decN_fits hd
      have hb : (b ++ c).take b.length = b := by simp
      have hd2 : decN ((b ++ c).take b.length) a = some r := by rw [hb]; exact hd
      obtain ⟨h3, h4⟩ := decN_take_some (by simp) hd2
      have h5 := sizeAt_take h4
      rw [hb] at h5
      have h6 := read_some hd
      have h7 := read_some h3
      rw [h6.2] at hst
      have h8 := ih (a + sizeAt b a) (by omega) (by omega) hst
      rw [← h5] at h7
      rw [h6.1, h7.1, h7.2, h8.1, h8.2]
      exact ⟨rfl, rfl⟩
theorem getD_app {b e : List UInt8} (i : Nat) : (b ++ e).getD (b.length + i) 0 = e.getD i 0 := by
  simp [List.getD, List.getElem?_append_right]
theorem ofNat_lt {n : Nat} (h : n < 256) : (UInt8.ofNat n).toNat = n := ofNat_toNat_lt h
/-- an encoded record is read back -/
theorem decN_enc {k : Int} {nm : ByteArray} {ver : Int} {l : List UInt8} (b : List UInt8) (h : validRec k nm ver l.length = true) :
    decN (b ++ encRec k nm ver l) b.length = some ⟨k, nm, ver, l⟩ ∧ sizeAt (b ++ encRec k nm ver l) b.length = (encRec k nm ver l).length := by
  have hf := validRec_facts h
  have hp := pack_short l
  have hup := unpack_pack l (by omega)
  have hlen := encRec_length h
  have hz : nm.data.toList.length = nm.size := by simp
  have he : encRec k nm ver l = [UInt8.ofNat k.toNat, UInt8.ofNat nm.size] ++ (nm.data.toList ++ ([UInt8.ofNat ver.toNat, UInt8.ofNat ((pack l).length / 256), UInt8.ofNat (pack l).length] ++ (pack l ++ [UInt8.ofNat (sumB (encBody k nm ver l))]))) := by
    unfold encRec; rw [if_pos h]
    conv => lhs; arg 1; unfold encBody be2
    simp [List.append_assoc]
  have henc : (DRec.mk k nm ver l).enc = encRec k nm ver l := rfl
  generalize hS : UInt8.ofNat (sumB (encBody k nm ver l)) = S at he
  generalize pack l = p at *
  have n0 : (b ++ encRec k nm ver l).getD b.length 0 = UInt8.ofNat k.toNat := by
    have := getD_app (b := b) (e := encRec k nm ver l) 0; rw [Nat.add_zero] at this; rw [this, he]; rfl
  have n1 : nmAt (b ++ encRec k nm ver l) b.length = nm.size := by
    unfold nmAt; rw [getD_app, he]; exact ofNat_lt (by omega)
  have g3 : ∀ j, (encRec k nm ver l).getD (nm.size + 2 + j) 0 = ([UInt8.ofNat ver.toNat, UInt8.ofNat (p.length / 256), UInt8.ofNat p.length] ++ (p ++ [S])).getD j 0 := by
    intro j
    rw [he]
    simp only [List.getD]
    rw [List.getElem?_append_right (by simp; omega), List.getElem?_append_right (by simp; omega)]
    congr 2
    simp; omega
  have n2 : szAt (b ++ encRec k nm ver l) b.length = p.length := by
    unfold szAt
    rw [n1, show b.length + nm.size + 3 = b.length + (nm.size + 2 + 1) by omega, show b.length + nm.size + 4 = b.length + (nm.size + 2 + 2) by omega, getD_app, getD_app, g3, g3]
    show 256 * (UInt8.ofNat (p.length / 256)).toNat + (UInt8.ofNat p.length).toNat = p.length
    rw [UInt8.toNat_ofNat', UInt8.toNat_ofNat']; omega
  have n3 : (b ++ encRec k nm ver l).getD (b.length + nm.size + 2) 0 = UInt8.ofNat ver.toNat := by
    rw [show b.length + nm.size + 2 = b.length + (nm.size + 2 + 0) by omega, getD_app, g3]; rfl
  have n4 : ((b ++ encRec k nm ver l).drop (b.length + nm.size + 5)).take p.length = p := by
    rw [Nat.add_assoc, List.drop_append, List.drop_eq_nil_of_le (by omega), List.nil_append, Nat.add_sub_cancel_left, he]
    rw [List.drop_append, List.drop_eq_nil_of_le (by simp), List.nil_append, List.drop_append, List.drop_eq_nil_of_le (by simp), List.nil_append, List.drop_append, List.drop_eq_nil_of_le (by simp), List.nil_append]
    have : nm.size + 5 - [UInt8.ofNat k.toNat, UInt8.ofNat nm.size].length - nm.data.toList.length - [UInt8.ofNat ver.toNat, UInt8.ofNat (p.length / 256), UInt8.ofNat p.length].length = 0 := by simp
    rw [this, List.drop_zero, List.take_append_of_le_length (Nat.le_refl _), List.take_length]
  have n5 : ((b ++ encRec k nm ver l).drop (b.length + 2)).take nm.size = nm.data.toList := by
    rw [List.drop_append, List.drop_eq_nil_of_le (by omega), List.nil_append, Nat.add_sub_cancel_left, he]
    rw [List.drop_append, List.drop_eq_nil_of_le (by simp), List.nil_append]
    have : 2 - [UInt8.ofNat k.toNat, UInt8.ofNat nm.size].length = 0 := by simp
    rw [this, List.drop_zero, List.take_append_of_le_length (by omega), ← hz, List.take_length]
  have n6 : ((b ++ encRec k nm ver l).drop b.length).take (nm.size + 6 + p.length) = encRec k nm ver l := by
    rw [List.drop_append, List.drop_eq_nil_of_le (by omega), List.nil_append, Nat.sub_self, List.drop_zero, ← hlen, List.take_length]
  have hr : recAt (b ++ encRec k nm ver l) b.length l = ⟨k, nm, ver, l⟩ := by
    unfold recAt
    rw [n1, n0, n3, n5, ofNat_lt (by omega), ofNat_lt (by omega)]
    simp; omega
  refine ⟨?_, ?_⟩
  · unfold decN
    rw [n1, n2, if_neg (by rw [List.length_append, hlen]; omega), n4, hup]
    simp only [hr, henc, n6]
    have : (DRec.mk k nm ver l).ok = true := h
    rw [this]; simp
  · unfold sizeAt; rw [n1, n2, hlen]
end Go.Proofs.YtdbbdoldndnbhaaDoor

/-
  strconv.Itoa's and strings.Join's contracts at this seat: printed by the kit's tools lay-shelf.mjs and lay-plain.mjs out of the shelf (its numbers are this seat's).
-/
namespace Go.Proofs
open Go.Shelf Go.RowKit Go.Sort
def Tryd.laysM171_ren : Go.Shelf.Ren := ⟨fun | 171 => 80 | 243 => 101 | 246 => 121 | 283 => 131 | 284 => 132 | 285 => 133 | 286 => 134 | 129 => 138 | 317 => 137 | 318 => 139 | 319 => 140 | 320 => 141 | 337 => 142 | 338 => 143 | n => n, fun | 3 => 3 | 9 => 9 | 2 => 2 | 4 => 4 | 171 => 132 | 0 => 0 | 53 => 133 | 37 => 44 | 5 => 5 | 173 => 136 | 212 => 142 | 51 => 143 | 20 => 20 | 213 => 144 | 46 => 85 | 232 => 147 | 233 => 148 | n => n, fun | 17 => 0 | 18 => 2 | 19 => 3 | n => n⟩
theorem Tryd.laysM171 : Go.Proofs.LaysM.n171 Tryd.prog Tryd.laysM171_ren := {
  mixed := by kernel_rfl
  f129 := Tryd.func138.trans (congrArg some (by kernel_rfl))
  f171 := Tryd.func80.trans (congrArg some (by kernel_rfl))
  f243 := Tryd.func101.trans (congrArg some (by kernel_rfl))
  f246 := Tryd.func121.trans (congrArg some (by kernel_rfl))
  f283 := Tryd.func131.trans (congrArg some (by kernel_rfl))
  f284 := Tryd.func132.trans (congrArg some (by kernel_rfl))
  f285 := Tryd.func133.trans (congrArg some (by kernel_rfl))
  f286 := Tryd.func134.trans (congrArg some (by kernel_rfl))
  f317 := Tryd.func137.trans (congrArg some (by kernel_rfl))
  f318 := Tryd.func139.trans (congrArg some (by kernel_rfl))
  f319 := Tryd.func140.trans (congrArg some (by kernel_rfl))
  f320 := Tryd.func141.trans (congrArg some (by kernel_rfl))
  f337 := Tryd.func142.trans (congrArg some (by kernel_rfl))
  f338 := Tryd.func143.trans (congrArg some (by kernel_rfl))
  t0 := Tryd.underlying0
  a0 := Tryd.isAgg0
  z0 := Tryd.sizeOf0
  v0 := Tryd.zeroValue0
  t2 := Tryd.underlying2
  a2 := Tryd.isAgg2
  z2 := Tryd.sizeOf2
  v2 := Tryd.zeroValue2
  t3 := Tryd.underlying3
  a3 := Tryd.isAgg3
  z3 := Tryd.sizeOf3
  v3 := Tryd.zeroValue3
  t4 := Tryd.underlying4
  a4 := Tryd.isAgg4
  z4 := Tryd.sizeOf4
  v4 := Tryd.zeroValue4
  t5 := Tryd.underlying5
  a5 := Tryd.isAgg5
  z5 := Tryd.sizeOf5
  v5 := Tryd.zeroValue5
  t9 := Tryd.underlying9
  a9 := Tryd.isAgg9
  z9 := Tryd.sizeOf9
  v9 := Tryd.zeroValue9
  t20 := Tryd.underlying20
  a20 := Tryd.isAgg20
  z20 := Tryd.sizeOf20
  v20 := Tryd.zeroValue20
  t37 := Tryd.underlying44
  a37 := Tryd.isAgg44
  z37 := Tryd.sizeOf44
  v37 := Tryd.zeroValue44
  t46 := Tryd.underlying85
  a46 := Tryd.isAgg85
  z46 := Tryd.sizeOf85
  v46 := Tryd.zeroValue85
  t51 := Tryd.underlying143
  a51 := Tryd.isAgg143
  z51 := Tryd.sizeOf143
  v51 := Tryd.zeroValue143
  t53 := Tryd.underlying133
  a53 := Tryd.isAgg133
  z53 := Tryd.sizeOf133
  v53 := Tryd.zeroValue133
  t171 := Tryd.underlying132
  a171 := Tryd.isAgg132
  z171 := Tryd.sizeOf132
  v171 := Tryd.zeroValue132
  t173 := Tryd.underlying136
  a173 := Tryd.isAgg136
  z173 := Tryd.sizeOf136
  v173 := Tryd.zeroValue136
  t212 := Tryd.underlying142
  a212 := Tryd.isAgg142
  z212 := Tryd.sizeOf142
  v212 := Tryd.zeroValue142
  t213 := Tryd.underlying144
  a213 := Tryd.isAgg144
  z213 := Tryd.sizeOf144
  t232 := Tryd.underlying147
  a232 := Tryd.isAgg147
  z232 := Tryd.sizeOf147
  v232 := Tryd.zeroValue147
  t233 := Tryd.underlying148
  a233 := Tryd.isAgg148
  z233 := Tryd.sizeOf148
  v233 := Tryd.zeroValue148
  g17 := by kernel_rfl
  g18 := by kernel_rfl
  g19 := by kernel_rfl
  i0 := by kernel_rfl
  i2 := by kernel_rfl
  i3 := by kernel_rfl
  i4 := by kernel_rfl
  i5 := by kernel_rfl
  i9 := by kernel_rfl
  i20 := by kernel_rfl
  i37 := by kernel_rfl
  i46 := by kernel_rfl
  i51 := by kernel_rfl
  i53 := by kernel_rfl
  i171 := by kernel_rfl
  i173 := by kernel_rfl
  i212 := by kernel_rfl
  i232 := by kernel_rfl
  i233 := by kernel_rfl
  m17 := by kernel_rfl
  m18 := by kernel_rfl
  m19 := by kernel_rfl }
theorem Tryd.strconv_Itoa (n : Int) (h0 : -9223372036854775808 ≤ n) (h1 : n ≤ 9223372036854775807) (w : World) (htab : Lib.TabIs Tryd.prog w "internal/strconv.uint64pow10" .u64 Lib.pow10Tab) :
    Calls Tryd.prog 80 #[.int .i64 n] w fun e w' => e = .returned (.string ⟨(Lib.itoa n).toArray⟩) ∧ ∃ k os, w' = grow (w.drewN k) os := Any.strconv_Itoa Tryd.laysM171 n h0 h1 w htab
def Tryd.lays156_ren : Go.Shelf.Ren := ⟨fun | 156 => 83 | 165 => 103 | 166 => 104 | 169 => 105 | 240 => 122 | 241 => 123 | 276 => 135 | 277 => 136 | n => n, fun | 31 => 26 | 9 => 9 | 3 => 3 | 4 => 4 | 0 => 0 | 20 => 20 | 72 => 109 | 76 => 113 | 70 => 107 | 37 => 44 | 75 => 112 | 127 => 126 | 164 => 138 | 5 => 5 | 80 => 115 | n => n, fun | n => n⟩
theorem Tryd.lays156 : Go.Proofs.Lays.n156 Tryd.prog Tryd.lays156_ren := {
  mixed := by kernel_rfl
  f156 := Tryd.func83.trans (congrArg some (by kernel_rfl))
  f165 := Tryd.func103.trans (congrArg some (by kernel_rfl))
  f166 := Tryd.func104.trans (congrArg some (by kernel_rfl))
  f169 := Tryd.func105.trans (congrArg some (by kernel_rfl))
  f240 := Tryd.func122.trans (congrArg some (by kernel_rfl))
  f241 := Tryd.func123.trans (congrArg some (by kernel_rfl))
  f276 := Tryd.func135.trans (congrArg some (by kernel_rfl))
  f277 := Tryd.func136.trans (congrArg some (by kernel_rfl))
  t0 := Tryd.underlying0
  a0 := Tryd.isAgg0
  z0 := Tryd.sizeOf0
  v0 := Tryd.zeroValue0
  t3 := Tryd.underlying3
  a3 := Tryd.isAgg3
  z3 := Tryd.sizeOf3
  v3 := Tryd.zeroValue3
  t4 := Tryd.underlying4
  a4 := Tryd.isAgg4
  z4 := Tryd.sizeOf4
  v4 := Tryd.zeroValue4
  t9 := Tryd.underlying9
  a9 := Tryd.isAgg9
  z9 := Tryd.sizeOf9
  v9 := Tryd.zeroValue9
  t20 := Tryd.underlying20
  a20 := Tryd.isAgg20
  z20 := Tryd.sizeOf20
  v20 := Tryd.zeroValue20
  t31 := Tryd.underlying26
  a31 := Tryd.isAgg26
  z31 := Tryd.sizeOf26
  v31 := Tryd.zeroValue26
  t37 := Tryd.underlying44
  a37 := Tryd.isAgg44
  z37 := Tryd.sizeOf44
  v37 := Tryd.zeroValue44
  t70 := Tryd.underlying107
  a70 := Tryd.isAgg107
  z70 := Tryd.sizeOf107
  v70 := Tryd.zeroValue107
  t72 := Tryd.underlying109
  a72 := Tryd.isAgg109
  z72 := Tryd.sizeOf109
  v72 := Tryd.zeroValue109
  t75 := Tryd.underlying112
  a75 := Tryd.isAgg112
  z75 := Tryd.sizeOf112
  v75 := Tryd.zeroValue112
  t76 := Tryd.underlying113
  a76 := Tryd.isAgg113
  z76 := Tryd.sizeOf113
  v76 := Tryd.zeroValue113
  t127 := Tryd.underlying126
  a127 := Tryd.isAgg126
  z127 := Tryd.sizeOf126
  v127 := Tryd.zeroValue126
  t164 := Tryd.underlying138
  a164 := Tryd.isAgg138
  z164 := Tryd.sizeOf138
  v164 := Tryd.zeroValue138 }
theorem Tryd.Builder_Extra_156 : Builder.Extra Tryd.prog Tryd.lays156_ren := {
  sizeBuilder := by kernel_rfl
  liesBuilder := by kernel_rfl
  t5 := Tryd.underlying5
  a5 := Tryd.isAgg5
  z5 := Tryd.sizeOf5
  v5 := Tryd.zeroValue5
  infoByte := by kernel_rfl
  cellsByte := by kernel_rfl
  sizeByte := by kernel_rfl
  neB5 := by decide }
theorem Tryd.strings_Join_none (a : Option Addr) (c : Nat) (sep : ByteArray) (w : World) :
    Calls Tryd.prog 83 #[.slice a 0 c, .string sep] w fun e w' => e = .returned (.string ⟨#[]⟩) ∧ w' = w := Any.strings_Join_none Tryd.lays156 Tryd.Builder_Extra_156 a c sep w
theorem Tryd.strings_Join (bk o c : Nat) (xs : List ByteArray) (sep : ByteArray) (w : World) (hcells : ∀ (j : Nat) x, xs[j]? = some x → w.cell? ⟨bk, o + j, none⟩ = some (.string x)) (hbk : bk < w.heap.size) (hN : xs.length ≤ 140737488355328) (hcap : xs.length ≤ c) (hlen : (Lib.join (xs.map (·.data.toList)) sep.data.toList).length ≤ 140737488355328) :
    Calls Tryd.prog 83 #[.slice (some ⟨bk, o, none⟩) xs.length c, .string sep] w fun e w' => e = .returned (.string ⟨(Lib.join (xs.map (·.data.toList)) sep.data.toList).toArray⟩) ∧ Below w.heap.size w w' := Any.strings_Join Tryd.lays156 Tryd.Builder_Extra_156 bk o c xs sep w hcells hbk hN hcap hlen
end Go.Proofs

/- The laws' marks as text. -/
namespace Go.Proofs.YtdbbdoldndnbhaaDoor
open Go.RowKit Go.Sort

/-- a digit's byte -/
def dig8 (k : Nat) : UInt8 := UInt8.ofNat (48 + k % 10)
def mtF : Nat → Nat → ByteArray → ByteArray
  | 0, _, s => s
  | f + 1, k, s => if k = 0 then s else mtF f (k / 10) (⟨#[dig8 k]⟩ ++ s)
theorem mtF_fuel : ∀ f g k s, k ≤ f → k ≤ g → mtF f k s = mtF g k s := by
  intro f
  induction f with
  | zero =>
    intro g k s h _
    obtain rfl : k = 0 := by omega
    cases g with
    | zero => rfl
    | succ g => rw [mtF, mtF, if_pos rfl]
  | succ f ih =>
    intro g k s h1 h2
    cases g with
    | zero =>
      obtain rfl : k = 0 := by omega
      rw [mtF, mtF, if_pos rfl]
    | succ g =>
      rw [mtF, mtF]
      by_cases hk : k = 0
      · rw [if_pos hk, if_pos hk]
      · rw [if_neg hk, if_neg hk, ih g (k / 10) _ (by omega) (by omega)]
def mt (k : Nat) (s : ByteArray) : ByteArray := mtF k k s
theorem mt_zero (s : ByteArray) : mt 0 s = s := rfl
theorem mt_step {k : Nat} (h : 0 < k) (s : ByteArray) : mt k s = mt (k / 10) (⟨#[dig8 k]⟩ ++ s) := by
  unfold mt
  obtain ⟨f, rfl⟩ : ∃ f, k = f + 1 := ⟨k - 1, by omega⟩
  rw [mtF, if_neg (by omega)]
  exact mtF_fuel _ _ _ _ (by omega) (by omega)
/-- the text of a mark -/
def markT (k : Nat) : ByteArray := ⟨#[109]⟩ ++ mt k ⟨#[]⟩
/-- string([]byte{x}) -/
theorem run_one_byte (w : World) (n : Nat) :
    (convert 44 9 (.slice (some ⟨w.heap.size, 0, none⟩) 1 1)).run Tryd.prog (w.alloc (.cells #[.int .u8 (n : Int)] 5)) = .ok (.string ⟨#[UInt8.ofNat n]⟩) (w.alloc (.cells #[.int .u8 (n : Int)] 5)) := by
  have h1 := run_convert_bytes_arg (P := Tryd.prog) (w.alloc (.cells #[.int .u8 (n : Int)] 5)) 44 5 Tryd.underlying44 Tryd.underlying5 w.heap.size 0 1 1 [(n : Int)] rfl (fun i hi => by
    obtain rfl : i = 0 := by omega
    simp) 9 Tryd.underlying9
  rw [h1]
  rfl
set_option maxRecDepth 100000 in
set_option maxHeartbeats 400000 in
theorem markText_c (k : Nat) (w : World) (hk : 0 < k) (hk2 : k ≤ 1099511627776) :
    Gives Tryd.prog 53 #[.int .i64 k] w (.string (markT k)) := by
  go_enter Tryd.func53, Tryd.ntmps53
  go_wp2
  go_loopw [0, 3] (fun kk t wr => ∃ (n : Nat) (s : ByteArray), s.size + n ≤ k ∧ kk = .int .i64 n ∧ t = .string s ∧ Hid (mt n s = mt k ⟨#[]⟩) ∧ Ext w wr) (fun kk _ _ => (intOf kk).toNat)
  case atStart => exact ⟨k, ⟨#[]⟩, Nat.le_of_eq (Nat.zero_add k), rfl, rfl, rfl, Ext.refl _⟩
  case round =>
    obtain ⟨n, s, hn, rfl, rfl, hs, he⟩ := hrel
    by_cases h0 : 0 < n
    · have hst := Lib.hid ((mt_step h0 s).symm.trans hs.out)
      have hcv : ∀ w' : World, (convert 44 9 (.slice (some ⟨w'.heap.size, 0, none⟩) 1 1)).run Tryd.prog (w'.alloc (.cells #[.int .u8 (48 + (n : Int) % 10)] 5)) = .ok (.string ⟨#[dig8 n]⟩) (w'.alloc (.cells #[.int .u8 (48 + (n : Int) % 10)] 5)) := by
        intro w'
        have := run_one_byte w' (48 + n % 10)
        rw [show ((48 + n % 10 : Nat) : Int) = 48 + (n : Int) % 10 by omega] at this
        exact this
      have hcvr := hcv wr
      clear hcv
      go_wp2
      go_roundw
      case rel => exact ⟨n / 10, _, by rw [ByteArray.size_append]; show 1 + s.size + n / 10 ≤ k; omega, by go_num, rfl, hst, Ext_alloc _ he⟩
      case measure => simp [intOf]; omega
    · obtain rfl : n = 0 := by omega
      have hs2 := Lib.hid ((mt_zero s).symm.trans hs.out)
      clear hs
      go_wp2
      go_ret
      exact ⟨by rw [hs2.out]; rfl, he⟩
end Go.Proofs.YtdbbdoldndnbhaaDoor

/- The decimal numeral: FormatInt of both sides. -/
namespace Go.Proofs.YtdbbdoldndnbhaaDoor
open Go.RowKit Go.Sort

/-- the table that strconv reads lies where the program's start lays it -/
def Tab (w : World) : Prop := Lib.TabIs Tryd.prog w "internal/strconv.uint64pow10" .u64 Lib.pow10Tab
theorem Tab.ext {w w' : World} (h : Tab w) (e : Ext w w') : Tab w' := by
  unfold Tab Lib.TabIs World.var? at *
  rw [Option.bind_eq_some_iff] at *
  obtain ⟨g, hg, hc⟩ := h
  refine ⟨g, hg, ?_⟩
  rcases Nat.lt_or_ge g w.heap.size with hlt | hge
  · rw [Below.block e g hlt]; exact hc
  · rw [Array.getElem?_eq_none hge] at hc; simp at hc
theorem i64_of_wf {n : Int} (h : (Lit.int .i64 n).wf = true) : -9223372036854775808 ≤ n ∧ n ≤ 9223372036854775807 := by
  have h' : (decide (IntKind.i64.min ≤ n) && decide (n ≤ IntKind.i64.max)) = true := h
  rw [Bool.and_eq_true, decide_eq_true_eq, decide_eq_true_eq] at h'
  have e1 : IntKind.i64.min = -9223372036854775808 := by decide
  have e2 : IntKind.i64.max = 9223372036854775807 := by decide
  omega
def itoaB (n : Int) : ByteArray := ⟨(Lib.itoa n).toArray⟩
theorem nDigits_le {u : Nat} {k : Nat} (hk : 1 ≤ k) (h : u < 10 ^ k) : Lib.nDigits u ≤ k := by
  rcases Nat.lt_or_ge u 10 with hu | hu
  · rw [Lib.nDigits_small hu]; exact hk
  · obtain ⟨j, hj⟩ : ∃ j, Lib.nDigits u = j + 1 := ⟨Lib.nDigits u - 1, by have := Lib.nDigits_pos u; omega⟩
    rw [hj]
    refine Nat.le_of_not_lt fun hlt => ?_
    have h1 : 10 ^ j ≤ u := by
      have := Lib.lt_pow_nDigits (u / 10)
      rw [Lib.nDigits_big (by omega)] at hj
      have hj' : Lib.nDigits (u / 10) = j := by omega
      clear this hlt h hk
      have hmin : ∀ (m v : Nat), Lib.nDigits v = m → 1 ≤ v → 10 ^ (m - 1) ≤ v := by
        intro m
        induction m with
        | zero => intro v hv h1; have := Lib.nDigits_pos v; omega
        | succ m ih =>
          intro v hv h1
          rcases Nat.lt_or_ge v 10 with hv10 | hv10
          · rw [Lib.nDigits_small hv10] at hv; obtain rfl : m = 0 := by omega
            simpa using h1
          · rw [Lib.nDigits_big (by omega)] at hv
            have h2 := ih (v / 10) (by omega) (by omega)
            obtain ⟨m', rfl⟩ : ∃ m', m = m' + 1 := ⟨m - 1, by have := Lib.nDigits_pos (v/10); omega⟩
            simp only [Nat.add_sub_cancel] at h2 ⊢
            rw [Nat.pow_succ]; omega
      have := hmin (j + 1) u (by rw [Lib.nDigits_big (by omega)]; omega) (by omega)
      simpa using this
    have : 10 ^ k ≤ 10 ^ j := Nat.pow_le_pow_right (by omega) (by omega)
    omega
theorem itoa_size (n : Int) (h0 : -9223372036854775808 ≤ n) (h1 : n ≤ 9223372036854775807) : (itoaB n).size ≤ 20 := by
  show (Lib.itoa n).toArray.size ≤ 20
  rw [List.size_toArray]
  unfold Lib.itoa
  split
  · simp only [List.length_cons, Lib.decDigits_length]
    have := nDigits_le (u := n.natAbs) (k := 19) (by omega) (by omega)
    omega
  · rw [Lib.decDigits_length]
    have := nDigits_le (u := n.toNat) (k := 19) (by omega) (by omega)
    omega
theorem iFormatInt_c (n : Int) (w : World) (hT : Tab w) (h0 : -9223372036854775808 ≤ n) (h1 : n ≤ 9223372036854775807) :
    Gives Tryd.prog 50 #[.int .i64 n] w (.string (itoaB n)) := by
  have C := Lib.hid (Tryd.strconv_Itoa n h0 h1 w hT)
  unfold itoaB
  generalize (Lib.itoa n) = l at *
  go_enter Tryd.func50, Tryd.ntmps50
  go_wp2_with fail
  refine C.out.mono ?_; rintro _ w1 ⟨rfl, k, os, hw⟩
  have he : Ext w w1 := by rw [hw]; exact Lib.below_grow _ w (Nat.le_refl _) k os
  clear hw
  go_wp2
  go_ret
  exact ⟨rfl, he⟩
theorem mt_dec {n : Nat} (h : 0 < n) (s : ByteArray) : mt n s = ⟨(Lib.decDigits n).toArray⟩ ++ s := by
  induction n using Nat.strongRecOn generalizing s with
  | _ n ih =>
    rw [mt_step h]
    by_cases h10 : n < 10
    · rw [show n / 10 = 0 by omega, mt_zero, Lib.decDigits_one h10]
      show _ = (⟨#[UInt8.ofNat (48 + n)]⟩ : ByteArray) ++ s
      rw [dig8, Nat.mod_eq_of_lt h10]
    · rw [ih (n / 10) (by omega) (by omega)]
      conv => rhs; rw [Lib.decDigits, dif_neg h10]
      apply ByteArray.ext
      simp [ByteArray.data_append, dig8]
theorem itoaB_pos {n : Nat} (h : 0 < n) : itoaB n = mt n ⟨#[]⟩ := by
  rw [mt_dec h]; unfold itoaB Lib.itoa
  rw [if_neg (by omega)]
  apply ByteArray.ext
  simp [ByteArray.data_append]
theorem itoaB_neg {n : Nat} (h : 0 < n) : itoaB (-(n : Int)) = ⟨#[45]⟩ ++ mt n ⟨#[]⟩ := by
  rw [mt_dec h]; unfold itoaB Lib.itoa
  rw [if_pos (by omega)]
  apply ByteArray.ext
  simp [ByteArray.data_append]
theorem itoaB_zero : itoaB 0 = ⟨#[48]⟩ := by
  unfold itoaB Lib.itoa
  rw [if_neg (by omega), show (0 : Int).toNat = 0 from rfl, Lib.decDigits_one (by omega)]; rfl
set_option maxRecDepth 100000 in
set_option maxHeartbeats 400000 in
theorem sFormatInt_pos (k : Nat) (w : World) (hk : 0 < k) (hk2 : k ≤ 9223372036854775807) :
    Gives Tryd.prog 45 #[.int .i64 k] w (.string (mt k ⟨#[]⟩)) := by
  have dk : decide ((k : Int) < 0) = false := decide_eq_false (by omega)
  go_enter Tryd.func45, Tryd.ntmps45
  go_wp2
  go_loopw [4, 3] (fun kk t wr => ∃ (n : Nat) (s : ByteArray), s.size + n ≤ k ∧ kk = .int .i64 n ∧ t = .string s ∧ Hid (mt n s = mt k ⟨#[]⟩) ∧ Ext w wr) (fun kk _ _ => (intOf kk).toNat)
  case atStart => exact ⟨k, ⟨#[]⟩, Nat.le_of_eq (Nat.zero_add k), rfl, rfl, rfl, Ext.refl _⟩
  case round =>
    obtain ⟨n, s, hn, rfl, rfl, hs, he⟩ := hrel
    by_cases h0 : 0 < n
    · have hst := Lib.hid ((mt_step h0 s).symm.trans hs.out)
      have hcv : ∀ w' : World, (convert 44 9 (.slice (some ⟨w'.heap.size, 0, none⟩) 1 1)).run Tryd.prog (w'.alloc (.cells #[.int .u8 (48 + (n : Int) % 10)] 5)) = .ok (.string ⟨#[dig8 n]⟩) (w'.alloc (.cells #[.int .u8 (48 + (n : Int) % 10)] 5)) := by
        intro w'
        have := run_one_byte w' (48 + n % 10)
        rw [show ((48 + n % 10 : Nat) : Int) = 48 + (n : Int) % 10 by omega] at this
        exact this
      have hcvr := hcv wr
      clear hcv
      go_wp2
      go_roundw
      case rel => exact ⟨n / 10, _, by rw [ByteArray.size_append]; show 1 + s.size + n / 10 ≤ k; omega, by go_num, rfl, hst, Ext_alloc _ he⟩
      case measure => simp [intOf]; omega
    · obtain rfl : n = 0 := by omega
      have hs2 := Lib.hid ((mt_zero s).symm.trans hs.out)
      clear hs
      go_wp2
      go_ret
      exact ⟨by rw [hs2.out]; rfl, he⟩
set_option maxRecDepth 100000 in
set_option maxHeartbeats 400000 in
theorem sFormatInt_neg (k : Nat) (w : World) (hk : 0 < k) (hk2 : k ≤ 9223372036854775808) :
    Gives Tryd.prog 45 #[.int .i64 (-(k : Int))] w (.string (⟨#[45]⟩ ++ mt k ⟨#[]⟩)) := by
  have dk : decide (-(k : Int) < 0) = true := decide_eq_true (by omega)
  go_enter Tryd.func45, Tryd.ntmps45
  go_wp2
  go_loopw [4, 3] (fun kk t wr => ∃ (n : Nat) (s : ByteArray), 2 * s.size + n ≤ k + 1 ∧ (0 < n → 2 * s.size + n ≤ k) ∧ kk = .int .i64 (-(n : Int)) ∧ t = .string s ∧ Hid (mt n s = mt k ⟨#[]⟩) ∧ Ext w wr) (fun kk _ _ => (-(intOf kk)).toNat)
  case atStart => exact ⟨k, ⟨#[]⟩, by show 2 * 0 + k ≤ k + 1; omega, fun _ => Nat.le_of_eq (Nat.zero_add k), rfl, rfl, rfl, Ext.refl _⟩
  case round =>
    obtain ⟨n, s, hn, hn2, rfl, rfl, hs, he⟩ := hrel
    by_cases h0 : 0 < n
    · have hn3 := hn2 h0
      have hst := Lib.hid ((mt_step h0 s).symm.trans hs.out)
      have hcv : ∀ w' : World, (convert 44 9 (.slice (some ⟨w'.heap.size, 0, none⟩) 1 1)).run Tryd.prog (w'.alloc (.cells #[.int .u8 (48 + (n : Int) % 10)] 5)) = .ok (.string ⟨#[dig8 n]⟩) (w'.alloc (.cells #[.int .u8 (48 + (n : Int) % 10)] 5)) := by
        intro w'
        have := run_one_byte w' (48 + n % 10)
        rw [show ((48 + n % 10 : Nat) : Int) = 48 + (n : Int) % 10 by omega] at this
        exact this
      have hcvr := hcv wr
      have hmod : (-(n : Int)).tmod 10 = -((n : Int) % 10) := by rw [Int.neg_tmod, Int.tmod_eq_emod_of_nonneg (by omega)]
      have hdiv : (-(n : Int)).tdiv 10 = -((n : Int) / 10) := by rw [Int.neg_tdiv, Int.tdiv_eq_ediv_of_nonneg (by omega)]
      clear hcv
      by_cases hm : (n : Int) % 10 = 0
      · rw [hm, Int.add_zero] at hcvr
        go_wp2
        go_roundw
        case rel => exact ⟨n / 10, _, by rw [ByteArray.size_append]; show 2 * (1 + s.size) + n / 10 ≤ k + 1; omega, fun h => by rw [ByteArray.size_append]; show 2 * (1 + s.size) + n / 10 ≤ k; omega, by go_num, rfl, hst, Ext_alloc _ he⟩
        case measure => simp [intOf]; omega
      · go_wp2
        go_roundw
        case rel => exact ⟨n / 10, _, by rw [ByteArray.size_append]; show 2 * (1 + s.size) + n / 10 ≤ k + 1; omega, fun h => by rw [ByteArray.size_append]; show 2 * (1 + s.size) + n / 10 ≤ k; omega, by go_num, rfl, hst, Ext_alloc _ he⟩
        case measure => simp [intOf]; omega
    · obtain rfl : n = 0 := by omega
      have hsz : s.size ≤ 4611686018427387904 := by omega
      have z0 : (-((0 : Nat) : Int) != 0) = false := by simp
      have hs2 := Lib.hid ((mt_zero s).symm.trans hs.out)
      clear hs
      go_wp2
      all_goals go_ret
      all_goals exact ⟨by rw [hs2.out]; rfl, he⟩
theorem sFormatInt_c (n : Int) (w : World) (h0 : -9223372036854775808 ≤ n) (h1 : n ≤ 9223372036854775807) :
    Gives Tryd.prog 45 #[.int .i64 n] w (.string (itoaB n)) := by
  rcases Int.lt_trichotomy n 0 with h | rfl | h
  · obtain ⟨k, rfl⟩ : ∃ k : Nat, n = -(k : Int) := ⟨n.natAbs, by omega⟩
    rw [itoaB_neg (by omega)]
    exact sFormatInt_neg k w (by omega) (by omega)
  · rw [itoaB_zero]
    go_enter Tryd.func45, Tryd.ntmps45
    go_wp2
    go_ret
    exact ⟨rfl, Ext.refl _⟩
  · obtain ⟨k, rfl⟩ : ∃ k : Nat, n = (k : Int) := ⟨n.toNat, by omega⟩
    rw [itoaB_pos (by omega)]
    exact sFormatInt_pos k w (by omega) (by omega)
end Go.Proofs.YtdbbdoldndnbhaaDoor

/- The walk of the law on EqualRecords. -/
namespace Go.Proofs.YtdbbdoldndnbhaaDoor
open Go.RowKit Go.Sort

theorem szR_lo (n m : Nat) (left : Int) (h : left ≤ 1048576) (h0 : 0 ≤ left) : -1 ≤ szR n m left ∧ szR n m left ≤ 1048576 := by
  unfold szR szN; split
  · omega
  · split <;> omega
theorem szR_len {n m : Nat} {left : Int} (h : left ≤ 1048576) (h0 : 0 ≤ left) : 0 ≤ szR n m left → m ≤ 1048576 := by
  unfold szR szN
  intro hh
  split at hh
  · omega
  · split at hh
    · omega
    · omega
end Go.Proofs.YtdbbdoldndnbhaaDoor

/- FormatRecord of the program and of the reference; the walk of the law. -/
namespace Go.Proofs.YtdbbdoldndnbhaaDoor
open Go.RowKit Go.Sort

def fmtRec (k : Int) (nm : ByteArray) (ver : Int) (n : Nat) : ByteArray :=
  if k = 1 then ⟨#[115, 116, 111, 114, 101, 32]⟩ ++ nm ++ ⟨#[32, 118]⟩ ++ itoaB ver ++ ⟨#[32]⟩ ++ itoaB n else if k = 2 then ⟨#[100, 101, 108, 101, 116, 101, 32]⟩ ++ nm else ⟨#[63]⟩
set_option maxRecDepth 100000 in
set_option maxHeartbeats 2000000 in
theorem sFmtRec_c (k : Int) (nm : ByteArray) (ver : Int) (A : Option Addr) (l : List UInt8) (c : Nat) (w : World)  (hn : nm.size ≤ 1048576) (hl : l.length ≤ 1048576) (hv : -9223372036854775808 ≤ ver ∧ ver ≤ 9223372036854775807) :
    Gives Tryd.prog 22 #[vrec k nm ver (.slice A l.length c)] w (.string (fmtRec k nm ver l.length)) := by
  have eb := Ext_alloc (.cells #[.int .i64 k, .string nm, .int .i64 ver, .slice A l.length c] 49) (Ext.refl w)
  have K0 : ∀ w', Ext (w.alloc (.cells #[.int .i64 k, .string nm, .int .i64 ver, .slice A l.length c] 49)) w' → w'.cell? ⟨w.heap.size, 0, none⟩ = some (.int .i64 k) := fun w' e => boxed e 0
  have K1 : ∀ w', Ext (w.alloc (.cells #[.int .i64 k, .string nm, .int .i64 ver, .slice A l.length c] 49)) w' → w'.cell? ⟨w.heap.size, 1, none⟩ = some (.string nm) := fun w' e => boxed e 1
  have K2 : ∀ w', Ext (w.alloc (.cells #[.int .i64 k, .string nm, .int .i64 ver, .slice A l.length c] 49)) w' → w'.cell? ⟨w.heap.size, 2, none⟩ = some (.int .i64 ver) := fun w' e => boxed e 2
  have K3 : ∀ w', Ext (w.alloc (.cells #[.int .i64 k, .string nm, .int .i64 ver, .slice A l.length c] 49)) w' → w'.cell? ⟨w.heap.size, 3, none⟩ = some (.slice A l.length c) := fun w' e => boxed e 3
  unfold vrec
  by_cases h1 : k = 1
  · subst h1
    have hs1 := itoa_size ver hv.1 hv.2
    have hs2 := itoa_size (l.length : Int) (by omega) (by omega)
    have CI : Hid (∀ w', Ext w w' → ∀ n : Int, n = ver ∨ n = (l.length : Int) → Gives Tryd.prog 45 #[.int .i64 n] w' (.string (itoaB n))) := fun w' _ n h => sFormatInt_c n w'  (by omega) (by omega)
    unfold fmtRec
    rw [if_pos rfl]
    clear hv
    generalize itoaB = it at *
    have z6 : (⟨#[115, 116, 111, 114, 101, 32]⟩ : ByteArray).size ≤ 6 := by decide
    have z2 : (⟨#[32, 118]⟩ : ByteArray).size ≤ 2 := by decide
    have z1 : (⟨#[32]⟩ : ByteArray).size ≤ 1 := by decide
    have n1 : ¬ 9223372036854775807 < 6 + nm.size := by omega
    have n2 : ¬ 9223372036854775807 < 6 + nm.size + 2 := by omega
    have n3 : ¬ 9223372036854775807 < 6 + nm.size + 2 + (it ver).size := by omega
    have n4 : ¬ 9223372036854775807 < 6 + nm.size + 2 + (it ver).size + 1 := by omega
    have n5 : ¬ 9223372036854775807 < 6 + nm.size + 2 + (it ver).size + 1 + (it (l.length : Int)).size := by omega
    go_enter Tryd.func22, Tryd.ntmps22
    go_wp2_with fail
    refine wp_region_quiet_below (by kernel_rfl) (by kernel_rfl) ?_
    repeat (go_big_quiet_step (first | (go_at_call 45; exact Calls.regrown_of (CI.out _ (by first | assumption | exact Ext_regrown _ _ eb) _ (by first | exact .inl rfl | exact .inr rfl)))))
    refine wpQuiet_nil ?_
    rintro w1 ⟨⟨nq, osq⟩, hq⟩
    have ew1 := ext_of_q hq
    clear hq nq osq
    go_wp2
    go_ret
    exact ⟨rfl, eb.trans ew1⟩
  · have b1 : (k == 1) = false := by simpa using h1
    by_cases h2 : k = 2
    · subst h2
      unfold fmtRec
      rw [if_neg (by omega), if_pos rfl]
      have n1 : ¬ 9223372036854775807 < 7 + nm.size := by omega
      go_enter Tryd.func22, Tryd.ntmps22
      go_wp2
      go_ret
      exact ⟨rfl, eb⟩
    · have b2 : (k == 2) = false := by simpa using h2
      unfold fmtRec
      rw [if_neg h1, if_neg h2]
      go_enter Tryd.func22, Tryd.ntmps22
      go_wp2
      go_ret
      exact ⟨rfl, eb⟩

set_option maxRecDepth 100000 in
set_option maxHeartbeats 2000000 in
theorem iFmtRec_c (k : Int) (nm : ByteArray) (ver : Int) (A : Option Addr) (l : List UInt8) (c : Nat) (w : World) (hT : Tab w) (hn : nm.size ≤ 1048576) (hl : l.length ≤ 1048576) (hv : -9223372036854775808 ≤ ver ∧ ver ≤ 9223372036854775807) :
    Gives Tryd.prog 24 #[vrec k nm ver (.slice A l.length c)] w (.string (fmtRec k nm ver l.length)) := by
  have eb := Ext_alloc (.cells #[.int .i64 k, .string nm, .int .i64 ver, .slice A l.length c] 49) (Ext.refl w)
  have K0 : ∀ w', Ext (w.alloc (.cells #[.int .i64 k, .string nm, .int .i64 ver, .slice A l.length c] 49)) w' → w'.cell? ⟨w.heap.size, 0, none⟩ = some (.int .i64 k) := fun w' e => boxed e 0
  have K1 : ∀ w', Ext (w.alloc (.cells #[.int .i64 k, .string nm, .int .i64 ver, .slice A l.length c] 49)) w' → w'.cell? ⟨w.heap.size, 1, none⟩ = some (.string nm) := fun w' e => boxed e 1
  have K2 : ∀ w', Ext (w.alloc (.cells #[.int .i64 k, .string nm, .int .i64 ver, .slice A l.length c] 49)) w' → w'.cell? ⟨w.heap.size, 2, none⟩ = some (.int .i64 ver) := fun w' e => boxed e 2
  have K3 : ∀ w', Ext (w.alloc (.cells #[.int .i64 k, .string nm, .int .i64 ver, .slice A l.length c] 49)) w' → w'.cell? ⟨w.heap.size, 3, none⟩ = some (.slice A l.length c) := fun w' e => boxed e 3
  unfold vrec
  by_cases h1 : k = 1
  · subst h1
    have hs1 := itoa_size ver hv.1 hv.2
    have hs2 := itoa_size (l.length : Int) (by omega) (by omega)
    have CI : Hid (∀ w', Ext w w' → ∀ n : Int, n = ver ∨ n = (l.length : Int) → Gives Tryd.prog 50 #[.int .i64 n] w' (.string (itoaB n))) := fun w' _ n h => iFormatInt_c n w' (hT.ext (by assumption)) (by omega) (by omega)
    unfold fmtRec
    rw [if_pos rfl]
    clear hv
    generalize itoaB = it at *
    have z6 : (⟨#[115, 116, 111, 114, 101, 32]⟩ : ByteArray).size ≤ 6 := by decide
    have z2 : (⟨#[32, 118]⟩ : ByteArray).size ≤ 2 := by decide
    have z1 : (⟨#[32]⟩ : ByteArray).size ≤ 1 := by decide
    have n1 : ¬ 9223372036854775807 < 6 + nm.size := by omega
    have n2 : ¬ 9223372036854775807 < 6 + nm.size + 2 := by omega
    have n3 : ¬ 9223372036854775807 < 6 + nm.size + 2 + (it ver).size := by omega
    have n4 : ¬ 9223372036854775807 < 6 + nm.size + 2 + (it ver).size + 1 := by omega
    have n5 : ¬ 9223372036854775807 < 6 + nm.size + 2 + (it ver).size + 1 + (it (l.length : Int)).size := by omega
    go_enter Tryd.func24, Tryd.ntmps24
    go_wp2_with fail
    refine wp_region_quiet_below (by kernel_rfl) (by kernel_rfl) ?_
    repeat (go_big_quiet_step (first | (go_at_call 50; exact Calls.regrown_of (CI.out _ (by first | assumption | exact Ext_regrown _ _ eb) _ (by first | exact .inl rfl | exact .inr rfl)))))
    refine wpQuiet_nil ?_
    rintro w1 ⟨⟨nq, osq⟩, hq⟩
    have ew1 := ext_of_q hq
    clear hq nq osq
    go_wp2
    go_ret
    exact ⟨rfl, eb.trans ew1⟩
  · have b1 : (k == 1) = false := by simpa using h1
    by_cases h2 : k = 2
    · subst h2
      unfold fmtRec
      rw [if_neg (by omega), if_pos rfl]
      have n1 : ¬ 9223372036854775807 < 7 + nm.size := by omega
      go_enter Tryd.func24, Tryd.ntmps24
      go_wp2
      go_ret
      exact ⟨rfl, eb⟩
    · have b2 : (k == 2) = false := by simpa using h2
      unfold fmtRec
      rw [if_neg h1, if_neg h2]
      go_enter Tryd.func24, Tryd.ntmps24
      go_wp2
      go_ret
      exact ⟨rfl, eb⟩
end Go.Proofs.YtdbbdoldndnbhaaDoor

/- The walk of the law on records: a record is read back from its encoding, a shortened one is not. -/
namespace Go.Proofs.YtdbbdoldndnbhaaDoor
open Go.RowKit Go.Sort

theorem rec_back {k : Int} {nm : ByteArray} {ver : Int} {d : List UInt8} (h : validRec k nm ver d.length = true) :
    dec ([1, 2] ++ (encRec k nm ver d ++ [7])) 2 = some ⟨k, nm, ver, d⟩ ∧ decEnd ([1, 2] ++ (encRec k nm ver d ++ [7])) 2 = ((encRec k nm ver d).length : Int) + 2 := by
  obtain ⟨h1, h2⟩ := decN_enc [1, 2] h
  generalize encRec k nm ver d = E at *
  have e1 : ([1, 2] ++ (E ++ [7])).take (2 + E.length) = [1, 2] ++ E := by
    rw [← List.append_assoc, List.take_append_of_le_length (by simp; omega), List.take_of_length_le (by simp; omega)]
  have h3 : decN (([1, 2] ++ (E ++ [7])).take (2 + E.length)) 2 = some ⟨k, nm, ver, d⟩ := by rw [e1]; exact h1
  obtain ⟨h4, h5⟩ := decN_take_some (by simp; omega) h3
  have h6 := dec_yes h4
  refine ⟨h6.1, ?_⟩
  have h7 : sizeAt (([1, 2] ++ (E ++ [7])).take (2 + E.length)) 2 = E.length := by rw [e1]; exact h2
  unfold sizeAt at h5 h7
  rw [nmAt_take (by omega), szAt_take (by omega)] at h7
  have h8 : decEnd ([1, 2] ++ (E ++ [7])) 2 = ((2 + nmAt ([1, 2] ++ (E ++ [7])) 2 + 6 + szAt ([1, 2] ++ (E ++ [7])) 2 : Nat) : Int) := h6.2
  rw [h8]; omega
theorem rec_cut {k : Int} {nm : ByteArray} {ver : Int} {d : List UInt8} (h : validRec k nm ver d.length = true) :
    dec ((encRec k nm ver d).take ((encRec k nm ver d).length - 1)) 0 = none := by
  obtain ⟨h1, h2⟩ := decN_enc [] h
  have hl := encRec_length h
  rw [List.nil_append] at h1 h2
  have h3 : sizeAt (encRec k nm ver d) 0 = (encRec k nm ver d).length := h2
  have h4 := decN_take_none (b := encRec k nm ver d) (s := (encRec k nm ver d).length - 1) (a := 0) (by omega) (.inr (by omega))
  exact (dec_nat _ 0).trans h4
theorem wrap8 (n : Int) : (.int .u8 (IntKind.u8.wrap n) : Value) = vu8 (UInt8.ofNat (IntKind.u8.wrap n).toNat) := by
  have h : 0 ≤ IntKind.u8.wrap n ∧ IntKind.u8.wrap n < 256 := by
    simp only [IntKind.wrap, IntKind.bits, IntKind.signed]
    simp
    omega
  unfold vu8
  congr 1
  rw [UInt8.toNat_ofNat']
  omega
def atV (l : List UInt8) (i : Nat) : Int := if h : i < l.length then ((l[i]'h).toNat : Int) else ((i : Int) * 31 + (l.length : Int) * 7) % 256
theorem atV_nn (l : List UInt8) (i : Nat) : 0 ≤ atV l i := by unfold atV; split <;> omega
set_option maxHeartbeats 400000 in
theorem at_c (A : Option Addr) (l : List UInt8) (c : Nat) (i : Nat) (w : World) (h : Bs w A l c) (hi : i ≤ 1000) (hL : l.length ≤ 1048576) :
    Gives Tryd.prog 39 #[.slice A l.length c, .int .i64 i] w (.int .i64 (atV l i)) := by
  by_cases hlt : i < l.length
  · obtain ⟨b, off, rfl, hb, hc⟩ := h.at i hlt
    have HE : Hid (atV l i = ((l[i]'hlt).toNat : Int)) := dif_pos hlt
    rw [HE.out]
    simp only [vu8] at hc
    have hx := (l[i]'hlt).toNat_lt
    generalize (l[i]'hlt).toNat = x at *
    have b1 : (i : Int) < (l.length : Int) := by omega
    go_enter Tryd.func39, Tryd.ntmps39
    go_wp2
    go_ret
    exact ⟨rfl, Ext.refl _⟩
  · have HE : Hid (atV l i = ((i : Int) * 31 + (l.length : Int) * 7) % 256) := dif_neg hlt
    rw [HE.out]
    have b1 : ¬ (i : Int) < (l.length : Int) := by omega
    go_enter Tryd.func39, Tryd.ntmps39
    go_wp2
    go_ret
    exact ⟨rfl, Ext.refl _⟩
set_option maxHeartbeats 1000000 in
theorem decodes_c (A : Option Addr) (l : List UInt8) (c : Nat) (w : World) (h : Bs w A l c) :
    Gives Tryd.prog 40 #[.slice A l.length c] w (.bool (dec l 0).isSome) := by
  have C := Lib.hid (sDecodeRecord_c A l c 0 w h (by decide))
  unfold DecOut vrec at C
  generalize ((dec l 0).getD .zero) = x at *
  generalize (dec l 0).isSome = z at *
  generalize decEnd l 0 = j at *
  go_enter Tryd.func40, Tryd.ntmps40
  go_wp2_with fail
  refine C.out.mono ?_; rintro _ w1 ⟨v, rfl, ho, he⟩
  obtain ⟨A1, n1, c1, hv⟩ : ∃ A1 n1 c1, v = .slice A1 n1 c1 := by
    rcases ho.2 with ⟨h0, _⟩ | ⟨g, cap, cur, h0, _⟩
    · exact ⟨_, _, _, h0⟩
    · exact ⟨_, _, _, h0⟩
  subst hv
  go_wp2
  go_ret
  exact ⟨rfl, Ext_alloc _ he⟩
set_option maxRecDepth 100000 in
set_option maxHeartbeats 1000000 in
theorem drawEnc_c (A : Option Addr) (l : List UInt8) (c : Nat) (w : World) (hA : Bs w A l c) :
    Calls Tryd.prog 32 #[.slice A l.length c] w fun e w' => ∃ k nm ver d v, nm.size ≤ 100 ∧ d.length ≤ 790 ∧ e = .returned (vrec k nm ver v) ∧ OwnL vu8 5 w w' v d ∧ Ext w w' := by
  have CAny := Lib.hid (fun w h => drawRecord_c A l c w h)
  unfold vrec at CAny
  have e0 := Ext_alloc (.cells #[.int .i64 0, .string ⟨#[]⟩, .int .i64 0, .slice none 0 0] 49) (Ext.refl w)
  have HR := Lib.hid (Box.new w #[.int .i64 0, .string ⟨#[]⟩, .int .i64 0, .slice none 0 0] 49)
  go_enter Tryd.func32, Tryd.ntmps32
  go_wp2_with fail
  refine (CAny.out _ (hA.ext e0)).mono ?_; rintro _ w2 ⟨k, nm, ver, d, v, hnm, hd, rfl, ho2, hx2⟩
  have HR2 := Lib.hid (HR.out.ext hx2)
  have hn2 : ∀ k, v.ownBlock = some k → w.heap.size < k := fun k hk => by have := (World.ownsRow.lt ho2 k hk).1; simp at this; omega
  obtain ⟨A2, c2, rfl, _⟩ := OwnL.rd ho2 (by omega)
  have ho2 := Lib.hid (OwnL.lower ho2 e0)
  have e2 := e0.trans hx2
  obtain ⟨x0, x1, x2, x3, h0, h1, h2, h3⟩ := HR2.out.four
  clear e0 HR hx2
  go_wp2_with fail
  clear x0 x1 x2 x3 h0 h1 h2 h3
  have HB := Lib.hid (Box.stored4 HR2.out (.int .i64 k) (.string nm) (.int .i64 ver) (.slice A2 d.length c2))
  have HO := Lib.hid (OwnL.set4 ho2.out (g := w.heap.size) (fun hh => Nat.lt_irrefl _ (hn2 _ hh)) (.int .i64 k) (.string nm) (.int .i64 ver) (.slice A2 d.length c2))
  have HE : Hid (Ext w ((((w2.setCell ⟨w.heap.size, 0, none⟩ (.int .i64 k)).setCell ⟨w.heap.size, 1, none⟩ (.string nm)).setCell ⟨w.heap.size, 2, none⟩ (.int .i64 ver)).setCell ⟨w.heap.size, 3, none⟩ (.slice A2 d.length c2))) := (((e2.setCell (p := ⟨w.heap.size, 0, none⟩) (Nat.le_refl _) _).setCell (p := ⟨w.heap.size, 1, none⟩) (Nat.le_refl _) _).setCell (p := ⟨w.heap.size, 2, none⟩) (Nat.le_refl _) _).setCell (p := ⟨w.heap.size, 3, none⟩) (Nat.le_refl _) _
  generalize ((((World.setCell w2 ⟨w.heap.size, 0, none⟩ (.int .i64 k)).setCell ⟨w.heap.size, 1, none⟩ (.string nm)).setCell ⟨w.heap.size, 2, none⟩ (.int .i64 ver)).setCell ⟨w.heap.size, 3, none⟩ (.slice A2 d.length c2)) = W at *
  have z0 := HB.out.cell 0; have z1 := HB.out.cell 1; have z2 := HB.out.cell 2; have z3 := HB.out.cell 3
  refine bodyPost_ret (v := .agg #[.int .i64 k, .string nm, .int .i64 ver, .slice A2 d.length c2]) (by simp at z0 z1 z2 z3; simp [results, Tryd.results32, go_sem, z0, z1, z2, z3]) rfl ?_
  first
    | exact ⟨k, nm, ver, d, _, hnm, hd, rfl, HO.out, HE.out⟩
    | exact ⟨k, nm, hnm, ver, d, hd, _, rfl, HO.out, HE.out⟩
set_option maxRecDepth 100000 in
set_option maxHeartbeats 8000000 in
theorem lawRecords_c (A : Option Addr) (l : List UInt8) (c : Nat) (w : World) (h : Rd0 vu8 w A l c) (hT : Tab w) :
    Gives Tryd.prog 7 #[.slice A l.length c] w (.bool true) := by
  have hl := h.len
  by_cases hL : (1048576 : Int) < (l.length : Int)
  · have HD : Hid (decide ((1048576 : Int) < (l.length : Int)) = true) := by show _ = _; simpa using hL
    go_enter Tryd.func7, Tryd.ntmps7
    go_wp2_with fail
    refine (big_c _ _ _ _ h).mono ?_; rintro _ w1 ⟨rfl, he1⟩; rw [HD.out]
    go_wp2
    go_ret
    exact ⟨rfl, he1⟩
  have HD : Hid (decide ((1048576 : Int) < (l.length : Int)) = false) := by show _ = _; simpa using hL
  have hA : Bs w A l c := ⟨h, by omega⟩
  have hL2 : l.length ≤ 1048576 := by omega
  have HT := Lib.hid hT; clear hT hL
  have CD0 := Lib.hid (fun w h => drawRecord_c A l c w h)
  go_enter Tryd.func7, Tryd.ntmps7
  go_wp2_with fail
  refine (big_c _ _ _ _ h).mono ?_; rintro _ w1 ⟨rfl, he1⟩; rw [HD.out]
  go_wp2_with fail
  refine (drawEnc_c _ _ _ _ (hA.ext he1)).mono ?_; rintro _ w2 ⟨k, nm, ver, d, v2, hnm, hdl, rfl, ho2, he2⟩
  obtain ⟨A2, c2, rfl, r2⟩ := OwnL.rd ho2 (by omega)
  unfold vrec
  have x2 := Ext_alloc (.cells #[.int .i64 k, .string nm, .int .i64 ver, .slice A2 d.length c2] 49) (Ext.refl w2)
  have B2 := fun w' (e : Ext (w2.alloc (.cells #[.int .i64 k, .string nm, .int .i64 ver, .slice A2 d.length c2] 49)) w') => boxed e
  have e2 := (he1.trans he2).trans x2
  replace r2 := r2.ext x2
  clear he1 he2 ho2 x2 CD0
  have CE := Lib.hid (fun w h => iEncodeRecord_c k nm ver A2 d c2 w h (by omega))
  have CV := Lib.hid (fun w => sIsValidRecord_c k nm ver A2 d c2 w (by omega) (by omega))
  have CW := Lib.hid (fun w => iIsValidRecord_c k nm ver A2 d c2 w (by omega) (by omega))
  have CR := Lib.hid (fun w h => iRecordSize_c k nm ver A2 d c2 w h (by omega))
  have hEl := encRec_le k nm ver d
  have FN : Hid (validRec k nm ver d.length = false → encRec k nm ver d = []) := fun h => encRec_no h
  have FY : Hid (validRec k nm ver d.length = true → (dec ([1, 2] ++ (encRec k nm ver d ++ [7])) 2 = some ⟨k, nm, ver, d⟩ ∧ decEnd ([1, 2] ++ (encRec k nm ver d ++ [7])) 2 = ((encRec k nm ver d).length : Int) + 2) ∧ dec ((encRec k nm ver d).take ((encRec k nm ver d).length - 1)) 0 = none ∧ (encRec k nm ver d).length = nm.size + 6 + (pack d).length ∧ 0 ≤ ver ∧ ver ≤ 7) := fun h =>
    ⟨rec_back h, rec_cut h, encRec_length h, (validRec_facts h).2.2.1, (validRec_facts h).2.2.2.1⟩
  generalize encRec k nm ver d = E at *
  generalize validRec k nm ver d.length = ok at *
  unfold vrec at *
  go_wp2_with fail
  refine (CE.out _ r2).mono ?_; rintro _ w3 ⟨v3, rfl, ho3, s3⟩
  obtain ⟨A3, c3, rfl, r3⟩ := OwnL.rd ho3 (by omega)
  replace B2 := fun w' (e : Ext _ w') => B2 w' (Ext.trans s3 e); replace r2 := r2.ext s3; replace e2 := e2.trans s3
  clear ho3 s3
  go_wp2_with fail
  refine (CV.out _).mono ?_; rintro _ w4 ⟨rfl, s4⟩
  replace B2 := fun w' (e : Ext _ w') => B2 w' (Ext.trans s4 e); replace r2 := r2.ext s4; replace r3 := r3.ext s4; replace e2 := e2.trans s4
  clear s4
  cases ok
  · have HE := FN.out rfl
    have hE0 : E.length = 0 := by rw [HE]; rfl
    have z0 : ((E.length : Int) == 0) = true := by simp; exact HE
    clear HE FN FY
    have HE0 := Lib.hid hE0; clear hE0
    go_wp2_with fail
    refine (CW.out _).mono ?_; rintro _ w5 ⟨rfl, s5⟩
    replace B2 := fun w' (e : Ext _ w') => B2 w' (Ext.trans s5 e); replace r2 := r2.ext s5; replace e2 := e2.trans s5
    clear s5
    go_wp2_with fail
    refine (CR.out _ r2).mono ?_; rintro _ w6 ⟨rfl, s6⟩
    go_wp2
    go_ret
    exact ⟨rfl, e2.trans s6⟩
  obtain ⟨⟨f1, f2⟩, f3, f4, f5, f6⟩ := FY.out rfl
  clear FN FY CV CW CE
  have hE1 : 0 < E.length := by omega
  have F4 := Lib.hid f4; clear f4
  obtain ⟨b, hb⟩ : ∃ b, b = [1, 2] ++ (E ++ [7]) := ⟨_, rfl⟩
  have HBB := Lib.hid hb
  rw [← hb] at f1 f2
  have hbl : b.length ≤ 1000 := by rw [hb]; simp; omega
  have CD : Hid (∀ A' c' w', Bs w' A' b c' → Calls Tryd.prog 37 #[.slice A' b.length c', .int .i64 2] w' fun e w'' => ∃ v, e = .returned (.tuple #[.agg #[.int .i64 k, .string nm, .int .i64 ver, v], .int .i64 ((E.length : Int) + 2), .bool true]) ∧ OwnL vu8 5 w' w'' v d ∧ Ext w' w'') := fun A' c' w' hh => by
    have := iDecodeRecord_c A' b c' 2 w' hh (by decide)
    rw [f1, f2] at this
    exact this
  have HCT : Hid (dec (E.take (E.length - 1)) 0 = none) := f3
  clear f1 f2 f3 hb
  obtain ⟨W1, hW1⟩ : ∃ W1, W1 = w4.alloc (.cells #[.int .u8 1, .int .u8 2] 5) := ⟨_, rfl⟩
  have hs1 : W1.heap.size = w4.heap.size + 1 := by rw [hW1]; simp
  have x1 : Ext w4 W1 := by rw [hW1]; exact Ext_alloc _ (Ext.refl _)
  have HL : Hid (OwnL vu8 5 w4 W1 (.slice (some ⟨w4.heap.size, 0, none⟩) 2 2) [1, 2]) := by rw [hW1]; exact OwnL.lit (Ext.refl w4) [1, 2] _ rfl 2 rfl (by omega)
  have OE := OwnL.empty (f := vu8) (e := 5) (Ext.refl W1)
  rw [hs1] at OE
  have HOE := Lib.hid OE; have HW1 := Lib.hid hW1
  have y1 := Ext_alloc (.cells #[] 5) (Ext.refl W1)
  clear OE hW1 hs1
  go_wp2_with (first
    | (at_builtin; rw [← HW1.out]; refine wpList_appL rfl (.tmp 40) (.tmp 41) _ rfl E_u8 (by omega) W1 _ vu8 (fun _ => rfl) _ rfl _ _ _ rfl [] E HOE.out y1 rfl (r3.src (x1.trans y1)) (by simp; omega) ?_; intro v5 w5 ho5 he5 _ _; rw [List.nil_append] at ho5)
    | (at_builtin; refine wpList_appN rfl (.tmp 42) (.tmp 43) _ rfl E_u8 (by omega) W1 _ vu8 (fun _ => rfl) _ rfl _ _ rfl E [7] _ rfl ho5 he5 rfl (by simp; omega) ?_; intro v6 w6 ho6 he6; obtain ⟨A6, c6, hv6, r6⟩ := OwnL.rd ho6 (by simp; omega); subst hv6)
    | (at_builtin; refine wpList_appL rfl (.tmp 39) (.tmp 44) _ rfl E_u8 (by omega) w4 _ vu8 (fun _ => rfl) _ rfl _ _ _ rfl [1, 2] (E ++ [7]) (HL.out.ext he6) (x1.trans he6) rfl (r6.src (Ext.refl _)) (by simp; omega) ?_; intro v7 w7 ho7 he7 _ _; rw [← HBB.out] at ho7; obtain ⟨A7, c7, hv7, r7⟩ := OwnL.rd ho7 (by omega); subst hv7))
  refine (CD.out _ _ _ r7).mono ?_; rintro _ w8 ⟨v8, rfl, ho8, s8⟩
  obtain ⟨A8, c8, rfl, r8⟩ := OwnL.rd ho8 (by omega)
  have e8 := he7.trans s8
  replace B2 := fun w' (e : Ext w8 w') => B2 w' (e8.trans e); replace r2 := r2.ext e8; replace r3 := r3.ext e8; replace e2 := e2.trans e8
  clear HL HOE he5 he6 he7 r6 r7 ho5 ho6 ho7 ho8 s8 e8 x1 y1 HW1 CD HBB hbl
  have x8 := Ext_alloc (.cells #[.int .i64 k, .string nm, .int .i64 ver, .slice A8 d.length c8] 49) (Ext.refl w8)
  have B8 := fun w' (e : Ext (w8.alloc (.cells #[.int .i64 k, .string nm, .int .i64 ver, .slice A8 d.length c8] 49)) w') => boxed e
  replace B2 := fun w' (e : Ext _ w') => B2 w' (x8.trans e); replace r2 := r2.ext x8; replace r3 := r3.ext x8; replace e2 := e2.trans x8; replace r8 := r8.ext x8
  clear x8
  have CEQ := Lib.hid (fun w h h' => iEqualRecords_c k nm ver A8 d c8 k nm ver A2 d c2 w h h')
  have HE3 : Hid ((k == k && nm.toList == nm.toList && ver == ver && d == d) = true) := by simp [Hid]
  rw [HE3.out] at CEQ
  have CF1 := Lib.hid (fun w => sFmtRec_c k nm ver A2 d c2 w (by omega) (by omega) (by omega))
  have CF2 := Lib.hid (fun w hT => iFmtRec_c k nm ver A2 d c2 w hT (by omega) (by omega) (by omega))
  generalize fmtRec k nm ver d.length = tx at *
  unfold vrec at *
  have hw2 : IntKind.i64.wrap ((E.length : Int) + 2) = (E.length : Int) + 2 := IntWalk.i64_in _ (by omega)
  have HTt := Lib.hid (HT.out.ext e2)
  have k0 := fun w' e => B8 w' e 0; have k1 := fun w' e => B8 w' e 1; have k2 := fun w' e => B8 w' e 2; have k3 := fun w' e => B8 w' e 3
  have q0 := fun w' e => B2 w' e 0; have q1 := fun w' e => B2 w' e 1; have q2 := fun w' e => B2 w' e 2; have q3 := fun w' e => B2 w' e 3
  clear HE3 HT B8 B2
  go_wp2_with fail
  refine wp_region_quiet_below (by kernel_rfl) (by kernel_rfl) ?_
  repeat (go_big_quiet_step (first | (go_at_call 38; exact Calls.regrown_of (CEQ.out _ (r8.ext (by first | assumption | exact Ext_regrown _ _ (Ext.refl _))) (r2.ext (by first | assumption | exact Ext_regrown _ _ (Ext.refl _))))) | (go_at_call 36; exact Calls.regrown_of (CR.out _ (r2.ext (by first | assumption | exact Ext_regrown _ _ (Ext.refl _))))) | (go_at_call 22; exact Calls.regrown_of (CF1.out _)) | (go_at_call 24; exact Calls.regrown_of (CF2.out _ (HTt.out.ext (by first | assumption | exact Ext_regrown _ _ (Ext.refl _)))))))
  refine wpQuiet_nil ?_
  rintro w9 ⟨⟨nq, osq⟩, hq⟩
  have ew9 := ext_of_q hq
  clear hq nq osq
  have e3 : Ext w w9 := e2.trans ew9
  replace r3 := r3.ext ew9
  have R39 := Lib.hid r3
  have OE := OwnL.empty (f := vu8) (e := 5) (Ext.refl w9)
  have HOE := Lib.hid OE
  have y9 := Ext_alloc (.cells #[] 5) (Ext.refl w9)
  clear OE k0 k1 k2 k3 q0 q1 q2 q3 r2 r8 CEQ CF1 CF2 CR e2 ew9
  obtain ⟨a0, ha0⟩ : ∃ a : Nat, atV l 0 = a := ⟨(atV l 0).toNat, by have := atV_nn l 0; omega⟩
  obtain ⟨a1, ha1⟩ : ∃ a : Nat, atV l 1 = a := ⟨(atV l 1).toNat, by have := atV_nn l 1; omega⟩
  have CA0 : Hid (∀ w', Bs w' A l c → Gives Tryd.prog 39 #[.slice A l.length c, .int .i64 0] w' (.int .i64 (a0 : Int))) := fun w' h => by have := at_c A l c 0 w' h (by omega) hL2; rw [ha0] at this; exact this
  have CA1 : Hid (∀ w', Bs w' A l c → Gives Tryd.prog 39 #[.slice A l.length c, .int .i64 1] w' (.int .i64 (a1 : Int))) := fun w' h => by have := at_c A l c 1 w' h (by omega) hL2; rw [ha1] at this; exact this
  clear ha0 ha1
  go_wp2_with (at_builtin; refine wpList_appL rfl (.tmp 79) (.tmp 80) _ rfl E_u8 (by omega) w9 _ vu8 (fun _ => rfl) _ rfl _ _ _ rfl [] E HOE.out y9 rfl (r3.src y9) (by simp; omega) ?_; intro v10 w10 ho10 he10 _ _; rw [List.nil_append] at ho10; obtain ⟨g, cap, hv10, _, _⟩ := World.ownsRow.form ho10 hE1; subst hv10)
  replace r3 := r3.ext he10
  clear HOE y9
  refine (CA0.out _ (hA.ext (e3.trans he10))).mono ?_; rintro _ w11 ⟨rfl, s11⟩
  replace r3 := r3.ext s11
  have HO11 := Lib.hid (OwnL.ext ho10 s11)
  have e11 := he10.trans s11
  clear ho10 he10 s11 CA0
  go_wp2_with fail
  rw [show (a0 : Int) % (E.length : Int) = ((a0 % E.length : Nat) : Int) by simp]
  obtain ⟨k1, hk1⟩ : ∃ k1, a0 % E.length = k1 := ⟨_, rfl⟩
  have hkl : k1 < E.length := by rw [← hk1]; exact Nat.mod_lt _ hE1
  rw [hk1]
  clear hk1
  obtain ⟨x, hx⟩ : ∃ x : Nat, (E[k1]'hkl).toNat = x := ⟨_, rfl⟩
  have KC : Hid (∀ w', Ext w11 w' → w'.cell? ⟨g, k1, none⟩ = some (.int .u8 (x : Int))) := fun w' e => by
    have h1 := (Own.ext HO11.out e).cellAt k1 (by simp; omega)
    rw [h1, List.getElem?_map, List.getElem?_eq_getElem hkl]
    show some (vu8 _) = _
    rw [vu8, hx]
  have KF : Hid (∀ w', Ext w11 w' → w'.frozen? ⟨g, k1, none⟩ = false) := fun w' e => (Own.ext HO11.out e).frozenAt k1
  have hxl : x < 256 := by rw [← hx]; exact (E[k1]'hkl).toNat_lt
  clear hx
  have hd := Ext_drew (Ext.refl w11)
  have kc1 := KC.out _ (Ext.refl w11)
  have kc2 := KC.out _ hd
  have kf1 := KF.out _ (Ext.refl w11)
  have kf2 := KF.out _ hd
  have eA := e3.trans (e11.trans hd)
  have hki : (k1 : Int) < (E.length : Int) := by omega
  go_region_law (first
    | (go_simp; go_at_call 39; refine (CA1.out _ (hA.ext eA)).mono ?_; rintro _ w13 ⟨rfl, s13⟩; have kc3 := KC.out _ (hd.trans s13); have kf3 := KF.out _ (hd.trans s13)))
  all_goals
    obtain ⟨y, hy⟩ : ∃ y : UInt8, (.int .u8 (IntKind.u8.wrap (IntKind.u8.wrap ((x : Int) + 1) + IntKind.u8.wrap ((a1 : Int).tmod 255))) : Value) = vu8 y := ⟨_, wrap8 _⟩
    rw [hy]
    clear hy
    obtain ⟨ho', he'⟩ := Own.store (w0 := w9) (Own.ext HO11.out (hd.trans s13)) ((e11.trans hd).trans s13) k1 (vu8 y)
    obtain ⟨bb, hbb⟩ : ∃ bb, bb = E.set k1 y := ⟨_, rfl⟩
    have hbl : bb.length = E.length := by rw [hbb]; simp
    have HOb : Hid (OwnL vu8 5 w9 (w13.setCell ⟨g, k1, none⟩ (vu8 y)) (.slice (some ⟨g, 0, none⟩) E.length cap) bb) := by
      show OwnL _ _ _ _ _ _
      unfold OwnL
      rw [hbl, hbb, List.map_set]
      exact ho'
    have hgb := (World.ownsRow.lt HO11.out g rfl).1
    have HR3 : Hid (Bs (w13.setCell ⟨g, k1, none⟩ (vu8 y)) A3 E c3) := R39.out.ext he'
    obtain ⟨W, hW⟩ : ∃ W, W = w13.setCell ⟨g, k1, none⟩ (vu8 y) := ⟨_, rfl⟩
    rw [← hW] at HOb HR3 he' ⊢
    clear hW ho' kc1 kc2 kc3 kf1 kf2 kf3 R39 KC KF HO11 CA1 hd eA hbb hgb r3 s13
    obtain ⟨A9, c9, hv9, rb⟩ := OwnL.rd HOb.out (by omega)
    rw [hbl] at hv9
    injection hv9 with hv1 _ hv3
    subst hv1; subst hv3
    have CDB : Hid (∀ w', Bs w' (some ⟨g, 0, none⟩) bb cap → Calls Tryd.prog 37 #[.slice (some ⟨g, 0, none⟩) E.length cap, .int .i64 0] w' (DecOut (dec bb 0) (decEnd bb 0) w')) := fun w' h => by
      have := iDecodeRecord_c _ bb cap 0 w' h (by decide)
      rwa [hbl] at this
    have CDD : Hid (∀ w', Bs w' (some ⟨g, 0, none⟩) bb cap → Gives Tryd.prog 40 #[.slice (some ⟨g, 0, none⟩) E.length cap] w' (.bool (dec bb 0).isSome)) := fun w' h => by
      have := decodes_c _ bb cap w' h
      rwa [hbl] at this
    have CDC : Hid (∀ w', Bs w' A3 E c3 → Calls Tryd.prog 37 #[.slice A3 (E.length - 1) c3, .int .i64 0] w' (DecOut none (decEnd (E.take (E.length - 1)) 0) w')) := fun w' h => by
      have := iDecodeRecord_c A3 (E.take (E.length - 1)) c3 0 w' (h.take (E.length - 1)) (by decide)
      rw [HCT.out, List.length_take, Nat.min_eq_left (by omega)] at this
      exact this
    unfold DecOut vrec at CDB CDC
    generalize ((dec bb 0).getD .zero) = xb at *
    generalize (dec bb 0).isSome = z at *
    generalize decEnd bb 0 = jb at *
    generalize decEnd (E.take (E.length - 1)) 0 = jc at *
    have rb := Lib.hid rb
    go_wp2_with fail
    refine (CDB.out _ rb.out).mono ?_; rintro _ w14 ⟨v14, rfl, ho14, s14⟩
    obtain ⟨A14, n14, c14, hv14⟩ : ∃ A1 n1 c1, v14 = .slice A1 n1 c1 := by
      rcases ho14.2 with ⟨h0, _⟩ | ⟨g, cap, cur, h0, _⟩
      · exact ⟨_, _, _, h0⟩
      · exact ⟨_, _, _, h0⟩
    subst hv14
    have hc3 := HR3.out.cap
    have hm0 : (0 : Int) ≤ (E.length : Int) - 1 := by omega
    have hm1 : (E.length : Int) - 1 ≤ (c3 : Int) := by omega
    have hm2 : ((E.length : Int) - 1).toNat = E.length - 1 := by omega
    clear ho14 CDB
    go_wp2_with fail
    have x14 := Ext_alloc (.cells #[.int .i64 xb.k, .string xb.nm, .int .i64 xb.ver, .slice A14 n14 c14] 49) (Ext.refl w14)
    have e14 := s14.trans x14
    refine (CDC.out _ (HR3.out.ext e14)).mono ?_; rintro _ w15 ⟨v15, rfl, ho15, s15⟩
    obtain ⟨A15, n15, c15, hv15⟩ : ∃ A1 n1 c1, v15 = .slice A1 n1 c1 := by
      rcases ho15.2 with ⟨h0, _⟩ | ⟨g, cap, cur, h0, _⟩
      · exact ⟨_, _, _, h0⟩
      · exact ⟨_, _, _, h0⟩
    subst hv15
    have e15 := e14.trans s15
    clear ho15 CDC hm0 hm1 hm2 x14 s14 e14 s15
    go_wp2_with fail
    refine (CDD.out _ (rb.out.ext (Ext_alloc _ e15))).mono ?_; rintro _ w16 ⟨rfl, s16⟩
    have e16 := (e3.trans he').trans ((Ext_alloc _ e15).trans s16)
    cases z
    all_goals
      go_wp2
      go_ret
      exact ⟨rfl, e16⟩
end Go.Proofs.YtdbbdoldndnbhaaDoor

/- The tables that the rows of this seat list, as a call finds them. -/
namespace Go.Proofs.YtdbbdoldndnbhaaDoor
open Go.RowKit

noncomputable def laidWorld (os : Os) : World :=
  { World.holding Tryd.prog os ⟨#[], #[], []⟩ with heap := ((((World.holding Tryd.prog os ⟨#[], #[], []⟩).heap.modify 2 fun
      | .cells _ t frozen => .cells #[.int .u8 0, .int .u8 1, .int .u8 28, .int .u8 2, .int .u8 29, .int .u8 14, .int .u8 24, .int .u8 3, .int .u8 30, .int .u8 22, .int .u8 20, .int .u8 15, .int .u8 25, .int .u8 17, .int .u8 4, .int .u8 8, .int .u8 31, .int .u8 27, .int .u8 13, .int .u8 23, .int .u8 21, .int .u8 19, .int .u8 16, .int .u8 7, .int .u8 26, .int .u8 12, .int .u8 18, .int .u8 6, .int .u8 11, .int .u8 5, .int .u8 10, .int .u8 9] t frozen
      | o => o).modify 3 fun
      | .cells _ t frozen => .cells #[.int .u8 0, .int .u8 1, .int .u8 56, .int .u8 2, .int .u8 57, .int .u8 49, .int .u8 28, .int .u8 3, .int .u8 61, .int .u8 58, .int .u8 42, .int .u8 50, .int .u8 38, .int .u8 29, .int .u8 17, .int .u8 4, .int .u8 62, .int .u8 47, .int .u8 59, .int .u8 36, .int .u8 45, .int .u8 43, .int .u8 51, .int .u8 22, .int .u8 53, .int .u8 39, .int .u8 33, .int .u8 30, .int .u8 24, .int .u8 18, .int .u8 12, .int .u8 5, .int .u8 63, .int .u8 55, .int .u8 48, .int .u8 27, .int .u8 60, .int .u8 41, .int .u8 37, .int .u8 16, .int .u8 46, .int .u8 35, .int .u8 44, .int .u8 21, .int .u8 52, .int .u8 32, .int .u8 23, .int .u8 11, .int .u8 54, .int .u8 26, .int .u8 40, .int .u8 15, .int .u8 34, .int .u8 20, .int .u8 31, .int .u8 10, .int .u8 25, .int .u8 14, .int .u8 19, .int .u8 9, .int .u8 13, .int .u8 8, .int .u8 7, .int .u8 6] t frozen
      | o => o).modify 0 fun
      | .cells _ t frozen => .cells #[.int .u64 1, .int .u64 10, .int .u64 100, .int .u64 1000, .int .u64 10000, .int .u64 100000, .int .u64 1000000, .int .u64 10000000, .int .u64 100000000, .int .u64 1000000000, .int .u64 10000000000, .int .u64 100000000000, .int .u64 1000000000000, .int .u64 10000000000000, .int .u64 100000000000000, .int .u64 1000000000000000, .int .u64 10000000000000000, .int .u64 100000000000000000, .int .u64 1000000000000000000, .int .u64 10000000000000000000] t frozen
      | o => o) }
def doorList : List (String × DataW Unit) := [("math/bits.deBruijn32tab", Rows.laid_math_bits_deBruijn32tab), ("math/bits.deBruijn64tab", Rows.laid_math_bits_deBruijn64tab), ("internal/strconv.uint64pow10", Rows.laid_internal_strconv_uint64pow10)]
theorem gTab : Tryd.prog.globalNamed "internal/strconv.uint64pow10" = some 0 := by kernel_rfl
theorem gTabType : (Tryd.prog.globals[0]?).map (·.type) = some 142 := by kernel_rfl
theorem cellsTab : Tryd.prog.cellsOf 142 = 20 := by kernel_rfl
theorem cellsU64 : Tryd.prog.cellsOf 133 = 1 := by kernel_rfl
theorem tab_of_laid {W : World} (h : laidMetH Tryd.prog doorList W) : Tab W := by
  have h0 : laidMet Tryd.prog doorList W := h
  have h1 : laidMet Tryd.prog [("internal/strconv.uint64pow10", Lib.tabData .u64 Lib.pow10Tab)] W := h0.tail.tail
  exact Lib.tabIs_of_head (rest := []) gTab gTabType Tryd.underlying142 Tryd.underlying133 cellsU64 cellsTab h1
end Go.Proofs.YtdbbdoldndnbhaaDoor
