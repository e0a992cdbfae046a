/- The drawn records. -/
import Derived.Test.YtcaeeoghkonniaaBent
import Derived.Test.YtcaeeoghkonniaaRecord
import Derived.Test.YtcaeeoghkonniaaLawDec
namespace Go.Proofs.Ytcaeeoghkonniaa
open Go.RowKit Go.Sort

set_option maxRecDepth 100000 in
set_option maxHeartbeats 1000000 in
theorem l1Str_c (B : Option Addr) (ns : List ByteArray) (cb : Nat) (hns : 0 < ns.length) (hns2 : ns.length ≤ 256) (wb w : World) (p : Nat) (A : Option Addr) (l : List UInt8) (c : Nat) (hA : Bs wb A l c) (hC : Cur wb w p A l c)
    (hk : ∀ w', w.grownBy w' (some p) → ∀ i (h : i < ns.length), ∃ b off, B = some ⟨b, off, none⟩ ∧ w'.cell? ⟨b, off + i, none⟩ = some (.string ns[i])) :
    Calls Try.prog 50 #[.pointer (some ⟨p, 0, none⟩), .slice B ns.length cb] w fun e w' => ∃ x ∈ ns, e = .returned (.string x) ∧ Cur wb w' p A l c ∧ w.grownBy w' (some p) := by
  have CB := Lib.hid (fun w h => l1Below_c ns.length wb w p A l c hA h (by omega))
  go_enter Try.func50, Try.ntmps50
  go_wp2_with fail
  refine (CB.out _ hC).mono ?_; rintro _ w1 ⟨x, hx, rfl, hC1, hg1⟩
  have hx' : x < ns.length := by unfold below at hx; rw [if_neg (by omega)] at hx; omega
  obtain ⟨b, off, rfl, hc⟩ := hk w1 hg1 x hx'
  go_wp2
  go_ret
  exact ⟨_, List.getElem_mem hx', rfl, hC1, hg1⟩
set_option maxHeartbeats 1000000 in
theorem l1StrLit_c (ns : List ByteArray) (hns : 0 < ns.length) (hns2 : ns.length ≤ 256) (n : Nat) (hn : n = ns.length) (cs : Array Value) (hcs : cs = (ns.map vstr).toArray) (wb w : World) (p : Nat) (A : Option Addr) (l : List UInt8) (c : Nat) (hA : Bs wb A l c) (hC : Cur wb w p A l c) :
    Calls Try.prog 50 #[.pointer (some ⟨p, 0, none⟩), .slice (some ⟨w.heap.size, 0, none⟩) n n] (w.alloc (.cells cs 9)) fun e w' => ∃ x ∈ ns, e = .returned (.string x) ∧ Cur wb w' p A l c ∧ w.grownBy w' (some p) := by
  subst hn; subst hcs
  have hC' := hC.ext (Ext_alloc (.cells (ns.map vstr).toArray 9) (Ext.refl w))
  have hlt := hC.lt
  refine (l1Str_c (some ⟨w.heap.size, 0, none⟩) ns ns.length hns hns2 wb _ p A l c hA hC' ?_).mono ?_
  · intro w' hg i hi
    refine ⟨w.heap.size, 0, rfl, ?_⟩
    have h0 := boxed (Ext.refl (w.alloc (.cells (ns.map vstr).toArray 9))) (0 + i)
    refine hg.cell (a := ⟨w.heap.size, 0 + i, none⟩) (h0.trans ?_) (by intro hh; injection hh with hh; simp at hh; omega)
    rw [Nat.zero_add]
    simp [vstr, hi]
  · rintro e w' ⟨x, hx, he, hC1, hg⟩
    exact ⟨x, hx, he, hC1, (World.grownBy_alloc w _ _).trans hg⟩
theorem Box.four {w : World} {g : Nat} {a b c d : Value} {T : TypeId} (h : Box w g #[a, b, c, d] T) :
    (∀ w', Ext w w' → w'.cell? ⟨g, 0, none⟩ = some a) ∧ (∀ w', Ext w w' → w'.cell? ⟨g, 1, none⟩ = some b) ∧ (∀ w', Ext w w' → w'.cell? ⟨g, 2, none⟩ = some c) ∧ (∀ w', Ext w w' → w'.cell? ⟨g, 3, none⟩ = some d) ∧
    (∀ w', Ext w w' → w'.frozen? ⟨g, 0, none⟩ = false) ∧ (∀ w', Ext w w' → w'.frozen? ⟨g, 1, none⟩ = false) ∧ (∀ w', Ext w w' → w'.frozen? ⟨g, 2, none⟩ = false) ∧ (∀ w', Ext w w' → w'.frozen? ⟨g, 3, none⟩ = false) :=
  ⟨fun _ e => (h.ext e).cell 0, fun _ e => (h.ext e).cell 1, fun _ e => (h.ext e).cell 2, fun _ e => (h.ext e).cell 3, fun _ e => (h.ext e).free 0, fun _ e => (h.ext e).free 1, fun _ e => (h.ext e).free 2, fun _ e => (h.ext e).free 3⟩
theorem Box.stored4 {w : World} {g : Nat} {a b c d : Value} {T : TypeId} (h : Box w g #[a, b, c, d] T) (x0 x1 x2 x3 : Value) :
    Box ((((w.setCell ⟨g, 0, none⟩ x0).setCell ⟨g, 1, none⟩ x1).setCell ⟨g, 2, none⟩ x2).setCell ⟨g, 3, none⟩ x3) g #[x0, x1, x2, x3] T := by
  have := (((h.set 0 x0).set 1 x1).set 2 x2).set 3 x3
  simpa using this
theorem Cur.set4 {wb w : World} {p : Nat} {A : Option Addr} {l : List UInt8} {c : Nat} (h : Cur wb w p A l c) {g : Nat} (hne : g ≠ p) (hb : wb.heap.size ≤ g) (x0 x1 x2 x3 : Value) :
    Cur wb ((((w.setCell ⟨g, 0, none⟩ x0).setCell ⟨g, 1, none⟩ x1).setCell ⟨g, 2, none⟩ x2).setCell ⟨g, 3, none⟩ x3) p A l c :=
  (((h.set (a := ⟨g, 0, none⟩) hne hb x0).set (a := ⟨g, 1, none⟩) hne hb x1).set (a := ⟨g, 2, none⟩) hne hb x2).set (a := ⟨g, 3, none⟩) hne hb x3
theorem grown_new4 {w w1 : World} {p : Nat} (h : w.grownBy w1 (some p)) {g : Nat} (hb : w.heap.size ≤ g) (x0 x1 x2 x3 : Value) :
    w.grownBy ((((w1.setCell ⟨g, 0, none⟩ x0).setCell ⟨g, 1, none⟩ x1).setCell ⟨g, 2, none⟩ x2).setCell ⟨g, 3, none⟩ x3) (some p) :=
  grown_new (grown_new (grown_new (grown_new h (a := ⟨g, 0, none⟩) hb x0) (a := ⟨g, 1, none⟩) hb x1) (a := ⟨g, 2, none⟩) hb x2) (a := ⟨g, 3, none⟩) hb x3
theorem OwnL.set4 {α : Type} {f : α → Value} {e : TypeId} {w0 w : World} {v : Value} {l : List α} (h : OwnL f e w0 w v l) {g : Nat} (hne : v.ownBlock ≠ some g) (x0 x1 x2 x3 : Value) :
    OwnL f e w0 ((((w.setCell ⟨g, 0, none⟩ x0).setCell ⟨g, 1, none⟩ x1).setCell ⟨g, 2, none⟩ x2).setCell ⟨g, 3, none⟩ x3) v l :=
  (((h.set ⟨g, 0, none⟩ x0 hne).set ⟨g, 1, none⟩ x1 hne).set ⟨g, 2, none⟩ x2 hne).set ⟨g, 3, none⟩ x3 hne
theorem some_ne {a b : Nat} (h : a ≠ b) : (some a : Option Nat) ≠ some b := fun e => h (Option.some.inj e)
set_option maxRecDepth 100000 in
set_option maxHeartbeats 4000000 in
theorem l33Record_c (wb w : World) (p : Nat) (A : Option Addr) (l : List UInt8) (c : Nat) (hA : Bs wb A l c) (hC : Cur wb w p A l c) :
    Calls Try.prog 49 #[.pointer (some ⟨p, 0, none⟩)] w fun e w' => ∃ k nm ver d v, nm.size ≤ 100 ∧ d.length ≤ 790 ∧ e = .returned (vrec k nm ver v) ∧ OwnL vu8 5 wb w' v d ∧ (∀ g, v.ownBlock = some g → w.heap.size ≤ g) ∧ Cur wb w' p A l c ∧ w.grownBy w' (some p) := by
  have CBe := Lib.hid (fun n w h hn => l1Below_c n wb w p A l c hA h hn)
  have COn := Lib.hid (fun n w h hn => l1Once_c n wb w p A l c hA h hn)
  have CSt := Lib.hid (fun w' h => l1StrLit_c [⟨#[97]⟩, ⟨#[98]⟩, ⟨#[102, 105, 108, 101, 49]⟩, ⟨#[120, 50]⟩] (by simp) (by simp) 4 rfl #[.string ⟨#[97]⟩, .string ⟨#[98]⟩, .string ⟨#[102, 105, 108, 101, 49]⟩, .string ⟨#[120, 50]⟩] rfl wb w' p A l c hA h)
  have hplt := hC.lt
  have hbp := hC.1
  have HR := Lib.hid (Box.new w #[.int .i64 0, .string ⟨#[]⟩, .int .i64 0, .slice none 0 0] 36)
  have hC0 := hC.ext (Ext_alloc (.cells #[.int .i64 0, .string ⟨#[]⟩, .int .i64 0, .slice none 0 0] 36) (Ext.refl w))
  have hRp : (some p : Option Nat) ≠ some w.heap.size := by intro hh; injection hh with hh; omega
  have C32 := Lib.hid (fun w h => l32Bytes_c wb w p A l c hA h)
  have hbw := hC.2.1.size
  have G0 := World.grownBy_alloc w (.cells #[.int .i64 0, .string ⟨#[]⟩, .int .i64 0, .slice none 0 0] 36) (some p)
  have hwR : w.heap.size ≠ p := by omega
  go_enter Try.func49, Try.ntmps49
  go_wp2_with fail
  refine (CBe.out 2 _ hC0 (by omega)).mono ?_; rintro _ w1 ⟨x, hx, rfl, hC1, hg1⟩
  have hx2 : x < 2 := by unfold below at hx; rw [if_neg (by omega)] at hx; omega
  have HR1 := Lib.hid (HR.out.moved hg1 hRp)
  have G1 := G0.trans hg1
  clear HR hC0 hg1 hx G0
  go_wp2_with fail
  refine (CSt.out _ hC1).mono ?_; rintro _ w2 ⟨nm, hnm, rfl, hC2, hg2⟩
  have hnm2 : nm.size ≤ 100 := by simp at hnm; rcases hnm with rfl | rfl | rfl | rfl <;> decide
  have HR2 := Lib.hid (HR1.out.moved hg2 hRp)
  have G2 := Lib.hid (G1.trans hg2)
  have hs2 : w.heap.size < w2.heap.size := HR2.out.lt
  clear HR1 hg2 hC1 hnm CSt G1
  by_cases h1 : x = 0
  · subst h1
    have HG2 := Lib.hid (Box.new w2 #[.int .i64 1, .string nm, .int .i64 0, .slice none 0 0] 36)
    have hgp : w2.heap.size ≠ p := by omega
    have e2 := Ext_alloc (.cells #[.int .i64 1, .string nm, .int .i64 0, .slice none 0 0] 36) (Ext.refl w2)
    go_wp2_with fail
    refine (CBe.out 3 _ (hC2.ext e2) (by omega)).mono ?_; rintro _ w3 ⟨ver, hx, rfl, hC3, hg3⟩
    have HR3 := Lib.hid ((HR2.out.ext e2).moved hg3 hRp)
    have HG3 := Lib.hid (HG2.out.moved hg3 (some_ne hgp.symm))
    have G3 := Lib.hid ((G2.out.trans (grown_ext e2 _)).trans hg3)
    generalize hgn : w2.heap.size = g at *
    clear HR2 HG2 G2 hg3 hC2 hx e2
    obtain ⟨c0, c1, c2, c3, f0, f1, f2, f3⟩ := HG3.out.four
    have HG4 := Lib.hid (HG3.out.set 2 (.int .i64 ver))
    have hC4 := hC3.set (a := ⟨g, 2, none⟩) hgp (by show _ ≤ g; omega) (.int .i64 ver)
    have HR4 := Lib.hid (HR3.out.other (g' := g) (by omega) 2 (.int .i64 ver))
    have G4 := Lib.hid (grown_new (a := ⟨g, 2, none⟩) G3.out (by show _ ≤ g; omega) (.int .i64 ver))
    clear HR3 HG3 G3
    go_wp2_with fail
    clear c0 c1 c2 c3 f0 f1 f2 f3
    refine (C32.out _ hC4).mono ?_; rintro _ w5 ⟨v, q, hq, rfl, ho5, hn5, hC5, hg5⟩
    have hn5 : ∀ k, v.ownBlock = some k → w.heap.size < k ∧ g < k := fun k hk => by
      have h1 := hn5 k hk
      have h2 := HG4.out.lt
      have h3 := HR4.out.lt
      omega
    have HR5 := Lib.hid (HR4.out.moved hg5 hRp)
    have HG5 := Lib.hid (HG4.out.moved hg5 (some_ne hgp.symm))
    have G5 := Lib.hid (G4.out.trans hg5)
    clear HR4 HG4 G4 hg5 hC4 hC3
    obtain ⟨A5, c5, rfl, r5⟩ := OwnL.rd ho5 (by omega)
    have hcap := r5.cap
    have hgR : g ≠ w.heap.size := by omega
    have hn5 : ∀ k m, (Value.slice A5 m c5).ownBlock = some k → w.heap.size < k ∧ g < k := fun k m hk => hn5 k ((ownBlock_len A5 _ m c5).trans hk)
    have neR : ∀ m, (Value.slice A5 m c5).ownBlock ≠ some w.heap.size := fun m hh => Nat.lt_irrefl _ (hn5 _ m hh).1
    have neG : ∀ m, (Value.slice A5 m c5).ownBlock ≠ some g := fun m hh => Nat.lt_irrefl _ (hn5 _ m hh).2
    have HR6 := Lib.hid (HR5.out.other (g' := g) hgR.symm 3 (.slice A5 q.length c5))
    have HG6 := Lib.hid (HG5.out.set 3 (.slice A5 q.length c5))
    have G6 := Lib.hid (grown_new (a := ⟨g, 3, none⟩) G5.out (by show _ ≤ g; omega) (.slice A5 q.length c5))
    have hC6 := Lib.hid (hC5.set (a := ⟨g, 3, none⟩) hgp (by show _ ≤ g; omega) (.slice A5 q.length c5))
    have ho6 := Lib.hid (ho5.set ⟨g, 3, none⟩ (.slice A5 q.length c5) (neG _))
    obtain ⟨c0, c1, c2, c3, f0, f1, f2, f3⟩ := HG5.out.four
    obtain ⟨d0, d1, d2, d3, h0, h1, h2, h3⟩ := HR5.out.four
    clear HR5 HG5 G5 hC5 ho5
    by_cases hq30 : q.length ≤ 30
    · go_wp2_with fail
      clear c0 c1 c2 c3 f0 f1 f2 f3 d0 d1 d2 d3 h0 h1 h2 h3
      have HB := Lib.hid (Box.stored4 HR6.out (.int .i64 1) (.string nm) (.int .i64 ver) (.slice A5 q.length c5))
      have HC := Lib.hid (Cur.set4 hC6.out hwR (by omega) (.int .i64 1) (.string nm) (.int .i64 ver) (.slice A5 q.length c5))
      have HG := Lib.hid (grown_new4 G6.out (Nat.le_refl _) (.int .i64 1) (.string nm) (.int .i64 ver) (.slice A5 q.length c5))
      have HO := Lib.hid (OwnL.set4 ho6.out (neR _) (.int .i64 1) (.string nm) (.int .i64 ver) (.slice A5 q.length c5))
      generalize ((((World.setCell (w5.setCell ⟨g, 3, none⟩ (.slice A5 q.length c5)) ⟨w.heap.size, 0, none⟩ (.int .i64 1)).setCell ⟨w.heap.size, 1, none⟩ (.string nm)).setCell ⟨w.heap.size, 2, none⟩ (.int .i64 ver)).setCell ⟨w.heap.size, 3, none⟩ (.slice A5 q.length c5)) = W at *
      have z0 := HB.out.cell 0; have z1 := HB.out.cell 1; have z2 := HB.out.cell 2; have z3 := HB.out.cell 3
      refine bodyPost_ret (v := .agg #[.int .i64 1, .string nm, .int .i64 ver, .slice A5 q.length c5]) (by simp at z0 z1 z2 z3; simp [results, Try.results49, go_sem, z0, z1, z2, z3]) rfl ?_
      exact ⟨1, nm, hnm2, (ver : Int), q, hq, _, rfl, HO.out, (fun k hk => Nat.le_of_lt (hn5 k _ hk).1), HC.out, HG.out⟩
    · have hq31 : (30 : Int) < (q.length : Int) := by omega
      go_wp2_with fail
      clear c0 c1 c2 c3 f0 f1 f2 f3 d0 d1 d2 d3 h0 h1 h2 h3
      refine (COn.out 4 _ hC6.out (by omega)).mono ?_; rintro _ w7 ⟨y, rfl, hC7, hg7⟩
      have HR7 := Lib.hid (HR6.out.moved hg7 hRp)
      have HG7 := Lib.hid (HG6.out.moved hg7 (some_ne hgp.symm))
      have G7 := Lib.hid (G6.out.trans hg7)
      have ho7 := Lib.hid (OwnL.moved ho6.out hg7 (fun hh => by have := (hn5 p _ hh).1; omega))
      clear HR6 HG6 G6 hC6 ho6 hg7
      obtain ⟨c0, c1, c2, c3, f0, f1, f2, f3⟩ := HG7.out.four
      obtain ⟨d0, d1, d2, d3, h0, h1, h2, h3⟩ := HR7.out.four
      cases y
      · have hs30 : (30 : Int) ≤ (c5 : Int) := by omega
        go_wp2_with fail
        clear c0 c1 c2 c3 f0 f1 f2 f3 d0 d1 d2 d3 h0 h1 h2 h3
        have HR8 := Lib.hid (HR7.out.other (g' := g) hgR.symm 3 (.slice A5 30 c5))
        have G8 := Lib.hid (grown_new (a := ⟨g, 3, none⟩) G7.out (by show _ ≤ g; omega) (.slice A5 30 c5))
        have hC8 := Lib.hid (hC7.set (a := ⟨g, 3, none⟩) hgp (by show _ ≤ g; omega) (.slice A5 30 c5))
        have ho8 := Lib.hid ((OwnL.take (n := 30) ho7.out (by omega)).set ⟨g, 3, none⟩ (.slice A5 30 c5) (neG _))
        have HB := Lib.hid (Box.stored4 HR8.out (.int .i64 1) (.string nm) (.int .i64 ver) (.slice A5 30 c5))
        have HC := Lib.hid (Cur.set4 hC8.out hwR (by omega) (.int .i64 1) (.string nm) (.int .i64 ver) (.slice A5 30 c5))
        have HG := Lib.hid (grown_new4 G8.out (Nat.le_refl _) (.int .i64 1) (.string nm) (.int .i64 ver) (.slice A5 30 c5))
        have HO := Lib.hid (OwnL.set4 ho8.out (neR _) (.int .i64 1) (.string nm) (.int .i64 ver) (.slice A5 30 c5))
        generalize ((((World.setCell (w7.setCell ⟨g, 3, none⟩ (.slice A5 30 c5)) ⟨w.heap.size, 0, none⟩ (.int .i64 1)).setCell ⟨w.heap.size, 1, none⟩ (.string nm)).setCell ⟨w.heap.size, 2, none⟩ (.int .i64 ver)).setCell ⟨w.heap.size, 3, none⟩ (.slice A5 30 c5)) = W at *
        have z0 := HB.out.cell 0; have z1 := HB.out.cell 1; have z2 := HB.out.cell 2; have z3 := HB.out.cell 3
        refine bodyPost_ret (v := .agg #[.int .i64 1, .string nm, .int .i64 ver, .slice A5 30 c5]) (by simp at z0 z1 z2 z3; simp [results, Try.results49, go_sem, z0, z1, z2, z3]) rfl ?_
        exact ⟨1, nm, (ver : Int), q.take 30, _, hnm2, (by simp; omega), rfl, HO.out, (fun k hk => Nat.le_of_lt (hn5 k _ hk).1), HC.out, HG.out⟩
      · go_wp2_with fail
        clear c0 c1 c2 c3 f0 f1 f2 f3 d0 d1 d2 d3 h0 h1 h2 h3
        have HB := Lib.hid (Box.stored4 HR7.out (.int .i64 1) (.string nm) (.int .i64 ver) (.slice A5 q.length c5))
        have HC := Lib.hid (Cur.set4 hC7 hwR (by omega) (.int .i64 1) (.string nm) (.int .i64 ver) (.slice A5 q.length c5))
        have HG := Lib.hid (grown_new4 G7.out (Nat.le_refl _) (.int .i64 1) (.string nm) (.int .i64 ver) (.slice A5 q.length c5))
        have HO := Lib.hid (OwnL.set4 ho7.out (neR _) (.int .i64 1) (.string nm) (.int .i64 ver) (.slice A5 q.length c5))
        generalize ((((World.setCell (w7) ⟨w.heap.size, 0, none⟩ (.int .i64 1)).setCell ⟨w.heap.size, 1, none⟩ (.string nm)).setCell ⟨w.heap.size, 2, none⟩ (.int .i64 ver)).setCell ⟨w.heap.size, 3, none⟩ (.slice A5 q.length c5)) = W at *
        have z0 := HB.out.cell 0; have z1 := HB.out.cell 1; have z2 := HB.out.cell 2; have z3 := HB.out.cell 3
        refine bodyPost_ret (v := .agg #[.int .i64 1, .string nm, .int .i64 ver, .slice A5 q.length c5]) (by simp at z0 z1 z2 z3; simp [results, Try.results49, go_sem, z0, z1, z2, z3]) rfl ?_
        exact ⟨1, nm, (ver : Int), q, _, hnm2, hq, rfl, HO.out, (fun k hk => Nat.le_of_lt (hn5 k _ hk).1), HC.out, HG.out⟩
  · obtain rfl : x = 1 := by omega
    have e2 := Ext_alloc (.cells #[.int .i64 2, .string nm, .int .i64 0, .slice none 0 0] 36) (Ext.refl w2)
    obtain ⟨c0, c1, c2, c3, f0, f1, f2, f3⟩ := HR2.out.four
    go_wp2_with fail
    clear c0 c1 c2 c3 f0 f1 f2 f3
    have HB := Lib.hid ((HR2.out.stored4 (.int .i64 2) (.string nm) (.int .i64 0) (.slice none 0 0)).ext (Ext_alloc (.cells #[.int .i64 2, .string nm, .int .i64 0, .slice none 0 0] 36) (Ext.refl _)))
    have HC := Lib.hid ((hC2.set4 hwR (by omega) (.int .i64 2) (.string nm) (.int .i64 0) (.slice none 0 0)).ext (Ext_alloc (.cells #[.int .i64 2, .string nm, .int .i64 0, .slice none 0 0] 36) (Ext.refl _)))
    have HG := Lib.hid ((grown_new4 G2.out (Nat.le_refl _) (.int .i64 2) (.string nm) (.int .i64 0) (.slice none 0 0)).trans (grown_ext (Ext_alloc (.cells #[.int .i64 2, .string nm, .int .i64 0, .slice none 0 0] 36) (Ext.refl _)) _))
    generalize (((((w2.setCell ⟨w.heap.size, 0, none⟩ (.int .i64 2)).setCell ⟨w.heap.size, 1, none⟩ (.string nm)).setCell ⟨w.heap.size, 2, none⟩ (.int .i64 0)).setCell ⟨w.heap.size, 3, none⟩ (.slice none 0 0)).alloc (.cells #[.int .i64 2, .string nm, .int .i64 0, .slice none 0 0] 36)) = W at *
    have z0 := HB.out.cell 0; have z1 := HB.out.cell 1; have z2 := HB.out.cell 2; have z3 := HB.out.cell 3
    refine bodyPost_ret (v := .agg #[.int .i64 2, .string nm, .int .i64 0, .slice none 0 0]) (by simp at z0 z1 z2 z3; simp [results, Try.results49, go_sem, z0, z1, z2, z3]) rfl ?_
    exact ⟨2, nm, 0, [], _, hnm2, by simp, rfl, OwnL.nil _ _, (fun g hg => by cases hg), HC.out, HG.out⟩
end Go.Proofs.Ytcaeeoghkonniaa
