/- The drawn logs. -/
import Derived.Test.YtcaeeoghkonniaaDrawRec
import Derived.Test.YtcaeeoghkonniaaStoreLog
import Derived.Test.YtcaeeoghkonniaaAppend
namespace Go.Proofs.Ytcaeeoghkonniaa
open Go.RowKit Go.Sort

theorem Box.two {w : World} {g : Nat} {a b : Value} {T : TypeId} (h : Box w g #[a, b] T) :
    (∀ w', Ext w w' → w'.cell? ⟨g, 0, none⟩ = some a) ∧ (∀ w', Ext w w' → w'.cell? ⟨g, 1, none⟩ = some b) ∧
    (∀ w', Ext w w' → w'.frozen? ⟨g, 0, none⟩ = false) ∧ (∀ w', Ext w w' → w'.frozen? ⟨g, 1, none⟩ = false) :=
  ⟨fun _ e => (h.ext e).cell 0, fun _ e => (h.ext e).cell 1, fun _ e => (h.ext e).free 0, fun _ e => (h.ext e).free 1⟩
theorem Box.stored2 {w : World} {g : Nat} {a b : Value} {T : TypeId} (h : Box w g #[a, b] T) (x0 x1 : Value) : Box ((w.setCell ⟨g, 0, none⟩ x0).setCell ⟨g, 1, none⟩ x1) g #[x0, x1] T := by
  have := (h.set 0 x0).set 1 x1
  simpa using this
theorem Box.other2 {w : World} {g g' : Nat} {cs : Array Value} {T : TypeId} (h : Box w g cs T) (hne : g ≠ g') (x0 x1 : Value) : Box ((w.setCell ⟨g', 0, none⟩ x0).setCell ⟨g', 1, none⟩ x1) g cs T := (h.other hne 0 x0).other hne 1 x1
theorem Cur.set2 {wb w : World} {p : Nat} {A : Option Addr} {l : List UInt8} {c : Nat} (h : Cur wb w p A l c) {g : Nat} (hne : g ≠ p) (hb : wb.heap.size ≤ g) (x0 x1 : Value) : Cur wb ((w.setCell ⟨g, 0, none⟩ x0).setCell ⟨g, 1, none⟩ x1) p A l c :=
  (h.set (a := ⟨g, 0, none⟩) hne hb x0).set (a := ⟨g, 1, none⟩) hne hb x1
theorem grown_new2 {w w1 : World} {p : Nat} (h : w.grownBy w1 (some p)) {g : Nat} (hb : w.heap.size ≤ g) (x0 x1 : Value) : w.grownBy ((w1.setCell ⟨g, 0, none⟩ x0).setCell ⟨g, 1, none⟩ x1) (some p) :=
  grown_new (grown_new h (a := ⟨g, 0, none⟩) hb x0) (a := ⟨g, 1, none⟩) hb x1
theorem OwnL.set2 {α : Type} {f : α → Value} {e : TypeId} {w0 w : World} {v : Value} {l : List α} (h : OwnL f e w0 w v l) {g : Nat} (hne : v.ownBlock ≠ some g) (x0 x1 : Value) : OwnL f e w0 ((w.setCell ⟨g, 0, none⟩ x0).setCell ⟨g, 1, none⟩ x1) v l :=
  (h.set ⟨g, 0, none⟩ x0 hne).set ⟨g, 1, none⟩ x1 hne
theorem OwnL.rdAt {α : Type} {f : α → Value} {e : TypeId} {w0 w : World} {A : Option Addr} {n c : Nat} {l : List α} (h : OwnL f e w0 w (.slice A n c) l) (hl : l.length ≤ 140737488351232) : Rd f w A l c ∧ n = l.length := by
  obtain ⟨A', c', hv, r⟩ := OwnL.rd h hl
  injection hv with h1 h2 h3
  subst h1; subst h3
  exact ⟨r, h2⟩
theorem OwnL.above {α : Type} {f : α → Value} {e : TypeId} {w0 w : World} {v : Value} {l : List α} (h : OwnL f e w0 w v l) {B : Nat} (hB : B ≤ w0.heap.size) : ∀ k, v.ownBlock = some k → B ≤ k := fun k hk => Nat.le_trans hB (World.ownsRow.lt h k hk).1
theorem appBytes_le (l : List UInt8) (s k : Int) (nm : ByteArray) (ver : Int) (d : List UInt8) : (appBytes l s k nm ver d).length ≤ l.length + 818 := by
  have := encRec_le k nm ver d
  unfold appBytes
  split
  · rw [List.length_append]; omega
  · omega
set_option maxRecDepth 100000 in
set_option maxHeartbeats 4000000 in
theorem l34Log_c (wb w : World) (p : Nat) (A : Option Addr) (l : List UInt8) (c : Nat) (hA : Bs wb A l c) (hC : Cur wb w p A l c) :
    Calls Try.prog 37 #[.pointer (some ⟨p, 0, none⟩)] w fun e w' => ∃ d s v, d.length ≤ 4000 ∧ e = .returned (vlog v s) ∧ OwnL vu8 5 wb w' v d ∧ (∀ g, v.ownBlock = some g → w.heap.size ≤ g) ∧ Cur wb w' p A l c ∧ w.grownBy w' (some p) := by
  have CBe := Lib.hid (fun n w h hn => l1Below_c n wb w p A l c hA h hn)
  have COn := Lib.hid (fun n w h hn => l1Once_c n wb w p A l c hA h hn)
  have CRe := Lib.hid (fun w h => l33Record_c wb w p A l c hA h)
  have CSt := Lib.hid (fun (A : Option Addr) (l : List UInt8) c s w h hL => sStoreLog_c A l c s w h hL)
  have CAp := Lib.hid (fun (A : Option Addr) (l : List UInt8) c s k nm ver (A' : Option Addr) (d : List UInt8) c' n (hn : n = d.length) w hA hD hm hL => hn ▸ sAppendRecord_c A l c s k nm ver A' d c' w hA hD hm hL)
  unfold vrec at CRe CAp
  unfold vlog at CSt CAp
  have hplt := hC.lt
  have hbp := hC.1
  have hbw := hC.2.1.size
  have eA := Ext_alloc (.cells #[.slice none 0 0, .int .i64 0] 25) (Ext.refl w)
  have eB := Ext_alloc (.cells #[.slice none 0 0, .int .i64 0] 25) eA
  have HR := Lib.hid ((Box.new w #[.slice none 0 0, .int .i64 0] 25).ext (Ext_alloc (.cells #[.slice none 0 0, .int .i64 0] 25) (Ext.refl _)))
  have HG := Lib.hid (Box.new (w.alloc (.cells #[.slice none 0 0, .int .i64 0] 25)) #[.slice none 0 0, .int .i64 0] 25)
  have hgs : (w.alloc (.cells #[.slice none 0 0, .int .i64 0] 25)).heap.size = w.heap.size + 1 := by simp
  rw [hgs] at HG
  have hRp : (some p : Option Nat) ≠ some w.heap.size := some_ne (by omega)
  have hGp : (some p : Option Nat) ≠ some (w.heap.size + 1) := some_ne (by omega)
  go_enter Try.func37, Try.ntmps37
  go_wp2_with fail
  refine (CBe.out 5 _ (hC.ext eB) (by omega)).mono ?_; rintro _ w1 ⟨n, hn, rfl, hC1, hg1⟩
  have hn4 : n ≤ 4 := by unfold below at hn; rw [if_neg (by omega)] at hn; omega
  have HR1 := HR.out.moved hg1 hRp
  have HG1 := HG.out.moved hg1 hGp
  have G1 := (grown_ext eB (some p)).trans hg1
  clear HR HG eA eB hg1 hn hgs
  go_wp2_with fail
  go_loopw [4] (fun i wr => ∃ (n : Nat) (lg : List UInt8) (st : Int) (A1 : Option Addr) (c1 : Nat), n ≤ 4 ∧ i = .int .i64 n ∧ lg.length + 818 * n ≤ 3272 ∧ Hid (Box wr (w.heap.size + 1) #[.slice A1 lg.length c1, .int .i64 st] 25) ∧ Hid (Box wr w.heap.size #[.slice none 0 0, .int .i64 0] 25) ∧ Hid (OwnL vu8 5 wb wr (.slice A1 lg.length c1) lg) ∧ Hid (∀ k, (Value.slice A1 lg.length c1).ownBlock = some k → w.heap.size + 2 ≤ k) ∧ Hid (Cur wb wr p A l c) ∧ Hid (w.grownBy wr (some p))) (fun i _ => (intOf i).toNat)
  case atStart => exact ⟨n, [], 0, none, 0, hn4, rfl, by simp; omega, HG1, HR1, OwnL.nil _ _, (fun k hk => by cases hk), hC1, G1⟩
  case round =>
    clear HG1 HR1 hC1 G1 hn4
    obtain ⟨n, lg, st, A1, c1, hn4, rfl, hlg, HG, HR, HO, hnb, HC, HGr⟩ := hrel
    by_cases h0 : 0 < n
    · go_wp2_with fail
      refine (COn.out 4 _ HC.out (by omega)).mono ?_; rintro _ w2 ⟨y, rfl, hC2, hg2⟩
      have HG2 := Lib.hid (HG.out.moved hg2 hGp)
      have HR2 := Lib.hid (HR.out.moved hg2 hRp)
      have HO2 := Lib.hid (OwnL.moved HO.out hg2 (fun hh => by have := hnb.out _ hh; omega))
      have G2 := Lib.hid (HGr.out.trans hg2)
      clear HG HR HO HC HGr hg2
      obtain ⟨d0, d1, f0, f1⟩ := HG2.out.two
      have hlgl : lg.length ≤ 140737488351232 := by omega
      have hlg2 : lg.length ≤ 1099511627776 := by omega
      cases y
      · go_wp2_with fail
        clear d0 d1 f0 f1
        refine (CRe.out _ hC2).mono ?_; rintro _ w5 ⟨k, nm, ver, d, v5, hnm, hd, rfl, ho5, hn5, hC5, hg5⟩
        have HG5 := Lib.hid (Box.moved HG2.out hg5 hGp)
        have HR5 := Lib.hid (Box.moved HR2.out hg5 hRp)
        have HO5 := Lib.hid (OwnL.moved HO2.out hg5 (fun hh => by have := hnb.out _ hh; omega))
        have G5 := Lib.hid (World.grownBy.trans G2.out hg5)
        have HN5 := Lib.hid hnb.out
        have hw5 : w.heap.size + 2 ≤ w5.heap.size := HG5.out.lt
        obtain ⟨A5, c5, rfl, r5⟩ := OwnL.rd ho5 (by omega)
        have hcap5 := r5.cap
        have r1 := Lib.hid (OwnL.rdAt HO5.out hlgl).1
        clear hg5 ho5 hn5
        obtain ⟨d0, d1, f0, f1⟩ := HG5.out.two
        by_cases hd12 : d.length ≤ 12
        · go_wp2_with fail
          refine (CAp.out A1 lg c1 st k nm ver A5 d c5 d.length rfl _ (r1.out.ext (Ext_alloc _ (Ext.refl _))) (r5.ext (Ext_alloc _ (Ext.refl _))) (by omega) hlg2).mono ?_; rintro _ w6 ⟨v6, rfl, ho6, he6⟩
          have e56 := (Ext_alloc (.cells #[.int .i64 k, .string nm, .int .i64 ver, .slice A5 d.length c5] 36) (Ext.refl w5)).trans he6
          have hal := appBytes_le lg st k nm ver (d)
          generalize appBytes lg st k nm ver (d) = lg6 at *
          obtain ⟨A6, c6, rfl, _⟩ := OwnL.rd ho6 (by omega)
          have hB6 := OwnL.above ho6 (B := w.heap.size + 2) (by simp; omega)
          have ho6 := OwnL.lower ho6 (Ext_alloc _ hC5.2.1)
          have HG6 := Lib.hid (Box.stored2 (HG5.out.ext e56) (.slice A6 lg6.length c6) (.int .i64 st))
          have HR6 := Lib.hid (Box.other2 (HR5.out.ext e56) (g' := w.heap.size + 1) (by omega) (.slice A6 lg6.length c6) (.int .i64 st))
          have HC6 := Lib.hid (Cur.set2 (hC5.ext e56) (g := w.heap.size + 1) (by omega) (by omega) (.slice A6 lg6.length c6) (.int .i64 st))
          have G6 := Lib.hid (grown_new2 (G5.out.trans (grown_ext e56 _)) (g := w.heap.size + 1) (by omega) (.slice A6 lg6.length c6) (.int .i64 st))
          have HO6 := Lib.hid (OwnL.set2 ho6 (g := w.heap.size + 1) (fun hh => by have := hB6 _ hh; omega) (.slice A6 lg6.length c6) (.int .i64 st))
          clear HG5 HR5 HO5 G5 HN5 r1 ho6 hC5
          go_wp2_with fail
          go_roundw
          case rel => exact ⟨n - 1, lg6, st, A6, c6, by omega, by go_num, by omega, HG6, HR6, HO6, hB6, HC6, G6⟩
          case measure => simp [intOf]; omega
        · have hd13 : (12 : Int) < (d.length : Int) := by omega
          have HDT : Hid (12 = (d.take 12).length) := by show _ = _; simp; omega
          have hc12 : (12 : Int) ≤ (c5 : Int) := by omega
          go_wp2_with fail
          refine (CAp.out A1 lg c1 st k nm ver A5 (d.take 12) c5 12 HDT.out _ (r1.out.ext (Ext_alloc _ (Ext.refl _))) ((Rd.take r5 12).ext (Ext_alloc _ (Ext.refl _))) (by omega) hlg2).mono ?_; rintro _ w6 ⟨v6, rfl, ho6, he6⟩
          have e56 := (Ext_alloc (.cells #[.int .i64 k, .string nm, .int .i64 ver, .slice A5 12 c5] 36) (Ext.refl w5)).trans he6
          have hal := appBytes_le lg st k nm ver ((d.take 12))
          generalize appBytes lg st k nm ver ((d.take 12)) = lg6 at *
          obtain ⟨A6, c6, rfl, _⟩ := OwnL.rd ho6 (by omega)
          have hB6 := OwnL.above ho6 (B := w.heap.size + 2) (by simp; omega)
          have ho6 := OwnL.lower ho6 (Ext_alloc _ hC5.2.1)
          have HG6 := Lib.hid (Box.stored2 (HG5.out.ext e56) (.slice A6 lg6.length c6) (.int .i64 st))
          have HR6 := Lib.hid (Box.other2 (HR5.out.ext e56) (g' := w.heap.size + 1) (by omega) (.slice A6 lg6.length c6) (.int .i64 st))
          have HC6 := Lib.hid (Cur.set2 (hC5.ext e56) (g := w.heap.size + 1) (by omega) (by omega) (.slice A6 lg6.length c6) (.int .i64 st))
          have G6 := Lib.hid (grown_new2 (G5.out.trans (grown_ext e56 _)) (g := w.heap.size + 1) (by omega) (.slice A6 lg6.length c6) (.int .i64 st))
          have HO6 := Lib.hid (OwnL.set2 ho6 (g := w.heap.size + 1) (fun hh => by have := hB6 _ hh; omega) (.slice A6 lg6.length c6) (.int .i64 st))
          clear HG5 HR5 HO5 G5 HN5 r1 ho6 hC5
          go_wp2_with fail
          go_roundw
          case rel => exact ⟨n - 1, lg6, st, A6, c6, by omega, by go_num, by omega, HG6, HR6, HO6, hB6, HC6, G6⟩
          case measure => simp [intOf]; omega
      · go_wp2_with fail
        refine (CSt.out A1 lg c1 st _ (OwnL.rdAt HO2.out hlgl).1 hlg2).mono ?_; rintro _ w3 ⟨v3, rfl, ho3, he3⟩
        obtain ⟨A3, c3, rfl, r3⟩ := OwnL.rd ho3 hlgl
        have hB3 : ∀ k, (Value.slice A3 lg.length c3).ownBlock = some k → w.heap.size + 2 ≤ k := OwnL.above ho3 HG2.out.lt
        have ho3 := OwnL.lower ho3 hC2.2.1
        generalize storeAt lg st = st3 at *
        have HG3 := Lib.hid (Box.stored2 (HG2.out.ext he3) (.slice A3 lg.length c3) (.int .i64 st3))
        have HR3 := Lib.hid (Box.other2 (HR2.out.ext he3) (g' := w.heap.size + 1) (by omega) (.slice A3 lg.length c3) (.int .i64 st3))
        have HC3 := Lib.hid (Cur.set2 (hC2.ext he3) (g := w.heap.size + 1) (by omega) (by omega) (.slice A3 lg.length c3) (.int .i64 st3))
        have G3 := Lib.hid (grown_new2 (G2.out.trans (grown_ext he3 _)) (g := w.heap.size + 1) (by omega) (.slice A3 lg.length c3) (.int .i64 st3))
        have HO3 := Lib.hid (OwnL.set2 ho3 (g := w.heap.size + 1) (fun hh => by have := hB3 _ hh; omega) (.slice A3 lg.length c3) (.int .i64 st3))
        clear HG2 HR2 HO2 hC2 G2 ho3 r3
        go_wp2_with fail
        clear d0 d1 f0 f1
        go_roundw
        case rel => exact ⟨n - 1, lg, st3, A3, c3, by omega, by go_num, by omega, HG3, HR3, HO3, hB3, HC3, G3⟩
        case measure => simp [intOf]; omega
    · obtain ⟨d0, d1, f0, f1⟩ := HG.out.two
      obtain ⟨x0, x1, h0, h1⟩ := HR.out.two
      go_wp2_with fail
      clear d0 d1 f0 f1 x0 x1 h0 h1
      have HB := Lib.hid (Box.stored2 HR.out (.slice A1 lg.length c1) (.int .i64 st))
      have HC' := Lib.hid (Cur.set2 HC.out (g := w.heap.size) (by omega) (by omega) (.slice A1 lg.length c1) (.int .i64 st))
      have HG' := Lib.hid (grown_new2 HGr.out (Nat.le_refl _) (.slice A1 lg.length c1) (.int .i64 st))
      have HO' := Lib.hid (OwnL.set2 HO.out (g := w.heap.size) (fun hh => by have := hnb.out _ hh; omega) (.slice A1 lg.length c1) (.int .i64 st))
      generalize ((World.setCell _ ⟨w.heap.size, 0, none⟩ (.slice A1 lg.length c1)).setCell ⟨w.heap.size, 1, none⟩ (.int .i64 st)) = W at *
      have z0 := HB.out.cell 0; have z1 := HB.out.cell 1
      refine bodyPost_ret (v := .agg #[.slice A1 lg.length c1, .int .i64 st]) (by simp at z0 z1; simp [results, Try.results37, go_sem, z0, z1]) rfl ?_
      first
        | exact ⟨lg, st, _, by omega, rfl, HO'.out, (fun k hk => by have := hnb.out k hk; omega), HC'.out, HG'.out⟩
        | exact ⟨lg, by omega, st, _, rfl, HO'.out, (fun k hk => by have := hnb.out k hk; omega), HC'.out, HG'.out⟩
end Go.Proofs.Ytcaeeoghkonniaa
