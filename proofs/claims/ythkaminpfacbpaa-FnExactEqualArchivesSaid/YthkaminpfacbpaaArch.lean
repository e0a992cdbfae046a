/- Archives by value: the laws' helpers and EqualArchives. -/
import Derived.Test.YthkaminpfacbpaaDescR
namespace Go.Proofs.Ythkaminpfacbpaa
open Go.RowKit Go.Sort

def varch (v u : Value) (s : Int) : Value := .agg #[v, u, .int .i64 s]
/-- an archive's registry and log read as gs and l -/
structure RdA (w : World) (A : Option Addr) (gs : List (List DRule)) (c : Nat) (L : Option Addr) (l : List UInt8) (k : Nat) : Prop where
  g : RdG w A gs c
  l : Rd0 vu8 w L l k
theorem RdA.ext {w w' : World} {A : Option Addr} {gs : List (List DRule)} {c : Nat} {L : Option Addr} {l : List UInt8} {k : Nat} (h : RdA w A gs c L l k) (e : Ext w w') : RdA w' A gs c L l k := ⟨h.g.ext e, h.l.ext e⟩
def szA (gs : List (List DRule)) (l : List UInt8) : Nat := szG gs + l.length
structure ShortA (gs : List (List DRule)) (l : List UInt8) : Prop where
  g : ShortG gs
  l : l.length ≤ 1048576
theorem shortA_of {gs : List (List DRule)} {l : List UInt8} (h : szA gs l ≤ 1048576) : ShortA gs l := ⟨shortG_of (by unfold szA at h; omega), by unfold szA at h; omega⟩
def eqA (gs : List (List DRule)) (l : List UInt8) (s : Int) (gs' : List (List DRule)) (l' : List UInt8) (s' : Int) : Bool := eqG gs gs' && (s == s' && l == l')
theorem eqA_refl (gs : List (List DRule)) (l : List UInt8) (s : Int) : eqA gs l s gs l s = true := by unfold eqA; rw [eqG_refl]; simp
set_option maxHeartbeats 1000000 in
theorem szArchive_c (A : Option Addr) (gs : List (List DRule)) (c : Nat) (L : Option Addr) (l : List UInt8) (k : Nat) (s : Int) (left : Int) (w : World) (h : RdA w A gs c L l k) (hw : WfG gs) (h0 : 0 ≤ left) (h1 : left ≤ 1048576) :
    Gives Try.prog 33 #[varch (.slice A gs.length c) (.slice L l.length k) s, .int .i64 left] w (.int .i64 (szN (szA gs l) left)) := by
  have C1 := Lib.hid (fun w h => szRegistry_c A gs c left w h hw h0 h1)
  have C2 := Lib.hid (fun left w h h0 h1 => szLog_c L l k s left w h h0 h1)
  have S := szN_spec (szA gs l) left
  obtain ⟨T, hT⟩ : ∃ T, szN (szA gs l) left = T := ⟨_, rfl⟩
  rw [hT] at S ⊢
  unfold szA at S
  have HS := Lib.hid S
  clear S hT
  have s1 := szN_spec (szG gs) left
  generalize szN (szG gs) left = z at *
  have S1 := Lib.hid s1
  have eb := Ext_alloc (.cells #[.slice A gs.length c, .slice L l.length k, .int .i64 s] 53) (Ext.refl w)
  have BX := fun w' (e : Ext (w.alloc (.cells #[.slice A gs.length c, .slice L l.length k, .int .i64 s] 53)) w') => boxed e
  unfold varch
  unfold vdesc at C1
  unfold vlog at C2
  by_cases d : z < 0
  · obtain rfl : T = -1 := by have := HS.out; have := S1.out; omega
    clear s1
    go_enter Try.func33, Try.ntmps33
    go_wp2_with fail
    refine (C1.out _ (h.g.ext eb)).mono ?_; rintro _ w1 ⟨rfl, e1⟩
    go_wp2
    go_ret
    exact ⟨rfl, eb.trans e1⟩
  · have hz1 : z ≤ 1048576 := by omega
    have hz0 : 0 ≤ z := by omega
    clear s1
    go_enter Try.func33, Try.ntmps33
    go_wp2_with fail
    refine (C1.out _ (h.g.ext eb)).mono ?_; rintro _ w1 ⟨rfl, e1⟩
    go_wp2_with fail
    refine (C2.out _ _ (h.l.ext (eb.trans e1)) (by omega) (by omega)).mono ?_; rintro _ w2 ⟨rfl, e2⟩
    have s2 := szN_spec l.length z
    generalize szN l.length z = y at *
    have HT : Hid (y = T) := by have := HS.out; have := S1.out; show _ = _; omega
    clear s2
    by_cases d2 : y < 0
    · obtain rfl : T = -1 := by have := HS.out; have := S1.out; have := HT.out; omega
      go_wp2
      go_ret
      exact ⟨rfl, eb.trans (e1.trans e2)⟩
    · go_wp2
      go_ret
      exact ⟨ret_i64 HT.out, eb.trans (e1.trans e2)⟩
set_option maxRecDepth 100000 in
set_option maxHeartbeats 4000000 in
theorem toArch_r (A : Option Addr) (gs : List (List DRule)) (c : Nat) (L : Option Addr) (l : List UInt8) (k : Nat) (s : Int) (w : World) (h : RdA w A gs c L l k) (hz : szA gs l ≤ 1048576) :
    Calls Try.prog 35 #[varch (.slice A gs.length c) (.slice L l.length k) s] w fun e w' => ∃ A1 c1 A2 c2, e = .returned (varch (.slice A1 gs.length c1) (.slice A2 l.length c2) s) ∧ RdA w' A1 gs c1 A2 l c2 ∧ Ext w w' := by
  have hg : szG gs ≤ 1048576 := by unfold szA at hz; omega
  have hl : l.length ≤ 1048576 := by unfold szA at hz; omega
  have C1 := Lib.hid (fun w h => toRegistry_c A gs c w h hg)
  have C2 := Lib.hid (fun w h => toLog_c L l k s w h hl)
  have HZ := Lib.hid hg
  obtain ⟨W0, HW0, HA, HR, HO, eA, hsA⟩ := boxes3' w #[.slice A gs.length c, .slice L l.length k, .int .i64 s] #[.slice none 0 0, .slice none 0 0, .int .i64 0] #[.slice none 0 0, .slice none 0 0, .int .i64 0] 53 58 58
  have HSA := Lib.hid hsA
  have HA0 := Lib.hid HA; have HR0 := Lib.hid HR; have HO0 := Lib.hid HO; clear HA HR HO hsA
  unfold vdesc at C1
  unfold vlog at C2
  unfold varch
  go_enter Try.func35, Try.ntmps35
  go_wp2_with fail
  rw [← HW0.out]
  refine (C1.out _ (h.g.ext eA)).mono ?_; rintro _ w1 ⟨v1, qs, rfl, hqs, ho1, he1⟩
  subst hqs
  have hlq : (descsOf qs).length = qs.length := by simp [descsOf]
  obtain ⟨A1, c1, rfl⟩ := ho1.shape
  have a1 := (HA0.out.ext he1).cell; have p1 := (HO0.out.ext he1).cell; have q1 := (HO0.out.ext he1).free
  have hs1 := he1.size
  have g1 := ho1.block
  have O1 := Lib.hid (ho1.keep (grown_set w1 ⟨w.heap.size + 1 + 1, 0, none⟩ (.slice A1 qs.length c1)) (by intro u hu g hg' he'; have := g1 u hu g hg'; have := HSA.out; injection he' with he'; simp only at he'; omega))
  have HA1 := Lib.hid ((HA0.out.ext he1).other (g' := w.heap.size + 1 + 1) (by omega) 0 (.slice A1 qs.length c1)); have HR1 := Lib.hid ((HR0.out.ext he1).other (g' := w.heap.size + 1 + 1) (by omega) 0 (.slice A1 qs.length c1)); have HO1 := Lib.hid ((HO0.out.ext he1).set 0 (.slice A1 qs.length c1))
  have e1 := (eA.trans he1).setCell (p := ⟨w.heap.size + 1 + 1, 0, none⟩) (by show w.heap.size ≤ w.heap.size + 1 + 1; omega) (.slice A1 qs.length c1)
  have S1 : w1.heap.size ≤ (w1.setCell ⟨w.heap.size + 1 + 1, 0, none⟩ (.slice A1 qs.length c1)).heap.size := by simp
  have G1 := Lib.hid g1
  clear ho1 g1 HA0 HO0 HR0 eA
  go_wp2_with fail
  generalize w1.setCell ⟨w.heap.size + 1 + 1, 0, none⟩ (.slice A1 qs.length c1) = W1 at *
  clear a1 p1 q1
  refine (C2.out _ (h.l.ext e1)).mono ?_; rintro _ w2 ⟨v2, rfl, ho2, he2⟩
  obtain ⟨A2, c2, rfl, _⟩ := OwnL.rd ho2 (by omega)
  have p2 := (HO1.out.ext he2).cell; have q2 := (HO1.out.ext he2).free; have r2 := (HR1.out.ext he2).cell; have t2 := (HR1.out.ext he2).free
  have hs2 := he2.size
  have HO2 := Lib.hid ho2
  have O2 := Lib.hid (O1.out.ext he2)
  have e2 := e1.trans he2
  clear ho2 O1 he2 he1
  go_wp2
  have z0 := HSA.out
  have gr : ∀ (W : World) (x y : Value), W.grownBy ((W.setCell ⟨w.heap.size + 1 + 1, 1, none⟩ x).setCell ⟨w.heap.size + 1 + 1, 2, none⟩ y) (some (w.heap.size + 1 + 1)) := fun W x y => (grown_set W ⟨w.heap.size + 1 + 1, 1, none⟩ x).trans (grown_set _ ⟨w.heap.size + 1 + 1, 2, none⟩ y)
  have gs' : ∀ (W : World) (x y z : Value), W.grownBy (((W.setCell ⟨w.heap.size + 1, 0, none⟩ x).setCell ⟨w.heap.size + 1, 1, none⟩ y).setCell ⟨w.heap.size + 1, 2, none⟩ z) (some (w.heap.size + 1)) := fun W x y z => ((grown_set W ⟨w.heap.size + 1, 0, none⟩ x).trans (grown_set _ ⟨w.heap.size + 1, 1, none⟩ y)).trans (grown_set _ ⟨w.heap.size + 1, 2, none⟩ z)
  have OG := (O2.out.keep (gr w2 (.slice A2 l.length c2) (.int .i64 s)) (by intro u hu g hg' he'; have := G1.out u hu g hg'; injection he' with he'; omega)).keep (gs' _ (.slice A1 qs.length c1) (.slice A2 l.length c2) (.int .i64 s)) (by intro u hu g hg' he'; have := G1.out u hu g hg'; injection he' with he'; omega)
  have OL := (HO2.out.keep (gr w2 (.slice A2 l.length c2) (.int .i64 s)) (by intro g hg' he'; have := World.ownsRow.lt HO2.out g hg'; injection he' with he'; omega)).keep (gs' _ (.slice A1 qs.length c1) (.slice A2 l.length c2) (.int .i64 s)) (by intro g hg' he'; have := World.ownsRow.lt HO2.out g hg'; injection he' with he'; omega)
  have hq : ∀ q ∈ qs, szD (rulesOf q.2) ≤ 1048576 := fun q hq => szG_mem HZ.out (List.mem_map_of_mem (f := fun q : Value × List RV => rulesOf q.2) hq)
  obtain ⟨A3, c3, hv3, R3⟩ := OG.rd (by have := HZ.out; unfold szG at this; rw [hlq] at this; omega) (fun q h => (OwnD.short (hq q h)).1) (fun q h => (OwnD.short (hq q h)).2)
  rw [hlq] at hv3
  injection hv3 with i1 _ i2
  subst i1; subst i2
  obtain ⟨A4, c4, hv4, R4⟩ := OwnL.rd OL (by omega)
  injection hv4 with i1 _ i2
  subst i1; subst i2
  refine bodyPost_ret (v := .agg #[.slice A1 qs.length c1, .slice A2 l.length c2, .int .i64 s]) (by simp [results, Try.results35, go_sem, p2, q2, r2, t2]) rfl ⟨A1, c1, A2, c2, by rw [hlq], ⟨R3, R4.1⟩, ?_⟩
  exact (e2.grown (gr w2 _ _) (fun g hg => by injection hg with hg; omega)).grown (gs' _ _ _ _) (fun g hg => by injection hg with hg; omega)
set_option maxHeartbeats 2000000 in
theorem iEqualArchives_c (A : Option Addr) (gs : List (List DRule)) (c : Nat) (L : Option Addr) (l : List UInt8) (k : Nat) (s : Int) (A' : Option Addr) (gs' : List (List DRule)) (c' : Nat) (L' : Option Addr) (l' : List UInt8) (k' : Nat) (s' : Int) (w : World) (h : RdA w A gs c L l k) (h' : RdA w A' gs' c' L' l' k') (hs : ShortA gs l) (hs' : ShortA gs' l') :
    Gives Try.prog 36 #[varch (.slice A gs.length c) (.slice L l.length k) s, varch (.slice A' gs'.length c') (.slice L' l'.length k') s'] w (.bool (eqA gs l s gs' l' s')) := by
  have C1 := Lib.hid (fun w h h' => iEqualRegistries_c A A' gs gs' c c' w h h' hs.g hs'.g)
  have C2 := Lib.hid (fun w h h' => iEqualLogs_c L L' l l' k k' s s' w h h')
  have eb := Ext_alloc (.cells #[.slice A' gs'.length c', .slice L' l'.length k', .int .i64 s'] 58) (Ext_alloc (.cells #[.slice A gs.length c, .slice L l.length k, .int .i64 s] 58) (Ext.refl w))
  have BX := fun w' (e : Ext ((w.alloc (.cells #[.slice A gs.length c, .slice L l.length k, .int .i64 s] 58)).alloc (.cells #[.slice A' gs'.length c', .slice L' l'.length k', .int .i64 s'] 58)) w') => boxed2 e
  have B0 := fun w' e => (BX w' e).1
  have B1 := fun w' e => (BX w' e).2.1
  clear BX
  have hl1 : l.length ≤ 140737488351232 := by have := hs.l; omega
  have hl2 : l'.length ≤ 140737488351232 := by have := hs'.l; omega
  unfold eqA
  unfold vdesc at C1
  unfold vlog at C2
  unfold varch
  generalize eqG gs gs' = q at *
  generalize (s == s' && l == l') = p at *
  cases q
  · go_enter Try.func36, Try.ntmps36
    go_wp2_with fail
    refine (C1.out _ (h.g.ext eb) (h'.g.ext eb)).mono ?_; rintro _ w1 ⟨rfl, e1⟩
    go_wp2
    go_ret
    exact ⟨ret_bool (by simp), eb.trans e1⟩
  · go_enter Try.func36, Try.ntmps36
    go_wp2_with fail
    refine (C1.out _ (h.g.ext eb) (h'.g.ext eb)).mono ?_; rintro _ w1 ⟨rfl, e1⟩
    go_wp2_with fail
    refine (C2.out _ ⟨h.l.ext (eb.trans e1), hl1⟩ ⟨h'.l.ext (eb.trans e1), hl2⟩).mono ?_; rintro _ w2 ⟨rfl, e2⟩
    go_wp2
    go_ret
    exact ⟨ret_bool (by simp), eb.trans (e1.trans e2)⟩

set_option maxHeartbeats 2000000 in
theorem sEqualArchives_c (A : Option Addr) (gs : List (List DRule)) (c : Nat) (L : Option Addr) (l : List UInt8) (k : Nat) (s : Int) (A' : Option Addr) (gs' : List (List DRule)) (c' : Nat) (L' : Option Addr) (l' : List UInt8) (k' : Nat) (s' : Int) (w : World) (h : RdA w A gs c L l k) (h' : RdA w A' gs' c' L' l' k') (hs : ShortA gs l) (hs' : ShortA gs' l') :
    Gives Try.prog 34 #[varch (.slice A gs.length c) (.slice L l.length k) s, varch (.slice A' gs'.length c') (.slice L' l'.length k') s'] w (.bool (eqA gs l s gs' l' s')) := by
  have C1 := Lib.hid (fun w h h' => sEqualRegistries_c A A' gs gs' c c' w h h' hs.g hs'.g)
  have C2 := Lib.hid (fun w h h' => sEqualLogs_c L L' l l' k k' s s' w h h')
  have eb := Ext_alloc (.cells #[.slice A' gs'.length c', .slice L' l'.length k', .int .i64 s'] 58) (Ext_alloc (.cells #[.slice A gs.length c, .slice L l.length k, .int .i64 s] 58) (Ext.refl w))
  have BX := fun w' (e : Ext ((w.alloc (.cells #[.slice A gs.length c, .slice L l.length k, .int .i64 s] 58)).alloc (.cells #[.slice A' gs'.length c', .slice L' l'.length k', .int .i64 s'] 58)) w') => boxed2 e
  have B0 := fun w' e => (BX w' e).1
  have B1 := fun w' e => (BX w' e).2.1
  clear BX
  have hl1 : l.length ≤ 140737488351232 := by have := hs.l; omega
  have hl2 : l'.length ≤ 140737488351232 := by have := hs'.l; omega
  unfold eqA
  unfold vdesc at C1
  unfold vlog at C2
  unfold varch
  generalize eqG gs gs' = q at *
  generalize (s == s' && l == l') = p at *
  cases q
  · go_enter Try.func34, Try.ntmps34
    go_wp2_with fail
    refine (C1.out _ (h.g.ext eb) (h'.g.ext eb)).mono ?_; rintro _ w1 ⟨rfl, e1⟩
    go_wp2
    go_ret
    exact ⟨ret_bool (by simp), eb.trans e1⟩
  · go_enter Try.func34, Try.ntmps34
    go_wp2_with fail
    refine (C1.out _ (h.g.ext eb) (h'.g.ext eb)).mono ?_; rintro _ w1 ⟨rfl, e1⟩
    go_wp2_with fail
    refine (C2.out _ ⟨h.l.ext (eb.trans e1), hl1⟩ ⟨h'.l.ext (eb.trans e1), hl2⟩).mono ?_; rintro _ w2 ⟨rfl, e2⟩
    go_wp2
    go_ret
    exact ⟨ret_bool (by simp), eb.trans (e1.trans e2)⟩
set_option maxHeartbeats 2000000 in
theorem eqArchive_c (A : Option Addr) (gs : List (List DRule)) (c : Nat) (L : Option Addr) (l : List UInt8) (k : Nat) (s : Int) (A' : Option Addr) (gs' : List (List DRule)) (c' : Nat) (L' : Option Addr) (l' : List UInt8) (k' : Nat) (s' : Int) (w : World) (h : RdA w A gs c L l k) (h' : RdA w A' gs' c' L' l' k') (hs : ShortA gs l) (hs' : ShortA gs' l') :
    Gives Try.prog 37 #[varch (.slice A gs.length c) (.slice L l.length k) s, varch (.slice A' gs'.length c') (.slice L' l'.length k') s'] w (.bool (eqA gs l s gs' l' s')) := by
  have C1 := Lib.hid (fun w h h' => eqRegistry_c A A' gs gs' c c' w h h' hs.g hs'.g)
  have C2 := Lib.hid (fun w h h' => eqLog_c L L' l l' k k' s s' w h h')
  have eb := Ext_alloc (.cells #[.slice A' gs'.length c', .slice L' l'.length k', .int .i64 s'] 58) (Ext_alloc (.cells #[.slice A gs.length c, .slice L l.length k, .int .i64 s] 58) (Ext.refl w))
  have BX := fun w' (e : Ext ((w.alloc (.cells #[.slice A gs.length c, .slice L l.length k, .int .i64 s] 58)).alloc (.cells #[.slice A' gs'.length c', .slice L' l'.length k', .int .i64 s'] 58)) w') => boxed2 e
  have B0 := fun w' e => (BX w' e).1
  have B1 := fun w' e => (BX w' e).2.1
  clear BX
  have hl1 : l.length ≤ 140737488351232 := by have := hs.l; omega
  have hl2 : l'.length ≤ 140737488351232 := by have := hs'.l; omega
  have HC : Hid ((s == s' && l == l') = (l == l' && s == s')) := Bool.and_comm _ _
  unfold eqA
  rw [HC.out]
  unfold vdesc at C1
  unfold vlog at C2
  unfold varch
  generalize eqG gs gs' = q at *
  generalize (l == l' && s == s') = p at *
  clear HC
  cases q
  · go_enter Try.func37, Try.ntmps37
    go_wp2_with fail
    refine (C1.out _ (h.g.ext eb) (h'.g.ext eb)).mono ?_; rintro _ w1 ⟨rfl, e1⟩
    go_wp2
    go_ret
    exact ⟨ret_bool (by simp), eb.trans e1⟩
  · cases p
    all_goals
      go_enter Try.func37, Try.ntmps37
      go_wp2_with fail
      refine (C1.out _ (h.g.ext eb) (h'.g.ext eb)).mono ?_; rintro _ w1 ⟨rfl, e1⟩
      go_wp2_with fail
      refine (C2.out _ ⟨h.l.ext (eb.trans e1), hl1⟩ ⟨h'.l.ext (eb.trans e1), hl2⟩).mono ?_; rintro _ w2 ⟨rfl, e2⟩
      go_wp2
      go_ret
      exact ⟨ret_bool (by simp), eb.trans (e1.trans e2)⟩
end Go.Proofs.Ythkaminpfacbpaa
