/- RenameRule of the program and of the reference: the walks. -/
import Derived.Test.YtalnekcmfagjoaaCopyD2
import Derived.Test.YtalnekcmfagjoaaValid10
import Derived.Test.YtalnekcmfagjoaaShared
namespace Go.Proofs.Ytalnekcmfagjoaa
open Go.RowKit Go.Sort

def nmR (r : DRule) (t : ByteArray) : DRule := { r with nm := t }
def nmV (p : RV) (t : ByteArray) : RV := { p with r := nmR p.r t }
def setNm (ds : List DRule) (k : Nat) (t : ByteArray) : List DRule := ds.set k (nmR (ds.getD k ⟨⟨#[]⟩, 0, 0, false, [], [], [], []⟩) t)
def setNmV (ps : List RV) (k : Nat) (t : ByteArray) : List RV := ps.set k (nmV (ps.getD k ⟨⟨⟨#[]⟩, 0, 0, false, [], [], [], []⟩, undef, undef, undef, undef⟩) t)
def renOk (ds : List DRule) (f t : ByteArray) : Bool := decide (0 ≤ findR ds f) && descOk (setNm ds (findR ds f).toNat t)
def renD (ds : List DRule) (f t : ByteArray) : List DRule := if renOk ds f t then setNm ds (findR ds f).toNat t else ds
theorem cells_set : ∀ (ps : List RV) (k : Nat) (h : k < ps.length) (t : ByteArray), (ps.flatMap RV.cells).set (k * 8) (.string t) = (ps.set k (nmV ps[k] t)).flatMap RV.cells := by
  intro ps
  induction ps with
  | nil => intro k h; simp at h
  | cons p s ih =>
    intro k h t
    cases k with
    | zero => simp [RV.cells, nmV, nmR, List.flatMap_cons]
    | succ k =>
      have h' : k < s.length := by simpa using h
      rw [List.flatMap_cons, List.set_append_right _ _ (by simp [RV.cells]; omega)]
      rw [show (k + 1) * 8 - p.cells.length = k * 8 by simp [RV.cells]; omega, ih k h' t]
      simp [List.flatMap_cons]
theorem vals_set (ps : List RV) (k : Nat) (h : k < ps.length) (t : ByteArray) : (ps.set k (nmV ps[k] t)).flatMap RV.vals = ps.flatMap RV.vals := by
  induction ps generalizing k with
  | nil => simp at h
  | cons p s ih =>
    cases k with
    | zero => simp [RV.vals, nmV, List.flatMap_cons]
    | succ k => simp only [List.set_cons_succ, List.flatMap_cons, List.getElem_cons_succ]; rw [ih k (by simpa using h)]
theorem setNmV_eq {ps : List RV} {k : Nat} (h : k < ps.length) (t : ByteArray) : setNmV ps k t = ps.set k (nmV ps[k] t) := by unfold setNmV; simp [h]
theorem rules_set {ps : List RV} {k : Nat} (h : k < ps.length) (t : ByteArray) : rulesOf (setNmV ps k t) = setNm (rulesOf ps) k t := by
  rw [setNmV_eq h]; unfold setNm rulesOf; rw [List.map_set]; simp [h, nmV]
theorem setNm_len (ds : List DRule) (k : Nat) (t : ByteArray) : (setNm ds k t).length = ds.length := by unfold setNm; simp
theorem mem_setNm {ds : List DRule} {k : Nat} (h : k < ds.length) {t : ByteArray} {q : DRule} (hq : q ∈ setNm ds k t) : q ∈ ds ∨ q = nmR ds[k] t := by
  unfold setNm at hq
  rcases List.mem_or_eq_of_mem_set hq with h1 | h1
  · exact .inl h1
  · right; rw [h1]; simp [h]
theorem short_setNm {ds : List DRule} {k : Nat} (h : k < ds.length) {t : ByteArray} (hs : ShortD ds) : ShortD (setNm ds k t) := fun q hq => by
  rcases mem_setNm h hq with h1 | rfl
  · exact hs q h1
  · exact hs ds[k] (List.getElem_mem h)
theorem wf_setNm {ds : List DRule} {k : Nat} (h : k < ds.length) {t : ByteArray} (ht : t.size ≤ 9223372036854775807) (hs : WfD ds) : WfD (setNm ds k t) := fun q hq => by
  rcases mem_setNm h hq with h1 | rfl
  · exact hs q h1
  · have := hs ds[k] (List.getElem_mem h)
    exact ⟨ht, this.names, this.kind, this.size, this.tags, this.kids⟩
theorem far_parts' {v : Value} {ps : List RV} (h : Far (v :: ps.flatMap RV.vals)) : (∀ q ∈ ps, ∀ u ∈ q.vals, ∀ g, v.ownBlock = some g → u.ownBlock ≠ some g) ∧ True ∧ True := by
  unfold Far at h
  rw [List.pairwise_cons] at h
  exact ⟨fun q hq u hu g hg => h.1 u (List.mem_flatMap.2 ⟨q, hq, hu⟩) g hg, trivial, trivial⟩
theorem OwnD.setNm {w0 w : World} {g c : Nat} {ps : List RV} (h : OwnD w0 w (.slice (some ⟨g, 0, none⟩) ps.length c) ps) {k : Nat} (hk : k < ps.length) (t : ByteArray) :
    OwnD w0 (w.setCell ⟨g, k * 8, none⟩ (.string t)) (.slice (some ⟨g, 0, none⟩) ps.length c) (setNmV ps k t) := by
  rw [setNmV_eq hk]
  obtain ⟨f1, _, _⟩ := far_parts' h.far
  refine ⟨?_, fun p hp => ?_, ?_⟩
  · have := (h.row.stored (k * 8) (.string t)).1
    rw [cells_set ps k hk t] at this
    rw [List.length_set]; exact this
  · have hkeep : ∀ q ∈ ps, RuleOwn w0 (w.setCell ⟨g, k * 8, none⟩ (.string t)) q := fun q hq => (h.each q hq).keep (grown_set w ⟨g, k * 8, none⟩ _) (fun u hu b hb hh => by
      injection hh with hh
      exact f1 q hq u hu g rfl (by rw [hb]; exact congrArg some hh.symm))
    rcases List.mem_or_eq_of_mem_set hp with h1 | rfl
    · exact hkeep p h1
    · have := hkeep ps[k] (List.getElem_mem hk)
      exact ⟨this.b, this.n, this.t, this.k⟩
  · rw [vals_set ps k hk t]; exact h.far
set_option maxRecDepth 100000 in
set_option maxHeartbeats 8000000 in
theorem sRen_c (A : Option Addr) (ds : List DRule) (c : Nat) (f t : ByteArray) (w : World) (h : RdD w A ds c) (hz : szD ds ≤ 1048576) (hw : WfD ds) (ht : t.size ≤ 9223372036854775807) :
    Calls Try.prog 8 #[vdesc (.slice A ds.length c), .string f, .string t] w fun e w' => ∃ v ps, e = .returned (.tuple #[vdesc v, .bool (renOk ds f t)]) ∧ rulesOf ps = renD ds f t ∧ OwnD w w' v ps ∧ Ext w w' := by
  have hn : ds.length ≤ 1048576 := by unfold szD at hz; omega
  obtain ⟨W0, HW0, HP, HR, e0, hsA⟩ := boxes2' w #[.slice A ds.length c] #[.slice none 0 0] 28 28
  have HSA := Lib.hid hsA; clear hsA
  have CC := Lib.hid (fun w h => sCopyD_c A ds c w h hz)
  have CF := Lib.hid (fun w h => sFind_c A ds c f w h)
  have CV := Lib.hid (fun A' ds' c' w' h hs hw => sValidDesc_c A' ds' c' w' h hs hw)
  have HH := Lib.hid h; have HSH := Lib.hid (shortD_of hz); have HWf := Lib.hid hw
  have hfl := findR_lt ds f
  have HOKE := Lib.hid (rfl : renOk ds f t = renOk ds f t)
  unfold vdesc at *
  clear h hw
  have hrb : W0.heap.size = w.heap.size + 2 := HSA.out
  by_cases hfn : findR ds f < 0
  · have HE : Hid (renOk ds f t = false) := by show _ = _; unfold renOk; rw [decide_eq_false (by omega)]; rfl
    have HD : Hid (renD ds f t = ds) := by show _ = _; unfold renD; rw [HE.out]; rfl
    rw [HE.out]
    have dfn : decide (findR ds f < 0) = true := decide_eq_true hfn
    generalize findR ds f = k at *
    go_enter Try.func8, Try.ntmps8
    go_wp2_with fail
    rw [← HW0.out]
    refine (CC.out _ (HH.out.ext e0)).mono ?_; rintro _ w1 ⟨v, ps, rfl, hps, ho, s1⟩
    obtain ⟨A1, c1, hv⟩ := ho.shape
    subst hv
    have x1 := Ext_alloc (.cells #[.slice A1 ps.length c1] 28) (Ext.refl w1)
    have p1 : _ = some (Value.slice A ds.length c) := ((HP.ext s1).ext x1).cell 0
    go_wp2_with fail
    refine (CF.out _ (HH.out.ext ((e0.trans s1).trans x1))).mono ?_; rintro _ w2 ⟨rfl, s2⟩
    have b8 := ((Box.new w1 #[.slice A1 ps.length c1] 28).ext s2).cell 0
    have e2 := ((e0.trans s1).trans x1).trans s2
    have hr2 := ((HR.ext s1).ext x1).ext s2
    have r6 := hr2.cell 0; have f6 := hr2.free 0
    have b8 : _ = some (Value.slice A1 ps.length c1) := b8
    have HO2 := Lib.hid ((ho.ext x1).ext s2)
    have G := grown_set w2 ⟨w.heap.size + 1, 0, none⟩ (.slice A1 ps.length c1)
    have D5 : Hid (OwnD w (w2.setCell ⟨w.heap.size + 1, 0, none⟩ (.slice A1 ps.length c1)) (.slice A1 ps.length c1) ps) := (HO2.out.keep G (fun u hu g hg hh => by have h1 := (HO2.out.block u hu g hg).1; injection hh with hh; simp at hh; omega)).down e0.size
    have E5 : Hid (Ext w (w2.setCell ⟨w.heap.size + 1, 0, none⟩ (.slice A1 ps.length c1))) := e2.setCell (p := ⟨w.heap.size + 1, 0, none⟩) (by show w.heap.size ≤ w.heap.size + 1; omega) _
    have z5 : (w2.setCell ⟨w.heap.size + 1, 0, none⟩ (.slice A1 ps.length c1)).cell? ⟨w.heap.size + 1, 0, none⟩ = some (.slice A1 ps.length c1) := World.cell?_setCell_same _ _ _ r6
    have HN := Lib.hid hps
    clear ho HO2 G
    go_wp2
    exact bodyPost_ret (v := .tuple #[.agg #[.slice A1 ps.length c1], .bool false]) (by simp [results, Try.results8, go_sem, z5]) rfl ⟨_, ps, rfl, by rw [HD.out]; exact HN.out, D5.out, E5.out⟩
  obtain ⟨k, hk⟩ : ∃ k : Nat, findR ds f = (k : Int) := ⟨(findR ds f).toNat, by omega⟩
  have hkn : k < ds.length := by omega
  have HE : Hid (renOk ds f t = descOk (setNm ds k t)) := by show _ = _; unfold renOk; rw [hk, decide_eq_true (by omega)]; rfl
  have HD : Hid (renD ds f t = if descOk (setNm ds k t) = true then setNm ds k t else ds) := by show _ = _; unfold renD; rw [HE.out, hk]; rfl
  have dfn : decide ((k : Int) < 0) = false := decide_eq_false (by omega)
  rw [HE.out]
  have HSN := Lib.hid (short_setNm hkn HSH.out (t := t)); have HWN := Lib.hid (wf_setNm hkn ht HWf.out)
  rw [hk] at CF
  clear hfn hfl HE hk
  have HLN := Lib.hid (setNm_len ds k t)
  obtain ⟨ds2, hds2⟩ : ∃ ds2, setNm ds k t = ds2 := ⟨_, rfl⟩
  rw [hds2] at HD HSN HWN HLN ⊢
  have HD2 := Lib.hid hds2; clear hds2
  generalize hz2 : descOk ds2 = z at *
  have HZ2 := Lib.hid hz2; clear hz2
  go_enter Try.func8, Try.ntmps8
  go_wp2_with fail
  rw [← HW0.out]
  refine (CC.out _ (HH.out.ext e0)).mono ?_; rintro _ w1 ⟨v, ps, rfl, hps, ho, s1⟩
  have hpl : ps.length = ds.length := by rw [← hps]; simp [rulesOf]
  have hkp : k < ps.length := by omega
  obtain ⟨g, c1, hv⟩ : ∃ g c1, v = .slice (some ⟨g, 0, none⟩) ps.length c1 := by
    rcases ho.row.2 with ⟨_, h0⟩ | ⟨g, cap, cur, hv, _⟩
    · omega
    · exact ⟨g, cap, hv⟩
  subst hv
  have hglt := World.ownsRow.lt ho.row g rfl
  have x1 := Ext_alloc (.cells #[.slice (some ⟨g, 0, none⟩) ps.length c1] 28) (Ext.refl w1)
  have p1 : _ = some (Value.slice A ds.length c) := ((HP.ext s1).ext x1).cell 0
  have HPL := Lib.hid hpl; clear hpl
  go_wp2_with fail
  refine (CF.out _ (HH.out.ext ((e0.trans s1).trans x1))).mono ?_; rintro _ w2 ⟨rfl, s2⟩
  have HB8 := (Box.new w1 #[.slice (some ⟨g, 0, none⟩) ps.length c1] 28).ext s2
  have b8 : _ = some (Value.slice (some ⟨g, 0, none⟩) ps.length c1) := HB8.cell 0
  have e2 := ((e0.trans s1).trans x1).trans s2
  have HO2 := (ho.ext x1).ext s2
  have hln : (ps.flatMap RV.cells).length = ps.length * 8 := HO2.row.1
  obtain ⟨⟨u0, hu0⟩, hf0⟩ := HO2.row.slot (k * 8) (by rw [hln]; omega)
  have D3 := HO2.setNm hkp t
  have G3 := grown_set w2 ⟨g, k * 8, none⟩ (.string t)
  have e3 : Ext w (w2.setCell ⟨g, k * 8, none⟩ (.string t)) := e2.setCell (p := ⟨g, k * 8, none⟩) (by show w.heap.size ≤ g; omega) _
  have B83 := HB8.other (g' := g) (by omega) (k * 8) (.string t)
  have P3 := (((HP.ext s1).ext x1).ext s2).other (g' := g) (by omega) (k * 8) (.string t)
  have R3 := (((HR.ext s1).ext x1).ext s2).other (g' := g) (by omega) (k * 8) (.string t)
  have hr2 : rulesOf (setNmV ps k t) = ds2 := by rw [rules_set hkp, hps]; exact HD2.out
  have hb1 : (k : Int) < (ps.length : Int) := by omega
  have HD3 := Lib.hid D3; have HR2 := Lib.hid hr2
  clear D3 HO2 G3 ho HB8 hln hr2 HP HR x1 s1 s2 e2
  have b83 : _ = some (Value.slice (some ⟨g, 0, none⟩) ps.length c1) := B83.cell 0
  go_wp2_with fail
  generalize w2.setCell ⟨g, k * 8, none⟩ (.string t) = w3 at *
  clear hu0 hf0 b8
  have hl2 : ds2.length = ps.length := by have := HLN.out; have := HPL.out; omega
  have RD : Hid (RdD w3 (some ⟨g, 0, none⟩) ds2 c1) := by
    obtain ⟨A', c', hv, hR⟩ := HD3.out.rd (by rw [← HR2.out] at hl2; simp [rulesOf] at hl2; have := HPL.out; omega) (fun p hp => HSN.out p.r (by rw [← HR2.out]; exact List.mem_map_of_mem hp))
    rw [HR2.out] at hR hv
    injection hv with q1 _ q2
    subst q1; subst q2; exact hR
  have C3 := CV.out (some ⟨g, 0, none⟩) ds2 c1 w3 RD.out HSN.out HWN.out
  rw [HZ2.out, hl2] at C3
  refine C3.mono ?_; rintro _ w4 ⟨rfl, s4⟩
  have e4 := e3.trans s4
  have B84 := B83.ext s4; have P4 := P3.ext s4; have R4 := R3.ext s4
  have HD4 := Lib.hid (HD3.out.ext s4)
  have r6 : _ = some (Value.slice none 0 0) := R4.cell 0
  have f6 := R4.free 0
  clear C3 RD hl2 B83 P3 R3 HD3 e3 s4 b83
  cases z
  · have p4 : _ = some (Value.slice A ds.length c) := P4.cell 0
    go_wp2_with fail
    refine (CC.out _ (HH.out.ext e4)).mono ?_; rintro _ w5 ⟨v5, ps5, rfl, hps5, ho5, s5⟩
    obtain ⟨A5, c5, hv5⟩ := ho5.shape
    subst hv5
    have R5 := R4.ext s5
    have r7 : _ = some (Value.slice none 0 0) := R5.cell 0
    have f7 := R5.free 0
    have hr4 := R4.lt
    have G := grown_set w5 ⟨w.heap.size + 1, 0, none⟩ (.slice A5 ps5.length c5)
    have D5 : Hid (OwnD w (w5.setCell ⟨w.heap.size + 1, 0, none⟩ (.slice A5 ps5.length c5)) (.slice A5 ps5.length c5) ps5) := (ho5.keep G (fun u hu g hg hh => by have h1 := (ho5.block u hu g hg).1; injection hh with hh; simp at hh; omega)).down e4.size
    have E5 : Hid (Ext w (w5.setCell ⟨w.heap.size + 1, 0, none⟩ (.slice A5 ps5.length c5))) := (e4.trans s5).setCell (p := ⟨w.heap.size + 1, 0, none⟩) (by show w.heap.size ≤ w.heap.size + 1; omega) _
    have z5 : (w5.setCell ⟨w.heap.size + 1, 0, none⟩ (.slice A5 ps5.length c5)).cell? ⟨w.heap.size + 1, 0, none⟩ = some (.slice A5 ps5.length c5) := World.cell?_setCell_same _ _ _ r7
    have HN : Hid (rulesOf ps5 = renD ds f t) := by show _ = _; rw [HD.out, if_neg (by simp)]; exact hps5
    clear ho5 G r6 f6
    go_wp2
    exact bodyPost_ret (v := .tuple #[.agg #[.slice A5 ps5.length c5], .bool false]) (by simp [results, Try.results8, go_sem, z5]) rfl ⟨_, ps5, rfl, HN.out, D5.out, E5.out⟩
  · have b8 : _ = some (Value.slice (some ⟨g, 0, none⟩) ps.length c1) := B84.cell 0
    have G := grown_set w4 ⟨w.heap.size + 1, 0, none⟩ (.slice (some ⟨g, 0, none⟩) ps.length c1)
    have D5 : Hid (OwnD w (w4.setCell ⟨w.heap.size + 1, 0, none⟩ (.slice (some ⟨g, 0, none⟩) ps.length c1)) (.slice (some ⟨g, 0, none⟩) ps.length c1) (setNmV ps k t)) := (HD4.out.keep G (fun u hu g hg hh => by have h1 := (HD4.out.block u hu g hg).1; injection hh with hh; simp at hh; omega)).down e0.size
    have E5 : Hid (Ext w (w4.setCell ⟨w.heap.size + 1, 0, none⟩ (.slice (some ⟨g, 0, none⟩) ps.length c1))) := e4.setCell (p := ⟨w.heap.size + 1, 0, none⟩) (by show w.heap.size ≤ w.heap.size + 1; omega) _
    have z5 : (w4.setCell ⟨w.heap.size + 1, 0, none⟩ (.slice (some ⟨g, 0, none⟩) ps.length c1)).cell? ⟨w.heap.size + 1, 0, none⟩ = some (.slice (some ⟨g, 0, none⟩) ps.length c1) := World.cell?_setCell_same _ _ _ r6
    have HN : Hid (rulesOf (setNmV ps k t) = renD ds f t) := by show _ = _; rw [HD.out, if_pos rfl]; exact HR2.out
    clear HD4 G
    go_wp2
    exact bodyPost_ret (v := .tuple #[.agg #[.slice (some ⟨g, 0, none⟩) ps.length c1], .bool true]) (by simp [results, Try.results8, go_sem, z5]) rfl ⟨_, setNmV ps k t, rfl, HN.out, D5.out, E5.out⟩
set_option maxRecDepth 100000 in
set_option maxHeartbeats 8000000 in
theorem iRen_c (A : Option Addr) (ds : List DRule) (c : Nat) (f t : ByteArray) (w : World) (h : RdD w A ds c) (hz : szD ds ≤ 1048576) (hw : WfD ds) (ht : t.size ≤ 9223372036854775807) :
    Calls Try.prog 10 #[vdesc (.slice A ds.length c), .string f, .string t] w fun e w' => ∃ v ps, e = .returned (.tuple #[vdesc v, .bool (renOk ds f t)]) ∧ rulesOf ps = renD ds f t ∧ OwnD w w' v ps ∧ Ext w w' := by
  have hn : ds.length ≤ 1048576 := by unfold szD at hz; omega
  obtain ⟨W0, HW0, HP, HR, e0, hsA⟩ := boxes2' w #[.slice A ds.length c] #[.slice none 0 0] 28 28
  have HSA := Lib.hid hsA; clear hsA
  have CC := Lib.hid (fun w h => iCopyD_c A ds c w h hz)
  have CF := Lib.hid (fun w h => iFind_c A ds c f w h)
  have CV := Lib.hid (fun A' ds' c' w' h hs hw => iValidDesc_c A' ds' c' w' h hs hw)
  have HH := Lib.hid h; have HSH := Lib.hid (shortD_of hz); have HWf := Lib.hid hw
  have hfl := findR_lt ds f
  have HOKE := Lib.hid (rfl : renOk ds f t = renOk ds f t)
  unfold vdesc at *
  clear h hw
  have hrb : W0.heap.size = w.heap.size + 2 := HSA.out
  by_cases hfn : findR ds f < 0
  · have HE : Hid (renOk ds f t = false) := by show _ = _; unfold renOk; rw [decide_eq_false (by omega)]; rfl
    have HD : Hid (renD ds f t = ds) := by show _ = _; unfold renD; rw [HE.out]; rfl
    rw [HE.out]
    have dfn : decide (findR ds f < 0) = true := decide_eq_true hfn
    generalize findR ds f = k at *
    go_enter Try.func10, Try.ntmps10
    go_wp2_with fail
    rw [← HW0.out]
    refine (CC.out _ (HH.out.ext e0)).mono ?_; rintro _ w1 ⟨v, ps, rfl, hps, ho, s1⟩
    obtain ⟨A1, c1, hv⟩ := ho.shape
    subst hv
    have x1 := Ext_alloc (.cells #[.slice A1 ps.length c1] 28) (Ext.refl w1)
    have p1 : _ = some (Value.slice A ds.length c) := ((HP.ext s1).ext x1).cell 0
    go_wp2_with fail
    refine (CF.out _ (HH.out.ext ((e0.trans s1).trans x1))).mono ?_; rintro _ w2 ⟨rfl, s2⟩
    have b8 := ((Box.new w1 #[.slice A1 ps.length c1] 28).ext s2).cell 0
    have e2 := ((e0.trans s1).trans x1).trans s2
    have hr2 := ((HR.ext s1).ext x1).ext s2
    have r6 := hr2.cell 0; have f6 := hr2.free 0
    have b8 : _ = some (Value.slice A1 ps.length c1) := b8
    have HO2 := Lib.hid ((ho.ext x1).ext s2)
    have G := grown_set w2 ⟨w.heap.size + 1, 0, none⟩ (.slice A1 ps.length c1)
    have D5 : Hid (OwnD w (w2.setCell ⟨w.heap.size + 1, 0, none⟩ (.slice A1 ps.length c1)) (.slice A1 ps.length c1) ps) := (HO2.out.keep G (fun u hu g hg hh => by have h1 := (HO2.out.block u hu g hg).1; injection hh with hh; simp at hh; omega)).down e0.size
    have E5 : Hid (Ext w (w2.setCell ⟨w.heap.size + 1, 0, none⟩ (.slice A1 ps.length c1))) := e2.setCell (p := ⟨w.heap.size + 1, 0, none⟩) (by show w.heap.size ≤ w.heap.size + 1; omega) _
    have z5 : (w2.setCell ⟨w.heap.size + 1, 0, none⟩ (.slice A1 ps.length c1)).cell? ⟨w.heap.size + 1, 0, none⟩ = some (.slice A1 ps.length c1) := World.cell?_setCell_same _ _ _ r6
    have HN := Lib.hid hps
    clear ho HO2 G
    go_wp2
    exact bodyPost_ret (v := .tuple #[.agg #[.slice A1 ps.length c1], .bool false]) (by simp [results, Try.results10, go_sem, z5]) rfl ⟨_, ps, rfl, by rw [HD.out]; exact HN.out, D5.out, E5.out⟩
  obtain ⟨k, hk⟩ : ∃ k : Nat, findR ds f = (k : Int) := ⟨(findR ds f).toNat, by omega⟩
  have hkn : k < ds.length := by omega
  have HE : Hid (renOk ds f t = descOk (setNm ds k t)) := by show _ = _; unfold renOk; rw [hk, decide_eq_true (by omega)]; rfl
  have HD : Hid (renD ds f t = if descOk (setNm ds k t) = true then setNm ds k t else ds) := by show _ = _; unfold renD; rw [HE.out, hk]; rfl
  have dfn : decide ((k : Int) < 0) = false := decide_eq_false (by omega)
  rw [HE.out]
  have HSN := Lib.hid (short_setNm hkn HSH.out (t := t)); have HWN := Lib.hid (wf_setNm hkn ht HWf.out)
  rw [hk] at CF
  clear hfn hfl HE hk
  have HLN := Lib.hid (setNm_len ds k t)
  obtain ⟨ds2, hds2⟩ : ∃ ds2, setNm ds k t = ds2 := ⟨_, rfl⟩
  rw [hds2] at HD HSN HWN HLN ⊢
  have HD2 := Lib.hid hds2; clear hds2
  generalize hz2 : descOk ds2 = z at *
  have HZ2 := Lib.hid hz2; clear hz2
  go_enter Try.func10, Try.ntmps10
  go_wp2_with fail
  rw [← HW0.out]
  refine (CC.out _ (HH.out.ext e0)).mono ?_; rintro _ w1 ⟨v, ps, rfl, hps, ho, s1⟩
  have hpl : ps.length = ds.length := by rw [← hps]; simp [rulesOf]
  have hkp : k < ps.length := by omega
  obtain ⟨g, c1, hv⟩ : ∃ g c1, v = .slice (some ⟨g, 0, none⟩) ps.length c1 := by
    rcases ho.row.2 with ⟨_, h0⟩ | ⟨g, cap, cur, hv, _⟩
    · omega
    · exact ⟨g, cap, hv⟩
  subst hv
  have hglt := World.ownsRow.lt ho.row g rfl
  have x1 := Ext_alloc (.cells #[.slice (some ⟨g, 0, none⟩) ps.length c1] 28) (Ext.refl w1)
  have p1 : _ = some (Value.slice A ds.length c) := ((HP.ext s1).ext x1).cell 0
  have HPL := Lib.hid hpl; clear hpl
  go_wp2_with fail
  refine (CF.out _ (HH.out.ext ((e0.trans s1).trans x1))).mono ?_; rintro _ w2 ⟨rfl, s2⟩
  have HB8 := (Box.new w1 #[.slice (some ⟨g, 0, none⟩) ps.length c1] 28).ext s2
  have b8 : _ = some (Value.slice (some ⟨g, 0, none⟩) ps.length c1) := HB8.cell 0
  have e2 := ((e0.trans s1).trans x1).trans s2
  have HO2 := (ho.ext x1).ext s2
  have hln : (ps.flatMap RV.cells).length = ps.length * 8 := HO2.row.1
  obtain ⟨⟨u0, hu0⟩, hf0⟩ := HO2.row.slot (k * 8) (by rw [hln]; omega)
  have D3 := HO2.setNm hkp t
  have G3 := grown_set w2 ⟨g, k * 8, none⟩ (.string t)
  have e3 : Ext w (w2.setCell ⟨g, k * 8, none⟩ (.string t)) := e2.setCell (p := ⟨g, k * 8, none⟩) (by show w.heap.size ≤ g; omega) _
  have B83 := HB8.other (g' := g) (by omega) (k * 8) (.string t)
  have P3 := (((HP.ext s1).ext x1).ext s2).other (g' := g) (by omega) (k * 8) (.string t)
  have R3 := (((HR.ext s1).ext x1).ext s2).other (g' := g) (by omega) (k * 8) (.string t)
  have hr2 : rulesOf (setNmV ps k t) = ds2 := by rw [rules_set hkp, hps]; exact HD2.out
  have hb1 : (k : Int) < (ps.length : Int) := by omega
  have HD3 := Lib.hid D3; have HR2 := Lib.hid hr2
  clear D3 HO2 G3 ho HB8 hln hr2 HP HR x1 s1 s2 e2
  have b83 : _ = some (Value.slice (some ⟨g, 0, none⟩) ps.length c1) := B83.cell 0
  go_wp2_with fail
  generalize w2.setCell ⟨g, k * 8, none⟩ (.string t) = w3 at *
  clear hu0 hf0 b8
  have hl2 : ds2.length = ps.length := by have := HLN.out; have := HPL.out; omega
  have RD : Hid (RdD w3 (some ⟨g, 0, none⟩) ds2 c1) := by
    obtain ⟨A', c', hv, hR⟩ := HD3.out.rd (by rw [← HR2.out] at hl2; simp [rulesOf] at hl2; have := HPL.out; omega) (fun p hp => HSN.out p.r (by rw [← HR2.out]; exact List.mem_map_of_mem hp))
    rw [HR2.out] at hR hv
    injection hv with q1 _ q2
    subst q1; subst q2; exact hR
  have C3 := CV.out (some ⟨g, 0, none⟩) ds2 c1 w3 RD.out HSN.out HWN.out
  rw [HZ2.out, hl2] at C3
  refine C3.mono ?_; rintro _ w4 ⟨rfl, s4⟩
  have e4 := e3.trans s4
  have B84 := B83.ext s4; have P4 := P3.ext s4; have R4 := R3.ext s4
  have HD4 := Lib.hid (HD3.out.ext s4)
  have r6 : _ = some (Value.slice none 0 0) := R4.cell 0
  have f6 := R4.free 0
  clear C3 RD hl2 B83 P3 R3 HD3 e3 s4 b83
  cases z
  · have p4 : _ = some (Value.slice A ds.length c) := P4.cell 0
    go_wp2_with fail
    refine (CC.out _ (HH.out.ext e4)).mono ?_; rintro _ w5 ⟨v5, ps5, rfl, hps5, ho5, s5⟩
    obtain ⟨A5, c5, hv5⟩ := ho5.shape
    subst hv5
    have R5 := R4.ext s5
    have r7 : _ = some (Value.slice none 0 0) := R5.cell 0
    have f7 := R5.free 0
    have hr4 := R4.lt
    have G := grown_set w5 ⟨w.heap.size + 1, 0, none⟩ (.slice A5 ps5.length c5)
    have D5 : Hid (OwnD w (w5.setCell ⟨w.heap.size + 1, 0, none⟩ (.slice A5 ps5.length c5)) (.slice A5 ps5.length c5) ps5) := (ho5.keep G (fun u hu g hg hh => by have h1 := (ho5.block u hu g hg).1; injection hh with hh; simp at hh; omega)).down e4.size
    have E5 : Hid (Ext w (w5.setCell ⟨w.heap.size + 1, 0, none⟩ (.slice A5 ps5.length c5))) := (e4.trans s5).setCell (p := ⟨w.heap.size + 1, 0, none⟩) (by show w.heap.size ≤ w.heap.size + 1; omega) _
    have z5 : (w5.setCell ⟨w.heap.size + 1, 0, none⟩ (.slice A5 ps5.length c5)).cell? ⟨w.heap.size + 1, 0, none⟩ = some (.slice A5 ps5.length c5) := World.cell?_setCell_same _ _ _ r7
    have HN : Hid (rulesOf ps5 = renD ds f t) := by show _ = _; rw [HD.out, if_neg (by simp)]; exact hps5
    clear ho5 G r6 f6
    go_wp2
    exact bodyPost_ret (v := .tuple #[.agg #[.slice A5 ps5.length c5], .bool false]) (by simp [results, Try.results10, go_sem, z5]) rfl ⟨_, ps5, rfl, HN.out, D5.out, E5.out⟩
  · have b8 : _ = some (Value.slice (some ⟨g, 0, none⟩) ps.length c1) := B84.cell 0
    have G := grown_set w4 ⟨w.heap.size + 1, 0, none⟩ (.slice (some ⟨g, 0, none⟩) ps.length c1)
    have D5 : Hid (OwnD w (w4.setCell ⟨w.heap.size + 1, 0, none⟩ (.slice (some ⟨g, 0, none⟩) ps.length c1)) (.slice (some ⟨g, 0, none⟩) ps.length c1) (setNmV ps k t)) := (HD4.out.keep G (fun u hu g hg hh => by have h1 := (HD4.out.block u hu g hg).1; injection hh with hh; simp at hh; omega)).down e0.size
    have E5 : Hid (Ext w (w4.setCell ⟨w.heap.size + 1, 0, none⟩ (.slice (some ⟨g, 0, none⟩) ps.length c1))) := e4.setCell (p := ⟨w.heap.size + 1, 0, none⟩) (by show w.heap.size ≤ w.heap.size + 1; omega) _
    have z5 : (w4.setCell ⟨w.heap.size + 1, 0, none⟩ (.slice (some ⟨g, 0, none⟩) ps.length c1)).cell? ⟨w.heap.size + 1, 0, none⟩ = some (.slice (some ⟨g, 0, none⟩) ps.length c1) := World.cell?_setCell_same _ _ _ r6
    have HN : Hid (rulesOf (setNmV ps k t) = renD ds f t) := by show _ = _; rw [HD.out, if_pos rfl]; exact HR2.out
    clear HD4 G
    go_wp2
    exact bodyPost_ret (v := .tuple #[.agg #[.slice (some ⟨g, 0, none⟩) ps.length c1], .bool true]) (by simp [results, Try.results10, go_sem, z5]) rfl ⟨_, setNmV ps k t, rfl, HN.out, D5.out, E5.out⟩
end Go.Proofs.Ytalnekcmfagjoaa
