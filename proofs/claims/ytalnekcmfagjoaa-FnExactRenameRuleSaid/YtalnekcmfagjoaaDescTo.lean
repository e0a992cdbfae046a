/- The laws' copies of descriptions and registries. -/
import Derived.Test.YtalnekcmfagjoaaDescOwn
namespace Go.Proofs.Ytalnekcmfagjoaa
open Go.RowKit Go.Sort

theorem E_str : Elem Try.prog 67 9 1 16 (.string ⟨#[]⟩) := ⟨Try.underlying67, by kernel_rfl, rfl, by omega⟩
set_option maxHeartbeats 400000 in
theorem toStringS_c (A : Option Addr) (l : List ByteArray) (c : Nat) (w : World) (h : Rd0 vstr w A l c) (hL : l.length ≤ 1048576) :
    Calls Try.prog 94 #[.slice A l.length c] w fun e w' => ∃ v, e = .returned v ∧ OwnL vstr 9 w w' v l ∧ Ext w w' := by
  go_enter Try.func94, Try.ntmps94
  go_wp2_with (first
    | (at_make; refine wpList_mk rfl _ _ _ rfl E_str w w (Ext.refl w) l.length rfl rfl (by omega) (by simp [maxLen]; omega) ?_; intro w1 ho he _))
  go_loopw [4] (fun i wr => ∃ k : Nat, k ≤ l.length ∧ i = .int .i64 k ∧ Own 9 1 w wr (.slice (some ⟨w.heap.size, 0, none⟩) l.length l.length) l.length ((l.take k).map vstr ++ List.replicate (l.length - k) (.string ⟨#[]⟩)) ∧ Ext w wr) (fun i _ => l.length - (intOf i).toNat)
  case atStart => exact ⟨0, by omega, rfl, by rw [made_one _ rfl] at ho; simpa using ho, he⟩
  case round =>
    clear ho he
    obtain ⟨k, hk, rfl, ho, he⟩ := hrel
    by_cases hlt : k < l.length
    · obtain ⟨b, off, rfl, hb, hc⟩ := h.at k hlt
      obtain ⟨⟨u0, hu⟩, hf⟩ := ho.slot k (by simp; omega)
      obtain ⟨ho', he'⟩ := ho.store he k (vstr l[k])
      rw [fill_step vstr l _ k hlt] at ho'
      clear h ho
      go_wp2
      go_roundw
      case rel => exact ⟨k+1, by omega, by go_num, ho', he'⟩
      case measure => simp [intOf]; omega
    · obtain rfl : k = l.length := by omega
      go_wp2
      go_ret
      exact ⟨_, rfl, by simpa [OwnL] using ho, he⟩
set_option maxRecDepth 100000 in
set_option maxHeartbeats 4000000 in
theorem toRule_c (r : DRule) (Ab : Option Addr) (cb : Nat) (An : Option Addr) (cn : Nat) (At : Option Addr) (ct : Nat) (Ak : Option Addr) (ck : Nat) (w : World) (h : RdS w r Ab cb An cn At ct Ak ck) (hz : szRl r ≤ 1048576) :
    Calls Try.prog 65 #[vrule r (.slice Ab r.bytes.length cb) (.slice An r.names.length cn) (.slice At r.tags.length ct) (.slice Ak r.kids.length ck)] w fun e w' => ∃ vb vn vt vk, e = .returned (vrule r vb vn vt vk) ∧ RuleOwn w w' ⟨r, vb, vn, vt, vk⟩ ∧ Far [vb, vn, vt, vk] ∧ Ext w w' := by
  obtain ⟨hb, hn, ht, hk⟩ := h
  obtain ⟨⟨s1, s2, s3, s4⟩, z1, z2, z3, z4⟩ := szRl_short hz
  have C1 := Lib.hid (fun w h => toByteS_c Ab r.bytes cb w h z1)
  have C2 := Lib.hid (fun w h => toStringS_c An r.names cn w h z2)
  have C3 := Lib.hid (fun w h => toIntS_c At r.tags ct w h z3)
  have C4 := Lib.hid (fun w h => toIntS_c Ak r.kids ck w h z4)
  obtain ⟨nm, kind, size, little, bytes, names, tags, kids⟩ := r
  dsimp only at *
  obtain ⟨W0, HW0, HA, HR, HO, eA, hsA⟩ := boxes3' w #[.string nm, .int .i64 kind, .int .i64 size, .bool little, .slice Ab bytes.length cb, .slice An names.length cn, .slice At tags.length ct, .slice Ak kids.length ck] #[.string ⟨#[]⟩, .int .i64 0, .int .i64 0, .bool false, .slice none 0 0, .slice none 0 0, .slice none 0 0, .slice none 0 0] #[.string nm, .int .i64 kind, .int .i64 size, .bool little, .slice none 0 0, .slice none 0 0, .slice none 0 0, .slice none 0 0] 90 70 70
  have HSA := Lib.hid hsA; clear hsA
  have HA0 := Lib.hid HA; have HR0 := Lib.hid HR; have HO0 := Lib.hid HO; clear HA HR HO
  unfold vrule
  dsimp only
  go_enter Try.func65, Try.ntmps65
  go_wp2_with fail
  rw [← HW0.out]
  refine (C1.out _ (hb.ext eA)).mono ?_; rintro _ w1 ⟨v1, rfl, ho1, he1⟩
  obtain ⟨A1, c1, rfl, _⟩ := OwnL.rd ho1 s1
  have a1 := (HA0.out.ext he1).cell; have p1 := (HO0.out.ext he1).cell; have q1 := (HO0.out.ext he1).free
  have f1 : (Value.slice A1 bytes.length c1).ownBlock ≠ some (w.heap.size + 1 + 1) := OwnL.far ho1 (.inl (by have := HO0.out.lt; omega))
  have g1 : ∀ g, (Value.slice A1 bytes.length c1).ownBlock = some g → W0.heap.size ≤ g ∧ g < w1.heap.size := fun g hg => World.ownsRow.lt ho1 g hg
  have G1 := Lib.hid g1; have F1 := Lib.hid f1; have S1 := Lib.hid (by simp : w1.heap.size ≤ (w1.setCell ⟨w.heap.size + 1 + 1, 4, none⟩ (.slice A1 bytes.length c1)).heap.size); have T1 := Lib.hid he1.size
  have O11 := Lib.hid (OwnL.other ho1 ⟨w.heap.size + 1 + 1, 4, none⟩ (.slice A1 bytes.length c1) f1)
  have HA1 := Lib.hid ((HA0.out.ext he1).other (g' := w.heap.size + 1 + 1) (by omega) 4 (.slice A1 bytes.length c1)); have HR1 := Lib.hid ((HR0.out.ext he1).other (g' := w.heap.size + 1 + 1) (by omega) 4 (.slice A1 bytes.length c1)); have HO1 := Lib.hid ((HO0.out.ext he1).set 4 (.slice A1 bytes.length c1))
  have e1 := (eA.trans he1).setCell (p := ⟨w.heap.size + 1 + 1, 4, none⟩) (by show w.heap.size ≤ w.heap.size + 1 + 1; omega) (.slice A1 bytes.length c1)
  clear ho1 f1 g1 HA0 HR0 HO0 he1 eA
  go_wp2_with fail
  generalize w1.setCell ⟨w.heap.size + 1 + 1, 4, none⟩ (.slice A1 bytes.length c1) = W1 at *
  clear a1 p1 q1
  refine (C2.out _ (hn.ext e1)).mono ?_; rintro _ w2 ⟨v2, rfl, ho2, he2⟩
  obtain ⟨A2, c2, rfl, _⟩ := OwnL.rd ho2 s2
  have a2 := (HA1.out.ext he2).cell; have p2 := (HO1.out.ext he2).cell; have q2 := (HO1.out.ext he2).free
  have f2 : (Value.slice A2 names.length c2).ownBlock ≠ some (w.heap.size + 1 + 1) := OwnL.far ho2 (.inl (by have := HO1.out.lt; omega))
  have g2 : ∀ g, (Value.slice A2 names.length c2).ownBlock = some g → W1.heap.size ≤ g ∧ g < w2.heap.size := fun g hg => World.ownsRow.lt ho2 g hg
  have G2 := Lib.hid g2; have F2 := Lib.hid f2; have S2 := Lib.hid (by simp : w2.heap.size ≤ (w2.setCell ⟨w.heap.size + 1 + 1, 5, none⟩ (.slice A2 names.length c2)).heap.size); have T2 := Lib.hid he2.size
  have O22 := Lib.hid (OwnL.other ho2 ⟨w.heap.size + 1 + 1, 5, none⟩ (.slice A2 names.length c2) f2)
  have O12 := Lib.hid (OwnL.other (O11.out.ext he2) ⟨w.heap.size + 1 + 1, 5, none⟩ (.slice A2 names.length c2) F1.out)
  have HA2 := Lib.hid ((HA1.out.ext he2).other (g' := w.heap.size + 1 + 1) (by omega) 5 (.slice A2 names.length c2)); have HR2 := Lib.hid ((HR1.out.ext he2).other (g' := w.heap.size + 1 + 1) (by omega) 5 (.slice A2 names.length c2)); have HO2 := Lib.hid ((HO1.out.ext he2).set 5 (.slice A2 names.length c2))
  have e2 := (e1.trans he2).setCell (p := ⟨w.heap.size + 1 + 1, 5, none⟩) (by show w.heap.size ≤ w.heap.size + 1 + 1; omega) (.slice A2 names.length c2)
  clear ho2 f2 g2 HA1 HR1 HO1 he2 e1 O11
  go_wp2_with fail
  generalize w2.setCell ⟨w.heap.size + 1 + 1, 5, none⟩ (.slice A2 names.length c2) = W2 at *
  clear a2 p2 q2
  refine (C3.out _ (ht.ext e2)).mono ?_; rintro _ w3 ⟨v3, rfl, ho3, he3⟩
  obtain ⟨A3, c3, rfl, _⟩ := OwnL.rd ho3 s3
  have a3 := (HA2.out.ext he3).cell; have p3 := (HO2.out.ext he3).cell; have q3 := (HO2.out.ext he3).free
  have f3 : (Value.slice A3 tags.length c3).ownBlock ≠ some (w.heap.size + 1 + 1) := OwnL.far ho3 (.inl (by have := HO2.out.lt; omega))
  have g3 : ∀ g, (Value.slice A3 tags.length c3).ownBlock = some g → W2.heap.size ≤ g ∧ g < w3.heap.size := fun g hg => World.ownsRow.lt ho3 g hg
  have G3 := Lib.hid g3; have F3 := Lib.hid f3; have S3 := Lib.hid (by simp : w3.heap.size ≤ (w3.setCell ⟨w.heap.size + 1 + 1, 6, none⟩ (.slice A3 tags.length c3)).heap.size); have T3 := Lib.hid he3.size
  have O33 := Lib.hid (OwnL.other ho3 ⟨w.heap.size + 1 + 1, 6, none⟩ (.slice A3 tags.length c3) f3)
  have O13 := Lib.hid (OwnL.other (O12.out.ext he3) ⟨w.heap.size + 1 + 1, 6, none⟩ (.slice A3 tags.length c3) F1.out)
  have O23 := Lib.hid (OwnL.other (O22.out.ext he3) ⟨w.heap.size + 1 + 1, 6, none⟩ (.slice A3 tags.length c3) F2.out)
  have HA3 := Lib.hid ((HA2.out.ext he3).other (g' := w.heap.size + 1 + 1) (by omega) 6 (.slice A3 tags.length c3)); have HR3 := Lib.hid ((HR2.out.ext he3).other (g' := w.heap.size + 1 + 1) (by omega) 6 (.slice A3 tags.length c3)); have HO3 := Lib.hid ((HO2.out.ext he3).set 6 (.slice A3 tags.length c3))
  have e3 := (e2.trans he3).setCell (p := ⟨w.heap.size + 1 + 1, 6, none⟩) (by show w.heap.size ≤ w.heap.size + 1 + 1; omega) (.slice A3 tags.length c3)
  clear ho3 f3 g3 HA2 HR2 HO2 he3 e2 O12 O22
  go_wp2_with fail
  generalize w3.setCell ⟨w.heap.size + 1 + 1, 6, none⟩ (.slice A3 tags.length c3) = W3 at *
  clear a3 p3 q3
  refine (C4.out _ (hk.ext e3)).mono ?_; rintro _ w4 ⟨v4, rfl, ho4, he4⟩
  obtain ⟨A4, c4, rfl, _⟩ := OwnL.rd ho4 s4
  have a4 := (HA3.out.ext he4).cell; have p4 := (HO3.out.ext he4).cell; have q4 := (HO3.out.ext he4).free
  have r4 := (HR3.out.ext he4).cell; have t4 := (HR3.out.ext he4).free
  have f4 : (Value.slice A4 kids.length c4).ownBlock ≠ some (w.heap.size + 1 + 1) := OwnL.far ho4 (.inl (by have := HO3.out.lt; omega))
  have g4 : ∀ g, (Value.slice A4 kids.length c4).ownBlock = some g → W3.heap.size ≤ g ∧ g < w4.heap.size := fun g hg => World.ownsRow.lt ho4 g hg
  have G4 := Lib.hid g4; have F4 := Lib.hid f4; have S4 := Lib.hid (by simp : w4.heap.size ≤ (w4.setCell ⟨w.heap.size + 1 + 1, 7, none⟩ (.slice A4 kids.length c4)).heap.size); have T4 := Lib.hid he4.size
  have O44 := Lib.hid (OwnL.other ho4 ⟨w.heap.size + 1 + 1, 7, none⟩ (.slice A4 kids.length c4) f4)
  have O14 := Lib.hid (OwnL.other (O13.out.ext he4) ⟨w.heap.size + 1 + 1, 7, none⟩ (.slice A4 kids.length c4) F1.out)
  have O24 := Lib.hid (OwnL.other (O23.out.ext he4) ⟨w.heap.size + 1 + 1, 7, none⟩ (.slice A4 kids.length c4) F2.out)
  have O34 := Lib.hid (OwnL.other (O33.out.ext he4) ⟨w.heap.size + 1 + 1, 7, none⟩ (.slice A4 kids.length c4) F3.out)
  have HA4 := Lib.hid ((HA3.out.ext he4).other (g' := w.heap.size + 1 + 1) (by omega) 7 (.slice A4 kids.length c4)); have HR4 := Lib.hid ((HR3.out.ext he4).other (g' := w.heap.size + 1 + 1) (by omega) 7 (.slice A4 kids.length c4)); have HO4 := Lib.hid ((HO3.out.ext he4).set 7 (.slice A4 kids.length c4))
  have e4 := (e3.trans he4).setCell (p := ⟨w.heap.size + 1 + 1, 7, none⟩) (by show w.heap.size ≤ w.heap.size + 1 + 1; omega) (.slice A4 kids.length c4)
  clear ho4 f4 g4 HA3 HR3 HO3 he4 e3 O13 O23 O33
  go_wp2
  have z0 := HSA.out
  have S1 := S1.out; have S2 := S2.out; have S3 := S3.out; have S4 := S4.out; have T1 := T1.out; have T2 := T2.out; have T3 := T3.out; have T4 := T4.out
  have G := grown_put8 (w4.setCell ⟨w.heap.size + 1 + 1, 7, none⟩ (.slice A4 kids.length c4)) (w.heap.size + 1) 0 ⟨⟨nm, kind, size, little, bytes, names, tags, kids⟩, .slice A1 bytes.length c1, .slice A2 names.length c2, .slice A3 tags.length c3, .slice A4 kids.length c4⟩
  refine bodyPost_ret (v := .agg #[.string nm, .int .i64 kind, .int .i64 size, .bool little, .slice A1 bytes.length c1, .slice A2 names.length c2, .slice A3 tags.length c3, .slice A4 kids.length c4]) (by simp [results, Try.results65, go_sem, a4, p4, q4, r4, t4]) rfl ⟨_, _, _, _, rfl, ⟨?_, ?_, ?_, ?_⟩, ?_, ?_⟩
  · exact (OwnL.keep O14.out G (fun g hg he => by have := G1.out g hg; injection he with he; omega)).down (by omega)
  · exact (OwnL.keep O24.out G (fun g hg he => by have := G2.out g hg; injection he with he; omega)).down (by omega)
  · exact (OwnL.keep O34.out G (fun g hg he => by have := G3.out g hg; injection he with he; omega)).down (by omega)
  · exact (OwnL.keep O44.out G (fun g hg he => by have := G4.out g hg; injection he with he; omega)).down (by omega)
  · refine Far.cons (Far.cons (Far.cons (Far.one _) ?_) ?_) ?_
    · intro v hv g h1 h2
      have := G3.out g h1
      simp only [List.mem_cons, List.not_mem_nil, or_false] at hv
      rcases hv with rfl
      have := G4.out g h2; omega
    · intro v hv g h1 h2
      have := G2.out g h1
      simp only [List.mem_cons, List.not_mem_nil, or_false] at hv
      rcases hv with rfl | rfl
      · have := G3.out g h2; omega
      · have := G4.out g h2; omega
    · intro v hv g h1 h2
      have := G1.out g h1
      simp only [List.mem_cons, List.not_mem_nil, or_false] at hv
      rcases hv with rfl | rfl | rfl
      · have := G2.out g h2; omega
      · have := G3.out g h2; omega
      · have := G4.out g h2; omega
  · exact e4.grown G (fun g hg => by injection hg with hg; omega)
theorem rulesOf_append (a b : List RV) : rulesOf (a ++ b) = rulesOf a ++ rulesOf b := by simp [rulesOf]
theorem own_grown {e : TypeId} {size : Nat} {w0 w w' : World} {v : Value} {n : Nat} {xs : List Value} (h : Own e size w0 w v n xs) {g : Nat} (hg : w.grownBy w' (some g)) (hne : ∀ k, v.ownBlock = some k → k ≠ g) : Own e size w0 w' v n xs :=
  h.keep hg (fun k hk he => by injection he with he; exact hne k hk he.symm)
set_option maxRecDepth 100000 in
set_option maxHeartbeats 4000000 in
theorem toRuleS_c (A : Option Addr) (ds : List DRule) (c : Nat) (w : World) (h : RdD w A ds c) (hz : szD ds ≤ 1048576) :
    Calls Try.prog 34 #[.slice A ds.length c] w fun e w' => ∃ v ps, e = .returned v ∧ rulesOf ps = ds ∧ OwnD w w' v ps ∧ Ext w w' := by
  have hn : ds.length ≤ 1048576 := by unfold szD at hz; omega
  have HZ : Hid (∀ k (hk : k < ds.length), szRl ds[k] ≤ 1048576) := fun k hk => szD_mem hz (List.getElem_mem hk)
  go_enter Try.func34, Try.ntmps34
  go_wp2_with (first
    | (at_make; refine wpList_mk rfl _ _ _ rfl E_rule w w (Ext.refl w) ds.length rfl rfl (by omega) (by simp [maxLen]; omega) ?_; intro w1 ho he _))
  have hw1 : w.heap.size < w1.heap.size := (World.ownsRow.lt ho _ rfl).2
  obtain ⟨rest0, HR0, HO⟩ : ∃ rest0 : List Value, Hid (rest0.length = ds.length * 8) ∧ Hid (Own 70 8 w w1 (.slice (some ⟨w.heap.size, 0, none⟩) ds.length ds.length) ds.length rest0) := ⟨_, by show _ = _; rw [Array.length_toList, size_madeCells], ho⟩
  clear ho
  go_loopw [4] (fun i wr => ∃ (k : Nat) (ps : List RV) (rest : List Value), k ≤ ds.length ∧ i = .int .i64 k ∧ ps.length ≤ k ∧ k ≤ ps.length ∧ Hid (rulesOf ps = ds.take k) ∧ Hid (rest.length = (ds.length - k) * 8) ∧ Hid (Own 70 8 w wr (.slice (some ⟨w.heap.size, 0, none⟩) ds.length ds.length) ds.length (ps.flatMap RV.cells ++ rest)) ∧ Hid (∀ p ∈ ps, RuleOwn w1 wr p) ∧ Hid (Far (ps.flatMap RV.vals)) ∧ Ext w wr ∧ w1.heap.size ≤ wr.heap.size) (fun i _ => ds.length - (intOf i).toNat)
  case atStart => exact ⟨0, [], rest0, by omega, rfl, by simp, by simp, by simp [Hid, rulesOf], by simpa [Hid] using HR0.out, by simpa [Hid] using HO.out, by simp [Hid], Far.nil, he, Nat.le_refl _⟩
  case round =>
    clear HO HR0 rest0 he
    obtain ⟨k, ps, rest, hk, rfl, hl1, hl2, hps, hrest, ho, hq, hfar, he, hsz⟩ := hrel
    by_cases hlt : k < ds.length
    · obtain ⟨b, off, Ab, cb, An, cn, At, ct, Ak, ck, rfl, hb, hs, hr⟩ := h.at k hlt
      have hzk := HZ.out k hlt
      have HT : Hid (ds.take (k+1) = ds.take k ++ [ds[k]]) := List.take_succ_eq_append_getElem hlt
      generalize ds[k] = r at *
      have C := Lib.hid (fun w h => toRule_c r Ab cb An cn At ct Ak ck w h hzk)
      obtain ⟨k0, k1, k2, k3, k4, k5, k6, k7⟩ := hr
      unfold vrule at C
      clear h
      go_wp2_with fail
      refine (C.out _ (hs.ext he)).mono ?_; rintro _ w2 ⟨vb, vn, vt, vk, rfl, hro, hfr, he2⟩
      obtain ⟨Ab', cb', An', cn', At', ct', Ak', ck', e1, e2, e3, e4, _⟩ := hro.rd (szRl_short hzk).1
      dsimp only at e1 e2 e3 e4
      subst e1 e2 e3 e4
      have ho2 := Own.ext ho.out he2
      have hln : (ps.flatMap RV.cells ++ rest).length = ds.length * 8 := ho2.1
      obtain ⟨⟨u0, hu0⟩, hf0⟩ := ho2.slot (k * 8) (by rw [hln]; omega)
      obtain ⟨⟨u1, hu1⟩, hf1⟩ := ho2.slot (k * 8 + 1) (by rw [hln]; omega)
      obtain ⟨⟨u2, hu2⟩, hf2⟩ := ho2.slot (k * 8 + 2) (by rw [hln]; omega)
      obtain ⟨⟨u3, hu3⟩, hf3⟩ := ho2.slot (k * 8 + 3) (by rw [hln]; omega)
      obtain ⟨⟨u4, hu4⟩, hf4⟩ := ho2.slot (k * 8 + 4) (by rw [hln]; omega)
      obtain ⟨⟨u5, hu5⟩, hf5⟩ := ho2.slot (k * 8 + 5) (by rw [hln]; omega)
      obtain ⟨⟨u6, hu6⟩, hf6⟩ := ho2.slot (k * 8 + 6) (by rw [hln]; omega)
      obtain ⟨⟨u7, hu7⟩, hf7⟩ := ho2.slot (k * 8 + 7) (by rw [hln]; omega)
      have hlr := hrest.out
      have hpl : ps.length = k := by omega
      obtain ⟨hO, hE⟩ := Own.put8 ho2 (he.trans he2) ⟨r, .slice Ab' r.bytes.length cb', .slice An' r.names.length cn', .slice At' r.tags.length ct', .slice Ak' r.kids.length ck'⟩ (by omega) (k * 8) (by rw [cells_len]; omega)
      have hG := grown_put8 w2 w.heap.size (k * 8) ⟨r, .slice Ab' r.bytes.length cb', .slice An' r.names.length cn', .slice At' r.tags.length ct', .slice Ak' r.kids.length ck'⟩
      have HO := Lib.hid hO; have HE := Lib.hid hE; have HG := Lib.hid hG; have HRO := Lib.hid hro; have HF4 := Lib.hid hfr; have HPL := Lib.hid hpl; have HLR := Lib.hid hlr
      have hsz2 := he2.size
      clear ho2 hO hE hG hro hfr hpl hlr ho
      go_wp2
      go_roundw
      case rel =>
        refine ⟨k+1, ps ++ [⟨r, .slice Ab' r.bytes.length cb', .slice An' r.names.length cn', .slice At' r.tags.length ct', .slice Ak' r.kids.length ck'⟩], rest.drop 8, by omega, by go_num, by simp; omega, by simp; omega, ?_, ?_, ?_, ?_, ?_, HE.out, ?_⟩
        · show _ = _; rw [rulesOf_append, hps.out, HT.out]; rfl
        · show _ = _; rw [List.length_drop, HLR.out]; omega
        · show Own _ _ _ _ _ _ _; rw [List.flatMap_append, List.flatMap_cons, List.flatMap_nil, List.append_nil]; exact HO.out
        · intro p hp
          rcases List.mem_append.1 hp with hp | hp
          · exact ((hq.out p hp).ext he2).keep HG.out (fun v hv g hg he' => by have := (hq.out p hp).block v hv g hg; injection he' with he'; omega)
          · obtain rfl := List.mem_singleton.1 hp
            exact (HRO.out.keep HG.out (fun v hv g hg he' => by have := HRO.out.block v hv g hg; injection he' with he'; omega)).down hsz
        · show Far _
          rw [List.flatMap_append, List.flatMap_cons, List.flatMap_nil, List.append_nil]
          refine Far.append hfar.out HF4.out ?_
          intro u hu v hv g h1 h2
          obtain ⟨p, hp, hu⟩ := List.mem_flatMap.1 hu
          have := (hq.out p hp).block u hu g h1
          have := HRO.out.block v hv g h2
          omega
        · first | exact Nat.le_trans (Nat.le_trans hsz hsz2) HG.out.size | exact Nat.le_trans hsz hsz2
      case measure => simp [intOf]; omega
    · obtain rfl : k = ds.length := by omega
      go_wp2
      go_ret
      have hr0 : rest = [] := List.eq_nil_of_length_eq_zero (by have := hrest.out; omega)
      have hlen : ps.length = ds.length := by omega
      refine ⟨_, ps, rfl, ?_, ⟨?_, ?_, ?_⟩, he⟩
      · have := hps.out; rwa [List.take_length] at this
      · have := ho.out; rw [hr0, List.append_nil] at this; rw [hlen]; exact this
      · exact fun p hp => (hq.out p hp).down (by omega)
      · refine Far.cons hfar.out ?_
        intro u hu g h1 h2
        obtain ⟨p, hp, hu⟩ := List.mem_flatMap.1 hu
        have := (hq.out p hp).block u hu g h2
        have h1' : w.heap.size = g := by simpa [Value.ownBlock] using h1
        omega
set_option maxRecDepth 100000 in
set_option maxHeartbeats 1000000 in
theorem toDescription_c (A : Option Addr) (ds : List DRule) (c : Nat) (w : World) (h : RdD w A ds c) (hz : szD ds ≤ 1048576) :
    Calls Try.prog 9 #[vdesc (.slice A ds.length c)] w fun e w' => ∃ v ps, e = .returned (vdesc v) ∧ rulesOf ps = ds ∧ OwnD w w' v ps ∧ Ext w w' := by
  have C := Lib.hid (fun w h => toRuleS_c A ds c w h hz)
  obtain ⟨W0, HW0, HA, HR, HO, eA, hsA⟩ := boxes3' w #[.slice A ds.length c] #[.slice none 0 0] #[.slice none 0 0] 24 28 28
  have HSA := Lib.hid hsA; clear hsA
  have HA0 := Lib.hid HA; have HR0 := Lib.hid HR; have HO0 := Lib.hid HO; clear HA HR HO
  unfold vdesc
  go_enter Try.func9, Try.ntmps9
  go_wp2_with fail
  rw [← HW0.out]
  refine (C.out _ (h.ext eA)).mono ?_; rintro _ w1 ⟨v1, ps, rfl, hps, ho1, he1⟩
  obtain ⟨A1, c1, rfl⟩ := ho1.shape
  have p1 := (HO0.out.ext he1).cell; have q1 := (HO0.out.ext he1).free
  have r1 := (HR0.out.ext he1).cell; have t1 := (HR0.out.ext he1).free
  have HP := Lib.hid hps; have HO1 := Lib.hid ho1
  have hs1 := he1.size
  clear hps ho1
  go_wp2
  have z0 := HSA.out
  refine bodyPost_ret (v := .agg #[.slice A1 ps.length c1]) (by simp [results, Try.results9, go_sem, p1, q1, r1, t1]) rfl ⟨_, ps, rfl, HP.out, ?_, ?_⟩
  · refine ((HO1.out.keep (grown_set _ ⟨w.heap.size + 1 + 1, 0, none⟩ _) ?_).keep (grown_set _ ⟨w.heap.size + 1, 0, none⟩ _) ?_).down (by omega)
    · intro u hu g hg he'; have := HO1.out.block u hu g hg; injection he' with he'; simp only at he'; omega
    · intro u hu g hg he'; have := HO1.out.block u hu g hg; injection he' with he'; simp only at he'; omega
  · exact ((eA.trans he1).setCell (by simp; omega) _).setCell (by simp) _
end Go.Proofs.Ytalnekcmfagjoaa
