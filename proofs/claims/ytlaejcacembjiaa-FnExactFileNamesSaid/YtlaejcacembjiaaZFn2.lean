/- The laws' copies of descriptions and registries. -/
import Derived.Test.YtlaejcacembjiaaZFn1
import Derived.Deep.RegionHeld3
set_option linter.unusedVariables false
set_option linter.unusedSimpArgs false
namespace Go.Proofs.Ytlaejcacembjiaa
open Go.RowKit Go.Sort

theorem E_str : Elem Try.prog 61 9 1 16 (.string ⟨#[]⟩) := ⟨Try.underlying61, by kernel_rfl, rfl, by omega⟩
set_option maxHeartbeats 400000 in
theorem toStringS_c (A : Option Addr) (l : List ByteArray) (c : Nat) (w : World) (h : Rd0 vstr w A l c) (hL : l.length ≤ 1048576) :
    Calls Try.prog 147 #[.slice A l.length c] w fun e w' => ∃ v, e = .returned v ∧ OwnL vstr 9 w w' v l ∧ Ext w w' := by
  go_enter Try.func147, Try.ntmps147
  go_wp2_with (first
    | (at_make; refine wpList_mk rfl _ _ _ rfl E_str w w (Ext.refl w) l.length rfl rfl (by omega) (by simp [maxLen]; omega) ?_; intro w1 ho he _))
  go_loopw [4] (fun i wr => ∃ k : Nat, k ≤ l.length ∧ i = .int .i64 k ∧ Own 9 1 w wr (.slice (some ⟨w.heap.size, 0, none⟩) l.length l.length) l.length ((l.take k).map vstr ++ List.replicate (l.length - k) (.string ⟨#[]⟩)) ∧ Ext w wr) (fun i _ => l.length - (intOf i).toNat)
  case atStart => exact ⟨0, by omega, rfl, by rw [made_one _ rfl] at ho; simpa using ho, he⟩
  case round =>
    clear ho he
    obtain ⟨k, hk, rfl, ho, he⟩ := hrel
    by_cases hlt : k < l.length
    · obtain ⟨b, off, rfl, hb, hc⟩ := h.at k hlt
      obtain ⟨⟨u0, hu⟩, hf⟩ := ho.slot k (by simp; omega)
      obtain ⟨ho', he'⟩ := ho.store he k (vstr l[k])
      rw [fill_step vstr l _ k hlt] at ho'
      clear h ho
      go_wp2
      go_roundw
      case rel => exact ⟨k+1, by omega, by go_num, ho', he'⟩
      case measure => simp [intOf]; omega
    · obtain rfl : k = l.length := by omega
      go_wp2
      go_ret
      exact ⟨_, rfl, by simpa [OwnL] using ho, he⟩
set_option maxRecDepth 100000 in
set_option maxHeartbeats 4000000 in
theorem toRule_c (r : DRule) (Ab : Option Addr) (cb : Nat) (An : Option Addr) (cn : Nat) (At : Option Addr) (ct : Nat) (Ak : Option Addr) (ck : Nat) (w : World) (h : RdS w r Ab cb An cn At ct Ak ck) (hz : szRl r ≤ 1048576) :
    Calls Try.prog 108 #[vrule r (.slice Ab r.bytes.length cb) (.slice An r.names.length cn) (.slice At r.tags.length ct) (.slice Ak r.kids.length ck)] w fun e w' => ∃ vb vn vt vk, e = .returned (vrule r vb vn vt vk) ∧ RuleOwn w w' ⟨r, vb, vn, vt, vk⟩ ∧ Far [vb, vn, vt, vk] ∧ Ext w w' := by
  obtain ⟨hb, hn, ht, hk⟩ := h
  obtain ⟨⟨s1, s2, s3, s4⟩, z1, z2, z3, z4⟩ := szRl_short hz
  have C1 := Lib.hid (fun w h => toByteS_c Ab r.bytes cb w h z1)
  have C2 := Lib.hid (fun w h => toStringS_c An r.names cn w h z2)
  have C3 := Lib.hid (fun w h => toIntS_c At r.tags ct w h z3)
  have C4 := Lib.hid (fun w h => toIntS_c Ak r.kids ck w h z4)
  obtain ⟨nm, kind, size, little, bytes, names, tags, kids⟩ := r
  dsimp only at *
  obtain ⟨W0, HW0, HA, HR, HO, eA, hsA⟩ := boxes3' w #[.string nm, .int .i64 kind, .int .i64 size, .bool little, .slice Ab bytes.length cb, .slice An names.length cn, .slice At tags.length ct, .slice Ak kids.length ck] #[.string ⟨#[]⟩, .int .i64 0, .int .i64 0, .bool false, .slice none 0 0, .slice none 0 0, .slice none 0 0, .slice none 0 0] #[.string nm, .int .i64 kind, .int .i64 size, .bool little, .slice none 0 0, .slice none 0 0, .slice none 0 0, .slice none 0 0] 126 76 76
  have HSA := Lib.hid hsA; clear hsA
  have HA0 := Lib.hid HA; have HR0 := Lib.hid HR; have HO0 := Lib.hid HO; clear HA HR HO
  unfold vrule
  dsimp only
  go_enter Try.func108, Try.ntmps108
  go_wp2_with fail
  rw [← HW0.out]
  refine (C1.out _ (hb.ext eA)).mono ?_; rintro _ w1 ⟨v1, rfl, ho1, he1⟩
  obtain ⟨A1, c1, rfl, _⟩ := OwnL.rd ho1 s1
  have a1 := (HA0.out.ext he1).cell; have p1 := (HO0.out.ext he1).cell; have q1 := (HO0.out.ext he1).free
  have f1 : (Value.slice A1 bytes.length c1).ownBlock ≠ some (w.heap.size + 1 + 1) := OwnL.far ho1 (.inl (by have := HO0.out.lt; omega))
  have g1 : ∀ g, (Value.slice A1 bytes.length c1).ownBlock = some g → W0.heap.size ≤ g ∧ g < w1.heap.size := fun g hg => World.ownsRow.lt ho1 g hg
  have G1 := Lib.hid g1; have F1 := Lib.hid f1; have S1 := Lib.hid (by simp : w1.heap.size ≤ (w1.setCell ⟨w.heap.size + 1 + 1, 4, none⟩ (.slice A1 bytes.length c1)).heap.size); have T1 := Lib.hid he1.size
  have O11 := Lib.hid (OwnL.other ho1 ⟨w.heap.size + 1 + 1, 4, none⟩ (.slice A1 bytes.length c1) f1)
  have HA1 := Lib.hid ((HA0.out.ext he1).other (g' := w.heap.size + 1 + 1) (by omega) 4 (.slice A1 bytes.length c1)); have HR1 := Lib.hid ((HR0.out.ext he1).other (g' := w.heap.size + 1 + 1) (by omega) 4 (.slice A1 bytes.length c1)); have HO1 := Lib.hid ((HO0.out.ext he1).set 4 (.slice A1 bytes.length c1))
  have e1 := (eA.trans he1).setCell (p := ⟨w.heap.size + 1 + 1, 4, none⟩) (by show w.heap.size ≤ w.heap.size + 1 + 1; omega) (.slice A1 bytes.length c1)
  clear ho1 f1 g1 HA0 HR0 HO0 he1 eA
  go_wp2_with fail
  generalize w1.setCell ⟨w.heap.size + 1 + 1, 4, none⟩ (.slice A1 bytes.length c1) = W1 at *
  clear a1 p1 q1
  refine (C2.out _ (hn.ext e1)).mono ?_; rintro _ w2 ⟨v2, rfl, ho2, he2⟩
  obtain ⟨A2, c2, rfl, _⟩ := OwnL.rd ho2 s2
  have a2 := (HA1.out.ext he2).cell; have p2 := (HO1.out.ext he2).cell; have q2 := (HO1.out.ext he2).free
  have f2 : (Value.slice A2 names.length c2).ownBlock ≠ some (w.heap.size + 1 + 1) := OwnL.far ho2 (.inl (by have := HO1.out.lt; omega))
  have g2 : ∀ g, (Value.slice A2 names.length c2).ownBlock = some g → W1.heap.size ≤ g ∧ g < w2.heap.size := fun g hg => World.ownsRow.lt ho2 g hg
  have G2 := Lib.hid g2; have F2 := Lib.hid f2; have S2 := Lib.hid (by simp : w2.heap.size ≤ (w2.setCell ⟨w.heap.size + 1 + 1, 5, none⟩ (.slice A2 names.length c2)).heap.size); have T2 := Lib.hid he2.size
  have O22 := Lib.hid (OwnL.other ho2 ⟨w.heap.size + 1 + 1, 5, none⟩ (.slice A2 names.length c2) f2)
  have O12 := Lib.hid (OwnL.other (O11.out.ext he2) ⟨w.heap.size + 1 + 1, 5, none⟩ (.slice A2 names.length c2) F1.out)
  have HA2 := Lib.hid ((HA1.out.ext he2).other (g' := w.heap.size + 1 + 1) (by omega) 5 (.slice A2 names.length c2)); have HR2 := Lib.hid ((HR1.out.ext he2).other (g' := w.heap.size + 1 + 1) (by omega) 5 (.slice A2 names.length c2)); have HO2 := Lib.hid ((HO1.out.ext he2).set 5 (.slice A2 names.length c2))
  have e2 := (e1.trans he2).setCell (p := ⟨w.heap.size + 1 + 1, 5, none⟩) (by show w.heap.size ≤ w.heap.size + 1 + 1; omega) (.slice A2 names.length c2)
  clear ho2 f2 g2 HA1 HR1 HO1 he2 e1 O11
  go_wp2_with fail
  generalize w2.setCell ⟨w.heap.size + 1 + 1, 5, none⟩ (.slice A2 names.length c2) = W2 at *
  clear a2 p2 q2
  refine (C3.out _ (ht.ext e2)).mono ?_; rintro _ w3 ⟨v3, rfl, ho3, he3⟩
  obtain ⟨A3, c3, rfl, _⟩ := OwnL.rd ho3 s3
  have a3 := (HA2.out.ext he3).cell; have p3 := (HO2.out.ext he3).cell; have q3 := (HO2.out.ext he3).free
  have f3 : (Value.slice A3 tags.length c3).ownBlock ≠ some (w.heap.size + 1 + 1) := OwnL.far ho3 (.inl (by have := HO2.out.lt; omega))
  have g3 : ∀ g, (Value.slice A3 tags.length c3).ownBlock = some g → W2.heap.size ≤ g ∧ g < w3.heap.size := fun g hg => World.ownsRow.lt ho3 g hg
  have G3 := Lib.hid g3; have F3 := Lib.hid f3; have S3 := Lib.hid (by simp : w3.heap.size ≤ (w3.setCell ⟨w.heap.size + 1 + 1, 6, none⟩ (.slice A3 tags.length c3)).heap.size); have T3 := Lib.hid he3.size
  have O33 := Lib.hid (OwnL.other ho3 ⟨w.heap.size + 1 + 1, 6, none⟩ (.slice A3 tags.length c3) f3)
  have O13 := Lib.hid (OwnL.other (O12.out.ext he3) ⟨w.heap.size + 1 + 1, 6, none⟩ (.slice A3 tags.length c3) F1.out)
  have O23 := Lib.hid (OwnL.other (O22.out.ext he3) ⟨w.heap.size + 1 + 1, 6, none⟩ (.slice A3 tags.length c3) F2.out)
  have HA3 := Lib.hid ((HA2.out.ext he3).other (g' := w.heap.size + 1 + 1) (by omega) 6 (.slice A3 tags.length c3)); have HR3 := Lib.hid ((HR2.out.ext he3).other (g' := w.heap.size + 1 + 1) (by omega) 6 (.slice A3 tags.length c3)); have HO3 := Lib.hid ((HO2.out.ext he3).set 6 (.slice A3 tags.length c3))
  have e3 := (e2.trans he3).setCell (p := ⟨w.heap.size + 1 + 1, 6, none⟩) (by show w.heap.size ≤ w.heap.size + 1 + 1; omega) (.slice A3 tags.length c3)
  clear ho3 f3 g3 HA2 HR2 HO2 he3 e2 O12 O22
  go_wp2_with fail
  generalize w3.setCell ⟨w.heap.size + 1 + 1, 6, none⟩ (.slice A3 tags.length c3) = W3 at *
  clear a3 p3 q3
  refine (C4.out _ (hk.ext e3)).mono ?_; rintro _ w4 ⟨v4, rfl, ho4, he4⟩
  obtain ⟨A4, c4, rfl, _⟩ := OwnL.rd ho4 s4
  have a4 := (HA3.out.ext he4).cell; have p4 := (HO3.out.ext he4).cell; have q4 := (HO3.out.ext he4).free
  have r4 := (HR3.out.ext he4).cell; have t4 := (HR3.out.ext he4).free
  have f4 : (Value.slice A4 kids.length c4).ownBlock ≠ some (w.heap.size + 1 + 1) := OwnL.far ho4 (.inl (by have := HO3.out.lt; omega))
  have g4 : ∀ g, (Value.slice A4 kids.length c4).ownBlock = some g → W3.heap.size ≤ g ∧ g < w4.heap.size := fun g hg => World.ownsRow.lt ho4 g hg
  have G4 := Lib.hid g4; have F4 := Lib.hid f4; have S4 := Lib.hid (by simp : w4.heap.size ≤ (w4.setCell ⟨w.heap.size + 1 + 1, 7, none⟩ (.slice A4 kids.length c4)).heap.size); have T4 := Lib.hid he4.size
  have O44 := Lib.hid (OwnL.other ho4 ⟨w.heap.size + 1 + 1, 7, none⟩ (.slice A4 kids.length c4) f4)
  have O14 := Lib.hid (OwnL.other (O13.out.ext he4) ⟨w.heap.size + 1 + 1, 7, none⟩ (.slice A4 kids.length c4) F1.out)
  have O24 := Lib.hid (OwnL.other (O23.out.ext he4) ⟨w.heap.size + 1 + 1, 7, none⟩ (.slice A4 kids.length c4) F2.out)
  have O34 := Lib.hid (OwnL.other (O33.out.ext he4) ⟨w.heap.size + 1 + 1, 7, none⟩ (.slice A4 kids.length c4) F3.out)
  have HA4 := Lib.hid ((HA3.out.ext he4).other (g' := w.heap.size + 1 + 1) (by omega) 7 (.slice A4 kids.length c4)); have HR4 := Lib.hid ((HR3.out.ext he4).other (g' := w.heap.size + 1 + 1) (by omega) 7 (.slice A4 kids.length c4)); have HO4 := Lib.hid ((HO3.out.ext he4).set 7 (.slice A4 kids.length c4))
  have e4 := (e3.trans he4).setCell (p := ⟨w.heap.size + 1 + 1, 7, none⟩) (by show w.heap.size ≤ w.heap.size + 1 + 1; omega) (.slice A4 kids.length c4)
  clear ho4 f4 g4 HA3 HR3 HO3 he4 e3 O13 O23 O33
  go_wp2
  have z0 := HSA.out
  have S1 := S1.out; have S2 := S2.out; have S3 := S3.out; have S4 := S4.out; have T1 := T1.out; have T2 := T2.out; have T3 := T3.out; have T4 := T4.out
  have G := grown_put8 (w4.setCell ⟨w.heap.size + 1 + 1, 7, none⟩ (.slice A4 kids.length c4)) (w.heap.size + 1) 0 ⟨⟨nm, kind, size, little, bytes, names, tags, kids⟩, .slice A1 bytes.length c1, .slice A2 names.length c2, .slice A3 tags.length c3, .slice A4 kids.length c4⟩
  refine bodyPost_ret (v := .agg #[.string nm, .int .i64 kind, .int .i64 size, .bool little, .slice A1 bytes.length c1, .slice A2 names.length c2, .slice A3 tags.length c3, .slice A4 kids.length c4]) (by simp [results, Try.results108, go_sem, a4, p4, q4, r4, t4]) rfl ⟨_, _, _, _, rfl, ⟨?_, ?_, ?_, ?_⟩, ?_, ?_⟩
  · exact (OwnL.keep O14.out G (fun g hg he => by have := G1.out g hg; injection he with he; omega)).down (by omega)
  · exact (OwnL.keep O24.out G (fun g hg he => by have := G2.out g hg; injection he with he; omega)).down (by omega)
  · exact (OwnL.keep O34.out G (fun g hg he => by have := G3.out g hg; injection he with he; omega)).down (by omega)
  · exact (OwnL.keep O44.out G (fun g hg he => by have := G4.out g hg; injection he with he; omega)).down (by omega)
  · refine Far.cons (Far.cons (Far.cons (Far.one _) ?_) ?_) ?_
    · intro v hv g h1 h2
      have := G3.out g h1
      simp only [List.mem_cons, List.not_mem_nil, or_false] at hv
      rcases hv with rfl
      have := G4.out g h2; omega
    · intro v hv g h1 h2
      have := G2.out g h1
      simp only [List.mem_cons, List.not_mem_nil, or_false] at hv
      rcases hv with rfl | rfl
      · have := G3.out g h2; omega
      · have := G4.out g h2; omega
    · intro v hv g h1 h2
      have := G1.out g h1
      simp only [List.mem_cons, List.not_mem_nil, or_false] at hv
      rcases hv with rfl | rfl | rfl
      · have := G2.out g h2; omega
      · have := G3.out g h2; omega
      · have := G4.out g h2; omega
  · exact e4.grown G (fun g hg => by injection hg with hg; omega)
theorem rulesOf_append (a b : List RV) : rulesOf (a ++ b) = rulesOf a ++ rulesOf b := by simp [rulesOf]
theorem own_grown {e : TypeId} {size : Nat} {w0 w w' : World} {v : Value} {n : Nat} {xs : List Value} (h : Own e size w0 w v n xs) {g : Nat} (hg : w.grownBy w' (some g)) (hne : ∀ k, v.ownBlock = some k → k ≠ g) : Own e size w0 w' v n xs :=
  h.keep hg (fun k hk he => by injection he with he; exact hne k hk he.symm)
set_option maxRecDepth 100000 in
set_option maxHeartbeats 4000000 in
theorem toRuleS_c (A : Option Addr) (ds : List DRule) (c : Nat) (w : World) (h : RdD w A ds c) (hz : szD ds ≤ 1048576) :
    Calls Try.prog 59 #[.slice A ds.length c] w fun e w' => ∃ v ps, e = .returned v ∧ rulesOf ps = ds ∧ OwnD w w' v ps ∧ Ext w w' := by
  have hn : ds.length ≤ 1048576 := by unfold szD at hz; omega
  have HZ : Hid (∀ k (hk : k < ds.length), szRl ds[k] ≤ 1048576) := fun k hk => szD_mem hz (List.getElem_mem hk)
  go_enter Try.func59, Try.ntmps59
  go_wp2_with (first
    | (at_make; refine wpList_mk rfl _ _ _ rfl E_rule w w (Ext.refl w) ds.length rfl rfl (by omega) (by simp [maxLen]; omega) ?_; intro w1 ho he _))
  have hw1 : w.heap.size < w1.heap.size := (World.ownsRow.lt ho _ rfl).2
  obtain ⟨rest0, HR0, HO⟩ : ∃ rest0 : List Value, Hid (rest0.length = ds.length * 8) ∧ Hid (Own 76 8 w w1 (.slice (some ⟨w.heap.size, 0, none⟩) ds.length ds.length) ds.length rest0) := ⟨_, by show _ = _; rw [Array.length_toList, size_madeCells], ho⟩
  clear ho
  go_loopw [4] (fun i wr => ∃ (k : Nat) (ps : List RV) (rest : List Value), k ≤ ds.length ∧ i = .int .i64 k ∧ ps.length ≤ k ∧ k ≤ ps.length ∧ Hid (rulesOf ps = ds.take k) ∧ Hid (rest.length = (ds.length - k) * 8) ∧ Hid (Own 76 8 w wr (.slice (some ⟨w.heap.size, 0, none⟩) ds.length ds.length) ds.length (ps.flatMap RV.cells ++ rest)) ∧ Hid (∀ p ∈ ps, RuleOwn w1 wr p) ∧ Hid (Far (ps.flatMap RV.vals)) ∧ Ext w wr ∧ w1.heap.size ≤ wr.heap.size) (fun i _ => ds.length - (intOf i).toNat)
  case atStart => exact ⟨0, [], rest0, by omega, rfl, by simp, by simp, by simp [Hid, rulesOf], by simpa [Hid] using HR0.out, by simpa [Hid] using HO.out, by simp [Hid], Far.nil, he, Nat.le_refl _⟩
  case round =>
    clear HO HR0 rest0 he
    obtain ⟨k, ps, rest, hk, rfl, hl1, hl2, hps, hrest, ho, hq, hfar, he, hsz⟩ := hrel
    by_cases hlt : k < ds.length
    · obtain ⟨b, off, Ab, cb, An, cn, At, ct, Ak, ck, rfl, hb, hs, hr⟩ := h.at k hlt
      have hzk := HZ.out k hlt
      have HT : Hid (ds.take (k+1) = ds.take k ++ [ds[k]]) := List.take_succ_eq_append_getElem hlt
      generalize ds[k] = r at *
      have C := Lib.hid (fun w h => toRule_c r Ab cb An cn At ct Ak ck w h hzk)
      obtain ⟨k0, k1, k2, k3, k4, k5, k6, k7⟩ := hr
      unfold vrule at C
      clear h
      go_wp2_with fail
      refine (C.out _ (hs.ext he)).mono ?_; rintro _ w2 ⟨vb, vn, vt, vk, rfl, hro, hfr, he2⟩
      obtain ⟨Ab', cb', An', cn', At', ct', Ak', ck', e1, e2, e3, e4, _⟩ := hro.rd (szRl_short hzk).1
      dsimp only at e1 e2 e3 e4
      subst e1 e2 e3 e4
      have ho2 := Own.ext ho.out he2
      have hln : (ps.flatMap RV.cells ++ rest).length = ds.length * 8 := ho2.1
      obtain ⟨⟨u0, hu0⟩, hf0⟩ := ho2.slot (k * 8) (by rw [hln]; omega)
      obtain ⟨⟨u1, hu1⟩, hf1⟩ := ho2.slot (k * 8 + 1) (by rw [hln]; omega)
      obtain ⟨⟨u2, hu2⟩, hf2⟩ := ho2.slot (k * 8 + 2) (by rw [hln]; omega)
      obtain ⟨⟨u3, hu3⟩, hf3⟩ := ho2.slot (k * 8 + 3) (by rw [hln]; omega)
      obtain ⟨⟨u4, hu4⟩, hf4⟩ := ho2.slot (k * 8 + 4) (by rw [hln]; omega)
      obtain ⟨⟨u5, hu5⟩, hf5⟩ := ho2.slot (k * 8 + 5) (by rw [hln]; omega)
      obtain ⟨⟨u6, hu6⟩, hf6⟩ := ho2.slot (k * 8 + 6) (by rw [hln]; omega)
      obtain ⟨⟨u7, hu7⟩, hf7⟩ := ho2.slot (k * 8 + 7) (by rw [hln]; omega)
      have hlr := hrest.out
      have hpl : ps.length = k := by omega
      obtain ⟨hO, hE⟩ := Own.put8 ho2 (he.trans he2) ⟨r, .slice Ab' r.bytes.length cb', .slice An' r.names.length cn', .slice At' r.tags.length ct', .slice Ak' r.kids.length ck'⟩ (by omega) (k * 8) (by rw [cells_len]; omega)
      have hG := grown_put8 w2 w.heap.size (k * 8) ⟨r, .slice Ab' r.bytes.length cb', .slice An' r.names.length cn', .slice At' r.tags.length ct', .slice Ak' r.kids.length ck'⟩
      have HO := Lib.hid hO; have HE := Lib.hid hE; have HG := Lib.hid hG; have HRO := Lib.hid hro; have HF4 := Lib.hid hfr; have HPL := Lib.hid hpl; have HLR := Lib.hid hlr
      have hsz2 := he2.size
      clear ho2 hO hE hG hro hfr hpl hlr ho
      go_wp2
      go_roundw
      case rel =>
        refine ⟨k+1, ps ++ [⟨r, .slice Ab' r.bytes.length cb', .slice An' r.names.length cn', .slice At' r.tags.length ct', .slice Ak' r.kids.length ck'⟩], rest.drop 8, by omega, by go_num, by simp; omega, by simp; omega, ?_, ?_, ?_, ?_, ?_, HE.out, ?_⟩
        · show _ = _; rw [rulesOf_append, hps.out, HT.out]; rfl
        · show _ = _; rw [List.length_drop, HLR.out]; omega
        · show Own _ _ _ _ _ _ _; rw [List.flatMap_append, List.flatMap_cons, List.flatMap_nil, List.append_nil]; exact HO.out
        · intro p hp
          rcases List.mem_append.1 hp with hp | hp
          · exact ((hq.out p hp).ext he2).keep HG.out (fun v hv g hg he' => by have := (hq.out p hp).block v hv g hg; injection he' with he'; omega)
          · obtain rfl := List.mem_singleton.1 hp
            exact (HRO.out.keep HG.out (fun v hv g hg he' => by have := HRO.out.block v hv g hg; injection he' with he'; omega)).down hsz
        · show Far _
          rw [List.flatMap_append, List.flatMap_cons, List.flatMap_nil, List.append_nil]
          refine Far.append hfar.out HF4.out ?_
          intro u hu v hv g h1 h2
          obtain ⟨p, hp, hu⟩ := List.mem_flatMap.1 hu
          have := (hq.out p hp).block u hu g h1
          have := HRO.out.block v hv g h2
          omega
        · first | exact Nat.le_trans (Nat.le_trans hsz hsz2) HG.out.size | exact Nat.le_trans hsz hsz2
      case measure => simp [intOf]; omega
    · obtain rfl : k = ds.length := by omega
      go_wp2
      go_ret
      have hr0 : rest = [] := List.eq_nil_of_length_eq_zero (by have := hrest.out; omega)
      have hlen : ps.length = ds.length := by omega
      refine ⟨_, ps, rfl, ?_, ⟨?_, ?_, ?_⟩, he⟩
      · have := hps.out; rwa [List.take_length] at this
      · have := ho.out; rw [hr0, List.append_nil] at this; rw [hlen]; exact this
      · exact fun p hp => (hq.out p hp).down (by omega)
      · refine Far.cons hfar.out ?_
        intro u hu g h1 h2
        obtain ⟨p, hp, hu⟩ := List.mem_flatMap.1 hu
        have := (hq.out p hp).block u hu g h2
        have h1' : w.heap.size = g := by simpa [Value.ownBlock] using h1
        omega
set_option maxRecDepth 100000 in
set_option maxHeartbeats 1000000 in
theorem toDescription_c (A : Option Addr) (ds : List DRule) (c : Nat) (w : World) (h : RdD w A ds c) (hz : szD ds ≤ 1048576) :
    Calls Try.prog 14 #[vdesc (.slice A ds.length c)] w fun e w' => ∃ v ps, e = .returned (vdesc v) ∧ rulesOf ps = ds ∧ OwnD w w' v ps ∧ Ext w w' := by
  have C := Lib.hid (fun w h => toRuleS_c A ds c w h hz)
  obtain ⟨W0, HW0, HA, HR, HO, eA, hsA⟩ := boxes3' w #[.slice A ds.length c] #[.slice none 0 0] #[.slice none 0 0] 27 38 38
  have HSA := Lib.hid hsA; clear hsA
  have HA0 := Lib.hid HA; have HR0 := Lib.hid HR; have HO0 := Lib.hid HO; clear HA HR HO
  unfold vdesc
  go_enter Try.func14, Try.ntmps14
  go_wp2_with fail
  rw [← HW0.out]
  refine (C.out _ (h.ext eA)).mono ?_; rintro _ w1 ⟨v1, ps, rfl, hps, ho1, he1⟩
  obtain ⟨A1, c1, rfl⟩ := ho1.shape
  have p1 := (HO0.out.ext he1).cell; have q1 := (HO0.out.ext he1).free
  have r1 := (HR0.out.ext he1).cell; have t1 := (HR0.out.ext he1).free
  have HP := Lib.hid hps; have HO1 := Lib.hid ho1
  have hs1 := he1.size
  clear hps ho1
  go_wp2
  have z0 := HSA.out
  refine bodyPost_ret (v := .agg #[.slice A1 ps.length c1]) (by simp [results, Try.results14, go_sem, p1, q1, r1, t1]) rfl ⟨_, ps, rfl, HP.out, ?_, ?_⟩
  · refine ((HO1.out.keep (grown_set _ ⟨w.heap.size + 1 + 1, 0, none⟩ _) ?_).keep (grown_set _ ⟨w.heap.size + 1, 0, none⟩ _) ?_).down (by omega)
    · intro u hu g hg he'; have := HO1.out.block u hu g hg; injection he' with he'; simp only at he'; omega
    · intro u hu g hg he'; have := HO1.out.block u hu g hg; injection he' with he'; simp only at he'; omega
  · exact ((eA.trans he1).setCell (by simp; omega) _).setCell (by simp) _
end Go.Proofs.Ytlaejcacembjiaa

/- The laws' copies of registries. -/
namespace Go.Proofs.Ytlaejcacembjiaa
open Go.RowKit Go.Sort

theorem E_desc : Elem Try.prog 30 38 1 24 (.agg #[.slice none 0 0]) := ⟨Try.underlying30, by kernel_rfl, rfl, by omega⟩
theorem descsOf_append (a b : List (Value × List RV)) : descsOf (a ++ b) = descsOf a ++ descsOf b := by simp [descsOf]
set_option maxRecDepth 100000 in
set_option maxHeartbeats 4000000 in
theorem toDescriptionS_c (A : Option Addr) (ds : List (List DRule)) (c : Nat) (w : World) (h : RdG w A ds c) (hz : szG ds ≤ 1048576) :
    Calls Try.prog 58 #[.slice A ds.length c] w fun e w' => ∃ v qs, e = .returned v ∧ descsOf qs = ds ∧ OwnG w w' v qs ∧ Ext w w' := by
  have hn : ds.length ≤ 1048576 := by unfold szG at hz; omega
  have HZ : Hid (∀ k (hk : k < ds.length), szD ds[k] ≤ 1048576) := fun k hk => szG_mem hz (List.getElem_mem hk)
  go_enter Try.func58, Try.ntmps58
  go_wp2_with (first
    | (at_make; refine wpList_mk rfl _ _ _ rfl E_desc w w (Ext.refl w) ds.length rfl rfl (by omega) (by simp [maxLen]; omega) ?_; intro w1 ho he _))
  have hw1 : w.heap.size < w1.heap.size := (World.ownsRow.lt ho _ rfl).2
  obtain ⟨rest0, HR0, HO⟩ : ∃ rest0 : List Value, Hid (rest0.length = ds.length) ∧ Hid (Own 38 1 w w1 (.slice (some ⟨w.heap.size, 0, none⟩) ds.length ds.length) ds.length rest0) := ⟨_, by show _ = _; rw [Array.length_toList, size_madeCells, Nat.mul_one], ho⟩
  clear ho
  go_loopw [4] (fun i wr => ∃ (k : Nat) (qs : List (Value × List RV)) (rest : List Value), k ≤ ds.length ∧ i = .int .i64 k ∧ qs.length ≤ k ∧ k ≤ qs.length ∧ Hid (descsOf qs = ds.take k) ∧ Hid (rest.length = ds.length - k) ∧ Hid (Own 38 1 w wr (.slice (some ⟨w.heap.size, 0, none⟩) ds.length ds.length) ds.length (qs.map Prod.fst ++ rest)) ∧ Hid (∀ q ∈ qs, OwnD w1 wr q.1 q.2) ∧ Hid (Far (qs.flatMap fun q => q.1 :: q.2.flatMap RV.vals)) ∧ Ext w wr ∧ w1.heap.size ≤ wr.heap.size) (fun i _ => ds.length - (intOf i).toNat)
  case atStart => exact ⟨0, [], rest0, by omega, rfl, by simp, by simp, by simp [Hid, descsOf], by simpa [Hid] using HR0.out, by simpa [Hid] using HO.out, by simp [Hid], Far.nil, he, Nat.le_refl _⟩
  case round =>
    clear HO HR0 rest0 he
    obtain ⟨k, qs, rest, hk, rfl, hl1, hl2, hps, hrest, ho, hq, hfar, he, hsz⟩ := hrel
    by_cases hlt : k < ds.length
    · obtain ⟨b, off, A1, c1, rfl, hb, hs, hr⟩ := h.at k hlt
      have hzk := HZ.out k hlt
      have HT : Hid (ds.take (k+1) = ds.take k ++ [ds[k]]) := List.take_succ_eq_append_getElem hlt
      generalize ds[k] = r at *
      have C := Lib.hid (fun w h => toDescription_c A1 r c1 w h hzk)
      unfold vdesc at C
      clear h
      go_wp2_with fail
      refine (C.out _ (hs.ext he)).mono ?_; rintro _ w2 ⟨v2, ps, rfl, hpr, hro, he2⟩
      obtain ⟨A2, c2, rfl⟩ := hro.shape
      have ho2 := Own.ext ho.out he2
      have hln : (qs.map Prod.fst ++ rest).length = ds.length := by have := ho2.1; omega
      have hlr := hrest.out
      have hpl : qs.length = k := by omega
      obtain ⟨⟨u0, hu0⟩, hf0⟩ := ho2.slot k (by rw [hln]; omega)
      obtain ⟨hO, hE⟩ := Own.store ho2 (he.trans he2) k (.slice A2 ps.length c2)
      have hG := grown_set w2 ⟨w.heap.size, k, none⟩ (.slice A2 ps.length c2)
      have HO : Hid (Own 38 1 w (w2.setCell ⟨w.heap.size, k, none⟩ (.slice A2 ps.length c2)) (.slice (some ⟨w.heap.size, 0, none⟩) ds.length ds.length) ds.length ((qs ++ [(Value.slice A2 ps.length c2, ps)]).map Prod.fst ++ rest.drop 1)) := by
        show Own _ _ _ _ _ _ _
        have : (qs.map Prod.fst ++ rest).set k (.slice A2 ps.length c2) = (qs ++ [(Value.slice A2 ps.length c2, ps)]).map Prod.fst ++ rest.drop 1 := by
          rw [List.set_append_right _ _ (by simp; omega)]
          match rest, hlr with
          | [], hh => simp at hh; omega
          | a :: t, _ => simp [show k - qs.length = 0 by omega]
        rw [← this]; exact hO
      have HE := Lib.hid hE; have HG := Lib.hid hG; have HRO := Lib.hid hro; have HPL := Lib.hid hpl; have HLR := Lib.hid hlr; have HPR := Lib.hid hpr
      have hsz2 := he2.size
      clear ho2 hO hE hG hro hpl hlr ho hpr
      go_wp2
      go_roundw
      case rel =>
        refine ⟨k+1, qs ++ [(.slice A2 ps.length c2, ps)], rest.drop 1, by omega, by go_num, by simp; omega, by simp; omega, ?_, ?_, HO, ?_, ?_, HE.out, ?_⟩
        · show _ = _; rw [descsOf_append, hps.out, HT.out, ← HPR.out]; rfl
        · show _ = _; rw [List.length_drop, HLR.out]; omega
        · intro q hq'
          rcases List.mem_append.1 hq' with hq' | hq'
          · exact ((hq.out q hq').ext he2).keep HG.out (fun v hv g hg he' => by have := (hq.out q hq').block v hv g hg; injection he' with he'; omega)
          · obtain rfl := List.mem_singleton.1 hq'
            exact (HRO.out.keep HG.out (fun v hv g hg he' => by have := HRO.out.block v hv g hg; injection he' with he'; omega)).down hsz
        · show Far _
          rw [List.flatMap_append, List.flatMap_cons, List.flatMap_nil, List.append_nil]
          refine Far.append hfar.out HRO.out.far ?_
          intro u hu v hv g h1 h2
          obtain ⟨p, hp, hu⟩ := List.mem_flatMap.1 hu
          have := (hq.out p hp).block u hu g h1
          have := HRO.out.block v hv g h2
          omega
        · first | exact Nat.le_trans (Nat.le_trans hsz hsz2) HG.out.size | exact Nat.le_trans hsz hsz2
      case measure => simp [intOf]; omega
    · obtain rfl : k = ds.length := by omega
      go_wp2
      go_ret
      have hr0 : rest = [] := List.eq_nil_of_length_eq_zero (by have := hrest.out; omega)
      have hlen : qs.length = ds.length := by omega
      refine ⟨_, qs, rfl, ?_, ⟨?_, ?_, ?_⟩, he⟩
      · have := hps.out; rwa [List.take_length] at this
      · have := ho.out; rw [hr0, List.append_nil] at this; rw [hlen]; exact this
      · exact fun p hp => (hq.out p hp).down (by omega)
      · refine Far.cons hfar.out ?_
        intro u hu g h1 h2
        obtain ⟨p, hp, hu⟩ := List.mem_flatMap.1 hu
        have := (hq.out p hp).block u hu g h2
        have h1' : w.heap.size = g := by simpa [Value.ownBlock] using h1
        omega
set_option maxRecDepth 100000 in
set_option maxHeartbeats 1000000 in
theorem toRegistry_c (A : Option Addr) (ds : List (List DRule)) (c : Nat) (w : World) (h : RdG w A ds c) (hz : szG ds ≤ 1048576) :
    Calls Try.prog 13 #[vdesc (.slice A ds.length c)] w fun e w' => ∃ v qs, e = .returned (vdesc v) ∧ descsOf qs = ds ∧ OwnG w w' v qs ∧ Ext w w' := by
  have C := Lib.hid (fun w h => toDescriptionS_c A ds c w h hz)
  obtain ⟨W0, HW0, HA, HR, HO, eA, hsA⟩ := boxes3' w #[.slice A ds.length c] #[.slice none 0 0] #[.slice none 0 0] 24 32 32
  have HSA := Lib.hid hsA; clear hsA
  have HA0 := Lib.hid HA; have HR0 := Lib.hid HR; have HO0 := Lib.hid HO; clear HA HR HO
  unfold vdesc
  go_enter Try.func13, Try.ntmps13
  go_wp2_with fail
  rw [← HW0.out]
  refine (C.out _ (h.ext eA)).mono ?_; rintro _ w1 ⟨v1, qs, rfl, hps, ho1, he1⟩
  obtain ⟨A1, c1, rfl⟩ := ho1.shape
  have p1 := (HO0.out.ext he1).cell; have q1 := (HO0.out.ext he1).free
  have r1 := (HR0.out.ext he1).cell; have t1 := (HR0.out.ext he1).free
  have HP := Lib.hid hps; have HO1 := Lib.hid ho1
  have hs1 := he1.size
  clear hps ho1
  go_wp2
  have z0 := HSA.out
  refine bodyPost_ret (v := .agg #[.slice A1 qs.length c1]) (by simp [results, Try.results13, go_sem, p1, q1, r1, t1]) rfl ⟨_, qs, rfl, HP.out, ?_, ?_⟩
  · refine ((HO1.out.keep (grown_set _ ⟨w.heap.size + 1 + 1, 0, none⟩ _) ?_).keep (grown_set _ ⟨w.heap.size + 1, 0, none⟩ _) ?_).down (by omega)
    · intro u hu g hg he'; have := HO1.out.block u hu g hg; injection he' with he'; simp only at he'; omega
    · intro u hu g hg he'; have := HO1.out.block u hu g hg; injection he' with he'; simp only at he'; omega
  · exact ((eA.trans he1).setCell (by simp; omega) _).setCell (by simp) _
end Go.Proofs.Ytlaejcacembjiaa

/- Min, Max, InRange. -/
namespace Go.Proofs.Ytlaejcacembjiaa
open Go.RowKit Go.Sort

set_option maxHeartbeats 400000 in
theorem iMinLess_c (a b : Int) (w : World) : Gives Try.prog 155 #[.int .i64 a, .int .i64 b] w (.bool (decide (a < b))) := by
  go_enter Try.func155, Try.ntmps155
  go_wp2
  go_ret
  exact ⟨rfl, Ext.refl _⟩

set_option maxHeartbeats 400000 in
theorem iMaxMore_c (a b : Int) (w : World) : Gives Try.prog 156 #[.int .i64 a, .int .i64 b] w (.bool (decide (b < a))) := by
  go_enter Try.func156, Try.ntmps156
  go_wp2
  go_ret
  exact ⟨rfl, Ext.refl _⟩
set_option maxHeartbeats 400000 in
theorem iInRange_c (n a b : Int) (w : World) : Gives Try.prog 109 #[.int .i64 n, .int .i64 a, .int .i64 b] w (.bool (decide (a ≤ n) && decide (n ≤ b))) := by
  by_cases h : a ≤ n
  · go_enter Try.func109, Try.ntmps109
    go_wp2
    go_ret
    exact ⟨ret_bool (by simp [h]), Ext.refl _⟩
  · go_enter Try.func109, Try.ntmps109
    go_wp2
    go_ret
    exact ⟨ret_bool (by simp; omega), Ext.refl _⟩
set_option maxHeartbeats 400000 in
theorem sMin_c (a b : Int) (w : World) : Gives Try.prog 122 #[.int .i64 a, .int .i64 b] w (.int .i64 (if b < a then b else a)) := by
  by_cases h : b < a
  · have H : Hid ((if b < a then b else a) = b) := if_pos h
    rw [H.out]
    go_enter Try.func122, Try.ntmps122
    go_wp2
    go_ret
    exact ⟨rfl, Ext.refl _⟩
  · have H : Hid ((if b < a then b else a) = a) := if_neg h
    rw [H.out]
    go_enter Try.func122, Try.ntmps122
    go_wp2
    go_ret
    exact ⟨rfl, Ext.refl _⟩

set_option maxHeartbeats 400000 in
theorem sMax_c (a b : Int) (w : World) : Gives Try.prog 121 #[.int .i64 a, .int .i64 b] w (.int .i64 (if a < b then b else a)) := by
  by_cases h : a < b
  · have H : Hid ((if a < b then b else a) = b) := if_pos h
    rw [H.out]
    go_enter Try.func121, Try.ntmps121
    go_wp2
    go_ret
    exact ⟨rfl, Ext.refl _⟩
  · have H : Hid ((if a < b then b else a) = a) := if_neg h
    rw [H.out]
    go_enter Try.func121, Try.ntmps121
    go_wp2
    go_ret
    exact ⟨rfl, Ext.refl _⟩
set_option maxHeartbeats 1000000 in
theorem pickMin_c (a b : Int) (g : Nat) (w : World) (hc : ∀ w', Ext w w' → w'.cell? ⟨g, 0, none⟩ = some (.int .i64 b)) :
    Gives Try.prog 154 #[.func (.func 155) #[] #[], .int .i64 a, .slice (some ⟨g, 0, none⟩) 1 1] w (.int .i64 (if b < a then b else a)) := by
  go_enter Try.func154, Try.ntmps154
  go_wp2_with fail
  go_loopw [1, 11] (fun t i wr => ∃ k : Nat, k ≤ 1 ∧ i = .int .i64 k ∧ t = .int .i64 (if k = 0 then a else if b < a then b else a) ∧ Ext w wr) (fun _ i _ => 1 - (intOf i).toNat)
  case atStart => exact ⟨0, by omega, rfl, rfl, Ext.refl _⟩
  case round =>
    obtain ⟨k, hk, rfl, rfl, he⟩ := hrel
    rcases (by omega : k = 0 ∨ k = 1) with rfl | rfl
    · by_cases h : b < a
      · have H : Hid ((if b < a then b else a) = b) := if_pos h
        have hd : decide (b < a) = true := decide_eq_true h
        rw [H.out]
        go_wp2_with (go_at_call 155; refine (iMinLess_c _ _ _).mono ?_; rintro _ w1 ⟨rfl, he1⟩; rw [hd])
        go_roundw
        case rel => exact ⟨1, by omega, by go_num, rfl, he.trans he1⟩
        case measure => simp [intOf]
      · have H : Hid ((if b < a then b else a) = a) := if_neg h
        have hd : decide (b < a) = false := decide_eq_false h
        rw [H.out]
        go_wp2_with (go_at_call 155; refine (iMinLess_c _ _ _).mono ?_; rintro _ w1 ⟨rfl, he1⟩; rw [hd])
        go_roundw
        case rel => exact ⟨1, by omega, by go_num, rfl, he.trans he1⟩
        case measure => simp [intOf]
    · by_cases h : b < a
      · have H : Hid ((if b < a then b else a) = b) := if_pos h
        rw [H.out]
        go_wp2
        go_ret
        exact ⟨rfl, he⟩
      · have H : Hid ((if b < a then b else a) = a) := if_neg h
        rw [H.out]
        go_wp2
        go_ret
        exact ⟨rfl, he⟩

set_option maxHeartbeats 1000000 in
theorem pickMax_c (a b : Int) (g : Nat) (w : World) (hc : ∀ w', Ext w w' → w'.cell? ⟨g, 0, none⟩ = some (.int .i64 b)) :
    Gives Try.prog 154 #[.func (.func 156) #[] #[], .int .i64 a, .slice (some ⟨g, 0, none⟩) 1 1] w (.int .i64 (if a < b then b else a)) := by
  go_enter Try.func154, Try.ntmps154
  go_wp2_with fail
  go_loopw [1, 11] (fun t i wr => ∃ k : Nat, k ≤ 1 ∧ i = .int .i64 k ∧ t = .int .i64 (if k = 0 then a else if a < b then b else a) ∧ Ext w wr) (fun _ i _ => 1 - (intOf i).toNat)
  case atStart => exact ⟨0, by omega, rfl, rfl, Ext.refl _⟩
  case round =>
    obtain ⟨k, hk, rfl, rfl, he⟩ := hrel
    rcases (by omega : k = 0 ∨ k = 1) with rfl | rfl
    · by_cases h : a < b
      · have H : Hid ((if a < b then b else a) = b) := if_pos h
        have hd : decide (a < b) = true := decide_eq_true h
        rw [H.out]
        go_wp2_with (go_at_call 156; refine (iMaxMore_c _ _ _).mono ?_; rintro _ w1 ⟨rfl, he1⟩; rw [hd])
        go_roundw
        case rel => exact ⟨1, by omega, by go_num, rfl, he.trans he1⟩
        case measure => simp [intOf]
      · have H : Hid ((if a < b then b else a) = a) := if_neg h
        have hd : decide (a < b) = false := decide_eq_false h
        rw [H.out]
        go_wp2_with (go_at_call 156; refine (iMaxMore_c _ _ _).mono ?_; rintro _ w1 ⟨rfl, he1⟩; rw [hd])
        go_roundw
        case rel => exact ⟨1, by omega, by go_num, rfl, he.trans he1⟩
        case measure => simp [intOf]
    · by_cases h : a < b
      · have H : Hid ((if a < b then b else a) = b) := if_pos h
        rw [H.out]
        go_wp2
        go_ret
        exact ⟨rfl, he⟩
      · have H : Hid ((if a < b then b else a) = a) := if_neg h
        rw [H.out]
        go_wp2
        go_ret
        exact ⟨rfl, he⟩
set_option maxHeartbeats 1000000 in
theorem iMin_c (a b : Int) (w : World) : Gives Try.prog 123 #[.int .i64 a, .int .i64 b] w (.int .i64 (if b < a then b else a)) := by
  have C := Lib.hid (fun g w hc => pickMin_c a b g w hc)
  generalize (if b < a then b else a) = r at *
  go_enter Try.func123, Try.ntmps123
  go_wp2_with fail
  refine (C.out _ _ (fun w' e => boxed e 0)).mono ?_
  rintro _ w1 ⟨rfl, he⟩
  go_wp2
  go_ret
  exact ⟨rfl, (Ext_alloc _ (Ext.refl w)).trans he⟩

set_option maxHeartbeats 1000000 in
theorem iMax_c (a b : Int) (w : World) : Gives Try.prog 124 #[.int .i64 a, .int .i64 b] w (.int .i64 (if a < b then b else a)) := by
  have C := Lib.hid (fun g w hc => pickMax_c a b g w hc)
  generalize (if a < b then b else a) = r at *
  go_enter Try.func124, Try.ntmps124
  go_wp2_with fail
  refine (C.out _ _ (fun w' e => boxed e 0)).mono ?_
  rintro _ w1 ⟨rfl, he⟩
  go_wp2
  go_ret
  exact ⟨rfl, (Ext_alloc _ (Ext.refl w)).trans he⟩
end Go.Proofs.Ytlaejcacembjiaa

/- MergeCoverage of the program and of the reference. -/
namespace Go.Proofs.Ytlaejcacembjiaa
open Go.RowKit Go.Sort

set_option maxHeartbeats 400000 in
theorem eqIntS_c (A A' : Option Addr) (l l' : List Int) (c c' : Nat) (w : World) (h : Is w A l c) (h' : Is w A' l' c') :
    Gives Try.prog 151 #[.slice A l.length c, .slice A' l'.length c'] w (.bool (l == l')) := by
  have hl := h.len; have hl' := h'.len
  by_cases hn : l.length = l'.length
  · have hb1 : ((l.length : Int) != (l'.length : Int)) = false := by simp [hn]
    have H := Lib.hid hn; clear hn
    go_enter Try.func151, Try.ntmps151
    go_wp2
    go_loopw [5, 4] (fun i v wr => ∃ k : Nat, k ≤ l.length ∧ i = .int .i64 k ∧ Hid (l.take k = l'.take k) ∧ Ext w wr) (fun i _ _ => l.length - (intOf i).toNat)
    case atStart => exact ⟨0, by omega, rfl, by simp [Hid], Ext.refl _⟩
    case round =>
      obtain ⟨k, hk, rfl, ht, he⟩ := hrel
      by_cases hlt : k < l.length
      · have hlt' : k < l'.length := by have := H.out; omega
        obtain ⟨b, off, rfl, hb, hc⟩ := h.at k hlt
        obtain ⟨b', off', rfl, hb', hc'⟩ := h'.at k hlt'
        clear h h'
        go_wp2
        refine wp_region_quiet_below (by kernel_rfl) (by kernel_rfl) ?_
        repeat (go_big_quiet_step (fail))
        refine wpQuiet_nil ?_
        rintro _ ⟨⟨nq, osq⟩, rfl⟩
        go_wp2
        · have hne : (l[k] != l'[k]) = true := by assumption
          go_ret
          refine ⟨ret_bool ?_, Ext_regrown _ _ he⟩
          symm; rw [beq_eq_false_iff_ne]; rintro rfl; simp at hne
        · have hne : (l[k] != l'[k]) = false := by assumption
          go_roundw
          case rel => exact ⟨k+1, by omega, by go_num, take_eq_succ hlt hlt' ht (by simpa using hne), Ext_regrown _ _ he⟩
          case measure => simp [intOf]; omega
      · go_wp2
        go_ret
        refine ⟨ret_bool ?_, he⟩
        have ht := ht.out; have H := H.out
        rw [List.take_of_length_le (by omega), List.take_of_length_le (by omega)] at ht
        simp [ht]
  · have hb1 : ((l.length : Int) != (l'.length : Int)) = true := by simp; omega
    go_enter Try.func151, Try.ntmps151
    go_wp2
    go_ret
    refine ⟨ret_bool ?_, Ext.refl _⟩
    symm; rw [beq_eq_false_iff_ne]; rintro rfl; exact hn rfl

def at0 (l : List Int) (i : Nat) : Int := l.getD i 0
theorem at0_in {l : List Int} {i : Nat} (h : i < l.length) : at0 l i = l[i] := by unfold at0; simp [h]
theorem at0_out {l : List Int} {i : Nat} (h : ¬ i < l.length) : at0 l i = 0 := by unfold at0; simp [List.getElem?_eq_none (Nat.le_of_not_lt h)]
def merged (a b : List Int) : List Int := (List.range (max a.length b.length)).map fun i => wrap64 (at0 a i + at0 b i)
theorem merged_len (l l' : List Int) : (merged l l').length = max l.length l'.length := by simp [merged]
theorem merged_take {l l' : List Int} {k : Nat} (hk : k < max l.length l'.length) : (merged l l').take k ++ [wrap64 (at0 l k + at0 l' k)] = (merged l l').take (k+1) := by
  have hk' : k < (merged l l').length := by rw [merged_len]; exact hk
  rw [List.take_succ_eq_append_getElem hk']
  simp [merged]
end Go.Proofs.Ytlaejcacembjiaa

/- Comparison of descriptions: the laws' helpers, the program's and the reference's. -/
namespace Go.Proofs.Ytlaejcacembjiaa
open Go.RowKit Go.Sort

def eqNm (a b : ByteArray) : Bool := a.toList == b.toList
def eqNms (l l' : List ByteArray) : Bool := l.map ByteArray.toList == l'.map ByteArray.toList
def eqR (r q : DRule) : Bool := r.nm.toList == q.nm.toList && r.kind == q.kind && r.size == q.size && r.little == q.little && r.bytes == q.bytes && eqNms r.names q.names && r.tags == q.tags && r.kids == q.kids
def eqAll {α : Type} (f : α → α → Bool) : List α → List α → Bool
  | [], [] => true
  | a :: s, b :: t => f a b && eqAll f s t
  | _, _ => false
theorem eqAll_len {α : Type} (f : α → α → Bool) : ∀ (s t : List α), s.length ≠ t.length → eqAll f s t = false
  | [], [], h => absurd rfl h
  | [], _ :: _, _ => rfl
  | _ :: _, [], _ => rfl
  | a :: s, b :: t, h => by rw [eqAll, eqAll_len f s t (by simpa using h), Bool.and_false]
theorem eqAll_take {α : Type} (f : α → α → Bool) : ∀ (s t : List α) (k : Nat) (h1 : k < s.length) (h2 : k < t.length), f s[k] t[k] = false → eqAll f s t = false
  | a :: s, b :: t, 0, _, _, h => by rw [eqAll]; simp at h; rw [h]; rfl
  | a :: s, b :: t, k + 1, h1, h2, h => by rw [eqAll, eqAll_take f s t k (by simpa using h1) (by simpa using h2) (by simpa using h), Bool.and_false]
theorem eqAll_all {α : Type} (f : α → α → Bool) : ∀ (s t : List α), s.length = t.length → (∀ k (h1 : k < s.length) (h2 : k < t.length), f s[k] t[k] = true) → eqAll f s t = true
  | [], [], _, _ => rfl
  | a :: s, b :: t, hl, h => by
    rw [eqAll, eqAll_all f s t (by simpa using hl) (fun k h1 h2 => by have := h (k+1) (by simpa using h1) (by simpa using h2); simpa using this)]
    have := h 0 (by simp) (by simp); simp at this; rw [this]; rfl
  | [], _ :: _, h, _ => by simp at h
  | _ :: _, [], h, _ => by simp at h
theorem eqAll_refl {α : Type} (f : α → α → Bool) (s : List α) (h : ∀ a ∈ s, f a a = true) : eqAll f s s = true := eqAll_all f s s rfl (fun k h1 _ => h _ (List.getElem_mem h1))
def eqD (s t : List DRule) : Bool := eqAll eqR s t
def eqG (s t : List (List DRule)) : Bool := eqAll eqD s t
theorem eqNms_refl (l : List ByteArray) : eqNms l l = true := by simp [eqNms]
theorem eqR_refl (r : DRule) : eqR r r = true := by simp [eqR, eqNms_refl]
theorem eqD_refl (s : List DRule) : eqD s s = true := eqAll_refl _ _ (fun a _ => eqR_refl a)
theorem eqG_refl (s : List (List DRule)) : eqG s s = true := eqAll_refl _ _ (fun a _ => eqD_refl a)
end Go.Proofs.Ytlaejcacembjiaa

/- Comparison of descriptions: the laws' helpers, the program's and the reference's. -/
namespace Go.Proofs.Ytlaejcacembjiaa
open Go.RowKit Go.Sort

theorem eqNms_take {l l' : List ByteArray} {k : Nat} (h1 : k < l.length) (h2 : k < l'.length) (h : (l.take k).map ByteArray.toList = (l'.take k).map ByteArray.toList) (e : (l[k].toList == l'[k].toList) = true) : (l.take (k+1)).map ByteArray.toList = (l'.take (k+1)).map ByteArray.toList := by
  rw [List.take_succ_eq_append_getElem h1, List.take_succ_eq_append_getElem h2, List.map_append, List.map_append, h]
  simp at e
  simp [e]
theorem eqNms_no {l l' : List ByteArray} {k : Nat} (h1 : k < l.length) (h2 : k < l'.length) (e : (l[k].toList == l'[k].toList) = false) : eqNms l l' = false := by
  unfold eqNms
  rw [beq_eq_false_iff_ne]
  intro h
  have h3 : (l.map ByteArray.toList)[k]? = (l'.map ByteArray.toList)[k]? := by rw [h]
  simp [h1, h2] at h3
  simp [h3] at e
set_option maxHeartbeats 400000 in
theorem eqStringS_c (A A' : Option Addr) (l l' : List ByteArray) (c c' : Nat) (w : World) (h : Rd0 vstr w A l c) (h' : Rd0 vstr w A' l' c') :
    Gives Try.prog 32 #[.slice A l.length c, .slice A' l'.length c'] w (.bool (eqNms l l')) := by
  have hl := h.len; have hl' := h'.len
  by_cases hn : l.length = l'.length
  · have hb1 : ((l.length : Int) != (l'.length : Int)) = false := by simp [hn]
    have H := Lib.hid hn; clear hn
    go_enter Try.func32, Try.ntmps32
    go_wp2
    go_loopw [5, 4] (fun i v wr => ∃ k : Nat, k ≤ l.length ∧ i = .int .i64 k ∧ Hid ((l.take k).map ByteArray.toList = (l'.take k).map ByteArray.toList) ∧ Ext w wr) (fun i _ _ => l.length - (intOf i).toNat)
    case atStart => exact ⟨0, by omega, rfl, by simp [Hid], Ext.refl _⟩
    case round =>
      obtain ⟨k, hk, rfl, ht, he⟩ := hrel
      by_cases hlt : k < l.length
      · have hlt' : k < l'.length := by have := H.out; omega
        obtain ⟨b, off, rfl, hb, hc⟩ := h.at k hlt
        obtain ⟨b', off', rfl, hb', hc'⟩ := h'.at k hlt'
        clear h h'
        go_wp2
        refine wp_region_quiet_below (by kernel_rfl) (by kernel_rfl) ?_
        repeat (go_big_quiet_step (fail))
        refine wpQuiet_nil ?_
        rintro _ ⟨⟨nq, osq⟩, rfl⟩
        go_wp2
        · have hne : (l[k].toList != l'[k].toList) = true := by assumption
          go_ret
          refine ⟨ret_bool ?_, Ext_regrown _ _ he⟩
          exact (eqNms_no hlt hlt' (by simpa using hne)).symm
        · have hne : (l[k].toList != l'[k].toList) = false := by assumption
          go_roundw
          case rel => exact ⟨k+1, by omega, by go_num, eqNms_take hlt hlt' ht.out (by simpa using hne), Ext_regrown _ _ he⟩
          case measure => simp [intOf]; omega
      · go_wp2
        go_ret
        refine ⟨ret_bool ?_, he⟩
        have ht := ht.out; have H := H.out
        rw [List.take_of_length_le (by omega), List.take_of_length_le (by omega)] at ht
        simp [eqNms, ht]
  · have hb1 : ((l.length : Int) != (l'.length : Int)) = true := by simp; omega
    go_enter Try.func32, Try.ntmps32
    go_wp2
    go_ret
    refine ⟨ret_bool ?_, Ext.refl _⟩
    symm; unfold eqNms; rw [beq_eq_false_iff_ne]; intro h2; exact hn (by have := congrArg List.length h2; simpa using this)

set_option maxHeartbeats 400000 in
theorem sameTexts_c (A A' : Option Addr) (l l' : List ByteArray) (c c' : Nat) (w : World) (h : Rd0 vstr w A l c) (h' : Rd0 vstr w A' l' c') :
    Gives Try.prog 44 #[.slice A l.length c, .slice A' l'.length c'] w (.bool (eqNms l l')) := by
  have hl := h.len; have hl' := h'.len
  by_cases hn : l.length = l'.length
  · have hb1 : ((l.length : Int) != (l'.length : Int)) = false := by simp [hn]
    have H := Lib.hid hn; clear hn
    go_enter Try.func44, Try.ntmps44
    go_wp2
    go_loopw [5, 4] (fun i v wr => ∃ k : Nat, k ≤ l.length ∧ i = .int .i64 k ∧ Hid ((l.take k).map ByteArray.toList = (l'.take k).map ByteArray.toList) ∧ Ext w wr) (fun i _ _ => l.length - (intOf i).toNat)
    case atStart => exact ⟨0, by omega, rfl, by simp [Hid], Ext.refl _⟩
    case round =>
      obtain ⟨k, hk, rfl, ht, he⟩ := hrel
      by_cases hlt : k < l.length
      · have hlt' : k < l'.length := by have := H.out; omega
        obtain ⟨b, off, rfl, hb, hc⟩ := h.at k hlt
        obtain ⟨b', off', rfl, hb', hc'⟩ := h'.at k hlt'
        clear h h'
        go_wp2
        refine wp_region_quiet_below (by kernel_rfl) (by kernel_rfl) ?_
        repeat (go_big_quiet_step (fail))
        refine wpQuiet_nil ?_
        rintro _ ⟨⟨nq, osq⟩, rfl⟩
        go_wp2
        · have hne : (l[k].toList != l'[k].toList) = true := by assumption
          go_ret
          refine ⟨ret_bool ?_, Ext_regrown _ _ he⟩
          exact (eqNms_no hlt hlt' (by simpa using hne)).symm
        · have hne : (l[k].toList != l'[k].toList) = false := by assumption
          go_roundw
          case rel => exact ⟨k+1, by omega, by go_num, eqNms_take hlt hlt' ht.out (by simpa using hne), Ext_regrown _ _ he⟩
          case measure => simp [intOf]; omega
      · go_wp2
        go_ret
        refine ⟨ret_bool ?_, he⟩
        have ht := ht.out; have H := H.out
        rw [List.take_of_length_le (by omega), List.take_of_length_le (by omega)] at ht
        simp [eqNms, ht]
  · have hb1 : ((l.length : Int) != (l'.length : Int)) = true := by simp; omega
    go_enter Try.func44, Try.ntmps44
    go_wp2
    go_ret
    refine ⟨ret_bool ?_, Ext.refl _⟩
    symm; unfold eqNms; rw [beq_eq_false_iff_ne]; intro h2; exact hn (by have := congrArg List.length h2; simpa using this)

set_option maxHeartbeats 400000 in
theorem l4Texts_c (A A' : Option Addr) (l l' : List ByteArray) (c c' : Nat) (w : World) (h : Rd0 vstr w A l c) (h' : Rd0 vstr w A' l' c') :
    Gives Try.prog 139 #[.slice A l.length c, .slice A' l'.length c'] w (.bool (eqNms l l')) := by
  have hl := h.len; have hl' := h'.len
  by_cases hn : l.length = l'.length
  · have hb1 : ((l.length : Int) != (l'.length : Int)) = false := by simp [hn]
    have H := Lib.hid hn; clear hn
    go_enter Try.func139, Try.ntmps139
    go_wp2
    go_loopw [5, 4] (fun i v wr => ∃ k : Nat, k ≤ l.length ∧ i = .int .i64 k ∧ Hid ((l.take k).map ByteArray.toList = (l'.take k).map ByteArray.toList) ∧ Ext w wr) (fun i _ _ => l.length - (intOf i).toNat)
    case atStart => exact ⟨0, by omega, rfl, by simp [Hid], Ext.refl _⟩
    case round =>
      obtain ⟨k, hk, rfl, ht, he⟩ := hrel
      by_cases hlt : k < l.length
      · have hlt' : k < l'.length := by have := H.out; omega
        obtain ⟨b, off, rfl, hb, hc⟩ := h.at k hlt
        obtain ⟨b', off', rfl, hb', hc'⟩ := h'.at k hlt'
        clear h h'
        go_wp2
        refine wp_region_quiet_below (by kernel_rfl) (by kernel_rfl) ?_
        repeat (go_big_quiet_step (fail))
        refine wpQuiet_nil ?_
        rintro _ ⟨⟨nq, osq⟩, rfl⟩
        go_wp2
        · have hne : (l[k].toList != l'[k].toList) = true := by assumption
          go_ret
          refine ⟨ret_bool ?_, Ext_regrown _ _ he⟩
          exact (eqNms_no hlt hlt' (by simpa using hne)).symm
        · have hne : (l[k].toList != l'[k].toList) = false := by assumption
          go_roundw
          case rel => exact ⟨k+1, by omega, by go_num, eqNms_take hlt hlt' ht.out (by simpa using hne), Ext_regrown _ _ he⟩
          case measure => simp [intOf]; omega
      · go_wp2
        go_ret
        refine ⟨ret_bool ?_, he⟩
        have ht := ht.out; have H := H.out
        rw [List.take_of_length_le (by omega), List.take_of_length_le (by omega)] at ht
        simp [eqNms, ht]
  · have hb1 : ((l.length : Int) != (l'.length : Int)) = true := by simp; omega
    go_enter Try.func139, Try.ntmps139
    go_wp2
    go_ret
    refine ⟨ret_bool ?_, Ext.refl _⟩
    symm; unfold eqNms; rw [beq_eq_false_iff_ne]; intro h2; exact hn (by have := congrArg List.length h2; simpa using this)
set_option maxHeartbeats 400000 in
theorem l4Ints_c (A A' : Option Addr) (l l' : List Int) (c c' : Nat) (w : World) (h : Rd0 vint w A l c) (h' : Rd0 vint w A' l' c') :
    Gives Try.prog 140 #[.slice A l.length c, .slice A' l'.length c'] w (.bool (l == l')) := by
  have hl := h.len; have hl' := h'.len
  by_cases hn : l.length = l'.length
  · have hb1 : ((l.length : Int) != (l'.length : Int)) = false := by simp [hn]
    have H := Lib.hid hn; clear hn
    go_enter Try.func140, Try.ntmps140
    go_wp2
    go_loopw [5, 4] (fun i v wr => ∃ k : Nat, k ≤ l.length ∧ i = .int .i64 k ∧ Hid (l.take k = l'.take k) ∧ Ext w wr) (fun i _ _ => l.length - (intOf i).toNat)
    case atStart => exact ⟨0, by omega, rfl, by simp [Hid], Ext.refl _⟩
    case round =>
      obtain ⟨k, hk, rfl, ht, he⟩ := hrel
      by_cases hlt : k < l.length
      · have hlt' : k < l'.length := by have := H.out; omega
        obtain ⟨b, off, rfl, hb, hc⟩ := h.at k hlt
        obtain ⟨b', off', rfl, hb', hc'⟩ := h'.at k hlt'
        clear h h'
        go_wp2
        refine wp_region_quiet_below (by kernel_rfl) (by kernel_rfl) ?_
        repeat (go_big_quiet_step (fail))
        refine wpQuiet_nil ?_
        rintro _ ⟨⟨nq, osq⟩, rfl⟩
        go_wp2
        · have hne : (l[k] != l'[k]) = true := by assumption
          go_ret
          refine ⟨ret_bool ?_, Ext_regrown _ _ he⟩
          symm; rw [beq_eq_false_iff_ne]; rintro rfl; simp at hne
        · have hne : (l[k] != l'[k]) = false := by assumption
          go_roundw
          case rel => exact ⟨k+1, by omega, by go_num, take_eq_succ hlt hlt' ht (by simpa using hne), Ext_regrown _ _ he⟩
          case measure => simp [intOf]; omega
      · go_wp2
        go_ret
        refine ⟨ret_bool ?_, he⟩
        have ht := ht.out; have H := H.out
        rw [List.take_of_length_le (by omega), List.take_of_length_le (by omega)] at ht
        simp [ht]
  · have hb1 : ((l.length : Int) != (l'.length : Int)) = true := by simp; omega
    go_enter Try.func140, Try.ntmps140
    go_wp2
    go_ret
    refine ⟨ret_bool ?_, Ext.refl _⟩
    symm; rw [beq_eq_false_iff_ne]; rintro rfl; exact hn rfl
set_option maxRecDepth 100000 in
set_option maxHeartbeats 4000000 in
theorem eqRule_c (r q : DRule) (Ab : Option Addr) (cb : Nat) (An : Option Addr) (cn : Nat) (At : Option Addr) (ct : Nat) (Ak : Option Addr) (ck : Nat) (Ab' : Option Addr) (cb' : Nat) (An' : Option Addr) (cn' : Nat) (At' : Option Addr) (ct' : Nat) (Ak' : Option Addr) (ck' : Nat) (w : World) (h : RdS w r Ab cb An cn At ct Ak ck) (h' : RdS w q Ab' cb' An' cn' At' ct' Ak' ck') (hs : ShortR r) (hs' : ShortR q) :
    Gives Try.prog 112 #[vrule r (.slice Ab r.bytes.length cb) (.slice An r.names.length cn) (.slice At r.tags.length ct) (.slice Ak r.kids.length ck), vrule q (.slice Ab' q.bytes.length cb') (.slice An' q.names.length cn') (.slice At' q.tags.length ct') (.slice Ak' q.kids.length ck')] w (.bool (eqR r q)) := by
  have eb := Ext_alloc (.cells #[.string q.nm, .int .i64 q.kind, .int .i64 q.size, .bool q.little, .slice Ab' q.bytes.length cb', .slice An' q.names.length cn', .slice At' q.tags.length ct', .slice Ak' q.kids.length ck'] 76) (Ext_alloc (.cells #[.string r.nm, .int .i64 r.kind, .int .i64 r.size, .bool r.little, .slice Ab r.bytes.length cb, .slice An r.names.length cn, .slice At r.tags.length ct, .slice Ak r.kids.length ck] 76) (Ext.refl w))
  have BX := fun w' (e : Ext ((w.alloc (.cells #[.string r.nm, .int .i64 r.kind, .int .i64 r.size, .bool r.little, .slice Ab r.bytes.length cb, .slice An r.names.length cn, .slice At r.tags.length ct, .slice Ak r.kids.length ck] 76)).alloc (.cells #[.string q.nm, .int .i64 q.kind, .int .i64 q.size, .bool q.little, .slice Ab' q.bytes.length cb', .slice An' q.names.length cn', .slice At' q.tags.length ct', .slice Ak' q.kids.length ck'] 76)) w') => boxed2 e
  have B0 := fun w' e => (BX w' e).1
  have B1 := fun w' e => (BX w' e).2.1
  clear BX
  have C5 := Lib.hid (fun w h h' => eqByteS_c Ab Ab' r.bytes q.bytes cb cb' w h h')
  have C6 := Lib.hid (fun w h h' => eqStringS_c An An' r.names q.names cn cn' w h h')
  have C7 := Lib.hid (fun w h h' => eqIntS_c At At' r.tags q.tags ct ct' w h h')
  have C8 := Lib.hid (fun w h h' => eqIntS_c Ak Ak' r.kids q.kids ck ck' w h h')
  have K5 := Lib.hid (fun w' (e : Ext w w') => C5.out w' (⟨h.b.ext e, hs.1⟩) (⟨h'.b.ext e, hs'.1⟩))
  have K6 := Lib.hid (fun w' (e : Ext w w') => C6.out w' (h.n.ext e) (h'.n.ext e))
  have K7 := Lib.hid (fun w' (e : Ext w w') => C7.out w' ⟨h.t.ext e, hs.2.2.1⟩ ⟨h'.t.ext e, hs'.2.2.1⟩)
  have K8 := Lib.hid (fun w' (e : Ext w w') => C8.out w' ⟨h.k.ext e, hs.2.2.2⟩ ⟨h'.k.ext e, hs'.2.2.2⟩)
  clear C5 C6 C7 C8 h h' hs hs'
  unfold eqR
  generalize (r.bytes == q.bytes) = q5 at *
  generalize eqNms r.names q.names = q6 at *
  generalize (r.tags == q.tags) = q7 at *
  generalize (r.kids == q.kids) = q8 at *
  obtain ⟨nm, kind, size, little, bytes, names, tags, kids⟩ := r
  obtain ⟨nm', kind', size', little', bytes', names', tags', kids'⟩ := q
  unfold vrule
  dsimp only at *
  have HB0 := Lib.hid B0; have HB1 := Lib.hid B1; have b00 := B0 _ (Ext.refl _); have b10 := B1 _ (Ext.refl _); clear B0 B1
  cases g1 : (nm.toList == nm'.toList)
  · have h1 : (nm.toList != nm'.toList) = true := by rw [bne, g1]; rfl
    go_enter Try.func112, Try.ntmps112
    go_wp2
    go_ret
    exact ⟨ret_bool (by simp), eb⟩
  have h1 : (nm.toList != nm'.toList) = false := by rw [bne, g1]; rfl
  cases g2 : (kind == kind')
  · have h2 : (kind != kind') = true := by rw [bne, g2]; rfl
    go_enter Try.func112, Try.ntmps112
    go_wp2
    go_ret
    exact ⟨ret_bool (by simp), eb⟩
  have h2 : (kind != kind') = false := by rw [bne, g2]; rfl
  cases g3 : (size == size')
  · have h3 : (size != size') = true := by rw [bne, g3]; rfl
    go_enter Try.func112, Try.ntmps112
    go_wp2
    go_ret
    exact ⟨ret_bool (by simp), eb⟩
  have h3 : (size != size') = false := by rw [bne, g3]; rfl
  cases g4 : (little == little')
  · have h4 : (little != little') = true := by rw [bne, g4]; rfl
    go_enter Try.func112, Try.ntmps112
    go_wp2
    go_ret
    exact ⟨ret_bool (by simp), eb⟩
  have h4 : (little != little') = false := by rw [bne, g4]; rfl
  go_enter Try.func112, Try.ntmps112
  go_wp2_with fail
  refine (K5.out _ eb).mono ?_; rintro _ w5 ⟨rfl, he5⟩
  have e5 := he5
  have b05 := HB0.out _ e5; have b15 := HB1.out _ e5; clear he5 b00 b10 h1 h2 h3 h4 g1 g2 g3 g4
  cases q5
  · go_wp2
    go_ret
    exact ⟨ret_bool (by simp), eb.trans e5⟩
  go_wp2_with fail
  refine (K6.out _ (eb.trans e5)).mono ?_; rintro _ w6 ⟨rfl, he6⟩
  have e6 := e5.trans he6
  have b06 := HB0.out _ e6; have b16 := HB1.out _ e6; clear he6 b05 b15 e5
  cases q6
  · go_wp2
    go_ret
    exact ⟨ret_bool (by simp), eb.trans e6⟩
  go_wp2_with fail
  refine (K7.out _ (eb.trans e6)).mono ?_; rintro _ w7 ⟨rfl, he7⟩
  have e7 := e6.trans he7
  have b07 := HB0.out _ e7; have b17 := HB1.out _ e7; clear he7 b06 b16 e6
  cases q7
  · go_wp2
    go_ret
    exact ⟨ret_bool (by simp), eb.trans e7⟩
  go_wp2_with fail
  refine (K8.out _ (eb.trans e7)).mono ?_; rintro _ w8 ⟨rfl, he8⟩
  have e8 := e7.trans he8
  have b08 := HB0.out _ e8; have b18 := HB1.out _ e8; clear he8 b07 b17 e7
  cases q8
  · go_wp2
    go_ret
    exact ⟨ret_bool (by simp), eb.trans e8⟩
  go_wp2
  go_ret
  exact ⟨ret_bool (by simp), eb.trans e8⟩
end Go.Proofs.Ytlaejcacembjiaa

/- Comparison of rules: the reference's and the program's. -/
namespace Go.Proofs.Ytlaejcacembjiaa
open Go.RowKit Go.Sort

set_option maxRecDepth 100000 in
set_option maxHeartbeats 4000000 in
theorem l4Equal_c (r q : DRule) (Ab : Option Addr) (cb : Nat) (An : Option Addr) (cn : Nat) (At : Option Addr) (ct : Nat) (Ak : Option Addr) (ck : Nat) (Ab' : Option Addr) (cb' : Nat) (An' : Option Addr) (cn' : Nat) (At' : Option Addr) (ct' : Nat) (Ak' : Option Addr) (ck' : Nat) (w : World) (h : RdS w r Ab cb An cn At ct Ak ck) (h' : RdS w q Ab' cb' An' cn' At' ct' Ak' ck') (hs : ShortR r) (hs' : ShortR q) :
    Gives Try.prog 102 #[vrule r (.slice Ab r.bytes.length cb) (.slice An r.names.length cn) (.slice At r.tags.length ct) (.slice Ak r.kids.length ck), vrule q (.slice Ab' q.bytes.length cb') (.slice An' q.names.length cn') (.slice At' q.tags.length ct') (.slice Ak' q.kids.length ck')] w (.bool (eqR r q)) := by
  have eb := Ext_alloc (.cells #[.string q.nm, .int .i64 q.kind, .int .i64 q.size, .bool q.little, .slice Ab' q.bytes.length cb', .slice An' q.names.length cn', .slice At' q.tags.length ct', .slice Ak' q.kids.length ck'] 76) (Ext_alloc (.cells #[.string r.nm, .int .i64 r.kind, .int .i64 r.size, .bool r.little, .slice Ab r.bytes.length cb, .slice An r.names.length cn, .slice At r.tags.length ct, .slice Ak r.kids.length ck] 76) (Ext.refl w))
  have BX := fun w' (e : Ext ((w.alloc (.cells #[.string r.nm, .int .i64 r.kind, .int .i64 r.size, .bool r.little, .slice Ab r.bytes.length cb, .slice An r.names.length cn, .slice At r.tags.length ct, .slice Ak r.kids.length ck] 76)).alloc (.cells #[.string q.nm, .int .i64 q.kind, .int .i64 q.size, .bool q.little, .slice Ab' q.bytes.length cb', .slice An' q.names.length cn', .slice At' q.tags.length ct', .slice Ak' q.kids.length ck'] 76)) w') => boxed2 e
  have B0 := fun w' e => (BX w' e).1
  have B1 := fun w' e => (BX w' e).2.1
  clear BX
  have C5 := Lib.hid (fun w h h' => sEqualBytes_c Ab Ab' r.bytes q.bytes cb cb' w h h')
  have C6 := Lib.hid (fun w h h' => l4Texts_c An An' r.names q.names cn cn' w h h')
  have C7 := Lib.hid (fun w h h' => l4Ints_c At At' r.tags q.tags ct ct' w h h')
  have C8 := Lib.hid (fun w h h' => l4Ints_c Ak Ak' r.kids q.kids ck ck' w h h')
  have K5 := Lib.hid (fun w' (e : Ext w w') => C5.out w' (⟨h.b.ext e, hs.1⟩) (⟨h'.b.ext e, hs'.1⟩))
  have K6 := Lib.hid (fun w' (e : Ext w w') => C6.out w' (h.n.ext e) (h'.n.ext e))
  have K7 := Lib.hid (fun w' (e : Ext w w') => C7.out w' (h.t.ext e) (h'.t.ext e))
  have K8 := Lib.hid (fun w' (e : Ext w w') => C8.out w' (h.k.ext e) (h'.k.ext e))
  clear C5 C6 C7 C8 h h' hs hs'
  unfold eqR
  generalize (r.bytes == q.bytes) = q5 at *
  generalize eqNms r.names q.names = q6 at *
  generalize (r.tags == q.tags) = q7 at *
  generalize (r.kids == q.kids) = q8 at *
  obtain ⟨nm, kind, size, little, bytes, names, tags, kids⟩ := r
  obtain ⟨nm', kind', size', little', bytes', names', tags', kids'⟩ := q
  unfold vrule
  dsimp only at *
  have HB0 := Lib.hid B0; have HB1 := Lib.hid B1; have b00 := B0 _ (Ext.refl _); have b10 := B1 _ (Ext.refl _); clear B0 B1
  cases g1 : (nm.toList == nm'.toList)
  · have h1 : (nm.toList != nm'.toList) = true := by rw [bne, g1]; rfl
    go_enter Try.func102, Try.ntmps102
    go_wp2
    go_ret
    exact ⟨ret_bool (by simp), eb⟩
  have h1 : (nm.toList != nm'.toList) = false := by rw [bne, g1]; rfl
  cases g2 : (kind == kind')
  · have h2 : (kind != kind') = true := by rw [bne, g2]; rfl
    go_enter Try.func102, Try.ntmps102
    go_wp2
    go_ret
    exact ⟨ret_bool (by simp), eb⟩
  have h2 : (kind != kind') = false := by rw [bne, g2]; rfl
  cases g3 : (size == size')
  · have h3 : (size != size') = true := by rw [bne, g3]; rfl
    go_enter Try.func102, Try.ntmps102
    go_wp2
    go_ret
    exact ⟨ret_bool (by simp), eb⟩
  have h3 : (size != size') = false := by rw [bne, g3]; rfl
  cases g4 : (little == little')
  · have h4 : (little != little') = true := by rw [bne, g4]; rfl
    go_enter Try.func102, Try.ntmps102
    go_wp2
    go_ret
    exact ⟨ret_bool (by simp), eb⟩
  have h4 : (little != little') = false := by rw [bne, g4]; rfl
  go_enter Try.func102, Try.ntmps102
  go_wp2_with fail
  refine (K5.out _ eb).mono ?_; rintro _ w5 ⟨rfl, he5⟩
  have e5 := he5
  have b05 := HB0.out _ e5; have b15 := HB1.out _ e5; clear he5 b00 b10 h1 h2 h3 h4 g1 g2 g3 g4
  cases q5
  · go_wp2
    go_ret
    exact ⟨ret_bool (by simp), eb.trans e5⟩
  go_wp2_with fail
  refine (K6.out _ (eb.trans e5)).mono ?_; rintro _ w6 ⟨rfl, he6⟩
  have e6 := e5.trans he6
  have b06 := HB0.out _ e6; have b16 := HB1.out _ e6; clear he6 b05 b15 e5
  cases q6
  · go_wp2
    go_ret
    exact ⟨ret_bool (by simp), eb.trans e6⟩
  go_wp2_with fail
  refine (K7.out _ (eb.trans e6)).mono ?_; rintro _ w7 ⟨rfl, he7⟩
  have e7 := e6.trans he7
  have b07 := HB0.out _ e7; have b17 := HB1.out _ e7; clear he7 b06 b16 e6
  cases q7
  · go_wp2
    go_ret
    exact ⟨ret_bool (by simp), eb.trans e7⟩
  go_wp2_with fail
  refine (K8.out _ (eb.trans e7)).mono ?_; rintro _ w8 ⟨rfl, he8⟩
  have e8 := e7.trans he8
  have b08 := HB0.out _ e8; have b18 := HB1.out _ e8; clear he8 b07 b17 e7
  cases q8
  · go_wp2
    go_ret
    exact ⟨ret_bool (by simp), eb.trans e8⟩
  go_wp2
  go_ret
  exact ⟨ret_bool (by simp), eb.trans e8⟩
/-- rules, all short -/
def ShortD (ds : List DRule) : Prop := ∀ r ∈ ds, ShortR r
def ShortG (gs : List (List DRule)) : Prop := ∀ d ∈ gs, ShortD d
theorem shortD_of {ds : List DRule} (h : szD ds ≤ 1048576) : ShortD ds := fun _ hr => (szRl_short (szD_mem h hr)).1
theorem shortG_of {gs : List (List DRule)} (h : szG gs ≤ 1048576) : ShortG gs := fun _ hd => shortD_of (szG_mem h hd)
set_option maxRecDepth 100000 in
set_option maxHeartbeats 4000000 in
theorem eqRuleS_c (A A' : Option Addr) (ds es : List DRule) (c c' : Nat) (w : World) (h : RdD w A ds c) (h' : RdD w A' es c') (hs : ShortD ds) (hs' : ShortD es) :
    Gives Try.prog 65 #[.slice A ds.length c, .slice A' es.length c'] w (.bool (eqD ds es)) := by
  have hl := h.len; have hl' := h'.len
  have eb := Ext.refl w
  by_cases hn : ds.length = es.length
  · have hb1 : ((ds.length : Int) != (es.length : Int)) = false := by simp [hn]
    have H := Lib.hid hn; clear hn
    go_enter Try.func65, Try.ntmps65
    go_wp2
    go_loopw [5] (fun i wr => ∃ k : Nat, k ≤ ds.length ∧ i = .int .i64 k ∧ Hid (∀ j (h1 : j < ds.length) (h2 : j < es.length), j < k → eqR ds[j] es[j] = true) ∧ Ext w wr) (fun i _ => ds.length - (intOf i).toNat)
    case atStart => exact ⟨0, by omega, rfl, (fun j _ _ hj => by omega), Ext.refl _⟩
    case round =>
      obtain ⟨k, hk, rfl, ht, he⟩ := hrel
      by_cases hlt : k < ds.length
      · have hlt' : k < es.length := by have := H.out; omega
        obtain ⟨b, off, Ab, cb, An, cn, At, ct, Ak, ck, rfl, hb, hS, hR⟩ := h.at k hlt
        obtain ⟨b', off', Ab', cb', An', cn', At', ct', Ak', ck', rfl, hb', hS', hR'⟩ := h'.at k hlt'
        have s1 := hs _ (List.getElem_mem hlt); have s2 := hs' _ (List.getElem_mem hlt')
        have NO : Hid (eqR ds[k] es[k] = false → eqD ds es = false) := eqAll_take _ ds es k hlt hlt'
        have YES : Hid (eqR ds[k] es[k] = true → ∀ j (h1 : j < ds.length) (h2 : j < es.length), j < k + 1 → eqR ds[j] es[j] = true) := by
          intro hy j h1 h2 hj
          rcases (by omega : j < k ∨ j = k) with hj | rfl
          · exact ht.out j h1 h2 hj
          · exact hy
        generalize ds[k] = r at *
        generalize es[k] = q at *
        have CE := Lib.hid (fun w h h' => eqRule_c r q Ab cb An cn At ct Ak ck Ab' cb' An' cn' At' ct' Ak' ck' w h h' s1 s2)
        generalize eqR r q = z at *
        replace hR := hR.ext eb
        replace hR' := hR'.ext eb
        obtain ⟨k0, k1, k2, k3, k4, k5, k6, k7⟩ := hR
        obtain ⟨j0, j1, j2, j3, j4, j5, j6, j7⟩ := hR'
        unfold vrule at CE
        have H1 := Lib.hid (fun w' (e : Ext _ w') => hS.ext (eb.trans e)); have H2 := Lib.hid (fun w' (e : Ext _ w') => hS'.ext (eb.trans e))
        clear h h' s1 s2 hS hS' hs hs'
        have HT := ht; clear ht
        go_wp2_with fail
        refine wp_region_quiet_below (by kernel_rfl) (by kernel_rfl) ?_
        repeat (go_big_quiet_step ((go_at_call 112; exact Calls.regrown_of (CE.out _ (H1.out _ (by first | assumption | exact Ext_regrown _ _ he)) (H2.out _ (by first | assumption | exact Ext_regrown _ _ he))))))
        refine wpQuiet_nil ?_
        rintro w1 ⟨⟨nq, osq⟩, hq⟩
        have ew1 := ext_of_q hq
        clear hq nq osq
        have he1 := he.trans ew1
        cases z
        · have NO' := Lib.hid (NO.out rfl); clear NO YES
          go_wp2
          go_ret
          exact ⟨ret_bool NO'.out.symm, eb.trans he1⟩
        · have YES' := Lib.hid (YES.out rfl); clear NO YES
          go_wp2
          go_roundw
          case rel => exact ⟨k+1, by omega, by go_num, YES'.out, he1⟩
          case measure => simp [intOf]; omega
      · have hk' : k = ds.length := by omega
        have HE : Hid (eqD ds es = true) := eqAll_all _ _ _ H.out (fun j h1 h2 => ht.out j h1 h2 (by omega))
        go_wp2
        go_ret
        exact ⟨ret_bool HE.out.symm, eb.trans he⟩
  · have hb1 : ((ds.length : Int) != (es.length : Int)) = true := by simp; omega
    have HE : Hid (eqD ds es = false) := eqAll_len _ _ _ hn
    go_enter Try.func65, Try.ntmps65
    go_wp2
    go_ret
    exact ⟨ret_bool HE.out.symm, eb⟩
end Go.Proofs.Ytlaejcacembjiaa

/- Comparison of descriptions and registries. -/
namespace Go.Proofs.Ytlaejcacembjiaa
open Go.RowKit Go.Sort

set_option maxRecDepth 100000 in
set_option maxHeartbeats 4000000 in
theorem sEqualDescriptions_c (A A' : Option Addr) (ds es : List DRule) (c c' : Nat) (w : World) (h : RdD w A ds c) (h' : RdD w A' es c') (hs : ShortD ds) (hs' : ShortD es) :
    Gives Try.prog 50 #[vdesc (.slice A ds.length c), vdesc (.slice A' es.length c')] w (.bool (eqD ds es)) := by
  have hl := h.len; have hl' := h'.len
  have eb := Ext_alloc (.cells #[.slice A' es.length c'] 38) (Ext_alloc (.cells #[.slice A ds.length c] 38) (Ext.refl w))
  have BX := fun w' (e : Ext ((w.alloc (.cells #[.slice A ds.length c] 38)).alloc (.cells #[.slice A' es.length c'] 38)) w') => boxed2 e
  have B0 := fun w' e => (BX w' e).1 0
  have B1 := fun w' e => (BX w' e).2.1 0
  simp only [List.getElem?_toArray, List.getElem?_cons_zero] at B0 B1
  clear BX
  unfold vdesc
  by_cases hn : ds.length = es.length
  · have hb1 : ((ds.length : Int) != (es.length : Int)) = false := by simp [hn]
    have H := Lib.hid hn; clear hn
    go_enter Try.func50, Try.ntmps50
    go_wp2
    go_loopw [5] (fun i wr => ∃ k : Nat, k ≤ ds.length ∧ i = .int .i64 k ∧ Hid (∀ j (h1 : j < ds.length) (h2 : j < es.length), j < k → eqR ds[j] es[j] = true) ∧ Ext ((w.alloc (.cells #[.slice A ds.length c] 38)).alloc (.cells #[.slice A' es.length c'] 38)) wr) (fun i _ => ds.length - (intOf i).toNat)
    case atStart => exact ⟨0, by omega, rfl, (fun j _ _ hj => by omega), Ext.refl _⟩
    case round =>
      obtain ⟨k, hk, rfl, ht, he⟩ := hrel
      by_cases hlt : k < ds.length
      · have hlt' : k < es.length := by have := H.out; omega
        obtain ⟨b, off, Ab, cb, An, cn, At, ct, Ak, ck, rfl, hb, hS, hR⟩ := h.at k hlt
        obtain ⟨b', off', Ab', cb', An', cn', At', ct', Ak', ck', rfl, hb', hS', hR'⟩ := h'.at k hlt'
        have s1 := hs _ (List.getElem_mem hlt); have s2 := hs' _ (List.getElem_mem hlt')
        have NO : Hid (eqR ds[k] es[k] = false → eqD ds es = false) := eqAll_take _ ds es k hlt hlt'
        have YES : Hid (eqR ds[k] es[k] = true → ∀ j (h1 : j < ds.length) (h2 : j < es.length), j < k + 1 → eqR ds[j] es[j] = true) := by
          intro hy j h1 h2 hj
          rcases (by omega : j < k ∨ j = k) with hj | rfl
          · exact ht.out j h1 h2 hj
          · exact hy
        generalize ds[k] = r at *
        generalize es[k] = q at *
        have CE := Lib.hid (fun w h h' => l4Equal_c r q Ab cb An cn At ct Ak ck Ab' cb' An' cn' At' ct' Ak' ck' w h h' s1 s2)
        generalize eqR r q = z at *
        replace hR := hR.ext eb
        replace hR' := hR'.ext eb
        obtain ⟨k0, k1, k2, k3, k4, k5, k6, k7⟩ := hR
        obtain ⟨j0, j1, j2, j3, j4, j5, j6, j7⟩ := hR'
        unfold vrule at CE
        have H1 := Lib.hid (fun w' (e : Ext _ w') => hS.ext (eb.trans e)); have H2 := Lib.hid (fun w' (e : Ext _ w') => hS'.ext (eb.trans e))
        clear h h' s1 s2 hS hS' hs hs'
        have HT := ht; clear ht
        go_wp2_with fail
        refine wp_region_quiet_below (by kernel_rfl) (by kernel_rfl) ?_
        repeat (go_big_quiet_step ((go_at_call 102; exact Calls.regrown_of (CE.out _ (H1.out _ (by first | assumption | exact Ext_regrown _ _ he)) (H2.out _ (by first | assumption | exact Ext_regrown _ _ he))))))
        refine wpQuiet_nil ?_
        rintro w1 ⟨⟨nq, osq⟩, hq⟩
        have ew1 := ext_of_q hq
        clear hq nq osq
        have he1 := he.trans ew1
        cases z
        · have NO' := Lib.hid (NO.out rfl); clear NO YES
          go_wp2
          go_ret
          exact ⟨ret_bool NO'.out.symm, eb.trans he1⟩
        · have YES' := Lib.hid (YES.out rfl); clear NO YES
          go_wp2
          go_roundw
          case rel => exact ⟨k+1, by omega, by go_num, YES'.out, he1⟩
          case measure => simp [intOf]; omega
      · have hk' : k = ds.length := by omega
        have HE : Hid (eqD ds es = true) := eqAll_all _ _ _ H.out (fun j h1 h2 => ht.out j h1 h2 (by omega))
        go_wp2
        go_ret
        exact ⟨ret_bool HE.out.symm, eb.trans he⟩
  · have hb1 : ((ds.length : Int) != (es.length : Int)) = true := by simp; omega
    have HE : Hid (eqD ds es = false) := eqAll_len _ _ _ hn
    go_enter Try.func50, Try.ntmps50
    go_wp2
    go_ret
    exact ⟨ret_bool HE.out.symm, eb⟩
end Go.Proofs.Ytlaejcacembjiaa

/- Comparison of registries. -/
namespace Go.Proofs.Ytlaejcacembjiaa
open Go.RowKit Go.Sort

set_option maxHeartbeats 400000 in
theorem eqDescription_c (A A' : Option Addr) (ds es : List DRule) (c c' : Nat) (w : World) (h : RdD w A ds c) (h' : RdD w A' es c') (hs : ShortD ds) (hs' : ShortD es) :
    Gives Try.prog 17 #[vdesc (.slice A ds.length c), vdesc (.slice A' es.length c')] w (.bool (eqD ds es)) := by
  have C := Lib.hid (fun w h h' => eqRuleS_c A A' ds es c c' w h h' hs hs')
  have eb := Ext_alloc (.cells #[.slice A' es.length c'] 38) (Ext_alloc (.cells #[.slice A ds.length c] 38) (Ext.refl w))
  unfold vdesc
  generalize eqD ds es = z at *
  cases z
  all_goals
    go_enter Try.func17, Try.ntmps17
    go_wp2_with fail
    refine (C.out _ (h.ext eb) (h'.ext eb)).mono ?_; rintro _ w1 ⟨rfl, he1⟩
    go_wp2
    go_ret
    exact ⟨rfl, eb.trans he1⟩
set_option maxRecDepth 100000 in
set_option maxHeartbeats 4000000 in
theorem eqDescriptionS_c (A A' : Option Addr) (ds es : List (List DRule)) (c c' : Nat) (w : World) (h : RdG w A ds c) (h' : RdG w A' es c') (hs : ShortG ds) (hs' : ShortG es) :
    Gives Try.prog 64 #[.slice A ds.length c, .slice A' es.length c'] w (.bool (eqG ds es)) := by
  have hl := h.len; have hl' := h'.len
  have eb := Ext.refl w
  by_cases hn : ds.length = es.length
  · have hb1 : ((ds.length : Int) != (es.length : Int)) = false := by simp [hn]
    have H := Lib.hid hn; clear hn
    go_enter Try.func64, Try.ntmps64
    go_wp2
    go_loopw [5] (fun i wr => ∃ k : Nat, k ≤ ds.length ∧ i = .int .i64 k ∧ Hid (∀ j (h1 : j < ds.length) (h2 : j < es.length), j < k → eqD ds[j] es[j] = true) ∧ Ext w wr) (fun i _ => ds.length - (intOf i).toNat)
    case atStart => exact ⟨0, by omega, rfl, (fun j _ _ hj => by omega), Ext.refl _⟩
    case round =>
      obtain ⟨k, hk, rfl, ht, he⟩ := hrel
      by_cases hlt : k < ds.length
      · have hlt' : k < es.length := by have := H.out; omega
        obtain ⟨b, off, A1, c1, rfl, hb, hS, k0⟩ := h.at k hlt
        obtain ⟨b', off', A1', c1', rfl, hb', hS', j0⟩ := h'.at k hlt'
        have s1 := hs _ (List.getElem_mem hlt); have s2 := hs' _ (List.getElem_mem hlt')
        have NO : Hid (eqD ds[k] es[k] = false → eqG ds es = false) := eqAll_take _ ds es k hlt hlt'
        have YES : Hid (eqD ds[k] es[k] = true → ∀ j (h1 : j < ds.length) (h2 : j < es.length), j < k + 1 → eqD ds[j] es[j] = true) := by
          intro hy j h1 h2 hj
          rcases (by omega : j < k ∨ j = k) with hj | rfl
          · exact ht.out j h1 h2 hj
          · exact hy
        generalize ds[k] = r at *
        generalize es[k] = q at *
        have CE := Lib.hid (fun w h h' => eqDescription_c A1 A1' r q c1 c1' w h h' s1 s2)
        generalize eqD r q = z at *
        replace k0 := fun w' (e : Ext _ w') => k0 w' (eb.trans e)
        replace j0 := fun w' (e : Ext _ w') => j0 w' (eb.trans e)
        unfold vdesc at CE
        have H1 := Lib.hid (fun w' (e : Ext _ w') => hS.ext (eb.trans e)); have H2 := Lib.hid (fun w' (e : Ext _ w') => hS'.ext (eb.trans e))
        clear h h' s1 s2 hS hS' hs hs'
        have HT := ht; clear ht
        go_wp2_with fail
        refine wp_region_quiet_below (by kernel_rfl) (by kernel_rfl) ?_
        repeat (go_big_quiet_step ((go_at_call 17; exact Calls.regrown_of (CE.out _ (H1.out _ (by first | assumption | exact Ext_regrown _ _ he)) (H2.out _ (by first | assumption | exact Ext_regrown _ _ he))))))
        refine wpQuiet_nil ?_
        rintro w1 ⟨⟨nq, osq⟩, hq⟩
        have ew1 := ext_of_q hq
        clear hq nq osq
        have he1 := he.trans ew1
        cases z
        · have NO' := Lib.hid (NO.out rfl); clear NO YES
          go_wp2
          go_ret
          exact ⟨ret_bool NO'.out.symm, eb.trans he1⟩
        · have YES' := Lib.hid (YES.out rfl); clear NO YES
          go_wp2
          go_roundw
          case rel => exact ⟨k+1, by omega, by go_num, YES'.out, he1⟩
          case measure => simp [intOf]; omega
      · have hk' : k = ds.length := by omega
        have HE : Hid (eqG ds es = true) := eqAll_all _ _ _ H.out (fun j h1 h2 => ht.out j h1 h2 (by omega))
        go_wp2
        go_ret
        exact ⟨ret_bool HE.out.symm, eb.trans he⟩
  · have hb1 : ((ds.length : Int) != (es.length : Int)) = true := by simp; omega
    have HE : Hid (eqG ds es = false) := eqAll_len _ _ _ hn
    go_enter Try.func64, Try.ntmps64
    go_wp2
    go_ret
    exact ⟨ret_bool HE.out.symm, eb⟩
set_option maxHeartbeats 400000 in
theorem eqRegistry_c (A A' : Option Addr) (ds es : List (List DRule)) (c c' : Nat) (w : World) (h : RdG w A ds c) (h' : RdG w A' es c') (hs : ShortG ds) (hs' : ShortG es) :
    Gives Try.prog 16 #[vdesc (.slice A ds.length c), vdesc (.slice A' es.length c')] w (.bool (eqG ds es)) := by
  have C := Lib.hid (fun w h h' => eqDescriptionS_c A A' ds es c c' w h h' hs hs')
  have eb := Ext_alloc (.cells #[.slice A' es.length c'] 32) (Ext_alloc (.cells #[.slice A ds.length c] 32) (Ext.refl w))
  unfold vdesc
  generalize eqG ds es = z at *
  cases z
  all_goals
    go_enter Try.func16, Try.ntmps16
    go_wp2_with fail
    refine (C.out _ (h.ext eb) (h'.ext eb)).mono ?_; rintro _ w1 ⟨rfl, he1⟩
    go_wp2
    go_ret
    exact ⟨rfl, eb.trans he1⟩
end Go.Proofs.Ytlaejcacembjiaa

/- The laws' sizes of descriptions and registries. -/
namespace Go.Proofs.Ytlaejcacembjiaa
open Go.RowKit Go.Sort

theorem szN_spec (n : Nat) (left : Int) : (left - n < 0 ∧ szN n left = -1) ∨ (0 ≤ left - n ∧ szN n left = left - n) := by
  unfold szN; split
  · exact .inl ⟨by assumption, rfl⟩
  · exact .inr ⟨by omega, rfl⟩
set_option maxHeartbeats 1000000 in
theorem szStringS_c (A : Option Addr) (l : List ByteArray) (c : Nat) (left : Int) (w : World) (h : Rd0 vstr w A l c) (hw : ∀ s ∈ l, s.size ≤ 9223372036854775807) (h0 : 0 ≤ left) (h1 : left ≤ 1048576) :
    Gives Try.prog 145 #[.slice A l.length c, .int .i64 left] w (.int .i64 (szN (l.length + szStrs l) left)) := by
  have hl := h.len
  have S := szN_spec (l.length + szStrs l) left
  obtain ⟨T, hT⟩ : ∃ T, szN (l.length + szStrs l) left = T := ⟨_, rfl⟩
  rw [hT] at S ⊢
  have HS := Lib.hid S
  clear S hT
  by_cases hd : left - (l.length : Int) < 0
  · obtain rfl : T = -1 := by have := HS.out; omega
    go_enter Try.func145, Try.ntmps145
    go_wp2
    go_ret
    exact ⟨rfl, Ext.refl _⟩
  · go_enter Try.func145, Try.ntmps145
    go_wp2
    go_loopw [1, 5] (fun t i wr => ∃ (k : Nat) (z : Int), k ≤ l.length ∧ i = .int .i64 k ∧ t = .int .i64 z ∧ 0 ≤ z ∧ z ≤ 1048576 ∧ Hid (z = left - l.length - szStrs (l.take k)) ∧ Ext w wr) (fun _ i _ => l.length - (intOf i).toNat)
    case atStart => exact ⟨0, _, by omega, rfl, rfl, by omega, by omega, by simp [Hid, szStrs], Ext.refl _⟩
    case round =>
      obtain ⟨k, z, hk, rfl, rfl, hz0, hz1, hz, he⟩ := hrel
      by_cases hlt : k < l.length
      · obtain ⟨b, off, rfl, hb, hc⟩ := h.at k hlt
        have hs := hw l[k] (List.getElem_mem hlt)
        have HT := Lib.hid (szStrs_take l k hlt)
        have HL := Lib.hid (szStrs_le l (k+1))
        by_cases hneg : z - (l[k].size : Int) < 0
        · obtain rfl : T = -1 := by have := HS.out; have := HT.out; have := HL.out; have := hz.out; omega
          clear h
          go_wp2
          go_ret
          exact ⟨rfl, he⟩
        · clear h
          go_wp2
          go_roundw
          case rel => exact ⟨k+1, _, by omega, by go_num, rfl, by omega, by omega, by have := HT.out; have := hz.out; show _ = _; omega, he⟩
          case measure => simp [intOf]; omega
      · have hk' : k = l.length := by omega
        have HZ : Hid (T = z) := by
          have := HS.out; have h2 := hz.out; rw [List.take_of_length_le (by omega)] at h2; show _ = _; omega
        go_wp2
        go_ret
        exact ⟨ret_i64 HZ.out.symm, he⟩
set_option maxRecDepth 100000 in
set_option maxHeartbeats 2000000 in
theorem szRule_c (r : DRule) (Ab : Option Addr) (cb : Nat) (An : Option Addr) (cn : Nat) (At : Option Addr) (ct : Nat) (Ak : Option Addr) (ck : Nat) (left : Int) (w : World) (h : RdS w r Ab cb An cn At ct Ak ck) (hw : WfR r) (h0 : 0 ≤ left) (h1 : left ≤ 1048576) :
    Gives Try.prog 106 #[vrule r (.slice Ab r.bytes.length cb) (.slice An r.names.length cn) (.slice At r.tags.length ct) (.slice Ak r.kids.length ck), .int .i64 left] w (.int .i64 (szN (szRl r) left)) := by
  obtain ⟨hb, hn, ht, hk⟩ := h
  have hwn := hw.nm
  have S := szN_spec (szRl r) left
  obtain ⟨T, hT⟩ : ∃ T, szN (szRl r) left = T := ⟨_, rfl⟩
  rw [hT] at S ⊢
  unfold szRl at S
  have C1 := Lib.hid (fun left w h h0 h1 => szByteS_c Ab r.bytes cb left w h h0 h1)
  have C2 := Lib.hid (fun left w h h0 h1 => szStringS_c An r.names cn left w h hw.names h0 h1)
  have C3 := Lib.hid (fun left w h h0 h1 => szIntS_c At r.tags ct left w h h0 h1)
  have C4 := Lib.hid (fun left w h h0 h1 => szIntS_c Ak r.kids ck left w h h0 h1)
  have HS := Lib.hid S
  clear S hT hw
  have eb := Ext_alloc (.cells #[.string r.nm, .int .i64 r.kind, .int .i64 r.size, .bool r.little, .slice Ab r.bytes.length cb, .slice An r.names.length cn, .slice At r.tags.length ct, .slice Ak r.kids.length ck] 126) (Ext.refl w)
  unfold vrule
  by_cases q1 : left - (r.nm.size : Int) < 0
  · obtain rfl : T = -1 := by have := HS.out; omega
    go_enter Try.func106, Try.ntmps106
    go_wp2
    go_ret
    exact ⟨rfl, eb⟩
  go_enter Try.func106, Try.ntmps106
  go_wp2_with fail
  refine (C1.out _ _ (hb.ext eb) (by omega) (by omega)).mono ?_; rintro _ w1 ⟨rfl, he1⟩
  have s1 := szN_spec r.bytes.length (left - r.nm.size)
  generalize szN r.bytes.length (left - r.nm.size) = z1 at *
  by_cases q2 : z1 < 0
  · obtain rfl : T = -1 := by have := HS.out; omega
    clear s1
    go_wp2
    go_ret
    exact ⟨rfl, eb.trans he1⟩
  have S1 : Hid (z1 = left - r.nm.size - r.bytes.length) := by show _ = _; omega
  have z1a : z1 ≤ 1048576 := by omega
  clear s1
  have D1 := fun w' (e : Ext _ w') => boxed (he1.trans e)
  go_wp2_with fail
  refine (C2.out _ _ (hn.ext (eb.trans he1)) (by omega) (by omega)).mono ?_; rintro _ w2 ⟨rfl, he2⟩
  have s2 := szN_spec (r.names.length + szStrs r.names) z1
  generalize szN (r.names.length + szStrs r.names) z1 = z2 at *
  have e2 := he1.trans he2
  by_cases q3 : z2 < 0
  · obtain rfl : T = -1 := by have := HS.out; have := S1.out; omega
    clear s2
    go_wp2
    go_ret
    exact ⟨rfl, eb.trans e2⟩
  have S2 : Hid (z2 = left - r.nm.size - r.bytes.length - (r.names.length + szStrs r.names)) := by have := S1.out; show _ = _; omega
  have z2a : z2 ≤ 1048576 := by omega
  clear s2 D1
  have D2 := fun w' (e : Ext _ w') => boxed (e2.trans e)
  go_wp2_with fail
  refine (C3.out _ _ (ht.ext (eb.trans e2)) (by omega) (by omega)).mono ?_; rintro _ w3 ⟨rfl, he3⟩
  have s3 := szN_spec r.tags.length z2
  generalize szN r.tags.length z2 = z3 at *
  have e3 := e2.trans he3
  by_cases q4 : z3 < 0
  · obtain rfl : T = -1 := by have := HS.out; have := S2.out; omega
    clear s3
    go_wp2
    go_ret
    exact ⟨rfl, eb.trans e3⟩
  have S3 : Hid (z3 = left - r.nm.size - r.bytes.length - (r.names.length + szStrs r.names) - r.tags.length) := by have := S2.out; show _ = _; omega
  have z3a : z3 ≤ 1048576 := by omega
  clear s3 D2
  have D3 := fun w' (e : Ext _ w') => boxed (e3.trans e)
  go_wp2_with fail
  refine (C4.out _ _ (hk.ext (eb.trans e3)) (by omega) (by omega)).mono ?_; rintro _ w4 ⟨rfl, he4⟩
  have s4 := szN_spec r.kids.length z3
  generalize szN r.kids.length z3 = z4 at *
  have HT : Hid (z4 = T) := by have := HS.out; have := S3.out; show _ = _; omega
  clear s4
  by_cases q5 : z4 < 0
  · obtain rfl : T = -1 := by have := HS.out; have := HT.out; omega
    go_wp2
    go_ret
    exact ⟨rfl, eb.trans (e3.trans he4)⟩
  go_wp2
  go_ret
  exact ⟨ret_i64 HT.out, eb.trans (e3.trans he4)⟩
set_option maxRecDepth 100000 in
set_option maxHeartbeats 2000000 in
theorem szRuleS_c (A : Option Addr) (ds : List DRule) (c : Nat) (left : Int) (w : World) (h : RdD w A ds c) (hw : WfD ds) (h0 : 0 ≤ left) (h1 : left ≤ 1048576) :
    Gives Try.prog 54 #[.slice A ds.length c, .int .i64 left] w (.int .i64 (szN (szD ds) left)) := by
  have hl := h.len
  have S := szN_spec (szD ds) left
  obtain ⟨T, hT⟩ : ∃ T, szN (szD ds) left = T := ⟨_, rfl⟩
  rw [hT] at S ⊢
  unfold szD at S
  have HS := Lib.hid S
  clear S hT
  by_cases hd : left - (ds.length : Int) < 0
  · obtain rfl : T = -1 := by have := HS.out; omega
    go_enter Try.func54, Try.ntmps54
    go_wp2
    go_ret
    exact ⟨rfl, Ext.refl _⟩
  · go_enter Try.func54, Try.ntmps54
    go_wp2
    go_loopw [1, 5] (fun t i wr => ∃ (k : Nat) (z : Int), k ≤ ds.length ∧ i = .int .i64 k ∧ t = .int .i64 z ∧ 0 ≤ z ∧ z ≤ 1048576 ∧ Hid (z = left - ds.length - ((ds.take k).map szRl).sum) ∧ Ext w wr) (fun _ i _ => ds.length - (intOf i).toNat)
    case atStart => exact ⟨0, _, by omega, rfl, rfl, by omega, by omega, by simp [Hid], Ext.refl _⟩
    case round =>
      obtain ⟨k, z, hk, rfl, rfl, hz0, hz1, hz, he⟩ := hrel
      by_cases hlt : k < ds.length
      · obtain ⟨b, off, Ab, cb, An, cn, At, ct, Ak, ck, rfl, hb, hs, hr⟩ := h.at k hlt
        have HT := Lib.hid (sum_take szRl ds k hlt)
        have HL := Lib.hid (sum_split szRl ds (k+1))
        have hwk := hw _ (List.getElem_mem hlt)
        have s1 := szN_spec (szRl ds[k]) z
        generalize ds[k] = r at *
        have C := Lib.hid (fun w hs => szRule_c r Ab cb An cn At ct Ak ck z w hs hwk hz0 hz1)
        generalize szN (szRl r) z = z1 at *
        obtain ⟨k0, k1, k2, k3, k4, k5, k6, k7⟩ := hr
        have S1 := Lib.hid s1
        unfold vrule at C
        clear s1 h
        go_wp2_with fail
        refine (C.out _ (hs.ext he)).mono ?_; rintro _ w1 ⟨rfl, he1⟩
        by_cases q : z1 < 0
        · obtain rfl : T = -1 := by have := HS.out; have := HT.out; have := HL.out; have := hz.out; have := S1.out; omega
          go_wp2
          go_ret
          exact ⟨rfl, he.trans he1⟩
        · have hz1' : z1 ≤ 1048576 := by have := S1.out; omega
          go_wp2
          go_roundw
          case rel => exact ⟨k+1, _, by omega, by go_num, rfl, by omega, by omega, by have := HT.out; have := hz.out; have := S1.out; show _ = _; omega, he.trans he1⟩
          case measure => simp [intOf]; omega
      · have hk' : k = ds.length := by omega
        have HZ : Hid (T = z) := by
          have := HS.out; have h2 := hz.out; rw [List.take_of_length_le (by omega)] at h2; show _ = _; omega
        go_wp2
        go_ret
        exact ⟨ret_i64 HZ.out.symm, he⟩
set_option maxHeartbeats 400000 in
theorem szDescription_c (A : Option Addr) (ds : List DRule) (c : Nat) (left : Int) (w : World) (h : RdD w A ds c) (hw : WfD ds) (h0 : 0 ≤ left) (h1 : left ≤ 1048576) :
    Gives Try.prog 11 #[vdesc (.slice A ds.length c), .int .i64 left] w (.int .i64 (szN (szD ds) left)) := by
  have C := Lib.hid (fun w h => szRuleS_c A ds c left w h hw h0 h1)
  have hz := szN_lo (szD ds) left h1 h0
  generalize szN (szD ds) left = z at *
  unfold vdesc
  by_cases hd : z < 0
  · obtain rfl : z = -1 := by omega
    go_enter Try.func11, Try.ntmps11
    go_wp2_with fail
    refine (C.out _ (h.ext (Ext_alloc _ (Ext.refl _)))).mono ?_; rintro _ w1 ⟨rfl, he⟩
    go_wp2
    go_ret
    exact ⟨rfl, (Ext_alloc _ (Ext.refl w)).trans he⟩
  · go_enter Try.func11, Try.ntmps11
    go_wp2_with fail
    refine (C.out _ (h.ext (Ext_alloc _ (Ext.refl _)))).mono ?_; rintro _ w1 ⟨rfl, he⟩
    go_wp2
    go_ret
    exact ⟨rfl, (Ext_alloc _ (Ext.refl w)).trans he⟩
set_option maxRecDepth 100000 in
set_option maxHeartbeats 2000000 in
theorem szDescriptionS_c (A : Option Addr) (ds : List (List DRule)) (c : Nat) (left : Int) (w : World) (h : RdG w A ds c) (hw : WfG ds) (h0 : 0 ≤ left) (h1 : left ≤ 1048576) :
    Gives Try.prog 53 #[.slice A ds.length c, .int .i64 left] w (.int .i64 (szN (szG ds) left)) := by
  have hl := h.len
  have S := szN_spec (szG ds) left
  obtain ⟨T, hT⟩ : ∃ T, szN (szG ds) left = T := ⟨_, rfl⟩
  rw [hT] at S ⊢
  unfold szG at S
  have HS := Lib.hid S
  clear S hT
  by_cases hd : left - (ds.length : Int) < 0
  · obtain rfl : T = -1 := by have := HS.out; omega
    go_enter Try.func53, Try.ntmps53
    go_wp2
    go_ret
    exact ⟨rfl, Ext.refl _⟩
  · go_enter Try.func53, Try.ntmps53
    go_wp2
    go_loopw [1, 5] (fun t i wr => ∃ (k : Nat) (z : Int), k ≤ ds.length ∧ i = .int .i64 k ∧ t = .int .i64 z ∧ 0 ≤ z ∧ z ≤ 1048576 ∧ Hid (z = left - ds.length - ((ds.take k).map szD).sum) ∧ Ext w wr) (fun _ i _ => ds.length - (intOf i).toNat)
    case atStart => exact ⟨0, _, by omega, rfl, rfl, by omega, by omega, by simp [Hid], Ext.refl _⟩
    case round =>
      obtain ⟨k, z, hk, rfl, rfl, hz0, hz1, hz, he⟩ := hrel
      by_cases hlt : k < ds.length
      · obtain ⟨b, off, A', c', rfl, hb, hs, hr⟩ := h.at k hlt
        have HT := Lib.hid (sum_take szD ds k hlt)
        have HL := Lib.hid (sum_split szD ds (k+1))
        have hwk := hw _ (List.getElem_mem hlt)
        have s1 := szN_spec (szD ds[k]) z
        generalize ds[k] = r at *
        have C := Lib.hid (fun w hs => szDescription_c A' r c' z w hs hwk hz0 hz1)
        generalize szN (szD r) z = z1 at *
        have S1 := Lib.hid s1
        unfold vdesc at C
        clear s1 h
        go_wp2_with fail
        refine (C.out _ (hs.ext he)).mono ?_; rintro _ w1 ⟨rfl, he1⟩
        by_cases q : z1 < 0
        · obtain rfl : T = -1 := by have := HS.out; have := HT.out; have := HL.out; have := hz.out; have := S1.out; omega
          go_wp2
          go_ret
          exact ⟨rfl, he.trans he1⟩
        · have hz1' : z1 ≤ 1048576 := by have := S1.out; omega
          go_wp2
          go_roundw
          case rel => exact ⟨k+1, _, by omega, by go_num, rfl, by omega, by omega, by have := HT.out; have := hz.out; have := S1.out; show _ = _; omega, he.trans he1⟩
          case measure => simp [intOf]; omega
      · have hk' : k = ds.length := by omega
        have HZ : Hid (T = z) := by
          have := HS.out; have h2 := hz.out; rw [List.take_of_length_le (by omega)] at h2; show _ = _; omega
        go_wp2
        go_ret
        exact ⟨ret_i64 HZ.out.symm, he⟩
set_option maxHeartbeats 400000 in
theorem szRegistry_c (A : Option Addr) (ds : List (List DRule)) (c : Nat) (left : Int) (w : World) (h : RdG w A ds c) (hw : WfG ds) (h0 : 0 ≤ left) (h1 : left ≤ 1048576) :
    Gives Try.prog 10 #[vdesc (.slice A ds.length c), .int .i64 left] w (.int .i64 (szN (szG ds) left)) := by
  have C := Lib.hid (fun w h => szDescriptionS_c A ds c left w h hw h0 h1)
  have hz := szN_lo (szG ds) left h1 h0
  generalize szN (szG ds) left = z at *
  unfold vdesc
  by_cases hd : z < 0
  · obtain rfl : z = -1 := by omega
    go_enter Try.func10, Try.ntmps10
    go_wp2_with fail
    refine (C.out _ (h.ext (Ext_alloc _ (Ext.refl _)))).mono ?_; rintro _ w1 ⟨rfl, he⟩
    go_wp2
    go_ret
    exact ⟨rfl, (Ext_alloc _ (Ext.refl w)).trans he⟩
  · go_enter Try.func10, Try.ntmps10
    go_wp2_with fail
    refine (C.out _ (h.ext (Ext_alloc _ (Ext.refl _)))).mono ?_; rintro _ w1 ⟨rfl, he⟩
    go_wp2
    go_ret
    exact ⟨rfl, (Ext_alloc _ (Ext.refl w)).trans he⟩
end Go.Proofs.Ytlaejcacembjiaa

/- The laws' copies, as what they read as. -/
namespace Go.Proofs.Ytlaejcacembjiaa
open Go.RowKit Go.Sort

theorem rulesOf_len (ps : List RV) : (rulesOf ps).length = ps.length := by simp [rulesOf]
theorem OwnD.short {ps : List RV} (h : szD (rulesOf ps) ≤ 1048576) : ps.length ≤ 9223372036854775807 ∧ ∀ p ∈ ps, ShortR p.r := by
  refine ⟨by unfold szD at h; rw [rulesOf_len] at h; omega, fun p hp => ?_⟩
  exact shortD_of h p.r (List.mem_map_of_mem hp)
theorem toDesc_r (A : Option Addr) (ds : List DRule) (c : Nat) (w : World) (h : RdD w A ds c) (hz : szD ds ≤ 1048576) :
    Calls Try.prog 14 #[vdesc (.slice A ds.length c)] w fun e w' => ∃ A1 c1, e = .returned (vdesc (.slice A1 ds.length c1)) ∧ RdD w' A1 ds c1 ∧ Ext w w' := by
  refine (toDescription_c A ds c w h hz).mono ?_
  rintro e w' ⟨v, ps, he, rfl, ho, hx⟩
  obtain ⟨A1, c1, rfl, hr⟩ := ho.rd (OwnD.short hz).1 (OwnD.short hz).2
  exact ⟨A1, c1, he, hr, hx⟩
theorem toReg_r (A : Option Addr) (ds : List (List DRule)) (c : Nat) (w : World) (h : RdG w A ds c) (hz : szG ds ≤ 1048576) :
    Calls Try.prog 13 #[vdesc (.slice A ds.length c)] w fun e w' => ∃ A1 c1, e = .returned (vdesc (.slice A1 ds.length c1)) ∧ RdG w' A1 ds c1 ∧ Ext w w' := by
  refine (toRegistry_c A ds c w h hz).mono ?_
  rintro e w' ⟨v, qs, he, rfl, ho, hx⟩
  have hq : ∀ q ∈ qs, szD (rulesOf q.2) ≤ 1048576 := fun q hq => szG_mem hz (List.mem_map_of_mem (f := fun q : Value × List RV => rulesOf q.2) hq)
  obtain ⟨A1, c1, rfl, hr⟩ := ho.rd (by unfold szG at hz; simp only [descsOf, List.length_map] at hz; omega) (fun q h => (OwnD.short (hq q h)).1) (fun q h => (OwnD.short (hq q h)).2)
  exact ⟨A1, c1, he, hr, hx⟩
theorem szN_small {n : Nat} {left : Int} (h : ¬ szN n left < 0) (h1 : left ≤ 1048576) : n ≤ 1048576 := by have := (szN_ge h).1; omega
end Go.Proofs.Ytlaejcacembjiaa

/- Archives by value: the laws' helpers and EqualArchives. -/
namespace Go.Proofs.Ytlaejcacembjiaa
open Go.RowKit Go.Sort

def varch (v u : Value) (s : Int) : Value := .agg #[v, u, .int .i64 s]
/-- an archive's registry and log read as gs and l -/
structure RdA (w : World) (A : Option Addr) (gs : List (List DRule)) (c : Nat) (L : Option Addr) (l : List UInt8) (k : Nat) : Prop where
  g : RdG w A gs c
  l : Rd0 vu8 w L l k
theorem RdA.ext {w w' : World} {A : Option Addr} {gs : List (List DRule)} {c : Nat} {L : Option Addr} {l : List UInt8} {k : Nat} (h : RdA w A gs c L l k) (e : Ext w w') : RdA w' A gs c L l k := ⟨h.g.ext e, h.l.ext e⟩
def szA (gs : List (List DRule)) (l : List UInt8) : Nat := szG gs + l.length
structure ShortA (gs : List (List DRule)) (l : List UInt8) : Prop where
  g : ShortG gs
  l : l.length ≤ 1048576
theorem shortA_of {gs : List (List DRule)} {l : List UInt8} (h : szA gs l ≤ 1048576) : ShortA gs l := ⟨shortG_of (by unfold szA at h; omega), by unfold szA at h; omega⟩
def eqA (gs : List (List DRule)) (l : List UInt8) (s : Int) (gs' : List (List DRule)) (l' : List UInt8) (s' : Int) : Bool := eqG gs gs' && (s == s' && l == l')
theorem eqA_refl (gs : List (List DRule)) (l : List UInt8) (s : Int) : eqA gs l s gs l s = true := by unfold eqA; rw [eqG_refl]; simp
set_option maxHeartbeats 1000000 in
theorem szArchive_c (A : Option Addr) (gs : List (List DRule)) (c : Nat) (L : Option Addr) (l : List UInt8) (k : Nat) (s : Int) (left : Int) (w : World) (h : RdA w A gs c L l k) (hw : WfG gs) (h0 : 0 ≤ left) (h1 : left ≤ 1048576) :
    Gives Try.prog 21 #[varch (.slice A gs.length c) (.slice L l.length k) s, .int .i64 left] w (.int .i64 (szN (szA gs l) left)) := by
  have C1 := Lib.hid (fun w h => szRegistry_c A gs c left w h hw h0 h1)
  have C2 := Lib.hid (fun left w h h0 h1 => szLog_c L l k s left w h h0 h1)
  have S := szN_spec (szA gs l) left
  obtain ⟨T, hT⟩ : ∃ T, szN (szA gs l) left = T := ⟨_, rfl⟩
  rw [hT] at S ⊢
  unfold szA at S
  have HS := Lib.hid S
  clear S hT
  have s1 := szN_spec (szG gs) left
  generalize szN (szG gs) left = z at *
  have S1 := Lib.hid s1
  have eb := Ext_alloc (.cells #[.slice A gs.length c, .slice L l.length k, .int .i64 s] 49) (Ext.refl w)
  have BX := fun w' (e : Ext (w.alloc (.cells #[.slice A gs.length c, .slice L l.length k, .int .i64 s] 49)) w') => boxed e
  unfold varch
  unfold vdesc at C1
  unfold vlog at C2
  by_cases d : z < 0
  · obtain rfl : T = -1 := by have := HS.out; have := S1.out; omega
    clear s1
    go_enter Try.func21, Try.ntmps21
    go_wp2_with fail
    refine (C1.out _ (h.g.ext eb)).mono ?_; rintro _ w1 ⟨rfl, e1⟩
    go_wp2
    go_ret
    exact ⟨rfl, eb.trans e1⟩
  · have hz1 : z ≤ 1048576 := by omega
    have hz0 : 0 ≤ z := by omega
    clear s1
    go_enter Try.func21, Try.ntmps21
    go_wp2_with fail
    refine (C1.out _ (h.g.ext eb)).mono ?_; rintro _ w1 ⟨rfl, e1⟩
    go_wp2_with fail
    refine (C2.out _ _ (h.l.ext (eb.trans e1)) (by omega) (by omega)).mono ?_; rintro _ w2 ⟨rfl, e2⟩
    have s2 := szN_spec l.length z
    generalize szN l.length z = y at *
    have HT : Hid (y = T) := by have := HS.out; have := S1.out; show _ = _; omega
    clear s2
    by_cases d2 : y < 0
    · obtain rfl : T = -1 := by have := HS.out; have := S1.out; have := HT.out; omega
      go_wp2
      go_ret
      exact ⟨rfl, eb.trans (e1.trans e2)⟩
    · go_wp2
      go_ret
      exact ⟨ret_i64 HT.out, eb.trans (e1.trans e2)⟩
set_option maxRecDepth 100000 in
set_option maxHeartbeats 4000000 in
theorem toArch_r (A : Option Addr) (gs : List (List DRule)) (c : Nat) (L : Option Addr) (l : List UInt8) (k : Nat) (s : Int) (w : World) (h : RdA w A gs c L l k) (hz : szA gs l ≤ 1048576) :
    Calls Try.prog 23 #[varch (.slice A gs.length c) (.slice L l.length k) s] w fun e w' => ∃ A1 c1 A2 c2, e = .returned (varch (.slice A1 gs.length c1) (.slice A2 l.length c2) s) ∧ RdA w' A1 gs c1 A2 l c2 ∧ Ext w w' := by
  have hg : szG gs ≤ 1048576 := by unfold szA at hz; omega
  have hl : l.length ≤ 1048576 := by unfold szA at hz; omega
  have C1 := Lib.hid (fun w h => toRegistry_c A gs c w h hg)
  have C2 := Lib.hid (fun w h => toLog_c L l k s w h hl)
  have HZ := Lib.hid hg
  obtain ⟨W0, HW0, HA, HR, HO, eA, hsA⟩ := boxes3' w #[.slice A gs.length c, .slice L l.length k, .int .i64 s] #[.slice none 0 0, .slice none 0 0, .int .i64 0] #[.slice none 0 0, .slice none 0 0, .int .i64 0] 49 53 53
  have HSA := Lib.hid hsA
  have HA0 := Lib.hid HA; have HR0 := Lib.hid HR; have HO0 := Lib.hid HO; clear HA HR HO hsA
  unfold vdesc at C1
  unfold vlog at C2
  unfold varch
  go_enter Try.func23, Try.ntmps23
  go_wp2_with fail
  rw [← HW0.out]
  refine (C1.out _ (h.g.ext eA)).mono ?_; rintro _ w1 ⟨v1, qs, rfl, hqs, ho1, he1⟩
  subst hqs
  have hlq : (descsOf qs).length = qs.length := by simp [descsOf]
  obtain ⟨A1, c1, rfl⟩ := ho1.shape
  have a1 := (HA0.out.ext he1).cell; have p1 := (HO0.out.ext he1).cell; have q1 := (HO0.out.ext he1).free
  have hs1 := he1.size
  have g1 := ho1.block
  have O1 := Lib.hid (ho1.keep (grown_set w1 ⟨w.heap.size + 1 + 1, 0, none⟩ (.slice A1 qs.length c1)) (by intro u hu g hg' he'; have := g1 u hu g hg'; have := HSA.out; injection he' with he'; simp only at he'; omega))
  have HA1 := Lib.hid ((HA0.out.ext he1).other (g' := w.heap.size + 1 + 1) (by omega) 0 (.slice A1 qs.length c1)); have HR1 := Lib.hid ((HR0.out.ext he1).other (g' := w.heap.size + 1 + 1) (by omega) 0 (.slice A1 qs.length c1)); have HO1 := Lib.hid ((HO0.out.ext he1).set 0 (.slice A1 qs.length c1))
  have e1 := (eA.trans he1).setCell (p := ⟨w.heap.size + 1 + 1, 0, none⟩) (by show w.heap.size ≤ w.heap.size + 1 + 1; omega) (.slice A1 qs.length c1)
  have S1 : w1.heap.size ≤ (w1.setCell ⟨w.heap.size + 1 + 1, 0, none⟩ (.slice A1 qs.length c1)).heap.size := by simp
  have G1 := Lib.hid g1
  clear ho1 g1 HA0 HO0 HR0 eA
  go_wp2_with fail
  generalize w1.setCell ⟨w.heap.size + 1 + 1, 0, none⟩ (.slice A1 qs.length c1) = W1 at *
  clear a1 p1 q1
  refine (C2.out _ (h.l.ext e1)).mono ?_; rintro _ w2 ⟨v2, rfl, ho2, he2⟩
  obtain ⟨A2, c2, rfl, _⟩ := OwnL.rd ho2 (by omega)
  have p2 := (HO1.out.ext he2).cell; have q2 := (HO1.out.ext he2).free; have r2 := (HR1.out.ext he2).cell; have t2 := (HR1.out.ext he2).free
  have hs2 := he2.size
  have HO2 := Lib.hid ho2
  have O2 := Lib.hid (O1.out.ext he2)
  have e2 := e1.trans he2
  clear ho2 O1 he2 he1
  go_wp2
  have z0 := HSA.out
  have gr : ∀ (W : World) (x y : Value), W.grownBy ((W.setCell ⟨w.heap.size + 1 + 1, 1, none⟩ x).setCell ⟨w.heap.size + 1 + 1, 2, none⟩ y) (some (w.heap.size + 1 + 1)) := fun W x y => (grown_set W ⟨w.heap.size + 1 + 1, 1, none⟩ x).trans (grown_set _ ⟨w.heap.size + 1 + 1, 2, none⟩ y)
  have gs' : ∀ (W : World) (x y z : Value), W.grownBy (((W.setCell ⟨w.heap.size + 1, 0, none⟩ x).setCell ⟨w.heap.size + 1, 1, none⟩ y).setCell ⟨w.heap.size + 1, 2, none⟩ z) (some (w.heap.size + 1)) := fun W x y z => ((grown_set W ⟨w.heap.size + 1, 0, none⟩ x).trans (grown_set _ ⟨w.heap.size + 1, 1, none⟩ y)).trans (grown_set _ ⟨w.heap.size + 1, 2, none⟩ z)
  have OG := (O2.out.keep (gr w2 (.slice A2 l.length c2) (.int .i64 s)) (by intro u hu g hg' he'; have := G1.out u hu g hg'; injection he' with he'; omega)).keep (gs' _ (.slice A1 qs.length c1) (.slice A2 l.length c2) (.int .i64 s)) (by intro u hu g hg' he'; have := G1.out u hu g hg'; injection he' with he'; omega)
  have OL := (HO2.out.keep (gr w2 (.slice A2 l.length c2) (.int .i64 s)) (by intro g hg' he'; have := World.ownsRow.lt HO2.out g hg'; injection he' with he'; omega)).keep (gs' _ (.slice A1 qs.length c1) (.slice A2 l.length c2) (.int .i64 s)) (by intro g hg' he'; have := World.ownsRow.lt HO2.out g hg'; injection he' with he'; omega)
  have hq : ∀ q ∈ qs, szD (rulesOf q.2) ≤ 1048576 := fun q hq => szG_mem HZ.out (List.mem_map_of_mem (f := fun q : Value × List RV => rulesOf q.2) hq)
  obtain ⟨A3, c3, hv3, R3⟩ := OG.rd (by have := HZ.out; unfold szG at this; rw [hlq] at this; omega) (fun q h => (OwnD.short (hq q h)).1) (fun q h => (OwnD.short (hq q h)).2)
  rw [hlq] at hv3
  injection hv3 with i1 _ i2
  subst i1; subst i2
  obtain ⟨A4, c4, hv4, R4⟩ := OwnL.rd OL (by omega)
  injection hv4 with i1 _ i2
  subst i1; subst i2
  refine bodyPost_ret (v := .agg #[.slice A1 qs.length c1, .slice A2 l.length c2, .int .i64 s]) (by simp [results, Try.results23, go_sem, p2, q2, r2, t2]) rfl ⟨A1, c1, A2, c2, by rw [hlq], ⟨R3, R4.1⟩, ?_⟩
  exact (e2.grown (gr w2 _ _) (fun g hg => by injection hg with hg; omega)).grown (gs' _ _ _ _) (fun g hg => by injection hg with hg; omega)

set_option maxHeartbeats 2000000 in
theorem eqArchive_c (A : Option Addr) (gs : List (List DRule)) (c : Nat) (L : Option Addr) (l : List UInt8) (k : Nat) (s : Int) (A' : Option Addr) (gs' : List (List DRule)) (c' : Nat) (L' : Option Addr) (l' : List UInt8) (k' : Nat) (s' : Int) (w : World) (h : RdA w A gs c L l k) (h' : RdA w A' gs' c' L' l' k') (hs : ShortA gs l) (hs' : ShortA gs' l') :
    Gives Try.prog 25 #[varch (.slice A gs.length c) (.slice L l.length k) s, varch (.slice A' gs'.length c') (.slice L' l'.length k') s'] w (.bool (eqA gs l s gs' l' s')) := by
  have C1 := Lib.hid (fun w h h' => eqRegistry_c A A' gs gs' c c' w h h' hs.g hs'.g)
  have C2 := Lib.hid (fun w h h' => eqLog_c L L' l l' k k' s s' w h h')
  have eb := Ext_alloc (.cells #[.slice A' gs'.length c', .slice L' l'.length k', .int .i64 s'] 53) (Ext_alloc (.cells #[.slice A gs.length c, .slice L l.length k, .int .i64 s] 53) (Ext.refl w))
  have BX := fun w' (e : Ext ((w.alloc (.cells #[.slice A gs.length c, .slice L l.length k, .int .i64 s] 53)).alloc (.cells #[.slice A' gs'.length c', .slice L' l'.length k', .int .i64 s'] 53)) w') => boxed2 e
  have B0 := fun w' e => (BX w' e).1
  have B1 := fun w' e => (BX w' e).2.1
  clear BX
  have hl1 : l.length ≤ 140737488351232 := by have := hs.l; omega
  have hl2 : l'.length ≤ 140737488351232 := by have := hs'.l; omega
  have HC : Hid ((s == s' && l == l') = (l == l' && s == s')) := Bool.and_comm _ _
  unfold eqA
  rw [HC.out]
  unfold vdesc at C1
  unfold vlog at C2
  unfold varch
  generalize eqG gs gs' = q at *
  generalize (l == l' && s == s') = p at *
  clear HC
  cases q
  · go_enter Try.func25, Try.ntmps25
    go_wp2_with fail
    refine (C1.out _ (h.g.ext eb) (h'.g.ext eb)).mono ?_; rintro _ w1 ⟨rfl, e1⟩
    go_wp2
    go_ret
    exact ⟨ret_bool (by simp), eb.trans e1⟩
  · cases p
    all_goals
      go_enter Try.func25, Try.ntmps25
      go_wp2_with fail
      refine (C1.out _ (h.g.ext eb) (h'.g.ext eb)).mono ?_; rintro _ w1 ⟨rfl, e1⟩
      go_wp2_with fail
      refine (C2.out _ ⟨h.l.ext (eb.trans e1), hl1⟩ ⟨h'.l.ext (eb.trans e1), hl2⟩).mono ?_; rintro _ w2 ⟨rfl, e2⟩
      go_wp2
      go_ret
      exact ⟨ret_bool (by simp), eb.trans (e1.trans e2)⟩
end Go.Proofs.Ytlaejcacembjiaa

/- Archives that came in. -/
namespace Go.Proofs.Ytlaejcacembjiaa
open Go.ChangeShapes Go.WideShapes Go.ChangeAt Go.RowKit Go.Deep

section
variable {H : Type} {enc : TypeId × Value → H} {W : World} {base : Nat} {spare : Nat → Bool} {held : Bool}
set_option maxRecDepth 100000 in
theorem trod_agg2 {t : TypeId} {f0 f1 : Field} {n : Nat} {cs : List Value} {y : DataW H × List MemPlace} (hs : Try.prog.underlying t = some (.struct #[f0, f1])) (hone : oneCellFields Try.prog #[f0, f1] = true) (hC : Try.prog.cellsOf t = 2)
    (h : DataW.trod enc Try.prog W base spare held n t cs = some y) : ∃ (v0 v1 : Value) (y0 y1 : DataW H × List MemPlace) (m : Nat), cs = [v0, v1] ∧ DataW.trod enc Try.prog W base spare held m f0.type [v0] = some y0 ∧ DataW.trod enc Try.prog W base spare held m f1.type [v1] = some y1 := by
  obtain ⟨xs, m, _, _, hcl, hlen, hg⟩ := DataW.trod_struct hs h
  rw [hC] at hcl
  match cs, hcl with
  | [c0, c1], _ =>
    obtain ⟨o0, k0⟩ := Go.Deep.hone_of hone 0 f0 rfl
    obtain ⟨o1, k1⟩ := Go.Deep.hone_of hone 1 f1 rfl
    match xs, hlen with
    | [y0, y1], _ =>
      exact ⟨c0, c1, y0, y1, m, rfl, by simpa [o0, k0] using hg 0 f0 rfl, by simpa [o1, k1] using hg 1 f1 rfl⟩
structure ArchIn where
  A : Option Addr
  ds : List (List DRule)
  c : Nat
  L : Option Addr
  l : List UInt8
  k : Nat
  s : Int
def ArchIn.val (x : ArchIn) : Value := varch (.slice x.A x.ds.length x.c) (.slice x.L x.l.length x.k) x.s
def ArchIn.rd (x : ArchIn) (W : World) : Prop := RdA W x.A x.ds x.c x.L x.l x.k ∧ WfG x.ds
set_option maxRecDepth 100000 in
theorem in_archive {r : Reach} {b0 : Nat} {v : Value} {d : DataW H} {p : List MemPlace}
    (hv : Value.okWide Try.prog W r b0 49 v) (h : DataW.Trod enc Try.prog W base spare held 49 v d p) : ∃ x : ArchIn, v = x.val ∧ x.rd W := by
  obtain ⟨cs, rfl, hsz⟩ := okWide_struct Try.underlying49 hv
  have hC : Try.prog.cellsOf 49 = 3 := by kernel_rfl
  have hC0 : Try.prog.cellsOf 24 = 1 := by kernel_rfl
  have hC1 : Try.prog.cellsOf 47 = 2 := by kernel_rfl
  obtain ⟨l⟩ := cs
  match l, hsz.trans hC with
  | [c0, c1, c2], _ =>
    obtain ⟨fuel, hf⟩ := h
    obtain ⟨xs, n, _, hx, _, hlen, hg⟩ := DataW.trod_struct Try.underlying49 hf
    match xs, hlen with
    | [y0, y1], _ =>
      have g0 : DataW.trod enc Try.prog W base spare held n 24 [c0] = some y0 := by simpa [Value.cells, hC0] using hg 0 _ rfl
      have g1 : DataW.trod enc Try.prog W base spare held n 47 [c1, c2] = some y1 := by simpa [Value.cells, hC1] using hg 1 _ rfl
      obtain ⟨m, y', h'⟩ := trod_one Try.underlying24 (by kernel_rfl) g0
      obtain ⟨A, ds, c, rfl, r1, r2⟩ := in_descs h'
      obtain ⟨v0, v1, z0, z1, m', hcs, h0, h1⟩ := trod_agg2 Try.underlying47 (by kernel_rfl) (by kernel_rfl) g1
      dsimp only at h0 h1
      obtain ⟨L, lb, k, rfl, r3⟩ := in_bytes Try.underlying45 Try.underlying5 (by kernel_rfl) h0
      obtain ⟨s, e1, _, hs⟩ := DataW.trod_int Try.underlying3 h1
      simp at e1
      subst e1
      injection hcs with e2 e3
      injection e3 with e3 _
      subst e2; subst e3
      exact ⟨⟨A, ds, c, L, lb, k, s⟩, rfl, ⟨r1, r3⟩, r2⟩
end
end Go.Proofs.Ytlaejcacembjiaa
