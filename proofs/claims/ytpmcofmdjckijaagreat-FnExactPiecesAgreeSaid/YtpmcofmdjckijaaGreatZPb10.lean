/- Texts, laid into one. -/
import Derived.Test.YtpmcofmdjckijaaGreatZPb9
import Derived.StillTail
import Derived.OrdersHeld
import Derived.Deep.RegionHeld3
set_option linter.unusedVariables false
set_option linter.unusedSimpArgs false
set_option maxRecDepth 100000
set_option maxHeartbeats 16000000
namespace Go.Proofs.YtpmcofmdjckijaaGreat
open Go.RowKit Go.Sort
theorem E_str : Elem Tryz.prog 85 9 1 16 (.string ⟨#[]⟩) := ⟨Tryz.underlying85, by kernel_rfl, rfl, by omega⟩
theorem toStringS_c (A : Option Addr) (l : List ByteArray) (c : Nat) (w : World) (h : Rd0 vstr w A l c) (hL : l.length ≤ 1048576) :
 Calls Tryz.prog 95 #[.slice A l.length c] w fun e w' => ∃ v, e = .returned v ∧ OwnL vstr 9 w w' v l ∧ Ext w w' := by
 go_enter Tryz.func95, Tryz.ntmps95
 go_wp2_with (first
  | (at_make; refine wpList_mk rfl _ _ _ rfl E_str w w (Ext.refl w) l.length rfl rfl (by omega) (by simp [maxLen]; omega) ?_; intro w1 ho he _))
 go_loopw [4] (fun i wr => ∃ k : Nat, k ≤ l.length ∧ i = .int .i64 k ∧ Own 9 1 w wr (.slice (some ⟨w.heap.size, 0, none⟩) l.length l.length) l.length ((l.take k).map vstr ++ List.replicate (l.length - k) (.string ⟨#[]⟩)) ∧ Ext w wr) (fun i _ => l.length - (intOf i).toNat)
 case atStart => exact ⟨0, by omega, rfl, by rw [made_one _ rfl] at ho; simpa using ho, he⟩
 case round =>
  clear ho he
  obtain ⟨k, hk, rfl, ho, he⟩ := hrel
  by_cases hlt : k < l.length
  ·obtain ⟨b, off, rfl, hb, hc⟩ := h.at k hlt
   obtain ⟨⟨u0, hu⟩, hf⟩ := ho.slot k (by simp; omega)
   obtain ⟨ho', he'⟩ := ho.store he k (vstr l[k])
   rw [fill_step vstr l _ k hlt] at ho'
   clear h ho
   go_wp2
   go_roundw
   case rel => exact ⟨k+1, by omega, by go_num, ho', he'⟩
   case measure => simp [intOf]; omega
  ·obtain rfl : k = l.length := by omega
   go_wp2
   go_ret
   exact ⟨_, rfl, by simpa [OwnL] using ho, he⟩
theorem toRule_c (r : DRule) (Ab : Option Addr) (cb : Nat) (An : Option Addr) (cn : Nat) (At : Option Addr) (ct : Nat) (Ak : Option Addr) (ck : Nat) (w : World) (h : RdS w r Ab cb An cn At ct Ak ck) (hz : szRl r ≤ 1048576) :
 Calls Tryz.prog 54 #[vrule r (.slice Ab r.bytes.length cb) (.slice An r.names.length cn) (.slice At r.tags.length ct) (.slice Ak r.kids.length ck)] w fun e w' => ∃ vb vn vt vk, e = .returned (vrule r vb vn vt vk) ∧ RuleOwn w w' ⟨r, vb, vn, vt, vk⟩ ∧ Far [vb, vn, vt, vk] ∧ Ext w w' := by
 obtain ⟨hb, hn, ht, hk⟩ := h
 obtain ⟨⟨s1, s2, s3, s4⟩, z1, z2, z3, z4⟩ := szRl_short hz
 have C1 := Lib.hid (fun w h => toByteS_c Ab r.bytes cb w h z1)
 have C2 := Lib.hid (fun w h => toStringS_c An r.names cn w h z2)
 have C3 := Lib.hid (fun w h => toIntS_c At r.tags ct w h z3)
 have C4 := Lib.hid (fun w h => toIntS_c Ak r.kids ck w h z4)
 obtain ⟨nm, kind, size, little, bytes, names, tags, kids⟩ := r
 dsimp only at *
 obtain ⟨W0, HW0, HA, HR, HO, eA, hsA⟩ := boxes3' w #[.string nm, .int .i64 kind, .int .i64 size, .bool little, .slice Ab bytes.length cb, .slice An names.length cn, .slice At tags.length ct, .slice Ak kids.length ck] #[.string ⟨#[]⟩, .int .i64 0, .int .i64 0, .bool false, .slice none 0 0, .slice none 0 0, .slice none 0 0, .slice none 0 0] #[.string nm, .int .i64 kind, .int .i64 size, .bool little, .slice none 0 0, .slice none 0 0, .slice none 0 0, .slice none 0 0] 92 96 96
 have HSA := Lib.hid hsA; clear hsA
 have HA0 := Lib.hid HA; have HR0 := Lib.hid HR; have HO0 := Lib.hid HO; clear HA HR HO
 unfold vrule
 dsimp only
 go_enter Tryz.func54, Tryz.ntmps54
 go_wp2_with fail
 rw [← HW0.out]
 refine (C1.out _ (hb.ext eA)).mono ?_; rintro _ w1 ⟨v1, rfl, ho1, he1⟩
 obtain ⟨A1, c1, rfl, _⟩ := OwnL.rd ho1 s1
 have a1 := (HA0.out.ext he1).cell; have p1 := (HO0.out.ext he1).cell; have q1 := (HO0.out.ext he1).free
 have f1 : (Value.slice A1 bytes.length c1).ownBlock ≠ some (w.heap.size + 1 + 1) := OwnL.far ho1 (.inl (by have := HO0.out.lt; omega))
 have g1 : ∀ g, (Value.slice A1 bytes.length c1).ownBlock = some g → W0.heap.size ≤ g ∧ g < w1.heap.size := fun g hg => World.ownsRow.lt ho1 g hg
 have G1 := Lib.hid g1; have F1 := Lib.hid f1; have S1 := Lib.hid (by simp : w1.heap.size ≤ (w1.setCell ⟨w.heap.size + 1 + 1, 4, none⟩ (.slice A1 bytes.length c1)).heap.size); have T1 := Lib.hid he1.size
 have O11 := Lib.hid (OwnL.other ho1 ⟨w.heap.size + 1 + 1, 4, none⟩ (.slice A1 bytes.length c1) f1)
 have HA1 := Lib.hid ((HA0.out.ext he1).other (g' := w.heap.size + 1 + 1) (by omega) 4 (.slice A1 bytes.length c1)); have HR1 := Lib.hid ((HR0.out.ext he1).other (g' := w.heap.size + 1 + 1) (by omega) 4 (.slice A1 bytes.length c1)); have HO1 := Lib.hid ((HO0.out.ext he1).set 4 (.slice A1 bytes.length c1))
 have e1 := (eA.trans he1).setCell (p := ⟨w.heap.size + 1 + 1, 4, none⟩) (by show w.heap.size ≤ w.heap.size + 1 + 1; omega) (.slice A1 bytes.length c1)
 clear ho1 f1 g1 HA0 HR0 HO0 he1 eA
 go_wp2_with fail
 generalize w1.setCell ⟨w.heap.size + 1 + 1, 4, none⟩ (.slice A1 bytes.length c1) = W1 at *
 clear a1 p1 q1
 refine (C2.out _ (hn.ext e1)).mono ?_; rintro _ w2 ⟨v2, rfl, ho2, he2⟩
 obtain ⟨A2, c2, rfl, _⟩ := OwnL.rd ho2 s2
 have a2 := (HA1.out.ext he2).cell; have p2 := (HO1.out.ext he2).cell; have q2 := (HO1.out.ext he2).free
 have f2 : (Value.slice A2 names.length c2).ownBlock ≠ some (w.heap.size + 1 + 1) := OwnL.far ho2 (.inl (by have := HO1.out.lt; omega))
 have g2 : ∀ g, (Value.slice A2 names.length c2).ownBlock = some g → W1.heap.size ≤ g ∧ g < w2.heap.size := fun g hg => World.ownsRow.lt ho2 g hg
 have G2 := Lib.hid g2; have F2 := Lib.hid f2; have S2 := Lib.hid (by simp : w2.heap.size ≤ (w2.setCell ⟨w.heap.size + 1 + 1, 5, none⟩ (.slice A2 names.length c2)).heap.size); have T2 := Lib.hid he2.size
 have O22 := Lib.hid (OwnL.other ho2 ⟨w.heap.size + 1 + 1, 5, none⟩ (.slice A2 names.length c2) f2)
 have O12 := Lib.hid (OwnL.other (O11.out.ext he2) ⟨w.heap.size + 1 + 1, 5, none⟩ (.slice A2 names.length c2) F1.out)
 have HA2 := Lib.hid ((HA1.out.ext he2).other (g' := w.heap.size + 1 + 1) (by omega) 5 (.slice A2 names.length c2)); have HR2 := Lib.hid ((HR1.out.ext he2).other (g' := w.heap.size + 1 + 1) (by omega) 5 (.slice A2 names.length c2)); have HO2 := Lib.hid ((HO1.out.ext he2).set 5 (.slice A2 names.length c2))
 have e2 := (e1.trans he2).setCell (p := ⟨w.heap.size + 1 + 1, 5, none⟩) (by show w.heap.size ≤ w.heap.size + 1 + 1; omega) (.slice A2 names.length c2)
 clear ho2 f2 g2 HA1 HR1 HO1 he2 e1 O11
 go_wp2_with fail
 generalize w2.setCell ⟨w.heap.size + 1 + 1, 5, none⟩ (.slice A2 names.length c2) = W2 at *
 clear a2 p2 q2
 refine (C3.out _ (ht.ext e2)).mono ?_; rintro _ w3 ⟨v3, rfl, ho3, he3⟩
 obtain ⟨A3, c3, rfl, _⟩ := OwnL.rd ho3 s3
 have a3 := (HA2.out.ext he3).cell; have p3 := (HO2.out.ext he3).cell; have q3 := (HO2.out.ext he3).free
 have f3 : (Value.slice A3 tags.length c3).ownBlock ≠ some (w.heap.size + 1 + 1) := OwnL.far ho3 (.inl (by have := HO2.out.lt; omega))
 have g3 : ∀ g, (Value.slice A3 tags.length c3).ownBlock = some g → W2.heap.size ≤ g ∧ g < w3.heap.size := fun g hg => World.ownsRow.lt ho3 g hg
 have G3 := Lib.hid g3; have F3 := Lib.hid f3; have S3 := Lib.hid (by simp : w3.heap.size ≤ (w3.setCell ⟨w.heap.size + 1 + 1, 6, none⟩ (.slice A3 tags.length c3)).heap.size); have T3 := Lib.hid he3.size
 have O33 := Lib.hid (OwnL.other ho3 ⟨w.heap.size + 1 + 1, 6, none⟩ (.slice A3 tags.length c3) f3)
 have O13 := Lib.hid (OwnL.other (O12.out.ext he3) ⟨w.heap.size + 1 + 1, 6, none⟩ (.slice A3 tags.length c3) F1.out)
 have O23 := Lib.hid (OwnL.other (O22.out.ext he3) ⟨w.heap.size + 1 + 1, 6, none⟩ (.slice A3 tags.length c3) F2.out)
 have HA3 := Lib.hid ((HA2.out.ext he3).other (g' := w.heap.size + 1 + 1) (by omega) 6 (.slice A3 tags.length c3)); have HR3 := Lib.hid ((HR2.out.ext he3).other (g' := w.heap.size + 1 + 1) (by omega) 6 (.slice A3 tags.length c3)); have HO3 := Lib.hid ((HO2.out.ext he3).set 6 (.slice A3 tags.length c3))
 have e3 := (e2.trans he3).setCell (p := ⟨w.heap.size + 1 + 1, 6, none⟩) (by show w.heap.size ≤ w.heap.size + 1 + 1; omega) (.slice A3 tags.length c3)
 clear ho3 f3 g3 HA2 HR2 HO2 he3 e2 O12 O22
 go_wp2_with fail
 generalize w3.setCell ⟨w.heap.size + 1 + 1, 6, none⟩ (.slice A3 tags.length c3) = W3 at *
 clear a3 p3 q3
 refine (C4.out _ (hk.ext e3)).mono ?_; rintro _ w4 ⟨v4, rfl, ho4, he4⟩
 obtain ⟨A4, c4, rfl, _⟩ := OwnL.rd ho4 s4
 have a4 := (HA3.out.ext he4).cell; have p4 := (HO3.out.ext he4).cell; have q4 := (HO3.out.ext he4).free
 have r4 := (HR3.out.ext he4).cell; have t4 := (HR3.out.ext he4).free
 have f4 : (Value.slice A4 kids.length c4).ownBlock ≠ some (w.heap.size + 1 + 1) := OwnL.far ho4 (.inl (by have := HO3.out.lt; omega))
 have g4 : ∀ g, (Value.slice A4 kids.length c4).ownBlock = some g → W3.heap.size ≤ g ∧ g < w4.heap.size := fun g hg => World.ownsRow.lt ho4 g hg
 have G4 := Lib.hid g4; have F4 := Lib.hid f4; have S4 := Lib.hid (by simp : w4.heap.size ≤ (w4.setCell ⟨w.heap.size + 1 + 1, 7, none⟩ (.slice A4 kids.length c4)).heap.size); have T4 := Lib.hid he4.size
 have O44 := Lib.hid (OwnL.other ho4 ⟨w.heap.size + 1 + 1, 7, none⟩ (.slice A4 kids.length c4) f4)
 have O14 := Lib.hid (OwnL.other (O13.out.ext he4) ⟨w.heap.size + 1 + 1, 7, none⟩ (.slice A4 kids.length c4) F1.out)
 have O24 := Lib.hid (OwnL.other (O23.out.ext he4) ⟨w.heap.size + 1 + 1, 7, none⟩ (.slice A4 kids.length c4) F2.out)
 have O34 := Lib.hid (OwnL.other (O33.out.ext he4) ⟨w.heap.size + 1 + 1, 7, none⟩ (.slice A4 kids.length c4) F3.out)
 have HA4 := Lib.hid ((HA3.out.ext he4).other (g' := w.heap.size + 1 + 1) (by omega) 7 (.slice A4 kids.length c4)); have HR4 := Lib.hid ((HR3.out.ext he4).other (g' := w.heap.size + 1 + 1) (by omega) 7 (.slice A4 kids.length c4)); have HO4 := Lib.hid ((HO3.out.ext he4).set 7 (.slice A4 kids.length c4))
 have e4 := (e3.trans he4).setCell (p := ⟨w.heap.size + 1 + 1, 7, none⟩) (by show w.heap.size ≤ w.heap.size + 1 + 1; omega) (.slice A4 kids.length c4)
 clear ho4 f4 g4 HA3 HR3 HO3 he4 e3 O13 O23 O33
 go_wp2
 have z0 := HSA.out
 have S1 := S1.out; have S2 := S2.out; have S3 := S3.out; have S4 := S4.out; have T1 := T1.out; have T2 := T2.out; have T3 := T3.out; have T4 := T4.out
 have G := grown_put8 (w4.setCell ⟨w.heap.size + 1 + 1, 7, none⟩ (.slice A4 kids.length c4)) (w.heap.size + 1) 0 ⟨⟨nm, kind, size, little, bytes, names, tags, kids⟩, .slice A1 bytes.length c1, .slice A2 names.length c2, .slice A3 tags.length c3, .slice A4 kids.length c4⟩
 refine bodyPost_ret (v := .agg #[.string nm, .int .i64 kind, .int .i64 size, .bool little, .slice A1 bytes.length c1, .slice A2 names.length c2, .slice A3 tags.length c3, .slice A4 kids.length c4]) (by simp [results, Tryz.results54, go_sem, a4, p4, q4, r4, t4]) rfl ⟨_, _, _, _, rfl, ⟨?_, ?_, ?_, ?_⟩, ?_, ?_⟩
 ·exact (OwnL.keep O14.out G (fun g hg he => by have := G1.out g hg; injection he with he; omega)).down (by omega)
 ·exact (OwnL.keep O24.out G (fun g hg he => by have := G2.out g hg; injection he with he; omega)).down (by omega)
 ·exact (OwnL.keep O34.out G (fun g hg he => by have := G3.out g hg; injection he with he; omega)).down (by omega)
 ·exact (OwnL.keep O44.out G (fun g hg he => by have := G4.out g hg; injection he with he; omega)).down (by omega)
 ·refine Far.cons (Far.cons (Far.cons (Far.one _) ?_) ?_) ?_
  ·intro v hv g h1 h2
   have := G3.out g h1
   simp only [List.mem_cons, List.not_mem_nil, or_false] at hv
   rcases hv with rfl
   have := G4.out g h2; omega
  ·intro v hv g h1 h2
   have := G2.out g h1
   simp only [List.mem_cons, List.not_mem_nil, or_false] at hv
   rcases hv with rfl | rfl
   ·have := G3.out g h2; omega
   ·have := G4.out g h2; omega
  ·intro v hv g h1 h2
   have := G1.out g h1
   simp only [List.mem_cons, List.not_mem_nil, or_false] at hv
   rcases hv with rfl | rfl | rfl
   ·have := G2.out g h2; omega
   ·have := G3.out g h2; omega
   ·have := G4.out g h2; omega
 ·exact e4.grown G (fun g hg => by injection hg with hg; omega)
theorem rulesOf_append (a b : List RV) : rulesOf (a ++ b) = rulesOf a ++ rulesOf b := by simp [rulesOf]
theorem toRuleS_c (A : Option Addr) (ds : List DRule) (c : Nat) (w : World) (h : RdD w A ds c) (hz : szD ds ≤ 1048576) :
 Calls Tryz.prog 30 #[.slice A ds.length c] w fun e w' => ∃ v ps, e = .returned v ∧ rulesOf ps = ds ∧ OwnD w w' v ps ∧ Ext w w' := by
 have hn : ds.length ≤ 1048576 := by unfold szD at hz; omega
 have HZ : Hid (∀ k (hk : k < ds.length), szRl ds[k] ≤ 1048576) := fun k hk => szD_mem hz (List.getElem_mem hk)
 go_enter Tryz.func30, Tryz.ntmps30
 go_wp2_with (first
  | (at_make; refine wpList_mk rfl _ _ _ rfl E_rule w w (Ext.refl w) ds.length rfl rfl (by omega) (by simp [maxLen]; omega) ?_; intro w1 ho he _))
 have hw1 : w.heap.size < w1.heap.size := (World.ownsRow.lt ho _ rfl).2
 obtain ⟨rest0, HR0, HO⟩ : ∃ rest0 : List Value, Hid (rest0.length = ds.length * 8) ∧ Hid (Own 96 8 w w1 (.slice (some ⟨w.heap.size, 0, none⟩) ds.length ds.length) ds.length rest0) := ⟨_, by show _ = _; rw [Array.length_toList, size_madeCells], ho⟩
 clear ho
 go_loopw [4] (fun i wr => ∃ (k : Nat) (ps : List RV) (rest : List Value), k ≤ ds.length ∧ i = .int .i64 k ∧ ps.length ≤ k ∧ k ≤ ps.length ∧ Hid (rulesOf ps = ds.take k) ∧ Hid (rest.length = (ds.length - k) * 8) ∧ Hid (Own 96 8 w wr (.slice (some ⟨w.heap.size, 0, none⟩) ds.length ds.length) ds.length (ps.flatMap RV.cells ++ rest)) ∧ Hid (∀ p ∈ ps, RuleOwn w1 wr p) ∧ Hid (Far (ps.flatMap RV.vals)) ∧ Ext w wr ∧ w1.heap.size ≤ wr.heap.size) (fun i _ => ds.length - (intOf i).toNat)
 case atStart => exact ⟨0, [], rest0, by omega, rfl, by simp, by simp, by simp [Hid, rulesOf], by simpa [Hid] using HR0.out, by simpa [Hid] using HO.out, by simp [Hid], Far.nil, he, Nat.le_refl _⟩
 case round =>
  clear HO HR0 rest0 he
  obtain ⟨k, ps, rest, hk, rfl, hl1, hl2, hps, hrest, ho, hq, hfar, he, hsz⟩ := hrel
  by_cases hlt : k < ds.length
  ·obtain ⟨b, off, Ab, cb, An, cn, At, ct, Ak, ck, rfl, hb, hs, hr⟩ := h.at k hlt
   have hzk := HZ.out k hlt
   have HT : Hid (ds.take (k+1) = ds.take k ++ [ds[k]]) := List.take_succ_eq_append_getElem hlt
   generalize ds[k] = r at *
   have C := Lib.hid (fun w h => toRule_c r Ab cb An cn At ct Ak ck w h hzk)
   obtain ⟨k0, k1, k2, k3, k4, k5, k6, k7⟩ := hr
   unfold vrule at C
   clear h
   go_wp2_with fail
   refine (C.out _ (hs.ext he)).mono ?_; rintro _ w2 ⟨vb, vn, vt, vk, rfl, hro, hfr, he2⟩
   obtain ⟨Ab', cb', An', cn', At', ct', Ak', ck', e1, e2, e3, e4, _⟩ := hro.rd (szRl_short hzk).1
   dsimp only at e1 e2 e3 e4
   subst e1 e2 e3 e4
   have ho2 := Own.ext ho.out he2
   have hln : (ps.flatMap RV.cells ++ rest).length = ds.length * 8 := ho2.1
   obtain ⟨⟨u0, hu0⟩, hf0⟩ := ho2.slot (k * 8) (by rw [hln]; omega)
   obtain ⟨⟨u1, hu1⟩, hf1⟩ := ho2.slot (k * 8 + 1) (by rw [hln]; omega)
   obtain ⟨⟨u2, hu2⟩, hf2⟩ := ho2.slot (k * 8 + 2) (by rw [hln]; omega)
   obtain ⟨⟨u3, hu3⟩, hf3⟩ := ho2.slot (k * 8 + 3) (by rw [hln]; omega)
   obtain ⟨⟨u4, hu4⟩, hf4⟩ := ho2.slot (k * 8 + 4) (by rw [hln]; omega)
   obtain ⟨⟨u5, hu5⟩, hf5⟩ := ho2.slot (k * 8 + 5) (by rw [hln]; omega)
   obtain ⟨⟨u6, hu6⟩, hf6⟩ := ho2.slot (k * 8 + 6) (by rw [hln]; omega)
   obtain ⟨⟨u7, hu7⟩, hf7⟩ := ho2.slot (k * 8 + 7) (by rw [hln]; omega)
   have hlr := hrest.out
   have hpl : ps.length = k := by omega
   obtain ⟨hO, hE⟩ := Own.put8 ho2 (he.trans he2) ⟨r, .slice Ab' r.bytes.length cb', .slice An' r.names.length cn', .slice At' r.tags.length ct', .slice Ak' r.kids.length ck'⟩ (by omega) (k * 8) (by rw [cells_len]; omega)
   have hG := grown_put8 w2 w.heap.size (k * 8) ⟨r, .slice Ab' r.bytes.length cb', .slice An' r.names.length cn', .slice At' r.tags.length ct', .slice Ak' r.kids.length ck'⟩
   have HO := Lib.hid hO; have HE := Lib.hid hE; have HG := Lib.hid hG; have HRO := Lib.hid hro; have HF4 := Lib.hid hfr; have HPL := Lib.hid hpl; have HLR := Lib.hid hlr
   have hsz2 := he2.size
   clear ho2 hO hE hG hro hfr hpl hlr ho
   go_wp2
   go_roundw
   case rel =>
    refine ⟨k+1, ps ++ [⟨r, .slice Ab' r.bytes.length cb', .slice An' r.names.length cn', .slice At' r.tags.length ct', .slice Ak' r.kids.length ck'⟩], rest.drop 8, by omega, by go_num, by simp; omega, by simp; omega, ?_, ?_, ?_, ?_, ?_, HE.out, ?_⟩
    ·show _ = _; rw [rulesOf_append, hps.out, HT.out]; rfl
    ·show _ = _; rw [List.length_drop, HLR.out]; omega
    ·show Own _ _ _ _ _ _ _; rw [List.flatMap_append, List.flatMap_cons, List.flatMap_nil, List.append_nil]; exact HO.out
    ·intro p hp
     rcases List.mem_append.1 hp with hp | hp
     ·exact ((hq.out p hp).ext he2).keep HG.out (fun v hv g hg he' => by have := (hq.out p hp).block v hv g hg; injection he' with he'; omega)
     ·obtain rfl := List.mem_singleton.1 hp
      exact (HRO.out.keep HG.out (fun v hv g hg he' => by have := HRO.out.block v hv g hg; injection he' with he'; omega)).down hsz
    ·show Far _
     rw [List.flatMap_append, List.flatMap_cons, List.flatMap_nil, List.append_nil]
     refine Far.append hfar.out HF4.out ?_
     intro u hu v hv g h1 h2
     obtain ⟨p, hp, hu⟩ := List.mem_flatMap.1 hu
     have := (hq.out p hp).block u hu g h1
     have := HRO.out.block v hv g h2
     omega
    ·first | exact Nat.le_trans (Nat.le_trans hsz hsz2) HG.out.size | exact Nat.le_trans hsz hsz2
   case measure => simp [intOf]; omega
  ·obtain rfl : k = ds.length := by omega
   go_wp2
   go_ret
   have hr0 : rest = [] := List.eq_nil_of_length_eq_zero (by have := hrest.out; omega)
   have hlen : ps.length = ds.length := by omega
   refine ⟨_, ps, rfl, ?_, ⟨?_, ?_, ?_⟩, he⟩
   ·have := hps.out; rwa [List.take_length] at this
   ·have := ho.out; rw [hr0, List.append_nil] at this; rw [hlen]; exact this
   ·exact fun p hp => (hq.out p hp).down (by omega)
   ·refine Far.cons hfar.out ?_
    intro u hu g h1 h2
    obtain ⟨p, hp, hu⟩ := List.mem_flatMap.1 hu
    have := (hq.out p hp).block u hu g h2
    have h1' : w.heap.size = g := by simpa [Value.ownBlock] using h1
    omega
theorem toDescription_c (A : Option Addr) (ds : List DRule) (c : Nat) (w : World) (h : RdD w A ds c) (hz : szD ds ≤ 1048576) :
 Calls Tryz.prog 12 #[vdesc (.slice A ds.length c)] w fun e w' => ∃ v ps, e = .returned (vdesc v) ∧ rulesOf ps = ds ∧ OwnD w w' v ps ∧ Ext w w' := by
 have C := Lib.hid (fun w h => toRuleS_c A ds c w h hz)
 obtain ⟨W0, HW0, HA, HR, HO, eA, hsA⟩ := boxes3' w #[.slice A ds.length c] #[.slice none 0 0] #[.slice none 0 0] 36 26 26
 have HSA := Lib.hid hsA; clear hsA
 have HA0 := Lib.hid HA; have HR0 := Lib.hid HR; have HO0 := Lib.hid HO; clear HA HR HO
 unfold vdesc
 go_enter Tryz.func12, Tryz.ntmps12
 go_wp2_with fail
 rw [← HW0.out]
 refine (C.out _ (h.ext eA)).mono ?_; rintro _ w1 ⟨v1, ps, rfl, hps, ho1, he1⟩
 obtain ⟨A1, c1, rfl⟩ := ho1.shape
 have p1 := (HO0.out.ext he1).cell; have q1 := (HO0.out.ext he1).free
 have r1 := (HR0.out.ext he1).cell; have t1 := (HR0.out.ext he1).free
 have HP := Lib.hid hps; have HO1 := Lib.hid ho1
 have hs1 := he1.size
 clear hps ho1
 go_wp2
 have z0 := HSA.out
 refine bodyPost_ret (v := .agg #[.slice A1 ps.length c1]) (by simp [results, Tryz.results12, go_sem, p1, q1, r1, t1]) rfl ⟨_, ps, rfl, HP.out, ?_, ?_⟩
 ·refine ((HO1.out.keep (grown_set _ ⟨w.heap.size + 1 + 1, 0, none⟩ _) ?_).keep (grown_set _ ⟨w.heap.size + 1, 0, none⟩ _) ?_).down (by omega)
  ·intro u hu g hg he'; have := HO1.out.block u hu g hg; injection he' with he'; simp only at he'; omega
  ·intro u hu g hg he'; have := HO1.out.block u hu g hg; injection he' with he'; simp only at he'; omega
 ·exact ((eA.trans he1).setCell (by simp; omega) _).setCell (by simp) _
theorem boxes2' (w : World) (c0 c1 : Array Value) (T0 T1 : TypeId) :
 ∃ W, Hid (W = ((w.alloc (.cells c0 T0)).alloc (.cells c1 T1))) ∧ Box W w.heap.size c0 T0 ∧ Box W (w.heap.size + 1) c1 T1 ∧ Ext w W ∧ W.heap.size = w.heap.size + 2 := by
 have s1 : (w.alloc (.cells c0 T0)).heap.size = w.heap.size + 1 := by simp
 have h1 := Box.new (w.alloc (.cells c0 T0)) c1 T1
 rw [s1] at h1
 exact ⟨_, rfl, (Box.new w c0 T0).ext (Ext_alloc _ (Ext.refl _)), h1, Ext_alloc _ (Ext_alloc _ (Ext.refl w)), by simp⟩
theorem eqIntS_c (A A' : Option Addr) (l l' : List Int) (c c' : Nat) (w : World) (h : Is w A l c) (h' : Is w A' l' c') :
 Gives Tryz.prog 117 #[.slice A l.length c, .slice A' l'.length c'] w (.bool (l == l')) := by
 have hl := h.len; have hl' := h'.len
 by_cases hn : l.length = l'.length
 ·have hb1 : ((l.length : Int) != (l'.length : Int)) = false := by simp [hn]
  have H := Lib.hid hn; clear hn
  go_enter Tryz.func117, Tryz.ntmps117
  go_wp2
  go_loopw [5, 4] (fun i v wr => ∃ k : Nat, k ≤ l.length ∧ i = .int .i64 k ∧ Hid (l.take k = l'.take k) ∧ Ext w wr) (fun i _ _ => l.length - (intOf i).toNat)
  case atStart => exact ⟨0, by omega, rfl, by simp [Hid], Ext.refl _⟩
  case round =>
   obtain ⟨k, hk, rfl, ht, he⟩ := hrel
   by_cases hlt : k < l.length
   ·have hlt' : k < l'.length := by have := H.out; omega
    obtain ⟨b, off, rfl, hb, hc⟩ := h.at k hlt
    obtain ⟨b', off', rfl, hb', hc'⟩ := h'.at k hlt'
    clear h h'
    go_wp2
    refine wp_region_quiet_below (by kernel_rfl) (by kernel_rfl) ?_
    repeat (go_big_quiet_step (fail))
    refine wpQuiet_nil ?_
    rintro _ ⟨⟨nq, osq⟩, rfl⟩
    go_wp2
    ·have hne : (l[k] != l'[k]) = true := by assumption
     go_ret
     refine ⟨ret_bool ?_, Ext_regrown _ _ he⟩
     symm; rw [beq_eq_false_iff_ne]; rintro rfl; simp at hne
    ·have hne : (l[k] != l'[k]) = false := by assumption
     go_roundw
     case rel => exact ⟨k+1, by omega, by go_num, take_eq_succ hlt hlt' ht (by simpa using hne), Ext_regrown _ _ he⟩
     case measure => simp [intOf]; omega
   ·go_wp2
    go_ret
    refine ⟨ret_bool ?_, he⟩
    have ht := ht.out; have H := H.out
    rw [List.take_of_length_le (by omega), List.take_of_length_le (by omega)] at ht
    simp [ht]
 ·have hb1 : ((l.length : Int) != (l'.length : Int)) = true := by simp; omega
  go_enter Tryz.func117, Tryz.ntmps117
  go_wp2
  go_ret
  refine ⟨ret_bool ?_, Ext.refl _⟩
  symm; rw [beq_eq_false_iff_ne]; rintro rfl; exact hn rfl
def at0 (l : List Int) (i : Nat) : Int := l.getD i 0
def merged (a b : List Int) : List Int := (List.range (max a.length b.length)).map fun i => wrap64 (at0 a i + at0 b i)
end Go.Proofs.YtpmcofmdjckijaaGreat
namespace Go.Proofs.YtpmcofmdjckijaaGreat
def kidsOf (r : DRule) : List Int := if r.kind = 4 ∨ r.kind = 5 ∨ r.kind = 7 then r.kids.drop 1 else r.kids
def setAll (c : List Bool) (l : List Int) : List Bool := l.foldl (fun c k => c.set k.toNat true) c
def possAt (ds : List DRule) (c : List Bool) (i : Nat) : List Bool := if c.getD i false then setAll c (kidsOf (ds.getD i ⟨⟨#[]⟩, 0, 0, false, [], [], [], []⟩)) else c
def possFrom (ds : List DRule) : Nat → List Bool → List Bool
 | 0, c => c
 | i + 1, c => possFrom ds i (possAt ds c i)
def possible (ds : List DRule) : List Bool := possFrom ds ds.length ((List.replicate ds.length false).set (ds.length - 1) true)
theorem setAll_len (c : List Bool) (l : List Int) : (setAll c l).length = c.length := by
 unfold setAll
 induction l generalizing c with
 | nil => rfl
 | cons a t ih => rw [List.foldl_cons, ih]; simp
def entries (ds : List DRule) : List Nat := (List.range ds.length).filter fun i => (possible ds).getD i false
def entriesUpTo (c : List Bool) (n : Nat) : List Nat := (List.range n).filter fun i => c.getD i false
def covered (ds : List DRule) (cov : List Int) : Nat := ((entries ds).filter fun i => decide (0 < at0 cov i)).length
def percent (ds : List DRule) (cov : List Int) : Int := if descOk ds then (100 * covered ds cov : Nat) / (entries ds).length else 0
def uncovered (ds : List DRule) (cov : List Int) : List ByteArray := if descOk ds then ((entries ds).filter fun i => at0 cov i == 0).map (fun i => (ds.getD i ⟨⟨#[]⟩, 0, 0, false, [], [], [], []⟩).nm) else []
end Go.Proofs.YtpmcofmdjckijaaGreat
namespace Go.Proofs.YtpmcofmdjckijaaGreat
open Go.RowKit Go.Sort
def findR (ds : List DRule) (s : ByteArray) : Int := match ds.findIdx? (fun r => r.nm.toList == s.toList) with | some i => (i : Int) | none => -1
def nmsOf (ds : List DRule) : List ByteArray := ds.map DRule.nm
section
variable {P : Program} {ops : Array Oper} {rest : List Oper} {o : Oper} {a : Act} {Q : Exit → Act → World → Prop}
theorem wpList_appNB (hgd : o.guard = none) (s x : Operand) (t : TypeId) (ho : o.op = .call { callee := .builtin .append, args := #[s, x], argTypes := #[t, t] })
 {e : TypeId} {bytes : Nat} {z : Value} (hE : Elem P t e 1 bytes z) (hby : 1 ≤ bytes) (w0 w : World) {α : Type} (f : α → Value) (hf : ∀ x, (f x).oneCell' = true) (v : Value) (hs : a.eval s = v) (m c g : Nat) (hx : a.eval x = .slice (some ⟨g, 0, none⟩) m c) (hg : g = w.heap.size)
 (l ys : List α) (cs : Array Value) (hcs : cs = (ys.map f).toArray) (hown : OwnL f e w0 w v l) (he : Ext w0 w) (hm : m = ys.length)
 (hb : (l.length + ys.length) * bytes ≤ 140737488355328)
 (h : ∀ v' w', OwnL f e w0 w' v' (l ++ ys) → Ext w0 w' → (v'.ownBlock = v.ownBlock ∨ v'.ownBlock = some (w.alloc (.cells cs e)).heap.size) → (w.alloc (.cells cs e)).grownBy w' v.ownBlock → wpList P ops Q rest (a.put o.dst v') w') :
 wpList P ops Q (o :: rest) a (w.alloc (.cells cs e)) := by
 subst hcs; subst hg
 refine wpList_appL hgd s x t ho hE hby w0 _ f hf v hs (some ⟨w.heap.size, 0, none⟩) m c hx l ys (hown.ext (Ext_alloc _ (Ext.refl w))) (Ext_alloc _ he) hm (fun _ => ⟨_, rfl, fun j u hu => ?_⟩) hb h
 rw [World.cell?_alloc_at']; exact hu
end
theorem take_snoc' {α β : Type} (f : α → β) (l : List α) (k : Nat) (hk : k < l.length) : (l.take k).map f ++ [f l[k]] = (l.take (k+1)).map f := by
 rw [List.take_succ_eq_append_getElem hk, List.map_append]; rfl
def shared (a b : List DRule) : List ByteArray := (nmsOf a).filter (hasNm (nmsOf b))
def shr (a b : List DRule) (k : Nat) : List ByteArray := ((a.take k).map DRule.nm).filter (hasNm (nmsOf b))
theorem allN_at {n k : Nat} {f : Nat → Bool} (h : allN n f = true) (hk : k < n) : f k = true := by
 cases h1 : f k
 ·rw [allN_no hk h1] at h; cases h
 ·rfl
theorem descOk_len {ds : List DRule} (h : descOk ds = true) : 0 < ds.length ∧ ds.length ≤ 24 := by
 unfold descOk between at h; simp at h; omega
theorem descOk_kid {ds : List DRule} (h : descOk ds = true) (i : Nat) (hi : i < ds.length) (j : Nat) (hj : j < ds[i].kids.length) : 0 ≤ ds[i].kids[j] ∧ ds[i].kids[j] < i := by
 unfold descOk at h
 rw [Bool.and_eq_true] at h
 have h1 := allN_at h.2 hi
 unfold ruleOk at h1
 rw [List.getElem?_eq_getElem hi] at h1
 simp only [Bool.and_eq_true] at h1
 have h2 := allN_at h1.1.2 hj
 unfold kidOk at h2
 rw [List.getElem?_eq_getElem hj] at h2
 unfold between at h2; simp at h2; omega
def selK (r : DRule) (k : Nat) : List Int := if r.kind = 4 ∨ r.kind = 5 ∨ r.kind = 7 then (r.kids.take k).drop 1 else r.kids.take k
theorem selK_all (r : DRule) : selK r r.kids.length = kidsOf r := by unfold selK kidsOf; rw [List.take_length]
theorem iRoot_c (A : Option Addr) (ds : List DRule) (c : Nat) (w : World) (hl : ds.length ≤ 9223372036854775807) :
 Gives Tryz.prog 60 #[vdesc (.slice A ds.length c)] w (.int .i64 ((ds.length : Int) - 1)) := by
 have eb := Ext_alloc (.cells #[.slice A ds.length c] 26) (Ext.refl w)
 have BX := fun w' (e : Ext (w.alloc (.cells #[.slice A ds.length c] 26)) w') => boxed e
 unfold vdesc
 go_enter Tryz.func60, Tryz.ntmps60
 go_wp2
 go_ret
 exact ⟨ret_i64 (by go_num), eb⟩
def eqNm (a b : ByteArray) : Bool := a.toList == b.toList
def eqNms (l l' : List ByteArray) : Bool := l.map ByteArray.toList == l'.map ByteArray.toList
def eqR (r q : DRule) : Bool := r.nm.toList == q.nm.toList && r.kind == q.kind && r.size == q.size && r.little == q.little && r.bytes == q.bytes && eqNms r.names q.names && r.tags == q.tags && r.kids == q.kids
def eqAll {α : Type} (f : α → α → Bool) : List α → List α → Bool
 | [], [] => true
 | a :: s, b :: t => f a b && eqAll f s t
 | _, _ => false
theorem eqAll_len {α : Type} (f : α → α → Bool) : ∀ (s t : List α), s.length ≠ t.length → eqAll f s t = false
 | [], [], h => absurd rfl h
 | [], _ :: _, _ => rfl
 | _ :: _, [], _ => rfl
 | a :: s, b :: t, h => by rw [eqAll, eqAll_len f s t (by simpa using h), Bool.and_false]
theorem eqAll_take {α : Type} (f : α → α → Bool) : ∀ (s t : List α) (k : Nat) (h1 : k < s.length) (h2 : k < t.length), f s[k] t[k] = false → eqAll f s t = false
 | a :: s, b :: t, 0, _, _, h => by rw [eqAll]; simp at h; rw [h]; rfl
 | a :: s, b :: t, k + 1, h1, h2, h => by rw [eqAll, eqAll_take f s t k (by simpa using h1) (by simpa using h2) (by simpa using h), Bool.and_false]
theorem eqAll_all {α : Type} (f : α → α → Bool) : ∀ (s t : List α), s.length = t.length → (∀ k (h1 : k < s.length) (h2 : k < t.length), f s[k] t[k] = true) → eqAll f s t = true
 | [], [], _, _ => rfl
 | a :: s, b :: t, hl, h => by
  rw [eqAll, eqAll_all f s t (by simpa using hl) (fun k h1 h2 => by have := h (k+1) (by simpa using h1) (by simpa using h2); simpa using this)]
  have := h 0 (by simp) (by simp); simp at this; rw [this]; rfl
 | [], _ :: _, h, _ => by simp at h
 | _ :: _, [], h, _ => by simp at h
theorem eqAll_refl {α : Type} (f : α → α → Bool) (s : List α) (h : ∀ a ∈ s, f a a = true) : eqAll f s s = true := eqAll_all f s s rfl (fun k h1 _ => h _ (List.getElem_mem h1))
def eqD (s t : List DRule) : Bool := eqAll eqR s t
def eqG (s t : List (List DRule)) : Bool := eqAll eqD s t
theorem eqNms_refl (l : List ByteArray) : eqNms l l = true := by simp [eqNms]
theorem eqR_refl (r : DRule) : eqR r r = true := by simp [eqR, eqNms_refl]
theorem eqD_refl (s : List DRule) : eqD s s = true := eqAll_refl _ _ (fun a _ => eqR_refl a)
theorem eqNms_take {l l' : List ByteArray} {k : Nat} (h1 : k < l.length) (h2 : k < l'.length) (h : (l.take k).map ByteArray.toList = (l'.take k).map ByteArray.toList) (e : (l[k].toList == l'[k].toList) = true) : (l.take (k+1)).map ByteArray.toList = (l'.take (k+1)).map ByteArray.toList := by
 rw [List.take_succ_eq_append_getElem h1, List.take_succ_eq_append_getElem h2, List.map_append, List.map_append, h]
 simp at e
 simp [e]
theorem eqNms_no {l l' : List ByteArray} {k : Nat} (h1 : k < l.length) (h2 : k < l'.length) (e : (l[k].toList == l'[k].toList) = false) : eqNms l l' = false := by
 unfold eqNms
 rw [beq_eq_false_iff_ne]
 intro h
 have h3 : (l.map ByteArray.toList)[k]? = (l'.map ByteArray.toList)[k]? := by rw [h]
 simp [h1, h2] at h3
 simp [h3] at e
theorem eqStringS_c (A A' : Option Addr) (l l' : List ByteArray) (c c' : Nat) (w : World) (h : Rd0 vstr w A l c) (h' : Rd0 vstr w A' l' c') :
 Gives Tryz.prog 116 #[.slice A l.length c, .slice A' l'.length c'] w (.bool (eqNms l l')) := by
 have hl := h.len; have hl' := h'.len
 by_cases hn : l.length = l'.length
 ·have hb1 : ((l.length : Int) != (l'.length : Int)) = false := by simp [hn]
  have H := Lib.hid hn; clear hn
  go_enter Tryz.func116, Tryz.ntmps116
  go_wp2
  go_loopw [5, 4] (fun i v wr => ∃ k : Nat, k ≤ l.length ∧ i = .int .i64 k ∧ Hid ((l.take k).map ByteArray.toList = (l'.take k).map ByteArray.toList) ∧ Ext w wr) (fun i _ _ => l.length - (intOf i).toNat)
  case atStart => exact ⟨0, by omega, rfl, by simp [Hid], Ext.refl _⟩
  case round =>
   obtain ⟨k, hk, rfl, ht, he⟩ := hrel
   by_cases hlt : k < l.length
   ·have hlt' : k < l'.length := by have := H.out; omega
    obtain ⟨b, off, rfl, hb, hc⟩ := h.at k hlt
    obtain ⟨b', off', rfl, hb', hc'⟩ := h'.at k hlt'
    clear h h'
    go_wp2
    refine wp_region_quiet_below (by kernel_rfl) (by kernel_rfl) ?_
    repeat (go_big_quiet_step (fail))
    refine wpQuiet_nil ?_
    rintro _ ⟨⟨nq, osq⟩, rfl⟩
    go_wp2
    ·have hne : (l[k].toList != l'[k].toList) = true := by assumption
     go_ret
     refine ⟨ret_bool ?_, Ext_regrown _ _ he⟩
     exact (eqNms_no hlt hlt' (by simpa using hne)).symm
    ·have hne : (l[k].toList != l'[k].toList) = false := by assumption
     go_roundw
     case rel => exact ⟨k+1, by omega, by go_num, eqNms_take hlt hlt' ht.out (by simpa using hne), Ext_regrown _ _ he⟩
     case measure => simp [intOf]; omega
   ·go_wp2
    go_ret
    refine ⟨ret_bool ?_, he⟩
    have ht := ht.out; have H := H.out
    rw [List.take_of_length_le (by omega), List.take_of_length_le (by omega)] at ht
    simp [eqNms, ht]
 ·have hb1 : ((l.length : Int) != (l'.length : Int)) = true := by simp; omega
  go_enter Tryz.func116, Tryz.ntmps116
  go_wp2
  go_ret
  refine ⟨ret_bool ?_, Ext.refl _⟩
  symm; unfold eqNms; rw [beq_eq_false_iff_ne]; intro h2; exact hn (by have := congrArg List.length h2; simpa using this)
theorem l4Ints_c (A A' : Option Addr) (l l' : List Int) (c c' : Nat) (w : World) (h : Rd0 vint w A l c) (h' : Rd0 vint w A' l' c') :
 Gives Tryz.prog 53 #[.slice A l.length c, .slice A' l'.length c'] w (.bool (l == l')) := by
 have hl := h.len; have hl' := h'.len
 by_cases hn : l.length = l'.length
 ·have hb1 : ((l.length : Int) != (l'.length : Int)) = false := by simp [hn]
  have H := Lib.hid hn; clear hn
  go_enter Tryz.func53, Tryz.ntmps53
  go_wp2
  go_loopw [5, 4] (fun i v wr => ∃ k : Nat, k ≤ l.length ∧ i = .int .i64 k ∧ Hid (l.take k = l'.take k) ∧ Ext w wr) (fun i _ _ => l.length - (intOf i).toNat)
  case atStart => exact ⟨0, by omega, rfl, by simp [Hid], Ext.refl _⟩
  case round =>
   obtain ⟨k, hk, rfl, ht, he⟩ := hrel
   by_cases hlt : k < l.length
   ·have hlt' : k < l'.length := by have := H.out; omega
    obtain ⟨b, off, rfl, hb, hc⟩ := h.at k hlt
    obtain ⟨b', off', rfl, hb', hc'⟩ := h'.at k hlt'
    clear h h'
    go_wp2
    refine wp_region_quiet_below (by kernel_rfl) (by kernel_rfl) ?_
    repeat (go_big_quiet_step (fail))
    refine wpQuiet_nil ?_
    rintro _ ⟨⟨nq, osq⟩, rfl⟩
    go_wp2
    ·have hne : (l[k] != l'[k]) = true := by assumption
     go_ret
     refine ⟨ret_bool ?_, Ext_regrown _ _ he⟩
     symm; rw [beq_eq_false_iff_ne]; rintro rfl; simp at hne
    ·have hne : (l[k] != l'[k]) = false := by assumption
     go_roundw
     case rel => exact ⟨k+1, by omega, by go_num, take_eq_succ hlt hlt' ht (by simpa using hne), Ext_regrown _ _ he⟩
     case measure => simp [intOf]; omega
   ·go_wp2
    go_ret
    refine ⟨ret_bool ?_, he⟩
    have ht := ht.out; have H := H.out
    rw [List.take_of_length_le (by omega), List.take_of_length_le (by omega)] at ht
    simp [ht]
 ·have hb1 : ((l.length : Int) != (l'.length : Int)) = true := by simp; omega
  go_enter Tryz.func53, Tryz.ntmps53
  go_wp2
  go_ret
  refine ⟨ret_bool ?_, Ext.refl _⟩
  symm; rw [beq_eq_false_iff_ne]; rintro rfl; exact hn rfl
theorem iEqInts_c (A A' : Option Addr) (l l' : List Int) (c c' : Nat) (w : World) (h : Rd0 vint w A l c) (h' : Rd0 vint w A' l' c') :
 Gives Tryz.prog 64 #[.slice A l.length c, .slice A' l'.length c'] w (.bool (l == l')) := by
 have hl := h.len; have hl' := h'.len
 by_cases hn : l.length = l'.length
 ·have hb1 : ((l.length : Int) != (l'.length : Int)) = false := by simp [hn]
  have H := Lib.hid hn; clear hn
  go_enter Tryz.func64, Tryz.ntmps64
  go_wp2
  go_loopw [13] (fun i wr => ∃ k : Nat, k ≤ l.length ∧ i = .int .i64 k ∧ Hid (l.take k = l'.take k) ∧ Ext w wr) (fun i _ => l.length - (intOf i).toNat)
  case atStart => exact ⟨0, by omega, rfl, by simp [Hid], Ext.refl _⟩
  case round =>
   obtain ⟨k, hk, rfl, ht, he⟩ := hrel
   by_cases hlt : k < l.length
   ·have hlt' : k < l'.length := by have := H.out; omega
    obtain ⟨b, off, rfl, hb, hc⟩ := h.at k hlt
    obtain ⟨b', off', rfl, hb', hc'⟩ := h'.at k hlt'
    clear h h'
    go_wp2
    refine wp_region_quiet_below (by kernel_rfl) (by kernel_rfl) ?_
    repeat (go_big_quiet_step (fail))
    refine wpQuiet_nil ?_
    rintro _ ⟨⟨nq, osq⟩, rfl⟩
    go_wp2
    ·have hne : (l[k] != l'[k]) = true := by assumption
     go_ret
     refine ⟨ret_bool ?_, Ext_regrown _ _ he⟩
     symm; rw [beq_eq_false_iff_ne]; rintro rfl; simp at hne
    ·have hne : (l[k] != l'[k]) = false := by assumption
     go_roundw
     case rel => exact ⟨k+1, by omega, by go_num, take_eq_succ hlt hlt' ht (by simpa using hne), Ext_regrown _ _ he⟩
     case measure => simp [intOf]; omega
   ·go_wp2
    go_ret
    refine ⟨ret_bool ?_, he⟩
    have ht := ht.out; have H := H.out
    rw [List.take_of_length_le (by omega), List.take_of_length_le (by omega)] at ht
    simp [ht]
 ·have hb1 : ((l.length : Int) != (l'.length : Int)) = true := by simp; omega
  go_enter Tryz.func64, Tryz.ntmps64
  go_wp2
  go_ret
  refine ⟨ret_bool ?_, Ext.refl _⟩
  symm; rw [beq_eq_false_iff_ne]; rintro rfl; exact hn rfl
theorem eqRule_c (r q : DRule) (Ab : Option Addr) (cb : Nat) (An : Option Addr) (cn : Nat) (At : Option Addr) (ct : Nat) (Ak : Option Addr) (ck : Nat) (Ab' : Option Addr) (cb' : Nat) (An' : Option Addr) (cn' : Nat) (At' : Option Addr) (ct' : Nat) (Ak' : Option Addr) (ck' : Nat) (w : World) (h : RdS w r Ab cb An cn At ct Ak ck) (h' : RdS w q Ab' cb' An' cn' At' ct' Ak' ck') (hs : ShortR r) (hs' : ShortR q) :
 Gives Tryz.prog 65 #[vrule r (.slice Ab r.bytes.length cb) (.slice An r.names.length cn) (.slice At r.tags.length ct) (.slice Ak r.kids.length ck), vrule q (.slice Ab' q.bytes.length cb') (.slice An' q.names.length cn') (.slice At' q.tags.length ct') (.slice Ak' q.kids.length ck')] w (.bool (eqR r q)) := by
 have eb := Ext_alloc (.cells #[.string q.nm, .int .i64 q.kind, .int .i64 q.size, .bool q.little, .slice Ab' q.bytes.length cb', .slice An' q.names.length cn', .slice At' q.tags.length ct', .slice Ak' q.kids.length ck'] 96) (Ext_alloc (.cells #[.string r.nm, .int .i64 r.kind, .int .i64 r.size, .bool r.little, .slice Ab r.bytes.length cb, .slice An r.names.length cn, .slice At r.tags.length ct, .slice Ak r.kids.length ck] 96) (Ext.refl w))
 have BX := fun w' (e : Ext ((w.alloc (.cells #[.string r.nm, .int .i64 r.kind, .int .i64 r.size, .bool r.little, .slice Ab r.bytes.length cb, .slice An r.names.length cn, .slice At r.tags.length ct, .slice Ak r.kids.length ck] 96)).alloc (.cells #[.string q.nm, .int .i64 q.kind, .int .i64 q.size, .bool q.little, .slice Ab' q.bytes.length cb', .slice An' q.names.length cn', .slice At' q.tags.length ct', .slice Ak' q.kids.length ck'] 96)) w') => boxed2 e
 have B0 := fun w' e => (BX w' e).1
 have B1 := fun w' e => (BX w' e).2.1
 clear BX
 have C5 := Lib.hid (fun w h h' => eqByteS_c Ab Ab' r.bytes q.bytes cb cb' w h h')
 have C6 := Lib.hid (fun w h h' => eqStringS_c An An' r.names q.names cn cn' w h h')
 have C7 := Lib.hid (fun w h h' => eqIntS_c At At' r.tags q.tags ct ct' w h h')
 have C8 := Lib.hid (fun w h h' => eqIntS_c Ak Ak' r.kids q.kids ck ck' w h h')
 have K5 := Lib.hid (fun w' (e : Ext w w') => C5.out w' (⟨h.b.ext e, hs.1⟩) (⟨h'.b.ext e, hs'.1⟩))
 have K6 := Lib.hid (fun w' (e : Ext w w') => C6.out w' (h.n.ext e) (h'.n.ext e))
 have K7 := Lib.hid (fun w' (e : Ext w w') => C7.out w' ⟨h.t.ext e, hs.2.2.1⟩ ⟨h'.t.ext e, hs'.2.2.1⟩)
 have K8 := Lib.hid (fun w' (e : Ext w w') => C8.out w' ⟨h.k.ext e, hs.2.2.2⟩ ⟨h'.k.ext e, hs'.2.2.2⟩)
 clear C5 C6 C7 C8 h h' hs hs'
 unfold eqR
 generalize (r.bytes == q.bytes) = q5 at *
 generalize eqNms r.names q.names = q6 at *
 generalize (r.tags == q.tags) = q7 at *
 generalize (r.kids == q.kids) = q8 at *
 obtain ⟨nm, kind, size, little, bytes, names, tags, kids⟩ := r
 obtain ⟨nm', kind', size', little', bytes', names', tags', kids'⟩ := q
 unfold vrule
 dsimp only at *
 have HB0 := Lib.hid B0; have HB1 := Lib.hid B1; have b00 := B0 _ (Ext.refl _); have b10 := B1 _ (Ext.refl _); clear B0 B1
 cases g1 : (nm.toList == nm'.toList)
 ·have h1 : (nm.toList != nm'.toList) = true := by rw [bne, g1]; rfl
  go_enter Tryz.func65, Tryz.ntmps65
  go_wp2
  go_ret
  exact ⟨ret_bool (by simp), eb⟩
 have h1 : (nm.toList != nm'.toList) = false := by rw [bne, g1]; rfl
 cases g2 : (kind == kind')
 ·have h2 : (kind != kind') = true := by rw [bne, g2]; rfl
  go_enter Tryz.func65, Tryz.ntmps65
  go_wp2
  go_ret
  exact ⟨ret_bool (by simp), eb⟩
 have h2 : (kind != kind') = false := by rw [bne, g2]; rfl
 cases g3 : (size == size')
 ·have h3 : (size != size') = true := by rw [bne, g3]; rfl
  go_enter Tryz.func65, Tryz.ntmps65
  go_wp2
  go_ret
  exact ⟨ret_bool (by simp), eb⟩
 have h3 : (size != size') = false := by rw [bne, g3]; rfl
 cases g4 : (little == little')
 ·have h4 : (little != little') = true := by rw [bne, g4]; rfl
  go_enter Tryz.func65, Tryz.ntmps65
  go_wp2
  go_ret
  exact ⟨ret_bool (by simp), eb⟩
 have h4 : (little != little') = false := by rw [bne, g4]; rfl
 go_enter Tryz.func65, Tryz.ntmps65
 go_wp2_with fail
 refine (K5.out _ eb).mono ?_; rintro _ w5 ⟨rfl, he5⟩
 have e5 := he5
 have b05 := HB0.out _ e5; have b15 := HB1.out _ e5; clear he5 b00 b10 h1 h2 h3 h4 g1 g2 g3 g4
 cases q5
 ·go_wp2
  go_ret
  exact ⟨ret_bool (by simp), eb.trans e5⟩
 go_wp2_with fail
 refine (K6.out _ (eb.trans e5)).mono ?_; rintro _ w6 ⟨rfl, he6⟩
 have e6 := e5.trans he6
 have b06 := HB0.out _ e6; have b16 := HB1.out _ e6; clear he6 b05 b15 e5
 cases q6
 ·go_wp2
  go_ret
  exact ⟨ret_bool (by simp), eb.trans e6⟩
 go_wp2_with fail
 refine (K7.out _ (eb.trans e6)).mono ?_; rintro _ w7 ⟨rfl, he7⟩
 have e7 := e6.trans he7
 have b07 := HB0.out _ e7; have b17 := HB1.out _ e7; clear he7 b06 b16 e6
 cases q7
 ·go_wp2
  go_ret
  exact ⟨ret_bool (by simp), eb.trans e7⟩
 go_wp2_with fail
 refine (K8.out _ (eb.trans e7)).mono ?_; rintro _ w8 ⟨rfl, he8⟩
 have e8 := e7.trans he8
 have b08 := HB0.out _ e8; have b18 := HB1.out _ e8; clear he8 b07 b17 e7
 cases q8
 ·go_wp2
  go_ret
  exact ⟨ret_bool (by simp), eb.trans e8⟩
 go_wp2
 go_ret
 exact ⟨ret_bool (by simp), eb.trans e8⟩
def ShortD (ds : List DRule) : Prop := ∀ r ∈ ds, ShortR r
def ShortG (gs : List (List DRule)) : Prop := ∀ d ∈ gs, ShortD d
theorem shortD_of {ds : List DRule} (h : szD ds ≤ 1048576) : ShortD ds := fun _ hr => (szRl_short (szD_mem h hr)).1
theorem eqRuleS_c (A A' : Option Addr) (ds es : List DRule) (c c' : Nat) (w : World) (h : RdD w A ds c) (h' : RdD w A' es c') (hs : ShortD ds) (hs' : ShortD es) :
 Gives Tryz.prog 37 #[.slice A ds.length c, .slice A' es.length c'] w (.bool (eqD ds es)) := by
 have hl := h.len; have hl' := h'.len
 have eb := Ext.refl w
 by_cases hn : ds.length = es.length
 ·have hb1 : ((ds.length : Int) != (es.length : Int)) = false := by simp [hn]
  have H := Lib.hid hn; clear hn
  go_enter Tryz.func37, Tryz.ntmps37
  go_wp2
  go_loopw [5] (fun i wr => ∃ k : Nat, k ≤ ds.length ∧ i = .int .i64 k ∧ Hid (∀ j (h1 : j < ds.length) (h2 : j < es.length), j < k → eqR ds[j] es[j] = true) ∧ Ext w wr) (fun i _ => ds.length - (intOf i).toNat)
  case atStart => exact ⟨0, by omega, rfl, (fun j _ _ hj => by omega), Ext.refl _⟩
  case round =>
   obtain ⟨k, hk, rfl, ht, he⟩ := hrel
   by_cases hlt : k < ds.length
   ·have hlt' : k < es.length := by have := H.out; omega
    obtain ⟨b, off, Ab, cb, An, cn, At, ct, Ak, ck, rfl, hb, hS, hR⟩ := h.at k hlt
    obtain ⟨b', off', Ab', cb', An', cn', At', ct', Ak', ck', rfl, hb', hS', hR'⟩ := h'.at k hlt'
    have s1 := hs _ (List.getElem_mem hlt); have s2 := hs' _ (List.getElem_mem hlt')
    have NO : Hid (eqR ds[k] es[k] = false → eqD ds es = false) := eqAll_take _ ds es k hlt hlt'
    have YES : Hid (eqR ds[k] es[k] = true → ∀ j (h1 : j < ds.length) (h2 : j < es.length), j < k + 1 → eqR ds[j] es[j] = true) := by
     intro hy j h1 h2 hj
     rcases (by omega : j < k ∨ j = k) with hj | rfl
     ·exact ht.out j h1 h2 hj
     ·exact hy
    generalize ds[k] = r at *
    generalize es[k] = q at *
    have CE := Lib.hid (fun w h h' => eqRule_c r q Ab cb An cn At ct Ak ck Ab' cb' An' cn' At' ct' Ak' ck' w h h' s1 s2)
    generalize eqR r q = z at *
    replace hR := hR.ext eb
    replace hR' := hR'.ext eb
    obtain ⟨k0, k1, k2, k3, k4, k5, k6, k7⟩ := hR
    obtain ⟨j0, j1, j2, j3, j4, j5, j6, j7⟩ := hR'
    unfold vrule at CE
    have H1 := Lib.hid (fun w' (e : Ext _ w') => hS.ext (eb.trans e)); have H2 := Lib.hid (fun w' (e : Ext _ w') => hS'.ext (eb.trans e))
    clear h h' s1 s2 hS hS' hs hs'
    have HT := ht; clear ht
    go_wp2_with fail
    refine wp_region_quiet_below (by kernel_rfl) (by kernel_rfl) ?_
    repeat (go_big_quiet_step ((go_at_call 65; exact Calls.regrown_of (CE.out _ (H1.out _ (by first | assumption | exact Ext_regrown _ _ he)) (H2.out _ (by first | assumption | exact Ext_regrown _ _ he))))))
    refine wpQuiet_nil ?_
    rintro w1 ⟨⟨nq, osq⟩, hq⟩
    have ew1 := ext_of_q hq
    clear hq nq osq
    have he1 := he.trans ew1
    cases z
    ·have NO' := Lib.hid (NO.out rfl); clear NO YES
     go_wp2
     go_ret
     exact ⟨ret_bool NO'.out.symm, eb.trans he1⟩
    ·have YES' := Lib.hid (YES.out rfl); clear NO YES
     go_wp2
     go_roundw
     case rel => exact ⟨k+1, by omega, by go_num, YES'.out, he1⟩
     case measure => simp [intOf]; omega
   ·have hk' : k = ds.length := by omega
    have HE : Hid (eqD ds es = true) := eqAll_all _ _ _ H.out (fun j h1 h2 => ht.out j h1 h2 (by omega))
    go_wp2
    go_ret
    exact ⟨ret_bool HE.out.symm, eb.trans he⟩
 ·have hb1 : ((ds.length : Int) != (es.length : Int)) = true := by simp; omega
  have HE : Hid (eqD ds es = false) := eqAll_len _ _ _ hn
  go_enter Tryz.func37, Tryz.ntmps37
  go_wp2
  go_ret
  exact ⟨ret_bool HE.out.symm, eb⟩
end Go.Proofs.YtpmcofmdjckijaaGreat
namespace Go.Proofs.YtpmcofmdjckijaaGreat
open Go Go.Sort Go.RowKit
section
variable {P : Program} {ops : Array Oper} {md : Region.Mode} {C : World → Prop}
def headR (P : Program) (md : Region.Mode) (ops : Array Oper) (C : World → Prop) (L : Array Bool → Act → Prop) : Nat → Array Bool → Act → Prop
 | 0, listed, a => L listed a
 | f + 1, listed, a => Region.ready md ops listed ≠ [] ∧ ∀ i ∈ Region.ready md ops listed, qOp P ops C i (headR P md ops C L f (listed.setIfInBounds i true)) a
theorem headR_to {L : Array Bool → Act → Prop} {g : Nat} {Q' : Exit → Act → World → Prop} (hL : ∀ listed a w, C w → L listed a → wpAny P md ops Q' g listed a w) :
 ∀ (f : Nat) (listed : Array Bool) (a : Act) (w : World), C w → headR P md ops C L f listed a → wpAny P md ops Q' (f + g) listed a w := by
 intro f
 induction f with
 | zero => intro listed a w hw h; rw [Nat.zero_add]; exact hL _ _ _ hw h
 | succ f ih =>
  intro listed a w hw h
  rw [show f + 1 + g = (f + g) + 1 by omega]
  exact ⟨fun h0 => absurd h0 h.1, fun i hi => wpOp_of_qOp hw (fun a' w' hw' h' => ih _ a' w' hw' h') (h.2 i hi)⟩
theorem headR_first {N i : Nat} {oi : Oper} {v : Value} {L : Array Bool → Act → Prop} (hi : ops[i]? = some oi) (hsel : ∀ (j : Nat) (o : Oper) cs b, ops[j]? = some o → o.op ≠ .select cs b)
 (hs : Region.sinkB md ops N = true) (hc : Region.chainB md ops N = true) (hn : N < ops.size) (hin : i < N) (hdone : ∀ listed a, L listed a → ∀ j ∈ Region.ready md ops listed, N ≤ j) :
 ∀ (f : Nat) (listed : Array Bool) (a : Act), HeadInv md ops N listed →
  (∀ j oj, ops[j]? = some oj → j ≠ i → listed.getD j true = false → (∀ e ∈ oj.after, Region.binds md e = true → e.on ≠ i) → oi.apart ops oj = true) →
  i ∈ Region.ready md ops listed → YieldsIn P ops C oi v a →
  headR P md ops C L f (listed.setIfInBounds i true) (a.put oi.dst v) → headR P md ops C L (f + 1) listed a := by
 intro f
 induction f with
 | zero =>
  intro listed a inv _ hr hy H
  have hun := (mem_ready.1 hr).1
  refine ⟨fun h => (by rw [h] at hr; cases hr), fun j hj => ?_⟩
  by_cases hji : j = i
  ·subst hji; exact hy.qOp hi H
  ·have h1 := hdone _ _ H j (ready_mono hj hji)
   exact absurd hj (tail_waits hs hc hn inv _ i rfl hin hun j h1)
 | succ f ih =>
  intro listed a inv hfree hr hy H
  have hun := (mem_ready.1 hr).1
  refine ⟨fun h => (by rw [h] at hr; cases hr), fun j hj => ?_⟩
  have hjn : j < N := by
   rcases Nat.lt_or_ge j N with h | h
   ·exact h
   ·exact absurd hj (tail_waits hs hc hn inv _ i rfl hin hun j h)
  by_cases hji : j = i
  ·subst hji; exact hy.qOp hi H
  ·have h1 := H.2 j (ready_mono hj hji)
   obtain ⟨hjun, oj, hoj, hall⟩ := mem_ready.1 hj
   have hnot : ∀ e ∈ oj.after, Region.binds md e = true → e.on ≠ i := fun e he hb heq => by
    have h1 := hall e he hb
    rw [heq, getD_both hun] at h1
    cases h1
   have h2 := qOp_put hoj (hfree j oj hoj hji hjun hnot) (fun cs b => hsel i oi cs b hi) (fun cs b => hsel j oj cs b hoj) hy h1
   refine qOp_mono (fun a' h3 => ih (listed.setIfInBounds j true) a' (inv.set hj hjn) ?_ (ready_mono hr (Ne.symm hji)) h3.1 ?_) h2
   ·intro k ok hk hki hun' hno
    refine hfree k ok hk hki ?_ hno
    by_cases hjk : j = k
    ·subst hjk; exact hjun
    ·rw [getD_set_ne true hjk] at hun'; exact hun'
   ·rw [Array.setIfInBounds_comm _ _ hji]
    exact h3.2
theorem headR_lex {N g : Nat} {Lq : Act → Prop} (hsel : Region.noSelect ops = true) (hs : Region.sinkB md ops N = true) (hc : Region.chainB md ops N = true) (hn : N < ops.size) :
 ∀ (l : List Oper) (k : Nat) (listed : Array Bool) (a : Act), (∀ j, j < l.length → l[j]? = ops[k + j]?) → k + l.length = N → HeadInv md ops N listed →
 Region.lexHead md ops g l.length k listed = true → wpQuiet P ops C Lq l a →
 headR P md ops C (fun listed' a' => Region.seqB md ops g N listed' = true ∧ Lq a') l.length listed a := by
 intro l
 induction l with
 | nil =>
  intro k listed a _ hk _ hB h
  obtain rfl : k = N := by simpa using hk
  exact ⟨by simpa [Region.lexHead] using hB, h⟩
 | cons o l ih =>
  intro k listed a hl hk inv hB h
  have h0 : ops[k]? = some o := by simpa using (hl 0 (by simp)).symm
  simp only [List.length_cons, Region.lexHead, Bool.and_eq_true] at hB
  obtain ⟨⟨hr, hf⟩, hB'⟩ := hB
  have hkn : k < N := by simp only [List.length_cons] at hk; omega
  have hr' : k ∈ Region.ready md ops listed := by simpa using hr
  have hst : qOp P ops C k (wpQuiet P ops C Lq l) a := by unfold qOp; simp only [h0]; exact h
  obtain ⟨v, hy, hK⟩ := yieldsIn_of_qOp h0 hst
  exact headR_first h0 (Region.noSelect_spec hsel) hs hc hn hkn (fun listed' a' hL => seqB_ready hL.1) l.length listed a inv (Region.free_spec h0 hf) hr' hy
   (ih (k + 1) _ _ (fun j hj => by have := hl (j + 1) (by simp; omega); simpa [Nat.add_assoc, Nat.add_comm 1 j] using this) (by simp only [List.length_cons] at hk; omega) (inv.set hr' hkn) hB' hK)
theorem region_qtail {id : Nat} {Q : Exit → Act → World → Prop} {a : Act} {w : World} {l : List Oper} (N : Nat) (hm : P.follows .mixedOrders = true) (hB : Region.lexTailB .any l.toArray N = true) (hC : C { w with drawn := w.drawn + 1 })
 (h : wpQuiet P l.toArray C (fun a' => ∀ w', C w' → wpList P l.toArray Q (l.drop N) a' w') (l.take N) a) : (Code.region id l.toArray true).wp P Q a w := by
 simp only [Region.lexTailB, Bool.and_eq_true, decide_eq_true_eq] at hB
 obtain ⟨⟨⟨⟨hsel, hn⟩, hs⟩, hc⟩, hlex⟩ := hB
 have hn' : N < l.length := by simpa using hn
 have htl : (l.take N).length = N := by simp; omega
 have hdl : (l.drop N).length = l.toArray.size - N := by simp
 have inv0 : HeadInv .any l.toArray N (Array.replicate l.toArray.size false) :=
  ⟨by simp, fun j oj _ hl => (by rw [getD_replicate_false] at hl; cases hl), fun t _ ht => getD_in (by simpa using ht) (getD_replicate_false _ _)⟩
 have H := headR_lex (md := .any) (g := l.toArray.size - N) hsel hs hc hn (l.take N) 0 _ a (fun j hj => by
  have hj' : j < N := by rw [htl] at hj; exact hj
  simp [hj']) (by simpa using htl) inv0 (by rw [htl]; exact hlex) h
 refine wp_region_any hm ?_
 have := headR_to (Q' := Q) (g := l.toArray.size - N) (fun listed a' w' hw' hL => by
  have := wpAny_of_seq (md := .any) (Q' := Q) (l.drop N) N listed a' w' (fun j => by simp [List.getElem?_drop]) (by rw [hdl]; exact hL.1) (hL.2 w' hw')
  rwa [hdl] at this) _ _ _ _ hC H
 rw [htl, show N + (l.toArray.size - N) = l.toArray.size by omega] at this
 exact this
theorem region_qtail_below {id : Nat} {Q : Exit → Act → World → Prop} {a : Act} {w : World} {l : List Oper} (N : Nat) (hm : P.follows .mixedOrders = true) (hB : Region.lexTailB .any l.toArray N = true)
 (h : wpQuiet P l.toArray (fun w' => ∃ p : Regrown, w' = grow (redrawn w p.d) p.os) (fun a' => ∀ w', (∃ p : Regrown, w' = grow (redrawn w p.d) p.os) → wpList P l.toArray Q (l.drop N) a' w') (l.take N) a) : (Code.region id l.toArray true).wp P Q a w :=
 region_qtail (C := fun w' => ∃ p : Regrown, w' = grow (redrawn w p.d) p.os) N hm hB ⟨⟨w.drawn + 1, #[]⟩, by rw [grow_empty]; rfl⟩ h
end
end Go.Proofs.YtpmcofmdjckijaaGreat
namespace Go.Proofs.YtpmcofmdjckijaaGreat
open Go.RowKit Go.Sort
def ofB (n m : Nat) : Array Bool := ((List.range n).map m.testBit).toArray
section
variable {P : Program} {ops : Array Oper} {Q : Exit → Act → World → Prop} {md : Region.Mode} {S : World → Prop}
theorem tkH {i : Nat} (d : Option Nat) {oi : Oper} {v : Value} {fuel : Nat} {listed : Array Bool} (l' : Array Bool) {a : Act} {w : World} (hi : ops[i]? = some oi) (hd : oi.dst = d)
 (hb : (Region.noSelect ops && Region.free md ops listed i && (Region.ready md ops listed).contains i) = true) (hl : listed.setIfInBounds i true = l') (hS : S w) (hy : YieldsIf P ops S oi v a)
 (h : wpAnyH P md ops Q S fuel l' (a.put d v) w) (hQ : ∀ c a w, Q (.panic c) (a.put d v) w → Q (.panic c) a w := by exact fun _ _ _ h => h) : wpAnyH P md ops Q S (fuel + 1) listed a w := by
 subst hd; subst hl
 simp only [Bool.and_eq_true] at hb
 exact wpAnyH_take hi hb.1.1 hb.1.2 hb.2 hQ hy hS h
theorem oneH {i : Nat} (d : Option Nat) {o : Oper} {fuel : Nat} {listed : Array Bool} (l' : Array Bool) {a : Act} {w : World} (hr : Region.ready md ops listed = [i]) (ho : ops[i]? = some o) (hd : o.dst = d) (hl : listed.setIfInBounds i true = l')
 (h : ∀ K : Act → World → Prop, Shut (∀ a w, S w → wpAnyH P md ops Q S fuel l' a w → K a w) → if Region.wanted { o with dst := d } (yielded ops a.tmps) = true then Oper.wp P { o with dst := d } a w K Q else K (a.put d undef) w) : wpAnyH P md ops Q S (fuel + 1) listed a w := by
 subst hd; subst hl
 refine ⟨fun h0 => (by rw [h0] at hr; cases hr), fun j hj => ?_⟩
 rw [hr, List.mem_singleton] at hj
 subst hj
 exact wpOp_step ho (fun K' hK => h K' (fun a w hC hW => hK a w ⟨hC, hW⟩))
theorem wp_region_HD {id : Nat} {a : Act} {w : World} (l' : Array Bool) (hl : Array.replicate ops.size false = l') (hm : P.follows .mixedOrders = true) (h : wpAnyH P .any ops Q S ops.size l' a w.drew) : (Code.region id ops true).wp P Q a w := by
 subst hl; exact wp_region_held hm h
end
section
variable {P : Program} {ops : Array Oper} {o : Oper} {a : Act} {Q : Exit → Act → World → Prop} {K : Act → World → Prop} {E : Prop}
theorem step_anyA (hgd : o.guard = none) (s x : Operand) (t : TypeId) (ho : o.op = .call { callee := .builtin .append, args := #[s, x], argTypes := #[t, t] })
 {e : TypeId} {size bytes : Nat} {z : Value} (hE : Elem P t e size bytes z) (w0 w : World) (v : Value) (n : Nat) (xs : List Value) (hs : a.eval s = v) (hown : Own e size w0 w v n xs)
 (he : Ext w0 w) (news : List Value) (A : Option Addr) (m c : Nat) (hx : a.eval x = .slice A m c) (hl : news.length = m * size)
 (hA : 0 < m → ∃ ad, A = some ad ∧ ∀ j u, news[j]? = some u → w.cell? (ad.add j) = some u) (h1 : ∀ u ∈ news, u.oneCell' = true)
 (hm : n + m ≤ maxLen) (hb : (n + m) * bytes ≤ 140737488355328)
 (h : ∀ v' w', Own e size w0 w' v' (n + m) (xs ++ news) → Ext w0 w' → (v'.ownBlock = v.ownBlock ∨ v'.ownBlock = some w.heap.size) → w.grownBy w' v.ownBlock → K (a.put o.dst v') w') :
 if Region.wanted o (yielded ops a.tmps) = true then Oper.wp P o a w K Q else E := by
 have hw : Region.wanted o (yielded ops a.tmps) = true := by simp [Region.wanted, hgd]
 rw [if_pos hw]
 obtain ⟨i0, hi0, hz0, hz1, hz2⟩ := info_parts hE.hi
 rcases A with _ | ad
 ·have hm0 : m = 0 := by
   rcases Nat.eq_zero_or_pos m with h0 | h0
   ·exact h0
   ·obtain ⟨ad, h, _⟩ := hA h0
    cases h
  subst hm0
  obtain rfl : news = [] := List.eq_nil_of_length_eq_zero (by simpa using hl)
  unfold Oper.wp execOp
  simp only [ho, resolve, invoke, builtin, Sem.run_bind, Sem.run_pure, Result.andThen_ok, List.map_toArray, List.map_cons, List.map_nil, hs, hx, run_app_nil w w0.heap.size t o.type e i0 size hE.ht hi0 v n xs hown c]
  exact h v w (by simpa using hown) he (.inl rfl) (World.grownBy.refl w _)
 ·obtain ⟨v', w', hr, h2, h3, h4, h5⟩ := run_append_own_at (P := P) w w0.heap.size t o.type e i0 z size bytes hE.ht hi0 hz0 hz1 hz2 hE.hz hE.hs v n xs hown ad m c news hl
   (fun j u hu => by
    rcases Nat.eq_zero_or_pos m with h0 | h0
    ·subst h0
     obtain rfl : news = [] := List.eq_nil_of_length_eq_zero (by simpa using hl)
     simp at hu
    ·obtain ⟨ad', h', hc⟩ := hA h0
     injection h' with h'
     subst h'
     exact hc j u hu)
   h1 hm hb he.size
  unfold Oper.wp execOp
  simp only [ho, resolve, invoke, builtin, Sem.run_bind, Sem.run_pure, Result.andThen_ok, List.map_toArray, List.map_cons, List.map_nil, hs, hx, hr]
  exact h v' w' h2 (he.grown h3 (fun k hk => (hown.lt k hk).1)) h5 h3
end
end Go.Proofs.YtpmcofmdjckijaaGreat
