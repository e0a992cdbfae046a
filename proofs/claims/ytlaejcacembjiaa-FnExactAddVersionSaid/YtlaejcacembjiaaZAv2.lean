/- The program's and the reference's copies of rules. -/
import Derived.Test.YtlaejcacembjiaaZAv1
import Derived.Deep.RegionHeld3
namespace Go.Proofs.Ytlaejcacembjiaa
open Go.RowKit Go.Sort

theorem boxes2' (w : World) (c0 c1 : Array Value) (T0 T1 : TypeId) :
    ∃ W, Hid (W = ((w.alloc (.cells c0 T0)).alloc (.cells c1 T1))) ∧ Box W w.heap.size c0 T0 ∧ Box W (w.heap.size + 1) c1 T1 ∧ Ext w W ∧ W.heap.size = w.heap.size + 2 := by
  have s1 : (w.alloc (.cells c0 T0)).heap.size = w.heap.size + 1 := by simp
  have h1 := Box.new (w.alloc (.cells c0 T0)) c1 T1
  rw [s1] at h1
  exact ⟨_, rfl, (Box.new w c0 T0).ext (Ext_alloc _ (Ext.refl _)), h1, Ext_alloc _ (Ext_alloc _ (Ext.refl w)), by simp⟩
theorem src0 {α : Type} {f : α → Value} {w w' : World} {A : Option Addr} {l : List α} {c : Nat} (h : Rd0 f w A l c) (e : Ext w w') (hp : 0 < l.length) : ∃ ad, A = some ad ∧ ∀ j u, (l.map f)[j]? = some u → w'.cell? (ad.add j) = some u := by
  obtain ⟨b, off, hA, _, hc⟩ := h.2.2 hp
  refine ⟨_, hA, fun j u hu => ?_⟩
  have := part_cells (fun i hi => hc w' e i hi) 0 l.length j u
  simp only [List.drop_zero, List.take_length, Nat.add_zero] at this
  exact this hu
set_option maxRecDepth 100000 in
set_option maxHeartbeats 4000000 in
theorem sCopyR_c (r : DRule) (Ab : Option Addr) (cb : Nat) (An : Option Addr) (cn : Nat) (At : Option Addr) (ct : Nat) (Ak : Option Addr) (ck : Nat) (w : World) (h : RdS w r Ab cb An cn At ct Ak ck) (hz : szRl r ≤ 1048576) :
    Calls Try.prog 107 #[vrule r (.slice Ab r.bytes.length cb) (.slice An r.names.length cn) (.slice At r.tags.length ct) (.slice Ak r.kids.length ck)] w fun e w' => ∃ vb vn vt vk, e = .returned (vrule r vb vn vt vk) ∧ RuleOwn w w' ⟨r, vb, vn, vt, vk⟩ ∧ Far [vb, vn, vt, vk] ∧ Ext w w' := by
  obtain ⟨hb, hn, ht, hk⟩ := h
  obtain ⟨⟨s1, s2, s3, s4⟩, z1, z2, z3, z4⟩ := szRl_short hz
  clear hz
  obtain ⟨nm, kind, size, little, bytes, names, tags, kids⟩ := r
  dsimp only at *
  obtain ⟨W0, HW0, HA, HR, HO, e0, hsA⟩ := boxes3' w #[.string nm, .int .i64 kind, .int .i64 size, .bool little, .slice Ab bytes.length cb, .slice An names.length cn, .slice At tags.length ct, .slice Ak kids.length ck] #[.string ⟨#[]⟩, .int .i64 0, .int .i64 0, .bool false, .slice none 0 0, .slice none 0 0, .slice none 0 0, .slice none 0 0] #[.string nm, .int .i64 kind, .int .i64 size, .bool little, .slice Ab bytes.length cb, .slice An names.length cn, .slice At tags.length ct, .slice Ak kids.length ck] 76 76 76
  have HSA := Lib.hid hsA; clear hsA
  have s01 := HO.lt
  unfold vrule
  dsimp only
  go_enter Try.func107, Try.ntmps107
  have x1 := Ext_alloc (.cells #[] 5) (Ext.refl W0)
  have OE1 := OwnL.empty (f := vu8) (e := 5) (Ext.refl W0)
  rw [show W0.heap.size = w.heap.size + 1 + 1 + 1 by have := HSA.out; omega] at OE1
  have HOE1 := Lib.hid OE1; clear OE1
  go_wp2_with (first
    | (at_builtin; rw [← HW0.out]; have hb1 : (([] : List UInt8).length + bytes.length) * 1 ≤ 140737488355328 := (by simp only [List.length_nil]; omega); have hc1 : 0 < bytes.length → ∃ ad, Ab = some ad ∧ ∀ j u, (bytes.map vu8)[j]? = some u → (W0.alloc (.cells #[] 5)).cell? (ad.add j) = some u := fun hp => src0 hb (e0.trans x1) hp; refine wpList_appL rfl (.tmp 5) (.tmp 7) _ rfl E_u8 (by omega) W0 _ vu8 (fun _ => rfl) _ rfl Ab bytes.length cb rfl [] bytes HOE1.out x1 rfl hc1 hb1 ?_; intro v1 w1 ho1 he1 _ _; rw [List.nil_append] at ho1; obtain ⟨A1, c1, hv1, _⟩ := OwnL.rd ho1 s1; subst hv1; have p1 := (HO.ext he1).cell; have q1 := (HO.ext he1).free; have G1 : Hid (∀ g, (Value.slice A1 bytes.length c1).ownBlock = some g → W0.heap.size ≤ g ∧ g < w1.heap.size) := fun g hg => World.ownsRow.lt ho1 g hg; have F1 : Hid ((Value.slice A1 bytes.length c1).ownBlock ≠ some (w.heap.size + 1 + 1)) := OwnL.far ho1 (.inl (by have := HO.lt; omega)); have y1 : Hid (w1.heap.size ≤ (w1.setCell ⟨(w.heap.size + 1 + 1), 4, none⟩ (.slice A1 bytes.length c1)).heap.size) := (by show _ ≤ _; simp); have t1 := Lib.hid he1.size; have O1 := Lib.hid (OwnL.other ho1 ⟨(w.heap.size + 1 + 1), 4, none⟩ (.slice A1 bytes.length c1) F1.out); replace HA := (HA.ext he1).other (g' := (w.heap.size + 1 + 1)) (by omega) 4 (.slice A1 bytes.length c1); replace HR := (HR.ext he1).other (g' := (w.heap.size + 1 + 1)) (by omega) 4 (.slice A1 bytes.length c1); replace HO := (HO.ext he1).set 4 (.slice A1 bytes.length c1); have e1 := (e0.trans he1).setCell (p := ⟨(w.heap.size + 1 + 1), 4, none⟩) (by show w.heap.size ≤ (w.heap.size + 1 + 1); omega) (.slice A1 bytes.length c1); have x2 := Ext_alloc (.cells #[] 9) (Ext.refl (w1.setCell ⟨(w.heap.size + 1 + 1), 4, none⟩ (.slice A1 bytes.length c1))); have a2 := (HA.ext x2).cell; clear e0 he1 ho1 x1 hc1 hb1)
    | (at_builtin; have hb2 : (([] : List ByteArray).length + names.length) * 16 ≤ 140737488355328 := (by simp only [List.length_nil]; omega); have hc2 : 0 < names.length → ∃ ad, An = some ad ∧ ∀ j u, (names.map vstr)[j]? = some u → ((w1.setCell ⟨(w.heap.size + 1 + 1), 4, none⟩ (.slice A1 bytes.length c1)).alloc (.cells #[] 9)).cell? (ad.add j) = some u := fun hp => src0 hn (e1.trans x2) hp; have OE2 := OwnL.empty (f := vstr) (e := 9) (Ext.refl (w1.setCell ⟨(w.heap.size + 1 + 1), 4, none⟩ (.slice A1 bytes.length c1))); rw [show ((w1.setCell ⟨(w.heap.size + 1 + 1), 4, none⟩ (.slice A1 bytes.length c1))).heap.size = w1.heap.size by simp] at OE2; have HOE2 := Lib.hid OE2; clear OE2; refine wpList_appL rfl (.tmp 10) (.tmp 12) _ rfl E_str (by omega) (w1.setCell ⟨(w.heap.size + 1 + 1), 4, none⟩ (.slice A1 bytes.length c1)) _ vstr (fun _ => rfl) _ rfl An names.length cn rfl [] names HOE2.out x2 rfl hc2 hb2 ?_; intro v2 w2 ho2 he2 _ _; rw [List.nil_append] at ho2; obtain ⟨A2, c2, hv2, _⟩ := OwnL.rd ho2 s2; subst hv2; have p2 := (HO.ext he2).cell; have q2 := (HO.ext he2).free; have G2 : Hid (∀ g, (Value.slice A2 names.length c2).ownBlock = some g → (w1.setCell ⟨(w.heap.size + 1 + 1), 4, none⟩ (.slice A1 bytes.length c1)).heap.size ≤ g ∧ g < w2.heap.size) := fun g hg => World.ownsRow.lt ho2 g hg; have F2 : Hid ((Value.slice A2 names.length c2).ownBlock ≠ some (w.heap.size + 1 + 1)) := OwnL.far ho2 (.inl (by have := HO.lt; omega)); have y2 : Hid (w2.heap.size ≤ (w2.setCell ⟨(w.heap.size + 1 + 1), 5, none⟩ (.slice A2 names.length c2)).heap.size) := (by show _ ≤ _; simp); have t2 := Lib.hid he2.size; replace O1 := Lib.hid (OwnL.other (O1.out.ext he2) ⟨(w.heap.size + 1 + 1), 5, none⟩ (.slice A2 names.length c2) F1.out); have O2 := Lib.hid (OwnL.other ho2 ⟨(w.heap.size + 1 + 1), 5, none⟩ (.slice A2 names.length c2) F2.out); replace HA := (HA.ext he2).other (g' := (w.heap.size + 1 + 1)) (by omega) 5 (.slice A2 names.length c2); replace HR := (HR.ext he2).other (g' := (w.heap.size + 1 + 1)) (by omega) 5 (.slice A2 names.length c2); replace HO := (HO.ext he2).set 5 (.slice A2 names.length c2); have e2 := (e1.trans he2).setCell (p := ⟨(w.heap.size + 1 + 1), 5, none⟩) (by show w.heap.size ≤ (w.heap.size + 1 + 1); omega) (.slice A2 names.length c2); have x3 := Ext_alloc (.cells #[] 3) (Ext.refl (w2.setCell ⟨(w.heap.size + 1 + 1), 5, none⟩ (.slice A2 names.length c2))); have a3 := (HA.ext x3).cell; clear e1 he2 ho2 x2 hc2 hb2)
    | (at_builtin; have hb3 : (([] : List Int).length + tags.length) * 8 ≤ 140737488355328 := (by simp only [List.length_nil]; omega); have hc3 : 0 < tags.length → ∃ ad, At = some ad ∧ ∀ j u, (tags.map vint)[j]? = some u → ((w2.setCell ⟨(w.heap.size + 1 + 1), 5, none⟩ (.slice A2 names.length c2)).alloc (.cells #[] 3)).cell? (ad.add j) = some u := fun hp => src0 ht (e2.trans x3) hp; have OE3 := OwnL.empty (f := vint) (e := 3) (Ext.refl (w2.setCell ⟨(w.heap.size + 1 + 1), 5, none⟩ (.slice A2 names.length c2))); rw [show ((w2.setCell ⟨(w.heap.size + 1 + 1), 5, none⟩ (.slice A2 names.length c2))).heap.size = w2.heap.size by simp] at OE3; have HOE3 := Lib.hid OE3; clear OE3; refine wpList_appL rfl (.tmp 15) (.tmp 17) _ rfl E_int (by omega) (w2.setCell ⟨(w.heap.size + 1 + 1), 5, none⟩ (.slice A2 names.length c2)) _ vint (fun _ => rfl) _ rfl At tags.length ct rfl [] tags HOE3.out x3 rfl hc3 hb3 ?_; intro v3 w3 ho3 he3 _ _; rw [List.nil_append] at ho3; obtain ⟨A3, c3, hv3, _⟩ := OwnL.rd ho3 s3; subst hv3; have p3 := (HO.ext he3).cell; have q3 := (HO.ext he3).free; have G3 : Hid (∀ g, (Value.slice A3 tags.length c3).ownBlock = some g → (w2.setCell ⟨(w.heap.size + 1 + 1), 5, none⟩ (.slice A2 names.length c2)).heap.size ≤ g ∧ g < w3.heap.size) := fun g hg => World.ownsRow.lt ho3 g hg; have F3 : Hid ((Value.slice A3 tags.length c3).ownBlock ≠ some (w.heap.size + 1 + 1)) := OwnL.far ho3 (.inl (by have := HO.lt; omega)); have y3 : Hid (w3.heap.size ≤ (w3.setCell ⟨(w.heap.size + 1 + 1), 6, none⟩ (.slice A3 tags.length c3)).heap.size) := (by show _ ≤ _; simp); have t3 := Lib.hid he3.size; replace O1 := Lib.hid (OwnL.other (O1.out.ext he3) ⟨(w.heap.size + 1 + 1), 6, none⟩ (.slice A3 tags.length c3) F1.out); replace O2 := Lib.hid (OwnL.other (O2.out.ext he3) ⟨(w.heap.size + 1 + 1), 6, none⟩ (.slice A3 tags.length c3) F2.out); have O3 := Lib.hid (OwnL.other ho3 ⟨(w.heap.size + 1 + 1), 6, none⟩ (.slice A3 tags.length c3) F3.out); replace HA := (HA.ext he3).other (g' := (w.heap.size + 1 + 1)) (by omega) 6 (.slice A3 tags.length c3); replace HR := (HR.ext he3).other (g' := (w.heap.size + 1 + 1)) (by omega) 6 (.slice A3 tags.length c3); replace HO := (HO.ext he3).set 6 (.slice A3 tags.length c3); have e3 := (e2.trans he3).setCell (p := ⟨(w.heap.size + 1 + 1), 6, none⟩) (by show w.heap.size ≤ (w.heap.size + 1 + 1); omega) (.slice A3 tags.length c3); have x4 := Ext_alloc (.cells #[] 3) (Ext.refl (w3.setCell ⟨(w.heap.size + 1 + 1), 6, none⟩ (.slice A3 tags.length c3))); have a4 := (HA.ext x4).cell; clear e2 he3 ho3 x3 hc3 hb3)
    | (at_builtin; have hb4 : (([] : List Int).length + kids.length) * 8 ≤ 140737488355328 := (by simp only [List.length_nil]; omega); have hc4 : 0 < kids.length → ∃ ad, Ak = some ad ∧ ∀ j u, (kids.map vint)[j]? = some u → ((w3.setCell ⟨(w.heap.size + 1 + 1), 6, none⟩ (.slice A3 tags.length c3)).alloc (.cells #[] 3)).cell? (ad.add j) = some u := fun hp => src0 hk (e3.trans x4) hp; have OE4 := OwnL.empty (f := vint) (e := 3) (Ext.refl (w3.setCell ⟨(w.heap.size + 1 + 1), 6, none⟩ (.slice A3 tags.length c3))); rw [show ((w3.setCell ⟨(w.heap.size + 1 + 1), 6, none⟩ (.slice A3 tags.length c3))).heap.size = w3.heap.size by simp] at OE4; have HOE4 := Lib.hid OE4; clear OE4; refine wpList_appL rfl (.tmp 20) (.tmp 22) _ rfl E_int (by omega) (w3.setCell ⟨(w.heap.size + 1 + 1), 6, none⟩ (.slice A3 tags.length c3)) _ vint (fun _ => rfl) _ rfl Ak kids.length ck rfl [] kids HOE4.out x4 rfl hc4 hb4 ?_; intro v4 w4 ho4 he4 _ _; rw [List.nil_append] at ho4; obtain ⟨A4, c4, hv4, _⟩ := OwnL.rd ho4 s4; subst hv4; have p4 := (HO.ext he4).cell; have q4 := (HO.ext he4).free; have G4 : Hid (∀ g, (Value.slice A4 kids.length c4).ownBlock = some g → (w3.setCell ⟨(w.heap.size + 1 + 1), 6, none⟩ (.slice A3 tags.length c3)).heap.size ≤ g ∧ g < w4.heap.size) := fun g hg => World.ownsRow.lt ho4 g hg; have F4 : Hid ((Value.slice A4 kids.length c4).ownBlock ≠ some (w.heap.size + 1 + 1)) := OwnL.far ho4 (.inl (by have := HO.lt; omega)); have y4 : Hid (w4.heap.size ≤ (w4.setCell ⟨(w.heap.size + 1 + 1), 7, none⟩ (.slice A4 kids.length c4)).heap.size) := (by show _ ≤ _; simp); have t4 := Lib.hid he4.size; replace O1 := Lib.hid (OwnL.other (O1.out.ext he4) ⟨(w.heap.size + 1 + 1), 7, none⟩ (.slice A4 kids.length c4) F1.out); replace O2 := Lib.hid (OwnL.other (O2.out.ext he4) ⟨(w.heap.size + 1 + 1), 7, none⟩ (.slice A4 kids.length c4) F2.out); replace O3 := Lib.hid (OwnL.other (O3.out.ext he4) ⟨(w.heap.size + 1 + 1), 7, none⟩ (.slice A4 kids.length c4) F3.out); have O4 := Lib.hid (OwnL.other ho4 ⟨(w.heap.size + 1 + 1), 7, none⟩ (.slice A4 kids.length c4) F4.out); replace HA := (HA.ext he4).other (g' := (w.heap.size + 1 + 1)) (by omega) 7 (.slice A4 kids.length c4); replace HR := (HR.ext he4).other (g' := (w.heap.size + 1 + 1)) (by omega) 7 (.slice A4 kids.length c4); replace HO := (HO.ext he4).set 7 (.slice A4 kids.length c4); have e4 := (e3.trans he4).setCell (p := ⟨(w.heap.size + 1 + 1), 7, none⟩) (by show w.heap.size ≤ (w.heap.size + 1 + 1); omega) (.slice A4 kids.length c4); have r4 := HR.cell; have u4 := HR.free; have p5 := HO.cell; clear e3 he4 ho4 x4 hc4 hb4))
  have z0 := HSA.out
  have y1 := y1.out; have y2 := y2.out; have y3 := y3.out; have y4 := y4.out; have t1 := t1.out; have t2 := t2.out; have t3 := t3.out; have t4 := t4.out
  have G := grown_put8 (w4.setCell ⟨(w.heap.size + 1 + 1), 7, none⟩ (.slice A4 kids.length c4)) (w.heap.size + 1) 0 ⟨⟨nm, kind, size, little, bytes, names, tags, kids⟩, .slice A1 bytes.length c1, .slice A2 names.length c2, .slice A3 tags.length c3, .slice A4 kids.length c4⟩
  refine bodyPost_ret (v := .agg #[.string nm, .int .i64 kind, .int .i64 size, .bool little, .slice A1 bytes.length c1, .slice A2 names.length c2, .slice A3 tags.length c3, .slice A4 kids.length c4]) (by simp [results, Try.results107, go_sem, p5, r4, u4]) rfl ⟨_, _, _, _, rfl, ⟨?_, ?_, ?_, ?_⟩, ?_, ?_⟩
  · exact (OwnL.keep O1.out G (fun g hg he => by have := G1.out g hg; injection he with he; omega)).down (by omega)
  · exact (OwnL.keep O2.out G (fun g hg he => by have := G2.out g hg; injection he with he; omega)).down (by omega)
  · exact (OwnL.keep O3.out G (fun g hg he => by have := G3.out g hg; injection he with he; omega)).down (by omega)
  · exact (OwnL.keep O4.out G (fun g hg he => by have := G4.out g hg; injection he with he; omega)).down (by omega)
  · refine Far.cons (Far.cons (Far.cons (Far.one _) ?_) ?_) ?_
    · intro v hv g h1 h2
      have := G3.out g h1
      simp only [List.mem_cons, List.not_mem_nil, or_false] at hv
      rcases hv with rfl
      have := G4.out g h2; omega
    · intro v hv g h1 h2
      have := G2.out g h1
      simp only [List.mem_cons, List.not_mem_nil, or_false] at hv
      rcases hv with rfl | rfl
      · have := G3.out g h2; omega
      · have := G4.out g h2; omega
    · intro v hv g h1 h2
      have := G1.out g h1
      simp only [List.mem_cons, List.not_mem_nil, or_false] at hv
      rcases hv with rfl | rfl | rfl
      · have := G2.out g h2; omega
      · have := G3.out g h2; omega
      · have := G4.out g h2; omega
  · exact e4.grown G (fun g hg => by injection hg with hg; omega)
set_option maxRecDepth 100000 in
set_option maxHeartbeats 4000000 in
theorem iCopyR_c (r : DRule) (Ab : Option Addr) (cb : Nat) (An : Option Addr) (cn : Nat) (At : Option Addr) (ct : Nat) (Ak : Option Addr) (ck : Nat) (w : World) (h : RdS w r Ab cb An cn At ct Ak ck) (hz : szRl r ≤ 1048576) :
    Calls Try.prog 111 #[vrule r (.slice Ab r.bytes.length cb) (.slice An r.names.length cn) (.slice At r.tags.length ct) (.slice Ak r.kids.length ck)] w fun e w' => ∃ vb vn vt vk, e = .returned (vrule r vb vn vt vk) ∧ RuleOwn w w' ⟨r, vb, vn, vt, vk⟩ ∧ Far [vb, vn, vt, vk] ∧ Ext w w' := by
  obtain ⟨hb, hn, ht, hk⟩ := h
  obtain ⟨⟨s1, s2, s3, s4⟩, z1, z2, z3, z4⟩ := szRl_short hz
  clear hz
  obtain ⟨nm, kind, size, little, bytes, names, tags, kids⟩ := r
  dsimp only at *
  obtain ⟨W0, HW0, HO, HR, e0, hsA⟩ := boxes2' w #[.string nm, .int .i64 kind, .int .i64 size, .bool little, .slice Ab bytes.length cb, .slice An names.length cn, .slice At tags.length ct, .slice Ak kids.length ck] #[.string ⟨#[]⟩, .int .i64 0, .int .i64 0, .bool false, .slice none 0 0, .slice none 0 0, .slice none 0 0, .slice none 0 0] 76 76
  have HSA := Lib.hid hsA; clear hsA
  have s01 := HO.lt
  unfold vrule
  dsimp only
  go_enter Try.func111, Try.ntmps111
  have x1 := Ext_alloc (.cells #[] 5) (Ext.refl W0)
  have OE1 := OwnL.empty (f := vu8) (e := 5) (Ext.refl W0)
  rw [show W0.heap.size = w.heap.size + 1 + 1 by have := HSA.out; omega] at OE1
  have HOE1 := Lib.hid OE1; clear OE1
  go_wp2_with (first
    | (at_builtin; rw [← HW0.out]; have hb1 : (([] : List UInt8).length + bytes.length) * 1 ≤ 140737488355328 := (by simp only [List.length_nil]; omega); have hc1 : 0 < bytes.length → ∃ ad, Ab = some ad ∧ ∀ j u, (bytes.map vu8)[j]? = some u → (W0.alloc (.cells #[] 5)).cell? (ad.add j) = some u := fun hp => src0 hb (e0.trans x1) hp; refine wpList_appL rfl (.tmp 3) (.tmp 5) _ rfl E_u8 (by omega) W0 _ vu8 (fun _ => rfl) _ rfl Ab bytes.length cb rfl [] bytes HOE1.out x1 rfl hc1 hb1 ?_; intro v1 w1 ho1 he1 _ _; rw [List.nil_append] at ho1; obtain ⟨A1, c1, hv1, _⟩ := OwnL.rd ho1 s1; subst hv1; have p1 := (HO.ext he1).cell; have q1 := (HO.ext he1).free; have G1 : Hid (∀ g, (Value.slice A1 bytes.length c1).ownBlock = some g → W0.heap.size ≤ g ∧ g < w1.heap.size) := fun g hg => World.ownsRow.lt ho1 g hg; have F1 : Hid ((Value.slice A1 bytes.length c1).ownBlock ≠ some w.heap.size) := OwnL.far ho1 (.inl (by have := HO.lt; omega)); have y1 : Hid (w1.heap.size ≤ (w1.setCell ⟨w.heap.size, 4, none⟩ (.slice A1 bytes.length c1)).heap.size) := (by show _ ≤ _; simp); have t1 := Lib.hid he1.size; have O1 := Lib.hid (OwnL.other ho1 ⟨w.heap.size, 4, none⟩ (.slice A1 bytes.length c1) F1.out); replace HR := (HR.ext he1).other (g' := w.heap.size) (by omega) 4 (.slice A1 bytes.length c1); replace HO := (HO.ext he1).set 4 (.slice A1 bytes.length c1); have e1 := (e0.trans he1).setCell (p := ⟨w.heap.size, 4, none⟩) (by show w.heap.size ≤ w.heap.size; omega) (.slice A1 bytes.length c1); have x2 := Ext_alloc (.cells #[] 9) (Ext.refl (w1.setCell ⟨w.heap.size, 4, none⟩ (.slice A1 bytes.length c1))); have a2 := (HO.ext x2).cell; clear e0 he1 ho1 x1 hc1 hb1)
    | (at_builtin; have hb2 : (([] : List ByteArray).length + names.length) * 16 ≤ 140737488355328 := (by simp only [List.length_nil]; omega); have hc2 : 0 < names.length → ∃ ad, An = some ad ∧ ∀ j u, (names.map vstr)[j]? = some u → ((w1.setCell ⟨w.heap.size, 4, none⟩ (.slice A1 bytes.length c1)).alloc (.cells #[] 9)).cell? (ad.add j) = some u := fun hp => src0 hn (e1.trans x2) hp; have OE2 := OwnL.empty (f := vstr) (e := 9) (Ext.refl (w1.setCell ⟨w.heap.size, 4, none⟩ (.slice A1 bytes.length c1))); rw [show ((w1.setCell ⟨w.heap.size, 4, none⟩ (.slice A1 bytes.length c1))).heap.size = w1.heap.size by simp] at OE2; have HOE2 := Lib.hid OE2; clear OE2; refine wpList_appL rfl (.tmp 8) (.tmp 10) _ rfl E_str (by omega) (w1.setCell ⟨w.heap.size, 4, none⟩ (.slice A1 bytes.length c1)) _ vstr (fun _ => rfl) _ rfl An names.length cn rfl [] names HOE2.out x2 rfl hc2 hb2 ?_; intro v2 w2 ho2 he2 _ _; rw [List.nil_append] at ho2; obtain ⟨A2, c2, hv2, _⟩ := OwnL.rd ho2 s2; subst hv2; have p2 := (HO.ext he2).cell; have q2 := (HO.ext he2).free; have G2 : Hid (∀ g, (Value.slice A2 names.length c2).ownBlock = some g → (w1.setCell ⟨w.heap.size, 4, none⟩ (.slice A1 bytes.length c1)).heap.size ≤ g ∧ g < w2.heap.size) := fun g hg => World.ownsRow.lt ho2 g hg; have F2 : Hid ((Value.slice A2 names.length c2).ownBlock ≠ some w.heap.size) := OwnL.far ho2 (.inl (by have := HO.lt; omega)); have y2 : Hid (w2.heap.size ≤ (w2.setCell ⟨w.heap.size, 5, none⟩ (.slice A2 names.length c2)).heap.size) := (by show _ ≤ _; simp); have t2 := Lib.hid he2.size; replace O1 := Lib.hid (OwnL.other (O1.out.ext he2) ⟨w.heap.size, 5, none⟩ (.slice A2 names.length c2) F1.out); have O2 := Lib.hid (OwnL.other ho2 ⟨w.heap.size, 5, none⟩ (.slice A2 names.length c2) F2.out); replace HR := (HR.ext he2).other (g' := w.heap.size) (by omega) 5 (.slice A2 names.length c2); replace HO := (HO.ext he2).set 5 (.slice A2 names.length c2); have e2 := (e1.trans he2).setCell (p := ⟨w.heap.size, 5, none⟩) (by show w.heap.size ≤ w.heap.size; omega) (.slice A2 names.length c2); have x3 := Ext_alloc (.cells #[] 3) (Ext.refl (w2.setCell ⟨w.heap.size, 5, none⟩ (.slice A2 names.length c2))); have a3 := (HO.ext x3).cell; clear e1 he2 ho2 x2 hc2 hb2)
    | (at_builtin; have hb3 : (([] : List Int).length + tags.length) * 8 ≤ 140737488355328 := (by simp only [List.length_nil]; omega); have hc3 : 0 < tags.length → ∃ ad, At = some ad ∧ ∀ j u, (tags.map vint)[j]? = some u → ((w2.setCell ⟨w.heap.size, 5, none⟩ (.slice A2 names.length c2)).alloc (.cells #[] 3)).cell? (ad.add j) = some u := fun hp => src0 ht (e2.trans x3) hp; have OE3 := OwnL.empty (f := vint) (e := 3) (Ext.refl (w2.setCell ⟨w.heap.size, 5, none⟩ (.slice A2 names.length c2))); rw [show ((w2.setCell ⟨w.heap.size, 5, none⟩ (.slice A2 names.length c2))).heap.size = w2.heap.size by simp] at OE3; have HOE3 := Lib.hid OE3; clear OE3; refine wpList_appL rfl (.tmp 13) (.tmp 15) _ rfl E_int (by omega) (w2.setCell ⟨w.heap.size, 5, none⟩ (.slice A2 names.length c2)) _ vint (fun _ => rfl) _ rfl At tags.length ct rfl [] tags HOE3.out x3 rfl hc3 hb3 ?_; intro v3 w3 ho3 he3 _ _; rw [List.nil_append] at ho3; obtain ⟨A3, c3, hv3, _⟩ := OwnL.rd ho3 s3; subst hv3; have p3 := (HO.ext he3).cell; have q3 := (HO.ext he3).free; have G3 : Hid (∀ g, (Value.slice A3 tags.length c3).ownBlock = some g → (w2.setCell ⟨w.heap.size, 5, none⟩ (.slice A2 names.length c2)).heap.size ≤ g ∧ g < w3.heap.size) := fun g hg => World.ownsRow.lt ho3 g hg; have F3 : Hid ((Value.slice A3 tags.length c3).ownBlock ≠ some w.heap.size) := OwnL.far ho3 (.inl (by have := HO.lt; omega)); have y3 : Hid (w3.heap.size ≤ (w3.setCell ⟨w.heap.size, 6, none⟩ (.slice A3 tags.length c3)).heap.size) := (by show _ ≤ _; simp); have t3 := Lib.hid he3.size; replace O1 := Lib.hid (OwnL.other (O1.out.ext he3) ⟨w.heap.size, 6, none⟩ (.slice A3 tags.length c3) F1.out); replace O2 := Lib.hid (OwnL.other (O2.out.ext he3) ⟨w.heap.size, 6, none⟩ (.slice A3 tags.length c3) F2.out); have O3 := Lib.hid (OwnL.other ho3 ⟨w.heap.size, 6, none⟩ (.slice A3 tags.length c3) F3.out); replace HR := (HR.ext he3).other (g' := w.heap.size) (by omega) 6 (.slice A3 tags.length c3); replace HO := (HO.ext he3).set 6 (.slice A3 tags.length c3); have e3 := (e2.trans he3).setCell (p := ⟨w.heap.size, 6, none⟩) (by show w.heap.size ≤ w.heap.size; omega) (.slice A3 tags.length c3); have x4 := Ext_alloc (.cells #[] 3) (Ext.refl (w3.setCell ⟨w.heap.size, 6, none⟩ (.slice A3 tags.length c3))); have a4 := (HO.ext x4).cell; clear e2 he3 ho3 x3 hc3 hb3)
    | (at_builtin; have hb4 : (([] : List Int).length + kids.length) * 8 ≤ 140737488355328 := (by simp only [List.length_nil]; omega); have hc4 : 0 < kids.length → ∃ ad, Ak = some ad ∧ ∀ j u, (kids.map vint)[j]? = some u → ((w3.setCell ⟨w.heap.size, 6, none⟩ (.slice A3 tags.length c3)).alloc (.cells #[] 3)).cell? (ad.add j) = some u := fun hp => src0 hk (e3.trans x4) hp; have OE4 := OwnL.empty (f := vint) (e := 3) (Ext.refl (w3.setCell ⟨w.heap.size, 6, none⟩ (.slice A3 tags.length c3))); rw [show ((w3.setCell ⟨w.heap.size, 6, none⟩ (.slice A3 tags.length c3))).heap.size = w3.heap.size by simp] at OE4; have HOE4 := Lib.hid OE4; clear OE4; refine wpList_appL rfl (.tmp 18) (.tmp 20) _ rfl E_int (by omega) (w3.setCell ⟨w.heap.size, 6, none⟩ (.slice A3 tags.length c3)) _ vint (fun _ => rfl) _ rfl Ak kids.length ck rfl [] kids HOE4.out x4 rfl hc4 hb4 ?_; intro v4 w4 ho4 he4 _ _; rw [List.nil_append] at ho4; obtain ⟨A4, c4, hv4, _⟩ := OwnL.rd ho4 s4; subst hv4; have p4 := (HO.ext he4).cell; have q4 := (HO.ext he4).free; have G4 : Hid (∀ g, (Value.slice A4 kids.length c4).ownBlock = some g → (w3.setCell ⟨w.heap.size, 6, none⟩ (.slice A3 tags.length c3)).heap.size ≤ g ∧ g < w4.heap.size) := fun g hg => World.ownsRow.lt ho4 g hg; have F4 : Hid ((Value.slice A4 kids.length c4).ownBlock ≠ some w.heap.size) := OwnL.far ho4 (.inl (by have := HO.lt; omega)); have y4 : Hid (w4.heap.size ≤ (w4.setCell ⟨w.heap.size, 7, none⟩ (.slice A4 kids.length c4)).heap.size) := (by show _ ≤ _; simp); have t4 := Lib.hid he4.size; replace O1 := Lib.hid (OwnL.other (O1.out.ext he4) ⟨w.heap.size, 7, none⟩ (.slice A4 kids.length c4) F1.out); replace O2 := Lib.hid (OwnL.other (O2.out.ext he4) ⟨w.heap.size, 7, none⟩ (.slice A4 kids.length c4) F2.out); replace O3 := Lib.hid (OwnL.other (O3.out.ext he4) ⟨w.heap.size, 7, none⟩ (.slice A4 kids.length c4) F3.out); have O4 := Lib.hid (OwnL.other ho4 ⟨w.heap.size, 7, none⟩ (.slice A4 kids.length c4) F4.out); replace HR := (HR.ext he4).other (g' := w.heap.size) (by omega) 7 (.slice A4 kids.length c4); replace HO := (HO.ext he4).set 7 (.slice A4 kids.length c4); have e4 := (e3.trans he4).setCell (p := ⟨w.heap.size, 7, none⟩) (by show w.heap.size ≤ w.heap.size; omega) (.slice A4 kids.length c4); have r4 := HR.cell; have u4 := HR.free; have p5 := HO.cell; clear e3 he4 ho4 x4 hc4 hb4))
  have z0 := HSA.out
  have y1 := y1.out; have y2 := y2.out; have y3 := y3.out; have y4 := y4.out; have t1 := t1.out; have t2 := t2.out; have t3 := t3.out; have t4 := t4.out
  have G := grown_put8 (w4.setCell ⟨w.heap.size, 7, none⟩ (.slice A4 kids.length c4)) (w.heap.size + 1) 0 ⟨⟨nm, kind, size, little, bytes, names, tags, kids⟩, .slice A1 bytes.length c1, .slice A2 names.length c2, .slice A3 tags.length c3, .slice A4 kids.length c4⟩
  refine bodyPost_ret (v := .agg #[.string nm, .int .i64 kind, .int .i64 size, .bool little, .slice A1 bytes.length c1, .slice A2 names.length c2, .slice A3 tags.length c3, .slice A4 kids.length c4]) (by simp [results, Try.results111, go_sem, p5, r4, u4]) rfl ⟨_, _, _, _, rfl, ⟨?_, ?_, ?_, ?_⟩, ?_, ?_⟩
  · exact (OwnL.keep O1.out G (fun g hg he => by have := G1.out g hg; injection he with he; omega)).down (by omega)
  · exact (OwnL.keep O2.out G (fun g hg he => by have := G2.out g hg; injection he with he; omega)).down (by omega)
  · exact (OwnL.keep O3.out G (fun g hg he => by have := G3.out g hg; injection he with he; omega)).down (by omega)
  · exact (OwnL.keep O4.out G (fun g hg he => by have := G4.out g hg; injection he with he; omega)).down (by omega)
  · refine Far.cons (Far.cons (Far.cons (Far.one _) ?_) ?_) ?_
    · intro v hv g h1 h2
      have := G3.out g h1
      simp only [List.mem_cons, List.not_mem_nil, or_false] at hv
      rcases hv with rfl
      have := G4.out g h2; omega
    · intro v hv g h1 h2
      have := G2.out g h1
      simp only [List.mem_cons, List.not_mem_nil, or_false] at hv
      rcases hv with rfl | rfl
      · have := G3.out g h2; omega
      · have := G4.out g h2; omega
    · intro v hv g h1 h2
      have := G1.out g h1
      simp only [List.mem_cons, List.not_mem_nil, or_false] at hv
      rcases hv with rfl | rfl | rfl
      · have := G2.out g h2; omega
      · have := G3.out g h2; omega
      · have := G4.out g h2; omega
  · exact e4.grown G (fun g hg => by injection hg with hg; omega)
end Go.Proofs.Ytlaejcacembjiaa

/- Worlds that differ in blocks of a stretch, and in new ones. -/
namespace Go.Proofs.Ytlaejcacembjiaa
open Go.RowKit Go.Sort

/-- w' is w with new blocks, and writes to blocks from lo on, below hi -/
structure Wrote (lo hi : Nat) (w w' : World) : Prop where
  os : w'.os = w.os
  tape : w'.tape = w.tape
  output : w'.output = w.output
  size : w.heap.size ≤ w'.heap.size
  block : ∀ k, k < w.heap.size → (k < lo ∨ hi ≤ k) → w'.heap[k]? = w.heap[k]?
theorem Wrote.refl (lo hi : Nat) (w : World) : Wrote lo hi w w := ⟨rfl, rfl, rfl, Nat.le_refl _, fun _ _ _ => rfl⟩
theorem Wrote.trans {lo hi : Nat} {a b c : World} (h : Wrote lo hi a b) (k : Wrote lo hi b c) : Wrote lo hi a c :=
  ⟨k.os.trans h.os, k.tape.trans h.tape, k.output.trans h.output, Nat.le_trans h.size k.size, fun i hi hb => (k.block i (Nat.lt_of_lt_of_le hi h.size) hb).trans (h.block i hi hb)⟩
theorem Wrote.mono {lo hi lo' hi' : Nat} {a b : World} (h : Wrote lo hi a b) (h1 : lo' ≤ lo) (h2 : hi ≤ hi') : Wrote lo' hi' a b :=
  ⟨h.os, h.tape, h.output, h.size, fun i hi hb => h.block i hi (by omega)⟩
theorem Wrote.ext {lo hi : Nat} {w w' : World} (e : Ext w w') : Wrote lo hi w w' := ⟨e.os, e.tape, e.output, e.size, fun i hi _ => Below.block e i hi⟩
theorem Wrote.grown {lo hi : Nat} {w w' : World} {row : Option Nat} (h : w.grownBy w' row) (hr : ∀ g, row = some g → lo ≤ g ∧ g < hi) : Wrote lo hi w w' :=
  ⟨h.os, h.tape, h.output, h.size, fun i hi hb => h.block i hi (fun e => by have := hr i e.symm; omega)⟩
theorem Wrote.set {lo hi : Nat} (w : World) (a : Addr) (u : Value) (h1 : lo ≤ a.block) (h2 : a.block < hi) : Wrote lo hi w (w.setCell a u) :=
  Wrote.grown (grown_set w a u) (fun g hg => by injection hg with hg; subst hg; exact ⟨h1, h2⟩)
/-- what was there before lo stays -/
theorem Wrote.below {lo hi : Nat} {w0 w w' : World} (h : Wrote lo hi w w') (e : Ext w0 w) (hlo : w0.heap.size ≤ lo) : Ext w0 w' :=
  Below.trans e ⟨h.os, h.tape, h.output, h.size, fun k hk => h.block k (Nat.lt_of_lt_of_le hk e.size) (.inl (Nat.lt_of_lt_of_le hk hlo))⟩
theorem Own.wrote {e : TypeId} {size : Nat} {w0 w w' : World} {v : Value} {n : Nat} {xs : List Value} (h : Own e size w0 w v n xs) {lo hi : Nat} (hw : Wrote lo hi w w') (hv : ∀ g, v.ownBlock = some g → g < lo ∨ hi ≤ g) : Own e size w0 w' v n xs := by
  refine ⟨h.1, ?_⟩
  rcases h.2 with h0 | ⟨g, cap, cur, rfl, hb, hg, r⟩
  · exact .inl h0
  · exact .inr ⟨g, cap, cur, rfl, hb, (hw.block g (Array.getElem?_eq_some_iff.1 hg).1 (hv g rfl)).trans hg, r⟩
theorem OwnL.wrote {α : Type} {f : α → Value} {e : TypeId} {w0 w w' : World} {v : Value} {l : List α} (h : OwnL f e w0 w v l) {lo hi : Nat} (hw : Wrote lo hi w w') (hv : ∀ g, v.ownBlock = some g → g < lo ∨ hi ≤ g) : OwnL f e w0 w' v l := Own.wrote h hw hv
/-- .. made behind the stretch -/
theorem OwnL.behind {α : Type} {f : α → Value} {e : TypeId} {w0 w w' : World} {v : Value} {l : List α} (h : OwnL f e w0 w v l) {lo hi : Nat} (hw : Wrote lo hi w w') (hb : hi ≤ w0.heap.size) : OwnL f e w0 w' v l :=
  h.wrote hw (fun g hg => .inr (Nat.le_trans hb (World.ownsRow.lt h g hg).1))
end Go.Proofs.Ytlaejcacembjiaa

/- CopyDescription of the program and of the reference: the walks. -/
namespace Go.Proofs.Ytlaejcacembjiaa
open Go.RowKit Go.Sort

section
variable {P : Program} {ops : Array Oper} {o : Oper} {a : Act} {Q : Exit → Act → World → Prop} {K : Act → World → Prop} {E : Prop}
/-- append, elements of any size, as one step of a region that draws -/
theorem step_app8 (hgd : o.guard = none) (s x : Operand) (t : TypeId) (ho : o.op = .call { callee := .builtin .append, args := #[s, x], argTypes := #[t, t] })
    {e : TypeId} {size bytes : Nat} {z : Value} (hE : Elem P t e size bytes z) (w0 w : World) (v : Value) (n : Nat) (xs : List Value) (hs : a.eval s = v) (hown : Own e size w0 w v n xs) (he : w0.heap.size ≤ w.heap.size)
    (ad : Addr) (m c : Nat) (news : List Value) (hx : a.eval x = .slice (some ad) m c) (hl : news.length = m * size) (hA : ∀ j u, news[j]? = some u → w.cell? (ad.add j) = some u) (h1 : ∀ u ∈ news, u.oneCell' = true)
    (hm : n + m ≤ maxLen) (hb : (n + m) * bytes ≤ 140737488355328)
    (h : ∀ v' w', Own e size w0 w' v' (n + m) (xs ++ news) → w.grownBy w' v.ownBlock → (v'.ownBlock = v.ownBlock ∨ v'.ownBlock = some w.heap.size) → K (a.put o.dst v') w') :
    if Region.wanted o (yielded ops a.tmps) = true then Oper.wp P o a w K Q else E := by
  have hw : Region.wanted o (yielded ops a.tmps) = true := by simp [Region.wanted, hgd]
  rw [if_pos hw]
  obtain ⟨i0, hi0, hz0, hz1, hz2⟩ := info_parts hE.hi
  obtain ⟨v', w', hr, h2, h3, h4, h5⟩ := run_append_own_at (P := P) w w0.heap.size t o.type e i0 z size bytes hE.ht hi0 hz0 hz1 hz2 hE.hz hE.hs v n xs hown ad m c news hl hA h1 hm hb he
  unfold Oper.wp execOp
  simp only [ho, resolve, invoke, builtin, Sem.run_bind, Sem.run_pure, Result.andThen_ok, List.map_toArray, List.map_cons, List.map_nil, hs, hx, hr]
  exact h v' w' h2 h3 h5
end
theorem vals_cells_one (p : RV) {w0 w : World} (h : RuleOwn w0 w p) (hs : ShortR p.r) : ∀ u ∈ p.cells, u.oneCell' = true := by
  obtain ⟨Ab, cb, An, cn, At, ct, Ak, ck, h1, h2, h3, h4, _⟩ := h.rd hs
  exact RV.cells_one p (by rw [h1]; rfl) (by rw [h2]; rfl) (by rw [h3]; rfl) (by rw [h4]; rfl)
theorem OwnD.snoc {W0 wr w2 w4 : World} {v v' : Value} {ps : List RV} {p : RV} (h : OwnD W0 wr v ps) (e2 : Ext wr w2) (hro : RuleOwn wr w2 p) (hfr : Far p.vals) (hb : W0.heap.size ≤ wr.heap.size) {cs : Array Value} {T : TypeId}
    (ho4 : Own 76 8 W0 w4 v' (ps.length + 1) (ps.flatMap RV.cells ++ p.cells)) (hg4 : (w2.alloc (.cells cs T)).grownBy w4 v.ownBlock) (hv : v'.ownBlock = v.ownBlock ∨ v'.ownBlock = some (w2.alloc (.cells cs T)).heap.size) : OwnD W0 w4 v' (ps ++ [p]) := by
  have ex := Ext_alloc (.cells cs T) (Ext.refl w2)
  have hsz : (w2.alloc (.cells cs T)).heap.size = w2.heap.size + 1 := by simp
  have hbl := h.block
  have hfar := h.far
  unfold Far at hfar
  rw [List.pairwise_cons] at hfar
  have hs2 := e2.size
  refine ⟨?_, fun q hq => ?_, ?_⟩
  · rw [List.length_append, List.flatMap_append, List.flatMap_cons, List.flatMap_nil, List.append_nil]; exact ho4
  · rcases List.mem_append.1 hq with hq | hq
    · refine (((h.each q hq).ext e2).ext ex).keep hg4 (fun u hu g hg he => ?_)
      exact hfar.1 u (List.mem_flatMap.2 ⟨q, hq, hu⟩) g he hg
    · obtain rfl := List.mem_singleton.1 hq
      refine ((hro.ext ex).keep hg4 (fun u hu g hg he => ?_)).down hb
      have h1 := (hro.block u hu g hg).1
      have h2 := (hbl v (List.mem_cons_self ..) g he).2
      omega
  · rw [List.flatMap_append, List.flatMap_cons, List.flatMap_nil, List.append_nil]
    have hold : ∀ u ∈ ps.flatMap RV.vals, ∀ g, u.ownBlock = some g → g < wr.heap.size := fun u hu g hg => (hbl u (List.mem_cons_of_mem _ hu) g hg).2
    have hnew : ∀ u ∈ p.vals, ∀ g, u.ownBlock = some g → wr.heap.size ≤ g ∧ g < w2.heap.size := fun u hu g hg => hro.block u hu g hg
    refine Far.cons (Far.append hfar.2 hfr (fun u hu x hx g h1 h2 => by have := hold u hu g h1; have := (hnew x hx g h2).1; omega)) (fun x hx g h1 h2 => ?_)
    rcases hv with hv | hv
    · rw [hv] at h1
      rcases List.mem_append.1 hx with hx | hx
      · exact hfar.1 x hx g h1 h2
      · have := (hbl v (List.mem_cons_self ..) g h1).2; have := (hnew x hx g h2).1; omega
    · rw [hv, hsz] at h1
      injection h1 with h1
      rcases List.mem_append.1 hx with hx | hx
      · have := hold x hx g h2; omega
      · have := (hnew x hx g h2).2; omega
theorem size_drew (w : World) : w.drew.heap.size = w.heap.size := rfl
set_option maxRecDepth 100000 in
set_option maxHeartbeats 8000000 in
theorem sCopyD_c (A : Option Addr) (ds : List DRule) (c : Nat) (w : World) (h : RdD w A ds c) (hz : szD ds ≤ 1048576) :
    Calls Try.prog 56 #[vdesc (.slice A ds.length c)] w fun e w' => ∃ v ps, e = .returned (vdesc v) ∧ rulesOf ps = ds ∧ OwnD w w' v ps ∧ Ext w w' := by
  have hn : ds.length ≤ 1048576 := by unfold szD at hz; omega
  have HZ : Hid (∀ k (hk : k < ds.length), szRl ds[k] ≤ 1048576) := fun k hk => szD_mem hz (List.getElem_mem hk)
  obtain ⟨W0, HW0, HP, HR, HO, e0, hsA⟩ := boxes3' w #[.slice A ds.length c] #[.slice none 0 0] #[.slice none 0 0] 38 38 38
  have HSA := Lib.hid hsA; clear hsA
  have HP0 := Lib.hid HP; have HR0 := Lib.hid HR; have HO0 := Lib.hid HO; clear HP HR HO
  have OD0 : Hid (OwnD W0 W0 (.slice none 0 0) []) := ⟨⟨by simp, .inl ⟨rfl, rfl⟩⟩, fun p hp => by simp at hp, Far.one _⟩
  have HH := Lib.hid h; clear h
  unfold vdesc
  go_enter Try.func56, Try.ntmps56
  go_wp2
  rw [← HW0.out]
  go_loopw [4] (fun ix wr => ∃ (k : Nat) (ps : List RV) (v : Value), k ≤ ds.length ∧ ix = .int .i64 k ∧ ps.length ≤ k ∧ k ≤ ps.length ∧ Hid (rulesOf ps = ds.take k) ∧ Hid (OwnD W0 wr v ps) ∧ Hid (Box wr w.heap.size #[.slice A ds.length c] 38) ∧ Hid (Box wr (w.heap.size + 1) #[.slice none 0 0] 38) ∧ Hid (Box wr (w.heap.size + 1 + 1) #[v] 38) ∧ Ext w wr ∧ W0.heap.size ≤ wr.heap.size) (fun ix _ => ds.length - (intOf ix).toNat)
  case atStart => exact ⟨0, [], _, by omega, rfl, by simp, by simp, by simp [Hid, rulesOf], OD0, HP0, HR0, HO0, e0, Nat.le_refl _⟩
  case round =>
    clear OD0 HP0 HR0 HO0 e0 HW0
    obtain ⟨k, ps, v, hk, rfl, hl1, hl2, hps, hod, hbp, hbr, hbo, he, hsz⟩ := hrel
    have c0 : _ = some (Value.slice A ds.length c) := hbp.out.cell 0
    by_cases hlt : k < ds.length
    · obtain ⟨b, off, Ab, cb, An, cn, At, ct, Ak, ck, hA, hb, hs, hr⟩ := HH.out.at k hlt
      subst hA
      have hzk := HZ.out k hlt
      have HT : Hid (ds.take (k+1) = ds.take k ++ [ds[k]]) := List.take_succ_eq_append_getElem hlt
      generalize ds[k] = r at *
      have C := Lib.hid (fun w h => sCopyR_c r Ab cb An cn At ct Ak ck w h hzk)
      obtain ⟨k0, k1, k2, k3, k4, k5, k6, k7⟩ := hr
      unfold vrule at C
      have cv : _ = some v := hbo.out.cell 0
      have hd := Ext_drew he
      have HS := Lib.hid hs; have hzk := Lib.hid hzk
      have hbod := Lib.hid (hbo.out.ext (Ext_drew (Ext.refl wr)))
      have hodd := Lib.hid (hod.out.ext (Ext_drew (Ext.refl wr)))
      clear hs
      have b1 : (0 : Int) ≤ (k : Int) := by omega
      have b2 : (k : Int) < (ds.length : Int) := by omega
      go_wp2_with fail
      go_region_law (first
        | (go_simp; go_at_call 107; refine (C.out _ (HS.out.ext hd)).mono ?_; rintro _ w2 ⟨vb, vn, vt, vk, rfl, hro, hfr, he2⟩; have hro := Lib.hid hro; have hfr := Lib.hid hfr; have hbo3 := Lib.hid ((hbod.out.ext he2).ext (Ext_alloc (.cells #[.string r.nm, .int .i64 r.kind, .int .i64 r.size, .bool r.little, vb, vn, vt, vk] 76) (Ext.refl w2))); have c2 : _ = some v := (hbod.out.ext he2).cell 0; have c3 : _ = some v := hbo3.out.cell 0; have hsz2 : Hid (W0.heap.size ≤ (w2.alloc (.cells #[.string r.nm, .int .i64 r.kind, .int .i64 r.size, .bool r.little, vb, vn, vt, vk] 76)).heap.size) := (by have h1 := he2.size; rw [size_drew] at h1; show _ ≤ _; rw [World.size_alloc]; omega); have hone := Lib.hid (vals_cells_one _ hro.out (szRl_short hzk.out).1); have hNv : Hid (v.ownBlock ≠ some (w.heap.size + 1 + 1)) := (fun hh => by have := (hod.out.block v (List.mem_cons_self ..) _ hh).1; have := HSA.out; omega))
        | (refine step_app8 rfl (.tmp 14) (.tmp 21) _ rfl E_rule W0 (w2.alloc (.cells #[.string r.nm, .int .i64 r.kind, .int .i64 r.size, .bool r.little, vb, vn, vt, vk] 76)) v ps.length (ps.flatMap RV.cells) rfl (Own.ext (Own.ext hodd.out.row he2) (Ext_alloc _ (Ext.refl _))) hsz2.out ⟨w2.heap.size, 0, none⟩ 1 1 (RV.cells ⟨r, vb, vn, vt, vk⟩) rfl rfl (fun j u hu => (World.cell?_alloc_at' w2 (RV.cells ⟨r, vb, vn, vt, vk⟩) 76 j).trans hu) hone.out (by simp [maxLen]; omega) (by omega) ?_; intro v4 w4 ho4 hg4 hv4; have hbo4 := Lib.hid (Box.moved (hbo3.out) hg4 hNv.out); have c4 := hbo4.out.cell 0; have f4 := hbo4.out.free 0; have HO4 := Lib.hid (OwnD.snoc hodd.out he2 hro.out hfr.out hsz ho4 hg4 hv4); have HG4 := Lib.hid hg4; clear ho4 hg4 hv4; obtain ⟨A4, q4, hA4⟩ := HO4.out.shape; replace hA4 : v4 = .slice A4 (ps.length + 1) q4 := (by rw [hA4, List.length_append]; rfl); subst hA4))
      all_goals
        have hW := HSA.out
        have x3 := Ext_alloc (.cells #[.string r.nm, .int .i64 r.kind, .int .i64 r.size, .bool r.little, vb, vn, vt, vk] 76) (Ext.refl w2)
        have bV : ∀ g, v.ownBlock = some g → w.heap.size + 3 ≤ g := fun g hg => by have := (hod.out.block v (List.mem_cons_self ..) g hg).1; omega
        have e4 := ((hd.trans he2).trans x3).grown HG4.out (fun g hg => by have := bV g hg; omega)
        have P5 : Hid (Box (w4.setCell ⟨w.heap.size + 1 + 1, 0, none⟩ (.slice A4 (ps.length + 1) q4)) w.heap.size #[.slice (some ⟨b, off, none⟩) ds.length c] 38) := (((hbp.out.ext ((Ext_drew (Ext.refl wr)).trans he2)).ext x3).moved HG4.out (fun hh => by have := bV _ hh; omega)).other (by omega) 0 _
        have R5 : Hid (Box (w4.setCell ⟨w.heap.size + 1 + 1, 0, none⟩ (.slice A4 (ps.length + 1) q4)) (w.heap.size + 1) #[.slice none 0 0] 38) := (((hbr.out.ext ((Ext_drew (Ext.refl wr)).trans he2)).ext x3).moved HG4.out (fun hh => by have := bV _ hh; omega)).other (by omega) 0 _
        have O5 : Hid (Box (w4.setCell ⟨w.heap.size + 1 + 1, 0, none⟩ (.slice A4 (ps.length + 1) q4)) (w.heap.size + 1 + 1) #[.slice A4 (ps.length + 1) q4] 38) := hbo4.out.set 0 (.slice A4 (ps.length + 1) q4)
        have D5 : Hid (OwnD W0 (w4.setCell ⟨w.heap.size + 1 + 1, 0, none⟩ (.slice A4 (ps.length + 1) q4)) (.slice A4 (ps.length + 1) q4) (ps ++ [⟨r, vb, vn, vt, vk⟩])) := HO4.out.keep (grown_set w4 ⟨w.heap.size + 1 + 1, 0, none⟩ _) (fun u hu g hg hh => by have h1 := (HO4.out.block u hu g hg).1; injection hh with hh; simp at hh; omega)
        have E5 : Hid (Ext w (w4.setCell ⟨w.heap.size + 1 + 1, 0, none⟩ (.slice A4 (ps.length + 1) q4))) := e4.setCell (p := ⟨w.heap.size + 1 + 1, 0, none⟩) (by show w.heap.size ≤ w.heap.size + 1 + 1; omega) _
        have S5 : Hid (W0.heap.size ≤ (w4.setCell ⟨w.heap.size + 1 + 1, 0, none⟩ (.slice A4 (ps.length + 1) q4)).heap.size) := by
          have h1 := HG4.out.size; have h2 := hsz2.out
          show _ ≤ _; simp only [World.size_setCell]; omega
        have N5 : Hid (rulesOf (ps ++ [⟨r, vb, vn, vt, vk⟩]) = ds.take (k + 1)) := by show _ = _; rw [rulesOf_append, hps.out, HT.out]; rfl
        clear hW x3 bV e4
        go_wp2
        go_roundw
        case rel => exact ⟨k + 1, ps ++ [⟨r, vb, vn, vt, vk⟩], _, by omega, by go_num, by simp; omega, by simp; omega, N5, D5, P5, R5, O5, E5.out, S5.out⟩
        case measure => simp [intOf]; omega
    · obtain rfl : k = ds.length := by omega
      obtain ⟨A5, c5, hA5⟩ := hod.out.shape
      subst hA5
      have hN : rulesOf ps = ds := by rw [hps.out, List.take_length]
      have HN := Lib.hid hN
      have cv : _ = some (Value.slice A5 ps.length c5) := hbo.out.cell 0
      have cr : _ = some (Value.slice none 0 0) := hbr.out.cell 0
      have fr := hbr.out.free 0
      have G := grown_set wr ⟨w.heap.size + 1, 0, none⟩ (.slice A5 ps.length c5)
      have D5 : Hid (OwnD w (wr.setCell ⟨w.heap.size + 1, 0, none⟩ (.slice A5 ps.length c5)) (.slice A5 ps.length c5) ps) := (hod.out.keep G (fun u hu g hg hh => by have h1 := (hod.out.block u hu g hg).1; have := HSA.out; injection hh with hh; simp at hh; omega)).down (by have := HSA.out; omega)
      have E5 : Hid (Ext w (wr.setCell ⟨w.heap.size + 1, 0, none⟩ (.slice A5 ps.length c5))) := he.setCell (p := ⟨w.heap.size + 1, 0, none⟩) (by show w.heap.size ≤ w.heap.size + 1; omega) _
      have z5 : (wr.setCell ⟨w.heap.size + 1, 0, none⟩ (.slice A5 ps.length c5)).cell? ⟨w.heap.size + 1, 0, none⟩ = some (.slice A5 ps.length c5) := World.cell?_setCell_same _ _ _ cr
      clear hN G
      go_wp2
      exact bodyPost_ret (v := .agg #[.slice A5 ps.length c5]) (by simp [results, Try.results56, go_sem, z5]) rfl ⟨_, ps, rfl, HN.out, D5.out, E5.out⟩
set_option maxRecDepth 100000 in
set_option maxHeartbeats 8000000 in
theorem iCopyD_c (A : Option Addr) (ds : List DRule) (c : Nat) (w : World) (h : RdD w A ds c) (hz : szD ds ≤ 1048576) :
    Calls Try.prog 63 #[vdesc (.slice A ds.length c)] w fun e w' => ∃ v ps, e = .returned (vdesc v) ∧ rulesOf ps = ds ∧ OwnD w w' v ps ∧ Ext w w' := by
  have hn : ds.length ≤ 1048576 := by unfold szD at hz; omega
  have HZ : Hid (∀ k (hk : k < ds.length), szRl ds[k] ≤ 1048576) := fun k hk => szD_mem hz (List.getElem_mem hk)
  obtain ⟨W0, HW0, HP, HR, e0, hsA⟩ := boxes2' w #[.slice A ds.length c] #[.slice none 0 0] 38 38
  have HSA := Lib.hid hsA; clear hsA
  have HH := Lib.hid h; clear h
  unfold vdesc
  go_enter Try.func63, Try.ntmps63
  go_wp2_with (first
    | (at_make; go_must (rw [← HW0.out]; refine wpList_mk0 rfl _ _ _ rfl E_rule W0 W0 (Ext.refl W0) ds.length rfl rfl (by omega) (by simp [maxLen]; omega) ?_); intro w1 ho he; have cp1 : _ = some (Value.slice A ds.length c) := (HP.ext he).cell 0; have cp2 : _ = some (Value.slice A ds.length c) := ((HP.ext he).ext (Ext_alloc (.cells #[.slice (some ⟨W0.heap.size, 0, none⟩) 0 ds.length] 38) (Ext.refl w1))).cell 0))
  have x1 := Ext_alloc (.cells #[.slice (some ⟨W0.heap.size, 0, none⟩) 0 ds.length] 38) (Ext.refl w1)
  have hg3 : W0.heap.size < w1.heap.size := (World.ownsRow.lt ho _ rfl).2
  have HP1 := Lib.hid ((HP.ext he).ext x1); have HR1 := Lib.hid ((HR.ext he).ext x1)
  have HO1 := Lib.hid (Box.new w1 #[.slice (some ⟨W0.heap.size, 0, none⟩) 0 ds.length] 38)
  have OD1 : Hid (OwnD W0 (w1.alloc (.cells #[.slice (some ⟨W0.heap.size, 0, none⟩) 0 ds.length] 38)) (.slice (some ⟨W0.heap.size, 0, none⟩) 0 ds.length) []) := ⟨Own.ext ho x1, fun p hp => by simp at hp, Far.one _⟩
  have NF1 : Hid (∀ u ∈ (Value.slice (some ⟨W0.heap.size, 0, none⟩) 0 ds.length) :: ([] : List RV).flatMap RV.vals, u.ownBlock ≠ some w1.heap.size) := by
    intro u hu hh
    simp only [List.flatMap_nil, List.mem_cons, List.not_mem_nil, or_false] at hu
    subst hu; injection hh with hh; exact absurd hh (Nat.ne_of_lt hg3)
  have e1 := (e0.trans he).trans x1
  have hs1 : W0.heap.size ≤ (w1.alloc (.cells #[.slice (some ⟨W0.heap.size, 0, none⟩) 0 ds.length] 38)).heap.size := by rw [World.size_alloc]; omega
  clear ho he x1 e0 HP HR
  go_loopw [14] (fun ix wr => ∃ (k : Nat) (ps : List RV) (v : Value), k ≤ ds.length ∧ ix = .int .i64 k ∧ ps.length ≤ k ∧ k ≤ ps.length ∧ Hid (rulesOf ps = ds.take k) ∧ Hid (OwnD W0 wr v ps) ∧ Hid (Box wr w.heap.size #[.slice A ds.length c] 38) ∧ Hid (Box wr (w.heap.size + 1) #[.slice none 0 0] 38) ∧ Hid (Box wr w1.heap.size #[v] 38) ∧ Hid (∀ u ∈ v :: ps.flatMap RV.vals, u.ownBlock ≠ some w1.heap.size) ∧ Ext w wr ∧ W0.heap.size ≤ wr.heap.size) (fun ix _ => ds.length - (intOf ix).toNat)
  case atStart => exact ⟨0, [], _, by omega, rfl, by simp, by simp, by simp [Hid, rulesOf], OD1, HP1, HR1, HO1, NF1, e1, hs1⟩
  case round =>
    clear OD1 HP1 HR1 HO1 NF1 e1 hs1 HW0 cp1 cp2
    obtain ⟨k, ps, v, hk, rfl, hl1, hl2, hps, hod, hbp, hbr, hbo, hnf, he, hsz⟩ := hrel
    by_cases hlt : k < ds.length
    · obtain ⟨b, off, Ab, cb, An, cn, At, ct, Ak, ck, hA, hb, hs, hr⟩ := HH.out.at k hlt
      subst hA
      have hzk := HZ.out k hlt
      have HT : Hid (ds.take (k+1) = ds.take k ++ [ds[k]]) := List.take_succ_eq_append_getElem hlt
      generalize ds[k] = r at *
      have C := Lib.hid (fun w h => iCopyR_c r Ab cb An cn At ct Ak ck w h hzk)
      obtain ⟨k0, k1, k2, k3, k4, k5, k6, k7⟩ := hr
      unfold vrule at C
      have xr := Ext_alloc (.cells #[.string r.nm, .int .i64 r.kind, .int .i64 r.size, .bool r.little, .slice Ab r.bytes.length cb, .slice An r.names.length cn, .slice At r.tags.length ct, .slice Ak r.kids.length ck] 76) (Ext.refl wr)
      have hd0 := he.trans xr
      have hd := Ext_drew hd0
      have xd := xr.trans (Ext_drew (Ext.refl (wr.alloc (.cells #[.string r.nm, .int .i64 r.kind, .int .i64 r.size, .bool r.little, .slice Ab r.bytes.length cb, .slice An r.names.length cn, .slice At r.tags.length ct, .slice Ak r.kids.length ck] 76))))
      have cv : _ = some v := (hbo.out.ext xd).cell 0
      have hbx := Lib.hid ((Box.new wr #[.string r.nm, .int .i64 r.kind, .int .i64 r.size, .bool r.little, .slice Ab r.bytes.length cb, .slice An r.names.length cn, .slice At r.tags.length ct, .slice Ak r.kids.length ck] 76).ext (Ext_drew (Ext.refl (wr.alloc (.cells #[.string r.nm, .int .i64 r.kind, .int .i64 r.size, .bool r.little, .slice Ab r.bytes.length cb, .slice An r.names.length cn, .slice At r.tags.length ct, .slice Ak r.kids.length ck] 76)))))
      have cx := hbx.out.cell
      have HS := Lib.hid hs; have hzk := Lib.hid hzk
      have hbod := Lib.hid (hbo.out.ext xd)
      have hodd := Lib.hid (hod.out.ext xd)
      have hg3w := hbo.out.lt
      have hszd : Hid (W0.heap.size ≤ (wr.alloc (.cells #[.string r.nm, .int .i64 r.kind, .int .i64 r.size, .bool r.little, .slice Ab r.bytes.length cb, .slice An r.names.length cn, .slice At r.tags.length ct, .slice Ak r.kids.length ck] 76)).drew.heap.size) := by show _ ≤ _; rw [size_drew, World.size_alloc]; omega
      clear hs
      have b1 : (0 : Int) ≤ (k : Int) := by omega
      have b2 : (k : Int) < (ds.length : Int) := by omega
      go_wp2_with fail
      go_region_law (first
        | (go_simp; go_at_call 111; refine (C.out _ (HS.out.ext hd)).mono ?_; rintro _ w2 ⟨vb, vn, vt, vk, rfl, hro, hfr, he2⟩; have hro := Lib.hid hro; have hfr := Lib.hid hfr; have hbo3 := Lib.hid ((hbod.out.ext he2).ext (Ext_alloc (.cells #[.string r.nm, .int .i64 r.kind, .int .i64 r.size, .bool r.little, vb, vn, vt, vk] 76) (Ext.refl w2))); have c2 : _ = some v := (hbod.out.ext he2).cell 0; have c3 : _ = some v := hbo3.out.cell 0; have hsz2 : Hid (W0.heap.size ≤ (w2.alloc (.cells #[.string r.nm, .int .i64 r.kind, .int .i64 r.size, .bool r.little, vb, vn, vt, vk] 76)).heap.size) := (by have h1 := he2.size; have h2 := hszd.out; show _ ≤ _; rw [World.size_alloc]; omega); have hone := Lib.hid (vals_cells_one _ hro.out (szRl_short hzk.out).1); have hNv : Hid (v.ownBlock ≠ some w1.heap.size) := hnf.out v (List.mem_cons_self ..))
        | (refine step_app8 rfl (.tmp 19) (.tmp 22) _ rfl E_rule W0 (w2.alloc (.cells #[.string r.nm, .int .i64 r.kind, .int .i64 r.size, .bool r.little, vb, vn, vt, vk] 76)) v ps.length (ps.flatMap RV.cells) rfl (Own.ext (Own.ext hodd.out.row he2) (Ext_alloc _ (Ext.refl _))) hsz2.out ⟨w2.heap.size, 0, none⟩ 1 1 (RV.cells ⟨r, vb, vn, vt, vk⟩) rfl rfl (fun j u hu => (World.cell?_alloc_at' w2 (RV.cells ⟨r, vb, vn, vt, vk⟩) 76 j).trans hu) hone.out (by simp [maxLen]; omega) (by omega) ?_; intro v4 w4 ho4 hg4 hv4; have hbo4 := Lib.hid (Box.moved (hbo3.out) hg4 hNv.out); have c4 := hbo4.out.cell 0; have f4 := hbo4.out.free 0; have HO4 := Lib.hid (OwnD.snoc hodd.out he2 hro.out hfr.out hszd.out ho4 hg4 hv4); have HG4 := Lib.hid hg4; have HV4 := Lib.hid hv4; clear ho4 hg4 hv4; obtain ⟨A4, q4, hA4⟩ := HO4.out.shape; replace hA4 : v4 = .slice A4 (ps.length + 1) q4 := (by rw [hA4, List.length_append]; rfl); subst hA4))
      all_goals
        have hW := HSA.out
        have x3 := Ext_alloc (.cells #[.string r.nm, .int .i64 r.kind, .int .i64 r.size, .bool r.little, vb, vn, vt, vk] 76) (Ext.refl w2)
        have bV : ∀ g, v.ownBlock = some g → w.heap.size + 2 ≤ g := fun g hg => by have := (hod.out.block v (List.mem_cons_self ..) g hg).1; omega
        have e4 := ((hd.trans he2).trans x3).grown HG4.out (fun g hg => by have := bV g hg; omega)
        have P5 : Hid (Box (w4.setCell ⟨w1.heap.size, 0, none⟩ (.slice A4 (ps.length + 1) q4)) w.heap.size #[.slice (some ⟨b, off, none⟩) ds.length c] 38) := (((hbp.out.ext (xd.trans he2)).ext x3).moved HG4.out (fun hh => by have := bV _ hh; omega)).other (by omega) 0 _
        have R5 : Hid (Box (w4.setCell ⟨w1.heap.size, 0, none⟩ (.slice A4 (ps.length + 1) q4)) (w.heap.size + 1) #[.slice none 0 0] 38) := (((hbr.out.ext (xd.trans he2)).ext x3).moved HG4.out (fun hh => by have := bV _ hh; omega)).other (by omega) 0 _
        have O5 : Hid (Box (w4.setCell ⟨w1.heap.size, 0, none⟩ (.slice A4 (ps.length + 1) q4)) w1.heap.size #[.slice A4 (ps.length + 1) q4] 38) := hbo4.out.set 0 (.slice A4 (ps.length + 1) q4)
        have NF5 : Hid (∀ u ∈ (Value.slice A4 (ps.length + 1) q4) :: (ps ++ [(⟨r, vb, vn, vt, vk⟩ : RV)]).flatMap RV.vals, u.ownBlock ≠ some w1.heap.size) := by
          intro u hu hh
          have hx2 := he2.size
          rw [size_drew, World.size_alloc] at hx2
          rcases List.mem_cons.1 hu with rfl | hu
          · rcases HV4.out with h4 | h4
            · rw [h4] at hh; exact hNv.out hh
            · rw [h4] at hh; injection hh with hh; rw [World.size_alloc] at hh; omega
          · rw [List.flatMap_append] at hu
            rcases List.mem_append.1 hu with hu | hu
            · exact hnf.out u (List.mem_cons_of_mem _ hu) hh
            · rw [List.flatMap_cons, List.flatMap_nil, List.append_nil] at hu
              have h4 := (hro.out.block u hu _ hh).1
              rw [size_drew, World.size_alloc] at h4; omega
        have D5 : Hid (OwnD W0 (w4.setCell ⟨w1.heap.size, 0, none⟩ (.slice A4 (ps.length + 1) q4)) (.slice A4 (ps.length + 1) q4) (ps ++ [⟨r, vb, vn, vt, vk⟩])) := HO4.out.keep (grown_set w4 ⟨w1.heap.size, 0, none⟩ _) (fun u hu g hg hh => by injection hh with hh; subst hh; exact NF5.out u hu hg)
        have E5 : Hid (Ext w (w4.setCell ⟨w1.heap.size, 0, none⟩ (.slice A4 (ps.length + 1) q4))) := e4.setCell (p := ⟨w1.heap.size, 0, none⟩) (by show w.heap.size ≤ w1.heap.size; omega) _
        have S5 : Hid (W0.heap.size ≤ (w4.setCell ⟨w1.heap.size, 0, none⟩ (.slice A4 (ps.length + 1) q4)).heap.size) := by
          have h1 := HG4.out.size; have h2 := hsz2.out
          show _ ≤ _; simp only [World.size_setCell]; omega
        have N5 : Hid (rulesOf (ps ++ [⟨r, vb, vn, vt, vk⟩]) = ds.take (k + 1)) := by show _ = _; rw [rulesOf_append, hps.out, HT.out]; rfl
        clear hW x3 bV e4
        go_wp2
        go_roundw
        case rel => exact ⟨k + 1, ps ++ [⟨r, vb, vn, vt, vk⟩], _, by omega, by go_num, by simp; omega, by simp; omega, N5, D5, P5, R5, O5, NF5, E5.out, S5.out⟩
        case measure => simp [intOf]; omega
    · obtain rfl : k = ds.length := by omega
      obtain ⟨A5, c5, hA5⟩ := hod.out.shape
      subst hA5
      have hN : rulesOf ps = ds := by rw [hps.out, List.take_length]
      have HN := Lib.hid hN
      have cv : _ = some (Value.slice A5 ps.length c5) := hbo.out.cell 0
      have cr : _ = some (Value.slice none 0 0) := hbr.out.cell 0
      have fr := hbr.out.free 0
      have G := grown_set wr ⟨w.heap.size + 1, 0, none⟩ (.slice A5 ps.length c5)
      have D5 : Hid (OwnD w (wr.setCell ⟨w.heap.size + 1, 0, none⟩ (.slice A5 ps.length c5)) (.slice A5 ps.length c5) ps) := (hod.out.keep G (fun u hu g hg hh => by have h1 := (hod.out.block u hu g hg).1; have := HSA.out; injection hh with hh; simp at hh; omega)).down (by have := HSA.out; omega)
      have E5 : Hid (Ext w (wr.setCell ⟨w.heap.size + 1, 0, none⟩ (.slice A5 ps.length c5))) := he.setCell (p := ⟨w.heap.size + 1, 0, none⟩) (by show w.heap.size ≤ w.heap.size + 1; omega) _
      have z5 : (wr.setCell ⟨w.heap.size + 1, 0, none⟩ (.slice A5 ps.length c5)).cell? ⟨w.heap.size + 1, 0, none⟩ = some (.slice A5 ps.length c5) := World.cell?_setCell_same _ _ _ cr
      clear hN G
      go_wp2
      exact bodyPost_ret (v := .agg #[.slice A5 ps.length c5]) (by simp [results, Try.results63, go_sem, z5]) rfl ⟨_, ps, rfl, HN.out, D5.out, E5.out⟩
end Go.Proofs.Ytlaejcacembjiaa

/- The laws' copies of registries. -/
namespace Go.Proofs.Ytlaejcacembjiaa
open Go.RowKit Go.Sort

theorem E_desc : Elem Try.prog 30 38 1 24 (.agg #[.slice none 0 0]) := ⟨Try.underlying30, by kernel_rfl, rfl, by omega⟩
theorem descsOf_append (a b : List (Value × List RV)) : descsOf (a ++ b) = descsOf a ++ descsOf b := by simp [descsOf]
set_option maxRecDepth 100000 in
set_option maxHeartbeats 4000000 in
theorem toDescriptionS_c (A : Option Addr) (ds : List (List DRule)) (c : Nat) (w : World) (h : RdG w A ds c) (hz : szG ds ≤ 1048576) :
    Calls Try.prog 58 #[.slice A ds.length c] w fun e w' => ∃ v qs, e = .returned v ∧ descsOf qs = ds ∧ OwnG w w' v qs ∧ Ext w w' := by
  have hn : ds.length ≤ 1048576 := by unfold szG at hz; omega
  have HZ : Hid (∀ k (hk : k < ds.length), szD ds[k] ≤ 1048576) := fun k hk => szG_mem hz (List.getElem_mem hk)
  go_enter Try.func58, Try.ntmps58
  go_wp2_with (first
    | (at_make; refine wpList_mk rfl _ _ _ rfl E_desc w w (Ext.refl w) ds.length rfl rfl (by omega) (by simp [maxLen]; omega) ?_; intro w1 ho he _))
  have hw1 : w.heap.size < w1.heap.size := (World.ownsRow.lt ho _ rfl).2
  obtain ⟨rest0, HR0, HO⟩ : ∃ rest0 : List Value, Hid (rest0.length = ds.length) ∧ Hid (Own 38 1 w w1 (.slice (some ⟨w.heap.size, 0, none⟩) ds.length ds.length) ds.length rest0) := ⟨_, by show _ = _; rw [Array.length_toList, size_madeCells, Nat.mul_one], ho⟩
  clear ho
  go_loopw [4] (fun i wr => ∃ (k : Nat) (qs : List (Value × List RV)) (rest : List Value), k ≤ ds.length ∧ i = .int .i64 k ∧ qs.length ≤ k ∧ k ≤ qs.length ∧ Hid (descsOf qs = ds.take k) ∧ Hid (rest.length = ds.length - k) ∧ Hid (Own 38 1 w wr (.slice (some ⟨w.heap.size, 0, none⟩) ds.length ds.length) ds.length (qs.map Prod.fst ++ rest)) ∧ Hid (∀ q ∈ qs, OwnD w1 wr q.1 q.2) ∧ Hid (Far (qs.flatMap fun q => q.1 :: q.2.flatMap RV.vals)) ∧ Ext w wr ∧ w1.heap.size ≤ wr.heap.size) (fun i _ => ds.length - (intOf i).toNat)
  case atStart => exact ⟨0, [], rest0, by omega, rfl, by simp, by simp, by simp [Hid, descsOf], by simpa [Hid] using HR0.out, by simpa [Hid] using HO.out, by simp [Hid], Far.nil, he, Nat.le_refl _⟩
  case round =>
    clear HO HR0 rest0 he
    obtain ⟨k, qs, rest, hk, rfl, hl1, hl2, hps, hrest, ho, hq, hfar, he, hsz⟩ := hrel
    by_cases hlt : k < ds.length
    · obtain ⟨b, off, A1, c1, rfl, hb, hs, hr⟩ := h.at k hlt
      have hzk := HZ.out k hlt
      have HT : Hid (ds.take (k+1) = ds.take k ++ [ds[k]]) := List.take_succ_eq_append_getElem hlt
      generalize ds[k] = r at *
      have C := Lib.hid (fun w h => toDescription_c A1 r c1 w h hzk)
      unfold vdesc at C
      clear h
      go_wp2_with fail
      refine (C.out _ (hs.ext he)).mono ?_; rintro _ w2 ⟨v2, ps, rfl, hpr, hro, he2⟩
      obtain ⟨A2, c2, rfl⟩ := hro.shape
      have ho2 := Own.ext ho.out he2
      have hln : (qs.map Prod.fst ++ rest).length = ds.length := by have := ho2.1; omega
      have hlr := hrest.out
      have hpl : qs.length = k := by omega
      obtain ⟨⟨u0, hu0⟩, hf0⟩ := ho2.slot k (by rw [hln]; omega)
      obtain ⟨hO, hE⟩ := Own.store ho2 (he.trans he2) k (.slice A2 ps.length c2)
      have hG := grown_set w2 ⟨w.heap.size, k, none⟩ (.slice A2 ps.length c2)
      have HO : Hid (Own 38 1 w (w2.setCell ⟨w.heap.size, k, none⟩ (.slice A2 ps.length c2)) (.slice (some ⟨w.heap.size, 0, none⟩) ds.length ds.length) ds.length ((qs ++ [(Value.slice A2 ps.length c2, ps)]).map Prod.fst ++ rest.drop 1)) := by
        show Own _ _ _ _ _ _ _
        have : (qs.map Prod.fst ++ rest).set k (.slice A2 ps.length c2) = (qs ++ [(Value.slice A2 ps.length c2, ps)]).map Prod.fst ++ rest.drop 1 := by
          rw [List.set_append_right _ _ (by simp; omega)]
          match rest, hlr with
          | [], hh => simp at hh; omega
          | a :: t, _ => simp [show k - qs.length = 0 by omega]
        rw [← this]; exact hO
      have HE := Lib.hid hE; have HG := Lib.hid hG; have HRO := Lib.hid hro; have HPL := Lib.hid hpl; have HLR := Lib.hid hlr; have HPR := Lib.hid hpr
      have hsz2 := he2.size
      clear ho2 hO hE hG hro hpl hlr ho hpr
      go_wp2
      go_roundw
      case rel =>
        refine ⟨k+1, qs ++ [(.slice A2 ps.length c2, ps)], rest.drop 1, by omega, by go_num, by simp; omega, by simp; omega, ?_, ?_, HO, ?_, ?_, HE.out, ?_⟩
        · show _ = _; rw [descsOf_append, hps.out, HT.out, ← HPR.out]; rfl
        · show _ = _; rw [List.length_drop, HLR.out]; omega
        · intro q hq'
          rcases List.mem_append.1 hq' with hq' | hq'
          · exact ((hq.out q hq').ext he2).keep HG.out (fun v hv g hg he' => by have := (hq.out q hq').block v hv g hg; injection he' with he'; omega)
          · obtain rfl := List.mem_singleton.1 hq'
            exact (HRO.out.keep HG.out (fun v hv g hg he' => by have := HRO.out.block v hv g hg; injection he' with he'; omega)).down hsz
        · show Far _
          rw [List.flatMap_append, List.flatMap_cons, List.flatMap_nil, List.append_nil]
          refine Far.append hfar.out HRO.out.far ?_
          intro u hu v hv g h1 h2
          obtain ⟨p, hp, hu⟩ := List.mem_flatMap.1 hu
          have := (hq.out p hp).block u hu g h1
          have := HRO.out.block v hv g h2
          omega
        · first | exact Nat.le_trans (Nat.le_trans hsz hsz2) HG.out.size | exact Nat.le_trans hsz hsz2
      case measure => simp [intOf]; omega
    · obtain rfl : k = ds.length := by omega
      go_wp2
      go_ret
      have hr0 : rest = [] := List.eq_nil_of_length_eq_zero (by have := hrest.out; omega)
      have hlen : qs.length = ds.length := by omega
      refine ⟨_, qs, rfl, ?_, ⟨?_, ?_, ?_⟩, he⟩
      · have := hps.out; rwa [List.take_length] at this
      · have := ho.out; rw [hr0, List.append_nil] at this; rw [hlen]; exact this
      · exact fun p hp => (hq.out p hp).down (by omega)
      · refine Far.cons hfar.out ?_
        intro u hu g h1 h2
        obtain ⟨p, hp, hu⟩ := List.mem_flatMap.1 hu
        have := (hq.out p hp).block u hu g h2
        have h1' : w.heap.size = g := by simpa [Value.ownBlock] using h1
        omega
set_option maxRecDepth 100000 in
set_option maxHeartbeats 1000000 in
theorem toRegistry_c (A : Option Addr) (ds : List (List DRule)) (c : Nat) (w : World) (h : RdG w A ds c) (hz : szG ds ≤ 1048576) :
    Calls Try.prog 13 #[vdesc (.slice A ds.length c)] w fun e w' => ∃ v qs, e = .returned (vdesc v) ∧ descsOf qs = ds ∧ OwnG w w' v qs ∧ Ext w w' := by
  have C := Lib.hid (fun w h => toDescriptionS_c A ds c w h hz)
  obtain ⟨W0, HW0, HA, HR, HO, eA, hsA⟩ := boxes3' w #[.slice A ds.length c] #[.slice none 0 0] #[.slice none 0 0] 24 32 32
  have HSA := Lib.hid hsA; clear hsA
  have HA0 := Lib.hid HA; have HR0 := Lib.hid HR; have HO0 := Lib.hid HO; clear HA HR HO
  unfold vdesc
  go_enter Try.func13, Try.ntmps13
  go_wp2_with fail
  rw [← HW0.out]
  refine (C.out _ (h.ext eA)).mono ?_; rintro _ w1 ⟨v1, qs, rfl, hps, ho1, he1⟩
  obtain ⟨A1, c1, rfl⟩ := ho1.shape
  have p1 := (HO0.out.ext he1).cell; have q1 := (HO0.out.ext he1).free
  have r1 := (HR0.out.ext he1).cell; have t1 := (HR0.out.ext he1).free
  have HP := Lib.hid hps; have HO1 := Lib.hid ho1
  have hs1 := he1.size
  clear hps ho1
  go_wp2
  have z0 := HSA.out
  refine bodyPost_ret (v := .agg #[.slice A1 qs.length c1]) (by simp [results, Try.results13, go_sem, p1, q1, r1, t1]) rfl ⟨_, qs, rfl, HP.out, ?_, ?_⟩
  · refine ((HO1.out.keep (grown_set _ ⟨w.heap.size + 1 + 1, 0, none⟩ _) ?_).keep (grown_set _ ⟨w.heap.size + 1, 0, none⟩ _) ?_).down (by omega)
    · intro u hu g hg he'; have := HO1.out.block u hu g hg; injection he' with he'; simp only at he'; omega
    · intro u hu g hg he'; have := HO1.out.block u hu g hg; injection he' with he'; simp only at he'; omega
  · exact ((eA.trans he1).setCell (by simp; omega) _).setCell (by simp) _
end Go.Proofs.Ytlaejcacembjiaa

/- Min, Max, InRange. -/
namespace Go.Proofs.Ytlaejcacembjiaa
open Go.RowKit Go.Sort

set_option maxHeartbeats 400000 in
theorem iMinLess_c (a b : Int) (w : World) : Gives Try.prog 155 #[.int .i64 a, .int .i64 b] w (.bool (decide (a < b))) := by
  go_enter Try.func155, Try.ntmps155
  go_wp2
  go_ret
  exact ⟨rfl, Ext.refl _⟩

set_option maxHeartbeats 400000 in
theorem iMaxMore_c (a b : Int) (w : World) : Gives Try.prog 156 #[.int .i64 a, .int .i64 b] w (.bool (decide (b < a))) := by
  go_enter Try.func156, Try.ntmps156
  go_wp2
  go_ret
  exact ⟨rfl, Ext.refl _⟩
set_option maxHeartbeats 400000 in
theorem iInRange_c (n a b : Int) (w : World) : Gives Try.prog 109 #[.int .i64 n, .int .i64 a, .int .i64 b] w (.bool (decide (a ≤ n) && decide (n ≤ b))) := by
  by_cases h : a ≤ n
  · go_enter Try.func109, Try.ntmps109
    go_wp2
    go_ret
    exact ⟨ret_bool (by simp [h]), Ext.refl _⟩
  · go_enter Try.func109, Try.ntmps109
    go_wp2
    go_ret
    exact ⟨ret_bool (by simp; omega), Ext.refl _⟩
set_option maxHeartbeats 400000 in
theorem sMin_c (a b : Int) (w : World) : Gives Try.prog 122 #[.int .i64 a, .int .i64 b] w (.int .i64 (if b < a then b else a)) := by
  by_cases h : b < a
  · have H : Hid ((if b < a then b else a) = b) := if_pos h
    rw [H.out]
    go_enter Try.func122, Try.ntmps122
    go_wp2
    go_ret
    exact ⟨rfl, Ext.refl _⟩
  · have H : Hid ((if b < a then b else a) = a) := if_neg h
    rw [H.out]
    go_enter Try.func122, Try.ntmps122
    go_wp2
    go_ret
    exact ⟨rfl, Ext.refl _⟩

set_option maxHeartbeats 400000 in
theorem sMax_c (a b : Int) (w : World) : Gives Try.prog 121 #[.int .i64 a, .int .i64 b] w (.int .i64 (if a < b then b else a)) := by
  by_cases h : a < b
  · have H : Hid ((if a < b then b else a) = b) := if_pos h
    rw [H.out]
    go_enter Try.func121, Try.ntmps121
    go_wp2
    go_ret
    exact ⟨rfl, Ext.refl _⟩
  · have H : Hid ((if a < b then b else a) = a) := if_neg h
    rw [H.out]
    go_enter Try.func121, Try.ntmps121
    go_wp2
    go_ret
    exact ⟨rfl, Ext.refl _⟩
set_option maxHeartbeats 1000000 in
theorem pickMin_c (a b : Int) (g : Nat) (w : World) (hc : ∀ w', Ext w w' → w'.cell? ⟨g, 0, none⟩ = some (.int .i64 b)) :
    Gives Try.prog 154 #[.func (.func 155) #[] #[], .int .i64 a, .slice (some ⟨g, 0, none⟩) 1 1] w (.int .i64 (if b < a then b else a)) := by
  go_enter Try.func154, Try.ntmps154
  go_wp2_with fail
  go_loopw [1, 11] (fun t i wr => ∃ k : Nat, k ≤ 1 ∧ i = .int .i64 k ∧ t = .int .i64 (if k = 0 then a else if b < a then b else a) ∧ Ext w wr) (fun _ i _ => 1 - (intOf i).toNat)
  case atStart => exact ⟨0, by omega, rfl, rfl, Ext.refl _⟩
  case round =>
    obtain ⟨k, hk, rfl, rfl, he⟩ := hrel
    rcases (by omega : k = 0 ∨ k = 1) with rfl | rfl
    · by_cases h : b < a
      · have H : Hid ((if b < a then b else a) = b) := if_pos h
        have hd : decide (b < a) = true := decide_eq_true h
        rw [H.out]
        go_wp2_with (go_at_call 155; refine (iMinLess_c _ _ _).mono ?_; rintro _ w1 ⟨rfl, he1⟩; rw [hd])
        go_roundw
        case rel => exact ⟨1, by omega, by go_num, rfl, he.trans he1⟩
        case measure => simp [intOf]
      · have H : Hid ((if b < a then b else a) = a) := if_neg h
        have hd : decide (b < a) = false := decide_eq_false h
        rw [H.out]
        go_wp2_with (go_at_call 155; refine (iMinLess_c _ _ _).mono ?_; rintro _ w1 ⟨rfl, he1⟩; rw [hd])
        go_roundw
        case rel => exact ⟨1, by omega, by go_num, rfl, he.trans he1⟩
        case measure => simp [intOf]
    · by_cases h : b < a
      · have H : Hid ((if b < a then b else a) = b) := if_pos h
        rw [H.out]
        go_wp2
        go_ret
        exact ⟨rfl, he⟩
      · have H : Hid ((if b < a then b else a) = a) := if_neg h
        rw [H.out]
        go_wp2
        go_ret
        exact ⟨rfl, he⟩

set_option maxHeartbeats 1000000 in
theorem pickMax_c (a b : Int) (g : Nat) (w : World) (hc : ∀ w', Ext w w' → w'.cell? ⟨g, 0, none⟩ = some (.int .i64 b)) :
    Gives Try.prog 154 #[.func (.func 156) #[] #[], .int .i64 a, .slice (some ⟨g, 0, none⟩) 1 1] w (.int .i64 (if a < b then b else a)) := by
  go_enter Try.func154, Try.ntmps154
  go_wp2_with fail
  go_loopw [1, 11] (fun t i wr => ∃ k : Nat, k ≤ 1 ∧ i = .int .i64 k ∧ t = .int .i64 (if k = 0 then a else if a < b then b else a) ∧ Ext w wr) (fun _ i _ => 1 - (intOf i).toNat)
  case atStart => exact ⟨0, by omega, rfl, rfl, Ext.refl _⟩
  case round =>
    obtain ⟨k, hk, rfl, rfl, he⟩ := hrel
    rcases (by omega : k = 0 ∨ k = 1) with rfl | rfl
    · by_cases h : a < b
      · have H : Hid ((if a < b then b else a) = b) := if_pos h
        have hd : decide (a < b) = true := decide_eq_true h
        rw [H.out]
        go_wp2_with (go_at_call 156; refine (iMaxMore_c _ _ _).mono ?_; rintro _ w1 ⟨rfl, he1⟩; rw [hd])
        go_roundw
        case rel => exact ⟨1, by omega, by go_num, rfl, he.trans he1⟩
        case measure => simp [intOf]
      · have H : Hid ((if a < b then b else a) = a) := if_neg h
        have hd : decide (a < b) = false := decide_eq_false h
        rw [H.out]
        go_wp2_with (go_at_call 156; refine (iMaxMore_c _ _ _).mono ?_; rintro _ w1 ⟨rfl, he1⟩; rw [hd])
        go_roundw
        case rel => exact ⟨1, by omega, by go_num, rfl, he.trans he1⟩
        case measure => simp [intOf]
    · by_cases h : a < b
      · have H : Hid ((if a < b then b else a) = b) := if_pos h
        rw [H.out]
        go_wp2
        go_ret
        exact ⟨rfl, he⟩
      · have H : Hid ((if a < b then b else a) = a) := if_neg h
        rw [H.out]
        go_wp2
        go_ret
        exact ⟨rfl, he⟩
set_option maxHeartbeats 1000000 in
theorem iMin_c (a b : Int) (w : World) : Gives Try.prog 123 #[.int .i64 a, .int .i64 b] w (.int .i64 (if b < a then b else a)) := by
  have C := Lib.hid (fun g w hc => pickMin_c a b g w hc)
  generalize (if b < a then b else a) = r at *
  go_enter Try.func123, Try.ntmps123
  go_wp2_with fail
  refine (C.out _ _ (fun w' e => boxed e 0)).mono ?_
  rintro _ w1 ⟨rfl, he⟩
  go_wp2
  go_ret
  exact ⟨rfl, (Ext_alloc _ (Ext.refl w)).trans he⟩

set_option maxHeartbeats 1000000 in
theorem iMax_c (a b : Int) (w : World) : Gives Try.prog 124 #[.int .i64 a, .int .i64 b] w (.int .i64 (if a < b then b else a)) := by
  have C := Lib.hid (fun g w hc => pickMax_c a b g w hc)
  generalize (if a < b then b else a) = r at *
  go_enter Try.func124, Try.ntmps124
  go_wp2_with fail
  refine (C.out _ _ (fun w' e => boxed e 0)).mono ?_
  rintro _ w1 ⟨rfl, he⟩
  go_wp2
  go_ret
  exact ⟨rfl, (Ext_alloc _ (Ext.refl w)).trans he⟩
end Go.Proofs.Ytlaejcacembjiaa

/- MergeCoverage of the program and of the reference. -/
namespace Go.Proofs.Ytlaejcacembjiaa
open Go.RowKit Go.Sort

set_option maxHeartbeats 400000 in
theorem eqIntS_c (A A' : Option Addr) (l l' : List Int) (c c' : Nat) (w : World) (h : Is w A l c) (h' : Is w A' l' c') :
    Gives Try.prog 151 #[.slice A l.length c, .slice A' l'.length c'] w (.bool (l == l')) := by
  have hl := h.len; have hl' := h'.len
  by_cases hn : l.length = l'.length
  · have hb1 : ((l.length : Int) != (l'.length : Int)) = false := by simp [hn]
    have H := Lib.hid hn; clear hn
    go_enter Try.func151, Try.ntmps151
    go_wp2
    go_loopw [5, 4] (fun i v wr => ∃ k : Nat, k ≤ l.length ∧ i = .int .i64 k ∧ Hid (l.take k = l'.take k) ∧ Ext w wr) (fun i _ _ => l.length - (intOf i).toNat)
    case atStart => exact ⟨0, by omega, rfl, by simp [Hid], Ext.refl _⟩
    case round =>
      obtain ⟨k, hk, rfl, ht, he⟩ := hrel
      by_cases hlt : k < l.length
      · have hlt' : k < l'.length := by have := H.out; omega
        obtain ⟨b, off, rfl, hb, hc⟩ := h.at k hlt
        obtain ⟨b', off', rfl, hb', hc'⟩ := h'.at k hlt'
        clear h h'
        go_wp2
        refine wp_region_quiet_below (by kernel_rfl) (by kernel_rfl) ?_
        repeat (go_big_quiet_step (fail))
        refine wpQuiet_nil ?_
        rintro _ ⟨⟨nq, osq⟩, rfl⟩
        go_wp2
        · have hne : (l[k] != l'[k]) = true := by assumption
          go_ret
          refine ⟨ret_bool ?_, Ext_regrown _ _ he⟩
          symm; rw [beq_eq_false_iff_ne]; rintro rfl; simp at hne
        · have hne : (l[k] != l'[k]) = false := by assumption
          go_roundw
          case rel => exact ⟨k+1, by omega, by go_num, take_eq_succ hlt hlt' ht (by simpa using hne), Ext_regrown _ _ he⟩
          case measure => simp [intOf]; omega
      · go_wp2
        go_ret
        refine ⟨ret_bool ?_, he⟩
        have ht := ht.out; have H := H.out
        rw [List.take_of_length_le (by omega), List.take_of_length_le (by omega)] at ht
        simp [ht]
  · have hb1 : ((l.length : Int) != (l'.length : Int)) = true := by simp; omega
    go_enter Try.func151, Try.ntmps151
    go_wp2
    go_ret
    refine ⟨ret_bool ?_, Ext.refl _⟩
    symm; rw [beq_eq_false_iff_ne]; rintro rfl; exact hn rfl

def at0 (l : List Int) (i : Nat) : Int := l.getD i 0
theorem at0_in {l : List Int} {i : Nat} (h : i < l.length) : at0 l i = l[i] := by unfold at0; simp [h]
theorem at0_out {l : List Int} {i : Nat} (h : ¬ i < l.length) : at0 l i = 0 := by unfold at0; simp [List.getElem?_eq_none (Nat.le_of_not_lt h)]
def merged (a b : List Int) : List Int := (List.range (max a.length b.length)).map fun i => wrap64 (at0 a i + at0 b i)
theorem merged_len (l l' : List Int) : (merged l l').length = max l.length l'.length := by simp [merged]
theorem merged_take {l l' : List Int} {k : Nat} (hk : k < max l.length l'.length) : (merged l l').take k ++ [wrap64 (at0 l k + at0 l' k)] = (merged l l').take (k+1) := by
  have hk' : k < (merged l l').length := by rw [merged_len]; exact hk
  rw [List.take_succ_eq_append_getElem hk']
  simp [merged]
end Go.Proofs.Ytlaejcacembjiaa

/- Comparison of descriptions: the laws' helpers, the program's and the reference's. -/
namespace Go.Proofs.Ytlaejcacembjiaa
open Go.RowKit Go.Sort

def eqNm (a b : ByteArray) : Bool := a.toList == b.toList
def eqNms (l l' : List ByteArray) : Bool := l.map ByteArray.toList == l'.map ByteArray.toList
def eqR (r q : DRule) : Bool := r.nm.toList == q.nm.toList && r.kind == q.kind && r.size == q.size && r.little == q.little && r.bytes == q.bytes && eqNms r.names q.names && r.tags == q.tags && r.kids == q.kids
def eqAll {α : Type} (f : α → α → Bool) : List α → List α → Bool
  | [], [] => true
  | a :: s, b :: t => f a b && eqAll f s t
  | _, _ => false
theorem eqAll_len {α : Type} (f : α → α → Bool) : ∀ (s t : List α), s.length ≠ t.length → eqAll f s t = false
  | [], [], h => absurd rfl h
  | [], _ :: _, _ => rfl
  | _ :: _, [], _ => rfl
  | a :: s, b :: t, h => by rw [eqAll, eqAll_len f s t (by simpa using h), Bool.and_false]
theorem eqAll_take {α : Type} (f : α → α → Bool) : ∀ (s t : List α) (k : Nat) (h1 : k < s.length) (h2 : k < t.length), f s[k] t[k] = false → eqAll f s t = false
  | a :: s, b :: t, 0, _, _, h => by rw [eqAll]; simp at h; rw [h]; rfl
  | a :: s, b :: t, k + 1, h1, h2, h => by rw [eqAll, eqAll_take f s t k (by simpa using h1) (by simpa using h2) (by simpa using h), Bool.and_false]
theorem eqAll_all {α : Type} (f : α → α → Bool) : ∀ (s t : List α), s.length = t.length → (∀ k (h1 : k < s.length) (h2 : k < t.length), f s[k] t[k] = true) → eqAll f s t = true
  | [], [], _, _ => rfl
  | a :: s, b :: t, hl, h => by
    rw [eqAll, eqAll_all f s t (by simpa using hl) (fun k h1 h2 => by have := h (k+1) (by simpa using h1) (by simpa using h2); simpa using this)]
    have := h 0 (by simp) (by simp); simp at this; rw [this]; rfl
  | [], _ :: _, h, _ => by simp at h
  | _ :: _, [], h, _ => by simp at h
theorem eqAll_refl {α : Type} (f : α → α → Bool) (s : List α) (h : ∀ a ∈ s, f a a = true) : eqAll f s s = true := eqAll_all f s s rfl (fun k h1 _ => h _ (List.getElem_mem h1))
def eqD (s t : List DRule) : Bool := eqAll eqR s t
def eqG (s t : List (List DRule)) : Bool := eqAll eqD s t
theorem eqNms_refl (l : List ByteArray) : eqNms l l = true := by simp [eqNms]
theorem eqR_refl (r : DRule) : eqR r r = true := by simp [eqR, eqNms_refl]
theorem eqD_refl (s : List DRule) : eqD s s = true := eqAll_refl _ _ (fun a _ => eqR_refl a)
theorem eqG_refl (s : List (List DRule)) : eqG s s = true := eqAll_refl _ _ (fun a _ => eqD_refl a)
end Go.Proofs.Ytlaejcacembjiaa

/- Comparison of descriptions: the laws' helpers, the program's and the reference's. -/
namespace Go.Proofs.Ytlaejcacembjiaa
open Go.RowKit Go.Sort

theorem eqNms_take {l l' : List ByteArray} {k : Nat} (h1 : k < l.length) (h2 : k < l'.length) (h : (l.take k).map ByteArray.toList = (l'.take k).map ByteArray.toList) (e : (l[k].toList == l'[k].toList) = true) : (l.take (k+1)).map ByteArray.toList = (l'.take (k+1)).map ByteArray.toList := by
  rw [List.take_succ_eq_append_getElem h1, List.take_succ_eq_append_getElem h2, List.map_append, List.map_append, h]
  simp at e
  simp [e]
theorem eqNms_no {l l' : List ByteArray} {k : Nat} (h1 : k < l.length) (h2 : k < l'.length) (e : (l[k].toList == l'[k].toList) = false) : eqNms l l' = false := by
  unfold eqNms
  rw [beq_eq_false_iff_ne]
  intro h
  have h3 : (l.map ByteArray.toList)[k]? = (l'.map ByteArray.toList)[k]? := by rw [h]
  simp [h1, h2] at h3
  simp [h3] at e
set_option maxHeartbeats 400000 in
theorem eqStringS_c (A A' : Option Addr) (l l' : List ByteArray) (c c' : Nat) (w : World) (h : Rd0 vstr w A l c) (h' : Rd0 vstr w A' l' c') :
    Gives Try.prog 32 #[.slice A l.length c, .slice A' l'.length c'] w (.bool (eqNms l l')) := by
  have hl := h.len; have hl' := h'.len
  by_cases hn : l.length = l'.length
  · have hb1 : ((l.length : Int) != (l'.length : Int)) = false := by simp [hn]
    have H := Lib.hid hn; clear hn
    go_enter Try.func32, Try.ntmps32
    go_wp2
    go_loopw [5, 4] (fun i v wr => ∃ k : Nat, k ≤ l.length ∧ i = .int .i64 k ∧ Hid ((l.take k).map ByteArray.toList = (l'.take k).map ByteArray.toList) ∧ Ext w wr) (fun i _ _ => l.length - (intOf i).toNat)
    case atStart => exact ⟨0, by omega, rfl, by simp [Hid], Ext.refl _⟩
    case round =>
      obtain ⟨k, hk, rfl, ht, he⟩ := hrel
      by_cases hlt : k < l.length
      · have hlt' : k < l'.length := by have := H.out; omega
        obtain ⟨b, off, rfl, hb, hc⟩ := h.at k hlt
        obtain ⟨b', off', rfl, hb', hc'⟩ := h'.at k hlt'
        clear h h'
        go_wp2
        refine wp_region_quiet_below (by kernel_rfl) (by kernel_rfl) ?_
        repeat (go_big_quiet_step (fail))
        refine wpQuiet_nil ?_
        rintro _ ⟨⟨nq, osq⟩, rfl⟩
        go_wp2
        · have hne : (l[k].toList != l'[k].toList) = true := by assumption
          go_ret
          refine ⟨ret_bool ?_, Ext_regrown _ _ he⟩
          exact (eqNms_no hlt hlt' (by simpa using hne)).symm
        · have hne : (l[k].toList != l'[k].toList) = false := by assumption
          go_roundw
          case rel => exact ⟨k+1, by omega, by go_num, eqNms_take hlt hlt' ht.out (by simpa using hne), Ext_regrown _ _ he⟩
          case measure => simp [intOf]; omega
      · go_wp2
        go_ret
        refine ⟨ret_bool ?_, he⟩
        have ht := ht.out; have H := H.out
        rw [List.take_of_length_le (by omega), List.take_of_length_le (by omega)] at ht
        simp [eqNms, ht]
  · have hb1 : ((l.length : Int) != (l'.length : Int)) = true := by simp; omega
    go_enter Try.func32, Try.ntmps32
    go_wp2
    go_ret
    refine ⟨ret_bool ?_, Ext.refl _⟩
    symm; unfold eqNms; rw [beq_eq_false_iff_ne]; intro h2; exact hn (by have := congrArg List.length h2; simpa using this)

set_option maxHeartbeats 400000 in
theorem sameTexts_c (A A' : Option Addr) (l l' : List ByteArray) (c c' : Nat) (w : World) (h : Rd0 vstr w A l c) (h' : Rd0 vstr w A' l' c') :
    Gives Try.prog 44 #[.slice A l.length c, .slice A' l'.length c'] w (.bool (eqNms l l')) := by
  have hl := h.len; have hl' := h'.len
  by_cases hn : l.length = l'.length
  · have hb1 : ((l.length : Int) != (l'.length : Int)) = false := by simp [hn]
    have H := Lib.hid hn; clear hn
    go_enter Try.func44, Try.ntmps44
    go_wp2
    go_loopw [5, 4] (fun i v wr => ∃ k : Nat, k ≤ l.length ∧ i = .int .i64 k ∧ Hid ((l.take k).map ByteArray.toList = (l'.take k).map ByteArray.toList) ∧ Ext w wr) (fun i _ _ => l.length - (intOf i).toNat)
    case atStart => exact ⟨0, by omega, rfl, by simp [Hid], Ext.refl _⟩
    case round =>
      obtain ⟨k, hk, rfl, ht, he⟩ := hrel
      by_cases hlt : k < l.length
      · have hlt' : k < l'.length := by have := H.out; omega
        obtain ⟨b, off, rfl, hb, hc⟩ := h.at k hlt
        obtain ⟨b', off', rfl, hb', hc'⟩ := h'.at k hlt'
        clear h h'
        go_wp2
        refine wp_region_quiet_below (by kernel_rfl) (by kernel_rfl) ?_
        repeat (go_big_quiet_step (fail))
        refine wpQuiet_nil ?_
        rintro _ ⟨⟨nq, osq⟩, rfl⟩
        go_wp2
        · have hne : (l[k].toList != l'[k].toList) = true := by assumption
          go_ret
          refine ⟨ret_bool ?_, Ext_regrown _ _ he⟩
          exact (eqNms_no hlt hlt' (by simpa using hne)).symm
        · have hne : (l[k].toList != l'[k].toList) = false := by assumption
          go_roundw
          case rel => exact ⟨k+1, by omega, by go_num, eqNms_take hlt hlt' ht.out (by simpa using hne), Ext_regrown _ _ he⟩
          case measure => simp [intOf]; omega
      · go_wp2
        go_ret
        refine ⟨ret_bool ?_, he⟩
        have ht := ht.out; have H := H.out
        rw [List.take_of_length_le (by omega), List.take_of_length_le (by omega)] at ht
        simp [eqNms, ht]
  · have hb1 : ((l.length : Int) != (l'.length : Int)) = true := by simp; omega
    go_enter Try.func44, Try.ntmps44
    go_wp2
    go_ret
    refine ⟨ret_bool ?_, Ext.refl _⟩
    symm; unfold eqNms; rw [beq_eq_false_iff_ne]; intro h2; exact hn (by have := congrArg List.length h2; simpa using this)

set_option maxHeartbeats 400000 in
theorem l4Texts_c (A A' : Option Addr) (l l' : List ByteArray) (c c' : Nat) (w : World) (h : Rd0 vstr w A l c) (h' : Rd0 vstr w A' l' c') :
    Gives Try.prog 139 #[.slice A l.length c, .slice A' l'.length c'] w (.bool (eqNms l l')) := by
  have hl := h.len; have hl' := h'.len
  by_cases hn : l.length = l'.length
  · have hb1 : ((l.length : Int) != (l'.length : Int)) = false := by simp [hn]
    have H := Lib.hid hn; clear hn
    go_enter Try.func139, Try.ntmps139
    go_wp2
    go_loopw [5, 4] (fun i v wr => ∃ k : Nat, k ≤ l.length ∧ i = .int .i64 k ∧ Hid ((l.take k).map ByteArray.toList = (l'.take k).map ByteArray.toList) ∧ Ext w wr) (fun i _ _ => l.length - (intOf i).toNat)
    case atStart => exact ⟨0, by omega, rfl, by simp [Hid], Ext.refl _⟩
    case round =>
      obtain ⟨k, hk, rfl, ht, he⟩ := hrel
      by_cases hlt : k < l.length
      · have hlt' : k < l'.length := by have := H.out; omega
        obtain ⟨b, off, rfl, hb, hc⟩ := h.at k hlt
        obtain ⟨b', off', rfl, hb', hc'⟩ := h'.at k hlt'
        clear h h'
        go_wp2
        refine wp_region_quiet_below (by kernel_rfl) (by kernel_rfl) ?_
        repeat (go_big_quiet_step (fail))
        refine wpQuiet_nil ?_
        rintro _ ⟨⟨nq, osq⟩, rfl⟩
        go_wp2
        · have hne : (l[k].toList != l'[k].toList) = true := by assumption
          go_ret
          refine ⟨ret_bool ?_, Ext_regrown _ _ he⟩
          exact (eqNms_no hlt hlt' (by simpa using hne)).symm
        · have hne : (l[k].toList != l'[k].toList) = false := by assumption
          go_roundw
          case rel => exact ⟨k+1, by omega, by go_num, eqNms_take hlt hlt' ht.out (by simpa using hne), Ext_regrown _ _ he⟩
          case measure => simp [intOf]; omega
      · go_wp2
        go_ret
        refine ⟨ret_bool ?_, he⟩
        have ht := ht.out; have H := H.out
        rw [List.take_of_length_le (by omega), List.take_of_length_le (by omega)] at ht
        simp [eqNms, ht]
  · have hb1 : ((l.length : Int) != (l'.length : Int)) = true := by simp; omega
    go_enter Try.func139, Try.ntmps139
    go_wp2
    go_ret
    refine ⟨ret_bool ?_, Ext.refl _⟩
    symm; unfold eqNms; rw [beq_eq_false_iff_ne]; intro h2; exact hn (by have := congrArg List.length h2; simpa using this)
set_option maxHeartbeats 400000 in
theorem l4Ints_c (A A' : Option Addr) (l l' : List Int) (c c' : Nat) (w : World) (h : Rd0 vint w A l c) (h' : Rd0 vint w A' l' c') :
    Gives Try.prog 140 #[.slice A l.length c, .slice A' l'.length c'] w (.bool (l == l')) := by
  have hl := h.len; have hl' := h'.len
  by_cases hn : l.length = l'.length
  · have hb1 : ((l.length : Int) != (l'.length : Int)) = false := by simp [hn]
    have H := Lib.hid hn; clear hn
    go_enter Try.func140, Try.ntmps140
    go_wp2
    go_loopw [5, 4] (fun i v wr => ∃ k : Nat, k ≤ l.length ∧ i = .int .i64 k ∧ Hid (l.take k = l'.take k) ∧ Ext w wr) (fun i _ _ => l.length - (intOf i).toNat)
    case atStart => exact ⟨0, by omega, rfl, by simp [Hid], Ext.refl _⟩
    case round =>
      obtain ⟨k, hk, rfl, ht, he⟩ := hrel
      by_cases hlt : k < l.length
      · have hlt' : k < l'.length := by have := H.out; omega
        obtain ⟨b, off, rfl, hb, hc⟩ := h.at k hlt
        obtain ⟨b', off', rfl, hb', hc'⟩ := h'.at k hlt'
        clear h h'
        go_wp2
        refine wp_region_quiet_below (by kernel_rfl) (by kernel_rfl) ?_
        repeat (go_big_quiet_step (fail))
        refine wpQuiet_nil ?_
        rintro _ ⟨⟨nq, osq⟩, rfl⟩
        go_wp2
        · have hne : (l[k] != l'[k]) = true := by assumption
          go_ret
          refine ⟨ret_bool ?_, Ext_regrown _ _ he⟩
          symm; rw [beq_eq_false_iff_ne]; rintro rfl; simp at hne
        · have hne : (l[k] != l'[k]) = false := by assumption
          go_roundw
          case rel => exact ⟨k+1, by omega, by go_num, take_eq_succ hlt hlt' ht (by simpa using hne), Ext_regrown _ _ he⟩
          case measure => simp [intOf]; omega
      · go_wp2
        go_ret
        refine ⟨ret_bool ?_, he⟩
        have ht := ht.out; have H := H.out
        rw [List.take_of_length_le (by omega), List.take_of_length_le (by omega)] at ht
        simp [ht]
  · have hb1 : ((l.length : Int) != (l'.length : Int)) = true := by simp; omega
    go_enter Try.func140, Try.ntmps140
    go_wp2
    go_ret
    refine ⟨ret_bool ?_, Ext.refl _⟩
    symm; rw [beq_eq_false_iff_ne]; rintro rfl; exact hn rfl
set_option maxRecDepth 100000 in
set_option maxHeartbeats 4000000 in
theorem eqRule_c (r q : DRule) (Ab : Option Addr) (cb : Nat) (An : Option Addr) (cn : Nat) (At : Option Addr) (ct : Nat) (Ak : Option Addr) (ck : Nat) (Ab' : Option Addr) (cb' : Nat) (An' : Option Addr) (cn' : Nat) (At' : Option Addr) (ct' : Nat) (Ak' : Option Addr) (ck' : Nat) (w : World) (h : RdS w r Ab cb An cn At ct Ak ck) (h' : RdS w q Ab' cb' An' cn' At' ct' Ak' ck') (hs : ShortR r) (hs' : ShortR q) :
    Gives Try.prog 112 #[vrule r (.slice Ab r.bytes.length cb) (.slice An r.names.length cn) (.slice At r.tags.length ct) (.slice Ak r.kids.length ck), vrule q (.slice Ab' q.bytes.length cb') (.slice An' q.names.length cn') (.slice At' q.tags.length ct') (.slice Ak' q.kids.length ck')] w (.bool (eqR r q)) := by
  have eb := Ext_alloc (.cells #[.string q.nm, .int .i64 q.kind, .int .i64 q.size, .bool q.little, .slice Ab' q.bytes.length cb', .slice An' q.names.length cn', .slice At' q.tags.length ct', .slice Ak' q.kids.length ck'] 76) (Ext_alloc (.cells #[.string r.nm, .int .i64 r.kind, .int .i64 r.size, .bool r.little, .slice Ab r.bytes.length cb, .slice An r.names.length cn, .slice At r.tags.length ct, .slice Ak r.kids.length ck] 76) (Ext.refl w))
  have BX := fun w' (e : Ext ((w.alloc (.cells #[.string r.nm, .int .i64 r.kind, .int .i64 r.size, .bool r.little, .slice Ab r.bytes.length cb, .slice An r.names.length cn, .slice At r.tags.length ct, .slice Ak r.kids.length ck] 76)).alloc (.cells #[.string q.nm, .int .i64 q.kind, .int .i64 q.size, .bool q.little, .slice Ab' q.bytes.length cb', .slice An' q.names.length cn', .slice At' q.tags.length ct', .slice Ak' q.kids.length ck'] 76)) w') => boxed2 e
  have B0 := fun w' e => (BX w' e).1
  have B1 := fun w' e => (BX w' e).2.1
  clear BX
  have C5 := Lib.hid (fun w h h' => eqByteS_c Ab Ab' r.bytes q.bytes cb cb' w h h')
  have C6 := Lib.hid (fun w h h' => eqStringS_c An An' r.names q.names cn cn' w h h')
  have C7 := Lib.hid (fun w h h' => eqIntS_c At At' r.tags q.tags ct ct' w h h')
  have C8 := Lib.hid (fun w h h' => eqIntS_c Ak Ak' r.kids q.kids ck ck' w h h')
  have K5 := Lib.hid (fun w' (e : Ext w w') => C5.out w' (⟨h.b.ext e, hs.1⟩) (⟨h'.b.ext e, hs'.1⟩))
  have K6 := Lib.hid (fun w' (e : Ext w w') => C6.out w' (h.n.ext e) (h'.n.ext e))
  have K7 := Lib.hid (fun w' (e : Ext w w') => C7.out w' ⟨h.t.ext e, hs.2.2.1⟩ ⟨h'.t.ext e, hs'.2.2.1⟩)
  have K8 := Lib.hid (fun w' (e : Ext w w') => C8.out w' ⟨h.k.ext e, hs.2.2.2⟩ ⟨h'.k.ext e, hs'.2.2.2⟩)
  clear C5 C6 C7 C8 h h' hs hs'
  unfold eqR
  generalize (r.bytes == q.bytes) = q5 at *
  generalize eqNms r.names q.names = q6 at *
  generalize (r.tags == q.tags) = q7 at *
  generalize (r.kids == q.kids) = q8 at *
  obtain ⟨nm, kind, size, little, bytes, names, tags, kids⟩ := r
  obtain ⟨nm', kind', size', little', bytes', names', tags', kids'⟩ := q
  unfold vrule
  dsimp only at *
  have HB0 := Lib.hid B0; have HB1 := Lib.hid B1; have b00 := B0 _ (Ext.refl _); have b10 := B1 _ (Ext.refl _); clear B0 B1
  cases g1 : (nm.toList == nm'.toList)
  · have h1 : (nm.toList != nm'.toList) = true := by rw [bne, g1]; rfl
    go_enter Try.func112, Try.ntmps112
    go_wp2
    go_ret
    exact ⟨ret_bool (by simp), eb⟩
  have h1 : (nm.toList != nm'.toList) = false := by rw [bne, g1]; rfl
  cases g2 : (kind == kind')
  · have h2 : (kind != kind') = true := by rw [bne, g2]; rfl
    go_enter Try.func112, Try.ntmps112
    go_wp2
    go_ret
    exact ⟨ret_bool (by simp), eb⟩
  have h2 : (kind != kind') = false := by rw [bne, g2]; rfl
  cases g3 : (size == size')
  · have h3 : (size != size') = true := by rw [bne, g3]; rfl
    go_enter Try.func112, Try.ntmps112
    go_wp2
    go_ret
    exact ⟨ret_bool (by simp), eb⟩
  have h3 : (size != size') = false := by rw [bne, g3]; rfl
  cases g4 : (little == little')
  · have h4 : (little != little') = true := by rw [bne, g4]; rfl
    go_enter Try.func112, Try.ntmps112
    go_wp2
    go_ret
    exact ⟨ret_bool (by simp), eb⟩
  have h4 : (little != little') = false := by rw [bne, g4]; rfl
  go_enter Try.func112, Try.ntmps112
  go_wp2_with fail
  refine (K5.out _ eb).mono ?_; rintro _ w5 ⟨rfl, he5⟩
  have e5 := he5
  have b05 := HB0.out _ e5; have b15 := HB1.out _ e5; clear he5 b00 b10 h1 h2 h3 h4 g1 g2 g3 g4
  cases q5
  · go_wp2
    go_ret
    exact ⟨ret_bool (by simp), eb.trans e5⟩
  go_wp2_with fail
  refine (K6.out _ (eb.trans e5)).mono ?_; rintro _ w6 ⟨rfl, he6⟩
  have e6 := e5.trans he6
  have b06 := HB0.out _ e6; have b16 := HB1.out _ e6; clear he6 b05 b15 e5
  cases q6
  · go_wp2
    go_ret
    exact ⟨ret_bool (by simp), eb.trans e6⟩
  go_wp2_with fail
  refine (K7.out _ (eb.trans e6)).mono ?_; rintro _ w7 ⟨rfl, he7⟩
  have e7 := e6.trans he7
  have b07 := HB0.out _ e7; have b17 := HB1.out _ e7; clear he7 b06 b16 e6
  cases q7
  · go_wp2
    go_ret
    exact ⟨ret_bool (by simp), eb.trans e7⟩
  go_wp2_with fail
  refine (K8.out _ (eb.trans e7)).mono ?_; rintro _ w8 ⟨rfl, he8⟩
  have e8 := e7.trans he8
  have b08 := HB0.out _ e8; have b18 := HB1.out _ e8; clear he8 b07 b17 e7
  cases q8
  · go_wp2
    go_ret
    exact ⟨ret_bool (by simp), eb.trans e8⟩
  go_wp2
  go_ret
  exact ⟨ret_bool (by simp), eb.trans e8⟩
end Go.Proofs.Ytlaejcacembjiaa

/- Comparison of rules: the reference's and the program's. -/
namespace Go.Proofs.Ytlaejcacembjiaa
open Go.RowKit Go.Sort

set_option maxRecDepth 100000 in
set_option maxHeartbeats 4000000 in
theorem l4Equal_c (r q : DRule) (Ab : Option Addr) (cb : Nat) (An : Option Addr) (cn : Nat) (At : Option Addr) (ct : Nat) (Ak : Option Addr) (ck : Nat) (Ab' : Option Addr) (cb' : Nat) (An' : Option Addr) (cn' : Nat) (At' : Option Addr) (ct' : Nat) (Ak' : Option Addr) (ck' : Nat) (w : World) (h : RdS w r Ab cb An cn At ct Ak ck) (h' : RdS w q Ab' cb' An' cn' At' ct' Ak' ck') (hs : ShortR r) (hs' : ShortR q) :
    Gives Try.prog 102 #[vrule r (.slice Ab r.bytes.length cb) (.slice An r.names.length cn) (.slice At r.tags.length ct) (.slice Ak r.kids.length ck), vrule q (.slice Ab' q.bytes.length cb') (.slice An' q.names.length cn') (.slice At' q.tags.length ct') (.slice Ak' q.kids.length ck')] w (.bool (eqR r q)) := by
  have eb := Ext_alloc (.cells #[.string q.nm, .int .i64 q.kind, .int .i64 q.size, .bool q.little, .slice Ab' q.bytes.length cb', .slice An' q.names.length cn', .slice At' q.tags.length ct', .slice Ak' q.kids.length ck'] 76) (Ext_alloc (.cells #[.string r.nm, .int .i64 r.kind, .int .i64 r.size, .bool r.little, .slice Ab r.bytes.length cb, .slice An r.names.length cn, .slice At r.tags.length ct, .slice Ak r.kids.length ck] 76) (Ext.refl w))
  have BX := fun w' (e : Ext ((w.alloc (.cells #[.string r.nm, .int .i64 r.kind, .int .i64 r.size, .bool r.little, .slice Ab r.bytes.length cb, .slice An r.names.length cn, .slice At r.tags.length ct, .slice Ak r.kids.length ck] 76)).alloc (.cells #[.string q.nm, .int .i64 q.kind, .int .i64 q.size, .bool q.little, .slice Ab' q.bytes.length cb', .slice An' q.names.length cn', .slice At' q.tags.length ct', .slice Ak' q.kids.length ck'] 76)) w') => boxed2 e
  have B0 := fun w' e => (BX w' e).1
  have B1 := fun w' e => (BX w' e).2.1
  clear BX
  have C5 := Lib.hid (fun w h h' => sEqualBytes_c Ab Ab' r.bytes q.bytes cb cb' w h h')
  have C6 := Lib.hid (fun w h h' => l4Texts_c An An' r.names q.names cn cn' w h h')
  have C7 := Lib.hid (fun w h h' => l4Ints_c At At' r.tags q.tags ct ct' w h h')
  have C8 := Lib.hid (fun w h h' => l4Ints_c Ak Ak' r.kids q.kids ck ck' w h h')
  have K5 := Lib.hid (fun w' (e : Ext w w') => C5.out w' (⟨h.b.ext e, hs.1⟩) (⟨h'.b.ext e, hs'.1⟩))
  have K6 := Lib.hid (fun w' (e : Ext w w') => C6.out w' (h.n.ext e) (h'.n.ext e))
  have K7 := Lib.hid (fun w' (e : Ext w w') => C7.out w' (h.t.ext e) (h'.t.ext e))
  have K8 := Lib.hid (fun w' (e : Ext w w') => C8.out w' (h.k.ext e) (h'.k.ext e))
  clear C5 C6 C7 C8 h h' hs hs'
  unfold eqR
  generalize (r.bytes == q.bytes) = q5 at *
  generalize eqNms r.names q.names = q6 at *
  generalize (r.tags == q.tags) = q7 at *
  generalize (r.kids == q.kids) = q8 at *
  obtain ⟨nm, kind, size, little, bytes, names, tags, kids⟩ := r
  obtain ⟨nm', kind', size', little', bytes', names', tags', kids'⟩ := q
  unfold vrule
  dsimp only at *
  have HB0 := Lib.hid B0; have HB1 := Lib.hid B1; have b00 := B0 _ (Ext.refl _); have b10 := B1 _ (Ext.refl _); clear B0 B1
  cases g1 : (nm.toList == nm'.toList)
  · have h1 : (nm.toList != nm'.toList) = true := by rw [bne, g1]; rfl
    go_enter Try.func102, Try.ntmps102
    go_wp2
    go_ret
    exact ⟨ret_bool (by simp), eb⟩
  have h1 : (nm.toList != nm'.toList) = false := by rw [bne, g1]; rfl
  cases g2 : (kind == kind')
  · have h2 : (kind != kind') = true := by rw [bne, g2]; rfl
    go_enter Try.func102, Try.ntmps102
    go_wp2
    go_ret
    exact ⟨ret_bool (by simp), eb⟩
  have h2 : (kind != kind') = false := by rw [bne, g2]; rfl
  cases g3 : (size == size')
  · have h3 : (size != size') = true := by rw [bne, g3]; rfl
    go_enter Try.func102, Try.ntmps102
    go_wp2
    go_ret
    exact ⟨ret_bool (by simp), eb⟩
  have h3 : (size != size') = false := by rw [bne, g3]; rfl
  cases g4 : (little == little')
  · have h4 : (little != little') = true := by rw [bne, g4]; rfl
    go_enter Try.func102, Try.ntmps102
    go_wp2
    go_ret
    exact ⟨ret_bool (by simp), eb⟩
  have h4 : (little != little') = false := by rw [bne, g4]; rfl
  go_enter Try.func102, Try.ntmps102
  go_wp2_with fail
  refine (K5.out _ eb).mono ?_; rintro _ w5 ⟨rfl, he5⟩
  have e5 := he5
  have b05 := HB0.out _ e5; have b15 := HB1.out _ e5; clear he5 b00 b10 h1 h2 h3 h4 g1 g2 g3 g4
  cases q5
  · go_wp2
    go_ret
    exact ⟨ret_bool (by simp), eb.trans e5⟩
  go_wp2_with fail
  refine (K6.out _ (eb.trans e5)).mono ?_; rintro _ w6 ⟨rfl, he6⟩
  have e6 := e5.trans he6
  have b06 := HB0.out _ e6; have b16 := HB1.out _ e6; clear he6 b05 b15 e5
  cases q6
  · go_wp2
    go_ret
    exact ⟨ret_bool (by simp), eb.trans e6⟩
  go_wp2_with fail
  refine (K7.out _ (eb.trans e6)).mono ?_; rintro _ w7 ⟨rfl, he7⟩
  have e7 := e6.trans he7
  have b07 := HB0.out _ e7; have b17 := HB1.out _ e7; clear he7 b06 b16 e6
  cases q7
  · go_wp2
    go_ret
    exact ⟨ret_bool (by simp), eb.trans e7⟩
  go_wp2_with fail
  refine (K8.out _ (eb.trans e7)).mono ?_; rintro _ w8 ⟨rfl, he8⟩
  have e8 := e7.trans he8
  have b08 := HB0.out _ e8; have b18 := HB1.out _ e8; clear he8 b07 b17 e7
  cases q8
  · go_wp2
    go_ret
    exact ⟨ret_bool (by simp), eb.trans e8⟩
  go_wp2
  go_ret
  exact ⟨ret_bool (by simp), eb.trans e8⟩
/-- rules, all short -/
def ShortD (ds : List DRule) : Prop := ∀ r ∈ ds, ShortR r
def ShortG (gs : List (List DRule)) : Prop := ∀ d ∈ gs, ShortD d
theorem shortD_of {ds : List DRule} (h : szD ds ≤ 1048576) : ShortD ds := fun _ hr => (szRl_short (szD_mem h hr)).1
theorem shortG_of {gs : List (List DRule)} (h : szG gs ≤ 1048576) : ShortG gs := fun _ hd => shortD_of (szG_mem h hd)
set_option maxRecDepth 100000 in
set_option maxHeartbeats 4000000 in
theorem eqRuleS_c (A A' : Option Addr) (ds es : List DRule) (c c' : Nat) (w : World) (h : RdD w A ds c) (h' : RdD w A' es c') (hs : ShortD ds) (hs' : ShortD es) :
    Gives Try.prog 65 #[.slice A ds.length c, .slice A' es.length c'] w (.bool (eqD ds es)) := by
  have hl := h.len; have hl' := h'.len
  have eb := Ext.refl w
  by_cases hn : ds.length = es.length
  · have hb1 : ((ds.length : Int) != (es.length : Int)) = false := by simp [hn]
    have H := Lib.hid hn; clear hn
    go_enter Try.func65, Try.ntmps65
    go_wp2
    go_loopw [5] (fun i wr => ∃ k : Nat, k ≤ ds.length ∧ i = .int .i64 k ∧ Hid (∀ j (h1 : j < ds.length) (h2 : j < es.length), j < k → eqR ds[j] es[j] = true) ∧ Ext w wr) (fun i _ => ds.length - (intOf i).toNat)
    case atStart => exact ⟨0, by omega, rfl, (fun j _ _ hj => by omega), Ext.refl _⟩
    case round =>
      obtain ⟨k, hk, rfl, ht, he⟩ := hrel
      by_cases hlt : k < ds.length
      · have hlt' : k < es.length := by have := H.out; omega
        obtain ⟨b, off, Ab, cb, An, cn, At, ct, Ak, ck, rfl, hb, hS, hR⟩ := h.at k hlt
        obtain ⟨b', off', Ab', cb', An', cn', At', ct', Ak', ck', rfl, hb', hS', hR'⟩ := h'.at k hlt'
        have s1 := hs _ (List.getElem_mem hlt); have s2 := hs' _ (List.getElem_mem hlt')
        have NO : Hid (eqR ds[k] es[k] = false → eqD ds es = false) := eqAll_take _ ds es k hlt hlt'
        have YES : Hid (eqR ds[k] es[k] = true → ∀ j (h1 : j < ds.length) (h2 : j < es.length), j < k + 1 → eqR ds[j] es[j] = true) := by
          intro hy j h1 h2 hj
          rcases (by omega : j < k ∨ j = k) with hj | rfl
          · exact ht.out j h1 h2 hj
          · exact hy
        generalize ds[k] = r at *
        generalize es[k] = q at *
        have CE := Lib.hid (fun w h h' => eqRule_c r q Ab cb An cn At ct Ak ck Ab' cb' An' cn' At' ct' Ak' ck' w h h' s1 s2)
        generalize eqR r q = z at *
        replace hR := hR.ext eb
        replace hR' := hR'.ext eb
        obtain ⟨k0, k1, k2, k3, k4, k5, k6, k7⟩ := hR
        obtain ⟨j0, j1, j2, j3, j4, j5, j6, j7⟩ := hR'
        unfold vrule at CE
        have H1 := Lib.hid (fun w' (e : Ext _ w') => hS.ext (eb.trans e)); have H2 := Lib.hid (fun w' (e : Ext _ w') => hS'.ext (eb.trans e))
        clear h h' s1 s2 hS hS' hs hs'
        have HT := ht; clear ht
        go_wp2_with fail
        refine wp_region_quiet_below (by kernel_rfl) (by kernel_rfl) ?_
        repeat (go_big_quiet_step ((go_at_call 112; exact Calls.regrown_of (CE.out _ (H1.out _ (by first | assumption | exact Ext_regrown _ _ he)) (H2.out _ (by first | assumption | exact Ext_regrown _ _ he))))))
        refine wpQuiet_nil ?_
        rintro w1 ⟨⟨nq, osq⟩, hq⟩
        have ew1 := ext_of_q hq
        clear hq nq osq
        have he1 := he.trans ew1
        cases z
        · have NO' := Lib.hid (NO.out rfl); clear NO YES
          go_wp2
          go_ret
          exact ⟨ret_bool NO'.out.symm, eb.trans he1⟩
        · have YES' := Lib.hid (YES.out rfl); clear NO YES
          go_wp2
          go_roundw
          case rel => exact ⟨k+1, by omega, by go_num, YES'.out, he1⟩
          case measure => simp [intOf]; omega
      · have hk' : k = ds.length := by omega
        have HE : Hid (eqD ds es = true) := eqAll_all _ _ _ H.out (fun j h1 h2 => ht.out j h1 h2 (by omega))
        go_wp2
        go_ret
        exact ⟨ret_bool HE.out.symm, eb.trans he⟩
  · have hb1 : ((ds.length : Int) != (es.length : Int)) = true := by simp; omega
    have HE : Hid (eqD ds es = false) := eqAll_len _ _ _ hn
    go_enter Try.func65, Try.ntmps65
    go_wp2
    go_ret
    exact ⟨ret_bool HE.out.symm, eb⟩
end Go.Proofs.Ytlaejcacembjiaa

/- Comparison of descriptions and registries. -/
namespace Go.Proofs.Ytlaejcacembjiaa
open Go.RowKit Go.Sort

set_option maxRecDepth 100000 in
set_option maxHeartbeats 4000000 in
theorem sEqualDescriptions_c (A A' : Option Addr) (ds es : List DRule) (c c' : Nat) (w : World) (h : RdD w A ds c) (h' : RdD w A' es c') (hs : ShortD ds) (hs' : ShortD es) :
    Gives Try.prog 50 #[vdesc (.slice A ds.length c), vdesc (.slice A' es.length c')] w (.bool (eqD ds es)) := by
  have hl := h.len; have hl' := h'.len
  have eb := Ext_alloc (.cells #[.slice A' es.length c'] 38) (Ext_alloc (.cells #[.slice A ds.length c] 38) (Ext.refl w))
  have BX := fun w' (e : Ext ((w.alloc (.cells #[.slice A ds.length c] 38)).alloc (.cells #[.slice A' es.length c'] 38)) w') => boxed2 e
  have B0 := fun w' e => (BX w' e).1 0
  have B1 := fun w' e => (BX w' e).2.1 0
  simp only [List.getElem?_toArray, List.getElem?_cons_zero] at B0 B1
  clear BX
  unfold vdesc
  by_cases hn : ds.length = es.length
  · have hb1 : ((ds.length : Int) != (es.length : Int)) = false := by simp [hn]
    have H := Lib.hid hn; clear hn
    go_enter Try.func50, Try.ntmps50
    go_wp2
    go_loopw [5] (fun i wr => ∃ k : Nat, k ≤ ds.length ∧ i = .int .i64 k ∧ Hid (∀ j (h1 : j < ds.length) (h2 : j < es.length), j < k → eqR ds[j] es[j] = true) ∧ Ext ((w.alloc (.cells #[.slice A ds.length c] 38)).alloc (.cells #[.slice A' es.length c'] 38)) wr) (fun i _ => ds.length - (intOf i).toNat)
    case atStart => exact ⟨0, by omega, rfl, (fun j _ _ hj => by omega), Ext.refl _⟩
    case round =>
      obtain ⟨k, hk, rfl, ht, he⟩ := hrel
      by_cases hlt : k < ds.length
      · have hlt' : k < es.length := by have := H.out; omega
        obtain ⟨b, off, Ab, cb, An, cn, At, ct, Ak, ck, rfl, hb, hS, hR⟩ := h.at k hlt
        obtain ⟨b', off', Ab', cb', An', cn', At', ct', Ak', ck', rfl, hb', hS', hR'⟩ := h'.at k hlt'
        have s1 := hs _ (List.getElem_mem hlt); have s2 := hs' _ (List.getElem_mem hlt')
        have NO : Hid (eqR ds[k] es[k] = false → eqD ds es = false) := eqAll_take _ ds es k hlt hlt'
        have YES : Hid (eqR ds[k] es[k] = true → ∀ j (h1 : j < ds.length) (h2 : j < es.length), j < k + 1 → eqR ds[j] es[j] = true) := by
          intro hy j h1 h2 hj
          rcases (by omega : j < k ∨ j = k) with hj | rfl
          · exact ht.out j h1 h2 hj
          · exact hy
        generalize ds[k] = r at *
        generalize es[k] = q at *
        have CE := Lib.hid (fun w h h' => l4Equal_c r q Ab cb An cn At ct Ak ck Ab' cb' An' cn' At' ct' Ak' ck' w h h' s1 s2)
        generalize eqR r q = z at *
        replace hR := hR.ext eb
        replace hR' := hR'.ext eb
        obtain ⟨k0, k1, k2, k3, k4, k5, k6, k7⟩ := hR
        obtain ⟨j0, j1, j2, j3, j4, j5, j6, j7⟩ := hR'
        unfold vrule at CE
        have H1 := Lib.hid (fun w' (e : Ext _ w') => hS.ext (eb.trans e)); have H2 := Lib.hid (fun w' (e : Ext _ w') => hS'.ext (eb.trans e))
        clear h h' s1 s2 hS hS' hs hs'
        have HT := ht; clear ht
        go_wp2_with fail
        refine wp_region_quiet_below (by kernel_rfl) (by kernel_rfl) ?_
        repeat (go_big_quiet_step ((go_at_call 102; exact Calls.regrown_of (CE.out _ (H1.out _ (by first | assumption | exact Ext_regrown _ _ he)) (H2.out _ (by first | assumption | exact Ext_regrown _ _ he))))))
        refine wpQuiet_nil ?_
        rintro w1 ⟨⟨nq, osq⟩, hq⟩
        have ew1 := ext_of_q hq
        clear hq nq osq
        have he1 := he.trans ew1
        cases z
        · have NO' := Lib.hid (NO.out rfl); clear NO YES
          go_wp2
          go_ret
          exact ⟨ret_bool NO'.out.symm, eb.trans he1⟩
        · have YES' := Lib.hid (YES.out rfl); clear NO YES
          go_wp2
          go_roundw
          case rel => exact ⟨k+1, by omega, by go_num, YES'.out, he1⟩
          case measure => simp [intOf]; omega
      · have hk' : k = ds.length := by omega
        have HE : Hid (eqD ds es = true) := eqAll_all _ _ _ H.out (fun j h1 h2 => ht.out j h1 h2 (by omega))
        go_wp2
        go_ret
        exact ⟨ret_bool HE.out.symm, eb.trans he⟩
  · have hb1 : ((ds.length : Int) != (es.length : Int)) = true := by simp; omega
    have HE : Hid (eqD ds es = false) := eqAll_len _ _ _ hn
    go_enter Try.func50, Try.ntmps50
    go_wp2
    go_ret
    exact ⟨ret_bool HE.out.symm, eb⟩
end Go.Proofs.Ytlaejcacembjiaa

/- Comparison of registries. -/
namespace Go.Proofs.Ytlaejcacembjiaa
open Go.RowKit Go.Sort

set_option maxHeartbeats 400000 in
theorem eqDescription_c (A A' : Option Addr) (ds es : List DRule) (c c' : Nat) (w : World) (h : RdD w A ds c) (h' : RdD w A' es c') (hs : ShortD ds) (hs' : ShortD es) :
    Gives Try.prog 17 #[vdesc (.slice A ds.length c), vdesc (.slice A' es.length c')] w (.bool (eqD ds es)) := by
  have C := Lib.hid (fun w h h' => eqRuleS_c A A' ds es c c' w h h' hs hs')
  have eb := Ext_alloc (.cells #[.slice A' es.length c'] 38) (Ext_alloc (.cells #[.slice A ds.length c] 38) (Ext.refl w))
  unfold vdesc
  generalize eqD ds es = z at *
  cases z
  all_goals
    go_enter Try.func17, Try.ntmps17
    go_wp2_with fail
    refine (C.out _ (h.ext eb) (h'.ext eb)).mono ?_; rintro _ w1 ⟨rfl, he1⟩
    go_wp2
    go_ret
    exact ⟨rfl, eb.trans he1⟩
set_option maxRecDepth 100000 in
set_option maxHeartbeats 4000000 in
theorem eqDescriptionS_c (A A' : Option Addr) (ds es : List (List DRule)) (c c' : Nat) (w : World) (h : RdG w A ds c) (h' : RdG w A' es c') (hs : ShortG ds) (hs' : ShortG es) :
    Gives Try.prog 64 #[.slice A ds.length c, .slice A' es.length c'] w (.bool (eqG ds es)) := by
  have hl := h.len; have hl' := h'.len
  have eb := Ext.refl w
  by_cases hn : ds.length = es.length
  · have hb1 : ((ds.length : Int) != (es.length : Int)) = false := by simp [hn]
    have H := Lib.hid hn; clear hn
    go_enter Try.func64, Try.ntmps64
    go_wp2
    go_loopw [5] (fun i wr => ∃ k : Nat, k ≤ ds.length ∧ i = .int .i64 k ∧ Hid (∀ j (h1 : j < ds.length) (h2 : j < es.length), j < k → eqD ds[j] es[j] = true) ∧ Ext w wr) (fun i _ => ds.length - (intOf i).toNat)
    case atStart => exact ⟨0, by omega, rfl, (fun j _ _ hj => by omega), Ext.refl _⟩
    case round =>
      obtain ⟨k, hk, rfl, ht, he⟩ := hrel
      by_cases hlt : k < ds.length
      · have hlt' : k < es.length := by have := H.out; omega
        obtain ⟨b, off, A1, c1, rfl, hb, hS, k0⟩ := h.at k hlt
        obtain ⟨b', off', A1', c1', rfl, hb', hS', j0⟩ := h'.at k hlt'
        have s1 := hs _ (List.getElem_mem hlt); have s2 := hs' _ (List.getElem_mem hlt')
        have NO : Hid (eqD ds[k] es[k] = false → eqG ds es = false) := eqAll_take _ ds es k hlt hlt'
        have YES : Hid (eqD ds[k] es[k] = true → ∀ j (h1 : j < ds.length) (h2 : j < es.length), j < k + 1 → eqD ds[j] es[j] = true) := by
          intro hy j h1 h2 hj
          rcases (by omega : j < k ∨ j = k) with hj | rfl
          · exact ht.out j h1 h2 hj
          · exact hy
        generalize ds[k] = r at *
        generalize es[k] = q at *
        have CE := Lib.hid (fun w h h' => eqDescription_c A1 A1' r q c1 c1' w h h' s1 s2)
        generalize eqD r q = z at *
        replace k0 := fun w' (e : Ext _ w') => k0 w' (eb.trans e)
        replace j0 := fun w' (e : Ext _ w') => j0 w' (eb.trans e)
        unfold vdesc at CE
        have H1 := Lib.hid (fun w' (e : Ext _ w') => hS.ext (eb.trans e)); have H2 := Lib.hid (fun w' (e : Ext _ w') => hS'.ext (eb.trans e))
        clear h h' s1 s2 hS hS' hs hs'
        have HT := ht; clear ht
        go_wp2_with fail
        refine wp_region_quiet_below (by kernel_rfl) (by kernel_rfl) ?_
        repeat (go_big_quiet_step ((go_at_call 17; exact Calls.regrown_of (CE.out _ (H1.out _ (by first | assumption | exact Ext_regrown _ _ he)) (H2.out _ (by first | assumption | exact Ext_regrown _ _ he))))))
        refine wpQuiet_nil ?_
        rintro w1 ⟨⟨nq, osq⟩, hq⟩
        have ew1 := ext_of_q hq
        clear hq nq osq
        have he1 := he.trans ew1
        cases z
        · have NO' := Lib.hid (NO.out rfl); clear NO YES
          go_wp2
          go_ret
          exact ⟨ret_bool NO'.out.symm, eb.trans he1⟩
        · have YES' := Lib.hid (YES.out rfl); clear NO YES
          go_wp2
          go_roundw
          case rel => exact ⟨k+1, by omega, by go_num, YES'.out, he1⟩
          case measure => simp [intOf]; omega
      · have hk' : k = ds.length := by omega
        have HE : Hid (eqG ds es = true) := eqAll_all _ _ _ H.out (fun j h1 h2 => ht.out j h1 h2 (by omega))
        go_wp2
        go_ret
        exact ⟨ret_bool HE.out.symm, eb.trans he⟩
  · have hb1 : ((ds.length : Int) != (es.length : Int)) = true := by simp; omega
    have HE : Hid (eqG ds es = false) := eqAll_len _ _ _ hn
    go_enter Try.func64, Try.ntmps64
    go_wp2
    go_ret
    exact ⟨ret_bool HE.out.symm, eb⟩
set_option maxHeartbeats 400000 in
theorem eqRegistry_c (A A' : Option Addr) (ds es : List (List DRule)) (c c' : Nat) (w : World) (h : RdG w A ds c) (h' : RdG w A' es c') (hs : ShortG ds) (hs' : ShortG es) :
    Gives Try.prog 16 #[vdesc (.slice A ds.length c), vdesc (.slice A' es.length c')] w (.bool (eqG ds es)) := by
  have C := Lib.hid (fun w h h' => eqDescriptionS_c A A' ds es c c' w h h' hs hs')
  have eb := Ext_alloc (.cells #[.slice A' es.length c'] 32) (Ext_alloc (.cells #[.slice A ds.length c] 32) (Ext.refl w))
  unfold vdesc
  generalize eqG ds es = z at *
  cases z
  all_goals
    go_enter Try.func16, Try.ntmps16
    go_wp2_with fail
    refine (C.out _ (h.ext eb) (h'.ext eb)).mono ?_; rintro _ w1 ⟨rfl, he1⟩
    go_wp2
    go_ret
    exact ⟨rfl, eb.trans he1⟩
end Go.Proofs.Ytlaejcacembjiaa

/- The laws' sizes of descriptions and registries. -/
namespace Go.Proofs.Ytlaejcacembjiaa
open Go.RowKit Go.Sort

theorem szN_spec (n : Nat) (left : Int) : (left - n < 0 ∧ szN n left = -1) ∨ (0 ≤ left - n ∧ szN n left = left - n) := by
  unfold szN; split
  · exact .inl ⟨by assumption, rfl⟩
  · exact .inr ⟨by omega, rfl⟩
set_option maxHeartbeats 1000000 in
theorem szStringS_c (A : Option Addr) (l : List ByteArray) (c : Nat) (left : Int) (w : World) (h : Rd0 vstr w A l c) (hw : ∀ s ∈ l, s.size ≤ 9223372036854775807) (h0 : 0 ≤ left) (h1 : left ≤ 1048576) :
    Gives Try.prog 145 #[.slice A l.length c, .int .i64 left] w (.int .i64 (szN (l.length + szStrs l) left)) := by
  have hl := h.len
  have S := szN_spec (l.length + szStrs l) left
  obtain ⟨T, hT⟩ : ∃ T, szN (l.length + szStrs l) left = T := ⟨_, rfl⟩
  rw [hT] at S ⊢
  have HS := Lib.hid S
  clear S hT
  by_cases hd : left - (l.length : Int) < 0
  · obtain rfl : T = -1 := by have := HS.out; omega
    go_enter Try.func145, Try.ntmps145
    go_wp2
    go_ret
    exact ⟨rfl, Ext.refl _⟩
  · go_enter Try.func145, Try.ntmps145
    go_wp2
    go_loopw [1, 5] (fun t i wr => ∃ (k : Nat) (z : Int), k ≤ l.length ∧ i = .int .i64 k ∧ t = .int .i64 z ∧ 0 ≤ z ∧ z ≤ 1048576 ∧ Hid (z = left - l.length - szStrs (l.take k)) ∧ Ext w wr) (fun _ i _ => l.length - (intOf i).toNat)
    case atStart => exact ⟨0, _, by omega, rfl, rfl, by omega, by omega, by simp [Hid, szStrs], Ext.refl _⟩
    case round =>
      obtain ⟨k, z, hk, rfl, rfl, hz0, hz1, hz, he⟩ := hrel
      by_cases hlt : k < l.length
      · obtain ⟨b, off, rfl, hb, hc⟩ := h.at k hlt
        have hs := hw l[k] (List.getElem_mem hlt)
        have HT := Lib.hid (szStrs_take l k hlt)
        have HL := Lib.hid (szStrs_le l (k+1))
        by_cases hneg : z - (l[k].size : Int) < 0
        · obtain rfl : T = -1 := by have := HS.out; have := HT.out; have := HL.out; have := hz.out; omega
          clear h
          go_wp2
          go_ret
          exact ⟨rfl, he⟩
        · clear h
          go_wp2
          go_roundw
          case rel => exact ⟨k+1, _, by omega, by go_num, rfl, by omega, by omega, by have := HT.out; have := hz.out; show _ = _; omega, he⟩
          case measure => simp [intOf]; omega
      · have hk' : k = l.length := by omega
        have HZ : Hid (T = z) := by
          have := HS.out; have h2 := hz.out; rw [List.take_of_length_le (by omega)] at h2; show _ = _; omega
        go_wp2
        go_ret
        exact ⟨ret_i64 HZ.out.symm, he⟩
set_option maxRecDepth 100000 in
set_option maxHeartbeats 2000000 in
theorem szRule_c (r : DRule) (Ab : Option Addr) (cb : Nat) (An : Option Addr) (cn : Nat) (At : Option Addr) (ct : Nat) (Ak : Option Addr) (ck : Nat) (left : Int) (w : World) (h : RdS w r Ab cb An cn At ct Ak ck) (hw : WfR r) (h0 : 0 ≤ left) (h1 : left ≤ 1048576) :
    Gives Try.prog 106 #[vrule r (.slice Ab r.bytes.length cb) (.slice An r.names.length cn) (.slice At r.tags.length ct) (.slice Ak r.kids.length ck), .int .i64 left] w (.int .i64 (szN (szRl r) left)) := by
  obtain ⟨hb, hn, ht, hk⟩ := h
  have hwn := hw.nm
  have S := szN_spec (szRl r) left
  obtain ⟨T, hT⟩ : ∃ T, szN (szRl r) left = T := ⟨_, rfl⟩
  rw [hT] at S ⊢
  unfold szRl at S
  have C1 := Lib.hid (fun left w h h0 h1 => szByteS_c Ab r.bytes cb left w h h0 h1)
  have C2 := Lib.hid (fun left w h h0 h1 => szStringS_c An r.names cn left w h hw.names h0 h1)
  have C3 := Lib.hid (fun left w h h0 h1 => szIntS_c At r.tags ct left w h h0 h1)
  have C4 := Lib.hid (fun left w h h0 h1 => szIntS_c Ak r.kids ck left w h h0 h1)
  have HS := Lib.hid S
  clear S hT hw
  have eb := Ext_alloc (.cells #[.string r.nm, .int .i64 r.kind, .int .i64 r.size, .bool r.little, .slice Ab r.bytes.length cb, .slice An r.names.length cn, .slice At r.tags.length ct, .slice Ak r.kids.length ck] 126) (Ext.refl w)
  unfold vrule
  by_cases q1 : left - (r.nm.size : Int) < 0
  · obtain rfl : T = -1 := by have := HS.out; omega
    go_enter Try.func106, Try.ntmps106
    go_wp2
    go_ret
    exact ⟨rfl, eb⟩
  go_enter Try.func106, Try.ntmps106
  go_wp2_with fail
  refine (C1.out _ _ (hb.ext eb) (by omega) (by omega)).mono ?_; rintro _ w1 ⟨rfl, he1⟩
  have s1 := szN_spec r.bytes.length (left - r.nm.size)
  generalize szN r.bytes.length (left - r.nm.size) = z1 at *
  by_cases q2 : z1 < 0
  · obtain rfl : T = -1 := by have := HS.out; omega
    clear s1
    go_wp2
    go_ret
    exact ⟨rfl, eb.trans he1⟩
  have S1 : Hid (z1 = left - r.nm.size - r.bytes.length) := by show _ = _; omega
  have z1a : z1 ≤ 1048576 := by omega
  clear s1
  have D1 := fun w' (e : Ext _ w') => boxed (he1.trans e)
  go_wp2_with fail
  refine (C2.out _ _ (hn.ext (eb.trans he1)) (by omega) (by omega)).mono ?_; rintro _ w2 ⟨rfl, he2⟩
  have s2 := szN_spec (r.names.length + szStrs r.names) z1
  generalize szN (r.names.length + szStrs r.names) z1 = z2 at *
  have e2 := he1.trans he2
  by_cases q3 : z2 < 0
  · obtain rfl : T = -1 := by have := HS.out; have := S1.out; omega
    clear s2
    go_wp2
    go_ret
    exact ⟨rfl, eb.trans e2⟩
  have S2 : Hid (z2 = left - r.nm.size - r.bytes.length - (r.names.length + szStrs r.names)) := by have := S1.out; show _ = _; omega
  have z2a : z2 ≤ 1048576 := by omega
  clear s2 D1
  have D2 := fun w' (e : Ext _ w') => boxed (e2.trans e)
  go_wp2_with fail
  refine (C3.out _ _ (ht.ext (eb.trans e2)) (by omega) (by omega)).mono ?_; rintro _ w3 ⟨rfl, he3⟩
  have s3 := szN_spec r.tags.length z2
  generalize szN r.tags.length z2 = z3 at *
  have e3 := e2.trans he3
  by_cases q4 : z3 < 0
  · obtain rfl : T = -1 := by have := HS.out; have := S2.out; omega
    clear s3
    go_wp2
    go_ret
    exact ⟨rfl, eb.trans e3⟩
  have S3 : Hid (z3 = left - r.nm.size - r.bytes.length - (r.names.length + szStrs r.names) - r.tags.length) := by have := S2.out; show _ = _; omega
  have z3a : z3 ≤ 1048576 := by omega
  clear s3 D2
  have D3 := fun w' (e : Ext _ w') => boxed (e3.trans e)
  go_wp2_with fail
  refine (C4.out _ _ (hk.ext (eb.trans e3)) (by omega) (by omega)).mono ?_; rintro _ w4 ⟨rfl, he4⟩
  have s4 := szN_spec r.kids.length z3
  generalize szN r.kids.length z3 = z4 at *
  have HT : Hid (z4 = T) := by have := HS.out; have := S3.out; show _ = _; omega
  clear s4
  by_cases q5 : z4 < 0
  · obtain rfl : T = -1 := by have := HS.out; have := HT.out; omega
    go_wp2
    go_ret
    exact ⟨rfl, eb.trans (e3.trans he4)⟩
  go_wp2
  go_ret
  exact ⟨ret_i64 HT.out, eb.trans (e3.trans he4)⟩
set_option maxRecDepth 100000 in
set_option maxHeartbeats 2000000 in
theorem szRuleS_c (A : Option Addr) (ds : List DRule) (c : Nat) (left : Int) (w : World) (h : RdD w A ds c) (hw : WfD ds) (h0 : 0 ≤ left) (h1 : left ≤ 1048576) :
    Gives Try.prog 54 #[.slice A ds.length c, .int .i64 left] w (.int .i64 (szN (szD ds) left)) := by
  have hl := h.len
  have S := szN_spec (szD ds) left
  obtain ⟨T, hT⟩ : ∃ T, szN (szD ds) left = T := ⟨_, rfl⟩
  rw [hT] at S ⊢
  unfold szD at S
  have HS := Lib.hid S
  clear S hT
  by_cases hd : left - (ds.length : Int) < 0
  · obtain rfl : T = -1 := by have := HS.out; omega
    go_enter Try.func54, Try.ntmps54
    go_wp2
    go_ret
    exact ⟨rfl, Ext.refl _⟩
  · go_enter Try.func54, Try.ntmps54
    go_wp2
    go_loopw [1, 5] (fun t i wr => ∃ (k : Nat) (z : Int), k ≤ ds.length ∧ i = .int .i64 k ∧ t = .int .i64 z ∧ 0 ≤ z ∧ z ≤ 1048576 ∧ Hid (z = left - ds.length - ((ds.take k).map szRl).sum) ∧ Ext w wr) (fun _ i _ => ds.length - (intOf i).toNat)
    case atStart => exact ⟨0, _, by omega, rfl, rfl, by omega, by omega, by simp [Hid], Ext.refl _⟩
    case round =>
      obtain ⟨k, z, hk, rfl, rfl, hz0, hz1, hz, he⟩ := hrel
      by_cases hlt : k < ds.length
      · obtain ⟨b, off, Ab, cb, An, cn, At, ct, Ak, ck, rfl, hb, hs, hr⟩ := h.at k hlt
        have HT := Lib.hid (sum_take szRl ds k hlt)
        have HL := Lib.hid (sum_split szRl ds (k+1))
        have hwk := hw _ (List.getElem_mem hlt)
        have s1 := szN_spec (szRl ds[k]) z
        generalize ds[k] = r at *
        have C := Lib.hid (fun w hs => szRule_c r Ab cb An cn At ct Ak ck z w hs hwk hz0 hz1)
        generalize szN (szRl r) z = z1 at *
        obtain ⟨k0, k1, k2, k3, k4, k5, k6, k7⟩ := hr
        have S1 := Lib.hid s1
        unfold vrule at C
        clear s1 h
        go_wp2_with fail
        refine (C.out _ (hs.ext he)).mono ?_; rintro _ w1 ⟨rfl, he1⟩
        by_cases q : z1 < 0
        · obtain rfl : T = -1 := by have := HS.out; have := HT.out; have := HL.out; have := hz.out; have := S1.out; omega
          go_wp2
          go_ret
          exact ⟨rfl, he.trans he1⟩
        · have hz1' : z1 ≤ 1048576 := by have := S1.out; omega
          go_wp2
          go_roundw
          case rel => exact ⟨k+1, _, by omega, by go_num, rfl, by omega, by omega, by have := HT.out; have := hz.out; have := S1.out; show _ = _; omega, he.trans he1⟩
          case measure => simp [intOf]; omega
      · have hk' : k = ds.length := by omega
        have HZ : Hid (T = z) := by
          have := HS.out; have h2 := hz.out; rw [List.take_of_length_le (by omega)] at h2; show _ = _; omega
        go_wp2
        go_ret
        exact ⟨ret_i64 HZ.out.symm, he⟩
set_option maxHeartbeats 400000 in
theorem szDescription_c (A : Option Addr) (ds : List DRule) (c : Nat) (left : Int) (w : World) (h : RdD w A ds c) (hw : WfD ds) (h0 : 0 ≤ left) (h1 : left ≤ 1048576) :
    Gives Try.prog 11 #[vdesc (.slice A ds.length c), .int .i64 left] w (.int .i64 (szN (szD ds) left)) := by
  have C := Lib.hid (fun w h => szRuleS_c A ds c left w h hw h0 h1)
  have hz := szN_lo (szD ds) left h1 h0
  generalize szN (szD ds) left = z at *
  unfold vdesc
  by_cases hd : z < 0
  · obtain rfl : z = -1 := by omega
    go_enter Try.func11, Try.ntmps11
    go_wp2_with fail
    refine (C.out _ (h.ext (Ext_alloc _ (Ext.refl _)))).mono ?_; rintro _ w1 ⟨rfl, he⟩
    go_wp2
    go_ret
    exact ⟨rfl, (Ext_alloc _ (Ext.refl w)).trans he⟩
  · go_enter Try.func11, Try.ntmps11
    go_wp2_with fail
    refine (C.out _ (h.ext (Ext_alloc _ (Ext.refl _)))).mono ?_; rintro _ w1 ⟨rfl, he⟩
    go_wp2
    go_ret
    exact ⟨rfl, (Ext_alloc _ (Ext.refl w)).trans he⟩
set_option maxRecDepth 100000 in
set_option maxHeartbeats 2000000 in
theorem szDescriptionS_c (A : Option Addr) (ds : List (List DRule)) (c : Nat) (left : Int) (w : World) (h : RdG w A ds c) (hw : WfG ds) (h0 : 0 ≤ left) (h1 : left ≤ 1048576) :
    Gives Try.prog 53 #[.slice A ds.length c, .int .i64 left] w (.int .i64 (szN (szG ds) left)) := by
  have hl := h.len
  have S := szN_spec (szG ds) left
  obtain ⟨T, hT⟩ : ∃ T, szN (szG ds) left = T := ⟨_, rfl⟩
  rw [hT] at S ⊢
  unfold szG at S
  have HS := Lib.hid S
  clear S hT
  by_cases hd : left - (ds.length : Int) < 0
  · obtain rfl : T = -1 := by have := HS.out; omega
    go_enter Try.func53, Try.ntmps53
    go_wp2
    go_ret
    exact ⟨rfl, Ext.refl _⟩
  · go_enter Try.func53, Try.ntmps53
    go_wp2
    go_loopw [1, 5] (fun t i wr => ∃ (k : Nat) (z : Int), k ≤ ds.length ∧ i = .int .i64 k ∧ t = .int .i64 z ∧ 0 ≤ z ∧ z ≤ 1048576 ∧ Hid (z = left - ds.length - ((ds.take k).map szD).sum) ∧ Ext w wr) (fun _ i _ => ds.length - (intOf i).toNat)
    case atStart => exact ⟨0, _, by omega, rfl, rfl, by omega, by omega, by simp [Hid], Ext.refl _⟩
    case round =>
      obtain ⟨k, z, hk, rfl, rfl, hz0, hz1, hz, he⟩ := hrel
      by_cases hlt : k < ds.length
      · obtain ⟨b, off, A', c', rfl, hb, hs, hr⟩ := h.at k hlt
        have HT := Lib.hid (sum_take szD ds k hlt)
        have HL := Lib.hid (sum_split szD ds (k+1))
        have hwk := hw _ (List.getElem_mem hlt)
        have s1 := szN_spec (szD ds[k]) z
        generalize ds[k] = r at *
        have C := Lib.hid (fun w hs => szDescription_c A' r c' z w hs hwk hz0 hz1)
        generalize szN (szD r) z = z1 at *
        have S1 := Lib.hid s1
        unfold vdesc at C
        clear s1 h
        go_wp2_with fail
        refine (C.out _ (hs.ext he)).mono ?_; rintro _ w1 ⟨rfl, he1⟩
        by_cases q : z1 < 0
        · obtain rfl : T = -1 := by have := HS.out; have := HT.out; have := HL.out; have := hz.out; have := S1.out; omega
          go_wp2
          go_ret
          exact ⟨rfl, he.trans he1⟩
        · have hz1' : z1 ≤ 1048576 := by have := S1.out; omega
          go_wp2
          go_roundw
          case rel => exact ⟨k+1, _, by omega, by go_num, rfl, by omega, by omega, by have := HT.out; have := hz.out; have := S1.out; show _ = _; omega, he.trans he1⟩
          case measure => simp [intOf]; omega
      · have hk' : k = ds.length := by omega
        have HZ : Hid (T = z) := by
          have := HS.out; have h2 := hz.out; rw [List.take_of_length_le (by omega)] at h2; show _ = _; omega
        go_wp2
        go_ret
        exact ⟨ret_i64 HZ.out.symm, he⟩
set_option maxHeartbeats 400000 in
theorem szRegistry_c (A : Option Addr) (ds : List (List DRule)) (c : Nat) (left : Int) (w : World) (h : RdG w A ds c) (hw : WfG ds) (h0 : 0 ≤ left) (h1 : left ≤ 1048576) :
    Gives Try.prog 10 #[vdesc (.slice A ds.length c), .int .i64 left] w (.int .i64 (szN (szG ds) left)) := by
  have C := Lib.hid (fun w h => szDescriptionS_c A ds c left w h hw h0 h1)
  have hz := szN_lo (szG ds) left h1 h0
  generalize szN (szG ds) left = z at *
  unfold vdesc
  by_cases hd : z < 0
  · obtain rfl : z = -1 := by omega
    go_enter Try.func10, Try.ntmps10
    go_wp2_with fail
    refine (C.out _ (h.ext (Ext_alloc _ (Ext.refl _)))).mono ?_; rintro _ w1 ⟨rfl, he⟩
    go_wp2
    go_ret
    exact ⟨rfl, (Ext_alloc _ (Ext.refl w)).trans he⟩
  · go_enter Try.func10, Try.ntmps10
    go_wp2_with fail
    refine (C.out _ (h.ext (Ext_alloc _ (Ext.refl _)))).mono ?_; rintro _ w1 ⟨rfl, he⟩
    go_wp2
    go_ret
    exact ⟨rfl, (Ext_alloc _ (Ext.refl w)).trans he⟩
end Go.Proofs.Ytlaejcacembjiaa

/- The laws' copies, as what they read as. -/
namespace Go.Proofs.Ytlaejcacembjiaa
open Go.RowKit Go.Sort

theorem rulesOf_len (ps : List RV) : (rulesOf ps).length = ps.length := by simp [rulesOf]
theorem OwnD.short {ps : List RV} (h : szD (rulesOf ps) ≤ 1048576) : ps.length ≤ 9223372036854775807 ∧ ∀ p ∈ ps, ShortR p.r := by
  refine ⟨by unfold szD at h; rw [rulesOf_len] at h; omega, fun p hp => ?_⟩
  exact shortD_of h p.r (List.mem_map_of_mem hp)
theorem toDesc_r (A : Option Addr) (ds : List DRule) (c : Nat) (w : World) (h : RdD w A ds c) (hz : szD ds ≤ 1048576) :
    Calls Try.prog 14 #[vdesc (.slice A ds.length c)] w fun e w' => ∃ A1 c1, e = .returned (vdesc (.slice A1 ds.length c1)) ∧ RdD w' A1 ds c1 ∧ Ext w w' := by
  refine (toDescription_c A ds c w h hz).mono ?_
  rintro e w' ⟨v, ps, he, rfl, ho, hx⟩
  obtain ⟨A1, c1, rfl, hr⟩ := ho.rd (OwnD.short hz).1 (OwnD.short hz).2
  exact ⟨A1, c1, he, hr, hx⟩
theorem toReg_r (A : Option Addr) (ds : List (List DRule)) (c : Nat) (w : World) (h : RdG w A ds c) (hz : szG ds ≤ 1048576) :
    Calls Try.prog 13 #[vdesc (.slice A ds.length c)] w fun e w' => ∃ A1 c1, e = .returned (vdesc (.slice A1 ds.length c1)) ∧ RdG w' A1 ds c1 ∧ Ext w w' := by
  refine (toRegistry_c A ds c w h hz).mono ?_
  rintro e w' ⟨v, qs, he, rfl, ho, hx⟩
  have hq : ∀ q ∈ qs, szD (rulesOf q.2) ≤ 1048576 := fun q hq => szG_mem hz (List.mem_map_of_mem (f := fun q : Value × List RV => rulesOf q.2) hq)
  obtain ⟨A1, c1, rfl, hr⟩ := ho.rd (by unfold szG at hz; simp only [descsOf, List.length_map] at hz; omega) (fun q h => (OwnD.short (hq q h)).1) (fun q h => (OwnD.short (hq q h)).2)
  exact ⟨A1, c1, he, hr, hx⟩
theorem szN_small {n : Nat} {left : Int} (h : ¬ szN n left < 0) (h1 : left ≤ 1048576) : n ≤ 1048576 := by have := (szN_ge h).1; omega
end Go.Proofs.Ytlaejcacembjiaa

/- Copies of registries: the walks. -/
namespace Go.Proofs.Ytlaejcacembjiaa
open Go.RowKit Go.Sort

theorem E_desc' : Elem Try.prog 30 38 1 24 (.agg #[.slice none 0 0]) := ⟨Try.underlying30, by kernel_rfl, rfl, by omega⟩
def qvals (q : Value × List RV) : List Value := q.1 :: q.2.flatMap RV.vals
theorem OwnD.shape' {w0 w : World} {v : Value} {ps : List RV} (h : OwnD w0 w v ps) : v.oneCell' = true := by
  obtain ⟨A, c, rfl⟩ := h.shape; rfl
theorem OwnG.snoc {W0 wr w2 w4 : World} {v v' : Value} {qs : List (Value × List RV)} {q : Value × List RV} (h : OwnG W0 wr v qs) (e2 : Ext wr w2) (hro : OwnD wr w2 q.1 q.2) (hb : W0.heap.size ≤ wr.heap.size) {cs : Array Value} {T : TypeId}
    (ho4 : Own 38 1 W0 w4 v' (qs.length + 1) (qs.map Prod.fst ++ [q.1])) (hg4 : (w2.alloc (.cells cs T)).grownBy w4 v.ownBlock) (hv : v'.ownBlock = v.ownBlock ∨ v'.ownBlock = some (w2.alloc (.cells cs T)).heap.size) : OwnG W0 w4 v' (qs ++ [q]) := by
  have ex := Ext_alloc (.cells cs T) (Ext.refl w2)
  have hsz : (w2.alloc (.cells cs T)).heap.size = w2.heap.size + 1 := by simp
  have hbl := h.block
  have hfar := h.far
  unfold Far at hfar
  rw [List.pairwise_cons] at hfar
  have hs2 := e2.size
  have hrb := hro.block
  refine ⟨?_, fun p hp => ?_, ?_⟩
  · rw [List.length_append, List.map_append]; exact ho4
  · rcases List.mem_append.1 hp with hp | hp
    · refine (((h.each p hp).ext e2).ext ex).keep hg4 (fun u hu g hg he => ?_)
      exact hfar.1 u (List.mem_flatMap.2 ⟨p, hp, hu⟩) g he hg
    · obtain rfl := List.mem_singleton.1 hp
      refine ((hro.ext ex).keep hg4 (fun u hu g hg he => ?_)).down hb
      have h1 := (hrb u hu g hg).1
      have h2 := (hbl v (List.mem_cons_self ..) g he).2
      omega
  · rw [List.flatMap_append, List.flatMap_cons, List.flatMap_nil, List.append_nil]
    have hold : ∀ u ∈ (qs.flatMap fun q => q.1 :: q.2.flatMap RV.vals), ∀ g, u.ownBlock = some g → g < wr.heap.size := fun u hu g hg => (hbl u (List.mem_cons_of_mem _ hu) g hg).2
    have hnew : ∀ u ∈ q.1 :: q.2.flatMap RV.vals, ∀ g, u.ownBlock = some g → wr.heap.size ≤ g ∧ g < w2.heap.size := fun u hu g hg => hrb u hu g hg
    refine Far.cons (Far.append hfar.2 hro.far (fun u hu x hx g h1 h2 => by have := hold u hu g h1; have := (hnew x hx g h2).1; omega)) (fun x hx g h1 h2 => ?_)
    rcases hv with hv | hv
    · rw [hv] at h1
      rcases List.mem_append.1 hx with hx | hx
      · exact hfar.1 x hx g h1 h2
      · have := (hbl v (List.mem_cons_self ..) g h1).2; have := (hnew x hx g h2).1; omega
    · rw [hv, hsz] at h1
      injection h1 with h1
      rcases List.mem_append.1 hx with hx | hx
      · have := hold x hx g h2; omega
      · have := (hnew x hx g h2).2; omega
set_option maxRecDepth 100000 in
set_option maxHeartbeats 8000000 in
theorem sCopyG_c (A : Option Addr) (ds : List (List DRule)) (c : Nat) (w : World) (h : RdG w A ds c) (hz : szG ds ≤ 1048576) :
    Calls Try.prog 55 #[vdesc (.slice A ds.length c)] w fun e w' => ∃ v ps, e = .returned (vdesc v) ∧ descsOf ps = ds ∧ OwnG w w' v ps ∧ Ext w w' := by
  have hn : ds.length ≤ 1048576 := by unfold szG at hz; omega
  have HZ : Hid (∀ k (hk : k < ds.length), szD ds[k] ≤ 1048576) := fun k hk => szG_mem hz (List.getElem_mem hk)
  obtain ⟨W0, HW0, HP, HR, HO, e0, hsA⟩ := boxes3' w #[.slice A ds.length c] #[.slice none 0 0] #[.slice none 0 0] 32 32 32
  have HSA := Lib.hid hsA; clear hsA
  have HP0 := Lib.hid HP; have HR0 := Lib.hid HR; have HO0 := Lib.hid HO; clear HP HR HO
  have OD0 : Hid (OwnG W0 W0 (.slice none 0 0) []) := ⟨⟨by simp, .inl ⟨rfl, rfl⟩⟩, fun p hp => by simp at hp, Far.one _⟩
  have HH := Lib.hid h; clear h
  unfold vdesc
  go_enter Try.func55, Try.ntmps55
  go_wp2
  rw [← HW0.out]
  go_loopw [4] (fun ix wr => ∃ (k : Nat) (ps : List (Value × List RV)) (v : Value), k ≤ ds.length ∧ ix = .int .i64 k ∧ ps.length ≤ k ∧ k ≤ ps.length ∧ Hid (descsOf ps = ds.take k) ∧ Hid (OwnG W0 wr v ps) ∧ Hid (Box wr w.heap.size #[.slice A ds.length c] 32) ∧ Hid (Box wr (w.heap.size + 1) #[.slice none 0 0] 32) ∧ Hid (Box wr (w.heap.size + 1 + 1) #[v] 32) ∧ Ext w wr ∧ W0.heap.size ≤ wr.heap.size) (fun ix _ => ds.length - (intOf ix).toNat)
  case atStart => exact ⟨0, [], _, by omega, rfl, by simp, by simp, by simp [Hid, descsOf], OD0, HP0, HR0, HO0, e0, Nat.le_refl _⟩
  case round =>
    clear OD0 HP0 HR0 HO0 e0 HW0
    obtain ⟨k, ps, v, hk, rfl, hl1, hl2, hps, hod, hbp, hbr, hbo, he, hsz⟩ := hrel
    have c0 : _ = some (Value.slice A ds.length c) := hbp.out.cell 0
    by_cases hlt : k < ds.length
    · obtain ⟨b, off, Ad, cd, hA, hb, hs, k0⟩ := HH.out.at k hlt
      subst hA
      have hzk := HZ.out k hlt
      have HT : Hid (ds.take (k+1) = ds.take k ++ [ds[k]]) := List.take_succ_eq_append_getElem hlt
      generalize ds[k] = r at *
      have C := Lib.hid (fun w h => sCopyD_c Ad r cd w h hzk)
      unfold vdesc at C
      have cv : _ = some v := hbo.out.cell 0
      have hd := Ext_drew he
      have HS := Lib.hid hs
      have hbod := Lib.hid (hbo.out.ext (Ext_drew (Ext.refl wr)))
      have hodd := Lib.hid (hod.out.ext (Ext_drew (Ext.refl wr)))
      clear hs
      have b1 : (0 : Int) ≤ (k : Int) := by omega
      have b2 : (k : Int) < (ds.length : Int) := by omega
      go_wp2_with fail
      go_region_law (first
        | (go_simp; go_at_call 56; refine (C.out _ (HS.out.ext hd)).mono ?_; rintro _ w2 ⟨vq, pq, rfl, hrr, hro, he2⟩; obtain ⟨Aq, cq, hvq⟩ := hro.shape; subst hvq; have hro := Lib.hid hro; have hrr := Lib.hid hrr; have hbo3 := Lib.hid ((hbod.out.ext he2).ext (Ext_alloc (.cells #[.slice Aq pq.length cq] 38) (Ext.refl w2))); have c2 : _ = some v := (hbod.out.ext he2).cell 0; have c3 : _ = some v := hbo3.out.cell 0; have hsz2 : Hid (W0.heap.size ≤ (w2.alloc (.cells #[.slice Aq pq.length cq] 38)).heap.size) := (by have h1 := he2.size; rw [size_drew] at h1; show _ ≤ _; rw [World.size_alloc]; omega); have hNv : Hid (v.ownBlock ≠ some (w.heap.size + 1 + 1)) := (fun hh => by have := (hod.out.block v (List.mem_cons_self ..) _ hh).1; have := HSA.out; omega))
        | (refine step_app8 rfl (.tmp 14) (.tmp 21) _ rfl E_desc' W0 (w2.alloc (.cells #[.slice Aq pq.length cq] 38)) v ps.length (ps.map Prod.fst) rfl (Own.ext (Own.ext hodd.out.row he2) (Ext_alloc _ (Ext.refl _))) hsz2.out ⟨w2.heap.size, 0, none⟩ 1 1 [.slice Aq pq.length cq] rfl rfl (fun j u hu => (World.cell?_alloc_at' w2 [.slice Aq pq.length cq] 38 j).trans hu) (fun u hu => by simp only [List.mem_singleton] at hu; subst hu; rfl) (by simp [maxLen]; omega) (by omega) ?_; intro v4 w4 ho4 hg4 hv4; have hbo4 := Lib.hid (Box.moved (hbo3.out) hg4 hNv.out); have c4 := hbo4.out.cell 0; have f4 := hbo4.out.free 0; have HO4 := Lib.hid (OwnG.snoc (q := (Value.slice Aq pq.length cq, pq)) hodd.out he2 hro.out hsz ho4 hg4 hv4); have HG4 := Lib.hid hg4; clear ho4 hg4 hv4; obtain ⟨A4, q4, hA4⟩ := HO4.out.shape; replace hA4 : v4 = .slice A4 (ps.length + 1) q4 := (by rw [hA4, List.length_append]; rfl); subst hA4))
      all_goals
        have hW := HSA.out
        have x3 := Ext_alloc (.cells #[.slice Aq pq.length cq] 38) (Ext.refl w2)
        have bV : ∀ g, v.ownBlock = some g → w.heap.size + 3 ≤ g := fun g hg => by have := (hod.out.block v (List.mem_cons_self ..) g hg).1; omega
        have e4 := ((hd.trans he2).trans x3).grown HG4.out (fun g hg => by have := bV g hg; omega)
        have P5 : Hid (Box (w4.setCell ⟨w.heap.size + 1 + 1, 0, none⟩ (.slice A4 (ps.length + 1) q4)) w.heap.size #[.slice (some ⟨b, off, none⟩) ds.length c] 32) := (((hbp.out.ext ((Ext_drew (Ext.refl wr)).trans he2)).ext x3).moved HG4.out (fun hh => by have := bV _ hh; omega)).other (by omega) 0 _
        have R5 : Hid (Box (w4.setCell ⟨w.heap.size + 1 + 1, 0, none⟩ (.slice A4 (ps.length + 1) q4)) (w.heap.size + 1) #[.slice none 0 0] 32) := (((hbr.out.ext ((Ext_drew (Ext.refl wr)).trans he2)).ext x3).moved HG4.out (fun hh => by have := bV _ hh; omega)).other (by omega) 0 _
        have O5 : Hid (Box (w4.setCell ⟨w.heap.size + 1 + 1, 0, none⟩ (.slice A4 (ps.length + 1) q4)) (w.heap.size + 1 + 1) #[.slice A4 (ps.length + 1) q4] 32) := hbo4.out.set 0 (.slice A4 (ps.length + 1) q4)
        have D5 : Hid (OwnG W0 (w4.setCell ⟨w.heap.size + 1 + 1, 0, none⟩ (.slice A4 (ps.length + 1) q4)) (.slice A4 (ps.length + 1) q4) (ps ++ [(Value.slice Aq pq.length cq, pq)])) := HO4.out.keep (grown_set w4 ⟨w.heap.size + 1 + 1, 0, none⟩ _) (fun u hu g hg hh => by have h1 := (HO4.out.block u hu g hg).1; injection hh with hh; simp at hh; omega)
        have E5 : Hid (Ext w (w4.setCell ⟨w.heap.size + 1 + 1, 0, none⟩ (.slice A4 (ps.length + 1) q4))) := e4.setCell (p := ⟨w.heap.size + 1 + 1, 0, none⟩) (by show w.heap.size ≤ w.heap.size + 1 + 1; omega) _
        have S5 : Hid (W0.heap.size ≤ (w4.setCell ⟨w.heap.size + 1 + 1, 0, none⟩ (.slice A4 (ps.length + 1) q4)).heap.size) := by
          have h1 := HG4.out.size; have h2 := hsz2.out
          show _ ≤ _; simp only [World.size_setCell]; omega
        have N5 : Hid (descsOf (ps ++ [(Value.slice Aq pq.length cq, pq)]) = ds.take (k + 1)) := by show _ = _; rw [descsOf_append, hps.out, HT.out]; simp [descsOf, hrr.out]
        clear hW x3 bV e4
        go_wp2
        go_roundw
        case rel => exact ⟨k + 1, ps ++ [(Value.slice Aq pq.length cq, pq)], _, by omega, by go_num, by simp; omega, by simp; omega, N5, D5, P5, R5, O5, E5.out, S5.out⟩
        case measure => simp [intOf]; omega
    · obtain rfl : k = ds.length := by omega
      obtain ⟨A5, c5, hA5⟩ := hod.out.shape
      subst hA5
      have hN : descsOf ps = ds := by rw [hps.out, List.take_length]
      have HN := Lib.hid hN
      have cv : _ = some (Value.slice A5 ps.length c5) := hbo.out.cell 0
      have cr : _ = some (Value.slice none 0 0) := hbr.out.cell 0
      have fr := hbr.out.free 0
      have G := grown_set wr ⟨w.heap.size + 1, 0, none⟩ (.slice A5 ps.length c5)
      have D5 : Hid (OwnG w (wr.setCell ⟨w.heap.size + 1, 0, none⟩ (.slice A5 ps.length c5)) (.slice A5 ps.length c5) ps) := (hod.out.keep G (fun u hu g hg hh => by have h1 := (hod.out.block u hu g hg).1; have := HSA.out; injection hh with hh; simp at hh; omega)).down (by have := HSA.out; omega)
      have E5 : Hid (Ext w (wr.setCell ⟨w.heap.size + 1, 0, none⟩ (.slice A5 ps.length c5))) := he.setCell (p := ⟨w.heap.size + 1, 0, none⟩) (by show w.heap.size ≤ w.heap.size + 1; omega) _
      have z5 : (wr.setCell ⟨w.heap.size + 1, 0, none⟩ (.slice A5 ps.length c5)).cell? ⟨w.heap.size + 1, 0, none⟩ = some (.slice A5 ps.length c5) := World.cell?_setCell_same _ _ _ cr
      clear hN G
      go_wp2
      exact bodyPost_ret (v := .agg #[.slice A5 ps.length c5]) (by simp [results, Try.results55, go_sem, z5]) rfl ⟨_, ps, rfl, HN.out, D5.out, E5.out⟩
set_option maxRecDepth 100000 in
set_option maxHeartbeats 8000000 in
theorem iCopyG_c (A : Option Addr) (ds : List (List DRule)) (c : Nat) (w : World) (h : RdG w A ds c) (hz : szG ds ≤ 1048576) :
    Calls Try.prog 60 #[vdesc (.slice A ds.length c)] w fun e w' => ∃ v ps, e = .returned (vdesc v) ∧ descsOf ps = ds ∧ OwnG w w' v ps ∧ Ext w w' := by
  have hn : ds.length ≤ 1048576 := by unfold szG at hz; omega
  have HZ : Hid (∀ k (hk : k < ds.length), szD ds[k] ≤ 1048576) := fun k hk => szG_mem hz (List.getElem_mem hk)
  obtain ⟨W0, HW0, HP, HR, e0, hsA⟩ := boxes2' w #[.slice A ds.length c] #[.slice none 0 0] 32 32
  have HSA := Lib.hid hsA; clear hsA
  have HH := Lib.hid h; clear h
  unfold vdesc
  go_enter Try.func60, Try.ntmps60
  go_wp2_with (first
    | (at_make; go_must (rw [← HW0.out]; refine wpList_mk0 rfl _ _ _ rfl E_desc' W0 W0 (Ext.refl W0) (ds.length + 1) rfl rfl (by omega) (by simp [maxLen]; omega) ?_); intro w1 ho he; have cp1 : _ = some (Value.slice A ds.length c) := (HP.ext he).cell 0; have cp2 : _ = some (Value.slice A ds.length c) := ((HP.ext he).ext (Ext_alloc (.cells #[.slice (some ⟨W0.heap.size, 0, none⟩) 0 (ds.length + 1)] 32) (Ext.refl w1))).cell 0))
  have x1 := Ext_alloc (.cells #[.slice (some ⟨W0.heap.size, 0, none⟩) 0 (ds.length + 1)] 32) (Ext.refl w1)
  have hg3 : W0.heap.size < w1.heap.size := (World.ownsRow.lt ho _ rfl).2
  have HP1 := Lib.hid ((HP.ext he).ext x1); have HR1 := Lib.hid ((HR.ext he).ext x1)
  have HO1 := Lib.hid (Box.new w1 #[.slice (some ⟨W0.heap.size, 0, none⟩) 0 (ds.length + 1)] 32)
  have OD1 : Hid (OwnG W0 (w1.alloc (.cells #[.slice (some ⟨W0.heap.size, 0, none⟩) 0 (ds.length + 1)] 32)) (.slice (some ⟨W0.heap.size, 0, none⟩) 0 (ds.length + 1)) []) := ⟨Own.ext ho x1, fun p hp => by simp at hp, Far.one _⟩
  have NF1 : Hid (∀ u ∈ (Value.slice (some ⟨W0.heap.size, 0, none⟩) 0 (ds.length + 1)) :: (([] : List (Value × List RV)).flatMap fun q => q.1 :: q.2.flatMap RV.vals), u.ownBlock ≠ some w1.heap.size) := by
    intro u hu hh
    simp only [List.flatMap_nil, List.mem_cons, List.not_mem_nil, or_false] at hu
    subst hu; injection hh with hh; exact absurd hh (Nat.ne_of_lt hg3)
  have e1 := (e0.trans he).trans x1
  have hs1 : W0.heap.size ≤ (w1.alloc (.cells #[.slice (some ⟨W0.heap.size, 0, none⟩) 0 (ds.length + 1)] 32)).heap.size := by rw [World.size_alloc]; omega
  clear ho he x1 e0 HP HR
  go_loopw [15] (fun ix wr => ∃ (k : Nat) (ps : List (Value × List RV)) (v : Value), k ≤ ds.length ∧ ix = .int .i64 k ∧ ps.length ≤ k ∧ k ≤ ps.length ∧ Hid (descsOf ps = ds.take k) ∧ Hid (OwnG W0 wr v ps) ∧ Hid (Box wr w.heap.size #[.slice A ds.length c] 32) ∧ Hid (Box wr (w.heap.size + 1) #[.slice none 0 0] 32) ∧ Hid (Box wr w1.heap.size #[v] 32) ∧ Hid (∀ u ∈ v :: (ps.flatMap fun q => q.1 :: q.2.flatMap RV.vals), u.ownBlock ≠ some w1.heap.size) ∧ Ext w wr ∧ W0.heap.size ≤ wr.heap.size) (fun ix _ => ds.length - (intOf ix).toNat)
  case atStart => exact ⟨0, [], _, by omega, rfl, by simp, by simp, by simp [Hid, descsOf], OD1, HP1, HR1, HO1, NF1, e1, hs1⟩
  case round =>
    clear OD1 HP1 HR1 HO1 NF1 e1 hs1 HW0 cp1 cp2
    obtain ⟨k, ps, v, hk, rfl, hl1, hl2, hps, hod, hbp, hbr, hbo, hnf, he, hsz⟩ := hrel
    by_cases hlt : k < ds.length
    · obtain ⟨b, off, Ad, cd, hA, hb, hs, k0⟩ := HH.out.at k hlt
      subst hA
      have hzk := HZ.out k hlt
      have HT : Hid (ds.take (k+1) = ds.take k ++ [ds[k]]) := List.take_succ_eq_append_getElem hlt
      generalize ds[k] = r at *
      have C := Lib.hid (fun w h => iCopyD_c Ad r cd w h hzk)
      unfold vdesc at C
      have xr := Ext_alloc (.cells #[.slice Ad r.length cd] 38) (Ext.refl wr)
      have hd0 := he.trans xr
      have hd := Ext_drew hd0
      have xd := xr.trans (Ext_drew (Ext.refl (wr.alloc (.cells #[.slice Ad r.length cd] 38))))
      have cv : _ = some v := (hbo.out.ext xd).cell 0
      have hbx := Lib.hid ((Box.new wr #[.slice Ad r.length cd] 38).ext (Ext_drew (Ext.refl (wr.alloc (.cells #[.slice Ad r.length cd] 38)))))
      have cx := hbx.out.cell
      have HS := Lib.hid hs
      have hbod := Lib.hid (hbo.out.ext xd)
      have hodd := Lib.hid (hod.out.ext xd)
      have hg3w := hbo.out.lt
      have hszd : Hid (W0.heap.size ≤ (wr.alloc (.cells #[.slice Ad r.length cd] 38)).drew.heap.size) := by show _ ≤ _; rw [size_drew, World.size_alloc]; omega
      clear hs
      have b1 : (0 : Int) ≤ (k : Int) := by omega
      have b2 : (k : Int) < (ds.length : Int) := by omega
      go_wp2_with fail
      go_region_law (first
        | (go_simp; go_at_call 63; refine (C.out _ (HS.out.ext hd)).mono ?_; rintro _ w2 ⟨vq, pq, rfl, hrr, hro, he2⟩; obtain ⟨Aq, cq, hvq⟩ := hro.shape; subst hvq; have hro := Lib.hid hro; have hrr := Lib.hid hrr; have hbo3 := Lib.hid ((hbod.out.ext he2).ext (Ext_alloc (.cells #[.slice Aq pq.length cq] 38) (Ext.refl w2))); have c2 : _ = some v := (hbod.out.ext he2).cell 0; have c3 : _ = some v := hbo3.out.cell 0; have hsz2 : Hid (W0.heap.size ≤ (w2.alloc (.cells #[.slice Aq pq.length cq] 38)).heap.size) := (by have h1 := he2.size; have h2 := hszd.out; show _ ≤ _; rw [World.size_alloc]; omega); have hNv : Hid (v.ownBlock ≠ some w1.heap.size) := hnf.out v (List.mem_cons_self ..))
        | (refine step_app8 rfl (.tmp 20) (.tmp 23) _ rfl E_desc' W0 (w2.alloc (.cells #[.slice Aq pq.length cq] 38)) v ps.length (ps.map Prod.fst) rfl (Own.ext (Own.ext hodd.out.row he2) (Ext_alloc _ (Ext.refl _))) hsz2.out ⟨w2.heap.size, 0, none⟩ 1 1 [.slice Aq pq.length cq] rfl rfl (fun j u hu => (World.cell?_alloc_at' w2 [.slice Aq pq.length cq] 38 j).trans hu) (fun u hu => by simp only [List.mem_singleton] at hu; subst hu; rfl) (by simp [maxLen]; omega) (by omega) ?_; intro v4 w4 ho4 hg4 hv4; have hbo4 := Lib.hid (Box.moved (hbo3.out) hg4 hNv.out); have c4 := hbo4.out.cell 0; have f4 := hbo4.out.free 0; have HO4 := Lib.hid (OwnG.snoc (q := (Value.slice Aq pq.length cq, pq)) hodd.out he2 hro.out hszd.out ho4 hg4 hv4); have HG4 := Lib.hid hg4; have HV4 := Lib.hid hv4; clear ho4 hg4 hv4; obtain ⟨A4, q4, hA4⟩ := HO4.out.shape; replace hA4 : v4 = .slice A4 (ps.length + 1) q4 := (by rw [hA4, List.length_append]; rfl); subst hA4))
      all_goals
        have hW := HSA.out
        have x3 := Ext_alloc (.cells #[.slice Aq pq.length cq] 38) (Ext.refl w2)
        have bV : ∀ g, v.ownBlock = some g → w.heap.size + 2 ≤ g := fun g hg => by have := (hod.out.block v (List.mem_cons_self ..) g hg).1; omega
        have e4 := ((hd.trans he2).trans x3).grown HG4.out (fun g hg => by have := bV g hg; omega)
        have P5 : Hid (Box (w4.setCell ⟨w1.heap.size, 0, none⟩ (.slice A4 (ps.length + 1) q4)) w.heap.size #[.slice (some ⟨b, off, none⟩) ds.length c] 32) := (((hbp.out.ext (xd.trans he2)).ext x3).moved HG4.out (fun hh => by have := bV _ hh; omega)).other (by omega) 0 _
        have R5 : Hid (Box (w4.setCell ⟨w1.heap.size, 0, none⟩ (.slice A4 (ps.length + 1) q4)) (w.heap.size + 1) #[.slice none 0 0] 32) := (((hbr.out.ext (xd.trans he2)).ext x3).moved HG4.out (fun hh => by have := bV _ hh; omega)).other (by omega) 0 _
        have O5 : Hid (Box (w4.setCell ⟨w1.heap.size, 0, none⟩ (.slice A4 (ps.length + 1) q4)) w1.heap.size #[.slice A4 (ps.length + 1) q4] 32) := hbo4.out.set 0 (.slice A4 (ps.length + 1) q4)
        have NF5 : Hid (∀ u ∈ (Value.slice A4 (ps.length + 1) q4) :: (ps ++ [(Value.slice Aq pq.length cq, pq)]).flatMap fun q => q.1 :: q.2.flatMap RV.vals, u.ownBlock ≠ some w1.heap.size) := by
          intro u hu hh
          have hx2 := he2.size
          rw [size_drew, World.size_alloc] at hx2
          rcases List.mem_cons.1 hu with rfl | hu
          · rcases HV4.out with h4 | h4
            · rw [h4] at hh; exact hNv.out hh
            · rw [h4] at hh; injection hh with hh; rw [World.size_alloc] at hh; omega
          · rw [List.flatMap_append] at hu
            rcases List.mem_append.1 hu with hu | hu
            · exact hnf.out u (List.mem_cons_of_mem _ hu) hh
            · rw [List.flatMap_cons, List.flatMap_nil, List.append_nil] at hu
              have h4 := (hro.out.block u hu _ hh).1
              rw [size_drew, World.size_alloc] at h4; omega
        have D5 : Hid (OwnG W0 (w4.setCell ⟨w1.heap.size, 0, none⟩ (.slice A4 (ps.length + 1) q4)) (.slice A4 (ps.length + 1) q4) (ps ++ [(Value.slice Aq pq.length cq, pq)])) := HO4.out.keep (grown_set w4 ⟨w1.heap.size, 0, none⟩ _) (fun u hu g hg hh => by injection hh with hh; subst hh; exact NF5.out u hu hg)
        have E5 : Hid (Ext w (w4.setCell ⟨w1.heap.size, 0, none⟩ (.slice A4 (ps.length + 1) q4))) := e4.setCell (p := ⟨w1.heap.size, 0, none⟩) (by show w.heap.size ≤ w1.heap.size; omega) _
        have S5 : Hid (W0.heap.size ≤ (w4.setCell ⟨w1.heap.size, 0, none⟩ (.slice A4 (ps.length + 1) q4)).heap.size) := by
          have h1 := HG4.out.size; have h2 := hsz2.out
          show _ ≤ _; simp only [World.size_setCell]; omega
        have N5 : Hid (descsOf (ps ++ [(Value.slice Aq pq.length cq, pq)]) = ds.take (k + 1)) := by show _ = _; rw [descsOf_append, hps.out, HT.out]; simp [descsOf, hrr.out]
        clear hW x3 bV e4
        go_wp2
        go_roundw
        case rel => exact ⟨k + 1, ps ++ [(Value.slice Aq pq.length cq, pq)], _, by omega, by go_num, by simp; omega, by simp; omega, N5, D5, P5, R5, O5, NF5, E5.out, S5.out⟩
        case measure => simp [intOf]; omega
    · obtain rfl : k = ds.length := by omega
      obtain ⟨A5, c5, hA5⟩ := hod.out.shape
      subst hA5
      have hN : descsOf ps = ds := by rw [hps.out, List.take_length]
      have HN := Lib.hid hN
      have cv : _ = some (Value.slice A5 ps.length c5) := hbo.out.cell 0
      have cr : _ = some (Value.slice none 0 0) := hbr.out.cell 0
      have fr := hbr.out.free 0
      have G := grown_set wr ⟨w.heap.size + 1, 0, none⟩ (.slice A5 ps.length c5)
      have D5 : Hid (OwnG w (wr.setCell ⟨w.heap.size + 1, 0, none⟩ (.slice A5 ps.length c5)) (.slice A5 ps.length c5) ps) := (hod.out.keep G (fun u hu g hg hh => by have h1 := (hod.out.block u hu g hg).1; have := HSA.out; injection hh with hh; simp at hh; omega)).down (by have := HSA.out; omega)
      have E5 : Hid (Ext w (wr.setCell ⟨w.heap.size + 1, 0, none⟩ (.slice A5 ps.length c5))) := he.setCell (p := ⟨w.heap.size + 1, 0, none⟩) (by show w.heap.size ≤ w.heap.size + 1; omega) _
      have z5 : (wr.setCell ⟨w.heap.size + 1, 0, none⟩ (.slice A5 ps.length c5)).cell? ⟨w.heap.size + 1, 0, none⟩ = some (.slice A5 ps.length c5) := World.cell?_setCell_same _ _ _ cr
      clear hN G
      go_wp2
      exact bodyPost_ret (v := .agg #[.slice A5 ps.length c5]) (by simp [results, Try.results60, go_sem, z5]) rfl ⟨_, ps, rfl, HN.out, D5.out, E5.out⟩
end Go.Proofs.Ytlaejcacembjiaa
