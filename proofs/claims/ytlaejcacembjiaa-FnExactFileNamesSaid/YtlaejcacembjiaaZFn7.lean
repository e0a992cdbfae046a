/- The laws' marks laid over registries. -/
import Derived.Test.YtlaejcacembjiaaZFn6
set_option linter.unusedVariables false
set_option linter.unusedSimpArgs false
namespace Go.Proofs.Ytlaejcacembjiaa
open Go.RowKit Go.Sort

/-- w' is w with new blocks, and writes to blocks of B -/
structure WroteB (B : Nat → Prop) (w w' : World) : Prop where
  os : w'.os = w.os
  tape : w'.tape = w.tape
  output : w'.output = w.output
  size : w.heap.size ≤ w'.heap.size
  block : ∀ k, k < w.heap.size → ¬ B k → w'.heap[k]? = w.heap[k]?
theorem WroteB.refl (B : Nat → Prop) (w : World) : WroteB B w w := ⟨rfl, rfl, rfl, Nat.le_refl _, fun _ _ _ => rfl⟩
theorem WroteB.trans {B : Nat → Prop} {a b c : World} (h : WroteB B a b) (k : WroteB B b c) : WroteB B a c :=
  ⟨k.os.trans h.os, k.tape.trans h.tape, k.output.trans h.output, Nat.le_trans h.size k.size, fun i hi hb => (k.block i (Nat.lt_of_lt_of_le hi h.size) hb).trans (h.block i hi hb)⟩
theorem WroteB.mono {B C : Nat → Prop} {a b : World} (h : WroteB B a b) (hC : ∀ k, B k → C k) : WroteB C a b := ⟨h.os, h.tape, h.output, h.size, fun i hi hb => h.block i hi (fun hB => hb (hC i hB))⟩
theorem WroteB.grown {B : Nat → Prop} {w w' : World} {row : Option Nat} (h : w.grownBy w' row) (hr : ∀ g, row = some g → B g) : WroteB B w w' :=
  ⟨h.os, h.tape, h.output, h.size, fun i hi hb => h.block i hi (fun e => hb (hr i e.symm))⟩
theorem WroteB.ext {B : Nat → Prop} {w w' : World} (e : Ext w w') : WroteB B w w' := ⟨e.os, e.tape, e.output, e.size, fun i hi _ => Below.block e i hi⟩
theorem WroteB.wrote {B : Nat → Prop} {lo hi : Nat} {w w' : World} (h : WroteB B w w') (hB : ∀ k, B k → lo ≤ k ∧ k < hi) : Wrote lo hi w w' :=
  ⟨h.os, h.tape, h.output, h.size, fun k hk hn => h.block k hk (fun hb => by have := hB k hb; omega)⟩
theorem Own.wroteB {e : TypeId} {size : Nat} {w0 w w' : World} {v : Value} {n : Nat} {xs : List Value} (h : Own e size w0 w v n xs) {B : Nat → Prop} (hw : WroteB B w w') (hv : ∀ g, v.ownBlock = some g → ¬ B g) : Own e size w0 w' v n xs := by
  refine ⟨h.1, ?_⟩
  rcases h.2 with h0 | ⟨g, cap, cur, rfl, hb, hg, r⟩
  · exact .inl h0
  · exact .inr ⟨g, cap, cur, rfl, hb, (hw.block g (Array.getElem?_eq_some_iff.1 hg).1 (hv g rfl)).trans hg, r⟩
theorem OwnL.wroteB {α : Type} {f : α → Value} {e : TypeId} {w0 w w' : World} {v : Value} {l : List α} (h : OwnL f e w0 w v l) {B : Nat → Prop} (hw : WroteB B w w') (hv : ∀ g, v.ownBlock = some g → ¬ B g) : OwnL f e w0 w' v l := Own.wroteB h hw hv
theorem RuleOwn.wroteB {w0 w w' : World} {p : RV} (h : RuleOwn w0 w p) {B : Nat → Prop} (hw : WroteB B w w') (hv : ∀ v ∈ p.vals, ∀ g, v.ownBlock = some g → ¬ B g) : RuleOwn w0 w' p :=
  ⟨h.b.wroteB hw (hv _ (by simp [RV.vals])), h.n.wroteB hw (hv _ (by simp [RV.vals])), h.t.wroteB hw (hv _ (by simp [RV.vals])), h.k.wroteB hw (hv _ (by simp [RV.vals]))⟩
theorem OwnD.wroteB {w0 w w' : World} {v : Value} {ps : List RV} (h : OwnD w0 w v ps) {B : Nat → Prop} (hw : WroteB B w w') (hv : ∀ u ∈ v :: ps.flatMap RV.vals, ∀ g, u.ownBlock = some g → ¬ B g) : OwnD w0 w' v ps :=
  ⟨h.row.wroteB hw (hv _ (by simp)), fun p hp => (h.each p hp).wroteB hw (fun u hu => hv u (List.mem_cons_of_mem _ (List.mem_flatMap.2 ⟨p, hp, hu⟩))), h.far⟩
set_option maxRecDepth 100000 in
set_option maxHeartbeats 8000000 in
theorem markRuleS_b (g c : Nat) (ps : List RV) (k : Nat) (w0 w : World) (B : Nat → Prop) (h : OwnD w0 w (.slice (some ⟨g, 0, none⟩) ps.length c) ps) (hB : ∀ u ∈ (Value.slice (some ⟨g, 0, none⟩) ps.length c) :: ps.flatMap RV.vals, ∀ b, u.ownBlock = some b → B b) (hk : 0 < k) (hk2 : kEndR k ps ≤ 1099511627776) (hs : ∀ p ∈ ps, ShortR p.r) :
    Calls Try.prog 67 #[.slice (some ⟨g, 0, none⟩) ps.length c, .int .i64 k] w fun e w' => e = .returned (.int .i64 (kEndR k ps : Nat)) ∧ MarkingR w0 w' g c ps k ps.length ∧ WroteB B w w' := by
  obtain ⟨f1, f2, f3⟩ := far_parts h.far
  have HF1 := Lib.hid (fun j hj u hu => f1 j hj u hu g rfl); have HF2 := Lib.hid f2; have HF3 := Lib.hid f3
  have hgB := hB _ (List.mem_cons_self ..) g rfl
  have HB : Hid (∀ p ∈ ps, ∀ v ∈ p.vals, ∀ b, v.ownBlock = some b → B b) := fun p hp v hv b hb => hB v (List.mem_cons_of_mem _ (List.mem_flatMap.2 ⟨p, hp, hv⟩)) b hb
  have HM : Hid (MarkingR w0 w g c ps k 0) := ⟨by simpa [msR] using h.row, fun j _ hj => by omega, fun j hj _ => h.each _ (List.getElem_mem hj)⟩
  have hn : ps.length ≤ 140737488351232 := by
    rw [kEndR_eq] at hk2
    have := len_mlen ps
    omega
  clear h f1 f2 f3 hB
  go_enter Try.func67, Try.ntmps67
  go_wp2
  go_loopw [1, 5] (fun kk i wr => ∃ j : Nat, j ≤ ps.length ∧ i = .int .i64 j ∧ kk = .int .i64 (kEndR k (ps.take j) : Nat) ∧ Hid (MarkingR w0 wr g c ps k j) ∧ WroteB B w wr) (fun _ i _ => ps.length - (intOf i).toNat)
  case atStart => exact ⟨0, by omega, rfl, rfl, HM, WroteB.refl _ _⟩
  case round =>
    clear HM
    obtain ⟨j, hj, rfl, rfl, hm, hw⟩ := hrel
    by_cases hlt : j < ps.length
    · have HKn : Hid (kEndR k (ps.take (j+1)) = kEndR k (ps.take j) + mlen ps[j].r) := by
        show _ = _; rw [List.take_succ_eq_append_getElem hlt, kEndR_append]; rfl
      have hKe := kEndR_mono k ps (j+1)
      rw [HKn.out] at hKe
      have hK0 := kEndR_ge k (ps.take j)
      have hsj := hs _ (List.getElem_mem hlt)
      have hbj := HB.out _ (List.getElem_mem hlt)
      obtain ⟨m1, m2, m3⟩ := hm.out
      have hrj := m3 j hlt (Nat.le_refl _)
      have hdrop : ps.drop j = ps[j] :: ps.drop (j+1) := List.drop_eq_getElem_cons hlt
      rw [hdrop] at m1
      have hml : (msR k (ps.take j)).length = j := by rw [msR_length, List.length_take]; omega
      have hrow := mark_rowR (msR k (ps.take j)) ps[j] (ps.drop (j+1)) (kEndR k (ps.take j)) j hml
      have hnext : msR k (ps.take j) ++ [(kEndR k (ps.take j), ps[j])] = msR k (ps.take (j+1)) := by
        rw [List.take_succ_eq_append_getElem hlt, msR_append]; rfl
      have hget := fun m hm => mk_getR (msR k (ps.take j)) (kEndR k (ps.take j)) ps[j] ((ps.drop (j+1)).flatMap RV.cells) j m hml hm
      have HF1j := Lib.hid (HF1.out j hlt)
      have HF2j : Hid (∀ i (hi : i < ps.length), i ≠ j → ∀ u ∈ ps[i].vals, ∀ x ∈ ps[j].vals, ∀ b, x.ownBlock = some b → u.ownBlock ≠ some b) := fun i hi hne u hu x hx b hb hb' => HF2.out i j hi hlt hne u hu x hx b hb' hb
      have HF3j := Lib.hid (HF3.out j hlt)
      have HNX : Hid (MarkingR w0 wr g c ps k j) := hm
      rw [hnext] at hrow hget
      obtain ⟨K, hK⟩ : ∃ K, kEndR k (ps.take j) = K := ⟨_, rfl⟩
      rw [hK] at hrow hget hKe hK0 HKn
      have HK := Lib.hid hK
      have hgx := cells_getR (msR k (ps.take j)) ps[j] (ps.drop (j+1)) j 4 hml (by omega)
      obtain ⟨xs, hxs⟩ : ∃ xs, (msR k (ps.take j)).flatMap mkCells ++ (ps[j] :: ps.drop (j+1)).flatMap RV.cells = xs := ⟨_, rfl⟩
      rw [hxs] at m1 hrow hgx
      simp only [RV.cells, List.getElem?_cons_succ, List.getElem?_cons_zero] at hgx
      obtain ⟨ys, hys⟩ : ∃ ys, (msR k (ps.take (j+1))).flatMap mkCells ++ (ps.drop (j+1)).flatMap RV.cells = ys := ⟨_, rfl⟩
      have HYS := Lib.hid hys
      rw [hys] at hrow hget
      have hxl : xs.length = ps.length * 8 := m1.1
      obtain ⟨Ab, cb, An, cn, At, ct, Ak, ck, v1, v2, v3, v4, _⟩ := hrj.rd hsj
      have HG4 := hget 4 (by omega); have HG5 := hget 5 (by omega); have HG6 := hget 6 (by omega); have HG7 := hget 7 (by omega)
      simp only [mkCells, List.getElem?_cons_succ, List.getElem?_cons_zero] at HG4 HG5 HG6 HG7
      rw [v1] at hgx
      have HGX := Lib.hid hgx
      rw [v1] at HG4; rw [v2] at HG5; rw [v3] at HG6; rw [v4] at HG7
      have L4 := Lib.hid HG4; have L5 := Lib.hid HG5; have L6 := Lib.hid HG6; have L7 := Lib.hid HG7
      have HR := Lib.hid hrow; have Hm1 := Lib.hid m1; have Hm2 := Lib.hid m2; have Hm3 := Lib.hid m3; have HXL := Lib.hid hxl; have V1 := Lib.hid v1; have V2 := Lib.hid v2; have V3 := Lib.hid v3; have V4 := Lib.hid v4
      have HBJ := Lib.hid hbj; have HRJ := Lib.hid hrj
      have hmlen : mlen ps[j].r = 4 + ps[j].r.bytes.length + ps[j].r.names.length + ps[j].r.tags.length + ps[j].r.kids.length := rfl
      have HML := Lib.hid hmlen
      rw [hmlen] at hKe
      have HSJ := Lib.hid hsj
      have MT : Hid (∀ w, Gives Try.prog 83 #[.int .i64 (K : Int)] w (.string (markT K))) := fun w => markText_c K w (by omega) (by omega)
      rw [hK]
      clear hgx hrow m1 m2 m3 hxs hys hget HG4 HG5 HG6 HG7 v1 v2 v3 v4 hdrop hml hnext hK hxl hbj hrj hmlen hsj hm
      have hr0 := Hm1.out
      have hxl := HXL.out
      go_wp2_with fail
      refine (MT.out _).mono ?_; rintro _ w1 ⟨rfl, he1⟩
      have hr1 := Own.ext Hm1.out he1
      obtain ⟨⟨u0, hu0⟩, hf0⟩ := hr1.slot (j * 8) (by rw [hxl]; omega)
      obtain ⟨⟨u1, hu1⟩, hf1⟩ := hr1.slot (j * 8 + 1) (by rw [hxl]; omega)
      obtain ⟨⟨u2, hu2⟩, hf2⟩ := hr1.slot (j * 8 + 2) (by rw [hxl]; omega)
      obtain ⟨⟨u3, hu3⟩, hf3⟩ := hr1.slot (j * 8 + 3) (by rw [hxl]; omega)
      have hu4 : w1.cell? ⟨g, j * 8 + 4, none⟩ = some (.slice Ab ps[j].r.bytes.length cb) := by rw [hr1.cellAt (j * 8 + 4) (by omega)]; exact HGX.out
      have HO1 : Hid (Own 76 8 w0 ((((w1.setCell ⟨g, j * 8, none⟩ (.string (markT K))).setCell ⟨g, j * 8 + 1, none⟩ (.int .i64 ((K : Int) + 1))).setCell ⟨g, j * 8 + 2, none⟩ (.int .i64 ((K : Int) + 2))).setCell ⟨g, j * 8 + 3, none⟩ (.bool (((K : Int) + 3) % 3 == 0))) (.slice (some ⟨g, 0, none⟩) ps.length c) ps.length ys) := by
        have := (((hr1.stored (j * 8) (.string (markT K))).1.stored (j * 8 + 1) (.int .i64 ((K : Int) + 1))).1.stored (j * 8 + 2) (.int .i64 ((K : Int) + 2))).1.stored (j * 8 + 3) (.bool (((K : Int) + 3) % 3 == 0))
        have := this.1
        rw [HR.out] at this
        exact this
      have G1 : Hid (wr.grownBy ((((w1.setCell ⟨g, j * 8, none⟩ (.string (markT K))).setCell ⟨g, j * 8 + 1, none⟩ (.int .i64 ((K : Int) + 1))).setCell ⟨g, j * 8 + 2, none⟩ (.int .i64 ((K : Int) + 2))).setCell ⟨g, j * 8 + 3, none⟩ (.bool (((K : Int) + 3) % 3 == 0))) (some g)) :=
        ((((grown_ext he1 (some g)).trans (grown_set _ ⟨g, j * 8, none⟩ _)).trans (grown_set _ ⟨g, j * 8 + 1, none⟩ _)).trans (grown_set _ ⟨g, j * 8 + 2, none⟩ _)).trans (grown_set _ ⟨g, j * 8 + 3, none⟩ _)
      clear hr1 hr0
      go_wp2_with fail
      rw [show (K : Int) + 1 + 1 + 1 + 1 = (K : Int) + 4 by omega, show (K : Int) + 1 + 1 + 1 = (K : Int) + 3 by omega, show (K : Int) + 1 + 1 = (K : Int) + 2 by omega]
      generalize ((((w1.setCell ⟨g, j * 8, none⟩ (.string (markT K))).setCell ⟨g, j * 8 + 1, none⟩ (.int .i64 ((K : Int) + 1))).setCell ⟨g, j * 8 + 2, none⟩ (.int .i64 ((K : Int) + 2))).setCell ⟨g, j * 8 + 3, none⟩ (.bool (((K : Int) + 3) % 3 == 0))) = W1 at *
      clear hu0 hu1 hu2 hu3 hf0 hf1 hf2 hf3 hu4
      have R1 := Lib.hid (HRJ.out.keep G1.out (fun v hv b hb he => HF1j.out v hv (hb.trans he.symm)))
      obtain ⟨d1, d2, d3, d4, d5, d6⟩ := far4 HF3j.out
      have D1 := Lib.hid d1; have D2 := Lib.hid d2; have D3 := Lib.hid d3; have D4 := Lib.hid d4; have D5 := Lib.hid d5; have D6 := Lib.hid d6
      clear d1 d2 d3 d4 d5 d6
      have ob := R1.out.b
      rw [V1.out] at ob
      refine (markByteS_c Ab _ cb ((K : Int) + 4) _ w0 _ ob (by omega) (by omega)).mono ?_; rintro _ w2 ⟨rfl, om1, g2⟩
      rw [← V1.out] at om1 g2
      have M1 := Lib.hid om1; have G2 := Lib.hid g2
      have HO2 := Lib.hid (HO1.out.keep g2 (fun b hb he => HF1j.out ps[j].vb (by simp [RV.vals]) (he.trans hb.symm)))
      have c5 : w2.cell? ⟨g, j * 8 + 5, none⟩ = some (.slice An ps[j].r.names.length cn) := by rw [HO2.out.cellAt (j * 8 + 5) (by omega)]; exact L5.out
      clear ob om1 g2
      go_wp2_with fail
      rw [show (K : Int) + 4 + (ps[j].r.bytes.length : Int) = ((K + 4 + ps[j].r.bytes.length : Nat) : Int) by omega]
      have on := R1.out.n.keep G2.out (fun b hb he => D1.out b he hb)
      rw [V2.out] at on
      refine (markStringS_c An _ cn (K + 4 + ps[j].r.bytes.length) _ w0 _ on (by omega) (by omega)).mono ?_; rintro _ w3 ⟨rfl, om2, g3⟩
      rw [← V2.out] at om2 g3
      have M2 := Lib.hid om2; have G3 := Lib.hid g3
      have HO3 := Lib.hid (HO2.out.keep g3 (fun b hb he => HF1j.out ps[j].vn (by simp [RV.vals]) (he.trans hb.symm)))
      have c6 : w3.cell? ⟨g, j * 8 + 6, none⟩ = some (.slice At ps[j].r.tags.length ct) := by rw [HO3.out.cellAt (j * 8 + 6) (by omega)]; exact L6.out
      clear on om2 g3 c5
      go_wp2_with fail
      have ot := (R1.out.t.keep G2.out (fun b hb he => D2.out b he hb)).keep G3.out (fun b hb he => D4.out b he hb)
      rw [V3.out] at ot
      refine (markIntS_c At _ ct ((K + 4 + ps[j].r.bytes.length + ps[j].r.names.length : Nat) : Int) _ w0 _ ot (by omega) (by omega)).mono ?_; rintro _ w4 ⟨rfl, om3, g4⟩
      rw [← V3.out] at om3 g4
      have M3 := Lib.hid om3; have G4 := Lib.hid g4
      have HO4 := Lib.hid (HO3.out.keep g4 (fun b hb he => HF1j.out ps[j].vt (by simp [RV.vals]) (he.trans hb.symm)))
      have c7 : w4.cell? ⟨g, j * 8 + 7, none⟩ = some (.slice Ak ps[j].r.kids.length ck) := by rw [HO4.out.cellAt (j * 8 + 7) (by omega)]; exact L7.out
      clear ot om3 g4 c6
      go_wp2_with fail
      first
        | rw [show ((K + 4 + ps[j].r.bytes.length + ps[j].r.names.length : Nat) : Int) + (ps[j].r.tags.length : Int) = ((K + 4 + ps[j].r.bytes.length + ps[j].r.names.length + ps[j].r.tags.length : Nat) : Int) by omega]
        | rw [show (K : Int) + 4 + (ps[j].r.bytes.length : Int) + (ps[j].r.names.length : Int) + (ps[j].r.tags.length : Int) = ((K + 4 + ps[j].r.bytes.length + ps[j].r.names.length + ps[j].r.tags.length : Nat) : Int) by omega]
        | trace_state
      have okk := ((R1.out.k.keep G2.out (fun b hb he => D3.out b he hb)).keep G3.out (fun b hb he => D5.out b he hb)).keep G4.out (fun b hb he => D6.out b he hb)
      rw [V4.out] at okk
      refine (markIntS_c Ak _ ck ((K + 4 + ps[j].r.bytes.length + ps[j].r.names.length + ps[j].r.tags.length : Nat) : Int) _ w0 _ okk (by omega) (by omega)).mono ?_; rintro _ w5 ⟨rfl, om4, g5⟩
      rw [← V4.out] at om4 g5
      have M4 := Lib.hid om4; have G5 := Lib.hid g5
      have HO5 := Lib.hid (HO4.out.keep g5 (fun b hb he => HF1j.out ps[j].vk (by simp [RV.vals]) (he.trans hb.symm)))
      clear okk om4 g5 c7
      have hfin : MarkingR w0 w5 g c ps k (j + 1) := by
        refine ⟨by rw [HYS.out]; exact HO5.out, fun i hi' hij => ?_, fun i hi' hij => ?_⟩
        · rcases Nat.lt_or_ge i j with hlt' | hge
          · have q := HF2j.out i hi' (by omega)
            exact ((((((Hm2.out i hi' hlt').keep G1.out (fun v hv b hb he => HF1.out i hi' v hv (hb.trans he.symm))).keep G2.out (fun v hv b hb he => q v hv _ (by simp [RV.vals]) b he hb)).keep G3.out (fun v hv b hb he => q v hv ps[j].vn (by simp [RV.vals]) b he hb)).keep G4.out (fun v hv b hb he => q v hv ps[j].vt (by simp [RV.vals]) b he hb)).keep G5.out (fun v hv b hb he => q v hv ps[j].vk (by simp [RV.vals]) b he hb))
          · obtain rfl : i = j := by omega
            rw [HK.out]
            exact ⟨((M1.out.keep G3.out D1.out).keep G4.out D2.out).keep G5.out D3.out, (M2.out.keep G4.out D4.out).keep G5.out D5.out, M3.out.keep G5.out D6.out, M4.out⟩
        · have q := HF2j.out i hi' (by omega)
          exact ((((((Hm3.out i hi' (by omega)).keep G1.out (fun v hv b hb he => HF1.out i hi' v hv (hb.trans he.symm))).keep G2.out (fun v hv b hb he => q v hv _ (by simp [RV.vals]) b he hb)).keep G3.out (fun v hv b hb he => q v hv ps[j].vn (by simp [RV.vals]) b he hb)).keep G4.out (fun v hv b hb he => q v hv ps[j].vt (by simp [RV.vals]) b he hb)).keep G5.out (fun v hv b hb he => q v hv ps[j].vk (by simp [RV.vals]) b he hb))
      have HFIN := Lib.hid hfin
      have HWR : Hid (WroteB B w w5) := (((((hw.trans (WroteB.grown G1.out (fun b hb => by injection hb with hb; subst hb; exact hgB))).trans (WroteB.grown G2.out (fun b hb => HBJ.out _ (by simp [RV.vals]) b hb))).trans (WroteB.grown G3.out (fun b hb => HBJ.out _ (by simp [RV.vals]) b hb))).trans (WroteB.grown G4.out (fun b hb => HBJ.out _ (by simp [RV.vals]) b hb))).trans (WroteB.grown G5.out (fun b hb => HBJ.out _ (by simp [RV.vals]) b hb)))
      clear hfin
      go_wp2
      go_roundw
      case rel => exact ⟨j + 1, by omega, by go_num, by rw [HKn.out, HML.out]; go_num, HFIN, HWR.out⟩
      case measure => simp [intOf]; omega
    · obtain rfl : j = ps.length := by omega
      go_wp2
      go_ret
      rw [List.take_length]
      exact ⟨rfl, hm.out, hw⟩
/-- .. of a nil slice too -/
theorem markRuleS_any (v : Value) (ps : List RV) (k : Nat) (w0 w : World) (B : Nat → Prop) (h : OwnD w0 w v ps) (hB : ∀ u ∈ v :: ps.flatMap RV.vals, ∀ b, u.ownBlock = some b → B b) (hk : 0 < k) (hk2 : kEndR k ps ≤ 1099511627776) (hs : ∀ p ∈ ps, ShortR p.r) :
    Calls Try.prog 67 #[v, .int .i64 k] w fun e w' => e = .returned (.int .i64 (kEndR k ps : Nat)) ∧ WroteB B w w' := by
  rcases h.row.2 with ⟨hv, h0⟩ | ⟨g, cap, cur, hv, _⟩
  · subst hv
    obtain rfl : ps = [] := List.eq_nil_of_length_eq_zero h0
    have hk64 : (k : Int) ≤ 1099511627776 := by unfold kEndR at hk2; omega
    clear h hB hk2 hs h0
    show Calls _ _ _ _ _
    go_enter Try.func67, Try.ntmps67
    go_wp2
    go_loopw [1, 5] (fun kk i wr => i = .int .i64 0 ∧ kk = .int .i64 k ∧ WroteB B w wr) (fun _ _ _ => 0)
    case atStart => exact ⟨rfl, rfl, WroteB.refl _ _⟩
    case round =>
      obtain ⟨rfl, rfl, he'⟩ := hrel
      go_wp2
      go_ret
      exact ⟨rfl, he'⟩
  · subst hv
    exact (markRuleS_b g cap ps k w0 w B h hB hk hk2 hs).mono fun e w' ⟨a, _, b⟩ => ⟨a, b⟩
def kEndG : Nat → List (Value × List RV) → Nat
  | k, [] => k
  | k, q :: t => kEndG (kEndR k q.2) t
theorem kEndG_append (k : Nat) (a b : List (Value × List RV)) : kEndG k (a ++ b) = kEndG (kEndG k a) b := by
  induction a generalizing k with
  | nil => rfl
  | cons p t ih => simp [kEndG, ih]
theorem kEndG_ge (k : Nat) (a : List (Value × List RV)) : k ≤ kEndG k a := by
  induction a generalizing k with
  | nil => simp [kEndG]
  | cons p t ih => have := ih (kEndR k p.2); have := kEndR_ge k p.2; simp only [kEndG]; omega
theorem kEndG_mono (k : Nat) (a : List (Value × List RV)) (i : Nat) : kEndG k (a.take i) ≤ kEndG k a := by
  conv => rhs; rw [← List.take_append_drop i a, kEndG_append]
  exact kEndG_ge _ _
theorem kEndR_le (k : Nat) (ps : List RV) : kEndR k ps ≤ k + 4 * szD (rulesOf ps) := by
  have := kEndR_sz k ps
  unfold szD; rw [rulesOf_len]; omega
theorem kEndG_le (k : Nat) (a : List (Value × List RV)) : kEndG k a ≤ k + 4 * ((descsOf a).map szD).sum := by
  induction a generalizing k with
  | nil => simp [kEndG]
  | cons p t ih => have := ih (kEndR k p.2); have := kEndR_le k p.2; simp only [kEndG, descsOf, List.map_cons, List.sum_cons] at *; omega
/-- a registry copied by a law -/
structure GMade (lo hi : Nat) (w : World) (v : Value) (qs : List (Value × List RV)) : Prop where
  own : ∃ w0 : World, w0.heap.size = lo ∧ OwnG w0 w v qs
  blk : ∀ u ∈ v :: (qs.flatMap fun q => q.1 :: q.2.flatMap RV.vals), ∀ b, u.ownBlock = some b → lo ≤ b ∧ b < hi
theorem GMade.ext {lo hi : Nat} {w w' : World} {v : Value} {qs : List (Value × List RV)} (h : GMade lo hi w v qs) (e : Ext w w') : GMade lo hi w' v qs := ⟨let ⟨w0, h0, h1⟩ := h.own; ⟨w0, h0, h1.ext e⟩, h.blk⟩
theorem toReg_o (A : Option Addr) (ds : List (List DRule)) (c : Nat) (w : World) (h : RdG w A ds c) (hz : szG ds ≤ 1048576) :
    Calls Try.prog 13 #[vdesc (.slice A ds.length c)] w fun e w' => ∃ A1 c1 qs, e = .returned (vdesc (.slice A1 ds.length c1)) ∧ RdG w' A1 ds c1 ∧ descsOf qs = ds ∧ GMade w.heap.size w'.heap.size w' (.slice A1 ds.length c1) qs ∧ Ext w w' := by
  refine (toRegistry_c A ds c w h hz).mono ?_
  rintro e w' ⟨v, qs, he, rfl, ho, hx⟩
  have hq : ∀ q ∈ qs, szD (rulesOf q.2) ≤ 1048576 := fun q hq => szG_mem hz (List.mem_map_of_mem (f := fun q : Value × List RV => rulesOf q.2) hq)
  obtain ⟨A1, c1, rfl, hr⟩ := ho.rd (by unfold szG at hz; simp only [descsOf, List.length_map] at hz; omega) (fun q h => (OwnD.short (hq q h)).1) (fun q h => (OwnD.short (hq q h)).2)
  exact ⟨A1, c1, qs, he, hr, rfl, ⟨⟨w, rfl, ho⟩, ho.block⟩, hx⟩
/-- the blocks of the versions, without the registry's own row -/
def inG (qs : List (Value × List RV)) (b : Nat) : Prop := ∃ q ∈ qs, ∃ u ∈ q.1 :: q.2.flatMap RV.vals, u.ownBlock = some b
theorem farG_parts {v : Value} {qs : List (Value × List RV)} (h : Far (v :: qs.flatMap fun q => q.1 :: q.2.flatMap RV.vals)) :
    (∀ g, v.ownBlock = some g → ¬ inG qs g) ∧ (∀ i j (hi : i < qs.length) (hj : j < qs.length), i ≠ j → ∀ u ∈ qs[i].1 :: qs[i].2.flatMap RV.vals, ∀ x ∈ qs[j].1 :: qs[j].2.flatMap RV.vals, ∀ g, u.ownBlock = some g → x.ownBlock ≠ some g) := by
  unfold Far at h
  rw [List.pairwise_cons] at h
  obtain ⟨h1, h2⟩ := h
  rw [List.pairwise_flatMap] at h2
  refine ⟨fun g hg ⟨q, hq, u, hu, hb⟩ => h1 u (List.mem_flatMap.2 ⟨q, hq, hu⟩) g hg hb, fun i j hi hj hne u hu x hx g hg hg' => ?_⟩
  have hp := List.pairwise_iff_getElem.1 h2.2
  rcases Nat.lt_or_ge i j with hlt | hge
  · exact hp i j hi hj hlt u hu x hx g hg hg'
  · exact hp j i hj hi (by omega) x hx u hu g hg' hg
set_option maxRecDepth 100000 in
set_option maxHeartbeats 4000000 in
theorem markDescS_c (A : Option Addr) (c : Nat) (qs : List (Value × List RV)) (k : Nat) (w0 w : World) (h : OwnG w0 w (.slice A qs.length c) qs) (hz : szG (descsOf qs) ≤ 1048576) (hk : 0 < k) (hk2 : k ≤ 100000000) :
    Calls Try.prog 66 #[.slice A qs.length c, .int .i64 k] w fun e w' => e = .returned (.int .i64 (kEndG k qs : Nat)) ∧ WroteB (inG qs) w w' := by
  obtain ⟨f1, f2⟩ := farG_parts h.far
  have hq : ∀ q ∈ qs, szD (rulesOf q.2) ≤ 1048576 := fun q hq => szG_mem hz (List.mem_map_of_mem (f := fun q : Value × List RV => rulesOf q.2) hq)
  have HQ := Lib.hid hq
  have hkE : kEndG k qs ≤ 200000000 := by have := kEndG_le k qs; unfold szG at hz; omega
  have hn : qs.length ≤ 1048576 := by unfold szG at hz; simp only [descsOf, List.length_map] at hz; omega
  have HK := Lib.hid hkE
  have HF1 := Lib.hid f1; have HF2 := Lib.hid f2
  have HR := Lib.hid h.row
  have HM : Hid (∀ j (hj : j < qs.length), 0 ≤ j → OwnD w0 w qs[j].1 qs[j].2) := fun j hj _ => h.each _ (List.getElem_mem hj)
  clear h f1 f2 hq hz hkE
  go_enter Try.func66, Try.ntmps66
  go_wp2
  go_loopw [1, 5] (fun kk i wr => ∃ j : Nat, j ≤ qs.length ∧ i = .int .i64 j ∧ kk = .int .i64 (kEndG k (qs.take j) : Nat) ∧ Hid (∀ i (hi : i < qs.length), j ≤ i → OwnD w0 wr qs[i].1 qs[i].2) ∧ WroteB (inG qs) w wr) (fun _ i _ => qs.length - (intOf i).toNat)
  case atStart => exact ⟨0, by omega, rfl, rfl, HM, WroteB.refl _ _⟩
  case round =>
    clear HM
    obtain ⟨j, hj, rfl, rfl, hm, hw⟩ := hrel
    by_cases hlt : j < qs.length
    · have HKn : Hid (kEndG k (qs.take (j+1)) = kEndR (kEndG k (qs.take j)) qs[j].2) := by
        show _ = _; rw [List.take_succ_eq_append_getElem hlt, kEndG_append]; rfl
      have hKe := kEndG_mono k qs (j+1)
      rw [HKn.out] at hKe
      have hKe2 := HK.out
      have hK0 := kEndG_ge k (qs.take j)
      have hrow := Own.wroteB HR.out hw (fun g hg => HF1.out g hg)
      obtain ⟨g, cg, hA⟩ : ∃ g cg, (Value.slice A qs.length c) = .slice (some ⟨g, 0, none⟩) qs.length cg := by
        rcases hrow.2 with ⟨hv, h0⟩ | ⟨g, cap, cur, hv, _⟩
        · omega
        · exact ⟨g, cap, hv⟩
      injection hA with q1 _ q2
      subst q1; subst q2
      have hc0 : wr.cell? ⟨g, j, none⟩ = some qs[j].1 := by
        rw [World.ownsRow.cellAt hrow j (by omega), List.getElem?_map, List.getElem?_eq_getElem hlt]; rfl
      obtain ⟨A1, c1, hv1⟩ := (hm.out j hlt (Nat.le_refl _)).shape
      rw [hv1] at hc0
      have C : Hid (Calls Try.prog 67 #[.slice A1 qs[j].2.length c1, .int .i64 (kEndG k (qs.take j) : Nat)] wr fun e w' => e = .returned (.int .i64 (kEndR (kEndG k (qs.take j)) qs[j].2 : Nat)) ∧ WroteB (inG [qs[j]]) wr w') := by
        rw [← hv1]
        exact markRuleS_any _ _ _ w0 wr _ (hm.out j hlt (Nat.le_refl _)) (fun u hu b hb => ⟨qs[j], by simp, u, hu, hb⟩) (by omega) (by omega) (OwnD.short (HQ.out _ (List.getElem_mem hlt))).2
      have NX : Hid (∀ w', WroteB (inG [qs[j]]) wr w' → (∀ i (hi : i < qs.length), j + 1 ≤ i → OwnD w0 w' qs[i].1 qs[i].2) ∧ WroteB (inG qs) w w') := fun w' hw' =>
        ⟨fun i hi hji => (hm.out i hi (by omega)).wroteB hw' (fun u hu b hb ⟨q, hq, x, hx, hxb⟩ => by
          simp only [List.mem_singleton] at hq; subst hq
          exact HF2.out i j hi hlt (by omega) u hu x hx b hb hxb), hw.trans (hw'.mono (fun b ⟨q, hq, r⟩ => ⟨q, by simp only [List.mem_singleton] at hq; subst hq; exact List.getElem_mem hlt, r⟩))⟩
      clear hm hw hrow hv1
      obtain ⟨K, hK⟩ : ∃ K, kEndG k (qs.take j) = K := ⟨_, rfl⟩
      rw [hK] at C HKn hKe hK0 ⊢
      obtain ⟨K', hK'⟩ : ∃ K', kEndR K qs[j].2 = K' := ⟨_, rfl⟩
      rw [hK'] at C HKn hKe
      clear hK hK'
      have b1 : (j : Int) < (qs.length : Int) := by omega
      go_wp2_with fail
      refine C.out.mono ?_; rintro _ w1 ⟨rfl, hw1⟩
      obtain ⟨n1, n2⟩ := NX.out w1 hw1
      have N1 := Lib.hid n1; have N2 := Lib.hid n2
      clear n1 n2 hw1 hc0
      go_wp2
      go_roundw
      case rel => exact ⟨j + 1, by omega, by go_num, by rw [HKn.out], N1, N2.out⟩
      case measure => simp [intOf]; omega
    · obtain rfl : j = qs.length := by omega
      go_wp2
      go_ret
      rw [List.take_length]
      exact ⟨rfl, hw⟩
set_option maxHeartbeats 1000000 in
theorem markReg_c (A : Option Addr) (n c : Nat) (qs : List (Value × List RV)) (k : Nat) (lo hi : Nat) (w : World) (hn : n = qs.length) (h : GMade lo hi w (.slice A n c) qs) (hz : szG (descsOf qs) ≤ 1048576) (hk : 0 < k) (hk2 : k ≤ 100000000) :
    Calls Try.prog 18 #[vdesc (.slice A n c), .int .i64 k] w fun e w' => ∃ k' : Nat, k ≤ k' ∧ k' ≤ k + 6000000 ∧ e = .returned (.int .i64 k') ∧ Wrote lo hi w w' := by
  subst hn
  obtain ⟨⟨w0, h0, h1⟩, hb⟩ := h
  have eb := Ext_alloc (.cells #[.slice A qs.length c] 32) (Ext.refl w)
  have C := Lib.hid (markDescS_c A c qs k w0 _ (h1.ext eb) hz hk hk2)
  have HE : Hid (kEndG k qs ≤ k + 6000000 ∧ k ≤ kEndG k qs) := ⟨by have := kEndG_le k qs; unfold szG at hz; omega, kEndG_ge _ _⟩
  have HB : Hid (∀ w', WroteB (inG qs) (w.alloc (.cells #[.slice A qs.length c] 32)) w' → Wrote lo hi w w') := fun w' hw => ((WroteB.ext (B := inG qs) eb).trans hw).wrote (fun b ⟨q, hq, u, hu, hub⟩ => hb u (List.mem_cons_of_mem _ (List.mem_flatMap.2 ⟨q, hq, hu⟩)) b hub)
  clear h1 hb hz
  unfold vdesc
  generalize kEndG k qs = K at *
  have hK1 : K ≤ 200000000 := by have := HE.out; omega
  go_enter Try.func18, Try.ntmps18
  go_wp2_with fail
  refine C.out.mono ?_; rintro _ w1 ⟨rfl, hw⟩
  have HW := Lib.hid hw; clear hw
  go_wp2
  go_ret
  exact ⟨K, HE.out.2, HE.out.1, rfl, HB.out _ HW.out⟩
end Go.Proofs.Ytlaejcacembjiaa

/- The laws' marks laid over rules. -/
namespace Go.Proofs.Ytlaejcacembjiaa
open Go.RowKit Go.Sort

set_option maxRecDepth 100000 in
set_option maxHeartbeats 8000000 in
theorem markRuleS_c (g c : Nat) (ps : List RV) (k : Nat) (w0 w : World) (hi : Nat) (h : OwnD w0 w (.slice (some ⟨g, 0, none⟩) ps.length c) ps) (hB : ∀ u ∈ (Value.slice (some ⟨g, 0, none⟩) ps.length c) :: ps.flatMap RV.vals, ∀ b, u.ownBlock = some b → w0.heap.size ≤ b ∧ b < hi) (hk : 0 < k) (hk2 : kEndR k ps ≤ 1099511627776) (hs : ∀ p ∈ ps, ShortR p.r) :
    Calls Try.prog 67 #[.slice (some ⟨g, 0, none⟩) ps.length c, .int .i64 k] w fun e w' => e = .returned (.int .i64 (kEndR k ps : Nat)) ∧ MarkingR w0 w' g c ps k ps.length ∧ Wrote w0.heap.size hi w w' := by
  obtain ⟨f1, f2, f3⟩ := far_parts h.far
  have HF1 := Lib.hid (fun j hj u hu => f1 j hj u hu g rfl); have HF2 := Lib.hid f2; have HF3 := Lib.hid f3
  have hgB := hB _ (List.mem_cons_self ..) g rfl
  have HB : Hid (∀ p ∈ ps, ∀ v ∈ p.vals, ∀ b, v.ownBlock = some b → w0.heap.size ≤ b ∧ b < hi) := fun p hp v hv b hb => hB v (List.mem_cons_of_mem _ (List.mem_flatMap.2 ⟨p, hp, hv⟩)) b hb
  have HM : Hid (MarkingR w0 w g c ps k 0) := ⟨by simpa [msR] using h.row, fun j _ hj => by omega, fun j hj _ => h.each _ (List.getElem_mem hj)⟩
  have hn : ps.length ≤ 140737488351232 := by
    rw [kEndR_eq] at hk2
    have := len_mlen ps
    omega
  clear h f1 f2 f3 hB
  go_enter Try.func67, Try.ntmps67
  go_wp2
  go_loopw [1, 5] (fun kk i wr => ∃ j : Nat, j ≤ ps.length ∧ i = .int .i64 j ∧ kk = .int .i64 (kEndR k (ps.take j) : Nat) ∧ Hid (MarkingR w0 wr g c ps k j) ∧ Wrote w0.heap.size hi w wr) (fun _ i _ => ps.length - (intOf i).toNat)
  case atStart => exact ⟨0, by omega, rfl, rfl, HM, Wrote.refl _ _ _⟩
  case round =>
    clear HM
    obtain ⟨j, hj, rfl, rfl, hm, hw⟩ := hrel
    by_cases hlt : j < ps.length
    · have HKn : Hid (kEndR k (ps.take (j+1)) = kEndR k (ps.take j) + mlen ps[j].r) := by
        show _ = _; rw [List.take_succ_eq_append_getElem hlt, kEndR_append]; rfl
      have hKe := kEndR_mono k ps (j+1)
      rw [HKn.out] at hKe
      have hK0 := kEndR_ge k (ps.take j)
      have hsj := hs _ (List.getElem_mem hlt)
      have hbj := HB.out _ (List.getElem_mem hlt)
      obtain ⟨m1, m2, m3⟩ := hm.out
      have hrj := m3 j hlt (Nat.le_refl _)
      have hdrop : ps.drop j = ps[j] :: ps.drop (j+1) := List.drop_eq_getElem_cons hlt
      rw [hdrop] at m1
      have hml : (msR k (ps.take j)).length = j := by rw [msR_length, List.length_take]; omega
      have hrow := mark_rowR (msR k (ps.take j)) ps[j] (ps.drop (j+1)) (kEndR k (ps.take j)) j hml
      have hnext : msR k (ps.take j) ++ [(kEndR k (ps.take j), ps[j])] = msR k (ps.take (j+1)) := by
        rw [List.take_succ_eq_append_getElem hlt, msR_append]; rfl
      have hget := fun m hm => mk_getR (msR k (ps.take j)) (kEndR k (ps.take j)) ps[j] ((ps.drop (j+1)).flatMap RV.cells) j m hml hm
      have HF1j := Lib.hid (HF1.out j hlt)
      have HF2j : Hid (∀ i (hi : i < ps.length), i ≠ j → ∀ u ∈ ps[i].vals, ∀ x ∈ ps[j].vals, ∀ b, x.ownBlock = some b → u.ownBlock ≠ some b) := fun i hi hne u hu x hx b hb hb' => HF2.out i j hi hlt hne u hu x hx b hb' hb
      have HF3j := Lib.hid (HF3.out j hlt)
      have HNX : Hid (MarkingR w0 wr g c ps k j) := hm
      rw [hnext] at hrow hget
      obtain ⟨K, hK⟩ : ∃ K, kEndR k (ps.take j) = K := ⟨_, rfl⟩
      rw [hK] at hrow hget hKe hK0 HKn
      have HK := Lib.hid hK
      have hgx := cells_getR (msR k (ps.take j)) ps[j] (ps.drop (j+1)) j 4 hml (by omega)
      obtain ⟨xs, hxs⟩ : ∃ xs, (msR k (ps.take j)).flatMap mkCells ++ (ps[j] :: ps.drop (j+1)).flatMap RV.cells = xs := ⟨_, rfl⟩
      rw [hxs] at m1 hrow hgx
      simp only [RV.cells, List.getElem?_cons_succ, List.getElem?_cons_zero] at hgx
      obtain ⟨ys, hys⟩ : ∃ ys, (msR k (ps.take (j+1))).flatMap mkCells ++ (ps.drop (j+1)).flatMap RV.cells = ys := ⟨_, rfl⟩
      have HYS := Lib.hid hys
      rw [hys] at hrow hget
      have hxl : xs.length = ps.length * 8 := m1.1
      obtain ⟨Ab, cb, An, cn, At, ct, Ak, ck, v1, v2, v3, v4, _⟩ := hrj.rd hsj
      have HG4 := hget 4 (by omega); have HG5 := hget 5 (by omega); have HG6 := hget 6 (by omega); have HG7 := hget 7 (by omega)
      simp only [mkCells, List.getElem?_cons_succ, List.getElem?_cons_zero] at HG4 HG5 HG6 HG7
      rw [v1] at hgx
      have HGX := Lib.hid hgx
      rw [v1] at HG4; rw [v2] at HG5; rw [v3] at HG6; rw [v4] at HG7
      have L4 := Lib.hid HG4; have L5 := Lib.hid HG5; have L6 := Lib.hid HG6; have L7 := Lib.hid HG7
      have HR := Lib.hid hrow; have Hm1 := Lib.hid m1; have Hm2 := Lib.hid m2; have Hm3 := Lib.hid m3; have HXL := Lib.hid hxl; have V1 := Lib.hid v1; have V2 := Lib.hid v2; have V3 := Lib.hid v3; have V4 := Lib.hid v4
      have HBJ := Lib.hid hbj; have HRJ := Lib.hid hrj
      have hmlen : mlen ps[j].r = 4 + ps[j].r.bytes.length + ps[j].r.names.length + ps[j].r.tags.length + ps[j].r.kids.length := rfl
      have HML := Lib.hid hmlen
      rw [hmlen] at hKe
      have HSJ := Lib.hid hsj
      have MT : Hid (∀ w, Gives Try.prog 83 #[.int .i64 (K : Int)] w (.string (markT K))) := fun w => markText_c K w (by omega) (by omega)
      rw [hK]
      clear hgx hrow m1 m2 m3 hxs hys hget HG4 HG5 HG6 HG7 v1 v2 v3 v4 hdrop hml hnext hK hxl hbj hrj hmlen hsj hm
      have hr0 := Hm1.out
      have hxl := HXL.out
      go_wp2_with fail
      refine (MT.out _).mono ?_; rintro _ w1 ⟨rfl, he1⟩
      have hr1 := Own.ext Hm1.out he1
      obtain ⟨⟨u0, hu0⟩, hf0⟩ := hr1.slot (j * 8) (by rw [hxl]; omega)
      obtain ⟨⟨u1, hu1⟩, hf1⟩ := hr1.slot (j * 8 + 1) (by rw [hxl]; omega)
      obtain ⟨⟨u2, hu2⟩, hf2⟩ := hr1.slot (j * 8 + 2) (by rw [hxl]; omega)
      obtain ⟨⟨u3, hu3⟩, hf3⟩ := hr1.slot (j * 8 + 3) (by rw [hxl]; omega)
      have hu4 : w1.cell? ⟨g, j * 8 + 4, none⟩ = some (.slice Ab ps[j].r.bytes.length cb) := by rw [hr1.cellAt (j * 8 + 4) (by omega)]; exact HGX.out
      have HO1 : Hid (Own 76 8 w0 ((((w1.setCell ⟨g, j * 8, none⟩ (.string (markT K))).setCell ⟨g, j * 8 + 1, none⟩ (.int .i64 ((K : Int) + 1))).setCell ⟨g, j * 8 + 2, none⟩ (.int .i64 ((K : Int) + 2))).setCell ⟨g, j * 8 + 3, none⟩ (.bool (((K : Int) + 3) % 3 == 0))) (.slice (some ⟨g, 0, none⟩) ps.length c) ps.length ys) := by
        have := (((hr1.stored (j * 8) (.string (markT K))).1.stored (j * 8 + 1) (.int .i64 ((K : Int) + 1))).1.stored (j * 8 + 2) (.int .i64 ((K : Int) + 2))).1.stored (j * 8 + 3) (.bool (((K : Int) + 3) % 3 == 0))
        have := this.1
        rw [HR.out] at this
        exact this
      have G1 : Hid (wr.grownBy ((((w1.setCell ⟨g, j * 8, none⟩ (.string (markT K))).setCell ⟨g, j * 8 + 1, none⟩ (.int .i64 ((K : Int) + 1))).setCell ⟨g, j * 8 + 2, none⟩ (.int .i64 ((K : Int) + 2))).setCell ⟨g, j * 8 + 3, none⟩ (.bool (((K : Int) + 3) % 3 == 0))) (some g)) :=
        ((((grown_ext he1 (some g)).trans (grown_set _ ⟨g, j * 8, none⟩ _)).trans (grown_set _ ⟨g, j * 8 + 1, none⟩ _)).trans (grown_set _ ⟨g, j * 8 + 2, none⟩ _)).trans (grown_set _ ⟨g, j * 8 + 3, none⟩ _)
      clear hr1 hr0
      go_wp2_with fail
      rw [show (K : Int) + 1 + 1 + 1 + 1 = (K : Int) + 4 by omega, show (K : Int) + 1 + 1 + 1 = (K : Int) + 3 by omega, show (K : Int) + 1 + 1 = (K : Int) + 2 by omega]
      generalize ((((w1.setCell ⟨g, j * 8, none⟩ (.string (markT K))).setCell ⟨g, j * 8 + 1, none⟩ (.int .i64 ((K : Int) + 1))).setCell ⟨g, j * 8 + 2, none⟩ (.int .i64 ((K : Int) + 2))).setCell ⟨g, j * 8 + 3, none⟩ (.bool (((K : Int) + 3) % 3 == 0))) = W1 at *
      clear hu0 hu1 hu2 hu3 hf0 hf1 hf2 hf3 hu4
      have R1 := Lib.hid (HRJ.out.keep G1.out (fun v hv b hb he => HF1j.out v hv (hb.trans he.symm)))
      obtain ⟨d1, d2, d3, d4, d5, d6⟩ := far4 HF3j.out
      have D1 := Lib.hid d1; have D2 := Lib.hid d2; have D3 := Lib.hid d3; have D4 := Lib.hid d4; have D5 := Lib.hid d5; have D6 := Lib.hid d6
      clear d1 d2 d3 d4 d5 d6
      have ob := R1.out.b
      rw [V1.out] at ob
      refine (markByteS_c Ab _ cb ((K : Int) + 4) _ w0 _ ob (by omega) (by omega)).mono ?_; rintro _ w2 ⟨rfl, om1, g2⟩
      rw [← V1.out] at om1 g2
      have M1 := Lib.hid om1; have G2 := Lib.hid g2
      have HO2 := Lib.hid (HO1.out.keep g2 (fun b hb he => HF1j.out ps[j].vb (by simp [RV.vals]) (he.trans hb.symm)))
      have c5 : w2.cell? ⟨g, j * 8 + 5, none⟩ = some (.slice An ps[j].r.names.length cn) := by rw [HO2.out.cellAt (j * 8 + 5) (by omega)]; exact L5.out
      clear ob om1 g2
      go_wp2_with fail
      rw [show (K : Int) + 4 + (ps[j].r.bytes.length : Int) = ((K + 4 + ps[j].r.bytes.length : Nat) : Int) by omega]
      have on := R1.out.n.keep G2.out (fun b hb he => D1.out b he hb)
      rw [V2.out] at on
      refine (markStringS_c An _ cn (K + 4 + ps[j].r.bytes.length) _ w0 _ on (by omega) (by omega)).mono ?_; rintro _ w3 ⟨rfl, om2, g3⟩
      rw [← V2.out] at om2 g3
      have M2 := Lib.hid om2; have G3 := Lib.hid g3
      have HO3 := Lib.hid (HO2.out.keep g3 (fun b hb he => HF1j.out ps[j].vn (by simp [RV.vals]) (he.trans hb.symm)))
      have c6 : w3.cell? ⟨g, j * 8 + 6, none⟩ = some (.slice At ps[j].r.tags.length ct) := by rw [HO3.out.cellAt (j * 8 + 6) (by omega)]; exact L6.out
      clear on om2 g3 c5
      go_wp2_with fail
      have ot := (R1.out.t.keep G2.out (fun b hb he => D2.out b he hb)).keep G3.out (fun b hb he => D4.out b he hb)
      rw [V3.out] at ot
      refine (markIntS_c At _ ct ((K + 4 + ps[j].r.bytes.length + ps[j].r.names.length : Nat) : Int) _ w0 _ ot (by omega) (by omega)).mono ?_; rintro _ w4 ⟨rfl, om3, g4⟩
      rw [← V3.out] at om3 g4
      have M3 := Lib.hid om3; have G4 := Lib.hid g4
      have HO4 := Lib.hid (HO3.out.keep g4 (fun b hb he => HF1j.out ps[j].vt (by simp [RV.vals]) (he.trans hb.symm)))
      have c7 : w4.cell? ⟨g, j * 8 + 7, none⟩ = some (.slice Ak ps[j].r.kids.length ck) := by rw [HO4.out.cellAt (j * 8 + 7) (by omega)]; exact L7.out
      clear ot om3 g4 c6
      go_wp2_with fail
      first
        | rw [show ((K + 4 + ps[j].r.bytes.length + ps[j].r.names.length : Nat) : Int) + (ps[j].r.tags.length : Int) = ((K + 4 + ps[j].r.bytes.length + ps[j].r.names.length + ps[j].r.tags.length : Nat) : Int) by omega]
        | rw [show (K : Int) + 4 + (ps[j].r.bytes.length : Int) + (ps[j].r.names.length : Int) + (ps[j].r.tags.length : Int) = ((K + 4 + ps[j].r.bytes.length + ps[j].r.names.length + ps[j].r.tags.length : Nat) : Int) by omega]
        | trace_state
      have okk := ((R1.out.k.keep G2.out (fun b hb he => D3.out b he hb)).keep G3.out (fun b hb he => D5.out b he hb)).keep G4.out (fun b hb he => D6.out b he hb)
      rw [V4.out] at okk
      refine (markIntS_c Ak _ ck ((K + 4 + ps[j].r.bytes.length + ps[j].r.names.length + ps[j].r.tags.length : Nat) : Int) _ w0 _ okk (by omega) (by omega)).mono ?_; rintro _ w5 ⟨rfl, om4, g5⟩
      rw [← V4.out] at om4 g5
      have M4 := Lib.hid om4; have G5 := Lib.hid g5
      have HO5 := Lib.hid (HO4.out.keep g5 (fun b hb he => HF1j.out ps[j].vk (by simp [RV.vals]) (he.trans hb.symm)))
      clear okk om4 g5 c7
      have hfin : MarkingR w0 w5 g c ps k (j + 1) := by
        refine ⟨by rw [HYS.out]; exact HO5.out, fun i hi' hij => ?_, fun i hi' hij => ?_⟩
        · rcases Nat.lt_or_ge i j with hlt' | hge
          · have q := HF2j.out i hi' (by omega)
            exact ((((((Hm2.out i hi' hlt').keep G1.out (fun v hv b hb he => HF1.out i hi' v hv (hb.trans he.symm))).keep G2.out (fun v hv b hb he => q v hv _ (by simp [RV.vals]) b he hb)).keep G3.out (fun v hv b hb he => q v hv ps[j].vn (by simp [RV.vals]) b he hb)).keep G4.out (fun v hv b hb he => q v hv ps[j].vt (by simp [RV.vals]) b he hb)).keep G5.out (fun v hv b hb he => q v hv ps[j].vk (by simp [RV.vals]) b he hb))
          · obtain rfl : i = j := by omega
            rw [HK.out]
            exact ⟨((M1.out.keep G3.out D1.out).keep G4.out D2.out).keep G5.out D3.out, (M2.out.keep G4.out D4.out).keep G5.out D5.out, M3.out.keep G5.out D6.out, M4.out⟩
        · have q := HF2j.out i hi' (by omega)
          exact ((((((Hm3.out i hi' (by omega)).keep G1.out (fun v hv b hb he => HF1.out i hi' v hv (hb.trans he.symm))).keep G2.out (fun v hv b hb he => q v hv _ (by simp [RV.vals]) b he hb)).keep G3.out (fun v hv b hb he => q v hv ps[j].vn (by simp [RV.vals]) b he hb)).keep G4.out (fun v hv b hb he => q v hv ps[j].vt (by simp [RV.vals]) b he hb)).keep G5.out (fun v hv b hb he => q v hv ps[j].vk (by simp [RV.vals]) b he hb))
      have HFIN := Lib.hid hfin
      have HWR : Hid (Wrote w0.heap.size hi w w5) := (((((hw.trans (Wrote.grown G1.out (fun b hb => by injection hb with hb; subst hb; exact hgB))).trans (Wrote.grown G2.out (fun b hb => HBJ.out _ (by simp [RV.vals]) b hb))).trans (Wrote.grown G3.out (fun b hb => HBJ.out _ (by simp [RV.vals]) b hb))).trans (Wrote.grown G4.out (fun b hb => HBJ.out _ (by simp [RV.vals]) b hb))).trans (Wrote.grown G5.out (fun b hb => HBJ.out _ (by simp [RV.vals]) b hb)))
      clear hfin
      go_wp2
      go_roundw
      case rel => exact ⟨j + 1, by omega, by go_num, by rw [HKn.out, HML.out]; go_num, HFIN, HWR.out⟩
      case measure => simp [intOf]; omega
    · obtain rfl : j = ps.length := by omega
      go_wp2
      go_ret
      rw [List.take_length]
      exact ⟨rfl, hm.out, hw⟩
end Go.Proofs.Ytlaejcacembjiaa

/- The laws' marks on slices of strings, tested; marks on descriptions, as the laws use them. -/
namespace Go.Proofs.Ytlaejcacembjiaa
open Go.RowKit Go.Sort

set_option maxRecDepth 100000 in
set_option maxHeartbeats 1000000 in
theorem heldStringS_c (A : Option Addr) (n c : Nat) (k : Nat) (w : World) (h : Rd (mkT k) w A (List.range n) c) (hk : 0 < k) (hk2 : k + n ≤ 1099511627776) :
    Gives Try.prog 34 #[.slice A n c, .int .i64 k] w (.int .i64 ((k + n : Nat) : Int)) := by
  go_enter Try.func34, Try.ntmps34
  go_wp2
  go_loopw [1, 5] (fun kk i wr => ∃ j : Nat, j ≤ n ∧ i = .int .i64 j ∧ kk = .int .i64 ((k + j : Nat) : Int) ∧ Ext w wr) (fun _ i _ => n - (intOf i).toNat)
  case atStart => exact ⟨0, by omega, rfl, rfl, Ext.refl _⟩
  case round =>
    obtain ⟨j, hj, rfl, rfl, he⟩ := hrel
    by_cases hlt : j < n
    · obtain ⟨b, off, rfl, hb, hc⟩ := h.at j (by simpa using hlt)
      simp only [List.getElem_range, mkT] at hc
      have MT : Hid (∀ w, Gives Try.prog 83 #[.int .i64 ((k + j : Nat) : Int)] w (.string (markT (k + j)))) := fun w => markText_c (k + j) w (by omega) (by omega)
      obtain ⟨z, hz⟩ : ∃ z, k + j = z := ⟨_, rfl⟩
      have HZ : Hid (k + (j + 1) = z + 1) := by show _ = _; omega
      rw [hz] at hc MT ⊢
      have hzb : z ≤ 1099511627776 := by omega
      generalize markT z = s at *
      clear hz h
      have hs1 : (s.toList != s.toList) = false := by simp
      go_wp2_with fail
      refine wp_region_quiet_below (by kernel_rfl) (by kernel_rfl) ?_
      repeat (go_big_quiet_step ((go_at_call 83; exact Calls.regrown_of (MT.out _))))
      refine wpQuiet_nil ?_
      rintro w1 ⟨⟨nq, osq⟩, hq⟩
      have ew1 := ext_of_q hq
      clear hq nq osq
      go_wp2
      go_roundw
      case rel => exact ⟨j+1, by omega, by go_num, by rw [HZ.out]; go_num, he.trans ew1⟩
      case measure => simp [intOf]; omega
    · obtain rfl : j = n := by omega
      go_wp2
      go_ret
      exact ⟨rfl, he⟩
theorem Box.wrote {w w' : World} {g : Nat} {cs : Array Value} {T : TypeId} (h : Box w g cs T) {lo hi : Nat} (hw : Wrote lo hi w w') (hg : g < lo ∨ hi ≤ g) : Box w' g cs T := (hw.block g h.lt hg).trans h
theorem RuleOwn.wrote {w0 w w' : World} {p : RV} (h : RuleOwn w0 w p) {lo hi : Nat} (hw : Wrote lo hi w w') (hv : ∀ v ∈ p.vals, ∀ g, v.ownBlock = some g → g < lo ∨ hi ≤ g) : RuleOwn w0 w' p :=
  ⟨h.b.wrote hw (hv _ (by simp [RV.vals])), h.n.wrote hw (hv _ (by simp [RV.vals])), h.t.wrote hw (hv _ (by simp [RV.vals])), h.k.wrote hw (hv _ (by simp [RV.vals]))⟩
theorem OwnD.wrote {w0 w w' : World} {v : Value} {ps : List RV} (h : OwnD w0 w v ps) {lo hi : Nat} (hw : Wrote lo hi w w') (hv : ∀ u ∈ v :: ps.flatMap RV.vals, ∀ g, u.ownBlock = some g → g < lo ∨ hi ≤ g) : OwnD w0 w' v ps :=
  ⟨h.row.wrote hw (hv _ (by simp)), fun p hp => (h.each p hp).wrote hw (fun u hu => hv u (List.mem_cons_of_mem _ (List.mem_flatMap.2 ⟨p, hp, hu⟩))), h.far⟩
/-- a description copied by a law: its blocks lie from lo on, below hi -/
structure DMade (lo hi : Nat) (w : World) (v : Value) (ps : List RV) : Prop where
  own : ∃ w0 : World, w0.heap.size = lo ∧ OwnD w0 w v ps
  blk : ∀ u ∈ v :: ps.flatMap RV.vals, ∀ b, u.ownBlock = some b → lo ≤ b ∧ b < hi
theorem DMade.ext {lo hi : Nat} {w w' : World} {v : Value} {ps : List RV} (h : DMade lo hi w v ps) (e : Ext w w') : DMade lo hi w' v ps := ⟨let ⟨w0, h0, h1⟩ := h.own; ⟨w0, h0, h1.ext e⟩, h.blk⟩
theorem DMade.wrote {lo hi lo' hi' : Nat} {w w' : World} {v : Value} {ps : List RV} (h : DMade lo hi w v ps) (hw : Wrote lo' hi' w w') (hd : hi ≤ lo' ∨ hi' ≤ lo) : DMade lo hi w' v ps :=
  ⟨let ⟨w0, h0, h1⟩ := h.own; ⟨w0, h0, h1.wrote hw (fun u hu g hg => by have := h.blk u hu g hg; omega)⟩, h.blk⟩
theorem toDesc_o (A : Option Addr) (ds : List DRule) (c : Nat) (w : World) (h : RdD w A ds c) (hz : szD ds ≤ 1048576) :
    Calls Try.prog 14 #[vdesc (.slice A ds.length c)] w fun e w' => ∃ A1 c1 ps, e = .returned (vdesc (.slice A1 ds.length c1)) ∧ RdD w' A1 ds c1 ∧ rulesOf ps = ds ∧ DMade w.heap.size w'.heap.size w' (.slice A1 ds.length c1) ps ∧ Ext w w' := by
  refine (toDescription_c A ds c w h hz).mono ?_
  rintro e w' ⟨v, ps, he, rfl, ho, hx⟩
  obtain ⟨A1, c1, rfl, hr⟩ := ho.rd (OwnD.short hz).1 (OwnD.short hz).2
  exact ⟨A1, c1, ps, he, hr, rfl, ⟨⟨w, rfl, ho⟩, ho.block⟩, hx⟩
set_option maxHeartbeats 1000000 in
theorem markDesc_c (A : Option Addr) (n c : Nat) (ps : List RV) (k : Nat) (lo hi : Nat) (w : World) (h : DMade lo hi w (.slice A n c) ps) (hz : szD (rulesOf ps) ≤ 1048576) (hk : 0 < k) (hk2 : k ≤ 100000000) :
    Calls Try.prog 19 #[vdesc (.slice A n c), .int .i64 k] w fun e w' => ∃ k' : Nat, k ≤ k' ∧ k' ≤ k + 6000000 ∧ e = .returned (.int .i64 k') ∧ Wrote lo hi w w' := by
  obtain ⟨⟨w0, h0, h1⟩, hb⟩ := h
  subst h0
  have hkE : kEndR k ps ≤ k + 6000000 ∧ k ≤ kEndR k ps := by
    refine ⟨?_, kEndR_ge _ _⟩
    have := kEndR_sz k ps
    unfold szD at hz; rw [rulesOf_len] at hz; omega
  have hsh := (OwnD.short hz).2
  have eb := Ext_alloc (.cells #[.slice A n c] 38) (Ext.refl w)
  have h1' := h1.ext eb
  have C : Hid (Calls Try.prog 67 #[.slice A n c, .int .i64 k] (w.alloc (.cells #[.slice A n c] 38)) fun e w' => e = .returned (.int .i64 (kEndR k ps : Nat)) ∧ Wrote w0.heap.size hi (w.alloc (.cells #[.slice A n c] 38)) w') := by
    obtain ⟨A', c', hv⟩ := h1'.shape
    injection hv with q1 q2 q3
    subst q1; subst q2; subst q3
    rcases h1'.row.2 with ⟨hv, h0⟩ | ⟨g, cap, cur, hv, _⟩
    · injection hv with q1 q2 q3
      subst q1; subst q3
      obtain rfl : ps = [] := List.eq_nil_of_length_eq_zero h0
      have hk64 : (k : Int) ≤ 100000000 := by omega
      clear h1 h1' hb hkE hz hsh h0 eb
      show Calls _ _ _ _ _
      go_enter Try.func67, Try.ntmps67
      go_wp2
      go_loopw [1, 5] (fun kk i wr => i = .int .i64 0 ∧ kk = .int .i64 k ∧ Wrote w0.heap.size hi (w.alloc (.cells #[.slice none 0 0] 38)) wr) (fun _ _ _ => 0)
      case atStart => exact ⟨rfl, rfl, Wrote.refl _ _ _⟩
      case round =>
        obtain ⟨rfl, rfl, he'⟩ := hrel
        go_wp2
        go_ret
        exact ⟨rfl, he'⟩
    · injection hv with q1 q2 q3
      subst q1; subst q3
      exact (markRuleS_c g c ps k w0 _ hi h1' hb hk (by omega) hsh).mono fun e w' ⟨a, _, b⟩ => ⟨a, b⟩
  have HE := Lib.hid hkE
  have W0 : Hid (Wrote w0.heap.size hi w (w.alloc (.cells #[.slice A n c] 38))) := Wrote.ext eb
  clear h1 h1' hb hz hsh hkE
  unfold vdesc
  generalize kEndR k ps = K at *
  have hK1 : K ≤ 200000000 := by have := HE.out; omega
  go_enter Try.func19, Try.ntmps19
  go_wp2_with fail
  refine C.out.mono ?_; rintro _ w1 ⟨rfl, hw⟩
  have HW := Lib.hid hw; clear hw
  go_wp2
  go_ret
  exact ⟨K, HE.out.2, HE.out.1, rfl, W0.out.trans HW.out⟩
end Go.Proofs.Ytlaejcacembjiaa

/- The laws' marks on rules and descriptions, tested. -/
namespace Go.Proofs.Ytlaejcacembjiaa
open Go.RowKit Go.Sort

theorem MarkingR.ext {w0 w w' : World} {g c : Nat} {ps : List RV} {k i : Nat} (h : MarkingR w0 w g c ps k i) (e : Ext w w') : MarkingR w0 w' g c ps k i :=
  ⟨h.row.ext e, fun j a b => (h.done j a b).ext e, fun j a b => (h.todo j a b).ext e⟩
theorem RuleMarked.rd {w0 w : World} {k : Nat} {p : RV} (h : RuleMarked w0 w k p) (hs : ShortR p.r) : ∃ Ab cb An cn At ct Ak ck, p.vb = .slice Ab p.r.bytes.length cb ∧ p.vn = .slice An p.r.names.length cn ∧ p.vt = .slice At p.r.tags.length ct ∧ p.vk = .slice Ak p.r.kids.length ck ∧
    Rd (mk8 ((k : Int) + 4)) w Ab (List.range p.r.bytes.length) cb ∧ Rd (mkT (k + 4 + p.r.bytes.length)) w An (List.range p.r.names.length) cn ∧ Rd (mkI ((k + 4 + p.r.bytes.length + p.r.names.length : Nat) : Int)) w At (List.range p.r.tags.length) ct ∧ Rd (mkI ((k + 4 + p.r.bytes.length + p.r.names.length + p.r.tags.length : Nat) : Int)) w Ak (List.range p.r.kids.length) ck := by
  obtain ⟨s1, s2, s3, s4⟩ := hs
  obtain ⟨Ab, cb, h1, r1⟩ := Own.rd (l := List.range p.r.bytes.length) h.b (by simpa using s1)
  obtain ⟨An, cn, h2, r2⟩ := Own.rd (l := List.range p.r.names.length) h.n (by simpa using s2)
  obtain ⟨At, ct, h3, r3⟩ := Own.rd (l := List.range p.r.tags.length) h.t (by simpa using s3)
  obtain ⟨Ak, ck, h4, r4⟩ := Own.rd (l := List.range p.r.kids.length) h.k (by simpa using s4)
  simp only [List.length_range] at h1 h2 h3 h4
  exact ⟨Ab, cb, An, cn, At, ct, Ak, ck, h1, h2, h3, h4, r1, r2, r3, r4⟩
set_option maxRecDepth 100000 in
set_option maxHeartbeats 8000000 in
theorem heldRuleS_c (g c : Nat) (ps : List RV) (k : Nat) (w0 w : World) (h : MarkingR w0 w g c ps k ps.length) (hk : 0 < k) (hk2 : kEndR k ps ≤ 1099511627776) (hs : ∀ p ∈ ps, ShortR p.r) :
    Gives Try.prog 114 #[.slice (some ⟨g, 0, none⟩) ps.length c, .int .i64 k] w (.int .i64 (kEndR k ps : Nat)) := by
  have hn : ps.length ≤ 140737488351232 := by
    rw [kEndR_eq] at hk2
    have := len_mlen ps
    omega
  have HM := Lib.hid h; clear h
  go_enter Try.func114, Try.ntmps114
  go_wp2
  go_loopw [1, 5] (fun kk i wr => ∃ j : Nat, j ≤ ps.length ∧ i = .int .i64 j ∧ kk = .int .i64 (kEndR k (ps.take j) : Nat) ∧ Ext w wr) (fun _ i _ => ps.length - (intOf i).toNat)
  case atStart => exact ⟨0, by omega, rfl, rfl, Ext.refl _⟩
  case round =>
    obtain ⟨j, hj, rfl, rfl, he⟩ := hrel
    by_cases hlt : j < ps.length
    · have HKn : Hid (kEndR k (ps.take (j+1)) = kEndR k (ps.take j) + mlen ps[j].r) := by
        show _ = _; rw [List.take_succ_eq_append_getElem hlt, kEndR_append]; rfl
      have hKe := kEndR_mono k ps (j+1)
      rw [HKn.out] at hKe
      have hK0 := kEndR_ge k (ps.take j)
      have hsj := hs _ (List.getElem_mem hlt)
      have hrow := HM.out.row
      rw [List.take_length, List.drop_length, List.flatMap_nil, List.append_nil] at hrow
      have hml : (msR k (ps.take j)).length = j := by rw [msR_length, List.length_take]; omega
      have hsp : msR k ps = (msR k (ps.take j) ++ [(kEndR k (ps.take j), ps[j])]) ++ msR (kEndR k (ps.take (j+1))) (ps.drop (j+1)) := by
        conv => lhs; rw [← List.take_append_drop (j+1) ps, msR_append]
        rw [List.take_succ_eq_append_getElem hlt, msR_append, kEndR_append]; rfl
      have hget := fun m hm => mk_getR (msR k (ps.take j)) (kEndR k (ps.take j)) ps[j] ((msR (kEndR k (ps.take (j+1))) (ps.drop (j+1))).flatMap mkCells) j m hml hm
      rw [← List.flatMap_append, ← hsp] at hget
      have hdn := HM.out.done j hlt hlt
      have hxl : ((msR k ps).flatMap mkCells).length = ps.length * 8 := by rw [mkCells_len, msR_length]
      obtain ⟨K, hK⟩ : ∃ K, kEndR k (ps.take j) = K := ⟨_, rfl⟩
      rw [hK] at hget hKe hK0 HKn hdn ⊢
      clear hsp hml hK
      obtain ⟨xs, hxs⟩ : ∃ xs, (msR k ps).flatMap mkCells = xs := ⟨_, rfl⟩
      rw [hxs] at hrow hget hxl
      clear hxs
      have hcell : ∀ m (hm : m < 8) w', Ext w w' → w'.cell? ⟨g, j * 8 + m, none⟩ = (mkCells (K, ps[j]))[m]? := fun m hm w' e => by
        rw [(Own.ext hrow e).cellAt (j * 8 + m) (by omega)]; exact hget m hm
      have hb : g < w.heap.size := (World.ownsRow.lt hrow g rfl).2
      obtain ⟨Ab, cb, An, cn, At, ct, Ak, ck, v1, v2, v3, v4, r1, r2, r3, r4⟩ := hdn.rd hsj
      have q0 := hcell 0 (by omega); have q1 := hcell 1 (by omega); have q2 := hcell 2 (by omega); have q3 := hcell 3 (by omega); have q4 := hcell 4 (by omega); have q5 := hcell 5 (by omega); have q6 := hcell 6 (by omega); have q7 := hcell 7 (by omega)
      simp only [mkCells, List.getElem?_cons_succ, List.getElem?_cons_zero, v1, v2, v3, v4, Nat.add_zero] at q0 q1 q2 q3 q4 q5 q6 q7
      have HKN : Hid (kEndR k (ps.take (j+1)) = K + 4 + ps[j].r.bytes.length + ps[j].r.names.length + ps[j].r.tags.length + ps[j].r.kids.length) := by show _ = _; rw [HKn.out]; unfold mlen; omega
      have hKe' : K + 4 + ps[j].r.bytes.length + ps[j].r.names.length + ps[j].r.tags.length + ps[j].r.kids.length ≤ 1099511627776 := by unfold mlen at hKe; omega
      clear hcell hget hdn hrow v1 v2 v3 v4 hsj HKn hKe hxl
      obtain ⟨s1, s2, s3, s4⟩ := (⟨r1.len, r2.len, r3.len, r4.len⟩ : _ ∧ _ ∧ _ ∧ _)
      simp only [List.length_range] at s1 s2 s3 s4
      generalize ps[j].r.bytes.length = nb at *
      generalize ps[j].r.names.length = nn at *
      generalize ps[j].r.tags.length = nt at *
      generalize ps[j].r.kids.length = nk at *
      have MT : Hid (∀ w, Gives Try.prog 83 #[.int .i64 (K : Int)] w (.string (markT K))) := fun w => markText_c K w (by omega) (by omega)
      have C1 : Hid (∀ w', Ext w w' → Gives Try.prog 90 #[.slice Ab nb cb, .int .i64 ((K : Int) + 4)] w' (.int .i64 ((K : Int) + 4 + nb))) := fun w' e => heldByteS_c Ab nb cb _ w' (r1.ext e) (by omega) (by omega)
      have C2 : Hid (∀ w', Ext w w' → Gives Try.prog 34 #[.slice An nn cn, .int .i64 ((K + 4 + nb : Nat) : Int)] w' (.int .i64 ((K + 4 + nb + nn : Nat) : Int))) := fun w' e => heldStringS_c An nn cn _ w' (r2.ext e) (by omega) (by omega)
      have C3 : Hid (∀ w', Ext w w' → Gives Try.prog 152 #[.slice At nt ct, .int .i64 ((K + 4 + nb + nn : Nat) : Int)] w' (.int .i64 (((K + 4 + nb + nn : Nat) : Int) + nt))) := fun w' e => heldIntS_c At nt ct _ w' (r3.ext e) (by omega) (by omega)
      have C4 : Hid (∀ w', Ext w w' → Gives Try.prog 152 #[.slice Ak nk ck, .int .i64 ((K + 4 + nb + nn + nt : Nat) : Int)] w' (.int .i64 (((K + 4 + nb + nn + nt : Nat) : Int) + nk))) := fun w' e => heldIntS_c Ak nk ck _ w' (r4.ext e) (by omega) (by omega)
      clear r1 r2 r3 r4
      simp only [show (K : Int) + 2 = (K : Int) + 1 + 1 by omega] at q2
      simp only [show (K : Int) + 3 = (K : Int) + 1 + 1 + 1 by omega] at q3
      generalize markT K = s at *
      have hs1 : (s.toList != s.toList) = false := by simp
      have b1 : (j : Int) < (ps.length : Int) := by omega
      go_wp2_with fail
      refine wp_region_quiet_below (by kernel_rfl) (by kernel_rfl) ?_
      repeat (go_big_quiet_step ((go_at_call 83; exact Calls.regrown_of (MT.out _))))
      refine wpQuiet_nil ?_
      rintro w1 ⟨⟨nq, osq⟩, hq⟩
      have ew1 := ext_of_q hq
      clear hq nq osq
      have e1 := he.trans ew1
      go_wp2_with fail
      rw [show (K : Int) + 1 + 1 + 1 + 1 = (K : Int) + 4 by omega]
      refine (C1.out _ e1).mono ?_; rintro _ w2 ⟨rfl, s2⟩
      have e2 := e1.trans s2
      have d1 : decide ((K : Int) + 4 + (nb : Int) < 0) = false := decide_eq_false (by omega)
      go_wp2_with fail
      rw [show (K : Int) + 4 + (nb : Int) = ((K + 4 + nb : Nat) : Int) by omega]
      refine (C2.out _ e2).mono ?_; rintro _ w3 ⟨rfl, s3⟩
      have e3 := e2.trans s3
      generalize hN1 : K + 4 + nb + nn = N1 at *
      have HN1 := Lib.hid hN1; clear hN1
      have d2 : decide ((N1 : Int) < 0) = false := decide_eq_false (by omega)
      go_wp2_with fail
      refine (C3.out _ e3).mono ?_; rintro _ w4 ⟨rfl, s4⟩
      have e4 := e3.trans s4
      have d3 : decide ((N1 : Int) + (nt : Int) < 0) = false := decide_eq_false (by omega)
      go_wp2_with fail
      rw [show (N1 : Int) + (nt : Int) = ((N1 + nt : Nat) : Int) by omega]
      refine (C4.out _ e4).mono ?_; rintro _ w5 ⟨rfl, s5⟩
      have e5 := e4.trans s5
      generalize hN2 : N1 + nt = N2 at *
      have HN2 := Lib.hid hN2; clear hN2
      have d4 : decide ((N2 : Int) + (nk : Int) < 0) = false := decide_eq_false (by omega)
      go_wp2
      go_roundw
      case rel => exact ⟨j + 1, by omega, by go_num, by rw [HKN.out]; have := HN1.out; have := HN2.out; go_num, e5⟩
      case measure => simp [intOf]; omega
    · obtain rfl : j = ps.length := by omega
      go_wp2
      go_ret
      rw [List.take_length]
      exact ⟨rfl, he⟩
/-- a description whose rules are marked from k on -/
structure DMarked (lo hi : Nat) (w : World) (v : Value) (ps : List RV) (k : Nat) : Prop where
  own : ∃ w0 : World, w0.heap.size = lo ∧ (v = .slice none 0 0 ∧ ps = [] ∨ ∃ g c, v = .slice (some ⟨g, 0, none⟩) ps.length c ∧ MarkingR w0 w g c ps k ps.length)
theorem DMarked.ext {lo hi : Nat} {w w' : World} {v : Value} {ps : List RV} {k : Nat} (h : DMarked lo hi w v ps k) (e : Ext w w') : DMarked lo hi w' v ps k := by
  obtain ⟨w0, h0, h1⟩ := h.own
  exact ⟨w0, h0, h1.imp id (fun ⟨g, c, a, b⟩ => ⟨g, c, a, b.ext e⟩)⟩
set_option maxHeartbeats 1000000 in
/-- the marks laid over a description, with what they leave -/
theorem markDescK_c (A : Option Addr) (n c : Nat) (ps : List RV) (k : Nat) (lo hi : Nat) (w : World) (hn : n = ps.length) (h : DMade lo hi w (.slice A n c) ps) (hs : ∀ p ∈ ps, ShortR p.r) (hk : 0 < k) (hk2 : kEndR k ps ≤ 100000000) :
    Calls Try.prog 19 #[vdesc (.slice A n c), .int .i64 k] w fun e w' => e = .returned (.int .i64 (kEndR k ps : Nat)) ∧ DMarked lo hi w' (.slice A n c) ps k ∧ Wrote lo hi w w' := by
  subst hn
  obtain ⟨⟨w0, h0, h1⟩, hb⟩ := h
  subst h0
  have eb := Ext_alloc (.cells #[.slice A ps.length c] 38) (Ext.refl w)
  have h1' := h1.ext eb
  have hkg := kEndR_ge k ps
  have C : Hid (Calls Try.prog 67 #[.slice A ps.length c, .int .i64 k] (w.alloc (.cells #[.slice A ps.length c] 38)) fun e w' => e = .returned (.int .i64 (kEndR k ps : Nat)) ∧ DMarked w0.heap.size hi w' (.slice A ps.length c) ps k ∧ Wrote w0.heap.size hi (w.alloc (.cells #[.slice A ps.length c] 38)) w') := by
    rcases h1'.row.2 with ⟨hv, h0⟩ | ⟨g, cap, cur, hv, _⟩
    · injection hv with q1 q2 q3
      subst q1; subst q3
      obtain rfl : ps = [] := List.eq_nil_of_length_eq_zero h0
      have hk64 : (k : Int) ≤ 100000000 := by simp only [kEndR] at hk2; omega
      have DM : Hid (∀ w', DMarked w0.heap.size hi w' (.slice none 0 0) [] k) := fun w' => ⟨w0, rfl, .inl ⟨rfl, rfl⟩⟩
      clear h1 h1' hb hs hk2 hkg h0
      show Calls _ _ _ _ _
      go_enter Try.func67, Try.ntmps67
      go_wp2
      go_loopw [1, 5] (fun kk i wr => i = .int .i64 0 ∧ kk = .int .i64 k ∧ Wrote w0.heap.size hi (w.alloc (.cells #[.slice none 0 0] 38)) wr) (fun _ _ _ => 0)
      case atStart => exact ⟨rfl, rfl, Wrote.refl _ _ _⟩
      case round =>
        obtain ⟨rfl, rfl, he'⟩ := hrel
        go_wp2
        go_ret
        exact ⟨rfl, DM.out _, he'⟩
    · injection hv with q1 q2 q3
      subst q1; subst q3
      exact (markRuleS_c g c ps k w0 _ hi h1' hb hk (by omega) hs).mono fun e w' ⟨a, m, b⟩ => ⟨a, ⟨w0, rfl, .inr ⟨g, c, rfl, m⟩⟩, b⟩
  have W0 : Hid (Wrote w0.heap.size hi w (w.alloc (.cells #[.slice A ps.length c] 38))) := Wrote.ext eb
  clear h1 h1' hb hs
  unfold vdesc
  generalize kEndR k ps = K at *
  go_enter Try.func19, Try.ntmps19
  go_wp2_with fail
  refine C.out.mono ?_; rintro _ w1 ⟨rfl, hm, hw⟩
  have HW := Lib.hid hw; have HM := Lib.hid hm; clear hw hm
  go_wp2
  go_ret
  exact ⟨rfl, HM.out, W0.out.trans HW.out⟩
end Go.Proofs.Ytlaejcacembjiaa

/- The laws' marks on registries, with what they leave; the same tested. -/
namespace Go.Proofs.Ytlaejcacembjiaa
open Go.RowKit Go.Sort

theorem RuleMarked.wroteB {w0 w w' : World} {k : Nat} {p : RV} (h : RuleMarked w0 w k p) {B : Nat → Prop} (hw : WroteB B w w') (hv : ∀ v ∈ p.vals, ∀ g, v.ownBlock = some g → ¬ B g) : RuleMarked w0 w' k p :=
  ⟨h.b.wroteB hw (hv _ (by simp [RV.vals])), h.n.wroteB hw (hv _ (by simp [RV.vals])), h.t.wroteB hw (hv _ (by simp [RV.vals])), h.k.wroteB hw (hv _ (by simp [RV.vals]))⟩
theorem OwnG.wrote {w0 w w' : World} {v : Value} {qs : List (Value × List RV)} (h : OwnG w0 w v qs) {lo hi : Nat} (hw : Wrote lo hi w w') (hv : ∀ u ∈ v :: (qs.flatMap fun q => q.1 :: q.2.flatMap RV.vals), ∀ g, u.ownBlock = some g → g < lo ∨ hi ≤ g) : OwnG w0 w' v qs :=
  ⟨h.row.wrote hw (hv _ (List.mem_cons_self ..)), fun p hp => (h.each p hp).wrote hw (fun u hu => hv u (List.mem_cons_of_mem _ (List.mem_flatMap.2 ⟨p, hp, hu⟩))), h.far⟩
theorem GMade.wrote {lo hi lo' hi' : Nat} {w w' : World} {v : Value} {qs : List (Value × List RV)} (h : GMade lo hi w v qs) (hw : Wrote lo' hi' w w') (hd : hi ≤ lo' ∨ hi' ≤ lo) : GMade lo hi w' v qs :=
  ⟨let ⟨w0, h0, h1⟩ := h.own; ⟨w0, h0, h1.wrote hw (fun u hu g hg => by have := h.blk u hu g hg; omega)⟩, h.blk⟩
/-- a version whose rules are marked from k on -/
def MarkedQ (w0 w : World) (q : Value × List RV) (k : Nat) : Prop := (q.1 = .slice none 0 0 ∧ q.2 = []) ∨ ∃ g c, q.1 = .slice (some ⟨g, 0, none⟩) q.2.length c ∧ MarkingR w0 w g c q.2 k q.2.length
theorem MarkedQ.ext {w0 w w' : World} {q : Value × List RV} {k : Nat} (h : MarkedQ w0 w q k) (e : Ext w w') : MarkedQ w0 w' q k := h.imp id (fun ⟨g, c, a, b⟩ => ⟨g, c, a, b.ext e⟩)
theorem MarkedQ.wroteB {w0 w w' : World} {q : Value × List RV} {k : Nat} (h : MarkedQ w0 w q k) {B : Nat → Prop} (hw : WroteB B w w') (hv : ∀ u ∈ q.1 :: q.2.flatMap RV.vals, ∀ b, u.ownBlock = some b → ¬ B b) : MarkedQ w0 w' q k :=
  h.imp id (fun ⟨g, c, a, b⟩ => ⟨g, c, a, ⟨b.row.wroteB hw (fun g' hg' => hv q.1 (List.mem_cons_self ..) g' (by rw [a]; exact hg')), fun j hj hij => (b.done j hj hij).wroteB hw (fun u hu => hv u (List.mem_cons_of_mem _ (List.mem_flatMap.2 ⟨_, List.getElem_mem hj, hu⟩))), fun j hj hij => by omega⟩⟩)
structure GMarked (lo hi : Nat) (w : World) (v : Value) (qs : List (Value × List RV)) (k : Nat) : Prop where
  own : ∃ w0 : World, w0.heap.size = lo ∧ Own 38 1 w0 w v qs.length (qs.map Prod.fst) ∧ ∀ i (hi : i < qs.length), MarkedQ w0 w qs[i] (kEndG k (qs.take i))
theorem GMarked.ext {lo hi : Nat} {w w' : World} {v : Value} {qs : List (Value × List RV)} {k : Nat} (h : GMarked lo hi w v qs k) (e : Ext w w') : GMarked lo hi w' v qs k :=
  let ⟨w0, a, b, c⟩ := h.own; ⟨w0, a, Own.ext b e, fun i hi => (c i hi).ext e⟩
theorem markRuleS_anyK (q : Value × List RV) (k : Nat) (w0 w : World) (B : Nat → Prop) (h : OwnD w0 w q.1 q.2) (hB : ∀ u ∈ q.1 :: q.2.flatMap RV.vals, ∀ b, u.ownBlock = some b → B b) (hk : 0 < k) (hk2 : kEndR k q.2 ≤ 1099511627776) (hs : ∀ p ∈ q.2, ShortR p.r) :
    Calls Try.prog 67 #[q.1, .int .i64 k] w fun e w' => e = .returned (.int .i64 (kEndR k q.2 : Nat)) ∧ MarkedQ w0 w' q k ∧ WroteB B w w' := by
  obtain ⟨v, ps⟩ := q
  dsimp only at *
  rcases h.row.2 with ⟨hv, h0⟩ | ⟨g, cap, cur, hv, _⟩
  · subst hv
    obtain rfl : ps = [] := List.eq_nil_of_length_eq_zero h0
    exact (markRuleS_any _ _ k w0 w B h hB hk hk2 hs).mono fun e w' ⟨a, b⟩ => ⟨a, .inl ⟨rfl, rfl⟩, b⟩
  · subst hv
    exact (markRuleS_b g cap ps k w0 w B h hB hk hk2 hs).mono fun e w' ⟨a, m, b⟩ => ⟨a, .inr ⟨g, cap, rfl, m⟩, b⟩
theorem szG_mem1 {ds : List (List DRule)} {n : Nat} (h : szG ds ≤ n + 1) {r : List DRule} (hr : r ∈ ds) : szD r ≤ n := by
  have h1 := sum_mem szD ds r hr
  have h2 := List.length_pos_of_mem hr
  unfold szG at h
  omega
set_option maxRecDepth 100000 in
set_option maxHeartbeats 4000000 in
theorem markDescSK_c (A : Option Addr) (c : Nat) (qs : List (Value × List RV)) (k : Nat) (w0 w : World) (h : OwnG w0 w (.slice A qs.length c) qs) (hz : szG (descsOf qs) ≤ 1048577) (hk : 0 < k) (hk2 : k ≤ 100000000) :
    Calls Try.prog 66 #[.slice A qs.length c, .int .i64 k] w fun e w' => e = .returned (.int .i64 (kEndG k qs : Nat)) ∧ (∀ i (hi : i < qs.length), MarkedQ w0 w' qs[i] (kEndG k (qs.take i))) ∧ WroteB (inG qs) w w' := by
  obtain ⟨f1, f2⟩ := farG_parts h.far
  have hq : ∀ q ∈ qs, szD (rulesOf q.2) ≤ 1048576 := fun q hq => szG_mem1 hz (List.mem_map_of_mem (f := fun q : Value × List RV => rulesOf q.2) hq)
  have HQ := Lib.hid hq
  have hkE : kEndG k qs ≤ 200000000 := by have := kEndG_le k qs; unfold szG at hz; omega
  have hn : qs.length ≤ 1048577 := by unfold szG at hz; simp only [descsOf, List.length_map] at hz; omega
  have HK := Lib.hid hkE
  have HF1 := Lib.hid f1; have HF2 := Lib.hid f2
  have HR := Lib.hid h.row
  have HM : Hid (∀ j (hj : j < qs.length), 0 ≤ j → OwnD w0 w qs[j].1 qs[j].2) := fun j hj _ => h.each _ (List.getElem_mem hj)
  clear h f1 f2 hq hz hkE
  go_enter Try.func66, Try.ntmps66
  go_wp2
  go_loopw [1, 5] (fun kk i wr => ∃ j : Nat, j ≤ qs.length ∧ i = .int .i64 j ∧ kk = .int .i64 (kEndG k (qs.take j) : Nat) ∧ Hid (∀ i (hi : i < qs.length), j ≤ i → OwnD w0 wr qs[i].1 qs[i].2) ∧ Hid (∀ i (hi : i < qs.length), i < j → MarkedQ w0 wr qs[i] (kEndG k (qs.take i))) ∧ WroteB (inG qs) w wr) (fun _ i _ => qs.length - (intOf i).toNat)
  case atStart => exact ⟨0, by omega, rfl, rfl, HM, (fun i _ h => by omega), WroteB.refl _ _⟩
  case round =>
    clear HM
    obtain ⟨j, hj, rfl, rfl, hm, hmk, hw⟩ := hrel
    by_cases hlt : j < qs.length
    · have HKn : Hid (kEndG k (qs.take (j+1)) = kEndR (kEndG k (qs.take j)) qs[j].2) := by
        show _ = _; rw [List.take_succ_eq_append_getElem hlt, kEndG_append]; rfl
      have hKe := kEndG_mono k qs (j+1)
      rw [HKn.out] at hKe
      have hKe2 := HK.out
      have hK0 := kEndG_ge k (qs.take j)
      have hrow := Own.wroteB HR.out hw (fun g hg => HF1.out g hg)
      obtain ⟨g, cg, hA⟩ : ∃ g cg, (Value.slice A qs.length c) = .slice (some ⟨g, 0, none⟩) qs.length cg := by
        rcases hrow.2 with ⟨hv, h0⟩ | ⟨g, cap, cur, hv, _⟩
        · omega
        · exact ⟨g, cap, hv⟩
      injection hA with q1 _ q2
      subst q1; subst q2
      have hc0 : wr.cell? ⟨g, j, none⟩ = some qs[j].1 := by
        rw [World.ownsRow.cellAt hrow j (by omega), List.getElem?_map, List.getElem?_eq_getElem hlt]; rfl
      obtain ⟨A1, c1, hv1⟩ := (hm.out j hlt (Nat.le_refl _)).shape
      rw [hv1] at hc0
      have C : Hid (Calls Try.prog 67 #[.slice A1 qs[j].2.length c1, .int .i64 (kEndG k (qs.take j) : Nat)] wr fun e w' => e = .returned (.int .i64 (kEndR (kEndG k (qs.take j)) qs[j].2 : Nat)) ∧ MarkedQ w0 w' qs[j] (kEndG k (qs.take j)) ∧ WroteB (inG [qs[j]]) wr w') := by
        rw [← hv1]
        exact markRuleS_anyK _ _ w0 wr _ (hm.out j hlt (Nat.le_refl _)) (fun u hu b hb => ⟨qs[j], by simp, u, hu, hb⟩) (by omega) (by omega) (OwnD.short (HQ.out _ (List.getElem_mem hlt))).2
      have NX : Hid (∀ w', MarkedQ w0 w' qs[j] (kEndG k (qs.take j)) → WroteB (inG [qs[j]]) wr w' → (∀ i (hi : i < qs.length), j + 1 ≤ i → OwnD w0 w' qs[i].1 qs[i].2) ∧ (∀ i (hi : i < qs.length), i < j + 1 → MarkedQ w0 w' qs[i] (kEndG k (qs.take i))) ∧ WroteB (inG qs) w w') := fun w' hmj hw' =>
        ⟨fun i hi hji => (hm.out i hi (by omega)).wroteB hw' (fun u hu b hb ⟨q, hq, x, hx, hxb⟩ => by
          simp only [List.mem_singleton] at hq; subst hq
          exact HF2.out i j hi hlt (by omega) u hu x hx b hb hxb), (fun i hi hij => by
          rcases (by omega : i < j ∨ i = j) with h9 | rfl
          · exact (hmk.out i hi h9).wroteB hw' (fun u hu b hb ⟨q, hq, x, hx, hxb⟩ => by
              simp only [List.mem_singleton] at hq; subst hq
              exact HF2.out i j hi hlt (by omega) u hu x hx b hb hxb)
          · exact hmj), hw.trans (hw'.mono (fun b ⟨q, hq, r⟩ => ⟨q, by simp only [List.mem_singleton] at hq; subst hq; exact List.getElem_mem hlt, r⟩))⟩
      clear hm hmk hw hrow hv1
      obtain ⟨K, hK⟩ : ∃ K, kEndG k (qs.take j) = K := ⟨_, rfl⟩
      rw [hK] at C HKn hKe hK0 NX ⊢
      obtain ⟨K', hK'⟩ : ∃ K', kEndR K qs[j].2 = K' := ⟨_, rfl⟩
      rw [hK'] at C HKn hKe
      clear hK hK'
      have b1 : (j : Int) < (qs.length : Int) := by omega
      go_wp2_with fail
      refine C.out.mono ?_; rintro _ w1 ⟨rfl, hq1, hw1⟩
      obtain ⟨n1, n3, n2⟩ := NX.out w1 hq1 hw1
      have N1 := Lib.hid n1; have N2 := Lib.hid n2; have N3 := Lib.hid n3
      clear n1 n2 n3 hq1 hw1 hc0
      go_wp2
      go_roundw
      case rel => exact ⟨j + 1, by omega, by go_num, by rw [HKn.out], N1, N3, N2.out⟩
      case measure => simp [intOf]; omega
    · obtain rfl : j = qs.length := by omega
      go_wp2
      go_ret
      rw [List.take_length]
      exact ⟨rfl, fun i hi => hmk.out i hi hi, hw⟩
set_option maxHeartbeats 1000000 in
theorem markRegK_c (A : Option Addr) (n c : Nat) (qs : List (Value × List RV)) (k : Nat) (lo hi : Nat) (w : World) (hn : n = qs.length) (h : GMade lo hi w (.slice A n c) qs) (hz : szG (descsOf qs) ≤ 1048577) (hk : 0 < k) (hk2 : k ≤ 100000000) :
    Calls Try.prog 18 #[vdesc (.slice A n c), .int .i64 k] w fun e w' => e = .returned (.int .i64 (kEndG k qs : Nat)) ∧ GMarked lo hi w' (.slice A n c) qs k ∧ Wrote lo hi w w' := by
  subst hn
  obtain ⟨⟨w0, h0, h1⟩, hb⟩ := h
  have eb := Ext_alloc (.cells #[.slice A qs.length c] 32) (Ext.refl w)
  have C := Lib.hid (markDescSK_c A c qs k w0 _ (h1.ext eb) hz hk hk2)
  have HE : Hid (kEndG k qs ≤ k + 6000000 ∧ k ≤ kEndG k qs) := ⟨by have := kEndG_le k qs; unfold szG at hz; omega, kEndG_ge _ _⟩
  have HG : Hid (∀ w', (∀ i (hi : i < qs.length), MarkedQ w0 w' qs[i] (kEndG k (qs.take i))) → WroteB (inG qs) (w.alloc (.cells #[.slice A qs.length c] 32)) w' → GMarked lo hi w' (.slice A qs.length c) qs k) := fun w' hm hw => ⟨w0, h0, Own.wroteB (Own.ext h1.row eb) hw (farG_parts h1.far).1, hm⟩
  have HB : Hid (∀ w', WroteB (inG qs) (w.alloc (.cells #[.slice A qs.length c] 32)) w' → Wrote lo hi w w') := fun w' hw => ((WroteB.ext (B := inG qs) eb).trans hw).wrote (fun b ⟨q, hq, u, hu, hub⟩ => hb u (List.mem_cons_of_mem _ (List.mem_flatMap.2 ⟨q, hq, hu⟩)) b hub)
  clear h1 hb hz
  unfold vdesc
  generalize hK : kEndG k qs = K at *
  clear hK
  have hK1 : K ≤ 200000000 := by have := HE.out; omega
  go_enter Try.func18, Try.ntmps18
  go_wp2_with fail
  refine C.out.mono ?_; rintro _ w1 ⟨rfl, hm, hw⟩
  have HW := Lib.hid (HB.out _ hw); have HM := Lib.hid (HG.out _ hm hw); clear hw hm
  go_wp2
  go_ret
  exact ⟨rfl, HM.out, HW.out⟩
set_option maxHeartbeats 1000000 in
theorem heldRule_any (q : Value × List RV) (k : Nat) (w0 w : World) (h : MarkedQ w0 w q k) (hk : 0 < k) (hk2 : kEndR k q.2 ≤ 1099511627776) (hs : ∀ p ∈ q.2, ShortR p.r) :
    Gives Try.prog 114 #[q.1, .int .i64 k] w (.int .i64 (kEndR k q.2 : Nat)) := by
  obtain ⟨v, ps⟩ := q
  dsimp only at *
  rcases h with ⟨hv, hp⟩ | ⟨g, c', hv, hm⟩
  · dsimp only at hv hp
    subst hv; subst hp
    have hk64 : (k : Int) ≤ 1099511627776 := by simp only [kEndR] at hk2; omega
    clear hs hk2
    show Gives _ _ _ _ _
    unfold kEndR
    go_enter Try.func114, Try.ntmps114
    go_wp2
    go_loopw [1, 5] (fun kk i wr => i = .int .i64 0 ∧ kk = .int .i64 k ∧ Ext w wr) (fun _ _ _ => 0)
    case atStart => exact ⟨rfl, rfl, Ext.refl _⟩
    case round =>
      obtain ⟨rfl, rfl, he'⟩ := hrel
      go_wp2
      go_ret
      exact ⟨rfl, he'⟩
  · dsimp only at hv
    subst hv
    exact heldRuleS_c g c' ps k w0 _ hm hk hk2 hs
set_option maxRecDepth 100000 in
set_option maxHeartbeats 4000000 in
theorem heldDescS_c (A : Option Addr) (c : Nat) (qs : List (Value × List RV)) (k : Nat) (lo hi : Nat) (w : World) (h : GMarked lo hi w (.slice A qs.length c) qs k) (hz : ∀ q ∈ qs, ∀ p ∈ q.2, ShortR p.r) (hk : 0 < k) (hkE : kEndG k qs ≤ 200000000) (hn : qs.length ≤ 1048577) :
    Gives Try.prog 68 #[.slice A qs.length c, .int .i64 k] w (.int .i64 (kEndG k qs : Nat)) := by
  obtain ⟨w0, _, h1, h2⟩ := h.own
  have HR := Lib.hid h1; have HM := Lib.hid h2; have HZ := Lib.hid hz
  clear h h1 h2 hz
  go_enter Try.func68, Try.ntmps68
  go_wp2
  go_loopw [1, 5] (fun kk i wr => ∃ j : Nat, j ≤ qs.length ∧ i = .int .i64 j ∧ kk = .int .i64 (kEndG k (qs.take j) : Nat) ∧ Ext w wr) (fun _ i _ => qs.length - (intOf i).toNat)
  case atStart => exact ⟨0, by omega, rfl, rfl, Ext.refl _⟩
  case round =>
    obtain ⟨j, hj, rfl, rfl, he⟩ := hrel
    by_cases hlt : j < qs.length
    · have HKn : Hid (kEndG k (qs.take (j+1)) = kEndR (kEndG k (qs.take j)) qs[j].2) := by
        show _ = _; rw [List.take_succ_eq_append_getElem hlt, kEndG_append]; rfl
      have hKe := kEndG_mono k qs (j+1)
      rw [HKn.out] at hKe
      have hK0 := kEndG_ge k (qs.take j)
      obtain ⟨g, cg, hA⟩ : ∃ g cg, (Value.slice A qs.length c) = .slice (some ⟨g, 0, none⟩) qs.length cg := by
        rcases HR.out.2 with ⟨hv, h0⟩ | ⟨g, cap, cur, hv, _⟩
        · omega
        · exact ⟨g, cap, hv⟩
      injection hA with q1 _ q2
      subst q1; subst q2
      have hc0 : ∀ w', Ext w w' → w'.cell? ⟨g, j, none⟩ = some qs[j].1 := fun w' e => by
        rw [World.ownsRow.cellAt (Own.ext HR.out e) j (by omega), List.getElem?_map, List.getElem?_eq_getElem hlt]; rfl
      have hq := HM.out j hlt
      obtain ⟨A1, c1, hv1⟩ : ∃ A1 c1, qs[j].1 = .slice A1 qs[j].2.length c1 := by
        rcases hq with ⟨a, b⟩ | ⟨g', c', a, _⟩
        · exact ⟨none, 0, by rw [a, b]; rfl⟩
        · exact ⟨_, _, a⟩
      rw [hv1] at hc0
      have C : Hid (∀ w', Ext w w' → Gives Try.prog 114 #[.slice A1 qs[j].2.length c1, .int .i64 (kEndG k (qs.take j) : Nat)] w' (.int .i64 (kEndR (kEndG k (qs.take j)) qs[j].2 : Nat))) := fun w' e => by
        rw [← hv1]
        exact heldRule_any _ _ w0 w' (hq.ext e) (by omega) (by omega) (HZ.out _ (List.getElem_mem hlt))
      clear hv1 hq
      obtain ⟨K, hK⟩ : ∃ K, kEndG k (qs.take j) = K := ⟨_, rfl⟩
      rw [hK] at C HKn hKe hK0 ⊢
      obtain ⟨K', hK'⟩ : ∃ K', kEndR K qs[j].2 = K' := ⟨_, rfl⟩
      rw [hK'] at C HKn hKe
      clear hK hK'
      have b1 : (j : Int) < (qs.length : Int) := by omega
      have d1 : decide ((K' : Int) < 0) = false := decide_eq_false (by omega)
      go_wp2_with fail
      refine (C.out _ he).mono ?_; rintro _ w1 ⟨rfl, s1⟩
      go_wp2
      go_roundw
      case rel => exact ⟨j + 1, by omega, by go_num, by rw [HKn.out], he.trans s1⟩
      case measure => simp [intOf]; omega
    · obtain rfl : j = qs.length := by omega
      go_wp2
      go_ret
      rw [List.take_length]
      exact ⟨rfl, he⟩
set_option maxHeartbeats 1000000 in
theorem heldReg_c (A : Option Addr) (n c : Nat) (qs : List (Value × List RV)) (k : Nat) (lo hi : Nat) (w : World) (hnq : n = qs.length) (h : GMarked lo hi w (.slice A n c) qs k) (hz : ∀ q ∈ qs, ∀ p ∈ q.2, ShortR p.r) (hk : 0 < k) (hkE : kEndG k qs ≤ 200000000) (hn : qs.length ≤ 1048577) :
    Gives Try.prog 20 #[vdesc (.slice A n c), .int .i64 k] w (.int .i64 (kEndG k qs : Nat)) := by
  subst hnq
  have eb := Ext_alloc (.cells #[.slice A qs.length c] 32) (Ext.refl w)
  have C := Lib.hid (heldDescS_c A c qs k lo hi _ (h.ext eb) hz hk hkE hn)
  clear h hz
  unfold vdesc
  generalize kEndG k qs = K at *
  have d1 : decide ((K : Int) < 0) = false := decide_eq_false (by omega)
  go_enter Try.func20, Try.ntmps20
  go_wp2_with fail
  refine C.out.mono ?_; rintro _ w1 ⟨rfl, s1⟩
  go_wp2
  go_ret
  exact ⟨rfl, eb.trans s1⟩
theorem OwnG.rd' {w0 w : World} {A : Option Addr} {c n : Nat} {qs : List (Value × List RV)} {R : List (List DRule)} (h : OwnG w0 w (.slice A n c) qs) (hq : descsOf qs = R) (hn : n = R.length) (hl : R.length ≤ 9223372036854775807) (hl2 : ∀ d ∈ R, d.length ≤ 9223372036854775807) (hs : ShortG R) : RdG w A R c := by
  subst hq; subst hn
  obtain ⟨A', c', hv, hR⟩ := h.rd (by simpa [descsOf] using hl) (fun q hq => by have := hl2 (rulesOf q.2) (List.mem_map_of_mem (f := fun q : Value × List RV => rulesOf q.2) hq); simpa [rulesOf] using this) (fun q hq p hp => hs (rulesOf q.2) (List.mem_map_of_mem (f := fun q : Value × List RV => rulesOf q.2) hq) p.r (List.mem_map_of_mem hp))
  injection hv with q1 _ q2
  subst q1; subst q2; exact hR
theorem szG_lens {R : List (List DRule)} (h : szG R ≤ 1048577) : R.length ≤ 1048577 ∧ ∀ d ∈ R, d.length ≤ 1048577 :=
  ⟨by unfold szG at h; omega, fun d hd => by have := szG_mem1 (n := 1048577) (by omega) hd; unfold szD at this; omega⟩
end Go.Proofs.Ytlaejcacembjiaa

/- The laws' marks on archives, with what they leave; the same tested; the copy of a law's own. -/
namespace Go.Proofs.Ytlaejcacembjiaa
open Go.RowKit Go.Sort

/-- an archive copied by a law: the registry's blocks first -/
structure AMade (lo hi : Nat) (w : World) (v : Value) (qs : List (Value × List RV)) (u : Value) (l : List UInt8) : Prop where
  own : ∃ (mid : Nat) (w1 : World), lo ≤ mid ∧ mid ≤ hi ∧ hi ≤ w.heap.size ∧ w1.heap.size = mid ∧ GMade lo mid w v qs ∧ OwnL vu8 5 w1 w u l ∧ ∀ g, u.ownBlock = some g → g < hi
theorem AMade.ext {lo hi : Nat} {w w' : World} {v : Value} {qs : List (Value × List RV)} {u : Value} {l : List UInt8} (h : AMade lo hi w v qs u l) (e : Ext w w') : AMade lo hi w' v qs u l :=
  let ⟨mid, w1, a, b, s, c, d, f, g⟩ := h.own; ⟨mid, w1, a, b, Nat.le_trans s e.size, c, d.ext e, OwnL.ext f e, g⟩
theorem AMade.wrote {lo hi lo' hi' : Nat} {w w' : World} {v : Value} {qs : List (Value × List RV)} {u : Value} {l : List UInt8} (h : AMade lo hi w v qs u l) (hw : Wrote lo' hi' w w') (hd : hi ≤ lo' ∨ hi' ≤ lo) : AMade lo hi w' v qs u l :=
  let ⟨mid, w1, a, b, s, c, d, f, g⟩ := h.own
  ⟨mid, w1, a, b, Nat.le_trans s hw.size, c, d.wrote hw (by omega), OwnL.wrote f hw (fun k hk => by have := g k hk; have := (World.ownsRow.lt f k hk).1; omega), g⟩
theorem AMade.of {w w1 w2 : World} {v u : Value} {qs : List (Value × List RV)} {l : List UInt8} (e1 : Ext w w1) (h : OwnG w w2 v qs) (hb : ∀ x ∈ v :: (qs.flatMap fun q => q.1 :: q.2.flatMap RV.vals), ∀ b, x.ownBlock = some b → b < w1.heap.size) (h2 : OwnL vu8 5 w1 w2 u l) (hs : w1.heap.size ≤ w2.heap.size) : AMade w.heap.size w2.heap.size w2 v qs u l :=
  ⟨w1.heap.size, w1, e1.size, hs, Nat.le_refl _, rfl, ⟨⟨w, rfl, h⟩, fun x hx b hg => ⟨(h.block x hx b hg).1, hb x hx b hg⟩⟩, h2, fun g hg => (World.ownsRow.lt h2 g hg).2⟩
structure AMarked (lo hi : Nat) (w : World) (v : Value) (qs : List (Value × List RV)) (u : Value) (n k : Nat) : Prop where
  own : ∃ (mid : Nat) (w1 : World), GMarked lo mid w v qs k ∧ Own 5 1 w1 w u n ((List.range n).map (mk8 (kEndG k qs : Nat)))
theorem AMarked.ext {lo hi : Nat} {w w' : World} {v : Value} {qs : List (Value × List RV)} {u : Value} {n k : Nat} (h : AMarked lo hi w v qs u n k) (e : Ext w w') : AMarked lo hi w' v qs u n k :=
  let ⟨mid, w1, a, b⟩ := h.own; ⟨mid, w1, a.ext e, Own.ext b e⟩
theorem GMarked.wrote {lo hi lo' hi' : Nat} {w w' : World} {v : Value} {qs : List (Value × List RV)} {k : Nat} (h : GMarked lo hi w v qs k) (hw : Wrote lo' hi' w w') (hb : ∀ x ∈ v :: (qs.flatMap fun q => q.1 :: q.2.flatMap RV.vals), ∀ b, x.ownBlock = some b → b < lo') : GMarked lo hi w' v qs k :=
  let ⟨w0, a, b, c⟩ := h.own
  ⟨w0, a, Own.wrote b hw (fun g hg => .inl (hb v (List.mem_cons_self ..) g hg)), fun i hi => (c i hi).wroteB (B := fun g => lo' ≤ g) ⟨hw.os, hw.tape, hw.output, hw.size, fun k hk hB => hw.block k hk (.inl (by omega))⟩ (fun u hu g hg => by have := hb u (List.mem_cons_of_mem _ (List.mem_flatMap.2 ⟨_, List.getElem_mem hi, hu⟩)) g hg; omega)⟩
set_option maxRecDepth 100000 in
set_option maxHeartbeats 2000000 in
theorem markArchK_c (A : Option Addr) (n c : Nat) (qs : List (Value × List RV)) (L : Option Addr) (m e : Nat) (s : Int) (k : Nat) (lo hi : Nat) (w : World) (hn : n = qs.length) {xs : List UInt8} (hmx : m = xs.length) (h : AMade lo hi w (.slice A n c) qs (.slice L m e) xs) (hz : szG (descsOf qs) ≤ 1048577) (hm : m ≤ 1048577) (hk : 0 < k) (hk2 : k ≤ 100000000) :
    Calls Try.prog 26 #[varch (.slice A n c) (.slice L m e) s, .int .i64 k] w fun e' w' => e' = .returned (.int .i64 (kEndG k qs + m : Nat)) ∧ AMarked lo hi w' (.slice A n c) qs (.slice L m e) m k ∧ Wrote lo hi w w' := by
  obtain ⟨mid, w1, a1, a2, a8, a3, a4, a5, a6⟩ := h.own
  unfold OwnL at a5
  generalize xs.map vu8 = ys at a5
  rw [← hmx] at a5
  clear h hmx
  have eb := Ext_alloc (.cells #[.slice A n c, .slice L m e, .int .i64 s] 53) (Ext.refl w)
  have B0 := Box.new w #[.slice A n c, .slice L m e, .int .i64 s] 53
  have HKE : kEndG k qs ≤ 200000000 := by have := kEndG_le k qs; unfold szG at hz; omega
  have hn2 := hn
  have C := Lib.hid (markRegK_c A n c qs k lo mid _ hn (a4.ext eb) hz hk hk2)
  have C2 := Lib.hid (fun (w' : World) ys ho => markLog_c s L m e (kEndG k qs : Nat) ys w1 w' ho (by omega) (by omega))
  have HBLK := Lib.hid a4.blk
  have HOW : Hid (∀ w', Wrote lo mid (w.alloc (.cells #[.slice A n c, .slice L m e, .int .i64 s] 53)) w' → Own 5 1 w1 w' (.slice L m e) m ys) := fun w' hw => Own.wrote (Own.ext a5 eb) hw (fun g hg => by have := (World.ownsRow.lt a5 g hg).1; omega)
  have HBX : Hid (∀ w', Wrote lo mid (w.alloc (.cells #[.slice A n c, .slice L m e, .int .i64 s] 53)) w' → Box w' w.heap.size #[.slice A n c, .slice L m e, .int .i64 s] 53) := fun w' hw => Box.wrote B0 hw (.inr (by omega))
  have H6 := Lib.hid a6
  have HW1 := Lib.hid a3
  have HEB := Lib.hid eb
  have c0 := B0.cell
  clear hz hn a4 a5 a6 B0 eb a3
  unfold vdesc vlog at *
  unfold varch
  obtain ⟨K, hK⟩ : ∃ K, kEndG k qs = K := ⟨_, rfl⟩
  have HK := Lib.hid hK
  rw [hK] at C C2 HKE ⊢
  clear hK hn2
  go_enter Try.func26, Try.ntmps26
  go_wp2_with fail
  refine C.out.mono ?_; rintro _ w2 ⟨rfl, hm2, hw2⟩
  have HM2 := Lib.hid hm2; have HW2 := Lib.hid hw2
  have b2 := (HBX.out _ hw2).cell
  have O2 := HOW.out _ hw2
  clear hm2 hw2 c0 HBX HOW
  go_wp2_with fail
  refine (C2.out _ _ O2).mono ?_; rintro _ w3 ⟨rfl, ho3, hg3⟩
  have HO3 := Lib.hid ho3
  have W3 : Hid (Wrote mid hi w2 w3) := Wrote.grown hg3 (fun g hg => ⟨by have := (World.ownsRow.lt O2 g hg).1; have := HW1.out; omega, H6.out g hg⟩)
  clear ho3 hg3 O2 b2
  go_wp2
  go_ret
  exact ⟨ret_i64 (by omega), ⟨mid, w1, GMarked.wrote HM2.out W3.out (fun x hx b hb => (HBLK.out x hx b hb).2), by rw [HK.out]; exact HO3.out⟩, ((Wrote.ext (lo := lo) (hi := hi) HEB.out).trans (HW2.out.mono (Nat.le_refl _) a2)).trans (W3.out.mono a1 (Nat.le_refl _))⟩
theorem markArch_c (A : Option Addr) (n c : Nat) (qs : List (Value × List RV)) (L : Option Addr) (m e : Nat) (s : Int) (k : Nat) (lo hi : Nat) (w : World) (hn : n = qs.length) {xs : List UInt8} (hmx : m = xs.length) (h : AMade lo hi w (.slice A n c) qs (.slice L m e) xs) (hz : szG (descsOf qs) ≤ 1048576) (hm : m ≤ 1048576) (hk : 0 < k) (hk2 : k ≤ 100000000) :
    Calls Try.prog 26 #[varch (.slice A n c) (.slice L m e) s, .int .i64 k] w fun e' w' => ∃ k' : Nat, k ≤ k' ∧ k' ≤ k + 10000000 ∧ e' = .returned (.int .i64 k') ∧ Wrote lo hi w w' :=
  (markArchK_c A n c qs L m e s k lo hi w hn hmx h (by omega) (by omega) hk hk2).mono fun _ _ ⟨a, _, b⟩ => ⟨_, by have := kEndG_ge k qs; omega, by have := kEndG_le k qs; unfold szG at hz; omega, a, b⟩
set_option maxRecDepth 100000 in
set_option maxHeartbeats 2000000 in
theorem heldArch_c (A : Option Addr) (n c : Nat) (qs : List (Value × List RV)) (L : Option Addr) (m e : Nat) (s : Int) (k : Nat) (lo hi : Nat) (w : World) (hnq : n = qs.length) (h : AMarked lo hi w (.slice A n c) qs (.slice L m e) m k) (hz : ∀ q ∈ qs, ∀ p ∈ q.2, ShortR p.r) (hk : 0 < k) (hkE : kEndG k qs ≤ 200000000) (hn : qs.length ≤ 1048577) (hm : m ≤ 1048577) :
    Gives Try.prog 27 #[varch (.slice A n c) (.slice L m e) s, .int .i64 k] w (.int .i64 (kEndG k qs + m : Nat)) := by
  obtain ⟨mid, w1, a1, a2⟩ := h.own
  have eb := Ext_alloc (.cells #[.slice A n c, .slice L m e, .int .i64 s] 53) (Ext.refl w)
  have B0 := fun w' (e : Ext (w.alloc (.cells #[.slice A n c, .slice L m e, .int .i64 s] 53)) w') => boxed e
  have C := Lib.hid (heldReg_c A n c qs k lo mid _ hnq (a1.ext eb) hz hk hkE hn)
  have R2 := Lib.hid ((Own.mk_rd a2 (by omega)).ext eb)
  have C2 := Lib.hid (fun w' h => heldLog_c s L m e (kEndG k qs : Nat) w' h (by omega) (by omega))
  clear hz hn hnq a1 a2 h
  unfold vdesc vlog at *
  unfold varch
  obtain ⟨K, hK⟩ : ∃ K, kEndG k qs = K := ⟨_, rfl⟩
  rw [hK] at C C2 R2 hkE ⊢
  clear hK
  have d1 : decide ((K : Int) < 0) = false := decide_eq_false (by omega)
  have d2 : decide ((K : Int) + (m : Int) < 0) = false := decide_eq_false (by omega)
  go_enter Try.func27, Try.ntmps27
  go_wp2_with fail
  refine C.out.mono ?_; rintro _ w2 ⟨rfl, s2⟩
  replace B0 := fun w' (e : Ext w2 w') => B0 w' (Ext.trans s2 e)
  go_wp2_with fail
  refine (C2.out _ (R2.out.ext s2)).mono ?_; rintro _ w3 ⟨rfl, s3⟩
  go_wp2
  go_ret
  exact ⟨ret_i64 (by omega), (eb.trans s2).trans s3⟩
set_option maxRecDepth 100000 in
set_option maxHeartbeats 4000000 in
theorem toArch_o (A : Option Addr) (gs : List (List DRule)) (c : Nat) (L : Option Addr) (l : List UInt8) (k : Nat) (s : Int) (w : World) (h : RdA w A gs c L l k) (hz : szA gs l ≤ 1048576) :
    Calls Try.prog 23 #[varch (.slice A gs.length c) (.slice L l.length k) s] w fun e w' => ∃ A1 c1 A2 c2 qs, e = .returned (varch (.slice A1 gs.length c1) (.slice A2 l.length c2) s) ∧ RdA w' A1 gs c1 A2 l c2 ∧ descsOf qs = gs ∧ AMade w.heap.size w'.heap.size w' (.slice A1 gs.length c1) qs (.slice A2 l.length c2) l ∧ Ext w w' := by
  have hg : szG gs ≤ 1048576 := by unfold szA at hz; omega
  have hl : l.length ≤ 1048576 := by unfold szA at hz; omega
  have C1 := Lib.hid (fun w h => toRegistry_c A gs c w h hg)
  have C2 := Lib.hid (fun w h => toLog_c L l k s w h hl)
  have HZ := Lib.hid hg
  obtain ⟨W0, HW0, HA, HR, HO, eA, hsA⟩ := boxes3' w #[.slice A gs.length c, .slice L l.length k, .int .i64 s] #[.slice none 0 0, .slice none 0 0, .int .i64 0] #[.slice none 0 0, .slice none 0 0, .int .i64 0] 49 53 53
  have HSA := Lib.hid hsA
  have HA0 := Lib.hid HA; have HR0 := Lib.hid HR; have HO0 := Lib.hid HO; clear HA HR HO hsA
  unfold vdesc at C1
  unfold vlog at C2
  unfold varch
  go_enter Try.func23, Try.ntmps23
  go_wp2_with fail
  rw [← HW0.out]
  refine (C1.out _ (h.g.ext eA)).mono ?_; rintro _ w1 ⟨v1, qs, rfl, hqs, ho1, he1⟩
  subst hqs
  have hlq : (descsOf qs).length = qs.length := by simp [descsOf]
  obtain ⟨A1, c1, rfl⟩ := ho1.shape
  have a1 := (HA0.out.ext he1).cell; have p1 := (HO0.out.ext he1).cell; have q1 := (HO0.out.ext he1).free
  have hs1 := he1.size
  have g1 := ho1.block
  have O1 := Lib.hid (ho1.keep (grown_set w1 ⟨w.heap.size + 1 + 1, 0, none⟩ (.slice A1 qs.length c1)) (by intro u hu g hg' he'; have := g1 u hu g hg'; have := HSA.out; injection he' with he'; simp only at he'; omega))
  have HA1 := Lib.hid ((HA0.out.ext he1).other (g' := w.heap.size + 1 + 1) (by omega) 0 (.slice A1 qs.length c1)); have HR1 := Lib.hid ((HR0.out.ext he1).other (g' := w.heap.size + 1 + 1) (by omega) 0 (.slice A1 qs.length c1)); have HO1 := Lib.hid ((HO0.out.ext he1).set 0 (.slice A1 qs.length c1))
  have e1 := (eA.trans he1).setCell (p := ⟨w.heap.size + 1 + 1, 0, none⟩) (by show w.heap.size ≤ w.heap.size + 1 + 1; omega) (.slice A1 qs.length c1)
  have S1 : w1.heap.size ≤ (w1.setCell ⟨w.heap.size + 1 + 1, 0, none⟩ (.slice A1 qs.length c1)).heap.size := by simp
  have G1 := Lib.hid g1
  clear ho1 g1 HA0 HO0 HR0 eA
  go_wp2_with fail
  generalize w1.setCell ⟨w.heap.size + 1 + 1, 0, none⟩ (.slice A1 qs.length c1) = W1 at *
  clear a1 p1 q1
  refine (C2.out _ (h.l.ext e1)).mono ?_; rintro _ w2 ⟨v2, rfl, ho2, he2⟩
  obtain ⟨A2, c2, rfl, _⟩ := OwnL.rd ho2 (by omega)
  have p2 := (HO1.out.ext he2).cell; have q2 := (HO1.out.ext he2).free; have r2 := (HR1.out.ext he2).cell; have t2 := (HR1.out.ext he2).free
  have hs2 := he2.size
  have HO2 := Lib.hid ho2
  have O2 := Lib.hid (O1.out.ext he2)
  have e2 := e1.trans he2
  clear ho2 O1 he2 he1
  go_wp2
  have z0 := HSA.out
  have gr : ∀ (W : World) (x y : Value), W.grownBy ((W.setCell ⟨w.heap.size + 1 + 1, 1, none⟩ x).setCell ⟨w.heap.size + 1 + 1, 2, none⟩ y) (some (w.heap.size + 1 + 1)) := fun W x y => (grown_set W ⟨w.heap.size + 1 + 1, 1, none⟩ x).trans (grown_set _ ⟨w.heap.size + 1 + 1, 2, none⟩ y)
  have gs' : ∀ (W : World) (x y z : Value), W.grownBy (((W.setCell ⟨w.heap.size + 1, 0, none⟩ x).setCell ⟨w.heap.size + 1, 1, none⟩ y).setCell ⟨w.heap.size + 1, 2, none⟩ z) (some (w.heap.size + 1)) := fun W x y z => ((grown_set W ⟨w.heap.size + 1, 0, none⟩ x).trans (grown_set _ ⟨w.heap.size + 1, 1, none⟩ y)).trans (grown_set _ ⟨w.heap.size + 1, 2, none⟩ z)
  have OG := (O2.out.keep (gr w2 (.slice A2 l.length c2) (.int .i64 s)) (by intro u hu g hg' he'; have := G1.out u hu g hg'; injection he' with he'; omega)).keep (gs' _ (.slice A1 qs.length c1) (.slice A2 l.length c2) (.int .i64 s)) (by intro u hu g hg' he'; have := G1.out u hu g hg'; injection he' with he'; omega)
  have OL := (HO2.out.keep (gr w2 (.slice A2 l.length c2) (.int .i64 s)) (by intro g hg' he'; have := World.ownsRow.lt HO2.out g hg'; injection he' with he'; omega)).keep (gs' _ (.slice A1 qs.length c1) (.slice A2 l.length c2) (.int .i64 s)) (by intro g hg' he'; have := World.ownsRow.lt HO2.out g hg'; injection he' with he'; omega)
  have hq : ∀ q ∈ qs, szD (rulesOf q.2) ≤ 1048576 := fun q hq => szG_mem HZ.out (List.mem_map_of_mem (f := fun q : Value × List RV => rulesOf q.2) hq)
  obtain ⟨A3, c3, hv3, R3⟩ := OG.rd (by have := HZ.out; unfold szG at this; rw [hlq] at this; omega) (fun q h => (OwnD.short (hq q h)).1) (fun q h => (OwnD.short (hq q h)).2)
  rw [hlq] at hv3
  injection hv3 with i1 _ i2
  subst i1; subst i2
  obtain ⟨A4, c4, hv4, R4⟩ := OwnL.rd OL (by omega)
  injection hv4 with i1 _ i2
  subst i1; subst i2
  refine bodyPost_ret (v := .agg #[.slice A1 qs.length c1, .slice A2 l.length c2, .int .i64 s]) (by simp [results, Try.results23, go_sem, p2, q2, r2, t2]) rfl ⟨A1, c1, A2, c2, qs, by rw [hlq], ⟨R3, R4.1⟩, rfl, ?_, ?_⟩
  · rw [hlq]; exact AMade.of (w := w) (w1 := W1) e1 (OG.down (by omega)) (fun x hx b hb => by have := (G1.out x hx b hb).2; omega) OL (by simp only [World.size_setCell]; omega)
  · exact (e2.grown (gr w2 _ _) (fun g hg => by injection hg with hg; omega)).grown (gs' _ _ _ _) (fun g hg => by injection hg with hg; omega)
theorem gmade_rd {lo hi : Nat} {w : World} {A : Option Addr} {c : Nat} {qs : List (Value × List RV)} {R : List (List DRule)} (h : GMade lo hi w (.slice A R.length c) qs) (hq : descsOf qs = R) (hz : szG R ≤ 1048577) (hs : ShortG R) : RdG w A R c := by
  obtain ⟨w0, _, h1⟩ := h.own
  obtain ⟨B1, B2⟩ := szG_lens hz
  exact h1.rd' hq rfl (by omega) (fun d hd => by have := B2 d hd; omega) hs
theorem amade_rd {lo hi : Nat} {w : World} {A L : Option Addr} {c e : Nat} {qs : List (Value × List RV)} {R : List (List DRule)} {l : List UInt8} (h : AMade lo hi w (.slice A R.length c) qs (.slice L l.length e) l) (hq : descsOf qs = R) (hz : szA R l ≤ 1048577) (hs : ShortA R l) : RdA w A R c L l e := by
  obtain ⟨mid, w1, _, _, _, _, h4, h5, _⟩ := h.own
  unfold szA at hz
  refine ⟨gmade_rd h4 hq (by omega) hs.g, ?_⟩
  obtain ⟨A4, c4, hv4, R4⟩ := OwnL.rd h5 (by omega)
  injection hv4 with i1 _ i2
  subst i1; subst i2
  exact R4.1
end Go.Proofs.Ytlaejcacembjiaa
