/- The laws' marks laid over registries. -/
import Derived.Test.YtmnenemnplpigaaDescMark
import Derived.Test.YtmnenemnplpigaaDescR
namespace Go.Proofs.Ytmnenemnplpigaa
open Go.RowKit Go.Sort

/-- w' is w with new blocks, and writes to blocks of B -/
structure WroteB (B : Nat → Prop) (w w' : World) : Prop where
  os : w'.os = w.os
  tape : w'.tape = w.tape
  output : w'.output = w.output
  size : w.heap.size ≤ w'.heap.size
  block : ∀ k, k < w.heap.size → ¬ B k → w'.heap[k]? = w.heap[k]?
theorem WroteB.refl (B : Nat → Prop) (w : World) : WroteB B w w := ⟨rfl, rfl, rfl, Nat.le_refl _, fun _ _ _ => rfl⟩
theorem WroteB.trans {B : Nat → Prop} {a b c : World} (h : WroteB B a b) (k : WroteB B b c) : WroteB B a c :=
  ⟨k.os.trans h.os, k.tape.trans h.tape, k.output.trans h.output, Nat.le_trans h.size k.size, fun i hi hb => (k.block i (Nat.lt_of_lt_of_le hi h.size) hb).trans (h.block i hi hb)⟩
theorem WroteB.mono {B C : Nat → Prop} {a b : World} (h : WroteB B a b) (hC : ∀ k, B k → C k) : WroteB C a b := ⟨h.os, h.tape, h.output, h.size, fun i hi hb => h.block i hi (fun hB => hb (hC i hB))⟩
theorem WroteB.grown {B : Nat → Prop} {w w' : World} {row : Option Nat} (h : w.grownBy w' row) (hr : ∀ g, row = some g → B g) : WroteB B w w' :=
  ⟨h.os, h.tape, h.output, h.size, fun i hi hb => h.block i hi (fun e => hb (hr i e.symm))⟩
theorem WroteB.ext {B : Nat → Prop} {w w' : World} (e : Ext w w') : WroteB B w w' := ⟨e.os, e.tape, e.output, e.size, fun i hi _ => Below.block e i hi⟩
theorem WroteB.wrote {B : Nat → Prop} {lo hi : Nat} {w w' : World} (h : WroteB B w w') (hB : ∀ k, B k → lo ≤ k ∧ k < hi) : Wrote lo hi w w' :=
  ⟨h.os, h.tape, h.output, h.size, fun k hk hn => h.block k hk (fun hb => by have := hB k hb; omega)⟩
theorem Own.wroteB {e : TypeId} {size : Nat} {w0 w w' : World} {v : Value} {n : Nat} {xs : List Value} (h : Own e size w0 w v n xs) {B : Nat → Prop} (hw : WroteB B w w') (hv : ∀ g, v.ownBlock = some g → ¬ B g) : Own e size w0 w' v n xs := by
  refine ⟨h.1, ?_⟩
  rcases h.2 with h0 | ⟨g, cap, cur, rfl, hb, hg, r⟩
  · exact .inl h0
  · exact .inr ⟨g, cap, cur, rfl, hb, (hw.block g (Array.getElem?_eq_some_iff.1 hg).1 (hv g rfl)).trans hg, r⟩
theorem OwnL.wroteB {α : Type} {f : α → Value} {e : TypeId} {w0 w w' : World} {v : Value} {l : List α} (h : OwnL f e w0 w v l) {B : Nat → Prop} (hw : WroteB B w w') (hv : ∀ g, v.ownBlock = some g → ¬ B g) : OwnL f e w0 w' v l := Own.wroteB h hw hv
theorem RuleOwn.wroteB {w0 w w' : World} {p : RV} (h : RuleOwn w0 w p) {B : Nat → Prop} (hw : WroteB B w w') (hv : ∀ v ∈ p.vals, ∀ g, v.ownBlock = some g → ¬ B g) : RuleOwn w0 w' p :=
  ⟨h.b.wroteB hw (hv _ (by simp [RV.vals])), h.n.wroteB hw (hv _ (by simp [RV.vals])), h.t.wroteB hw (hv _ (by simp [RV.vals])), h.k.wroteB hw (hv _ (by simp [RV.vals]))⟩
theorem OwnD.wroteB {w0 w w' : World} {v : Value} {ps : List RV} (h : OwnD w0 w v ps) {B : Nat → Prop} (hw : WroteB B w w') (hv : ∀ u ∈ v :: ps.flatMap RV.vals, ∀ g, u.ownBlock = some g → ¬ B g) : OwnD w0 w' v ps :=
  ⟨h.row.wroteB hw (hv _ (by simp)), fun p hp => (h.each p hp).wroteB hw (fun u hu => hv u (List.mem_cons_of_mem _ (List.mem_flatMap.2 ⟨p, hp, hu⟩))), h.far⟩
set_option maxRecDepth 100000 in
set_option maxHeartbeats 8000000 in
theorem markRuleS_b (g c : Nat) (ps : List RV) (k : Nat) (w0 w : World) (B : Nat → Prop) (h : OwnD w0 w (.slice (some ⟨g, 0, none⟩) ps.length c) ps) (hB : ∀ u ∈ (Value.slice (some ⟨g, 0, none⟩) ps.length c) :: ps.flatMap RV.vals, ∀ b, u.ownBlock = some b → B b) (hk : 0 < k) (hk2 : kEndR k ps ≤ 1099511627776) (hs : ∀ p ∈ ps, ShortR p.r) :
    Calls Try.prog 69 #[.slice (some ⟨g, 0, none⟩) ps.length c, .int .i64 k] w fun e w' => e = .returned (.int .i64 (kEndR k ps : Nat)) ∧ MarkingR w0 w' g c ps k ps.length ∧ WroteB B w w' := by
  obtain ⟨f1, f2, f3⟩ := far_parts h.far
  have HF1 := Lib.hid (fun j hj u hu => f1 j hj u hu g rfl); have HF2 := Lib.hid f2; have HF3 := Lib.hid f3
  have hgB := hB _ (List.mem_cons_self ..) g rfl
  have HB : Hid (∀ p ∈ ps, ∀ v ∈ p.vals, ∀ b, v.ownBlock = some b → B b) := fun p hp v hv b hb => hB v (List.mem_cons_of_mem _ (List.mem_flatMap.2 ⟨p, hp, hv⟩)) b hb
  have HM : Hid (MarkingR w0 w g c ps k 0) := ⟨by simpa [msR] using h.row, fun j _ hj => by omega, fun j hj _ => h.each _ (List.getElem_mem hj)⟩
  have hn : ps.length ≤ 140737488351232 := by
    rw [kEndR_eq] at hk2
    have := len_mlen ps
    omega
  clear h f1 f2 f3 hB
  go_enter Try.func69, Try.ntmps69
  go_wp2
  go_loopw [1, 5] (fun kk i wr => ∃ j : Nat, j ≤ ps.length ∧ i = .int .i64 j ∧ kk = .int .i64 (kEndR k (ps.take j) : Nat) ∧ Hid (MarkingR w0 wr g c ps k j) ∧ WroteB B w wr) (fun _ i _ => ps.length - (intOf i).toNat)
  case atStart => exact ⟨0, by omega, rfl, rfl, HM, WroteB.refl _ _⟩
  case round =>
    clear HM
    obtain ⟨j, hj, rfl, rfl, hm, hw⟩ := hrel
    by_cases hlt : j < ps.length
    · have HKn : Hid (kEndR k (ps.take (j+1)) = kEndR k (ps.take j) + mlen ps[j].r) := by
        show _ = _; rw [List.take_succ_eq_append_getElem hlt, kEndR_append]; rfl
      have hKe := kEndR_mono k ps (j+1)
      rw [HKn.out] at hKe
      have hK0 := kEndR_ge k (ps.take j)
      have hsj := hs _ (List.getElem_mem hlt)
      have hbj := HB.out _ (List.getElem_mem hlt)
      obtain ⟨m1, m2, m3⟩ := hm.out
      have hrj := m3 j hlt (Nat.le_refl _)
      have hdrop : ps.drop j = ps[j] :: ps.drop (j+1) := List.drop_eq_getElem_cons hlt
      rw [hdrop] at m1
      have hml : (msR k (ps.take j)).length = j := by rw [msR_length, List.length_take]; omega
      have hrow := mark_rowR (msR k (ps.take j)) ps[j] (ps.drop (j+1)) (kEndR k (ps.take j)) j hml
      have hnext : msR k (ps.take j) ++ [(kEndR k (ps.take j), ps[j])] = msR k (ps.take (j+1)) := by
        rw [List.take_succ_eq_append_getElem hlt, msR_append]; rfl
      have hget := fun m hm => mk_getR (msR k (ps.take j)) (kEndR k (ps.take j)) ps[j] ((ps.drop (j+1)).flatMap RV.cells) j m hml hm
      have HF1j := Lib.hid (HF1.out j hlt)
      have HF2j : Hid (∀ i (hi : i < ps.length), i ≠ j → ∀ u ∈ ps[i].vals, ∀ x ∈ ps[j].vals, ∀ b, x.ownBlock = some b → u.ownBlock ≠ some b) := fun i hi hne u hu x hx b hb hb' => HF2.out i j hi hlt hne u hu x hx b hb' hb
      have HF3j := Lib.hid (HF3.out j hlt)
      have HNX : Hid (MarkingR w0 wr g c ps k j) := hm
      rw [hnext] at hrow hget
      obtain ⟨K, hK⟩ : ∃ K, kEndR k (ps.take j) = K := ⟨_, rfl⟩
      rw [hK] at hrow hget hKe hK0 HKn
      have HK := Lib.hid hK
      have hgx := cells_getR (msR k (ps.take j)) ps[j] (ps.drop (j+1)) j 4 hml (by omega)
      obtain ⟨xs, hxs⟩ : ∃ xs, (msR k (ps.take j)).flatMap mkCells ++ (ps[j] :: ps.drop (j+1)).flatMap RV.cells = xs := ⟨_, rfl⟩
      rw [hxs] at m1 hrow hgx
      simp only [RV.cells, List.getElem?_cons_succ, List.getElem?_cons_zero] at hgx
      obtain ⟨ys, hys⟩ : ∃ ys, (msR k (ps.take (j+1))).flatMap mkCells ++ (ps.drop (j+1)).flatMap RV.cells = ys := ⟨_, rfl⟩
      have HYS := Lib.hid hys
      rw [hys] at hrow hget
      have hxl : xs.length = ps.length * 8 := m1.1
      obtain ⟨Ab, cb, An, cn, At, ct, Ak, ck, v1, v2, v3, v4, _⟩ := hrj.rd hsj
      have HG4 := hget 4 (by omega); have HG5 := hget 5 (by omega); have HG6 := hget 6 (by omega); have HG7 := hget 7 (by omega)
      simp only [mkCells, List.getElem?_cons_succ, List.getElem?_cons_zero] at HG4 HG5 HG6 HG7
      rw [v1] at hgx
      have HGX := Lib.hid hgx
      rw [v1] at HG4; rw [v2] at HG5; rw [v3] at HG6; rw [v4] at HG7
      have L4 := Lib.hid HG4; have L5 := Lib.hid HG5; have L6 := Lib.hid HG6; have L7 := Lib.hid HG7
      have HR := Lib.hid hrow; have Hm1 := Lib.hid m1; have Hm2 := Lib.hid m2; have Hm3 := Lib.hid m3; have HXL := Lib.hid hxl; have V1 := Lib.hid v1; have V2 := Lib.hid v2; have V3 := Lib.hid v3; have V4 := Lib.hid v4
      have HBJ := Lib.hid hbj; have HRJ := Lib.hid hrj
      have hmlen : mlen ps[j].r = 4 + ps[j].r.bytes.length + ps[j].r.names.length + ps[j].r.tags.length + ps[j].r.kids.length := rfl
      have HML := Lib.hid hmlen
      rw [hmlen] at hKe
      have HSJ := Lib.hid hsj
      have MT : Hid (∀ w, Gives Try.prog 70 #[.int .i64 (K : Int)] w (.string (markT K))) := fun w => markText_c K w (by omega) (by omega)
      rw [hK]
      clear hgx hrow m1 m2 m3 hxs hys hget HG4 HG5 HG6 HG7 v1 v2 v3 v4 hdrop hml hnext hK hxl hbj hrj hmlen hsj hm
      have hr0 := Hm1.out
      have hxl := HXL.out
      go_wp2_with fail
      refine (MT.out _).mono ?_; rintro _ w1 ⟨rfl, he1⟩
      have hr1 := Own.ext Hm1.out he1
      obtain ⟨⟨u0, hu0⟩, hf0⟩ := hr1.slot (j * 8) (by rw [hxl]; omega)
      obtain ⟨⟨u1, hu1⟩, hf1⟩ := hr1.slot (j * 8 + 1) (by rw [hxl]; omega)
      obtain ⟨⟨u2, hu2⟩, hf2⟩ := hr1.slot (j * 8 + 2) (by rw [hxl]; omega)
      obtain ⟨⟨u3, hu3⟩, hf3⟩ := hr1.slot (j * 8 + 3) (by rw [hxl]; omega)
      have hu4 : w1.cell? ⟨g, j * 8 + 4, none⟩ = some (.slice Ab ps[j].r.bytes.length cb) := by rw [hr1.cellAt (j * 8 + 4) (by omega)]; exact HGX.out
      have HO1 : Hid (Own 91 8 w0 ((((w1.setCell ⟨g, j * 8, none⟩ (.string (markT K))).setCell ⟨g, j * 8 + 1, none⟩ (.int .i64 ((K : Int) + 1))).setCell ⟨g, j * 8 + 2, none⟩ (.int .i64 ((K : Int) + 2))).setCell ⟨g, j * 8 + 3, none⟩ (.bool (((K : Int) + 3) % 3 == 0))) (.slice (some ⟨g, 0, none⟩) ps.length c) ps.length ys) := by
        have := (((hr1.stored (j * 8) (.string (markT K))).1.stored (j * 8 + 1) (.int .i64 ((K : Int) + 1))).1.stored (j * 8 + 2) (.int .i64 ((K : Int) + 2))).1.stored (j * 8 + 3) (.bool (((K : Int) + 3) % 3 == 0))
        have := this.1
        rw [HR.out] at this
        exact this
      have G1 : Hid (wr.grownBy ((((w1.setCell ⟨g, j * 8, none⟩ (.string (markT K))).setCell ⟨g, j * 8 + 1, none⟩ (.int .i64 ((K : Int) + 1))).setCell ⟨g, j * 8 + 2, none⟩ (.int .i64 ((K : Int) + 2))).setCell ⟨g, j * 8 + 3, none⟩ (.bool (((K : Int) + 3) % 3 == 0))) (some g)) :=
        ((((grown_ext he1 (some g)).trans (grown_set _ ⟨g, j * 8, none⟩ _)).trans (grown_set _ ⟨g, j * 8 + 1, none⟩ _)).trans (grown_set _ ⟨g, j * 8 + 2, none⟩ _)).trans (grown_set _ ⟨g, j * 8 + 3, none⟩ _)
      clear hr1 hr0
      go_wp2_with fail
      rw [show (K : Int) + 1 + 1 + 1 + 1 = (K : Int) + 4 by omega, show (K : Int) + 1 + 1 + 1 = (K : Int) + 3 by omega, show (K : Int) + 1 + 1 = (K : Int) + 2 by omega]
      generalize ((((w1.setCell ⟨g, j * 8, none⟩ (.string (markT K))).setCell ⟨g, j * 8 + 1, none⟩ (.int .i64 ((K : Int) + 1))).setCell ⟨g, j * 8 + 2, none⟩ (.int .i64 ((K : Int) + 2))).setCell ⟨g, j * 8 + 3, none⟩ (.bool (((K : Int) + 3) % 3 == 0))) = W1 at *
      clear hu0 hu1 hu2 hu3 hf0 hf1 hf2 hf3 hu4
      have R1 := Lib.hid (HRJ.out.keep G1.out (fun v hv b hb he => HF1j.out v hv (hb.trans he.symm)))
      obtain ⟨d1, d2, d3, d4, d5, d6⟩ := far4 HF3j.out
      have D1 := Lib.hid d1; have D2 := Lib.hid d2; have D3 := Lib.hid d3; have D4 := Lib.hid d4; have D5 := Lib.hid d5; have D6 := Lib.hid d6
      clear d1 d2 d3 d4 d5 d6
      have ob := R1.out.b
      rw [V1.out] at ob
      refine (markByteS_c Ab _ cb ((K : Int) + 4) _ w0 _ ob (by omega) (by omega)).mono ?_; rintro _ w2 ⟨rfl, om1, g2⟩
      rw [← V1.out] at om1 g2
      have M1 := Lib.hid om1; have G2 := Lib.hid g2
      have HO2 := Lib.hid (HO1.out.keep g2 (fun b hb he => HF1j.out ps[j].vb (by simp [RV.vals]) (he.trans hb.symm)))
      have c5 : w2.cell? ⟨g, j * 8 + 5, none⟩ = some (.slice An ps[j].r.names.length cn) := by rw [HO2.out.cellAt (j * 8 + 5) (by omega)]; exact L5.out
      clear ob om1 g2
      go_wp2_with fail
      rw [show (K : Int) + 4 + (ps[j].r.bytes.length : Int) = ((K + 4 + ps[j].r.bytes.length : Nat) : Int) by omega]
      have on := R1.out.n.keep G2.out (fun b hb he => D1.out b he hb)
      rw [V2.out] at on
      refine (markStringS_c An _ cn (K + 4 + ps[j].r.bytes.length) _ w0 _ on (by omega) (by omega)).mono ?_; rintro _ w3 ⟨rfl, om2, g3⟩
      rw [← V2.out] at om2 g3
      have M2 := Lib.hid om2; have G3 := Lib.hid g3
      have HO3 := Lib.hid (HO2.out.keep g3 (fun b hb he => HF1j.out ps[j].vn (by simp [RV.vals]) (he.trans hb.symm)))
      have c6 : w3.cell? ⟨g, j * 8 + 6, none⟩ = some (.slice At ps[j].r.tags.length ct) := by rw [HO3.out.cellAt (j * 8 + 6) (by omega)]; exact L6.out
      clear on om2 g3 c5
      go_wp2_with fail
      have ot := (R1.out.t.keep G2.out (fun b hb he => D2.out b he hb)).keep G3.out (fun b hb he => D4.out b he hb)
      rw [V3.out] at ot
      refine (markIntS_c At _ ct ((K + 4 + ps[j].r.bytes.length + ps[j].r.names.length : Nat) : Int) _ w0 _ ot (by omega) (by omega)).mono ?_; rintro _ w4 ⟨rfl, om3, g4⟩
      rw [← V3.out] at om3 g4
      have M3 := Lib.hid om3; have G4 := Lib.hid g4
      have HO4 := Lib.hid (HO3.out.keep g4 (fun b hb he => HF1j.out ps[j].vt (by simp [RV.vals]) (he.trans hb.symm)))
      have c7 : w4.cell? ⟨g, j * 8 + 7, none⟩ = some (.slice Ak ps[j].r.kids.length ck) := by rw [HO4.out.cellAt (j * 8 + 7) (by omega)]; exact L7.out
      clear ot om3 g4 c6
      go_wp2_with fail
      first
        | rw [show ((K + 4 + ps[j].r.bytes.length + ps[j].r.names.length : Nat) : Int) + (ps[j].r.tags.length : Int) = ((K + 4 + ps[j].r.bytes.length + ps[j].r.names.length + ps[j].r.tags.length : Nat) : Int) by omega]
        | rw [show (K : Int) + 4 + (ps[j].r.bytes.length : Int) + (ps[j].r.names.length : Int) + (ps[j].r.tags.length : Int) = ((K + 4 + ps[j].r.bytes.length + ps[j].r.names.length + ps[j].r.tags.length : Nat) : Int) by omega]
        | trace_state
      have okk := ((R1.out.k.keep G2.out (fun b hb he => D3.out b he hb)).keep G3.out (fun b hb he => D5.out b he hb)).keep G4.out (fun b hb he => D6.out b he hb)
      rw [V4.out] at okk
      refine (markIntS_c Ak _ ck ((K + 4 + ps[j].r.bytes.length + ps[j].r.names.length + ps[j].r.tags.length : Nat) : Int) _ w0 _ okk (by omega) (by omega)).mono ?_; rintro _ w5 ⟨rfl, om4, g5⟩
      rw [← V4.out] at om4 g5
      have M4 := Lib.hid om4; have G5 := Lib.hid g5
      have HO5 := Lib.hid (HO4.out.keep g5 (fun b hb he => HF1j.out ps[j].vk (by simp [RV.vals]) (he.trans hb.symm)))
      clear okk om4 g5 c7
      have hfin : MarkingR w0 w5 g c ps k (j + 1) := by
        refine ⟨by rw [HYS.out]; exact HO5.out, fun i hi' hij => ?_, fun i hi' hij => ?_⟩
        · rcases Nat.lt_or_ge i j with hlt' | hge
          · have q := HF2j.out i hi' (by omega)
            exact ((((((Hm2.out i hi' hlt').keep G1.out (fun v hv b hb he => HF1.out i hi' v hv (hb.trans he.symm))).keep G2.out (fun v hv b hb he => q v hv _ (by simp [RV.vals]) b he hb)).keep G3.out (fun v hv b hb he => q v hv ps[j].vn (by simp [RV.vals]) b he hb)).keep G4.out (fun v hv b hb he => q v hv ps[j].vt (by simp [RV.vals]) b he hb)).keep G5.out (fun v hv b hb he => q v hv ps[j].vk (by simp [RV.vals]) b he hb))
          · obtain rfl : i = j := by omega
            rw [HK.out]
            exact ⟨((M1.out.keep G3.out D1.out).keep G4.out D2.out).keep G5.out D3.out, (M2.out.keep G4.out D4.out).keep G5.out D5.out, M3.out.keep G5.out D6.out, M4.out⟩
        · have q := HF2j.out i hi' (by omega)
          exact ((((((Hm3.out i hi' (by omega)).keep G1.out (fun v hv b hb he => HF1.out i hi' v hv (hb.trans he.symm))).keep G2.out (fun v hv b hb he => q v hv _ (by simp [RV.vals]) b he hb)).keep G3.out (fun v hv b hb he => q v hv ps[j].vn (by simp [RV.vals]) b he hb)).keep G4.out (fun v hv b hb he => q v hv ps[j].vt (by simp [RV.vals]) b he hb)).keep G5.out (fun v hv b hb he => q v hv ps[j].vk (by simp [RV.vals]) b he hb))
      have HFIN := Lib.hid hfin
      have HWR : Hid (WroteB B w w5) := (((((hw.trans (WroteB.grown G1.out (fun b hb => by injection hb with hb; subst hb; exact hgB))).trans (WroteB.grown G2.out (fun b hb => HBJ.out _ (by simp [RV.vals]) b hb))).trans (WroteB.grown G3.out (fun b hb => HBJ.out _ (by simp [RV.vals]) b hb))).trans (WroteB.grown G4.out (fun b hb => HBJ.out _ (by simp [RV.vals]) b hb))).trans (WroteB.grown G5.out (fun b hb => HBJ.out _ (by simp [RV.vals]) b hb)))
      clear hfin
      go_wp2
      go_roundw
      case rel => exact ⟨j + 1, by omega, by go_num, by rw [HKn.out, HML.out]; go_num, HFIN, HWR.out⟩
      case measure => simp [intOf]; omega
    · obtain rfl : j = ps.length := by omega
      go_wp2
      go_ret
      rw [List.take_length]
      exact ⟨rfl, hm.out, hw⟩
/-- .. of a nil slice too -/
theorem markRuleS_any (v : Value) (ps : List RV) (k : Nat) (w0 w : World) (B : Nat → Prop) (h : OwnD w0 w v ps) (hB : ∀ u ∈ v :: ps.flatMap RV.vals, ∀ b, u.ownBlock = some b → B b) (hk : 0 < k) (hk2 : kEndR k ps ≤ 1099511627776) (hs : ∀ p ∈ ps, ShortR p.r) :
    Calls Try.prog 69 #[v, .int .i64 k] w fun e w' => e = .returned (.int .i64 (kEndR k ps : Nat)) ∧ WroteB B w w' := by
  rcases h.row.2 with ⟨hv, h0⟩ | ⟨g, cap, cur, hv, _⟩
  · subst hv
    obtain rfl : ps = [] := List.eq_nil_of_length_eq_zero h0
    have hk64 : (k : Int) ≤ 1099511627776 := by unfold kEndR at hk2; omega
    clear h hB hk2 hs h0
    show Calls _ _ _ _ _
    go_enter Try.func69, Try.ntmps69
    go_wp2
    go_loopw [1, 5] (fun kk i wr => i = .int .i64 0 ∧ kk = .int .i64 k ∧ WroteB B w wr) (fun _ _ _ => 0)
    case atStart => exact ⟨rfl, rfl, WroteB.refl _ _⟩
    case round =>
      obtain ⟨rfl, rfl, he'⟩ := hrel
      go_wp2
      go_ret
      exact ⟨rfl, he'⟩
  · subst hv
    exact (markRuleS_b g cap ps k w0 w B h hB hk hk2 hs).mono fun e w' ⟨a, _, b⟩ => ⟨a, b⟩
def kEndG : Nat → List (Value × List RV) → Nat
  | k, [] => k
  | k, q :: t => kEndG (kEndR k q.2) t
theorem kEndG_append (k : Nat) (a b : List (Value × List RV)) : kEndG k (a ++ b) = kEndG (kEndG k a) b := by
  induction a generalizing k with
  | nil => rfl
  | cons p t ih => simp [kEndG, ih]
theorem kEndG_ge (k : Nat) (a : List (Value × List RV)) : k ≤ kEndG k a := by
  induction a generalizing k with
  | nil => simp [kEndG]
  | cons p t ih => have := ih (kEndR k p.2); have := kEndR_ge k p.2; simp only [kEndG]; omega
theorem kEndG_mono (k : Nat) (a : List (Value × List RV)) (i : Nat) : kEndG k (a.take i) ≤ kEndG k a := by
  conv => rhs; rw [← List.take_append_drop i a, kEndG_append]
  exact kEndG_ge _ _
theorem kEndR_le (k : Nat) (ps : List RV) : kEndR k ps ≤ k + 4 * szD (rulesOf ps) := by
  have := kEndR_sz k ps
  unfold szD; rw [rulesOf_len]; omega
theorem kEndG_le (k : Nat) (a : List (Value × List RV)) : kEndG k a ≤ k + 4 * ((descsOf a).map szD).sum := by
  induction a generalizing k with
  | nil => simp [kEndG]
  | cons p t ih => have := ih (kEndR k p.2); have := kEndR_le k p.2; simp only [kEndG, descsOf, List.map_cons, List.sum_cons] at *; omega
/-- a registry copied by a law -/
structure GMade (lo hi : Nat) (w : World) (v : Value) (qs : List (Value × List RV)) : Prop where
  own : ∃ w0 : World, w0.heap.size = lo ∧ OwnG w0 w v qs
  blk : ∀ u ∈ v :: (qs.flatMap fun q => q.1 :: q.2.flatMap RV.vals), ∀ b, u.ownBlock = some b → lo ≤ b ∧ b < hi
theorem GMade.ext {lo hi : Nat} {w w' : World} {v : Value} {qs : List (Value × List RV)} (h : GMade lo hi w v qs) (e : Ext w w') : GMade lo hi w' v qs := ⟨let ⟨w0, h0, h1⟩ := h.own; ⟨w0, h0, h1.ext e⟩, h.blk⟩
theorem toReg_o (A : Option Addr) (ds : List (List DRule)) (c : Nat) (w : World) (h : RdG w A ds c) (hz : szG ds ≤ 1048576) :
    Calls Try.prog 41 #[vdesc (.slice A ds.length c)] w fun e w' => ∃ A1 c1 qs, e = .returned (vdesc (.slice A1 ds.length c1)) ∧ RdG w' A1 ds c1 ∧ descsOf qs = ds ∧ GMade w.heap.size w'.heap.size w' (.slice A1 ds.length c1) qs ∧ Ext w w' := by
  refine (toRegistry_c A ds c w h hz).mono ?_
  rintro e w' ⟨v, qs, he, rfl, ho, hx⟩
  have hq : ∀ q ∈ qs, szD (rulesOf q.2) ≤ 1048576 := fun q hq => szG_mem hz (List.mem_map_of_mem (f := fun q : Value × List RV => rulesOf q.2) hq)
  obtain ⟨A1, c1, rfl, hr⟩ := ho.rd (by unfold szG at hz; simp only [descsOf, List.length_map] at hz; omega) (fun q h => (OwnD.short (hq q h)).1) (fun q h => (OwnD.short (hq q h)).2)
  exact ⟨A1, c1, qs, he, hr, rfl, ⟨⟨w, rfl, ho⟩, ho.block⟩, hx⟩
/-- the blocks of the versions, without the registry's own row -/
def inG (qs : List (Value × List RV)) (b : Nat) : Prop := ∃ q ∈ qs, ∃ u ∈ q.1 :: q.2.flatMap RV.vals, u.ownBlock = some b
theorem farG_parts {v : Value} {qs : List (Value × List RV)} (h : Far (v :: qs.flatMap fun q => q.1 :: q.2.flatMap RV.vals)) :
    (∀ g, v.ownBlock = some g → ¬ inG qs g) ∧ (∀ i j (hi : i < qs.length) (hj : j < qs.length), i ≠ j → ∀ u ∈ qs[i].1 :: qs[i].2.flatMap RV.vals, ∀ x ∈ qs[j].1 :: qs[j].2.flatMap RV.vals, ∀ g, u.ownBlock = some g → x.ownBlock ≠ some g) := by
  unfold Far at h
  rw [List.pairwise_cons] at h
  obtain ⟨h1, h2⟩ := h
  rw [List.pairwise_flatMap] at h2
  refine ⟨fun g hg ⟨q, hq, u, hu, hb⟩ => h1 u (List.mem_flatMap.2 ⟨q, hq, hu⟩) g hg hb, fun i j hi hj hne u hu x hx g hg hg' => ?_⟩
  have hp := List.pairwise_iff_getElem.1 h2.2
  rcases Nat.lt_or_ge i j with hlt | hge
  · exact hp i j hi hj hlt u hu x hx g hg hg'
  · exact hp j i hj hi (by omega) x hx u hu g hg' hg
set_option maxRecDepth 100000 in
set_option maxHeartbeats 4000000 in
theorem markDescS_c (A : Option Addr) (c : Nat) (qs : List (Value × List RV)) (k : Nat) (w0 w : World) (h : OwnG w0 w (.slice A qs.length c) qs) (hz : szG (descsOf qs) ≤ 1048576) (hk : 0 < k) (hk2 : k ≤ 100000000) :
    Calls Try.prog 89 #[.slice A qs.length c, .int .i64 k] w fun e w' => e = .returned (.int .i64 (kEndG k qs : Nat)) ∧ WroteB (inG qs) w w' := by
  obtain ⟨f1, f2⟩ := farG_parts h.far
  have hq : ∀ q ∈ qs, szD (rulesOf q.2) ≤ 1048576 := fun q hq => szG_mem hz (List.mem_map_of_mem (f := fun q : Value × List RV => rulesOf q.2) hq)
  have HQ := Lib.hid hq
  have hkE : kEndG k qs ≤ 200000000 := by have := kEndG_le k qs; unfold szG at hz; omega
  have hn : qs.length ≤ 1048576 := by unfold szG at hz; simp only [descsOf, List.length_map] at hz; omega
  have HK := Lib.hid hkE
  have HF1 := Lib.hid f1; have HF2 := Lib.hid f2
  have HR := Lib.hid h.row
  have HM : Hid (∀ j (hj : j < qs.length), 0 ≤ j → OwnD w0 w qs[j].1 qs[j].2) := fun j hj _ => h.each _ (List.getElem_mem hj)
  clear h f1 f2 hq hz hkE
  go_enter Try.func89, Try.ntmps89
  go_wp2
  go_loopw [1, 5] (fun kk i wr => ∃ j : Nat, j ≤ qs.length ∧ i = .int .i64 j ∧ kk = .int .i64 (kEndG k (qs.take j) : Nat) ∧ Hid (∀ i (hi : i < qs.length), j ≤ i → OwnD w0 wr qs[i].1 qs[i].2) ∧ WroteB (inG qs) w wr) (fun _ i _ => qs.length - (intOf i).toNat)
  case atStart => exact ⟨0, by omega, rfl, rfl, HM, WroteB.refl _ _⟩
  case round =>
    clear HM
    obtain ⟨j, hj, rfl, rfl, hm, hw⟩ := hrel
    by_cases hlt : j < qs.length
    · have HKn : Hid (kEndG k (qs.take (j+1)) = kEndR (kEndG k (qs.take j)) qs[j].2) := by
        show _ = _; rw [List.take_succ_eq_append_getElem hlt, kEndG_append]; rfl
      have hKe := kEndG_mono k qs (j+1)
      rw [HKn.out] at hKe
      have hKe2 := HK.out
      have hK0 := kEndG_ge k (qs.take j)
      have hrow := Own.wroteB HR.out hw (fun g hg => HF1.out g hg)
      obtain ⟨g, cg, hA⟩ : ∃ g cg, (Value.slice A qs.length c) = .slice (some ⟨g, 0, none⟩) qs.length cg := by
        rcases hrow.2 with ⟨hv, h0⟩ | ⟨g, cap, cur, hv, _⟩
        · omega
        · exact ⟨g, cap, hv⟩
      injection hA with q1 _ q2
      subst q1; subst q2
      have hc0 : wr.cell? ⟨g, j, none⟩ = some qs[j].1 := by
        rw [World.ownsRow.cellAt hrow j (by omega), List.getElem?_map, List.getElem?_eq_getElem hlt]; rfl
      obtain ⟨A1, c1, hv1⟩ := (hm.out j hlt (Nat.le_refl _)).shape
      rw [hv1] at hc0
      have C : Hid (Calls Try.prog 69 #[.slice A1 qs[j].2.length c1, .int .i64 (kEndG k (qs.take j) : Nat)] wr fun e w' => e = .returned (.int .i64 (kEndR (kEndG k (qs.take j)) qs[j].2 : Nat)) ∧ WroteB (inG [qs[j]]) wr w') := by
        rw [← hv1]
        exact markRuleS_any _ _ _ w0 wr _ (hm.out j hlt (Nat.le_refl _)) (fun u hu b hb => ⟨qs[j], by simp, u, hu, hb⟩) (by omega) (by omega) (OwnD.short (HQ.out _ (List.getElem_mem hlt))).2
      have NX : Hid (∀ w', WroteB (inG [qs[j]]) wr w' → (∀ i (hi : i < qs.length), j + 1 ≤ i → OwnD w0 w' qs[i].1 qs[i].2) ∧ WroteB (inG qs) w w') := fun w' hw' =>
        ⟨fun i hi hji => (hm.out i hi (by omega)).wroteB hw' (fun u hu b hb ⟨q, hq, x, hx, hxb⟩ => by
          simp only [List.mem_singleton] at hq; subst hq
          exact HF2.out i j hi hlt (by omega) u hu x hx b hb hxb), hw.trans (hw'.mono (fun b ⟨q, hq, r⟩ => ⟨q, by simp only [List.mem_singleton] at hq; subst hq; exact List.getElem_mem hlt, r⟩))⟩
      clear hm hw hrow hv1
      obtain ⟨K, hK⟩ : ∃ K, kEndG k (qs.take j) = K := ⟨_, rfl⟩
      rw [hK] at C HKn hKe hK0 ⊢
      obtain ⟨K', hK'⟩ : ∃ K', kEndR K qs[j].2 = K' := ⟨_, rfl⟩
      rw [hK'] at C HKn hKe
      clear hK hK'
      have b1 : (j : Int) < (qs.length : Int) := by omega
      go_wp2_with fail
      refine C.out.mono ?_; rintro _ w1 ⟨rfl, hw1⟩
      obtain ⟨n1, n2⟩ := NX.out w1 hw1
      have N1 := Lib.hid n1; have N2 := Lib.hid n2
      clear n1 n2 hw1 hc0
      go_wp2
      go_roundw
      case rel => exact ⟨j + 1, by omega, by go_num, by rw [HKn.out], N1, N2.out⟩
      case measure => simp [intOf]; omega
    · obtain rfl : j = qs.length := by omega
      go_wp2
      go_ret
      rw [List.take_length]
      exact ⟨rfl, hw⟩
set_option maxHeartbeats 1000000 in
theorem markReg_c (A : Option Addr) (n c : Nat) (qs : List (Value × List RV)) (k : Nat) (lo hi : Nat) (w : World) (hn : n = qs.length) (h : GMade lo hi w (.slice A n c) qs) (hz : szG (descsOf qs) ≤ 1048576) (hk : 0 < k) (hk2 : k ≤ 100000000) :
    Calls Try.prog 44 #[vdesc (.slice A n c), .int .i64 k] w fun e w' => ∃ k' : Nat, k ≤ k' ∧ k' ≤ k + 6000000 ∧ e = .returned (.int .i64 k') ∧ Wrote lo hi w w' := by
  subst hn
  obtain ⟨⟨w0, h0, h1⟩, hb⟩ := h
  have eb := Ext_alloc (.cells #[.slice A qs.length c] 55) (Ext.refl w)
  have C := Lib.hid (markDescS_c A c qs k w0 _ (h1.ext eb) hz hk hk2)
  have HE : Hid (kEndG k qs ≤ k + 6000000 ∧ k ≤ kEndG k qs) := ⟨by have := kEndG_le k qs; unfold szG at hz; omega, kEndG_ge _ _⟩
  have HB : Hid (∀ w', WroteB (inG qs) (w.alloc (.cells #[.slice A qs.length c] 55)) w' → Wrote lo hi w w') := fun w' hw => ((WroteB.ext (B := inG qs) eb).trans hw).wrote (fun b ⟨q, hq, u, hu, hub⟩ => hb u (List.mem_cons_of_mem _ (List.mem_flatMap.2 ⟨q, hq, hu⟩)) b hub)
  clear h1 hb hz
  unfold vdesc
  generalize kEndG k qs = K at *
  have hK1 : K ≤ 200000000 := by have := HE.out; omega
  go_enter Try.func44, Try.ntmps44
  go_wp2_with fail
  refine C.out.mono ?_; rintro _ w1 ⟨rfl, hw⟩
  have HW := Lib.hid hw; clear hw
  go_wp2
  go_ret
  exact ⟨K, HE.out.2, HE.out.1, rfl, HB.out _ HW.out⟩
end Go.Proofs.Ytmnenemnplpigaa
