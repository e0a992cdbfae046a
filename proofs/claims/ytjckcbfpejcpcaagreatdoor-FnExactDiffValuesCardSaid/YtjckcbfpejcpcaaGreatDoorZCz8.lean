/- The laws' marks laid over changes, and tested. -/
import Derived.Test.YtjckcbfpejcpcaaGreatDoorZCz7
import Derived.Test.YtjckcbfpejcpcaaGreatDoorRows
import Derived.Stop.LaidErr
import Derived.LaidLaws
set_option linter.unusedVariables false
set_option linter.unusedSimpArgs false
namespace Go.Proofs.YtjckcbfpejcpcaaGreatDoor
open Go.RowKit Go.Sort

def mkG (m : Nat × CT) : List Value := [.string (markT m.1), .int .i64 ((m.1 : Int) + 1), m.2.2.vb, m.2.2.vi]
def msC : Nat → List CT → List (Nat × CT)
  | _, [] => []
  | k, x :: t => (k, x) :: msC (k + 2 + szV x.2.val) t
def kEndC : Nat → List CT → Nat
  | k, [] => k
  | k, x :: t => kEndC (k + 2 + szV x.2.val) t
theorem msC_append (k : Nat) (a b : List CT) : msC k (a ++ b) = msC k a ++ msC (kEndC k a) b := by
  induction a generalizing k with
  | nil => rfl
  | cons p t ih => simp [msC, kEndC, ih]
theorem kEndC_append (k : Nat) (a b : List CT) : kEndC k (a ++ b) = kEndC (kEndC k a) b := by
  induction a generalizing k with
  | nil => rfl
  | cons p t ih => simp [kEndC, ih]
theorem msC_length (k : Nat) (a : List CT) : (msC k a).length = a.length := by
  induction a generalizing k with
  | nil => rfl
  | cons p t ih => simp [msC, ih]
theorem mkG_len (ms : List (Nat × CT)) : (ms.flatMap mkG).length = ms.length * 4 := by
  induction ms with
  | nil => rfl
  | cons p t ih => rw [List.flatMap_cons, List.length_append, ih, List.length_cons]; simp [mkG]; omega
theorem kEndC_ge (k : Nat) (a : List CT) : k ≤ kEndC k a := by
  induction a generalizing k with
  | nil => simp [kEndC]
  | cons p t ih => have := ih (k + 2 + szV p.2.val); simp only [kEndC]; omega
theorem kEndC_mono (k : Nat) (a : List CT) (i : Nat) : kEndC k (a.take i) ≤ kEndC k a := by
  conv => rhs; rw [← List.take_append_drop i a, kEndC_append]
  exact kEndC_ge _ _
theorem len_kEndC (k : Nat) (a : List CT) : k + a.length ≤ kEndC k a := by
  induction a generalizing k with
  | nil => simp [kEndC]
  | cons p t ih => have := ih (k + 2 + szV p.2.val); simp only [kEndC, List.length_cons]; omega
theorem kEndC_le (k : Nat) (a : List CT) : kEndC k a ≤ k + 2 * szCh (chOf a) := by
  induction a generalizing k with
  | nil => simp [kEndC]
  | cons p t ih =>
    have h1 := ih (k + 2 + szV p.2.val)
    have h2 : szCh (chOf (p :: t)) = 1 + szV p.2.val + szCh (chOf t) := by simp [szCh, chOf]
    rw [h2]; simp only [kEndC]; omega
/-- the path and the number are laid into a row -/
theorem mark_rowC (ms : List (Nat × CT)) (p : CT) (rest : List CT) (k i : Nat) (hi : ms.length = i) :
    ((ms.flatMap mkG ++ (p :: rest).flatMap ccells).set (i * 4) (.string (markT k))).set (i * 4 + 1) (.int .i64 ((k : Int) + 1)) = (ms ++ [(k, p)]).flatMap mkG ++ rest.flatMap ccells := by
  have hl : (ms.flatMap mkG).length = i * 4 := by rw [mkG_len, hi]
  rw [List.set_append_right _ _ (by omega), List.set_append_right _ _ (by omega), hl, Nat.sub_self, show i * 4 + 1 - i * 4 = 1 by omega]
  simp [VT.cells, ccells, mkG, List.flatMap_cons]
theorem mk_getC (ms : List (Nat × CT)) (k : Nat) (p : CT) (rest : List Value) (i m : Nat) (hi : ms.length = i) (hm : m < 4) :
    ((ms ++ [(k, p)]).flatMap mkG ++ rest)[i * 4 + m]? = (mkG (k, p))[m]? := by
  have hl : (ms.flatMap mkG).length = i * 4 := by rw [mkG_len, hi]
  rw [List.flatMap_append, List.flatMap_cons, List.flatMap_nil, List.append_nil, List.append_assoc, List.getElem?_append_right (by omega), hl, show i * 4 + m - i * 4 = m by omega, List.getElem?_append_left (by simp [mkG]; omega)]
theorem cells_getC (ms : List (Nat × CT)) (p : CT) (rest : List CT) (i m : Nat) (hi : ms.length = i) (hm : m < 4) :
    (ms.flatMap mkG ++ (p :: rest).flatMap ccells)[i * 4 + m]? = (ccells p)[m]? := by
  have hl : (ms.flatMap mkG).length = i * 4 := by rw [mkG_len, hi]
  rw [List.getElem?_append_right (by omega), hl, show i * 4 + m - i * 4 = m by omega, List.flatMap_cons, List.getElem?_append_left (by simp [ccells, VT.cells]; omega)]
theorem farC_parts {v : Value} {ps : List CT} (h : Far (v :: cvals ps)) :
    (∀ j (hj : j < ps.length), ∀ u ∈ ps[j].2.vals, ∀ g, v.ownBlock = some g → u.ownBlock ≠ some g) ∧ (∀ i j (hi : i < ps.length) (hj : j < ps.length), i ≠ j → ∀ u ∈ ps[i].2.vals, ∀ x ∈ ps[j].2.vals, ∀ g, u.ownBlock = some g → x.ownBlock ≠ some g) ∧ (∀ j (hj : j < ps.length), Far ps[j].2.vals) := by
  unfold Far cvals at h
  rw [List.pairwise_cons] at h
  obtain ⟨h1, h2⟩ := h
  rw [List.pairwise_flatMap] at h2
  refine ⟨fun j hj u hu g hg => h1 u (List.mem_flatMap.2 ⟨_, List.getElem_mem hj, hu⟩) g hg, fun i j hi hj hne u hu x hx g hg hg' => ?_, fun j hj => h2.1 _ (List.getElem_mem hj)⟩
  have hp := List.pairwise_iff_getElem.1 h2.2
  rcases Nat.lt_or_ge i j with hlt | hge
  · exact hp i j hi hj hlt u hu x hx g hg hg'
  · exact hp j i hj hi (by omega) x hx u hu g hg' hg
set_option maxRecDepth 100000 in
set_option maxHeartbeats 8000000 in
theorem markChangeS_c (A : Option Addr) (c : Nat) (ps : List CT) (k : Nat) (w0 w : World) (ho : OwnC w0 w (.slice A ps.length c) ps) (hk : 0 < k) (hk2 : kEndC k ps ≤ 100000000) :
    Calls Tryz.prog 16 #[.slice A ps.length c, .int .i64 k] w fun e w' => e = .returned (.int .i64 (kEndC k ps : Nat)) ∧ Own 58 4 w0 w' (.slice A ps.length c) ps.length ((msC k ps).flatMap mkG) ∧ (∀ j (h : j < ps.length), MarkedV w0 w' ps[j].2 (kEndC k (ps.take j) + 2)) ∧ WroteB (blk (.slice A ps.length c :: cvals ps)) w w' := by
  obtain ⟨f1, f2, f3⟩ := farC_parts ho.far
  have HF1 := Lib.hid (fun j hj u hu g hg => f1 j hj u hu g hg); have HF2 := Lib.hid f2; have HF3 := Lib.hid f3
  have HM : Hid (Own 58 4 w0 w (.slice A ps.length c) ps.length ((msC k (ps.take 0)).flatMap mkG ++ (ps.drop 0).flatMap ccells)) := by show Own _ _ _ _ _ _ _; simpa [msC] using ho.row
  have HT : Hid (∀ j (hj : j < ps.length), 0 ≤ j → OwnT w0 w ps[j].2) := fun j hj _ => ho.each _ (List.getElem_mem hj)
  have hn : ps.length ≤ 100000000 := by have := len_kEndC k ps; omega
  clear f1 f2 f3 ho
  go_enter Tryz.func16, Tryz.ntmps16
  go_wp2
  go_loopw [1, 5] (fun kk i wr => ∃ j : Nat, j ≤ ps.length ∧ i = .int .i64 j ∧ kk = .int .i64 (kEndC k (ps.take j) : Nat) ∧ Hid (Own 58 4 w0 wr (.slice A ps.length c) ps.length ((msC k (ps.take j)).flatMap mkG ++ (ps.drop j).flatMap ccells)) ∧ Hid (∀ i (hi : i < ps.length), j ≤ i → OwnT w0 wr ps[i].2) ∧ Hid (∀ i (hi : i < ps.length), i < j → MarkedV w0 wr ps[i].2 (kEndC k (ps.take i) + 2)) ∧ WroteB (blk (.slice A ps.length c :: cvals ps)) w wr) (fun _ i _ => ps.length - (intOf i).toNat)
  case atStart => exact ⟨0, by omega, rfl, rfl, HM, HT, (fun i _ h => by omega), WroteB.refl _ _⟩
  case round =>
    clear HM HT
    obtain ⟨j, hj, rfl, rfl, hm, ht, hmk, hw⟩ := hrel
    by_cases hlt : j < ps.length
    · obtain ⟨y, hy⟩ : ∃ y, y = ps[j].2 := ⟨_, rfl⟩
      have HKn : Hid (kEndC k (ps.take (j+1)) = kEndV (kEndC k (ps.take j) + 2 + y.bs.length) y.its) := by
        show _ = _; rw [List.take_succ_eq_append_getElem hlt, kEndC_append, (kEndV_item (kEndC k (ps.take j) + 2) y).2, hy]; rfl
      have hKe := kEndC_mono k ps (j+1)
      rw [HKn.out] at hKe
      have hK1 := (kEndV_item (kEndC k (ps.take j) + 2) y).1
      have hK0 := kEndC_ge k (ps.take j)
      have hdrop : ps.drop j = ps[j] :: ps.drop (j+1) := List.drop_eq_getElem_cons hlt
      have hml : (msC k (ps.take j)).length = j := by rw [msC_length, List.length_take]; omega
      have m1 := hm.out
      rw [hdrop] at m1
      have hrow := mark_rowC (msC k (ps.take j)) ps[j] (ps.drop (j+1)) (kEndC k (ps.take j)) j hml
      have hnext : msC k (ps.take j) ++ [(kEndC k (ps.take j), ps[j])] = msC k (ps.take (j+1)) := by
        rw [List.take_succ_eq_append_getElem hlt, msC_append]; rfl
      have hget := fun m hm => mk_getC (msC k (ps.take j)) (kEndC k (ps.take j)) ps[j] ((ps.drop (j+1)).flatMap ccells) j m hml hm
      have hgx := cells_getC (msC k (ps.take j)) ps[j] (ps.drop (j+1)) j 2 hml (by omega)
      rw [hnext] at hrow hget
      obtain ⟨K, hK⟩ : ∃ K, kEndC k (ps.take j) = K := ⟨_, rfl⟩
      have HK := Lib.hid hK
      obtain ⟨g, cg, hA⟩ : ∃ g cg, (Value.slice A ps.length c) = .slice (some ⟨g, 0, none⟩) ps.length cg := by
        rcases m1.2 with ⟨hv, h0⟩ | ⟨g, cap, cur, hv, _⟩
        · omega
        · exact ⟨g, cap, hv⟩
      injection hA with q1 _ q2
      subst q1; subst q2
      have hty := ht.out j hlt (Nat.le_refl _)
      have HTY : Hid (OwnT w0 wr y) := by rw [hy]; exact hty
      have HFJ : Hid (∀ u ∈ y.vals, u.ownBlock ≠ some g) := fun u hu => HF1.out j hlt u (by rw [← hy]; exact hu) g rfl
      have HFY : Hid (Far y.vals) := by show Far _; rw [hy]; exact HF3.out j hlt
      have HYO : Hid (MarkOk y) := markOk_all y
      have HOT : Hid (∀ i (hi : i < ps.length), i ≠ j → ∀ u ∈ ps[i].2.vals, ∀ b, u.ownBlock = some b → ¬ (b = g ∨ blk y.vals b)) := fun i hi hne u hu b hb hB => by
        rcases hB with rfl | ⟨q, hq, hqb⟩
        · exact HF1.out i hi u hu b rfl hb
        · exact HF2.out i j hi hlt hne u hu q (by rw [← hy]; exact hq) b hb hqb
      have HIN : Hid (∀ b, (b = g ∨ blk y.vals b) → blk (.slice (some ⟨g, 0, none⟩) ps.length c :: cvals ps) b) := fun b hB => by
        rcases hB with rfl | ⟨q, hq, hqb⟩
        · exact ⟨_, List.mem_cons_self .., rfl⟩
        · exact ⟨q, List.mem_cons_of_mem _ (mem_cvals (List.getElem_mem hlt) (by rw [← hy]; exact hq)), hqb⟩
      obtain ⟨Ab, cb, hvb⟩ := Own.shape hty.b
      obtain ⟨Ai, ci, hvi⟩ := Own.shape hty.i
      rw [← hy] at hvb hvi
      have hl1 : (.slice Ab y.bs.length cb : Value) = y.vb := hvb.symm
      have hl2 : (.slice Ai y.its.length ci : Value) = y.vi := hvi.symm
      rw [hK] at hrow hget hKe hK0 HKn hK1 ⊢
      have L2 : Hid (((msC k (ps.take (j+1))).flatMap mkG ++ (ps.drop (j+1)).flatMap ccells)[j * 4 + 3]? = some (.slice Ai y.its.length ci)) := by
        show _ = _; rw [hget 3 (by omega), hl2, hy]; rfl
      have MT : Hid (∀ w, Gives Tryz.prog 45 #[.int .i64 (K : Int)] w (.string (markT K))) := fun w => markText_c K w (by omega) (by omega)
      have HGX := Lib.hid hgx; have HRW := Lib.hid hrow; have HM1 := Lib.hid m1
      have HYY := Lib.hid hy; have HYL := Lib.hid hl1; have HYI := Lib.hid hl2
      have HW := Lib.hid hw
      have b1 : (j : Int) < (ps.length : Int) := by omega
      clear hK m1 hrow hget hgx hnext hml hdrop hy hty hvb hvi hl1 hl2 hw hm
      go_wp2_with fail
      refine (MT.out _).mono ?_; rintro _ wt ⟨rfl, et⟩
      have m1 := Own.ext HM1.out et
      have hu2 : wt.cell? ⟨g, j * 4 + 2, none⟩ = some (.slice Ab y.bs.length cb) := by
        rw [m1.cellAt (j * 4 + 2) (by have := m1.1; omega), HGX.out, HYL.out, HYY.out]; rfl
      obtain ⟨⟨u0, hu0⟩, hf0⟩ := m1.slot (j * 4) (by rw [m1.1]; omega)
      obtain ⟨⟨u1, hu1⟩, hf1⟩ := m1.slot (j * 4 + 1) (by rw [m1.1]; omega)
      have HO1 : Hid (Own 58 4 w0 ((wt.setCell ⟨g, j * 4, none⟩ (.string (markT K))).setCell ⟨g, j * 4 + 1, none⟩ (.int .i64 ((K : Int) + 1))) (.slice (some ⟨g, 0, none⟩) ps.length c) ps.length ((msC k (ps.take (j+1))).flatMap mkG ++ (ps.drop (j+1)).flatMap ccells)) := by
        have := ((m1.stored (j * 4) (.string (markT K))).1.stored (j * 4 + 1) (.int .i64 ((K : Int) + 1))).1
        rw [HRW.out] at this
        exact this
      have G1 : Hid (WroteB (fun b => b = g) wr ((wt.setCell ⟨g, j * 4, none⟩ (.string (markT K))).setCell ⟨g, j * 4 + 1, none⟩ (.int .i64 ((K : Int) + 1)))) := (WroteB.ext et).trans (WroteB.grown ((grown_set wt ⟨g, j * 4, none⟩ _).trans (grown_set _ ⟨g, j * 4 + 1, none⟩ _)) (fun b hb => by injection hb with hb; exact hb.symm))
      clear m1
      go_wp2_with fail
      rw [show (K : Int) + 1 + 1 = (K : Int) + 2 by omega]
      generalize (wt.setCell ⟨g, j * 4, none⟩ (.string (markT K))).setCell ⟨g, j * 4 + 1, none⟩ (.int .i64 ((K : Int) + 1)) = W1 at *
      clear hu0 hu1 hu2 hf0 hf1
      have T1 := Lib.hid (HTY.out.wroteB G1.out (fun v hv b hb e => HFJ.out v hv (hb.trans (congrArg some e))))
      obtain ⟨d1, d2⟩ := farV_head HFY.out
      have ob := OwnT.b T1.out
      rw [← HYL.out] at ob
      refine (markByteS_c Ab _ cb ((K : Int) + 2) _ w0 _ ob (by omega) (by omega)).mono ?_; rintro _ w2 ⟨rfl, om, g2⟩
      rw [HYL.out] at om g2
      have G2 : Hid (WroteB (fun b => y.vb.ownBlock = some b) W1 w2) := WroteB.grown g2 (fun b hb => hb)
      have HO2 := Lib.hid (Own.wroteB HO1.out G2.out (fun b hb e => by injection hb with hb; subst hb; exact HFJ.out y.vb (vb_mem y) e))
      have c2 : w2.cell? ⟨g, j * 4 + 3, none⟩ = some (.slice Ai y.its.length ci) := by rw [HO2.out.cellAt (j * 4 + 3) (by omega)]; exact L2.out
      have TS : Hid (OwnTs w0 w2 y.vi y.its) := ⟨Own.wroteB (OwnT.i T1.out) G2.out (fun b hb e => d1 _ (List.mem_cons_self ..) b e hb), fun p hp => (OwnT.kids T1.out p hp).wroteB G2.out (fun u hu b hb e => d1 u (List.mem_cons_of_mem _ (List.mem_flatMap.2 ⟨p, hp, hu⟩)) b e hb), d2⟩
      have C3 := HYO.out (K + 2 + y.bs.length) w0 w2 TS.out (by omega) (by omega)
      rw [← HYI.out] at C3
      have D1 := Lib.hid d1; have OM := Lib.hid om
      have C3 := Lib.hid C3
      clear ob om g2 d1 d2
      go_wp2_with fail
      rw [show (K : Int) + 2 + (y.bs.length : Int) = ((K + 2 + y.bs.length : Nat) : Int) by omega]
      refine C3.out.mono ?_; rintro _ w3 ⟨rfl, om3, mk3, g3⟩
      rw [HYI.out] at om3 g3
      have HO3 := Lib.hid (Own.wroteB HO2.out g3 (fun b hb ⟨u, hu, hub⟩ => by
        injection hb with hb; subst hb
        exact HFJ.out u (by rw [VT.vals_eq]; exact List.mem_cons_of_mem _ hu) hub))
      have MY : Hid (MarkedV w0 w3 y (K + 2)) := .mk (by
        have := Own.wroteB OM.out g3 (fun b hb ⟨u, hu, hub⟩ => D1.out u hu b hb hub)
        exact this) om3 mk3
      have GW : Hid (WroteB (fun b => b = g ∨ blk y.vals b) wr w3) := ((G1.out.mono (fun b hb => .inl hb)).trans (G2.out.mono (fun b hb => .inr ⟨_, vb_mem y, hb⟩))).trans (g3.mono (fun b ⟨u, hu, hub⟩ => .inr ⟨u, by rw [VT.vals_eq]; exact List.mem_cons_of_mem _ hu, hub⟩))
      have N1 : Hid (∀ i (hi : i < ps.length), j + 1 ≤ i → OwnT w0 w3 ps[i].2) := fun i hi hji => (ht.out i hi (by omega)).wroteB GW.out (HOT.out i hi (by omega))
      have N2 : Hid (∀ i (hi : i < ps.length), i < j + 1 → MarkedV w0 w3 ps[i].2 (kEndC k (ps.take i) + 2)) := fun i hi hij => by
        rcases (by omega : i < j ∨ i = j) with h9 | rfl
        · exact (hmk.out i hi h9).wroteB GW.out (HOT.out i hi (by omega))
        · rw [HK.out, ← HYY.out]; exact MY.out
      have N3 : Hid (WroteB (blk (.slice (some ⟨g, 0, none⟩) ps.length c :: cvals ps)) w w3) := HW.out.trans (GW.out.mono HIN.out)
      clear om3 mk3 g3 c2
      go_wp2
      go_roundw
      case rel => exact ⟨j + 1, by omega, by go_num, by rw [HKn.out], HO3, N1, N2, N3.out⟩
      case measure => simp [intOf]; omega
    · obtain rfl : j = ps.length := by omega
      go_wp2
      go_ret
      have h1 := hm.out; rw [List.take_length, List.drop_length, List.flatMap_nil, List.append_nil] at h1
      rw [List.take_length]
      exact ⟨rfl, h1, fun i hi => hmk.out i hi hi, hw⟩
set_option maxRecDepth 100000 in
set_option maxHeartbeats 8000000 in
theorem heldChangeS_c (A : Option Addr) (c : Nat) (ps : List CT) (k : Nat) (w0 w : World) (ho : Own 58 4 w0 w (.slice A ps.length c) ps.length ((msC k ps).flatMap mkG)) (hmk : ∀ j (h : j < ps.length), MarkedV w0 w ps[j].2 (kEndC k (ps.take j) + 2)) (hk : 0 < k) (hk2 : kEndC k ps ≤ 100000000) :
    Gives Tryz.prog 17 #[.slice A ps.length c, .int .i64 k] w (.int .i64 (kEndC k ps : Nat)) := by
  have HR := Lib.hid ho; have HM := Lib.hid hmk
  have hn : ps.length ≤ 100000000 := by have := len_kEndC k ps; omega
  clear ho hmk
  go_enter Tryz.func17, Tryz.ntmps17
  go_wp2
  go_loopw [1, 5] (fun kk i wr => ∃ j : Nat, j ≤ ps.length ∧ i = .int .i64 j ∧ kk = .int .i64 (kEndC k (ps.take j) : Nat) ∧ Ext w wr) (fun _ i _ => ps.length - (intOf i).toNat)
  case atStart => exact ⟨0, by omega, rfl, rfl, Ext.refl _⟩
  case round =>
    obtain ⟨j, hj, rfl, rfl, he⟩ := hrel
    by_cases hlt : j < ps.length
    · obtain ⟨y, hy⟩ : ∃ y, y = ps[j] := ⟨_, rfl⟩
      have HKn : Hid (kEndC k (ps.take (j+1)) = kEndV (kEndC k (ps.take j) + 2 + y.2.bs.length) y.2.its) := by
        show _ = _; rw [List.take_succ_eq_append_getElem hlt, kEndC_append, (kEndV_item (kEndC k (ps.take j) + 2) y.2).2, hy]; rfl
      have hKe := kEndC_mono k ps (j+1)
      rw [HKn.out] at hKe
      have hK1 := (kEndV_item (kEndC k (ps.take j) + 2) y.2).1
      have hK0 := kEndC_ge k (ps.take j)
      have hml : (msC k (ps.take j)).length = j := by rw [msC_length, List.length_take]; omega
      have hsp : msC k ps = (msC k (ps.take j) ++ [(kEndC k (ps.take j), ps[j])]) ++ msC (kEndC k (ps.take (j+1))) (ps.drop (j+1)) := by
        conv => lhs; rw [← List.take_append_drop (j+1) ps, msC_append]
        rw [List.take_succ_eq_append_getElem hlt, msC_append, kEndC_append]; rfl
      have hget := fun m hm => mk_getC (msC k (ps.take j)) (kEndC k (ps.take j)) ps[j] ((msC (kEndC k (ps.take (j+1))) (ps.drop (j+1))).flatMap mkG) j m hml hm
      rw [← List.flatMap_append, ← hsp] at hget
      have hdn := HM.out j hlt
      have hYO := heldOk_all y.2
      rw [← hy] at hget hdn
      have hxl : ((msC k ps).flatMap mkG).length = ps.length * 4 := by rw [mkG_len, msC_length]
      obtain ⟨K, hK⟩ : ∃ K, kEndC k (ps.take j) = K := ⟨_, rfl⟩
      rw [hK] at hget hKe hK0 HKn hK1 hdn ⊢
      clear hsp hml hK hy
      have hrow := HR.out
      obtain ⟨g, cg, hA⟩ : ∃ g cg, (Value.slice A ps.length c) = .slice (some ⟨g, 0, none⟩) ps.length cg := by
        rcases hrow.2 with ⟨hv, h0⟩ | ⟨g, cap, cur, hv, _⟩
        · omega
        · exact ⟨g, cap, hv⟩
      injection hA with q1 _ q2
      subst q1; subst q2
      have hcell : ∀ m (hm : m < 4) w', Ext w w' → w'.cell? ⟨g, j * 4 + m, none⟩ = (mkG (K, y))[m]? := fun m hm w' e => by
        rw [(Own.ext hrow e).cellAt (j * 4 + m) (by omega)]; exact hget m hm
      obtain ⟨Ab, cb, hvb, r1⟩ := Own.rd (l := List.range y.2.bs.length) (by simpa using hdn.b) (by simp; omega)
      obtain ⟨Ai, ci, hvi⟩ := Own.shape hdn.i
      simp only [List.length_range] at hvb
      have q0 := hcell 0 (by omega); have q1 := hcell 1 (by omega); have q2 := hcell 2 (by omega); have q3 := hcell 3 (by omega)
      simp only [mkG, List.getElem?_cons_succ, List.getElem?_cons_zero, hvb, hvi, Nat.add_zero] at q0 q1 q2 q3
      have C2 : Hid (∀ w', Ext w w' → Gives Tryz.prog 47 #[.slice Ai y.2.its.length ci, .int .i64 ((K + 2 + y.2.bs.length : Nat) : Int)] w' (.int .i64 (kEndV (K + 2 + y.2.bs.length) y.2.its : Nat))) := fun w' e => by
        rw [← hvi]; exact hYO _ w0 w' (Own.ext hdn.i e) (fun i hi => (hdn.kids i hi).ext e) (by omega) (by omega)
      clear hcell hget hdn hrow hvb hvi hYO hxl
      generalize kEndV (K + 2 + y.2.bs.length) y.2.its = K2 at *
      generalize y.2.its.length = ni at *
      generalize y.2.bs.length = nb at *
      have C1 : Hid (∀ w', Ext w w' → Gives Tryz.prog 46 #[.slice Ab nb cb, .int .i64 ((K : Int) + 2)] w' (.int .i64 ((K : Int) + 2 + nb))) := fun w' e => heldByteS_c Ab nb cb _ w' (r1.ext e) (by omega) (by omega)
      clear r1
      have MT : Hid (∀ w, Gives Tryz.prog 45 #[.int .i64 (K : Int)] w (.string (markT K))) := fun w => markText_c K w (by omega) (by omega)
      generalize markT K = s at *
      have hs1 : (s.toList != s.toList) = false := by simp
      have b1 : (j : Int) < (ps.length : Int) := by omega
      have d1 : decide ((K : Int) + 2 + (nb : Int) < 0) = false := decide_eq_false (by omega)
      have d2 : decide ((K2 : Int) < 0) = false := decide_eq_false (by omega)
      go_wp2_with fail
      refine wp_region_quiet_below (by kernel_rfl) (by kernel_rfl) ?_
      repeat (go_big_quiet_step ((go_at_call 45; exact Calls.regrown_of (MT.out _))))
      refine wpQuiet_nil ?_
      rintro w1 ⟨⟨nq, osq⟩, hq⟩
      have ew1 := ext_of_q hq
      clear hq nq osq
      have e1 := he.trans ew1
      go_wp2_with fail
      rw [show (K : Int) + 1 + 1 = (K : Int) + 2 by omega]
      refine (C1.out _ e1).mono ?_; rintro _ w2 ⟨rfl, s2⟩
      have e2 := e1.trans s2
      go_wp2_with fail
      rw [show (K : Int) + 2 + (nb : Int) = ((K + 2 + nb : Nat) : Int) by omega]
      refine (C2.out _ e2).mono ?_; rintro _ w3 ⟨rfl, s3⟩
      have e3 := e2.trans s3
      go_wp2
      go_roundw
      case rel => exact ⟨j + 1, by omega, by go_num, by rw [HKn.out], e3⟩
      case measure => simp [intOf]; omega
    · obtain rfl : j = ps.length := by omega
      go_wp2
      go_ret
      rw [List.take_length]
      exact ⟨rfl, he⟩
end Go.Proofs.YtjckcbfpejcpcaaGreatDoor

/- The laws' sizes of values. -/
namespace Go.Proofs.YtjckcbfpejcpcaaGreatDoor
open Go.RowKit Go.Sort

def SzOk (v : DVal) : Prop := ∀ (Ab : Option Addr) (cb : Nat) (Ai : Option Addr) (ci : Nat) (left : Int) (w : World), RdV w v Ab cb Ai ci → 0 ≤ left → left ≤ 1048576 →
  Gives Tryz.prog 6 #[vval v (.slice Ab v.bytes.length cb) (.slice Ai v.items.length ci), .int .i64 left] w (.int .i64 (szN (szV v) left))
set_option maxRecDepth 100000 in
set_option maxHeartbeats 2000000 in
theorem szValueS_of (A : Option Addr) (ds : List DVal) (c : Nat) (left : Int) (w : World) (h : RdVs w A ds c) (H : ∀ x ∈ ds, SzOk x) (h0 : 0 ≤ left) (h1 : left ≤ 1048576) :
    Gives Tryz.prog 29 #[.slice A ds.length c, .int .i64 left] w (.int .i64 (szN (szVs ds) left)) := by
  have hl := h.len
  have S := szN_spec (szVs ds) left
  obtain ⟨T, hT⟩ : ∃ T, szN (szVs ds) left = T := ⟨_, rfl⟩
  rw [hT] at S ⊢
  rw [szVs_sum] at S
  have HS := Lib.hid S
  have HH := Lib.hid H
  clear S hT H
  by_cases hd : left - (ds.length : Int) < 0
  · obtain rfl : T = -1 := by have := HS.out; omega
    go_enter Tryz.func29, Tryz.ntmps29
    go_wp2
    go_ret
    exact ⟨rfl, Ext.refl _⟩
  · go_enter Tryz.func29, Tryz.ntmps29
    go_wp2
    go_loopw [1, 5] (fun t i wr => ∃ (k : Nat) (z : Int), k ≤ ds.length ∧ i = .int .i64 k ∧ t = .int .i64 z ∧ 0 ≤ z ∧ z ≤ 1048576 ∧ Hid (z = left - ds.length - ((ds.take k).map szV).sum) ∧ Ext w wr) (fun _ i _ => ds.length - (intOf i).toNat)
    case atStart => exact ⟨0, _, by omega, rfl, rfl, by omega, by omega, by simp [Hid], Ext.refl _⟩
    case round =>
      obtain ⟨k, z, hk, rfl, rfl, hz0, hz1, hz, he⟩ := hrel
      by_cases hlt : k < ds.length
      · obtain ⟨b, off, Ab, cb, Ai, ci, rfl, hb, hs, hr⟩ := h.at k hlt
        have HT := Lib.hid (szVs_take ds k hlt)
        have HL : Hid (((ds.take (k+1)).map szV).sum ≤ (ds.map szV).sum) := by show _ ≤ _; rw [sum_split szV ds (k+1)]; omega
        have s1 := szN_spec (szV ds[k]) z
        have Hk := HH.out _ (List.getElem_mem hlt)
        have C := Lib.hid (fun w hs => Hk Ab cb Ai ci z w hs hz0 hz1)
        clear Hk
        generalize ds[k] = r at *
        generalize szN (szV r) z = z1 at *
        obtain ⟨k0, k1, k2⟩ := hr
        have S1 := Lib.hid s1
        unfold vval at C
        clear s1 h
        go_wp2_with fail
        refine (C.out _ (hs.ext he)).mono ?_; rintro _ w1 ⟨rfl, he1⟩
        by_cases q : z1 < 0
        · obtain rfl : T = -1 := by have := HS.out; have := HT.out; have := HL.out; have := hz.out; have := S1.out; omega
          go_wp2
          go_ret
          exact ⟨rfl, he.trans he1⟩
        · have hz1' : z1 ≤ 1048576 := by have := S1.out; omega
          go_wp2
          go_roundw
          case rel => exact ⟨k+1, _, by omega, by go_num, rfl, by omega, by omega, by have := HT.out; have := hz.out; have := S1.out; show _ = _; omega, he.trans he1⟩
          case measure => simp [intOf]; omega
      · have hk' : k = ds.length := by omega
        have HZ : Hid (T = z) := by
          have := HS.out; have h2 := hz.out; rw [List.take_of_length_le (by omega)] at h2; show _ = _; omega
        go_wp2
        go_ret
        exact ⟨ret_i64 HZ.out.symm, he⟩
set_option maxRecDepth 100000 in
set_option maxHeartbeats 2000000 in
theorem szValue_of (v : DVal) (H : ∀ x ∈ v.items, SzOk x) : SzOk v := by
  intro Ab cb Ai ci left w h h0 h1
  have C1 := Lib.hid (fun left w h h0 h1 => szByteS_c Ab v.bytes cb left w h h0 h1)
  have C2 := Lib.hid (fun left w h h0 h1 => szValueS_of Ai v.items ci left w h H h0 h1)
  have S := szN_spec (szV v) left
  obtain ⟨T, hT⟩ : ∃ T, szN (szV v) left = T := ⟨_, rfl⟩
  rw [hT] at S ⊢
  rw [szV_eq] at S
  have HS := Lib.hid S
  clear S hT H
  obtain ⟨hb, hi⟩ := h
  have eb := Ext_alloc (.cells #[.int .i64 v.num, .slice Ab v.bytes.length cb, .slice Ai v.items.length ci] 28) (Ext.refl w)
  unfold vval
  go_enter Tryz.func6, Tryz.ntmps6
  go_wp2_with fail
  refine (C1.out _ _ (hb.ext eb) (by omega) (by omega)).mono ?_; rintro _ w1 ⟨rfl, he1⟩
  have s1 := szN_spec v.bytes.length left
  generalize szN v.bytes.length left = z1 at *
  by_cases q2 : z1 < 0
  · obtain rfl : T = -1 := by have := HS.out; omega
    clear s1
    go_wp2
    go_ret
    exact ⟨rfl, eb.trans he1⟩
  have S1 : Hid (z1 = left - v.bytes.length) := by show _ = _; omega
  have z1a : z1 ≤ 1048576 := by omega
  clear s1
  have D1 := fun w' (e : Ext _ w') => boxed (he1.trans e)
  go_wp2_with fail
  refine (C2.out _ _ (hi.ext (eb.trans he1)) (by omega) (by omega)).mono ?_; rintro _ w2 ⟨rfl, he2⟩
  have s2 := szN_spec (szVs v.items) z1
  generalize szN (szVs v.items) z1 = z2 at *
  have HT : Hid (z2 = T) := by have := HS.out; have := S1.out; show _ = _; omega
  clear s2 D1
  by_cases q5 : z2 < 0
  · obtain rfl : T = -1 := by have := HS.out; have := HT.out; omega
    go_wp2
    go_ret
    exact ⟨rfl, eb.trans (he1.trans he2)⟩
  go_wp2
  go_ret
  exact ⟨ret_i64 HT.out, eb.trans (he1.trans he2)⟩
theorem szOk_all : ∀ v, SzOk v := fun v => DVal.ind szValue_of v
theorem szValue_c (v : DVal) (Ab : Option Addr) (cb : Nat) (Ai : Option Addr) (ci : Nat) (left : Int) (w : World) (h : RdV w v Ab cb Ai ci) (h0 : 0 ≤ left) (h1 : left ≤ 1048576) :
    Gives Tryz.prog 6 #[vval v (.slice Ab v.bytes.length cb) (.slice Ai v.items.length ci), .int .i64 left] w (.int .i64 (szN (szV v) left)) := szOk_all v Ab cb Ai ci left w h h0 h1
end Go.Proofs.YtjckcbfpejcpcaaGreatDoor

/- The walk of the law on DiffValues. -/
namespace Go.Proofs.YtjckcbfpejcpcaaGreatDoor
open Go.RowKit Go.Sort

structure CMade (lo hi : Nat) (w : World) (v : Value) (cs : List CT) : Prop where
  own : ∃ w0 : World, w0.heap.size = lo ∧ OwnC w0 w v cs
  blk : ∀ u ∈ v :: cvals cs, ∀ b, u.ownBlock = some b → lo ≤ b ∧ b < hi
theorem OwnC.ext1 {w0 w w' : World} {v : Value} {cs : List CT} (h : OwnC w0 w v cs) (e : Ext w w') : OwnC w0 w' v cs := ⟨Own.ext h.row e, fun c hc => (h.each c hc).ext e, h.far⟩
theorem CMade.ext {lo hi : Nat} {w w' : World} {v : Value} {cs : List CT} (h : CMade lo hi w v cs) (e : Ext w w') : CMade lo hi w' v cs := ⟨let ⟨w0, h0, h1⟩ := h.own; ⟨w0, h0, h1.ext1 e⟩, h.blk⟩
theorem CMade.wrote {lo hi lo' hi' : Nat} {w w' : World} {v : Value} {cs : List CT} (h : CMade lo hi w v cs) (hw : Wrote lo' hi' w w') (hd : hi ≤ lo' ∨ hi' ≤ lo) : CMade lo hi w' v cs :=
  ⟨let ⟨w0, h0, h1⟩ := h.own; ⟨w0, h0, ⟨Own.wrote h1.row hw (fun g hg => by have := h.blk v (List.mem_cons_self ..) g hg; omega), fun c hc => (h1.each c hc).wrote hw (fun u hu g hg => by have := h.blk u (List.mem_cons_of_mem _ (mem_cvals hc hu)) g hg; omega), h1.far⟩⟩, h.blk⟩
theorem OwnC.block1 {w0 w : World} {v : Value} {cs : List CT} (h : OwnC w0 w v cs) : ∀ u ∈ v :: cvals cs, ∀ g, u.ownBlock = some g → w0.heap.size ≤ g ∧ g < w.heap.size := by
  intro u hu
  rcases List.mem_cons.1 hu with rfl | hu
  · exact fun g hg => World.ownsRow.lt h.row g hg
  · obtain ⟨c, hc, hu⟩ := List.mem_flatMap.1 hu
    exact (h.each c hc).block u hu
theorem cmade_rd {lo hi : Nat} {w : World} {A : Option Addr} {c : Nat} {cs : List CT} {R : List (ByteArray × DVal)} (h : CMade lo hi w (.slice A R.length c) cs) (hp : chOf cs = R) (hz : szCh R ≤ 140737488351232) : RdC w A R c := by
  obtain ⟨w0, _, h1⟩ := h.own
  obtain ⟨A', c', hv, hr⟩ := h1.rd (by rw [hp]; exact hz)
  rw [hp] at hv hr
  injection hv with q1 _ q2
  subst q1; subst q2; exact hr
theorem diff_post {e : Ending} {w w' : World} {R : List (ByteArray × DVal)} (hz : szCh R ≤ 140737488351232) (h : ∃ v cs, e = .returned v ∧ chOf cs = R ∧ OwnC w w' v cs ∧ Ext w w') :
    ∃ A1 c1 ps, e = .returned (.slice A1 R.length c1) ∧ RdC w' A1 R c1 ∧ chOf ps = R ∧ CMade w.heap.size w'.heap.size w' (.slice A1 R.length c1) ps ∧ Ext w w' := by
  obtain ⟨v, cs, he, hp, ho, hx⟩ := h
  obtain ⟨A1, c1, hv, hr⟩ := ho.rd (by rw [hp]; exact hz)
  rw [hp] at hv hr
  subst hv
  exact ⟨A1, c1, cs, he, hr, hp, ⟨⟨w, rfl, ho⟩, ho.block1⟩, hx⟩
structure CMarked (lo hi : Nat) (w : World) (v : Value) (cs : List CT) (k : Nat) : Prop where
  own : ∃ w0 : World, w0.heap.size = lo ∧ Own 58 4 w0 w v cs.length ((msC k cs).flatMap mkG) ∧ ∀ j (h : j < cs.length), MarkedV w0 w cs[j].2 (kEndC k (cs.take j) + 2)
theorem CMarked.ext {lo hi : Nat} {w w' : World} {v : Value} {cs : List CT} {k : Nat} (h : CMarked lo hi w v cs k) (e : Ext w w') : CMarked lo hi w' v cs k :=
  let ⟨w0, a, b, c⟩ := h.own; ⟨w0, a, Own.ext b e, fun i hi => (c i hi).ext e⟩
theorem markChgK_c (A : Option Addr) (n c : Nat) (cs : List CT) (k : Nat) (lo hi : Nat) (w : World) (hn : n = cs.length) (h : CMade lo hi w (.slice A n c) cs) (hk : 0 < k) (hk2 : kEndC k cs ≤ 100000000) :
    Calls Tryz.prog 16 #[.slice A n c, .int .i64 k] w fun e w' => e = .returned (.int .i64 (kEndC k cs : Nat)) ∧ CMarked lo hi w' (.slice A n c) cs k ∧ Wrote lo hi w w' := by
  subst hn
  obtain ⟨⟨w0, h0, h1⟩, hb⟩ := h
  exact (markChangeS_c A c cs k w0 w h1 hk hk2).mono (by
    rintro e w' ⟨he, a, b, hw⟩
    exact ⟨he, ⟨w0, h0, a, b⟩, hw.wrote (fun b ⟨u, hu, hub⟩ => hb u hu b hub)⟩)
theorem heldChg_c (A : Option Addr) (n c : Nat) (cs : List CT) (k : Nat) (lo hi : Nat) (w : World) (hn : n = cs.length) (h : CMarked lo hi w (.slice A n c) cs k) (hk : 0 < k) (hk2 : kEndC k cs ≤ 100000000) :
    Gives Tryz.prog 17 #[.slice A n c, .int .i64 k] w (.int .i64 (kEndC k cs : Nat)) := by
  subst hn
  obtain ⟨w0, _, a, b⟩ := h.own
  exact heldChangeS_c A c cs k w0 w a b hk hk2
theorem toVal_q (v : DVal) (Ab : Option Addr) (cb : Nat) (Ai : Option Addr) (ci : Nat) (w : World) (h : RdV w v Ab cb Ai ci) (hz : szV v ≤ 1048576) :
    Calls Tryz.prog 9 #[vval v (.slice Ab v.bytes.length cb) (.slice Ai v.items.length ci)] w fun e w' => ∃ Ab' cb' Ai' ci', e = .returned (vval v (.slice Ab' v.bytes.length cb') (.slice Ai' v.items.length ci')) ∧ RdV w' v Ab' cb' Ai' ci' ∧ Ext w w' :=
  (toValue_c v Ab cb Ai ci w h hz).mono (by
    rintro e w' ⟨t, he, g, hx⟩
    obtain ⟨Ab', cb', Ai', ci', h1, h2, h3⟩ := g.rd (by omega)
    rw [h1, h2] at he
    exact ⟨Ab', cb', Ai', ci', he, h3, hx⟩)
theorem toVal_o (v : DVal) (Ab : Option Addr) (cb : Nat) (Ai : Option Addr) (ci : Nat) (w : World) (h : RdV w v Ab cb Ai ci) (hz : szV v ≤ 1048576) :
    Calls Tryz.prog 9 #[vval v (.slice Ab v.bytes.length cb) (.slice Ai v.items.length ci)] w fun e w' => ∃ Ab' cb' Ai' ci' t, e = .returned (vval v (.slice Ab' v.bytes.length cb') (.slice Ai' v.items.length ci')) ∧ RdV w' v Ab' cb' Ai' ci' ∧ (t.vb = .slice Ab' v.bytes.length cb' ∧ t.vi = .slice Ai' v.items.length ci') ∧ VMade w.heap.size w'.heap.size w' t v ∧ Ext w w' :=
  (toValue_c v Ab cb Ai ci w h hz).mono (by
    rintro e w' ⟨t, he, g, hx⟩
    obtain ⟨Ab', cb', Ai', ci', h1, h2, h3⟩ := g.rd (by omega)
    rw [h1, h2] at he
    exact ⟨Ab', cb', Ai', ci', t, he, h3, ⟨h1, h2⟩, g.made, hx⟩)
theorem szValue_w (v : DVal) (Ab : Option Addr) (cb : Nat) (Ai : Option Addr) (ci : Nat) (left : Int) (w : World) (h : RdV w v Ab cb Ai ci) (_ : WfV v) (h0 : 0 ≤ left) (h1 : left ≤ 1048576) :
    Gives Tryz.prog 6 #[vval v (.slice Ab v.bytes.length cb) (.slice Ai v.items.length ci), .int .i64 left] w (.int .i64 (szN (szV v) left)) := szValue_c v Ab cb Ai ci left w h h0 h1
theorem eqValue_w (v : DVal) (Ab : Option Addr) (cb : Nat) (Ai : Option Addr) (ci : Nat) (Ab' : Option Addr) (cb' : Nat) (Ai' : Option Addr) (ci' : Nat) (w : World) (h : RdV w v Ab cb Ai ci) (h' : RdV w v Ab' cb' Ai' ci') (hs : szV v ≤ 1048576) :
    Gives Tryz.prog 13 #[vval v (.slice Ab v.bytes.length cb) (.slice Ai v.items.length ci), vval v (.slice Ab' v.bytes.length cb') (.slice Ai' v.items.length ci')] w (.bool true) := by
  have := eqOk_all v v Ab cb Ai ci Ab' cb' Ai' ci' w h h' (by omega) (by omega)
  rwa [eqV_refl] at this
theorem markValue_e (t : VT) (v : DVal) (k lo hi : Nat) (w : World) (Ab : Option Addr) (cb : Nat) (Ai : Option Addr) (ci : Nat) (hvb : t.vb = .slice Ab v.bytes.length cb) (hvi : t.vi = .slice Ai v.items.length ci) (h : VMade lo hi w t v) (hz : szV v ≤ 1048576) (hk : 0 < k) (hk2 : k ≤ 90000000) :
    Calls Tryz.prog 15 #[vval v (.slice Ab v.bytes.length cb) (.slice Ai v.items.length ci), .int .i64 k] w fun e w' => ∃ k' : Nat, k ≤ k' ∧ k' ≤ k + 6000000 ∧ e = .returned (.int .i64 k') ∧ Wrote lo hi w w' :=
  (markValue_c t v k lo hi w Ab cb Ai ci hvb hvi h hz hk hk2).mono (by
    rintro e w' ⟨he, hw⟩
    exact ⟨k + szV v, by omega, by omega, he, hw⟩)
theorem diffD_szCh {ds : List DRule} {a b : DVal} (h : szV b ≤ 1048576) : szCh (diffD ds a b) ≤ 1048577 := by
  unfold diffD
  split
  · have := diffV_szCh ds b a (ds.length - 1) ⟨#[]⟩; omega
  · simp [szCh]
set_option maxRecDepth 100000 in
set_option maxHeartbeats 8000000 in
theorem lawDiffValues_c (A0 : Option Addr) (ds0 : List DRule) (c0 : Nat) (v1 : DVal) (A1 : Option Addr) (c1 : Nat) (I1 : Option Addr) (d1 : Nat) (v2 : DVal) (A2 : Option Addr) (c2 : Nat) (I2 : Option Addr) (d2 : Nat) (w : World) (hTab : Tab w) (h0 : RdD w A0 ds0 c0) (hw0 : WfD ds0) (h1 : RdV w v1 A1 c1 I1 d1) (hw1 : WfV v1) (h2 : RdV w v2 A2 c2 I2 d2) (hw2 : WfV v2) :
    Gives Tryz.prog 3 #[vdesc (.slice A0 ds0.length c0), vval v1 (.slice A1 v1.bytes.length c1) (.slice I1 v1.items.length d1), vval v2 (.slice A2 v2.bytes.length c2) (.slice I2 v2.items.length d2)] w (.bool true) := by
  have eb := (Ext_alloc (.cells #[.int .i64 v2.num, .slice A2 v2.bytes.length c2, .slice I2 v2.items.length d2] 28) (Ext_alloc (.cells #[.int .i64 v1.num, .slice A1 v1.bytes.length c1, .slice I1 v1.items.length d1] 28) (Ext_alloc (.cells #[.slice A0 ds0.length c0] 24) (Ext.refl w))))
  have BX := fun w' (e : Ext (((w.alloc (.cells #[.slice A0 ds0.length c0] 24)).alloc (.cells #[.int .i64 v1.num, .slice A1 v1.bytes.length c1, .slice I1 v1.items.length d1] 28)).alloc (.cells #[.int .i64 v2.num, .slice A2 v2.bytes.length c2, .slice I2 v2.items.length d2] 28)) w') => boxed3 e
  have B0 := fun w' e => (BX w' e).1; have B1 := fun w' e => (BX w' e).2.1; have B2 := fun w' e => (BX w' e).2.2.1; clear BX
  have Z0 := Lib.hid (fun left w h h0 h1 => szDescription_c A0 ds0 c0 left w h hw0 h0 h1)
  have T0 := Lib.hid (fun w h hz => toDesc_r A0 ds0 c0 w h hz); have TO0 := Lib.hid (fun w h hz => toDesc_o A0 ds0 c0 w h hz)
  have Z1 := Lib.hid (fun left w h h0 h1 => szValue_w v1 A1 c1 I1 d1 left w h hw1 h0 h1)
  have T1 := Lib.hid (fun w h hz => toVal_q v1 A1 c1 I1 d1 w h hz); have TO1 := Lib.hid (fun w h hz => toVal_o v1 A1 c1 I1 d1 w h hz)
  have Z2 := Lib.hid (fun left w h h0 h1 => szValue_w v2 A2 c2 I2 d2 left w h hw2 h0 h1)
  have T2 := Lib.hid (fun w h hz => toVal_q v2 A2 c2 I2 d2 w h hz); have TO2 := Lib.hid (fun w h hz => toVal_o v2 A2 c2 I2 d2 w h hz)
  have hz0 := szN_lo (szD ds0) (1048576)
  have hx0 : ¬ szN (szD ds0) (1048576) < 0 → (1048576 : Int) ≤ 1048576 → (szD ds0) ≤ 1048576 := fun a b => szN_small a b
  generalize hzz0 : szN (szD ds0) (1048576) = z0 at *
  have HZ0 := Lib.hid hzz0; clear hzz0
  have hz1 := szN_lo (szV v1) (z0)
  have hx1 : ¬ szN (szV v1) (z0) < 0 → (z0 : Int) ≤ 1048576 → (szV v1) ≤ 1048576 := fun a b => szN_small a b
  generalize hzz1 : szN (szV v1) (z0) = z1 at *
  have HZ1 := Lib.hid hzz1; clear hzz1
  have hz2 := szN_lo (szV v2) (z1)
  have hx2 : ¬ szN (szV v2) (z1) < 0 → (z1 : Int) ≤ 1048576 → (szV v2) ≤ 1048576 := fun a b => szN_small a b
  generalize hzz2 : szN (szV v2) (z1) = z2 at *
  have HZ2 := Lib.hid hzz2; clear hzz2
  unfold vdesc vval at *
  go_enter Tryz.func3, Tryz.ntmps3
  go_wp2_with fail
  refine (Z0.out _ _ (h0.ext eb) (by omega) (by omega)).mono ?_; rintro _ wz0 ⟨rfl, sz0⟩
  rw [HZ0.out]
  replace B0 := fun w' (e : Ext _ w') => B0 w' (Ext.trans sz0 e)
  replace B1 := fun w' (e : Ext _ w') => B1 w' (Ext.trans sz0 e)
  replace B2 := fun w' (e : Ext _ w') => B2 w' (Ext.trans sz0 e)
  replace eb := eb.trans sz0; clear sz0
  by_cases d0 : z0 < 0
  · go_wp2
    go_ret
    exact ⟨rfl, eb⟩
  have hl0 := hx0 (by omega) (by omega)
  go_wp2_with fail
  refine (Z1.out _ _ (h1.ext eb) (by omega) (by omega)).mono ?_; rintro _ wz1 ⟨rfl, sz1⟩
  rw [HZ1.out]
  replace B0 := fun w' (e : Ext _ w') => B0 w' (Ext.trans sz1 e)
  replace B1 := fun w' (e : Ext _ w') => B1 w' (Ext.trans sz1 e)
  replace B2 := fun w' (e : Ext _ w') => B2 w' (Ext.trans sz1 e)
  replace eb := eb.trans sz1; clear sz1
  by_cases d1 : z1 < 0
  · go_wp2
    go_ret
    exact ⟨rfl, eb⟩
  have hl1 := hx1 (by omega) (by omega)
  go_wp2_with fail
  refine (Z2.out _ _ (h2.ext eb) (by omega) (by omega)).mono ?_; rintro _ wz2 ⟨rfl, sz2⟩
  rw [HZ2.out]
  replace B0 := fun w' (e : Ext _ w') => B0 w' (Ext.trans sz2 e)
  replace B1 := fun w' (e : Ext _ w') => B1 w' (Ext.trans sz2 e)
  replace B2 := fun w' (e : Ext _ w') => B2 w' (Ext.trans sz2 e)
  replace eb := eb.trans sz2; clear sz2
  by_cases d2 : z2 < 0
  · go_wp2
    go_ret
    exact ⟨rfl, eb⟩
  have hl2 := hx2 (by omega) (by omega)
  have U0 := Lib.hid (fun w h => T0.out w h hl0); clear T0; have UO0 := Lib.hid (fun w h => TO0.out w h hl0); clear TO0; have SH0 := Lib.hid hl0; have SD0 := Lib.hid (shortD_of hl0)
  have U1 := Lib.hid (fun w h => T1.out w h hl1); clear T1; have UO1 := Lib.hid (fun w h => TO1.out w h hl1); clear TO1; have SH1 := Lib.hid hl1
  have U2 := Lib.hid (fun w h => T2.out w h hl2); clear T2; have UO2 := Lib.hid (fun w h => TO2.out w h hl2); clear TO2; have SH2 := Lib.hid hl2
  obtain ⟨R, hR⟩ : ∃ R, R = diffD ds0 v1 v2 := ⟨_, rfl⟩
  have hzR : szCh R ≤ 1048577 := by rw [hR]; exact diffD_szCh hl2
  have CS : Hid (∀ w, ∀ A C, RdD w A ds0 C → ∀ A1 C1 I1 J1, RdV w v1 A1 C1 I1 J1 → ∀ A2 C2 I2 J2, RdV w v2 A2 C2 I2 J2 → Calls Tryz.prog 7 #[.agg #[.slice A ds0.length C], .agg #[.int .i64 v1.num, .slice A1 v1.bytes.length C1, .slice I1 v1.items.length J1], .agg #[.int .i64 v2.num, .slice A2 v2.bytes.length C2, .slice I2 v2.items.length J2]] w fun e' w' => ∃ A9 c9 ps, e' = .returned (.slice A9 R.length c9) ∧ RdC w' A9 R c9 ∧ chOf ps = R ∧ CMade w.heap.size w'.heap.size w' (.slice A9 R.length c9) ps ∧ Ext w w') := by
    rw [hR] at hzR ⊢; exact fun w A C r A1 C1 I1 J1 r1 A2 C2 I2 J2 r2 => (sDiffD_c A ds0 C v1 v2 A1 C1 I1 J1 A2 C2 I2 J2 w r SD0.out hw0 r1 r2 hl1 hl2).mono fun _ _ h => diff_post (by omega) h
  have CI : Hid (∀ w, Tab w → ∀ A C, RdD w A ds0 C → ∀ A1 C1 I1 J1, RdV w v1 A1 C1 I1 J1 → ∀ A2 C2 I2 J2, RdV w v2 A2 C2 I2 J2 → Calls Tryz.prog 10 #[.agg #[.slice A ds0.length C], .agg #[.int .i64 v1.num, .slice A1 v1.bytes.length C1, .slice I1 v1.items.length J1], .agg #[.int .i64 v2.num, .slice A2 v2.bytes.length C2, .slice I2 v2.items.length J2]] w fun e' w' => ∃ A9 c9 ps, e' = .returned (.slice A9 R.length c9) ∧ RdC w' A9 R c9 ∧ chOf ps = R ∧ CMade w.heap.size w'.heap.size w' (.slice A9 R.length c9) ps ∧ Ext w w') := by
    rw [hR] at hzR ⊢; exact fun w t A C r A1 C1 I1 J1 r1 A2 C2 I2 J2 r2 => (iDiffD_c A ds0 C v1 v2 A1 C1 I1 J1 A2 C2 I2 J2 w r SD0.out hw0 r1 r2 hl1 hl2 t).mono fun _ _ h => diff_post (by omega) h
  have HSZ := Lib.hid hzR
  have HMK : Hid (∀ ps : List CT, chOf ps = R → kEndC 1 ps ≤ 100000000) := fun ps h => by have := kEndC_le 1 ps; rw [h] at this; omega
  have HZR : Hid (szCh R ≤ 140737488351232) := by show _ ≤ _; omega
  have HTAB := Lib.hid hTab
  clear hR hzR hTab
  clear hz0 hx0 hl0 hz1 hx1 hl1 hz2 hx2 hl2
  go_wp2_with fail
  go_region_held3 (fun w' => Ext wz2 w') (first | assumption | exact Ext_drew (Ext.refl _) | exact Ext.trans (by assumption) (by assumption)) (first
    | (go_at_call 8; (with_reducible refine (U0.out _ ?_).mono ?_); (exact h0.ext (eb.trans (by assumption))); rintro _ ws0 ⟨AXs0, CXs0, rfl, r0, ss0⟩)
    | (go_at_call 9; (with_reducible refine (U1.out _ ?_).mono ?_); (exact h1.ext (eb.trans (by assumption))); rintro _ ws1 ⟨AXs1, CXs1, IXs1, JXs1, rfl, r1, ss1⟩)
    | (go_at_call 9; (with_reducible refine (U2.out _ ?_).mono ?_); (exact h2.ext (eb.trans (by assumption))); rintro _ ws2 ⟨AXs2, CXs2, IXs2, JXs2, rfl, r2, ss2⟩)
    | (go_at_call 7; refine (CS.out _ _ _ ((r0.ext ss1).ext ss2) _ _ _ _ (r1.ext ss2) _ _ _ _ r2).mono ?_; rintro _ ws ⟨As, Cs, pss, rfl, qs, hps, ds, ss⟩))
  have ts : Ext wz2 ws := by assumption
  clear r0 r1 r2 ss0 ss1 ss2 hps ds ss
  replace B0 := fun w' (e : Ext _ w') => B0 w' (Ext.trans ts e)
  replace B1 := fun w' (e : Ext _ w') => B1 w' (Ext.trans ts e)
  replace B2 := fun w' (e : Ext _ w') => B2 w' (Ext.trans ts e)
  replace eb := eb.trans ts; clear ts
  have EB := Lib.hid eb; have QS := Lib.hid qs; have CB0 := Lib.hid B0; have CB1 := Lib.hid B1; have CB2 := Lib.hid B2
  have E0 := Ext.refl ws
  go_wp2_with fail
  refine (UO0.out _ (h0.ext eb)).mono ?_; rintro _ wx0 ⟨AP0, CP0, ps0, rfl, rx0, hp0, dm0, sx0⟩
  have hlo0 := Lib.hid E0.size; have hhi0 := Lib.hid sx0.size; have hp0 := Lib.hid hp0
  replace B0 := fun w' (e : Ext _ w') => B0 w' (Ext.trans sx0 e)
  replace B1 := fun w' (e : Ext _ w') => B1 w' (Ext.trans sx0 e)
  replace B2 := fun w' (e : Ext _ w') => B2 w' (Ext.trans sx0 e)
  replace qs := qs.ext sx0
  replace eb := eb.trans sx0; replace E0 := E0.trans sx0; clear sx0
  have Bx0 := fun w' (e : Ext (wx0.alloc (.cells #[.slice AP0 ds0.length CP0] 35)) w') => boxed e
  have tx0 := Ext_alloc (.cells #[.slice AP0 ds0.length CP0] 35) (Ext.refl wx0)
  have bx0 := Box.new wx0 #[.slice AP0 ds0.length CP0] 35
  have halx0 : (wx0.alloc (.cells #[.slice AP0 ds0.length CP0] 35)).heap.size = wx0.heap.size + 1 := by simp
  have halx0 := Lib.hid halx0
  replace B0 := fun w' (e : Ext _ w') => B0 w' (Ext.trans tx0 e)
  replace B1 := fun w' (e : Ext _ w') => B1 w' (Ext.trans tx0 e)
  replace B2 := fun w' (e : Ext _ w') => B2 w' (Ext.trans tx0 e)
  replace qs := qs.ext tx0
  replace rx0 := rx0.ext tx0
  replace dm0 := dm0.ext tx0
  replace eb := eb.trans tx0; replace E0 := E0.trans tx0; clear tx0
  go_wp2_with fail
  refine (UO1.out _ (h1.ext eb)).mono ?_; rintro _ wx1 ⟨AP1, CP1, IP1, JP1, ps1, rfl, rx1, hp1, dm1, sx1⟩
  have hlo1 := Lib.hid E0.size; have hhi1 := Lib.hid sx1.size; have hp1 := Lib.hid hp1
  replace B0 := fun w' (e : Ext _ w') => B0 w' (Ext.trans sx1 e)
  replace B1 := fun w' (e : Ext _ w') => B1 w' (Ext.trans sx1 e)
  replace B2 := fun w' (e : Ext _ w') => B2 w' (Ext.trans sx1 e)
  replace Bx0 := fun w' (e : Ext _ w') => Bx0 w' (Ext.trans sx1 e)
  replace qs := qs.ext sx1
  replace rx0 := rx0.ext sx1
  replace dm0 := dm0.ext sx1
  replace bx0 := bx0.ext sx1
  replace eb := eb.trans sx1; replace E0 := E0.trans sx1; clear sx1
  have Bx1 := fun w' (e : Ext (wx1.alloc (.cells #[.int .i64 v1.num, .slice AP1 v1.bytes.length CP1, .slice IP1 v1.items.length JP1] 39)) w') => boxed e
  have tx1 := Ext_alloc (.cells #[.int .i64 v1.num, .slice AP1 v1.bytes.length CP1, .slice IP1 v1.items.length JP1] 39) (Ext.refl wx1)
  have bx1 := Box.new wx1 #[.int .i64 v1.num, .slice AP1 v1.bytes.length CP1, .slice IP1 v1.items.length JP1] 39
  have halx1 : (wx1.alloc (.cells #[.int .i64 v1.num, .slice AP1 v1.bytes.length CP1, .slice IP1 v1.items.length JP1] 39)).heap.size = wx1.heap.size + 1 := by simp
  have halx1 := Lib.hid halx1
  replace B0 := fun w' (e : Ext _ w') => B0 w' (Ext.trans tx1 e)
  replace B1 := fun w' (e : Ext _ w') => B1 w' (Ext.trans tx1 e)
  replace B2 := fun w' (e : Ext _ w') => B2 w' (Ext.trans tx1 e)
  replace Bx0 := fun w' (e : Ext _ w') => Bx0 w' (Ext.trans tx1 e)
  replace qs := qs.ext tx1
  replace rx0 := rx0.ext tx1
  replace rx1 := rx1.ext tx1
  replace dm0 := dm0.ext tx1
  replace bx0 := bx0.ext tx1
  replace dm1 := dm1.ext tx1
  replace eb := eb.trans tx1; replace E0 := E0.trans tx1; clear tx1
  go_wp2_with fail
  refine (UO2.out _ (h2.ext eb)).mono ?_; rintro _ wx2 ⟨AP2, CP2, IP2, JP2, ps2, rfl, rx2, hp2, dm2, sx2⟩
  have hlo2 := Lib.hid E0.size; have hhi2 := Lib.hid sx2.size; have hp2 := Lib.hid hp2
  replace B0 := fun w' (e : Ext _ w') => B0 w' (Ext.trans sx2 e)
  replace B1 := fun w' (e : Ext _ w') => B1 w' (Ext.trans sx2 e)
  replace B2 := fun w' (e : Ext _ w') => B2 w' (Ext.trans sx2 e)
  replace Bx0 := fun w' (e : Ext _ w') => Bx0 w' (Ext.trans sx2 e)
  replace Bx1 := fun w' (e : Ext _ w') => Bx1 w' (Ext.trans sx2 e)
  replace qs := qs.ext sx2
  replace rx0 := rx0.ext sx2
  replace rx1 := rx1.ext sx2
  replace dm0 := dm0.ext sx2
  replace bx0 := bx0.ext sx2
  replace dm1 := dm1.ext sx2
  replace bx1 := bx1.ext sx2
  replace eb := eb.trans sx2; replace E0 := E0.trans sx2; clear sx2
  have Bx2 := fun w' (e : Ext (wx2.alloc (.cells #[.int .i64 v2.num, .slice AP2 v2.bytes.length CP2, .slice IP2 v2.items.length JP2] 39)) w') => boxed e
  have tx2 := Ext_alloc (.cells #[.int .i64 v2.num, .slice AP2 v2.bytes.length CP2, .slice IP2 v2.items.length JP2] 39) (Ext.refl wx2)
  have bx2 := Box.new wx2 #[.int .i64 v2.num, .slice AP2 v2.bytes.length CP2, .slice IP2 v2.items.length JP2] 39
  have halx2 : (wx2.alloc (.cells #[.int .i64 v2.num, .slice AP2 v2.bytes.length CP2, .slice IP2 v2.items.length JP2] 39)).heap.size = wx2.heap.size + 1 := by simp
  have halx2 := Lib.hid halx2
  replace B0 := fun w' (e : Ext _ w') => B0 w' (Ext.trans tx2 e)
  replace B1 := fun w' (e : Ext _ w') => B1 w' (Ext.trans tx2 e)
  replace B2 := fun w' (e : Ext _ w') => B2 w' (Ext.trans tx2 e)
  replace Bx0 := fun w' (e : Ext _ w') => Bx0 w' (Ext.trans tx2 e)
  replace Bx1 := fun w' (e : Ext _ w') => Bx1 w' (Ext.trans tx2 e)
  replace qs := qs.ext tx2
  replace rx0 := rx0.ext tx2
  replace rx1 := rx1.ext tx2
  replace rx2 := rx2.ext tx2
  replace dm0 := dm0.ext tx2
  replace bx0 := bx0.ext tx2
  replace dm1 := dm1.ext tx2
  replace bx1 := bx1.ext tx2
  replace dm2 := dm2.ext tx2
  replace eb := eb.trans tx2; replace E0 := E0.trans tx2; clear tx2
  have hgl : (wx2.alloc (.cells #[.int .i64 v2.num, .slice AP2 v2.bytes.length CP2, .slice IP2 v2.items.length JP2] 39)).heap.size ≤ (wx2.alloc (.cells #[.int .i64 v2.num, .slice AP2 v2.bytes.length CP2, .slice IP2 v2.items.length JP2] 39)).heap.size := Nat.le_refl _
  have hgl := Lib.hid hgl
  go_wp2_with fail
  refine (CI.out _ (HTAB.out.ext eb) _ _ rx0 _ _ _ _ rx1 _ _ _ _ rx2).mono ?_; rintro _ wg ⟨Ag, Cg, psg, rfl, qg, hpg, dg, sg⟩
  have hlog := Lib.hid E0.size; have hhig := Lib.hid sg.size; have hpg := Lib.hid hpg
  replace B0 := fun w' (e : Ext _ w') => B0 w' (Ext.trans sg e)
  replace B1 := fun w' (e : Ext _ w') => B1 w' (Ext.trans sg e)
  replace B2 := fun w' (e : Ext _ w') => B2 w' (Ext.trans sg e)
  replace Bx0 := fun w' (e : Ext _ w') => Bx0 w' (Ext.trans sg e)
  replace Bx1 := fun w' (e : Ext _ w') => Bx1 w' (Ext.trans sg e)
  replace Bx2 := fun w' (e : Ext _ w') => Bx2 w' (Ext.trans sg e)
  replace qs := qs.ext sg
  replace rx0 := rx0.ext sg
  replace rx1 := rx1.ext sg
  replace rx2 := rx2.ext sg
  replace dm0 := dm0.ext sg
  replace bx0 := bx0.ext sg
  replace dm1 := dm1.ext sg
  replace bx1 := bx1.ext sg
  replace dm2 := dm2.ext sg
  replace bx2 := bx2.ext sg
  replace eb := eb.trans sg; replace E0 := E0.trans sg; clear sg
  go_wp2_with fail
  refine (eqChangeS_same _ _ _ _ _ _ qg qs HZR.out).mono ?_; rintro _ we ⟨rfl, se⟩
  replace B0 := fun w' (e : Ext _ w') => B0 w' (Ext.trans se e)
  replace B1 := fun w' (e : Ext _ w') => B1 w' (Ext.trans se e)
  replace B2 := fun w' (e : Ext _ w') => B2 w' (Ext.trans se e)
  replace Bx0 := fun w' (e : Ext _ w') => Bx0 w' (Ext.trans se e)
  replace Bx1 := fun w' (e : Ext _ w') => Bx1 w' (Ext.trans se e)
  replace Bx2 := fun w' (e : Ext _ w') => Bx2 w' (Ext.trans se e)
  replace qs := qs.ext se
  replace rx0 := rx0.ext se
  replace rx1 := rx1.ext se
  replace rx2 := rx2.ext se
  replace qg := qg.ext se
  replace dm0 := dm0.ext se
  replace bx0 := bx0.ext se
  replace dm1 := dm1.ext se
  replace bx1 := bx1.ext se
  replace dm2 := dm2.ext se
  replace bx2 := bx2.ext se
  replace dg := dg.ext se
  replace eb := eb.trans se; replace E0 := E0.trans se; clear se
  have HE0 : Hid (eqD ds0 ds0 = true) := eqD_refl ds0
  go_wp2_with fail
  go_region_held3 (fun w' => Ext we w') (first | assumption | exact Ext_drew (Ext.refl _) | exact Ext.trans (by assumption) (by assumption)) (first
    | (go_at_call 8; refine (U0.out _ (h0.ext (eb.trans (by assumption)))).mono ?_; rintro _ w10 ⟨AX0, CX0, rfl, r0, s10⟩)
    | (go_at_call 12; refine (eqDescription_c _ _ _ _ _ _ _ (rx0.ext (by assumption)) r0 SD0.out SD0.out).mono ?_; rintro _ wf0 ⟨rfl, s20⟩; rw [HE0.out]))
  have sf0 : Ext we wf0 := by assumption
  clear r0 s10 s20
  replace B0 := fun w' (e : Ext _ w') => B0 w' (Ext.trans sf0 e)
  replace B1 := fun w' (e : Ext _ w') => B1 w' (Ext.trans sf0 e)
  replace B2 := fun w' (e : Ext _ w') => B2 w' (Ext.trans sf0 e)
  replace Bx0 := fun w' (e : Ext _ w') => Bx0 w' (Ext.trans sf0 e)
  replace Bx1 := fun w' (e : Ext _ w') => Bx1 w' (Ext.trans sf0 e)
  replace Bx2 := fun w' (e : Ext _ w') => Bx2 w' (Ext.trans sf0 e)
  replace qs := qs.ext sf0
  replace rx0 := rx0.ext sf0
  replace rx1 := rx1.ext sf0
  replace rx2 := rx2.ext sf0
  replace qg := qg.ext sf0
  replace dm0 := dm0.ext sf0
  replace bx0 := bx0.ext sf0
  replace dm1 := dm1.ext sf0
  replace bx1 := bx1.ext sf0
  replace dm2 := dm2.ext sf0
  replace bx2 := bx2.ext sf0
  replace dg := dg.ext sf0
  replace eb := eb.trans sf0; replace E0 := E0.trans sf0; clear sf0
  go_wp2_with fail
  go_region_held3 (fun w' => Ext wf0 w') (first | assumption | exact Ext_drew (Ext.refl _) | exact Ext.trans (by assumption) (by assumption)) (first
    | (go_at_call 9; refine (U1.out _ (h1.ext (eb.trans (by assumption)))).mono ?_; rintro _ w11 ⟨AX1, CX1, IX1, JX1, rfl, r1, s11⟩)
    | (go_at_call 13; refine (eqValue_w _ _ _ _ _ _ _ _ _ _ (rx1.ext (by assumption)) r1 SH1.out).mono ?_; rintro _ wf1 ⟨rfl, s21⟩))
  have sf1 : Ext wf0 wf1 := by assumption
  clear r1 s11 s21
  replace B0 := fun w' (e : Ext _ w') => B0 w' (Ext.trans sf1 e)
  replace B1 := fun w' (e : Ext _ w') => B1 w' (Ext.trans sf1 e)
  replace B2 := fun w' (e : Ext _ w') => B2 w' (Ext.trans sf1 e)
  replace Bx0 := fun w' (e : Ext _ w') => Bx0 w' (Ext.trans sf1 e)
  replace Bx1 := fun w' (e : Ext _ w') => Bx1 w' (Ext.trans sf1 e)
  replace Bx2 := fun w' (e : Ext _ w') => Bx2 w' (Ext.trans sf1 e)
  replace qs := qs.ext sf1
  replace rx0 := rx0.ext sf1
  replace rx1 := rx1.ext sf1
  replace rx2 := rx2.ext sf1
  replace qg := qg.ext sf1
  replace dm0 := dm0.ext sf1
  replace bx0 := bx0.ext sf1
  replace dm1 := dm1.ext sf1
  replace bx1 := bx1.ext sf1
  replace dm2 := dm2.ext sf1
  replace bx2 := bx2.ext sf1
  replace dg := dg.ext sf1
  replace eb := eb.trans sf1; replace E0 := E0.trans sf1; clear sf1
  go_wp2_with fail
  go_region_held3 (fun w' => Ext wf1 w') (first | assumption | exact Ext_drew (Ext.refl _) | exact Ext.trans (by assumption) (by assumption)) (first
    | (go_at_call 9; refine (U2.out _ (h2.ext (eb.trans (by assumption)))).mono ?_; rintro _ w12 ⟨AX2, CX2, IX2, JX2, rfl, r2, s12⟩)
    | (go_at_call 13; refine (eqValue_w _ _ _ _ _ _ _ _ _ _ (rx2.ext (by assumption)) r2 SH2.out).mono ?_; rintro _ wf2 ⟨rfl, s22⟩))
  have sf2 : Ext wf1 wf2 := by assumption
  clear r2 s12 s22
  replace B0 := fun w' (e : Ext _ w') => B0 w' (Ext.trans sf2 e)
  replace B1 := fun w' (e : Ext _ w') => B1 w' (Ext.trans sf2 e)
  replace B2 := fun w' (e : Ext _ w') => B2 w' (Ext.trans sf2 e)
  replace Bx0 := fun w' (e : Ext _ w') => Bx0 w' (Ext.trans sf2 e)
  replace Bx1 := fun w' (e : Ext _ w') => Bx1 w' (Ext.trans sf2 e)
  replace Bx2 := fun w' (e : Ext _ w') => Bx2 w' (Ext.trans sf2 e)
  replace qs := qs.ext sf2
  replace rx0 := rx0.ext sf2
  replace rx1 := rx1.ext sf2
  replace rx2 := rx2.ext sf2
  replace qg := qg.ext sf2
  replace dm0 := dm0.ext sf2
  replace bx0 := bx0.ext sf2
  replace dm1 := dm1.ext sf2
  replace bx1 := bx1.ext sf2
  replace dm2 := dm2.ext sf2
  replace bx2 := bx2.ext sf2
  replace dg := dg.ext sf2
  replace eb := eb.trans sf2; replace E0 := E0.trans sf2; clear sf2
  clear B0 B1 B2 Bx0 Bx1 Bx2 qg qs rx0 rx1 rx2 eb
  have z00 := (bx0.cell 0)
  simp only [List.getElem?_toArray, List.getElem?_cons_zero, List.getElem?_cons_succ] at z00
  go_wp2_with fail
  refine (markDesc_c _ _ _ ps0 1 _ _ _ dm0 (by rw [hp0.out]; exact SH0.out) (by omega) (by omega)).mono ?_; rintro _ wm0 ⟨k0, hk0a, hk0b, rfl, hm0⟩
  replace dm1 := dm1.wrote hm0 (.inr (by have := hlo0.out; have := hhi0.out; have := halx0.out; have := hlo1.out; have := hhi1.out; have := halx1.out; have := hlo2.out; have := hhi2.out; have := halx2.out; have := hgl.out; have := hlog.out; have := hhig.out; omega))
  replace bx1 := Box.wrote bx1 hm0 (by have := hlo0.out; have := hhi0.out; have := halx0.out; have := hlo1.out; have := hhi1.out; have := halx1.out; have := hlo2.out; have := hhi2.out; have := halx2.out; have := hgl.out; have := hlog.out; have := hhig.out; omega)
  replace dm2 := dm2.wrote hm0 (.inr (by have := hlo0.out; have := hhi0.out; have := halx0.out; have := hlo1.out; have := hhi1.out; have := halx1.out; have := hlo2.out; have := hhi2.out; have := halx2.out; have := hgl.out; have := hlog.out; have := hhig.out; omega))
  replace bx2 := Box.wrote bx2 hm0 (by have := hlo0.out; have := hhi0.out; have := halx0.out; have := hlo1.out; have := hhi1.out; have := halx1.out; have := hlo2.out; have := hhi2.out; have := halx2.out; have := hgl.out; have := hlog.out; have := hhig.out; omega)
  replace dg := dg.wrote hm0 (.inr (by have := hlo0.out; have := hhi0.out; have := halx0.out; have := hlo1.out; have := hhi1.out; have := halx1.out; have := hlo2.out; have := hhi2.out; have := halx2.out; have := hgl.out; have := hlog.out; have := hhig.out; omega))
  replace E0 := hm0.below E0 (by have := hlo0.out; have := hhi0.out; have := halx0.out; have := hlo1.out; have := hhi1.out; have := halx1.out; have := hlo2.out; have := hhi2.out; have := halx2.out; have := hgl.out; have := hlog.out; have := hhig.out; omega)
  clear z00 hm0 dm0 bx0
  have z10 := (bx1.cell 0)
  have z11 := (bx1.cell 1)
  have z12 := (bx1.cell 2)
  simp only [List.getElem?_toArray, List.getElem?_cons_zero, List.getElem?_cons_succ] at z10 z11 z12
  go_wp2_with fail
  refine (markValue_e ps1 v1 k0 _ _ _ _ _ _ _ hp1.out.1 hp1.out.2 dm1 SH1.out (by omega) (by omega)).mono ?_; rintro _ wm1 ⟨k1, hk1a, hk1b, rfl, hm1⟩
  replace dm2 := dm2.wrote hm1 (.inr (by have := hlo0.out; have := hhi0.out; have := halx0.out; have := hlo1.out; have := hhi1.out; have := halx1.out; have := hlo2.out; have := hhi2.out; have := halx2.out; have := hgl.out; have := hlog.out; have := hhig.out; omega))
  replace bx2 := Box.wrote bx2 hm1 (by have := hlo0.out; have := hhi0.out; have := halx0.out; have := hlo1.out; have := hhi1.out; have := halx1.out; have := hlo2.out; have := hhi2.out; have := halx2.out; have := hgl.out; have := hlog.out; have := hhig.out; omega)
  replace dg := dg.wrote hm1 (.inr (by have := hlo0.out; have := hhi0.out; have := halx0.out; have := hlo1.out; have := hhi1.out; have := halx1.out; have := hlo2.out; have := hhi2.out; have := halx2.out; have := hgl.out; have := hlog.out; have := hhig.out; omega))
  replace E0 := hm1.below E0 (by have := hlo0.out; have := hhi0.out; have := halx0.out; have := hlo1.out; have := hhi1.out; have := halx1.out; have := hlo2.out; have := hhi2.out; have := halx2.out; have := hgl.out; have := hlog.out; have := hhig.out; omega)
  clear z10 z11 z12 hm1 dm1 bx1
  have z20 := (bx2.cell 0)
  have z21 := (bx2.cell 1)
  have z22 := (bx2.cell 2)
  simp only [List.getElem?_toArray, List.getElem?_cons_zero, List.getElem?_cons_succ] at z20 z21 z22
  go_wp2_with fail
  refine (markValue_e ps2 v2 k1 _ _ _ _ _ _ _ hp2.out.1 hp2.out.2 dm2 SH2.out (by omega) (by omega)).mono ?_; rintro _ wm2 ⟨k2, hk2a, hk2b, rfl, hm2⟩
  replace dg := dg.wrote hm2 (.inr (by have := hlo0.out; have := hhi0.out; have := halx0.out; have := hlo1.out; have := hhi1.out; have := halx1.out; have := hlo2.out; have := hhi2.out; have := halx2.out; have := hgl.out; have := hlog.out; have := hhig.out; omega))
  replace E0 := hm2.below E0 (by have := hlo0.out; have := hhi0.out; have := halx0.out; have := hlo1.out; have := hhi1.out; have := halx1.out; have := hlo2.out; have := hhi2.out; have := halx2.out; have := hgl.out; have := hlog.out; have := hhig.out; omega)
  clear z20 z21 z22 hm2 dm2 bx2
  have qg := cmade_rd dg hpg.out HZR.out
  have qs := QS.out.ext E0; have eb := EB.out.trans E0
  have B0 := fun w' (e : Ext wm2 w') => CB0.out w' (Ext.trans E0 e); have B1 := fun w' (e : Ext wm2 w') => CB1.out w' (Ext.trans E0 e); have B2 := fun w' (e : Ext wm2 w') => CB2.out w' (Ext.trans E0 e)
  go_wp2_with fail
  refine (eqChangeS_same _ _ _ _ _ _ qg qs HZR.out).mono ?_; rintro _ wn ⟨rfl, sn⟩
  replace B0 := fun w' (e : Ext _ w') => B0 w' (Ext.trans sn e)
  replace B1 := fun w' (e : Ext _ w') => B1 w' (Ext.trans sn e)
  replace B2 := fun w' (e : Ext _ w') => B2 w' (Ext.trans sn e)
  replace qs := qs.ext sn
  replace qg := qg.ext sn
  replace dg := dg.ext sn
  replace eb := eb.trans sn; replace E0 := E0.trans sn; clear sn
  clear B0 B1 B2 qs qg eb
  have hgn : R.length = psg.length := by rw [← hpg.out, chOf_len]
  have HGN := Lib.hid hgn; clear hgn
  have HKE := Lib.hid (HMK.out psg hpg.out)
  go_wp2_with fail
  refine (markChgK_c _ _ _ psg 1 _ _ _ HGN.out dg (by omega) HKE.out).mono ?_; rintro _ wr ⟨rfl, dk, hmg⟩
  replace E0 := hmg.below E0 (by have := hlo0.out; have := hhi0.out; have := halx0.out; have := hlo1.out; have := hhi1.out; have := halx1.out; have := hlo2.out; have := hhi2.out; have := halx2.out; have := hgl.out; have := hlog.out; have := hhig.out; omega)
  clear hmg dg
  have qs := QS.out.ext E0; have eb := EB.out.trans E0
  have B0 := fun w' (e : Ext wr w') => CB0.out w' (Ext.trans E0 e); have B1 := fun w' (e : Ext wr w') => CB1.out w' (Ext.trans E0 e); have B2 := fun w' (e : Ext wr w') => CB2.out w' (Ext.trans E0 e)
  clear E0 QS EB CB0 CB1 CB2
  have HD := Lib.hid (fun (lo hi : Nat) w' (h : CMarked lo hi w' (.slice Ag R.length Cg) psg 1) => heldChg_c Ag R.length Cg psg 1 lo hi w' HGN.out h (by omega) HKE.out)
  have hke := HKE.out
  generalize hKK : kEndC 1 psg = K at *
  have HKK := Lib.hid hKK; clear hKK
  go_wp2_with fail
  refine (HD.out _ _ _ dk).mono ?_; rintro _ wh ⟨rfl, sh⟩
  replace B0 := fun w' (e : Ext _ w') => B0 w' (Ext.trans sh e)
  replace B1 := fun w' (e : Ext _ w') => B1 w' (Ext.trans sh e)
  replace B2 := fun w' (e : Ext _ w') => B2 w' (Ext.trans sh e)
  replace qs := qs.ext sh
  replace dk := dk.ext sh
  replace eb := eb.trans sh; clear sh
  go_wp2_with fail
  go_region_held3 (fun w' => Ext wh w') (first | assumption | exact Ext_drew (Ext.refl _) | exact Ext.trans (by assumption) (by assumption)) (first
    | (go_at_call 8; (with_reducible refine (U0.out _ ?_).mono ?_); (exact h0.ext (eb.trans (by assumption))); rintro _ wl0 ⟨AXl0, CXl0, rfl, r0, sl0⟩)
    | (go_at_call 9; (with_reducible refine (U1.out _ ?_).mono ?_); (exact h1.ext (eb.trans (by assumption))); rintro _ wl1 ⟨AXl1, CXl1, IXl1, JXl1, rfl, r1, sl1⟩)
    | (go_at_call 9; (with_reducible refine (U2.out _ ?_).mono ?_); (exact h2.ext (eb.trans (by assumption))); rintro _ wl2 ⟨AXl2, CXl2, IXl2, JXl2, rfl, r2, sl2⟩)
    | (go_at_call 10; refine (CI.out _ (HTAB.out.ext (eb.trans (by assumption))) _ _ ((r0.ext sl1).ext sl2) _ _ _ _ (r1.ext sl2) _ _ _ _ r2).mono ?_; rintro _ wl ⟨Al, Cl, psl, rfl, ql, hpl, dl, sl⟩))
  have tl : Ext wh wl := by assumption
  clear r0 r1 r2 sl0 sl1 sl2 hpl dl sl
  replace B0 := fun w' (e : Ext _ w') => B0 w' (Ext.trans tl e)
  replace B1 := fun w' (e : Ext _ w') => B1 w' (Ext.trans tl e)
  replace B2 := fun w' (e : Ext _ w') => B2 w' (Ext.trans tl e)
  replace qs := qs.ext tl
  replace dk := dk.ext tl
  replace eb := eb.trans tl; clear tl
  go_wp2_with fail
  refine (eqChangeS_same _ _ _ _ _ _ ql qs HZR.out).mono ?_; rintro _ wp ⟨rfl, sp⟩
  replace B0 := fun w' (e : Ext _ w') => B0 w' (Ext.trans sp e)
  replace B1 := fun w' (e : Ext _ w') => B1 w' (Ext.trans sp e)
  replace B2 := fun w' (e : Ext _ w') => B2 w' (Ext.trans sp e)
  replace qs := qs.ext sp
  replace ql := ql.ext sp
  replace dk := dk.ext sp
  replace eb := eb.trans sp; clear sp
  go_wp2_with fail
  refine (HD.out _ _ _ dk).mono ?_; rintro _ wq ⟨rfl, sq⟩
  go_wp2
  go_ret
  exact ⟨rfl, eb.trans sq⟩
end Go.Proofs.YtjckcbfpejcpcaaGreatDoor

/- The tables that the rows of this seat list, as a call finds them. -/
namespace Go.Proofs.YtjckcbfpejcpcaaGreatDoor
open Go.RowKit

noncomputable def laidWorld (os : Os) : World :=
  { World.holding Tryz.prog os ⟨#[], #[], []⟩ with heap := ((((World.holding Tryz.prog os ⟨#[], #[], []⟩).heap.modify 2 fun
      | .cells _ t frozen => .cells #[.int .u8 0, .int .u8 1, .int .u8 28, .int .u8 2, .int .u8 29, .int .u8 14, .int .u8 24, .int .u8 3, .int .u8 30, .int .u8 22, .int .u8 20, .int .u8 15, .int .u8 25, .int .u8 17, .int .u8 4, .int .u8 8, .int .u8 31, .int .u8 27, .int .u8 13, .int .u8 23, .int .u8 21, .int .u8 19, .int .u8 16, .int .u8 7, .int .u8 26, .int .u8 12, .int .u8 18, .int .u8 6, .int .u8 11, .int .u8 5, .int .u8 10, .int .u8 9] t frozen
      | o => o).modify 3 fun
      | .cells _ t frozen => .cells #[.int .u8 0, .int .u8 1, .int .u8 56, .int .u8 2, .int .u8 57, .int .u8 49, .int .u8 28, .int .u8 3, .int .u8 61, .int .u8 58, .int .u8 42, .int .u8 50, .int .u8 38, .int .u8 29, .int .u8 17, .int .u8 4, .int .u8 62, .int .u8 47, .int .u8 59, .int .u8 36, .int .u8 45, .int .u8 43, .int .u8 51, .int .u8 22, .int .u8 53, .int .u8 39, .int .u8 33, .int .u8 30, .int .u8 24, .int .u8 18, .int .u8 12, .int .u8 5, .int .u8 63, .int .u8 55, .int .u8 48, .int .u8 27, .int .u8 60, .int .u8 41, .int .u8 37, .int .u8 16, .int .u8 46, .int .u8 35, .int .u8 44, .int .u8 21, .int .u8 52, .int .u8 32, .int .u8 23, .int .u8 11, .int .u8 54, .int .u8 26, .int .u8 40, .int .u8 15, .int .u8 34, .int .u8 20, .int .u8 31, .int .u8 10, .int .u8 25, .int .u8 14, .int .u8 19, .int .u8 9, .int .u8 13, .int .u8 8, .int .u8 7, .int .u8 6] t frozen
      | o => o).modify 0 fun
      | .cells _ t frozen => .cells #[.int .u64 1, .int .u64 10, .int .u64 100, .int .u64 1000, .int .u64 10000, .int .u64 100000, .int .u64 1000000, .int .u64 10000000, .int .u64 100000000, .int .u64 1000000000, .int .u64 10000000000, .int .u64 100000000000, .int .u64 1000000000000, .int .u64 10000000000000, .int .u64 100000000000000, .int .u64 1000000000000000, .int .u64 10000000000000000, .int .u64 100000000000000000, .int .u64 1000000000000000000, .int .u64 10000000000000000000] t frozen
      | o => o) }
def doorList : List (String × DataW Unit) := [("math/bits.deBruijn32tab", Rows.laid_math_bits_deBruijn32tab), ("math/bits.deBruijn64tab", Rows.laid_math_bits_deBruijn64tab), ("internal/strconv.uint64pow10", Rows.laid_internal_strconv_uint64pow10)]
theorem gTab : Tryz.prog.globalNamed "internal/strconv.uint64pow10" = some 0 := by kernel_rfl
theorem gTabType : (Tryz.prog.globals[0]?).map (·.type) = some 195 := by kernel_rfl
theorem cellsTab : Tryz.prog.cellsOf 195 = 20 := by kernel_rfl
theorem cellsU64 : Tryz.prog.cellsOf 186 = 1 := by kernel_rfl
theorem tab_of_laid {W : World} (h : laidMetH Tryz.prog doorList W) : Tab W := by
  have h0 : laidMet Tryz.prog doorList W := h
  have h1 : laidMet Tryz.prog [("internal/strconv.uint64pow10", Lib.tabData .u64 Lib.pow10Tab)] W := h0.tail.tail
  exact Lib.tabIs_of_head (rest := []) gTab gTabType Tryz.underlying195 Tryz.underlying186 cellsU64 cellsTab h1
end Go.Proofs.YtjckcbfpejcpcaaGreatDoor
