/- The laws' marks on registries, with what they leave; the same tested. -/
import Derived.Test.YtlaejcacembjiaaZAv4
import Derived.Deep.DeepCutAuto
namespace Go.Proofs.Ytlaejcacembjiaa
open Go.RowKit Go.Sort

theorem RuleMarked.wroteB {w0 w w' : World} {k : Nat} {p : RV} (h : RuleMarked w0 w k p) {B : Nat → Prop} (hw : WroteB B w w') (hv : ∀ v ∈ p.vals, ∀ g, v.ownBlock = some g → ¬ B g) : RuleMarked w0 w' k p :=
  ⟨h.b.wroteB hw (hv _ (by simp [RV.vals])), h.n.wroteB hw (hv _ (by simp [RV.vals])), h.t.wroteB hw (hv _ (by simp [RV.vals])), h.k.wroteB hw (hv _ (by simp [RV.vals]))⟩
theorem OwnG.wrote {w0 w w' : World} {v : Value} {qs : List (Value × List RV)} (h : OwnG w0 w v qs) {lo hi : Nat} (hw : Wrote lo hi w w') (hv : ∀ u ∈ v :: (qs.flatMap fun q => q.1 :: q.2.flatMap RV.vals), ∀ g, u.ownBlock = some g → g < lo ∨ hi ≤ g) : OwnG w0 w' v qs :=
  ⟨h.row.wrote hw (hv _ (List.mem_cons_self ..)), fun p hp => (h.each p hp).wrote hw (fun u hu => hv u (List.mem_cons_of_mem _ (List.mem_flatMap.2 ⟨p, hp, hu⟩))), h.far⟩
theorem GMade.wrote {lo hi lo' hi' : Nat} {w w' : World} {v : Value} {qs : List (Value × List RV)} (h : GMade lo hi w v qs) (hw : Wrote lo' hi' w w') (hd : hi ≤ lo' ∨ hi' ≤ lo) : GMade lo hi w' v qs :=
  ⟨let ⟨w0, h0, h1⟩ := h.own; ⟨w0, h0, h1.wrote hw (fun u hu g hg => by have := h.blk u hu g hg; omega)⟩, h.blk⟩
/-- a version whose rules are marked from k on -/
def MarkedQ (w0 w : World) (q : Value × List RV) (k : Nat) : Prop := (q.1 = .slice none 0 0 ∧ q.2 = []) ∨ ∃ g c, q.1 = .slice (some ⟨g, 0, none⟩) q.2.length c ∧ MarkingR w0 w g c q.2 k q.2.length
theorem MarkedQ.ext {w0 w w' : World} {q : Value × List RV} {k : Nat} (h : MarkedQ w0 w q k) (e : Ext w w') : MarkedQ w0 w' q k := h.imp id (fun ⟨g, c, a, b⟩ => ⟨g, c, a, b.ext e⟩)
theorem MarkedQ.wroteB {w0 w w' : World} {q : Value × List RV} {k : Nat} (h : MarkedQ w0 w q k) {B : Nat → Prop} (hw : WroteB B w w') (hv : ∀ u ∈ q.1 :: q.2.flatMap RV.vals, ∀ b, u.ownBlock = some b → ¬ B b) : MarkedQ w0 w' q k :=
  h.imp id (fun ⟨g, c, a, b⟩ => ⟨g, c, a, ⟨b.row.wroteB hw (fun g' hg' => hv q.1 (List.mem_cons_self ..) g' (by rw [a]; exact hg')), fun j hj hij => (b.done j hj hij).wroteB hw (fun u hu => hv u (List.mem_cons_of_mem _ (List.mem_flatMap.2 ⟨_, List.getElem_mem hj, hu⟩))), fun j hj hij => by omega⟩⟩)
structure GMarked (lo hi : Nat) (w : World) (v : Value) (qs : List (Value × List RV)) (k : Nat) : Prop where
  own : ∃ w0 : World, w0.heap.size = lo ∧ Own 38 1 w0 w v qs.length (qs.map Prod.fst) ∧ ∀ i (hi : i < qs.length), MarkedQ w0 w qs[i] (kEndG k (qs.take i))
theorem GMarked.ext {lo hi : Nat} {w w' : World} {v : Value} {qs : List (Value × List RV)} {k : Nat} (h : GMarked lo hi w v qs k) (e : Ext w w') : GMarked lo hi w' v qs k :=
  let ⟨w0, a, b, c⟩ := h.own; ⟨w0, a, Own.ext b e, fun i hi => (c i hi).ext e⟩
theorem markRuleS_anyK (q : Value × List RV) (k : Nat) (w0 w : World) (B : Nat → Prop) (h : OwnD w0 w q.1 q.2) (hB : ∀ u ∈ q.1 :: q.2.flatMap RV.vals, ∀ b, u.ownBlock = some b → B b) (hk : 0 < k) (hk2 : kEndR k q.2 ≤ 1099511627776) (hs : ∀ p ∈ q.2, ShortR p.r) :
    Calls Try.prog 67 #[q.1, .int .i64 k] w fun e w' => e = .returned (.int .i64 (kEndR k q.2 : Nat)) ∧ MarkedQ w0 w' q k ∧ WroteB B w w' := by
  obtain ⟨v, ps⟩ := q
  dsimp only at *
  rcases h.row.2 with ⟨hv, h0⟩ | ⟨g, cap, cur, hv, _⟩
  · subst hv
    obtain rfl : ps = [] := List.eq_nil_of_length_eq_zero h0
    exact (markRuleS_any _ _ k w0 w B h hB hk hk2 hs).mono fun e w' ⟨a, b⟩ => ⟨a, .inl ⟨rfl, rfl⟩, b⟩
  · subst hv
    exact (markRuleS_b g cap ps k w0 w B h hB hk hk2 hs).mono fun e w' ⟨a, m, b⟩ => ⟨a, .inr ⟨g, cap, rfl, m⟩, b⟩
theorem szG_mem1 {ds : List (List DRule)} {n : Nat} (h : szG ds ≤ n + 1) {r : List DRule} (hr : r ∈ ds) : szD r ≤ n := by
  have h1 := sum_mem szD ds r hr
  have h2 := List.length_pos_of_mem hr
  unfold szG at h
  omega
set_option maxRecDepth 100000 in
set_option maxHeartbeats 4000000 in
theorem markDescSK_c (A : Option Addr) (c : Nat) (qs : List (Value × List RV)) (k : Nat) (w0 w : World) (h : OwnG w0 w (.slice A qs.length c) qs) (hz : szG (descsOf qs) ≤ 1048577) (hk : 0 < k) (hk2 : k ≤ 100000000) :
    Calls Try.prog 66 #[.slice A qs.length c, .int .i64 k] w fun e w' => e = .returned (.int .i64 (kEndG k qs : Nat)) ∧ (∀ i (hi : i < qs.length), MarkedQ w0 w' qs[i] (kEndG k (qs.take i))) ∧ WroteB (inG qs) w w' := by
  obtain ⟨f1, f2⟩ := farG_parts h.far
  have hq : ∀ q ∈ qs, szD (rulesOf q.2) ≤ 1048576 := fun q hq => szG_mem1 hz (List.mem_map_of_mem (f := fun q : Value × List RV => rulesOf q.2) hq)
  have HQ := Lib.hid hq
  have hkE : kEndG k qs ≤ 200000000 := by have := kEndG_le k qs; unfold szG at hz; omega
  have hn : qs.length ≤ 1048577 := by unfold szG at hz; simp only [descsOf, List.length_map] at hz; omega
  have HK := Lib.hid hkE
  have HF1 := Lib.hid f1; have HF2 := Lib.hid f2
  have HR := Lib.hid h.row
  have HM : Hid (∀ j (hj : j < qs.length), 0 ≤ j → OwnD w0 w qs[j].1 qs[j].2) := fun j hj _ => h.each _ (List.getElem_mem hj)
  clear h f1 f2 hq hz hkE
  go_enter Try.func66, Try.ntmps66
  go_wp2
  go_loopw [1, 5] (fun kk i wr => ∃ j : Nat, j ≤ qs.length ∧ i = .int .i64 j ∧ kk = .int .i64 (kEndG k (qs.take j) : Nat) ∧ Hid (∀ i (hi : i < qs.length), j ≤ i → OwnD w0 wr qs[i].1 qs[i].2) ∧ Hid (∀ i (hi : i < qs.length), i < j → MarkedQ w0 wr qs[i] (kEndG k (qs.take i))) ∧ WroteB (inG qs) w wr) (fun _ i _ => qs.length - (intOf i).toNat)
  case atStart => exact ⟨0, by omega, rfl, rfl, HM, (fun i _ h => by omega), WroteB.refl _ _⟩
  case round =>
    clear HM
    obtain ⟨j, hj, rfl, rfl, hm, hmk, hw⟩ := hrel
    by_cases hlt : j < qs.length
    · have HKn : Hid (kEndG k (qs.take (j+1)) = kEndR (kEndG k (qs.take j)) qs[j].2) := by
        show _ = _; rw [List.take_succ_eq_append_getElem hlt, kEndG_append]; rfl
      have hKe := kEndG_mono k qs (j+1)
      rw [HKn.out] at hKe
      have hKe2 := HK.out
      have hK0 := kEndG_ge k (qs.take j)
      have hrow := Own.wroteB HR.out hw (fun g hg => HF1.out g hg)
      obtain ⟨g, cg, hA⟩ : ∃ g cg, (Value.slice A qs.length c) = .slice (some ⟨g, 0, none⟩) qs.length cg := by
        rcases hrow.2 with ⟨hv, h0⟩ | ⟨g, cap, cur, hv, _⟩
        · omega
        · exact ⟨g, cap, hv⟩
      injection hA with q1 _ q2
      subst q1; subst q2
      have hc0 : wr.cell? ⟨g, j, none⟩ = some qs[j].1 := by
        rw [World.ownsRow.cellAt hrow j (by omega), List.getElem?_map, List.getElem?_eq_getElem hlt]; rfl
      obtain ⟨A1, c1, hv1⟩ := (hm.out j hlt (Nat.le_refl _)).shape
      rw [hv1] at hc0
      have C : Hid (Calls Try.prog 67 #[.slice A1 qs[j].2.length c1, .int .i64 (kEndG k (qs.take j) : Nat)] wr fun e w' => e = .returned (.int .i64 (kEndR (kEndG k (qs.take j)) qs[j].2 : Nat)) ∧ MarkedQ w0 w' qs[j] (kEndG k (qs.take j)) ∧ WroteB (inG [qs[j]]) wr w') := by
        rw [← hv1]
        exact markRuleS_anyK _ _ w0 wr _ (hm.out j hlt (Nat.le_refl _)) (fun u hu b hb => ⟨qs[j], by simp, u, hu, hb⟩) (by omega) (by omega) (OwnD.short (HQ.out _ (List.getElem_mem hlt))).2
      have NX : Hid (∀ w', MarkedQ w0 w' qs[j] (kEndG k (qs.take j)) → WroteB (inG [qs[j]]) wr w' → (∀ i (hi : i < qs.length), j + 1 ≤ i → OwnD w0 w' qs[i].1 qs[i].2) ∧ (∀ i (hi : i < qs.length), i < j + 1 → MarkedQ w0 w' qs[i] (kEndG k (qs.take i))) ∧ WroteB (inG qs) w w') := fun w' hmj hw' =>
        ⟨fun i hi hji => (hm.out i hi (by omega)).wroteB hw' (fun u hu b hb ⟨q, hq, x, hx, hxb⟩ => by
          simp only [List.mem_singleton] at hq; subst hq
          exact HF2.out i j hi hlt (by omega) u hu x hx b hb hxb), (fun i hi hij => by
          rcases (by omega : i < j ∨ i = j) with h9 | rfl
          · exact (hmk.out i hi h9).wroteB hw' (fun u hu b hb ⟨q, hq, x, hx, hxb⟩ => by
              simp only [List.mem_singleton] at hq; subst hq
              exact HF2.out i j hi hlt (by omega) u hu x hx b hb hxb)
          · exact hmj), hw.trans (hw'.mono (fun b ⟨q, hq, r⟩ => ⟨q, by simp only [List.mem_singleton] at hq; subst hq; exact List.getElem_mem hlt, r⟩))⟩
      clear hm hmk hw hrow hv1
      obtain ⟨K, hK⟩ : ∃ K, kEndG k (qs.take j) = K := ⟨_, rfl⟩
      rw [hK] at C HKn hKe hK0 NX ⊢
      obtain ⟨K', hK'⟩ : ∃ K', kEndR K qs[j].2 = K' := ⟨_, rfl⟩
      rw [hK'] at C HKn hKe
      clear hK hK'
      have b1 : (j : Int) < (qs.length : Int) := by omega
      go_wp2_with fail
      refine C.out.mono ?_; rintro _ w1 ⟨rfl, hq1, hw1⟩
      obtain ⟨n1, n3, n2⟩ := NX.out w1 hq1 hw1
      have N1 := Lib.hid n1; have N2 := Lib.hid n2; have N3 := Lib.hid n3
      clear n1 n2 n3 hq1 hw1 hc0
      go_wp2
      go_roundw
      case rel => exact ⟨j + 1, by omega, by go_num, by rw [HKn.out], N1, N3, N2.out⟩
      case measure => simp [intOf]; omega
    · obtain rfl : j = qs.length := by omega
      go_wp2
      go_ret
      rw [List.take_length]
      exact ⟨rfl, fun i hi => hmk.out i hi hi, hw⟩
set_option maxHeartbeats 1000000 in
theorem markRegK_c (A : Option Addr) (n c : Nat) (qs : List (Value × List RV)) (k : Nat) (lo hi : Nat) (w : World) (hn : n = qs.length) (h : GMade lo hi w (.slice A n c) qs) (hz : szG (descsOf qs) ≤ 1048577) (hk : 0 < k) (hk2 : k ≤ 100000000) :
    Calls Try.prog 18 #[vdesc (.slice A n c), .int .i64 k] w fun e w' => e = .returned (.int .i64 (kEndG k qs : Nat)) ∧ GMarked lo hi w' (.slice A n c) qs k ∧ Wrote lo hi w w' := by
  subst hn
  obtain ⟨⟨w0, h0, h1⟩, hb⟩ := h
  have eb := Ext_alloc (.cells #[.slice A qs.length c] 32) (Ext.refl w)
  have C := Lib.hid (markDescSK_c A c qs k w0 _ (h1.ext eb) hz hk hk2)
  have HE : Hid (kEndG k qs ≤ k + 6000000 ∧ k ≤ kEndG k qs) := ⟨by have := kEndG_le k qs; unfold szG at hz; omega, kEndG_ge _ _⟩
  have HG : Hid (∀ w', (∀ i (hi : i < qs.length), MarkedQ w0 w' qs[i] (kEndG k (qs.take i))) → WroteB (inG qs) (w.alloc (.cells #[.slice A qs.length c] 32)) w' → GMarked lo hi w' (.slice A qs.length c) qs k) := fun w' hm hw => ⟨w0, h0, Own.wroteB (Own.ext h1.row eb) hw (farG_parts h1.far).1, hm⟩
  have HB : Hid (∀ w', WroteB (inG qs) (w.alloc (.cells #[.slice A qs.length c] 32)) w' → Wrote lo hi w w') := fun w' hw => ((WroteB.ext (B := inG qs) eb).trans hw).wrote (fun b ⟨q, hq, u, hu, hub⟩ => hb u (List.mem_cons_of_mem _ (List.mem_flatMap.2 ⟨q, hq, hu⟩)) b hub)
  clear h1 hb hz
  unfold vdesc
  generalize hK : kEndG k qs = K at *
  clear hK
  have hK1 : K ≤ 200000000 := by have := HE.out; omega
  go_enter Try.func18, Try.ntmps18
  go_wp2_with fail
  refine C.out.mono ?_; rintro _ w1 ⟨rfl, hm, hw⟩
  have HW := Lib.hid (HB.out _ hw); have HM := Lib.hid (HG.out _ hm hw); clear hw hm
  go_wp2
  go_ret
  exact ⟨rfl, HM.out, HW.out⟩
set_option maxHeartbeats 1000000 in
theorem heldRule_any (q : Value × List RV) (k : Nat) (w0 w : World) (h : MarkedQ w0 w q k) (hk : 0 < k) (hk2 : kEndR k q.2 ≤ 1099511627776) (hs : ∀ p ∈ q.2, ShortR p.r) :
    Gives Try.prog 114 #[q.1, .int .i64 k] w (.int .i64 (kEndR k q.2 : Nat)) := by
  obtain ⟨v, ps⟩ := q
  dsimp only at *
  rcases h with ⟨hv, hp⟩ | ⟨g, c', hv, hm⟩
  · dsimp only at hv hp
    subst hv; subst hp
    have hk64 : (k : Int) ≤ 1099511627776 := by simp only [kEndR] at hk2; omega
    clear hs hk2
    show Gives _ _ _ _ _
    unfold kEndR
    go_enter Try.func114, Try.ntmps114
    go_wp2
    go_loopw [1, 5] (fun kk i wr => i = .int .i64 0 ∧ kk = .int .i64 k ∧ Ext w wr) (fun _ _ _ => 0)
    case atStart => exact ⟨rfl, rfl, Ext.refl _⟩
    case round =>
      obtain ⟨rfl, rfl, he'⟩ := hrel
      go_wp2
      go_ret
      exact ⟨rfl, he'⟩
  · dsimp only at hv
    subst hv
    exact heldRuleS_c g c' ps k w0 _ hm hk hk2 hs
set_option maxRecDepth 100000 in
set_option maxHeartbeats 4000000 in
theorem heldDescS_c (A : Option Addr) (c : Nat) (qs : List (Value × List RV)) (k : Nat) (lo hi : Nat) (w : World) (h : GMarked lo hi w (.slice A qs.length c) qs k) (hz : ∀ q ∈ qs, ∀ p ∈ q.2, ShortR p.r) (hk : 0 < k) (hkE : kEndG k qs ≤ 200000000) (hn : qs.length ≤ 1048577) :
    Gives Try.prog 68 #[.slice A qs.length c, .int .i64 k] w (.int .i64 (kEndG k qs : Nat)) := by
  obtain ⟨w0, _, h1, h2⟩ := h.own
  have HR := Lib.hid h1; have HM := Lib.hid h2; have HZ := Lib.hid hz
  clear h h1 h2 hz
  go_enter Try.func68, Try.ntmps68
  go_wp2
  go_loopw [1, 5] (fun kk i wr => ∃ j : Nat, j ≤ qs.length ∧ i = .int .i64 j ∧ kk = .int .i64 (kEndG k (qs.take j) : Nat) ∧ Ext w wr) (fun _ i _ => qs.length - (intOf i).toNat)
  case atStart => exact ⟨0, by omega, rfl, rfl, Ext.refl _⟩
  case round =>
    obtain ⟨j, hj, rfl, rfl, he⟩ := hrel
    by_cases hlt : j < qs.length
    · have HKn : Hid (kEndG k (qs.take (j+1)) = kEndR (kEndG k (qs.take j)) qs[j].2) := by
        show _ = _; rw [List.take_succ_eq_append_getElem hlt, kEndG_append]; rfl
      have hKe := kEndG_mono k qs (j+1)
      rw [HKn.out] at hKe
      have hK0 := kEndG_ge k (qs.take j)
      obtain ⟨g, cg, hA⟩ : ∃ g cg, (Value.slice A qs.length c) = .slice (some ⟨g, 0, none⟩) qs.length cg := by
        rcases HR.out.2 with ⟨hv, h0⟩ | ⟨g, cap, cur, hv, _⟩
        · omega
        · exact ⟨g, cap, hv⟩
      injection hA with q1 _ q2
      subst q1; subst q2
      have hc0 : ∀ w', Ext w w' → w'.cell? ⟨g, j, none⟩ = some qs[j].1 := fun w' e => by
        rw [World.ownsRow.cellAt (Own.ext HR.out e) j (by omega), List.getElem?_map, List.getElem?_eq_getElem hlt]; rfl
      have hq := HM.out j hlt
      obtain ⟨A1, c1, hv1⟩ : ∃ A1 c1, qs[j].1 = .slice A1 qs[j].2.length c1 := by
        rcases hq with ⟨a, b⟩ | ⟨g', c', a, _⟩
        · exact ⟨none, 0, by rw [a, b]; rfl⟩
        · exact ⟨_, _, a⟩
      rw [hv1] at hc0
      have C : Hid (∀ w', Ext w w' → Gives Try.prog 114 #[.slice A1 qs[j].2.length c1, .int .i64 (kEndG k (qs.take j) : Nat)] w' (.int .i64 (kEndR (kEndG k (qs.take j)) qs[j].2 : Nat))) := fun w' e => by
        rw [← hv1]
        exact heldRule_any _ _ w0 w' (hq.ext e) (by omega) (by omega) (HZ.out _ (List.getElem_mem hlt))
      clear hv1 hq
      obtain ⟨K, hK⟩ : ∃ K, kEndG k (qs.take j) = K := ⟨_, rfl⟩
      rw [hK] at C HKn hKe hK0 ⊢
      obtain ⟨K', hK'⟩ : ∃ K', kEndR K qs[j].2 = K' := ⟨_, rfl⟩
      rw [hK'] at C HKn hKe
      clear hK hK'
      have b1 : (j : Int) < (qs.length : Int) := by omega
      have d1 : decide ((K' : Int) < 0) = false := decide_eq_false (by omega)
      go_wp2_with fail
      refine (C.out _ he).mono ?_; rintro _ w1 ⟨rfl, s1⟩
      go_wp2
      go_roundw
      case rel => exact ⟨j + 1, by omega, by go_num, by rw [HKn.out], he.trans s1⟩
      case measure => simp [intOf]; omega
    · obtain rfl : j = qs.length := by omega
      go_wp2
      go_ret
      rw [List.take_length]
      exact ⟨rfl, he⟩
set_option maxHeartbeats 1000000 in
theorem heldReg_c (A : Option Addr) (n c : Nat) (qs : List (Value × List RV)) (k : Nat) (lo hi : Nat) (w : World) (hnq : n = qs.length) (h : GMarked lo hi w (.slice A n c) qs k) (hz : ∀ q ∈ qs, ∀ p ∈ q.2, ShortR p.r) (hk : 0 < k) (hkE : kEndG k qs ≤ 200000000) (hn : qs.length ≤ 1048577) :
    Gives Try.prog 20 #[vdesc (.slice A n c), .int .i64 k] w (.int .i64 (kEndG k qs : Nat)) := by
  subst hnq
  have eb := Ext_alloc (.cells #[.slice A qs.length c] 32) (Ext.refl w)
  have C := Lib.hid (heldDescS_c A c qs k lo hi _ (h.ext eb) hz hk hkE hn)
  clear h hz
  unfold vdesc
  generalize kEndG k qs = K at *
  have d1 : decide ((K : Int) < 0) = false := decide_eq_false (by omega)
  go_enter Try.func20, Try.ntmps20
  go_wp2_with fail
  refine C.out.mono ?_; rintro _ w1 ⟨rfl, s1⟩
  go_wp2
  go_ret
  exact ⟨rfl, eb.trans s1⟩
theorem OwnG.rd' {w0 w : World} {A : Option Addr} {c n : Nat} {qs : List (Value × List RV)} {R : List (List DRule)} (h : OwnG w0 w (.slice A n c) qs) (hq : descsOf qs = R) (hn : n = R.length) (hl : R.length ≤ 9223372036854775807) (hl2 : ∀ d ∈ R, d.length ≤ 9223372036854775807) (hs : ShortG R) : RdG w A R c := by
  subst hq; subst hn
  obtain ⟨A', c', hv, hR⟩ := h.rd (by simpa [descsOf] using hl) (fun q hq => by have := hl2 (rulesOf q.2) (List.mem_map_of_mem (f := fun q : Value × List RV => rulesOf q.2) hq); simpa [rulesOf] using this) (fun q hq p hp => hs (rulesOf q.2) (List.mem_map_of_mem (f := fun q : Value × List RV => rulesOf q.2) hq) p.r (List.mem_map_of_mem hp))
  injection hv with q1 _ q2
  subst q1; subst q2; exact hR
theorem szG_lens {R : List (List DRule)} (h : szG R ≤ 1048577) : R.length ≤ 1048577 ∧ ∀ d ∈ R, d.length ≤ 1048577 :=
  ⟨by unfold szG at h; omega, fun d hd => by have := szG_mem1 (n := 1048577) (by omega) hd; unfold szD at this; omega⟩
end Go.Proofs.Ytlaejcacembjiaa

/- AddVersion of the program and of the reference: the walks. -/
namespace Go.Proofs.Ytlaejcacembjiaa
open Go.RowKit Go.Sort

def addOk (gs : List (List DRule)) (d : List DRule) : Bool := regOk (gs ++ [d])
def addG (gs : List (List DRule)) (d : List DRule) : List (List DRule) := if addOk gs d then gs ++ [d] else gs
theorem regOk_all (g : List (List DRule)) : regOk g = (decide (g.length ≤ 8) && g.all descOk) := by
  unfold regOk
  congr 1
  rw [Bool.eq_iff_iff]
  simp only [allN, List.all_eq_true, List.mem_range]
  constructor
  · intro h x hx
    obtain ⟨i, hi, rfl⟩ := List.mem_iff_getElem.1 hx
    have := h i hi
    rw [List.getElem?_eq_getElem hi] at this
    exact this
  · intro h i hi
    rw [List.getElem?_eq_getElem hi]
    exact h _ (List.getElem_mem hi)
theorem regOk_snoc (gs : List (List DRule)) (d : List DRule) : addOk gs d = (regOk gs && !decide (gs.length = 8) && descOk d) := by
  unfold addOk
  rw [regOk_all, regOk_all, List.all_append, List.length_append, List.length_singleton]
  have e1 : [d].all descOk = descOk d := by simp
  rw [e1]
  by_cases h : gs.length ≤ 7
  · have h1 : decide (gs.length + 1 ≤ 8) = true := decide_eq_true (by omega)
    have h2 : decide (gs.length ≤ 8) = true := decide_eq_true (by omega)
    have h3 : decide (gs.length = 8) = false := decide_eq_false (by omega)
    rw [h1, h2, h3]; simp
  · have h1 : decide (gs.length + 1 ≤ 8) = false := decide_eq_false (by omega)
    rw [h1, Bool.false_and]
    by_cases h8 : gs.length = 8
    · have h3 : decide (gs.length = 8) = true := decide_eq_true h8
      rw [h3]; simp
    · have h2 : decide (gs.length ≤ 8) = false := decide_eq_false (by omega)
      rw [h2]; simp
theorem short_snoc {gs : List (List DRule)} {d : List DRule} (h : ShortG gs) (h2 : ShortD d) : ShortG (gs ++ [d]) := fun q hq => by
  rcases List.mem_append.1 hq with h1 | h1
  · exact h q h1
  · rw [List.mem_singleton.1 h1]; exact h2
theorem wf_snoc {gs : List (List DRule)} {d : List DRule} (h : WfG gs) (h2 : WfD d) : WfG (gs ++ [d]) := fun q hq => by
  rcases List.mem_append.1 hq with h1 | h1
  · exact h q h1
  · rw [List.mem_singleton.1 h1]; exact h2
def AddSt (w W0 wx : World) (bo : Nat) (cs0 cs1 cs2 : Array Value) (R : List (List DRule)) (n : Nat) : Prop :=
  ∃ A4 q4 qs, Box wx w.heap.size cs0 32 ∧ Box wx (w.heap.size + 1) cs1 38 ∧ Box wx (w.heap.size + 1 + 1) cs2 32 ∧ Box wx bo #[.slice A4 n q4] 32 ∧ OwnG W0 wx (.slice A4 n q4) qs ∧ descsOf qs = R ∧ Ext w wx ∧ W0.heap.size ≤ wx.heap.size
set_option maxRecDepth 100000 in
set_option maxHeartbeats 8000000 in
theorem sAdd_c (A : Option Addr) (gs : List (List DRule)) (c : Nat) (Ad : Option Addr) (d : List DRule) (cd : Nat) (w : World) (h : RdG w A gs c) (hdd : RdD w Ad d cd) (hz : szG gs ≤ 1048576) (hzd : szD d ≤ 1048576) (hw : WfG gs) (hwd : WfD d) :
    Calls Try.prog 12 #[vdesc (.slice A gs.length c), vdesc (.slice Ad d.length cd)] w fun e w' => ∃ v ps, e = .returned (.tuple #[vdesc v, .bool (addOk gs d)]) ∧ descsOf ps = addG gs d ∧ OwnG w w' v ps ∧ Ext w w' := by
  have hn : gs.length ≤ 1048576 := by unfold szG at hz; omega
  obtain ⟨W0, HW0, HP, HD, HR, e0, hsA⟩ := boxes3' w #[.slice A gs.length c] #[.slice Ad d.length cd] #[.slice none 0 0] 32 38 32
  have HSA := Lib.hid hsA; clear hsA
  have CG := Lib.hid (fun w h => sCopyG_c A gs c w h hz)
  have CD := Lib.hid (fun w h => sCopyD_c Ad d cd w h hzd)
  have HGG := Lib.hid h; have HDD := Lib.hid hdd
  have HSG := Lib.hid (shortG_of hz); have HSD := Lib.hid (shortD_of hzd)
  have HL2 : Hid (∀ q ∈ gs ++ [d], q.length ≤ 9223372036854775807) := fun q hq => by
    rcases List.mem_append.1 hq with h1 | h1
    · have := szG_mem hz h1; unfold szD at this; omega
    · rw [List.mem_singleton.1 h1]; unfold szD at hzd; omega
  have HL1 : Hid ((gs ++ [d]).length ≤ 9223372036854775807) := by show _ ≤ _; simp; omega
  obtain ⟨nn, hnn⟩ : ∃ nn, nn = (gs ++ [d]).length := ⟨_, rfl⟩
  have HNN := Lib.hid hnn
  obtain ⟨ok, hok⟩ : ∃ ok, addOk gs d = ok := ⟨_, rfl⟩
  obtain ⟨R, hR⟩ : ∃ R, addG gs d = R := ⟨_, rfl⟩
  have HRR : Hid (R = if ok = true then gs ++ [d] else gs) := by show _ = _; rw [← hR, ← hok]; rfl
  have HOK : Hid (addOk gs d = ok) := hok
  rw [hok, hR]
  clear hR hok
  have CV := Lib.hid (fun A' c' w' h => sValidReg_c A' (gs ++ [d]) c' w' h (short_snoc HSG.out HSD.out) (wf_snoc hw hwd))
  have hok2 : regOk (gs ++ [d]) = ok := HOK.out
  rw [hok2, ← hnn] at CV
  unfold vdesc at *
  clear h hdd hw hwd hz hzd hnn hok2
  go_enter Try.func12, Try.ntmps12
  go_wp2_with fail
  rw [← HW0.out]
  refine (CG.out _ (HGG.out.ext e0)).mono ?_; rintro _ w1 ⟨v, ps, rfl, hps, ho, s1⟩
  obtain ⟨A1, c1, hv⟩ := ho.shape
  subst hv
  have hs1 := s1.size
  have x1 := Ext_alloc (.cells #[.slice A1 ps.length c1] 32) (Ext.refl w1)
  have hpl : ps.length ≤ gs.length ∧ gs.length ≤ ps.length := by rw [← hps]; simp [descsOf]
  have hbo := Lib.hid (Box.new w1 #[.slice A1 ps.length c1] 32)
  have e1 := (e0.trans s1).trans x1
  replace HP := (HP.ext s1).ext x1; replace HD := (HD.ext s1).ext x1; replace HR := (HR.ext s1).ext x1
  have HSZ1 : Hid (w.heap.size + 3 ≤ w1.heap.size) := by show _ ≤ _; have := HSA.out; omega
  have hblk : ∀ u ∈ (Value.slice A1 ps.length c1) :: (ps.flatMap fun q => q.1 :: q.2.flatMap RV.vals), ∀ g, u.ownBlock = some g → W0.heap.size ≤ g ∧ g < w1.heap.size := ho.block
  have HBLK := Lib.hid hblk; clear hblk
  have ho := Lib.hid (ho.ext x1)
  have hps := Lib.hid hps
  have cP : _ = some (Value.slice A gs.length c) := HP.cell 0
  clear x1 s1 e0
  go_wp2_with fail
  have hd := Ext_drew e1
  have xd := Ext_drew (Ext.refl (w1.alloc (.cells #[.slice A1 ps.length c1] 32)))
  have hbp := Lib.hid (HP.ext xd); have hbd := Lib.hid (HD.ext xd); have hbr := Lib.hid (HR.ext xd)
  have hbod := Lib.hid (hbo.out.ext xd)
  have hodd := Lib.hid (ho.out.ext xd)
  have cv : _ = some (Value.slice A1 ps.length c1) := hbo.out.cell 0
  have cdd : _ = some (Value.slice Ad d.length cd) := HD.cell 0
  have hszd : Hid (W0.heap.size ≤ (w1.alloc (.cells #[.slice A1 ps.length c1] 32)).drew.heap.size) := by show _ ≤ _; rw [size_drew, World.size_alloc]; omega
  have hNv : Hid ((Value.slice A1 ps.length c1).ownBlock ≠ some w1.heap.size) := (fun hh => by have := HBLK.out (Value.slice A1 ps.length c1) (List.mem_cons_self ..) _ hh; omega)
  clear hs1 HP HD HR
  go_region_law (first
    | (go_simp; go_at_call 56; refine (CD.out _ (HDD.out.ext hd)).mono ?_; rintro _ w2 ⟨vq, pq, rfl, hrr, hro, he2⟩; obtain ⟨Aq, cq, hvq⟩ := hro.shape; subst hvq; have hro := Lib.hid hro; have hrr := Lib.hid hrr; have hbo3 := Lib.hid ((hbod.out.ext he2).ext (Ext_alloc (.cells #[.slice Aq pq.length cq] 38) (Ext.refl w2))); have c2 : _ = some (Value.slice A1 ps.length c1) := (hbod.out.ext he2).cell 0; have c3 : _ = some (Value.slice A1 ps.length c1) := hbo3.out.cell 0; have hsz2 : Hid (W0.heap.size ≤ (w2.alloc (.cells #[.slice Aq pq.length cq] 38)).heap.size) := (by have h1 := he2.size; have h2 := hszd.out; show _ ≤ _; rw [World.size_alloc]; omega))
    | (refine step_app8 rfl (.tmp 10) (.tmp 13) _ rfl E_desc' W0 (w2.alloc (.cells #[.slice Aq pq.length cq] 38)) (Value.slice A1 ps.length c1) ps.length (ps.map Prod.fst) rfl (Own.ext (Own.ext hodd.out.row he2) (Ext_alloc _ (Ext.refl _))) hsz2.out ⟨w2.heap.size, 0, none⟩ 1 1 [.slice Aq pq.length cq] rfl rfl (fun j u hu => (World.cell?_alloc_at' w2 [.slice Aq pq.length cq] 38 j).trans hu) (fun u hu => by simp only [List.mem_singleton] at hu; subst hu; rfl) (by simp [maxLen]; omega) (by omega) ?_; intro v4 w4 ho4 hg4 hv4; have hbo4 := Lib.hid (Box.moved (hbo3.out) hg4 hNv.out); have c4 := hbo4.out.cell 0; have f4 := hbo4.out.free 0; have HO4 := Lib.hid (OwnG.snoc (q := (Value.slice Aq pq.length cq, pq)) hodd.out he2 hro.out hszd.out ho4 hg4 hv4); have HG4 := Lib.hid hg4; have HV4 := Lib.hid hv4; clear ho4 hg4 hv4; obtain ⟨A4, q4, hA4⟩ := HO4.out.shape; replace hA4 : v4 = .slice A4 (ps.length + 1) q4 := (by rw [hA4, List.length_append]; rfl); subst hA4))
  all_goals
    have hW := HSA.out
    have x3 := Ext_alloc (.cells #[.slice Aq pq.length cq] 38) (Ext.refl w2)
    have bV : ∀ g, (Value.slice A1 ps.length c1).ownBlock = some g → w.heap.size + 3 ≤ g ∧ g < w1.heap.size := fun g hg => by have := HBLK.out (Value.slice A1 ps.length c1) (List.mem_cons_self ..) g hg; have := HSA.out; omega
    have hbb := HSZ1.out
    have hb2 := he2.size; rw [size_drew, World.size_alloc] at hb2
    have e4 := ((hd.trans he2).trans x3).grown HG4.out (fun g hg => by have := bV g hg; omega)
    have P5 : Hid (Box (w4.setCell ⟨w1.heap.size, 0, none⟩ (.slice A4 (ps.length + 1) q4)) w.heap.size #[.slice A gs.length c] 32) := (((hbp.out.ext he2).ext x3).moved HG4.out (fun hh => by have := bV _ hh; omega)).other (by omega) 0 _
    have D5 : Hid (Box (w4.setCell ⟨w1.heap.size, 0, none⟩ (.slice A4 (ps.length + 1) q4)) (w.heap.size + 1) #[.slice Ad d.length cd] 38) := (((hbd.out.ext he2).ext x3).moved HG4.out (fun hh => by have := bV _ hh; omega)).other (by omega) 0 _
    have R5 : Hid (Box (w4.setCell ⟨w1.heap.size, 0, none⟩ (.slice A4 (ps.length + 1) q4)) (w.heap.size + 1 + 1) #[.slice none 0 0] 32) := (((hbr.out.ext he2).ext x3).moved HG4.out (fun hh => by have := bV _ hh; omega)).other (by omega) 0 _
    have O5 : Hid (Box (w4.setCell ⟨w1.heap.size, 0, none⟩ (.slice A4 (ps.length + 1) q4)) w1.heap.size #[.slice A4 (ps.length + 1) q4] 32) := hbo4.out.set 0 (.slice A4 (ps.length + 1) q4)
    have NF5 : ∀ u ∈ (Value.slice A4 (ps.length + 1) q4) :: (ps ++ [(Value.slice Aq pq.length cq, pq)]).flatMap fun q => q.1 :: q.2.flatMap RV.vals, u.ownBlock ≠ some w1.heap.size := by
      intro u hu hh
      rcases List.mem_cons.1 hu with rfl | hu
      · rcases HV4.out with h4 | h4
        · rw [h4] at hh; have := bV _ hh; omega
        · rw [h4] at hh; injection hh with hh; rw [World.size_alloc] at hh; omega
      · rw [List.flatMap_append] at hu
        rcases List.mem_append.1 hu with hu | hu
        · have := HBLK.out u (List.mem_cons_of_mem _ hu) _ hh; omega
        · rw [List.flatMap_cons, List.flatMap_nil, List.append_nil] at hu
          have h4 := (hro.out.block u hu _ hh).1
          rw [size_drew, World.size_alloc] at h4; omega
    have G5 : Hid (OwnG W0 (w4.setCell ⟨w1.heap.size, 0, none⟩ (.slice A4 (ps.length + 1) q4)) (.slice A4 (ps.length + 1) q4) (ps ++ [(Value.slice Aq pq.length cq, pq)])) := HO4.out.keep (grown_set w4 ⟨w1.heap.size, 0, none⟩ _) (fun u hu g hg hh => by injection hh with hh; subst hh; exact NF5 u hu hg)
    have E5 : Hid (Ext w (w4.setCell ⟨w1.heap.size, 0, none⟩ (.slice A4 (ps.length + 1) q4))) := e4.setCell (p := ⟨w1.heap.size, 0, none⟩) (by show w.heap.size ≤ w1.heap.size; omega) _
    have S5 : Hid (W0.heap.size ≤ (w4.setCell ⟨w1.heap.size, 0, none⟩ (.slice A4 (ps.length + 1) q4)).heap.size) := by
      have h1 := HG4.out.size; have h2 := hsz2.out
      show _ ≤ _; simp only [World.size_setCell]; omega
    have N5 : Hid (descsOf (ps ++ [(Value.slice Aq pq.length cq, pq)]) = gs ++ [d]) := by show _ = _; rw [descsOf_append, hps.out]; simp [descsOf, hrr.out]
    have ST : Hid (AddSt w W0 (w4.setCell ⟨w1.heap.size, 0, none⟩ (.slice A4 (ps.length + 1) q4)) w1.heap.size #[.slice A gs.length c] #[.slice Ad d.length cd] #[.slice none 0 0] (gs ++ [d]) nn) := by
      have hl : nn = ps.length + 1 := by rw [HNN.out, ← N5.out, descsOf, List.length_map, List.length_append]; rfl
      exact ⟨A4, q4, _, P5.out, D5.out, R5.out, by rw [hl]; exact O5.out, by rw [hl]; exact G5.out, N5.out, E5.out, S5.out⟩
    clear hW x3 bV e4 hbb hb2 NF5 P5 D5 R5 O5 G5 E5 S5 N5
    obtain ⟨A6, q6, qs, P6, D6, R6, O6, G6, N6, E6, S6⟩ := ST.out
    have o6 : _ = some (Value.slice A6 nn q6) := O6.cell 0
    have HG6 := Lib.hid G6; have HN6 := Lib.hid N6; have HP6 := Lib.hid P6; have HR6 := Lib.hid R6; have HO6 := Lib.hid O6
    have hs6 := S6
    clear ST G6 N6 P6 R6 O6 D6 S6 HO4 HG4 HV4 c4 f4 hbo4 c2 c3 hbo3 hro hrr hsz2 he2 cv hbod hodd hbp hbd hbr
    have HRD := Lib.hid (OwnG.rd' HG6.out HN6.out HNN.out HL1.out HL2.out (short_snoc HSG.out HSD.out))
    go_wp2_with fail
    refine (CV.out _ _ _ HRD.out).mono ?_; rintro _ w7 ⟨rfl, s7⟩
    have e7 := E6.trans s7
    have hs7 := s7.size
    cases ok
    · have p7 : _ = some (Value.slice A gs.length c) := (HP6.out.ext s7).cell 0
      go_wp2_with fail
      refine (CG.out _ (HGG.out.ext e7)).mono ?_; rintro _ w8 ⟨v8, ps8, rfl, hps8, ho8, s8⟩
      obtain ⟨A8, c8, hv8⟩ := ho8.shape
      subst hv8
      have H8 := Lib.hid ho8; have HP8 := Lib.hid hps8
      clear ho8 hps8 o6
      have RB := (HR6.out.ext s7).ext s8
      have r0 : _ = some (Value.slice none 0 0) := RB.cell 0
      have f0 := RB.free 0
      have D9 := Lib.hid ((H8.out.keep (grown_set w8 ⟨w.heap.size + 1 + 1, 0, none⟩ (.slice A8 ps8.length c8)) (fun u hu g hg hh => by have h1 := (H8.out.block u hu g hg).1; have := HSA.out; injection hh with hh; simp at hh; omega)).down (w0 := w) (by have := HSA.out; omega))
      have E9 := Lib.hid ((e7.trans s8).setCell (p := ⟨w.heap.size + 1 + 1, 0, none⟩) (by show w.heap.size ≤ w.heap.size + 1 + 1; omega) (.slice A8 ps8.length c8))
      have z9 : (w8.setCell ⟨w.heap.size + 1 + 1, 0, none⟩ (.slice A8 ps8.length c8)).cell? ⟨w.heap.size + 1 + 1, 0, none⟩ = some (.slice A8 ps8.length c8) := World.cell?_setCell_same _ _ _ r0
      clear RB
      go_wp2
      exact bodyPost_ret (v := .tuple #[.agg #[.slice A8 ps8.length c8], .bool false]) (by simp [results, Try.results12, go_sem, z9]) rfl ⟨_, _, rfl, by rw [HRR.out, if_neg (by simp)]; exact HP8.out, D9.out, E9.out⟩
    · have o7 : _ = some (Value.slice A6 nn q6) := (HO6.out.ext s7).cell 0
      have H7 := Lib.hid (HG6.out.ext s7)
      clear o6
      have RB := HR6.out.ext s7
      have r0 : _ = some (Value.slice none 0 0) := RB.cell 0
      have f0 := RB.free 0
      have D9 := Lib.hid ((H7.out.keep (grown_set w7 ⟨w.heap.size + 1 + 1, 0, none⟩ (.slice A6 nn q6)) (fun u hu g hg hh => by have h1 := (H7.out.block u hu g hg).1; have := HSA.out; injection hh with hh; simp at hh; omega)).down (w0 := w) (by have := HSA.out; omega))
      have E9 := Lib.hid (e7.setCell (p := ⟨w.heap.size + 1 + 1, 0, none⟩) (by show w.heap.size ≤ w.heap.size + 1 + 1; omega) (.slice A6 nn q6))
      have z9 : (w7.setCell ⟨w.heap.size + 1 + 1, 0, none⟩ (.slice A6 nn q6)).cell? ⟨w.heap.size + 1 + 1, 0, none⟩ = some (.slice A6 nn q6) := World.cell?_setCell_same _ _ _ r0
      clear RB
      go_wp2
      exact bodyPost_ret (v := .tuple #[.agg #[.slice A6 nn q6], .bool true]) (by simp [results, Try.results12, go_sem, z9]) rfl ⟨_, _, rfl, by rw [HRR.out, if_pos (by simp)]; exact HN6.out, D9.out, E9.out⟩
set_option maxRecDepth 100000 in
set_option maxHeartbeats 8000000 in
theorem iAdd_c (A : Option Addr) (gs : List (List DRule)) (c : Nat) (Ad : Option Addr) (d : List DRule) (cd : Nat) (w : World) (h : RdG w A gs c) (hdd : RdD w Ad d cd) (hz : szG gs ≤ 1048576) (hzd : szD d ≤ 1048576) (hw : WfG gs) (hwd : WfD d) :
    Calls Try.prog 15 #[vdesc (.slice A gs.length c), vdesc (.slice Ad d.length cd)] w fun e w' => ∃ v ps, e = .returned (.tuple #[vdesc v, .bool (addOk gs d)]) ∧ descsOf ps = addG gs d ∧ OwnG w w' v ps ∧ Ext w w' := by
  have hn : gs.length ≤ 1048576 := by unfold szG at hz; omega
  obtain ⟨W0, HW0, HP, HD, HR, e0, hsA⟩ := boxes3' w #[.slice A gs.length c] #[.slice Ad d.length cd] #[.slice none 0 0] 32 38 32
  have HSA := Lib.hid hsA; clear hsA
  have CG := Lib.hid (fun w h => iCopyG_c A gs c w h hz)
  have CD := Lib.hid (fun w h => iCopyD_c Ad d cd w h hzd)
  have HGG := Lib.hid h; have HDD := Lib.hid hdd
  have HSG := Lib.hid (shortG_of hz); have HSD := Lib.hid (shortD_of hzd)
  have HL2 : Hid (∀ q ∈ gs ++ [d], q.length ≤ 9223372036854775807) := fun q hq => by
    rcases List.mem_append.1 hq with h1 | h1
    · have := szG_mem hz h1; unfold szD at this; omega
    · rw [List.mem_singleton.1 h1]; unfold szD at hzd; omega
  have HL1 : Hid ((gs ++ [d]).length ≤ 9223372036854775807) := by show _ ≤ _; simp; omega
  obtain ⟨nn, hnn⟩ : ∃ nn, nn = (gs ++ [d]).length := ⟨_, rfl⟩
  have HNN := Lib.hid hnn
  obtain ⟨ok, hok⟩ : ∃ ok, addOk gs d = ok := ⟨_, rfl⟩
  obtain ⟨R, hR⟩ : ∃ R, addG gs d = R := ⟨_, rfl⟩
  have HRR : Hid (R = if ok = true then gs ++ [d] else gs) := by show _ = _; rw [← hR, ← hok]; rfl
  have HOK : Hid (addOk gs d = ok) := hok
  rw [hok, hR]
  clear hR hok
  have CV := Lib.hid (fun w' h => iValidReg_c A gs c w' h HSG.out hw)
  have CVD := Lib.hid (fun w' h => iValidDesc_c Ad d cd w' h HSD.out hwd)
  have HX : Hid (ok = (regOk gs && !decide (gs.length = 8) && descOk d)) := by show _ = _; rw [← HOK.out, regOk_snoc]
  generalize regOk gs = z at *
  generalize descOk d = y at *
  unfold vdesc at *
  clear h hdd hw hwd hz hzd hnn
  go_enter Try.func15, Try.ntmps15
  go_wp2_with fail
  rw [← HW0.out]
  refine (CG.out _ (HGG.out.ext e0)).mono ?_; rintro _ w1 ⟨v, ps, rfl, hps, ho, s1⟩
  obtain ⟨A1, c1, hv⟩ := ho.shape
  subst hv
  have hs1 := s1.size
  have x1 := Ext_alloc (.cells #[.slice A1 ps.length c1] 32) (Ext.refl w1)
  have hpl : ps.length ≤ gs.length ∧ gs.length ≤ ps.length := by rw [← hps]; simp [descsOf]
  have hbo := Lib.hid (Box.new w1 #[.slice A1 ps.length c1] 32)
  have e1 := (e0.trans s1).trans x1
  replace HP := (HP.ext s1).ext x1; replace HD := (HD.ext s1).ext x1; replace HR := (HR.ext s1).ext x1
  have HSZ1 : Hid (w.heap.size + 3 ≤ w1.heap.size) := by show _ ≤ _; have := HSA.out; omega
  have hblk : ∀ u ∈ (Value.slice A1 ps.length c1) :: (ps.flatMap fun q => q.1 :: q.2.flatMap RV.vals), ∀ g, u.ownBlock = some g → W0.heap.size ≤ g ∧ g < w1.heap.size := ho.block
  have HBLK := Lib.hid hblk; clear hblk
  have ho := Lib.hid (ho.ext x1)
  have hps := Lib.hid hps
  have cP : _ = some (Value.slice A gs.length c) := HP.cell 0
  clear x1 s1 e0
  have p2 : _ = some (Value.slice A gs.length c) := HP.cell 0
  go_wp2_with fail
  refine (CV.out _ (HGG.out.ext e1)).mono ?_; rintro _ w5 ⟨rfl, s5⟩
  have e5 := e1.trans s5
  have hs5 := s5.size
  rw [World.size_alloc] at hs5
  have hsz1 := HSZ1.out
  cases z
  · have HOKF : Hid (ok = false) := by show _ = _; rw [HX.out]; rfl
    obtain rfl : ok = false := HOKF.out
    have b7 : _ = some (Value.slice A1 ps.length c1) := (hbo.out.ext s5).cell 0
    have H7 := Lib.hid (ho.out.ext s5)
    have RB := (HR.ext s5)
    have r0 : _ = some (Value.slice none 0 0) := RB.cell 0
    have f0 := RB.free 0
    have D9 := Lib.hid ((H7.out.keep (grown_set w5 ⟨w.heap.size + 1 + 1, 0, none⟩ (.slice A1 ps.length c1)) (fun u hu g hg hh => by have h1 := (H7.out.block u hu g hg).1; have := HSA.out; injection hh with hh; simp at hh; omega)).down (w0 := w) (by have := HSA.out; omega))
    have E9 := Lib.hid (e5.setCell (p := ⟨w.heap.size + 1 + 1, 0, none⟩) (by show w.heap.size ≤ w.heap.size + 1 + 1; omega) (.slice A1 ps.length c1))
    have z9 : (w5.setCell ⟨w.heap.size + 1 + 1, 0, none⟩ (.slice A1 ps.length c1)).cell? ⟨w.heap.size + 1 + 1, 0, none⟩ = some (.slice A1 ps.length c1) := World.cell?_setCell_same _ _ _ r0
    clear RB
    go_wp2
    exact bodyPost_ret (v := .tuple #[.agg #[.slice A1 ps.length c1], .bool false]) (by simp [results, Try.results15, go_sem, z9]) rfl ⟨_, _, rfl, by rw [HRR.out, if_neg (by simp)]; exact hps.out, D9.out, E9.out⟩
  by_cases hg8 : gs.length = 8
  · have HOKF : Hid (ok = false) := by show _ = _; rw [HX.out, decide_eq_true hg8]; rfl
    have g8 : ((gs.length : Int) == 8) = true := by simp; omega
    have p5 : _ = some (Value.slice A gs.length c) := (HP.ext s5).cell 0
    have hg8 := Lib.hid hg8
    obtain rfl : ok = false := HOKF.out
    have b7 : _ = some (Value.slice A1 ps.length c1) := (hbo.out.ext s5).cell 0
    have H7 := Lib.hid (ho.out.ext s5)
    have RB := (HR.ext s5)
    have r0 : _ = some (Value.slice none 0 0) := RB.cell 0
    have f0 := RB.free 0
    have D9 := Lib.hid ((H7.out.keep (grown_set w5 ⟨w.heap.size + 1 + 1, 0, none⟩ (.slice A1 ps.length c1)) (fun u hu g hg hh => by have h1 := (H7.out.block u hu g hg).1; have := HSA.out; injection hh with hh; simp at hh; omega)).down (w0 := w) (by have := HSA.out; omega))
    have E9 := Lib.hid (e5.setCell (p := ⟨w.heap.size + 1 + 1, 0, none⟩) (by show w.heap.size ≤ w.heap.size + 1 + 1; omega) (.slice A1 ps.length c1))
    have z9 : (w5.setCell ⟨w.heap.size + 1 + 1, 0, none⟩ (.slice A1 ps.length c1)).cell? ⟨w.heap.size + 1 + 1, 0, none⟩ = some (.slice A1 ps.length c1) := World.cell?_setCell_same _ _ _ r0
    clear RB
    go_wp2
    exact bodyPost_ret (v := .tuple #[.agg #[.slice A1 ps.length c1], .bool false]) (by simp [results, Try.results15, go_sem, z9]) rfl ⟨_, _, rfl, by rw [HRR.out, if_neg (by simp)]; exact hps.out, D9.out, E9.out⟩
  have g8 : ((gs.length : Int) == 8) = false := by simp; omega
  have p5 : _ = some (Value.slice A gs.length c) := (HP.ext s5).cell 0
  have d5 : _ = some (Value.slice Ad d.length cd) := (HD.ext s5).cell 0
  have HG8 := Lib.hid hg8; clear hg8
  go_wp2_with fail
  refine (CVD.out _ (HDD.out.ext e5)).mono ?_; rintro _ w6 ⟨rfl, s6⟩
  have e6 := e5.trans s6
  cases y
  · have HOKF : Hid (ok = false) := by show _ = _; rw [HX.out, Bool.and_false]
    clear p5 d5
    obtain rfl : ok = false := HOKF.out
    have b7 : _ = some (Value.slice A1 ps.length c1) := ((hbo.out.ext s5).ext s6).cell 0
    have H7 := Lib.hid ((ho.out.ext s5).ext s6)
    have RB := ((HR.ext s5).ext s6)
    have r0 : _ = some (Value.slice none 0 0) := RB.cell 0
    have f0 := RB.free 0
    have D9 := Lib.hid ((H7.out.keep (grown_set w6 ⟨w.heap.size + 1 + 1, 0, none⟩ (.slice A1 ps.length c1)) (fun u hu g hg hh => by have h1 := (H7.out.block u hu g hg).1; have := HSA.out; injection hh with hh; simp at hh; omega)).down (w0 := w) (by have := HSA.out; omega))
    have E9 := Lib.hid (e6.setCell (p := ⟨w.heap.size + 1 + 1, 0, none⟩) (by show w.heap.size ≤ w.heap.size + 1 + 1; omega) (.slice A1 ps.length c1))
    have z9 : (w6.setCell ⟨w.heap.size + 1 + 1, 0, none⟩ (.slice A1 ps.length c1)).cell? ⟨w.heap.size + 1 + 1, 0, none⟩ = some (.slice A1 ps.length c1) := World.cell?_setCell_same _ _ _ r0
    clear RB
    go_wp2
    exact bodyPost_ret (v := .tuple #[.agg #[.slice A1 ps.length c1], .bool false]) (by simp [results, Try.results15, go_sem, z9]) rfl ⟨_, _, rfl, by rw [HRR.out, if_neg (by simp)]; exact hps.out, D9.out, E9.out⟩
  have HOKT : Hid (ok = true) := by show _ = _; rw [HX.out, decide_eq_false HG8.out]; rfl
  obtain rfl : ok = true := HOKT.out
  clear p5 d5
  have hs6 := s6.size
  go_wp2_with fail
  have hd := Ext_drew e6
  have xd := (s5.trans s6).trans (Ext_drew (Ext.refl w6))
  have hbp := Lib.hid (HP.ext xd); have hbd := Lib.hid (HD.ext xd); have hbr := Lib.hid (HR.ext xd)
  have hbod := Lib.hid (hbo.out.ext xd)
  have hodd := Lib.hid (ho.out.ext xd)
  have cv : _ = some (Value.slice A1 ps.length c1) := (hbo.out.ext (s5.trans s6)).cell 0
  have cdd : _ = some (Value.slice Ad d.length cd) := (HD.ext (s5.trans s6)).cell 0
  have hszd : Hid (W0.heap.size ≤ w6.drew.heap.size) := by show _ ≤ _; rw [size_drew]; have := s6.size; omega
  have hNv : Hid ((Value.slice A1 ps.length c1).ownBlock ≠ some w1.heap.size) := (fun hh => by have := HBLK.out (Value.slice A1 ps.length c1) (List.mem_cons_self ..) _ hh; omega)
  clear hs1 HP HD HR
  go_region_law (first
    | (go_simp; go_at_call 63; refine (CD.out _ (HDD.out.ext hd)).mono ?_; rintro _ w2 ⟨vq, pq, rfl, hrr, hro, he2⟩; obtain ⟨Aq, cq, hvq⟩ := hro.shape; subst hvq; have hro := Lib.hid hro; have hrr := Lib.hid hrr; have hbo3 := Lib.hid ((hbod.out.ext he2).ext (Ext_alloc (.cells #[.slice Aq pq.length cq] 38) (Ext.refl w2))); have c2 : _ = some (Value.slice A1 ps.length c1) := (hbod.out.ext he2).cell 0; have c3 : _ = some (Value.slice A1 ps.length c1) := hbo3.out.cell 0; have hsz2 : Hid (W0.heap.size ≤ (w2.alloc (.cells #[.slice Aq pq.length cq] 38)).heap.size) := (by have h1 := he2.size; have h2 := hszd.out; show _ ≤ _; rw [World.size_alloc]; omega))
    | (refine step_app8 rfl (.tmp 25) (.tmp 28) _ rfl E_desc' W0 (w2.alloc (.cells #[.slice Aq pq.length cq] 38)) (Value.slice A1 ps.length c1) ps.length (ps.map Prod.fst) rfl (Own.ext (Own.ext hodd.out.row he2) (Ext_alloc _ (Ext.refl _))) hsz2.out ⟨w2.heap.size, 0, none⟩ 1 1 [.slice Aq pq.length cq] rfl rfl (fun j u hu => (World.cell?_alloc_at' w2 [.slice Aq pq.length cq] 38 j).trans hu) (fun u hu => by simp only [List.mem_singleton] at hu; subst hu; rfl) (by simp [maxLen]; omega) (by omega) ?_; intro v4 w4 ho4 hg4 hv4; have hbo4 := Lib.hid (Box.moved (hbo3.out) hg4 hNv.out); have c4 := hbo4.out.cell 0; have f4 := hbo4.out.free 0; have HO4 := Lib.hid (OwnG.snoc (q := (Value.slice Aq pq.length cq, pq)) hodd.out he2 hro.out hszd.out ho4 hg4 hv4); have HG4 := Lib.hid hg4; have HV4 := Lib.hid hv4; clear ho4 hg4 hv4; obtain ⟨A4, q4, hA4⟩ := HO4.out.shape; replace hA4 : v4 = .slice A4 (ps.length + 1) q4 := (by rw [hA4, List.length_append]; rfl); subst hA4))
  all_goals
    have hW := HSA.out
    have x3 := Ext_alloc (.cells #[.slice Aq pq.length cq] 38) (Ext.refl w2)
    have bV : ∀ g, (Value.slice A1 ps.length c1).ownBlock = some g → w.heap.size + 3 ≤ g ∧ g < w1.heap.size := fun g hg => by have := HBLK.out (Value.slice A1 ps.length c1) (List.mem_cons_self ..) g hg; have := HSA.out; omega
    have hbb := HSZ1.out
    have hb2 := he2.size; rw [size_drew] at hb2
    have e4 := ((hd.trans he2).trans x3).grown HG4.out (fun g hg => by have := bV g hg; omega)
    have P5 : Hid (Box (w4.setCell ⟨w1.heap.size, 0, none⟩ (.slice A4 (ps.length + 1) q4)) w.heap.size #[.slice A gs.length c] 32) := (((hbp.out.ext he2).ext x3).moved HG4.out (fun hh => by have := bV _ hh; omega)).other (by omega) 0 _
    have D5 : Hid (Box (w4.setCell ⟨w1.heap.size, 0, none⟩ (.slice A4 (ps.length + 1) q4)) (w.heap.size + 1) #[.slice Ad d.length cd] 38) := (((hbd.out.ext he2).ext x3).moved HG4.out (fun hh => by have := bV _ hh; omega)).other (by omega) 0 _
    have R5 : Hid (Box (w4.setCell ⟨w1.heap.size, 0, none⟩ (.slice A4 (ps.length + 1) q4)) (w.heap.size + 1 + 1) #[.slice none 0 0] 32) := (((hbr.out.ext he2).ext x3).moved HG4.out (fun hh => by have := bV _ hh; omega)).other (by omega) 0 _
    have O5 : Hid (Box (w4.setCell ⟨w1.heap.size, 0, none⟩ (.slice A4 (ps.length + 1) q4)) w1.heap.size #[.slice A4 (ps.length + 1) q4] 32) := hbo4.out.set 0 (.slice A4 (ps.length + 1) q4)
    have NF5 : ∀ u ∈ (Value.slice A4 (ps.length + 1) q4) :: (ps ++ [(Value.slice Aq pq.length cq, pq)]).flatMap fun q => q.1 :: q.2.flatMap RV.vals, u.ownBlock ≠ some w1.heap.size := by
      intro u hu hh
      rcases List.mem_cons.1 hu with rfl | hu
      · rcases HV4.out with h4 | h4
        · rw [h4] at hh; have := bV _ hh; omega
        · rw [h4] at hh; injection hh with hh; rw [World.size_alloc] at hh; omega
      · rw [List.flatMap_append] at hu
        rcases List.mem_append.1 hu with hu | hu
        · have := HBLK.out u (List.mem_cons_of_mem _ hu) _ hh; omega
        · rw [List.flatMap_cons, List.flatMap_nil, List.append_nil] at hu
          have h4 := (hro.out.block u hu _ hh).1
          rw [size_drew] at h4; omega
    have G5 : Hid (OwnG W0 (w4.setCell ⟨w1.heap.size, 0, none⟩ (.slice A4 (ps.length + 1) q4)) (.slice A4 (ps.length + 1) q4) (ps ++ [(Value.slice Aq pq.length cq, pq)])) := HO4.out.keep (grown_set w4 ⟨w1.heap.size, 0, none⟩ _) (fun u hu g hg hh => by injection hh with hh; subst hh; exact NF5 u hu hg)
    have E5 : Hid (Ext w (w4.setCell ⟨w1.heap.size, 0, none⟩ (.slice A4 (ps.length + 1) q4))) := e4.setCell (p := ⟨w1.heap.size, 0, none⟩) (by show w.heap.size ≤ w1.heap.size; omega) _
    have S5 : Hid (W0.heap.size ≤ (w4.setCell ⟨w1.heap.size, 0, none⟩ (.slice A4 (ps.length + 1) q4)).heap.size) := by
      have h1 := HG4.out.size; have h2 := hsz2.out
      show _ ≤ _; simp only [World.size_setCell]; omega
    have N5 : Hid (descsOf (ps ++ [(Value.slice Aq pq.length cq, pq)]) = gs ++ [d]) := by show _ = _; rw [descsOf_append, hps.out]; simp [descsOf, hrr.out]
    clear hW x3 bV e4 hbb hb2 NF5 P5 D5 O5 S5
    have RB := R5.out
    have r0 : _ = some (Value.slice none 0 0) := RB.cell 0
    have f0 := RB.free 0
    have D9 := Lib.hid ((G5.out.keep (grown_set (w4.setCell ⟨w1.heap.size, 0, none⟩ (.slice A4 (ps.length + 1) q4)) ⟨w.heap.size + 1 + 1, 0, none⟩ (.slice A4 (ps.length + 1) q4)) (fun u hu g hg hh => by have h1 := (G5.out.block u hu g hg).1; have := HSA.out; injection hh with hh; simp at hh; omega)).down (w0 := w) (by have := HSA.out; omega))
    have E9 := Lib.hid (E5.out.setCell (p := ⟨w.heap.size + 1 + 1, 0, none⟩) (by show w.heap.size ≤ w.heap.size + 1 + 1; omega) (.slice A4 (ps.length + 1) q4))
    have z9 : ((w4.setCell ⟨w1.heap.size, 0, none⟩ (.slice A4 (ps.length + 1) q4)).setCell ⟨w.heap.size + 1 + 1, 0, none⟩ (.slice A4 (ps.length + 1) q4)).cell? ⟨w.heap.size + 1 + 1, 0, none⟩ = some (.slice A4 (ps.length + 1) q4) := World.cell?_setCell_same _ _ _ r0
    clear RB
    go_wp2
    exact bodyPost_ret (v := .tuple #[.agg #[.slice A4 (ps.length + 1) q4], .bool true]) (by simp [results, Try.results15, go_sem, z9]) rfl ⟨_, _, rfl, by rw [HRR.out, if_pos (by simp)]; exact N5.out, D9.out, E9.out⟩
end Go.Proofs.Ytlaejcacembjiaa

/- Archives by value: the laws' helpers and EqualArchives. -/
namespace Go.Proofs.Ytlaejcacembjiaa
open Go.RowKit Go.Sort

def varch (v u : Value) (s : Int) : Value := .agg #[v, u, .int .i64 s]
/-- an archive's registry and log read as gs and l -/
structure RdA (w : World) (A : Option Addr) (gs : List (List DRule)) (c : Nat) (L : Option Addr) (l : List UInt8) (k : Nat) : Prop where
  g : RdG w A gs c
  l : Rd0 vu8 w L l k
theorem RdA.ext {w w' : World} {A : Option Addr} {gs : List (List DRule)} {c : Nat} {L : Option Addr} {l : List UInt8} {k : Nat} (h : RdA w A gs c L l k) (e : Ext w w') : RdA w' A gs c L l k := ⟨h.g.ext e, h.l.ext e⟩
def szA (gs : List (List DRule)) (l : List UInt8) : Nat := szG gs + l.length
structure ShortA (gs : List (List DRule)) (l : List UInt8) : Prop where
  g : ShortG gs
  l : l.length ≤ 1048576
theorem shortA_of {gs : List (List DRule)} {l : List UInt8} (h : szA gs l ≤ 1048576) : ShortA gs l := ⟨shortG_of (by unfold szA at h; omega), by unfold szA at h; omega⟩
def eqA (gs : List (List DRule)) (l : List UInt8) (s : Int) (gs' : List (List DRule)) (l' : List UInt8) (s' : Int) : Bool := eqG gs gs' && (s == s' && l == l')
theorem eqA_refl (gs : List (List DRule)) (l : List UInt8) (s : Int) : eqA gs l s gs l s = true := by unfold eqA; rw [eqG_refl]; simp
set_option maxHeartbeats 1000000 in
theorem szArchive_c (A : Option Addr) (gs : List (List DRule)) (c : Nat) (L : Option Addr) (l : List UInt8) (k : Nat) (s : Int) (left : Int) (w : World) (h : RdA w A gs c L l k) (hw : WfG gs) (h0 : 0 ≤ left) (h1 : left ≤ 1048576) :
    Gives Try.prog 21 #[varch (.slice A gs.length c) (.slice L l.length k) s, .int .i64 left] w (.int .i64 (szN (szA gs l) left)) := by
  have C1 := Lib.hid (fun w h => szRegistry_c A gs c left w h hw h0 h1)
  have C2 := Lib.hid (fun left w h h0 h1 => szLog_c L l k s left w h h0 h1)
  have S := szN_spec (szA gs l) left
  obtain ⟨T, hT⟩ : ∃ T, szN (szA gs l) left = T := ⟨_, rfl⟩
  rw [hT] at S ⊢
  unfold szA at S
  have HS := Lib.hid S
  clear S hT
  have s1 := szN_spec (szG gs) left
  generalize szN (szG gs) left = z at *
  have S1 := Lib.hid s1
  have eb := Ext_alloc (.cells #[.slice A gs.length c, .slice L l.length k, .int .i64 s] 49) (Ext.refl w)
  have BX := fun w' (e : Ext (w.alloc (.cells #[.slice A gs.length c, .slice L l.length k, .int .i64 s] 49)) w') => boxed e
  unfold varch
  unfold vdesc at C1
  unfold vlog at C2
  by_cases d : z < 0
  · obtain rfl : T = -1 := by have := HS.out; have := S1.out; omega
    clear s1
    go_enter Try.func21, Try.ntmps21
    go_wp2_with fail
    refine (C1.out _ (h.g.ext eb)).mono ?_; rintro _ w1 ⟨rfl, e1⟩
    go_wp2
    go_ret
    exact ⟨rfl, eb.trans e1⟩
  · have hz1 : z ≤ 1048576 := by omega
    have hz0 : 0 ≤ z := by omega
    clear s1
    go_enter Try.func21, Try.ntmps21
    go_wp2_with fail
    refine (C1.out _ (h.g.ext eb)).mono ?_; rintro _ w1 ⟨rfl, e1⟩
    go_wp2_with fail
    refine (C2.out _ _ (h.l.ext (eb.trans e1)) (by omega) (by omega)).mono ?_; rintro _ w2 ⟨rfl, e2⟩
    have s2 := szN_spec l.length z
    generalize szN l.length z = y at *
    have HT : Hid (y = T) := by have := HS.out; have := S1.out; show _ = _; omega
    clear s2
    by_cases d2 : y < 0
    · obtain rfl : T = -1 := by have := HS.out; have := S1.out; have := HT.out; omega
      go_wp2
      go_ret
      exact ⟨rfl, eb.trans (e1.trans e2)⟩
    · go_wp2
      go_ret
      exact ⟨ret_i64 HT.out, eb.trans (e1.trans e2)⟩
set_option maxRecDepth 100000 in
set_option maxHeartbeats 4000000 in
theorem toArch_r (A : Option Addr) (gs : List (List DRule)) (c : Nat) (L : Option Addr) (l : List UInt8) (k : Nat) (s : Int) (w : World) (h : RdA w A gs c L l k) (hz : szA gs l ≤ 1048576) :
    Calls Try.prog 23 #[varch (.slice A gs.length c) (.slice L l.length k) s] w fun e w' => ∃ A1 c1 A2 c2, e = .returned (varch (.slice A1 gs.length c1) (.slice A2 l.length c2) s) ∧ RdA w' A1 gs c1 A2 l c2 ∧ Ext w w' := by
  have hg : szG gs ≤ 1048576 := by unfold szA at hz; omega
  have hl : l.length ≤ 1048576 := by unfold szA at hz; omega
  have C1 := Lib.hid (fun w h => toRegistry_c A gs c w h hg)
  have C2 := Lib.hid (fun w h => toLog_c L l k s w h hl)
  have HZ := Lib.hid hg
  obtain ⟨W0, HW0, HA, HR, HO, eA, hsA⟩ := boxes3' w #[.slice A gs.length c, .slice L l.length k, .int .i64 s] #[.slice none 0 0, .slice none 0 0, .int .i64 0] #[.slice none 0 0, .slice none 0 0, .int .i64 0] 49 53 53
  have HSA := Lib.hid hsA
  have HA0 := Lib.hid HA; have HR0 := Lib.hid HR; have HO0 := Lib.hid HO; clear HA HR HO hsA
  unfold vdesc at C1
  unfold vlog at C2
  unfold varch
  go_enter Try.func23, Try.ntmps23
  go_wp2_with fail
  rw [← HW0.out]
  refine (C1.out _ (h.g.ext eA)).mono ?_; rintro _ w1 ⟨v1, qs, rfl, hqs, ho1, he1⟩
  subst hqs
  have hlq : (descsOf qs).length = qs.length := by simp [descsOf]
  obtain ⟨A1, c1, rfl⟩ := ho1.shape
  have a1 := (HA0.out.ext he1).cell; have p1 := (HO0.out.ext he1).cell; have q1 := (HO0.out.ext he1).free
  have hs1 := he1.size
  have g1 := ho1.block
  have O1 := Lib.hid (ho1.keep (grown_set w1 ⟨w.heap.size + 1 + 1, 0, none⟩ (.slice A1 qs.length c1)) (by intro u hu g hg' he'; have := g1 u hu g hg'; have := HSA.out; injection he' with he'; simp only at he'; omega))
  have HA1 := Lib.hid ((HA0.out.ext he1).other (g' := w.heap.size + 1 + 1) (by omega) 0 (.slice A1 qs.length c1)); have HR1 := Lib.hid ((HR0.out.ext he1).other (g' := w.heap.size + 1 + 1) (by omega) 0 (.slice A1 qs.length c1)); have HO1 := Lib.hid ((HO0.out.ext he1).set 0 (.slice A1 qs.length c1))
  have e1 := (eA.trans he1).setCell (p := ⟨w.heap.size + 1 + 1, 0, none⟩) (by show w.heap.size ≤ w.heap.size + 1 + 1; omega) (.slice A1 qs.length c1)
  have S1 : w1.heap.size ≤ (w1.setCell ⟨w.heap.size + 1 + 1, 0, none⟩ (.slice A1 qs.length c1)).heap.size := by simp
  have G1 := Lib.hid g1
  clear ho1 g1 HA0 HO0 HR0 eA
  go_wp2_with fail
  generalize w1.setCell ⟨w.heap.size + 1 + 1, 0, none⟩ (.slice A1 qs.length c1) = W1 at *
  clear a1 p1 q1
  refine (C2.out _ (h.l.ext e1)).mono ?_; rintro _ w2 ⟨v2, rfl, ho2, he2⟩
  obtain ⟨A2, c2, rfl, _⟩ := OwnL.rd ho2 (by omega)
  have p2 := (HO1.out.ext he2).cell; have q2 := (HO1.out.ext he2).free; have r2 := (HR1.out.ext he2).cell; have t2 := (HR1.out.ext he2).free
  have hs2 := he2.size
  have HO2 := Lib.hid ho2
  have O2 := Lib.hid (O1.out.ext he2)
  have e2 := e1.trans he2
  clear ho2 O1 he2 he1
  go_wp2
  have z0 := HSA.out
  have gr : ∀ (W : World) (x y : Value), W.grownBy ((W.setCell ⟨w.heap.size + 1 + 1, 1, none⟩ x).setCell ⟨w.heap.size + 1 + 1, 2, none⟩ y) (some (w.heap.size + 1 + 1)) := fun W x y => (grown_set W ⟨w.heap.size + 1 + 1, 1, none⟩ x).trans (grown_set _ ⟨w.heap.size + 1 + 1, 2, none⟩ y)
  have gs' : ∀ (W : World) (x y z : Value), W.grownBy (((W.setCell ⟨w.heap.size + 1, 0, none⟩ x).setCell ⟨w.heap.size + 1, 1, none⟩ y).setCell ⟨w.heap.size + 1, 2, none⟩ z) (some (w.heap.size + 1)) := fun W x y z => ((grown_set W ⟨w.heap.size + 1, 0, none⟩ x).trans (grown_set _ ⟨w.heap.size + 1, 1, none⟩ y)).trans (grown_set _ ⟨w.heap.size + 1, 2, none⟩ z)
  have OG := (O2.out.keep (gr w2 (.slice A2 l.length c2) (.int .i64 s)) (by intro u hu g hg' he'; have := G1.out u hu g hg'; injection he' with he'; omega)).keep (gs' _ (.slice A1 qs.length c1) (.slice A2 l.length c2) (.int .i64 s)) (by intro u hu g hg' he'; have := G1.out u hu g hg'; injection he' with he'; omega)
  have OL := (HO2.out.keep (gr w2 (.slice A2 l.length c2) (.int .i64 s)) (by intro g hg' he'; have := World.ownsRow.lt HO2.out g hg'; injection he' with he'; omega)).keep (gs' _ (.slice A1 qs.length c1) (.slice A2 l.length c2) (.int .i64 s)) (by intro g hg' he'; have := World.ownsRow.lt HO2.out g hg'; injection he' with he'; omega)
  have hq : ∀ q ∈ qs, szD (rulesOf q.2) ≤ 1048576 := fun q hq => szG_mem HZ.out (List.mem_map_of_mem (f := fun q : Value × List RV => rulesOf q.2) hq)
  obtain ⟨A3, c3, hv3, R3⟩ := OG.rd (by have := HZ.out; unfold szG at this; rw [hlq] at this; omega) (fun q h => (OwnD.short (hq q h)).1) (fun q h => (OwnD.short (hq q h)).2)
  rw [hlq] at hv3
  injection hv3 with i1 _ i2
  subst i1; subst i2
  obtain ⟨A4, c4, hv4, R4⟩ := OwnL.rd OL (by omega)
  injection hv4 with i1 _ i2
  subst i1; subst i2
  refine bodyPost_ret (v := .agg #[.slice A1 qs.length c1, .slice A2 l.length c2, .int .i64 s]) (by simp [results, Try.results23, go_sem, p2, q2, r2, t2]) rfl ⟨A1, c1, A2, c2, by rw [hlq], ⟨R3, R4.1⟩, ?_⟩
  exact (e2.grown (gr w2 _ _) (fun g hg => by injection hg with hg; omega)).grown (gs' _ _ _ _) (fun g hg => by injection hg with hg; omega)

set_option maxHeartbeats 2000000 in
theorem eqArchive_c (A : Option Addr) (gs : List (List DRule)) (c : Nat) (L : Option Addr) (l : List UInt8) (k : Nat) (s : Int) (A' : Option Addr) (gs' : List (List DRule)) (c' : Nat) (L' : Option Addr) (l' : List UInt8) (k' : Nat) (s' : Int) (w : World) (h : RdA w A gs c L l k) (h' : RdA w A' gs' c' L' l' k') (hs : ShortA gs l) (hs' : ShortA gs' l') :
    Gives Try.prog 25 #[varch (.slice A gs.length c) (.slice L l.length k) s, varch (.slice A' gs'.length c') (.slice L' l'.length k') s'] w (.bool (eqA gs l s gs' l' s')) := by
  have C1 := Lib.hid (fun w h h' => eqRegistry_c A A' gs gs' c c' w h h' hs.g hs'.g)
  have C2 := Lib.hid (fun w h h' => eqLog_c L L' l l' k k' s s' w h h')
  have eb := Ext_alloc (.cells #[.slice A' gs'.length c', .slice L' l'.length k', .int .i64 s'] 53) (Ext_alloc (.cells #[.slice A gs.length c, .slice L l.length k, .int .i64 s] 53) (Ext.refl w))
  have BX := fun w' (e : Ext ((w.alloc (.cells #[.slice A gs.length c, .slice L l.length k, .int .i64 s] 53)).alloc (.cells #[.slice A' gs'.length c', .slice L' l'.length k', .int .i64 s'] 53)) w') => boxed2 e
  have B0 := fun w' e => (BX w' e).1
  have B1 := fun w' e => (BX w' e).2.1
  clear BX
  have hl1 : l.length ≤ 140737488351232 := by have := hs.l; omega
  have hl2 : l'.length ≤ 140737488351232 := by have := hs'.l; omega
  have HC : Hid ((s == s' && l == l') = (l == l' && s == s')) := Bool.and_comm _ _
  unfold eqA
  rw [HC.out]
  unfold vdesc at C1
  unfold vlog at C2
  unfold varch
  generalize eqG gs gs' = q at *
  generalize (l == l' && s == s') = p at *
  clear HC
  cases q
  · go_enter Try.func25, Try.ntmps25
    go_wp2_with fail
    refine (C1.out _ (h.g.ext eb) (h'.g.ext eb)).mono ?_; rintro _ w1 ⟨rfl, e1⟩
    go_wp2
    go_ret
    exact ⟨ret_bool (by simp), eb.trans e1⟩
  · cases p
    all_goals
      go_enter Try.func25, Try.ntmps25
      go_wp2_with fail
      refine (C1.out _ (h.g.ext eb) (h'.g.ext eb)).mono ?_; rintro _ w1 ⟨rfl, e1⟩
      go_wp2_with fail
      refine (C2.out _ ⟨h.l.ext (eb.trans e1), hl1⟩ ⟨h'.l.ext (eb.trans e1), hl2⟩).mono ?_; rintro _ w2 ⟨rfl, e2⟩
      go_wp2
      go_ret
      exact ⟨ret_bool (by simp), eb.trans (e1.trans e2)⟩
end Go.Proofs.Ytlaejcacembjiaa

/- Records by value: the laws' helpers and EqualRecords. -/
namespace Go.Proofs.Ytlaejcacembjiaa
open Go.RowKit Go.Sort

def vrec (k : Int) (nm : ByteArray) (ver : Int) (v : Value) : Value := .agg #[.int .i64 k, .string nm, .int .i64 ver, v]
/-- what is left of the size of a record -/
def szR (n m : Nat) (left : Int) : Int := if szN n left < 0 then -1 else szN m (szN n left)
end Go.Proofs.Ytlaejcacembjiaa

/- The laws' marks on records and logs by value. -/
namespace Go.Proofs.Ytlaejcacembjiaa
open Go.RowKit Go.Sort

theorem Own.alloc' {e : TypeId} {size : Nat} {w0 w : World} {v : Value} {n : Nat} {xs : List Value} (h : Own e size w0 w v n xs) (o : Obj) : Own e size w0 (w.alloc o) v n xs := World.ownsRow.alloc h o

set_option maxHeartbeats 400000 in
theorem markLog_c (st : Int) (A : Option Addr) (n c : Nat) (k : Int) (xs : List Value) (w0 w : World) (ho : Own 5 1 w0 w (.slice A n c) n xs) (hk : 0 ≤ k) (hk2 : k + n ≤ 1099511627776) :
    Calls Try.prog 76 #[(vlog (.slice A n c) st), .int .i64 k] w fun e w' => e = .returned (.int .i64 (k + n)) ∧ Own 5 1 w0 w' (.slice A n c) n ((List.range n).map (mk8 k)) ∧ w.grownBy w' (Value.slice A n c).ownBlock := by
  have C := Lib.hid (markByteS_c A n c k xs w0 (w.alloc (.cells #[.slice A n c, .int .i64 st] 51)) (ho.alloc' _) hk hk2)
  have G := Lib.hid (World.grownBy_alloc w (.cells #[.slice A n c, .int .i64 st] 51) (Value.slice A n c).ownBlock)
  clear ho
  unfold vlog at *
  go_enter Try.func76, Try.ntmps76
  go_wp2_with fail
  refine C.out.mono ?_; rintro _ w1 ⟨rfl, ho1, hg1⟩
  have H1 := Lib.hid ho1; have H3 := Lib.hid hg1
  clear ho1 hg1
  go_wp2
  go_ret
  exact ⟨rfl, H1.out, G.out.trans H3.out⟩

set_option maxHeartbeats 400000 in
theorem heldLog_c (st : Int) (A : Option Addr) (n c : Nat) (k : Int) (w : World) (h : Rd (mk8 k) w A (List.range n) c) (hk : 0 ≤ k) (hk2 : k + n ≤ 1099511627776) :
    Gives Try.prog 77 #[(vlog (.slice A n c) st), .int .i64 k] w (.int .i64 (k + n)) := by
  have C := Lib.hid (fun w h => heldByteS_c A n c k w h hk hk2)
  unfold vlog at *
  go_enter Try.func77, Try.ntmps77
  go_wp2_with fail
  refine (C.out _ (h.ext (Ext_alloc _ (Ext.refl w)))).mono ?_; rintro _ w1 ⟨rfl, he1⟩
  go_wp2
  go_ret
  exact ⟨rfl, (Ext_alloc _ (Ext.refl w)).trans he1⟩
end Go.Proofs.Ytlaejcacembjiaa

/- The laws' marks on archives, with what they leave; the same tested; the copy of a law's own. -/
namespace Go.Proofs.Ytlaejcacembjiaa
open Go.RowKit Go.Sort

/-- an archive copied by a law: the registry's blocks first -/
structure AMade (lo hi : Nat) (w : World) (v : Value) (qs : List (Value × List RV)) (u : Value) (l : List UInt8) : Prop where
  own : ∃ (mid : Nat) (w1 : World), lo ≤ mid ∧ mid ≤ hi ∧ hi ≤ w.heap.size ∧ w1.heap.size = mid ∧ GMade lo mid w v qs ∧ OwnL vu8 5 w1 w u l ∧ ∀ g, u.ownBlock = some g → g < hi
theorem AMade.ext {lo hi : Nat} {w w' : World} {v : Value} {qs : List (Value × List RV)} {u : Value} {l : List UInt8} (h : AMade lo hi w v qs u l) (e : Ext w w') : AMade lo hi w' v qs u l :=
  let ⟨mid, w1, a, b, s, c, d, f, g⟩ := h.own; ⟨mid, w1, a, b, Nat.le_trans s e.size, c, d.ext e, OwnL.ext f e, g⟩
theorem AMade.wrote {lo hi lo' hi' : Nat} {w w' : World} {v : Value} {qs : List (Value × List RV)} {u : Value} {l : List UInt8} (h : AMade lo hi w v qs u l) (hw : Wrote lo' hi' w w') (hd : hi ≤ lo' ∨ hi' ≤ lo) : AMade lo hi w' v qs u l :=
  let ⟨mid, w1, a, b, s, c, d, f, g⟩ := h.own
  ⟨mid, w1, a, b, Nat.le_trans s hw.size, c, d.wrote hw (by omega), OwnL.wrote f hw (fun k hk => by have := g k hk; have := (World.ownsRow.lt f k hk).1; omega), g⟩
theorem AMade.of {w w1 w2 : World} {v u : Value} {qs : List (Value × List RV)} {l : List UInt8} (e1 : Ext w w1) (h : OwnG w w2 v qs) (hb : ∀ x ∈ v :: (qs.flatMap fun q => q.1 :: q.2.flatMap RV.vals), ∀ b, x.ownBlock = some b → b < w1.heap.size) (h2 : OwnL vu8 5 w1 w2 u l) (hs : w1.heap.size ≤ w2.heap.size) : AMade w.heap.size w2.heap.size w2 v qs u l :=
  ⟨w1.heap.size, w1, e1.size, hs, Nat.le_refl _, rfl, ⟨⟨w, rfl, h⟩, fun x hx b hg => ⟨(h.block x hx b hg).1, hb x hx b hg⟩⟩, h2, fun g hg => (World.ownsRow.lt h2 g hg).2⟩
structure AMarked (lo hi : Nat) (w : World) (v : Value) (qs : List (Value × List RV)) (u : Value) (n k : Nat) : Prop where
  own : ∃ (mid : Nat) (w1 : World), GMarked lo mid w v qs k ∧ Own 5 1 w1 w u n ((List.range n).map (mk8 (kEndG k qs : Nat)))
theorem AMarked.ext {lo hi : Nat} {w w' : World} {v : Value} {qs : List (Value × List RV)} {u : Value} {n k : Nat} (h : AMarked lo hi w v qs u n k) (e : Ext w w') : AMarked lo hi w' v qs u n k :=
  let ⟨mid, w1, a, b⟩ := h.own; ⟨mid, w1, a.ext e, Own.ext b e⟩
theorem GMarked.wrote {lo hi lo' hi' : Nat} {w w' : World} {v : Value} {qs : List (Value × List RV)} {k : Nat} (h : GMarked lo hi w v qs k) (hw : Wrote lo' hi' w w') (hb : ∀ x ∈ v :: (qs.flatMap fun q => q.1 :: q.2.flatMap RV.vals), ∀ b, x.ownBlock = some b → b < lo') : GMarked lo hi w' v qs k :=
  let ⟨w0, a, b, c⟩ := h.own
  ⟨w0, a, Own.wrote b hw (fun g hg => .inl (hb v (List.mem_cons_self ..) g hg)), fun i hi => (c i hi).wroteB (B := fun g => lo' ≤ g) ⟨hw.os, hw.tape, hw.output, hw.size, fun k hk hB => hw.block k hk (.inl (by omega))⟩ (fun u hu g hg => by have := hb u (List.mem_cons_of_mem _ (List.mem_flatMap.2 ⟨_, List.getElem_mem hi, hu⟩)) g hg; omega)⟩
set_option maxRecDepth 100000 in
set_option maxHeartbeats 2000000 in
theorem markArchK_c (A : Option Addr) (n c : Nat) (qs : List (Value × List RV)) (L : Option Addr) (m e : Nat) (s : Int) (k : Nat) (lo hi : Nat) (w : World) (hn : n = qs.length) {xs : List UInt8} (hmx : m = xs.length) (h : AMade lo hi w (.slice A n c) qs (.slice L m e) xs) (hz : szG (descsOf qs) ≤ 1048577) (hm : m ≤ 1048577) (hk : 0 < k) (hk2 : k ≤ 100000000) :
    Calls Try.prog 26 #[varch (.slice A n c) (.slice L m e) s, .int .i64 k] w fun e' w' => e' = .returned (.int .i64 (kEndG k qs + m : Nat)) ∧ AMarked lo hi w' (.slice A n c) qs (.slice L m e) m k ∧ Wrote lo hi w w' := by
  obtain ⟨mid, w1, a1, a2, a8, a3, a4, a5, a6⟩ := h.own
  unfold OwnL at a5
  generalize xs.map vu8 = ys at a5
  rw [← hmx] at a5
  clear h hmx
  have eb := Ext_alloc (.cells #[.slice A n c, .slice L m e, .int .i64 s] 53) (Ext.refl w)
  have B0 := Box.new w #[.slice A n c, .slice L m e, .int .i64 s] 53
  have HKE : kEndG k qs ≤ 200000000 := by have := kEndG_le k qs; unfold szG at hz; omega
  have hn2 := hn
  have C := Lib.hid (markRegK_c A n c qs k lo mid _ hn (a4.ext eb) hz hk hk2)
  have C2 := Lib.hid (fun (w' : World) ys ho => markLog_c s L m e (kEndG k qs : Nat) ys w1 w' ho (by omega) (by omega))
  have HBLK := Lib.hid a4.blk
  have HOW : Hid (∀ w', Wrote lo mid (w.alloc (.cells #[.slice A n c, .slice L m e, .int .i64 s] 53)) w' → Own 5 1 w1 w' (.slice L m e) m ys) := fun w' hw => Own.wrote (Own.ext a5 eb) hw (fun g hg => by have := (World.ownsRow.lt a5 g hg).1; omega)
  have HBX : Hid (∀ w', Wrote lo mid (w.alloc (.cells #[.slice A n c, .slice L m e, .int .i64 s] 53)) w' → Box w' w.heap.size #[.slice A n c, .slice L m e, .int .i64 s] 53) := fun w' hw => Box.wrote B0 hw (.inr (by omega))
  have H6 := Lib.hid a6
  have HW1 := Lib.hid a3
  have HEB := Lib.hid eb
  have c0 := B0.cell
  clear hz hn a4 a5 a6 B0 eb a3
  unfold vdesc vlog at *
  unfold varch
  obtain ⟨K, hK⟩ : ∃ K, kEndG k qs = K := ⟨_, rfl⟩
  have HK := Lib.hid hK
  rw [hK] at C C2 HKE ⊢
  clear hK hn2
  go_enter Try.func26, Try.ntmps26
  go_wp2_with fail
  refine C.out.mono ?_; rintro _ w2 ⟨rfl, hm2, hw2⟩
  have HM2 := Lib.hid hm2; have HW2 := Lib.hid hw2
  have b2 := (HBX.out _ hw2).cell
  have O2 := HOW.out _ hw2
  clear hm2 hw2 c0 HBX HOW
  go_wp2_with fail
  refine (C2.out _ _ O2).mono ?_; rintro _ w3 ⟨rfl, ho3, hg3⟩
  have HO3 := Lib.hid ho3
  have W3 : Hid (Wrote mid hi w2 w3) := Wrote.grown hg3 (fun g hg => ⟨by have := (World.ownsRow.lt O2 g hg).1; have := HW1.out; omega, H6.out g hg⟩)
  clear ho3 hg3 O2 b2
  go_wp2
  go_ret
  exact ⟨ret_i64 (by omega), ⟨mid, w1, GMarked.wrote HM2.out W3.out (fun x hx b hb => (HBLK.out x hx b hb).2), by rw [HK.out]; exact HO3.out⟩, ((Wrote.ext (lo := lo) (hi := hi) HEB.out).trans (HW2.out.mono (Nat.le_refl _) a2)).trans (W3.out.mono a1 (Nat.le_refl _))⟩
theorem markArch_c (A : Option Addr) (n c : Nat) (qs : List (Value × List RV)) (L : Option Addr) (m e : Nat) (s : Int) (k : Nat) (lo hi : Nat) (w : World) (hn : n = qs.length) {xs : List UInt8} (hmx : m = xs.length) (h : AMade lo hi w (.slice A n c) qs (.slice L m e) xs) (hz : szG (descsOf qs) ≤ 1048576) (hm : m ≤ 1048576) (hk : 0 < k) (hk2 : k ≤ 100000000) :
    Calls Try.prog 26 #[varch (.slice A n c) (.slice L m e) s, .int .i64 k] w fun e' w' => ∃ k' : Nat, k ≤ k' ∧ k' ≤ k + 10000000 ∧ e' = .returned (.int .i64 k') ∧ Wrote lo hi w w' :=
  (markArchK_c A n c qs L m e s k lo hi w hn hmx h (by omega) (by omega) hk hk2).mono fun _ _ ⟨a, _, b⟩ => ⟨_, by have := kEndG_ge k qs; omega, by have := kEndG_le k qs; unfold szG at hz; omega, a, b⟩
set_option maxRecDepth 100000 in
set_option maxHeartbeats 2000000 in
theorem heldArch_c (A : Option Addr) (n c : Nat) (qs : List (Value × List RV)) (L : Option Addr) (m e : Nat) (s : Int) (k : Nat) (lo hi : Nat) (w : World) (hnq : n = qs.length) (h : AMarked lo hi w (.slice A n c) qs (.slice L m e) m k) (hz : ∀ q ∈ qs, ∀ p ∈ q.2, ShortR p.r) (hk : 0 < k) (hkE : kEndG k qs ≤ 200000000) (hn : qs.length ≤ 1048577) (hm : m ≤ 1048577) :
    Gives Try.prog 27 #[varch (.slice A n c) (.slice L m e) s, .int .i64 k] w (.int .i64 (kEndG k qs + m : Nat)) := by
  obtain ⟨mid, w1, a1, a2⟩ := h.own
  have eb := Ext_alloc (.cells #[.slice A n c, .slice L m e, .int .i64 s] 53) (Ext.refl w)
  have B0 := fun w' (e : Ext (w.alloc (.cells #[.slice A n c, .slice L m e, .int .i64 s] 53)) w') => boxed e
  have C := Lib.hid (heldReg_c A n c qs k lo mid _ hnq (a1.ext eb) hz hk hkE hn)
  have R2 := Lib.hid ((Own.mk_rd a2 (by omega)).ext eb)
  have C2 := Lib.hid (fun w' h => heldLog_c s L m e (kEndG k qs : Nat) w' h (by omega) (by omega))
  clear hz hn hnq a1 a2 h
  unfold vdesc vlog at *
  unfold varch
  obtain ⟨K, hK⟩ : ∃ K, kEndG k qs = K := ⟨_, rfl⟩
  rw [hK] at C C2 R2 hkE ⊢
  clear hK
  have d1 : decide ((K : Int) < 0) = false := decide_eq_false (by omega)
  have d2 : decide ((K : Int) + (m : Int) < 0) = false := decide_eq_false (by omega)
  go_enter Try.func27, Try.ntmps27
  go_wp2_with fail
  refine C.out.mono ?_; rintro _ w2 ⟨rfl, s2⟩
  replace B0 := fun w' (e : Ext w2 w') => B0 w' (Ext.trans s2 e)
  go_wp2_with fail
  refine (C2.out _ (R2.out.ext s2)).mono ?_; rintro _ w3 ⟨rfl, s3⟩
  go_wp2
  go_ret
  exact ⟨ret_i64 (by omega), (eb.trans s2).trans s3⟩
set_option maxRecDepth 100000 in
set_option maxHeartbeats 4000000 in
theorem toArch_o (A : Option Addr) (gs : List (List DRule)) (c : Nat) (L : Option Addr) (l : List UInt8) (k : Nat) (s : Int) (w : World) (h : RdA w A gs c L l k) (hz : szA gs l ≤ 1048576) :
    Calls Try.prog 23 #[varch (.slice A gs.length c) (.slice L l.length k) s] w fun e w' => ∃ A1 c1 A2 c2 qs, e = .returned (varch (.slice A1 gs.length c1) (.slice A2 l.length c2) s) ∧ RdA w' A1 gs c1 A2 l c2 ∧ descsOf qs = gs ∧ AMade w.heap.size w'.heap.size w' (.slice A1 gs.length c1) qs (.slice A2 l.length c2) l ∧ Ext w w' := by
  have hg : szG gs ≤ 1048576 := by unfold szA at hz; omega
  have hl : l.length ≤ 1048576 := by unfold szA at hz; omega
  have C1 := Lib.hid (fun w h => toRegistry_c A gs c w h hg)
  have C2 := Lib.hid (fun w h => toLog_c L l k s w h hl)
  have HZ := Lib.hid hg
  obtain ⟨W0, HW0, HA, HR, HO, eA, hsA⟩ := boxes3' w #[.slice A gs.length c, .slice L l.length k, .int .i64 s] #[.slice none 0 0, .slice none 0 0, .int .i64 0] #[.slice none 0 0, .slice none 0 0, .int .i64 0] 49 53 53
  have HSA := Lib.hid hsA
  have HA0 := Lib.hid HA; have HR0 := Lib.hid HR; have HO0 := Lib.hid HO; clear HA HR HO hsA
  unfold vdesc at C1
  unfold vlog at C2
  unfold varch
  go_enter Try.func23, Try.ntmps23
  go_wp2_with fail
  rw [← HW0.out]
  refine (C1.out _ (h.g.ext eA)).mono ?_; rintro _ w1 ⟨v1, qs, rfl, hqs, ho1, he1⟩
  subst hqs
  have hlq : (descsOf qs).length = qs.length := by simp [descsOf]
  obtain ⟨A1, c1, rfl⟩ := ho1.shape
  have a1 := (HA0.out.ext he1).cell; have p1 := (HO0.out.ext he1).cell; have q1 := (HO0.out.ext he1).free
  have hs1 := he1.size
  have g1 := ho1.block
  have O1 := Lib.hid (ho1.keep (grown_set w1 ⟨w.heap.size + 1 + 1, 0, none⟩ (.slice A1 qs.length c1)) (by intro u hu g hg' he'; have := g1 u hu g hg'; have := HSA.out; injection he' with he'; simp only at he'; omega))
  have HA1 := Lib.hid ((HA0.out.ext he1).other (g' := w.heap.size + 1 + 1) (by omega) 0 (.slice A1 qs.length c1)); have HR1 := Lib.hid ((HR0.out.ext he1).other (g' := w.heap.size + 1 + 1) (by omega) 0 (.slice A1 qs.length c1)); have HO1 := Lib.hid ((HO0.out.ext he1).set 0 (.slice A1 qs.length c1))
  have e1 := (eA.trans he1).setCell (p := ⟨w.heap.size + 1 + 1, 0, none⟩) (by show w.heap.size ≤ w.heap.size + 1 + 1; omega) (.slice A1 qs.length c1)
  have S1 : w1.heap.size ≤ (w1.setCell ⟨w.heap.size + 1 + 1, 0, none⟩ (.slice A1 qs.length c1)).heap.size := by simp
  have G1 := Lib.hid g1
  clear ho1 g1 HA0 HO0 HR0 eA
  go_wp2_with fail
  generalize w1.setCell ⟨w.heap.size + 1 + 1, 0, none⟩ (.slice A1 qs.length c1) = W1 at *
  clear a1 p1 q1
  refine (C2.out _ (h.l.ext e1)).mono ?_; rintro _ w2 ⟨v2, rfl, ho2, he2⟩
  obtain ⟨A2, c2, rfl, _⟩ := OwnL.rd ho2 (by omega)
  have p2 := (HO1.out.ext he2).cell; have q2 := (HO1.out.ext he2).free; have r2 := (HR1.out.ext he2).cell; have t2 := (HR1.out.ext he2).free
  have hs2 := he2.size
  have HO2 := Lib.hid ho2
  have O2 := Lib.hid (O1.out.ext he2)
  have e2 := e1.trans he2
  clear ho2 O1 he2 he1
  go_wp2
  have z0 := HSA.out
  have gr : ∀ (W : World) (x y : Value), W.grownBy ((W.setCell ⟨w.heap.size + 1 + 1, 1, none⟩ x).setCell ⟨w.heap.size + 1 + 1, 2, none⟩ y) (some (w.heap.size + 1 + 1)) := fun W x y => (grown_set W ⟨w.heap.size + 1 + 1, 1, none⟩ x).trans (grown_set _ ⟨w.heap.size + 1 + 1, 2, none⟩ y)
  have gs' : ∀ (W : World) (x y z : Value), W.grownBy (((W.setCell ⟨w.heap.size + 1, 0, none⟩ x).setCell ⟨w.heap.size + 1, 1, none⟩ y).setCell ⟨w.heap.size + 1, 2, none⟩ z) (some (w.heap.size + 1)) := fun W x y z => ((grown_set W ⟨w.heap.size + 1, 0, none⟩ x).trans (grown_set _ ⟨w.heap.size + 1, 1, none⟩ y)).trans (grown_set _ ⟨w.heap.size + 1, 2, none⟩ z)
  have OG := (O2.out.keep (gr w2 (.slice A2 l.length c2) (.int .i64 s)) (by intro u hu g hg' he'; have := G1.out u hu g hg'; injection he' with he'; omega)).keep (gs' _ (.slice A1 qs.length c1) (.slice A2 l.length c2) (.int .i64 s)) (by intro u hu g hg' he'; have := G1.out u hu g hg'; injection he' with he'; omega)
  have OL := (HO2.out.keep (gr w2 (.slice A2 l.length c2) (.int .i64 s)) (by intro g hg' he'; have := World.ownsRow.lt HO2.out g hg'; injection he' with he'; omega)).keep (gs' _ (.slice A1 qs.length c1) (.slice A2 l.length c2) (.int .i64 s)) (by intro g hg' he'; have := World.ownsRow.lt HO2.out g hg'; injection he' with he'; omega)
  have hq : ∀ q ∈ qs, szD (rulesOf q.2) ≤ 1048576 := fun q hq => szG_mem HZ.out (List.mem_map_of_mem (f := fun q : Value × List RV => rulesOf q.2) hq)
  obtain ⟨A3, c3, hv3, R3⟩ := OG.rd (by have := HZ.out; unfold szG at this; rw [hlq] at this; omega) (fun q h => (OwnD.short (hq q h)).1) (fun q h => (OwnD.short (hq q h)).2)
  rw [hlq] at hv3
  injection hv3 with i1 _ i2
  subst i1; subst i2
  obtain ⟨A4, c4, hv4, R4⟩ := OwnL.rd OL (by omega)
  injection hv4 with i1 _ i2
  subst i1; subst i2
  refine bodyPost_ret (v := .agg #[.slice A1 qs.length c1, .slice A2 l.length c2, .int .i64 s]) (by simp [results, Try.results23, go_sem, p2, q2, r2, t2]) rfl ⟨A1, c1, A2, c2, qs, by rw [hlq], ⟨R3, R4.1⟩, rfl, ?_, ?_⟩
  · rw [hlq]; exact AMade.of (w := w) (w1 := W1) e1 (OG.down (by omega)) (fun x hx b hb => by have := (G1.out x hx b hb).2; omega) OL (by simp only [World.size_setCell]; omega)
  · exact (e2.grown (gr w2 _ _) (fun g hg => by injection hg with hg; omega)).grown (gs' _ _ _ _) (fun g hg => by injection hg with hg; omega)
theorem gmade_rd {lo hi : Nat} {w : World} {A : Option Addr} {c : Nat} {qs : List (Value × List RV)} {R : List (List DRule)} (h : GMade lo hi w (.slice A R.length c) qs) (hq : descsOf qs = R) (hz : szG R ≤ 1048577) (hs : ShortG R) : RdG w A R c := by
  obtain ⟨w0, _, h1⟩ := h.own
  obtain ⟨B1, B2⟩ := szG_lens hz
  exact h1.rd' hq rfl (by omega) (fun d hd => by have := B2 d hd; omega) hs
theorem amade_rd {lo hi : Nat} {w : World} {A L : Option Addr} {c e : Nat} {qs : List (Value × List RV)} {R : List (List DRule)} {l : List UInt8} (h : AMade lo hi w (.slice A R.length c) qs (.slice L l.length e) l) (hq : descsOf qs = R) (hz : szA R l ≤ 1048577) (hs : ShortA R l) : RdA w A R c L l e := by
  obtain ⟨mid, w1, _, _, _, _, h4, h5, _⟩ := h.own
  unfold szA at hz
  refine ⟨gmade_rd h4 hq (by omega) hs.g, ?_⟩
  obtain ⟨A4, c4, hv4, R4⟩ := OwnL.rd h5 (by omega)
  injection hv4 with i1 _ i2
  subst i1; subst i2
  exact R4.1
end Go.Proofs.Ytlaejcacembjiaa

/- The walk of the law on AddVersion. -/
namespace Go.Proofs.Ytlaejcacembjiaa
open Go.RowKit Go.Sort

theorem szG_add {gs : List (List DRule)} {d : List DRule} (h : szG gs + szD d ≤ 1048576) : szG (addG gs d) ≤ 1048577 := by
  unfold addG; split
  · unfold szG at *; rw [List.length_append, List.map_append, List.sum_append]; simp only [List.length_singleton, List.map_cons, List.map_nil, List.sum_cons, List.sum_nil]; omega
  · omega
theorem short_add {gs : List (List DRule)} {d : List DRule} (h : ShortG gs) (h2 : ShortD d) : ShortG (addG gs d) := by
  unfold addG; split
  · exact short_snoc h h2
  · exact h
theorem add_post {e : Ending} {w w' : World} {gs : List (List DRule)} {d : List DRule} (hz : szG (addG gs d) ≤ 1048577) (hs : ShortG (addG gs d))
    (h : ∃ v ps, e = .returned (.tuple #[vdesc v, .bool (addOk gs d)]) ∧ descsOf ps = addG gs d ∧ OwnG w w' v ps ∧ Ext w w') :
    ∃ A1 c1 ps, e = .returned (.tuple #[.agg #[.slice A1 (addG gs d).length c1], .bool (addOk gs d)]) ∧ RdG w' A1 (addG gs d) c1 ∧ descsOf ps = addG gs d ∧ GMade w.heap.size w'.heap.size w' (.slice A1 (addG gs d).length c1) ps ∧ Ext w w' := by
  obtain ⟨v, ps, he, hp, ho, hx⟩ := h
  obtain ⟨A1, c1, rfl⟩ := ho.shape
  have hl : ps.length = (addG gs d).length := by rw [← hp]; simp [descsOf]
  obtain ⟨B1, B2⟩ := szG_lens hz
  have hr := ho.rd' hp hl (by omega) (fun q hq => by have := B2 q hq; omega) hs
  rw [hl] at ho he
  exact ⟨A1, c1, ps, he, hr, hp, ⟨⟨w, rfl, ho⟩, ho.block⟩, hx⟩
/-- Ext, as the held condition of a region: kept apart from the contracts' own -/
structure HExt (a b : World) : Prop where
  e : Ext a b
/-- what a region leaves that lays a call's registry in a new variable -/
def RegVar (w2 wx : World) (g : Nat) (R : List (List DRule)) : Prop := ∃ A c, w2.heap.size ≤ g ∧ RdG wx A R c ∧ wx.cell? ⟨g, 0, none⟩ = some (.slice A R.length c) ∧ Ext w2 wx
theorem RegVar.stored {w2 w5 : World} {lo hi g : Nat} {A : Option Addr} {R : List (List DRule)} {ps : List (Value × List RV)} {c : Nat} (hz : w2.heap.size ≤ g) (hg : g < lo) (hm : GMade lo hi w5 (.slice A R.length c) ps) (hp : descsOf ps = R) (hsz : szG R ≤ 1048577) (hs : ShortG R)
    (hc : w5.cell? ⟨g, 0, none⟩ = #[Value.slice none 0 0][0]?) (e : Ext w2 w5) : RegVar w2 (w5.setCell ⟨g, 0, none⟩ (.slice A R.length c)) g R := by
  obtain ⟨w0, h0, h1⟩ := hm.own
  have h2 := h1.keep (grown_set w5 ⟨g, 0, none⟩ (.slice A R.length c)) (fun u hu b hb hh => by have := (h1.block u hu b hb).1; injection hh with hh; simp only at hh; omega)
  exact ⟨A, c, hz, gmade_rd ⟨⟨w0, h0, h2⟩, hm.blk⟩ hp hsz hs, World.cell?_setCell_same _ _ _ hc, e.setCell hz _⟩
theorem RegVar.new {w2 w5 : World} {A : Option Addr} {R : List (List DRule)} {c : Nat} {T : TypeId} (hr : RdG w5 A R c) (e : Ext w2 w5) : RegVar w2 (w5.alloc (.cells #[.slice A R.length c] T)) w5.heap.size R :=
  ⟨A, c, e.size, hr.ext (Ext_alloc _ (Ext.refl _)), boxed (Ext.refl _) 0, Ext_alloc _ e⟩
set_option maxRecDepth 100000 in
set_option maxHeartbeats 8000000 in
theorem lawAddVersion_c (A0 : Option Addr) (ds0 : List (List DRule)) (c0 : Nat) (A1 : Option Addr) (ds1 : List DRule) (c1 : Nat) (w : World) (h0 : RdG w A0 ds0 c0) (hw0 : WfG ds0) (h1 : RdD w A1 ds1 c1) (hw1 : WfD ds1) :
    Gives Try.prog 3 #[vdesc (.slice A0 ds0.length c0), vdesc (.slice A1 ds1.length c1)] w (.bool true) := by
  have eb := (Ext_alloc (.cells #[.slice A1 ds1.length c1] 27) (Ext_alloc (.cells #[.slice A0 ds0.length c0] 24) (Ext.refl w)))
  have BX := fun w' (e : Ext ((w.alloc (.cells #[.slice A0 ds0.length c0] 24)).alloc (.cells #[.slice A1 ds1.length c1] 27)) w') => boxed2 e
  have B0 := fun w' e => (BX w' e).1; have B1 := fun w' e => (BX w' e).2.1; clear BX
  have Z0 := Lib.hid (fun left w h h0 h1 => szRegistry_c A0 ds0 c0 left w h hw0 h0 h1)
  have T0 := Lib.hid (fun w h hz => toReg_r A0 ds0 c0 w h hz); have TO0 := Lib.hid (fun w h hz => toReg_o A0 ds0 c0 w h hz)
  have Z1 := Lib.hid (fun left w h h0 h1 => szDescription_c A1 ds1 c1 left w h hw1 h0 h1)
  have T1 := Lib.hid (fun w h hz => toDesc_r A1 ds1 c1 w h hz); have TO1 := Lib.hid (fun w h hz => toDesc_o A1 ds1 c1 w h hz)
  have hsum : ¬ szN (szG ds0) 1048576 < 0 → ¬ szN (szD ds1) (szN (szG ds0) 1048576) < 0 → (szG ds0) + (szD ds1) ≤ 1048576 := fun a b => by have := szN_ge a; have := szN_ge b; omega
  have hz0 := szN_lo (szG ds0) (1048576)
  have hx0 : ¬ szN (szG ds0) (1048576) < 0 → (1048576 : Int) ≤ 1048576 → (szG ds0) ≤ 1048576 := fun a b => szN_small a b
  generalize hzz0 : szN (szG ds0) (1048576) = z0 at *
  have HZ0 := Lib.hid hzz0; clear hzz0
  have hz1 := szN_lo (szD ds1) (z0)
  have hx1 : ¬ szN (szD ds1) (z0) < 0 → (z0 : Int) ≤ 1048576 → (szD ds1) ≤ 1048576 := fun a b => szN_small a b
  generalize hzz1 : szN (szD ds1) (z0) = z1 at *
  have HZ1 := Lib.hid hzz1; clear hzz1
  unfold vdesc at *
  go_enter Try.func3, Try.ntmps3
  go_wp2_with fail
  refine (Z0.out _ _ (h0.ext eb) (by omega) (by omega)).mono ?_; rintro _ wz0 ⟨rfl, sz0⟩
  rw [HZ0.out]
  replace B0 := fun w' (e : Ext _ w') => B0 w' (Ext.trans sz0 e)
  replace B1 := fun w' (e : Ext _ w') => B1 w' (Ext.trans sz0 e)
  replace eb := eb.trans sz0; clear sz0
  by_cases d0 : z0 < 0
  · go_wp2
    go_ret
    exact ⟨rfl, eb⟩
  have hl0 := hx0 (by omega) (by omega)
  go_wp2_with fail
  refine (Z1.out _ _ (h1.ext eb) (by omega) (by omega)).mono ?_; rintro _ wz1 ⟨rfl, sz1⟩
  rw [HZ1.out]
  replace B0 := fun w' (e : Ext _ w') => B0 w' (Ext.trans sz1 e)
  replace B1 := fun w' (e : Ext _ w') => B1 w' (Ext.trans sz1 e)
  replace eb := eb.trans sz1; clear sz1
  by_cases d1 : z1 < 0
  · go_wp2
    go_ret
    exact ⟨rfl, eb⟩
  have hl1 := hx1 (by omega) (by omega)
  have U0 := Lib.hid (fun w h => T0.out w h hl0); clear T0; have UO0 := Lib.hid (fun w h => TO0.out w h hl0); clear TO0; have SH0 := Lib.hid hl0; have SD0 := Lib.hid (shortG_of hl0)
  have U1 := Lib.hid (fun w h => T1.out w h hl1); clear T1; have UO1 := Lib.hid (fun w h => TO1.out w h hl1); clear TO1; have SH1 := Lib.hid hl1; have SD1 := Lib.hid (shortD_of hl1)
  have hlsum := hsum (by omega) (by omega); clear hsum
  obtain ⟨R, hR⟩ : ∃ R, R = addG ds0 ds1 := ⟨_, rfl⟩
  obtain ⟨ok, hok⟩ : ∃ ok, ok = addOk ds0 ds1 := ⟨_, rfl⟩
  have hzR : szG (addG ds0 ds1) ≤ 1048577 := szG_add (by omega)
  have hsR : ShortG (addG ds0 ds1) := short_add (shortG_of SH0.out) (shortD_of SH1.out)
  have CS : Hid (∀ A C w, RdG w A ds0 C → ∀ A' C', RdD w A' ds1 C' → Calls Try.prog 12 #[.agg #[.slice A ds0.length C], .agg #[.slice A' ds1.length C']] w fun e' w' => ∃ A1 c1 ps, e' = .returned (.tuple #[.agg #[.slice A1 R.length c1], .bool ok]) ∧ RdG w' A1 R c1 ∧ descsOf ps = R ∧ GMade w.heap.size w'.heap.size w' (.slice A1 R.length c1) ps ∧ Ext w w') := by
    rw [hR, hok]; exact fun A C w r A' C' r' => (sAdd_c A ds0 C A' ds1 C' w r r' SH0.out SH1.out hw0 hw1).mono fun _ _ h => add_post hzR hsR h
  have CI : Hid (∀ A C w, RdG w A ds0 C → ∀ A' C', RdD w A' ds1 C' → Calls Try.prog 15 #[.agg #[.slice A ds0.length C], .agg #[.slice A' ds1.length C']] w fun e' w' => ∃ A1 c1 ps, e' = .returned (.tuple #[.agg #[.slice A1 R.length c1], .bool ok]) ∧ RdG w' A1 R c1 ∧ descsOf ps = R ∧ GMade w.heap.size w'.heap.size w' (.slice A1 R.length c1) ps ∧ Ext w w') := by
    rw [hR, hok]; exact fun A C w r A' C' r' => (iAdd_c A ds0 C A' ds1 C' w r r' SH0.out SH1.out hw0 hw1).mono fun _ _ h => add_post hzR hsR h
  rw [← hR] at hzR hsR
  have SR := Lib.hid hsR; have SRg := Lib.hid hsR
  have HSZ := Lib.hid hzR
  have HMK : Hid (∀ psg, descsOf psg = R → szG (descsOf psg) ≤ 1048577) := fun psg h => by rw [h]; exact hzR
  have HRR : Hid (eqG R R = true) := eqG_refl _
  have hoo : (ok != ok) = false := by simp
  clear hR hok hzR hsR

  clear hz0 hx0 hl0 hz1 hx1 hl1 hlsum
  have CXB0 := Lib.hid B0; have B0h := fun w' (e : HExt wz1 w') => B0 w' e.e; clear B0
  have CXB1 := Lib.hid B1; have B1h := fun w' (e : HExt wz1 w') => B1 w' e.e; clear B1
  have BG := fun (W : World) w' (e : Ext (W.alloc (.cells #[.slice none 0 0] 32)) w') i => boxed e i
  have FG := fun (W : World) w' (e : Ext (W.alloc (.cells #[.slice none 0 0] 32)) w') i => boxed_free e i
  have BG2 := fun (W : World) w' (e : Ext (W.alloc (.cells #[.slice none 0 0] 32)).drew w') i => boxed ((Ext_drew (Ext.refl _)).trans e) i
  have FG2 := fun (W : World) w' (e : Ext (W.alloc (.cells #[.slice none 0 0] 32)).drew w') i => boxed_free ((Ext_drew (Ext.refl _)).trans e) i
  go_wp2_with fail
  go_cut [6, 7] (fun s6 s7 wx => ∃ g : Nat, s6 = .pointer (some ⟨g, 0, none⟩) ∧ s7 = .bool ok ∧ RegVar wz1 wx g R)
  case first =>
    go_region_held3 (fun w' => HExt wz1 w') (first | assumption | exact ⟨Ext_drew (Ext.refl _)⟩ | exact ⟨(HExt.e (by assumption)).trans (by assumption)⟩ | exact ⟨Ext_alloc _ (HExt.e (by assumption))⟩ | exact ⟨Ext_alloc _ (by assumption)⟩ | exact ⟨(HExt.e (by assumption)).setCell (by first | exact Nat.le_refl _ | assumption) _⟩) (first
      | (go_at_call 13; (with_reducible refine (U0.out _ ?_).mono ?_); (exact h0.ext (eb.trans (HExt.e (by assumption)))); rintro _ w3 ⟨A3, C3, rfl, r3, he3⟩; have z3 : wz1.heap.size ≤ w3.heap.size := ((HExt.e (by assumption)).trans he3).size; (try (have he43 := he4.trans he3)))
      | (go_at_call 14; (with_reducible refine (U1.out _ ?_).mono ?_); (exact h1.ext (eb.trans (HExt.e (by assumption)))); rintro _ w4 ⟨A4, C4, rfl, r4, he4⟩; have z4 : wz1.heap.size ≤ w4.heap.size := ((HExt.e (by assumption)).trans he4).size; (try (have he34 := he3.trans he4)))
      | (go_at_call 12; refine (CS.out _ _ _ (r3.ext (by repeat (first | exact Ext.refl _ | assumption | refine Ext_alloc _ ?_ | refine Ext.trans ?_ (by assumption)))) _ _ (r4.ext (by repeat (first | exact Ext.refl _ | assumption | refine Ext_alloc _ ?_ | refine Ext.trans ?_ (by assumption))))).mono ?_; rintro _ w5 ⟨A5, C5, ps5, rfl, r5, hp5, m5, he5⟩; have y5 : Ext wz1 w5 := (HExt.e (by assumption)).trans he5; (try (have x1 := he3.trans he5)); (try (have x2 := he4.trans he5)); (try (have x3 := he34.trans he5)); (try (have x4 := he43.trans he5))))
    all_goals
      go_wp2_with fail
      go_meet
      first
        | exact ⟨_, rfl, rfl, RegVar.new r5 y5⟩
        | exact ⟨_, rfl, rfl, RegVar.stored z4 (by simp) m5 hp5 HSZ.out SR.out (BG _ _ he5 0) y5⟩
        | exact ⟨_, rfl, rfl, RegVar.stored z3 (by have := he4.size; simp at this; omega) m5 hp5 HSZ.out SR.out (BG _ _ x2 0) y5⟩
        | exact ⟨_, rfl, rfl, RegVar.stored (Nat.le_refl _) (by have := he34.size; simp at this; omega) m5 hp5 HSZ.out SR.out (BG2 _ _ x3 0) y5⟩
  case rest =>
    obtain ⟨gs, rfl, rfl, As, Cs, hzs, qs, ds, es⟩ := hcut
    have hgs := block_lt_of_cell ds
    have B0 := CXB0.out; clear CXB0 B0h
    have B1 := CXB1.out; clear CXB1 B1h
    have Bs := fun w' (e : Ext wc w') => (e.cell (p := ⟨gs, 0, none⟩) hgs).trans ds
    clear ds BG FG BG2 FG2
    replace B0 := fun w' (e : Ext _ w') => B0 w' (Ext.trans es e)
    replace B1 := fun w' (e : Ext _ w') => B1 w' (Ext.trans es e)
    replace eb := eb.trans es; clear es
    have EB := Lib.hid eb; have QS := Lib.hid qs; have CB0 := Lib.hid B0; have CB1 := Lib.hid B1; have CBs := Lib.hid Bs
    have E0 := Ext.refl wc
    go_wp2_with fail
    refine (UO0.out _ (h0.ext eb)).mono ?_; rintro _ wx0 ⟨AP0, CP0, ps0, rfl, rx0, hp0, dm0, sx0⟩
    have hlo0 := Lib.hid E0.size; have hhi0 := Lib.hid sx0.size; have hp0 := Lib.hid hp0
    replace B0 := fun w' (e : Ext _ w') => B0 w' (Ext.trans sx0 e)
    replace B1 := fun w' (e : Ext _ w') => B1 w' (Ext.trans sx0 e)
    replace Bs := fun w' (e : Ext _ w') => Bs w' (Ext.trans sx0 e)
    replace qs := qs.ext sx0
    replace eb := eb.trans sx0; replace E0 := E0.trans sx0; clear sx0
    have Bx0 := fun w' (e : Ext (wx0.alloc (.cells #[.slice AP0 ds0.length CP0] 32)) w') => boxed e
    have tx0 := Ext_alloc (.cells #[.slice AP0 ds0.length CP0] 32) (Ext.refl wx0)
    have bx0 := Box.new wx0 #[.slice AP0 ds0.length CP0] 32
    have halx0 : (wx0.alloc (.cells #[.slice AP0 ds0.length CP0] 32)).heap.size = wx0.heap.size + 1 := by simp
    have halx0 := Lib.hid halx0
    replace B0 := fun w' (e : Ext _ w') => B0 w' (Ext.trans tx0 e)
    replace B1 := fun w' (e : Ext _ w') => B1 w' (Ext.trans tx0 e)
    replace Bs := fun w' (e : Ext _ w') => Bs w' (Ext.trans tx0 e)
    replace qs := qs.ext tx0
    replace rx0 := rx0.ext tx0
    replace dm0 := dm0.ext tx0
    replace eb := eb.trans tx0; replace E0 := E0.trans tx0; clear tx0
    go_wp2_with fail
    refine (UO1.out _ (h1.ext eb)).mono ?_; rintro _ wx1 ⟨AP1, CP1, ps1, rfl, rx1, hp1, dm1, sx1⟩
    have hlo1 := Lib.hid E0.size; have hhi1 := Lib.hid sx1.size; have hp1 := Lib.hid hp1
    replace B0 := fun w' (e : Ext _ w') => B0 w' (Ext.trans sx1 e)
    replace B1 := fun w' (e : Ext _ w') => B1 w' (Ext.trans sx1 e)
    replace Bs := fun w' (e : Ext _ w') => Bs w' (Ext.trans sx1 e)
    replace Bx0 := fun w' (e : Ext _ w') => Bx0 w' (Ext.trans sx1 e)
    replace qs := qs.ext sx1
    replace rx0 := rx0.ext sx1
    replace dm0 := dm0.ext sx1
    replace bx0 := bx0.ext sx1
    replace eb := eb.trans sx1; replace E0 := E0.trans sx1; clear sx1
    have Bx1 := fun w' (e : Ext (wx1.alloc (.cells #[.slice AP1 ds1.length CP1] 38)) w') => boxed e
    have tx1 := Ext_alloc (.cells #[.slice AP1 ds1.length CP1] 38) (Ext.refl wx1)
    have bx1 := Box.new wx1 #[.slice AP1 ds1.length CP1] 38
    have halx1 : (wx1.alloc (.cells #[.slice AP1 ds1.length CP1] 38)).heap.size = wx1.heap.size + 1 := by simp
    have halx1 := Lib.hid halx1
    replace B0 := fun w' (e : Ext _ w') => B0 w' (Ext.trans tx1 e)
    replace B1 := fun w' (e : Ext _ w') => B1 w' (Ext.trans tx1 e)
    replace Bs := fun w' (e : Ext _ w') => Bs w' (Ext.trans tx1 e)
    replace Bx0 := fun w' (e : Ext _ w') => Bx0 w' (Ext.trans tx1 e)
    replace qs := qs.ext tx1
    replace rx0 := rx0.ext tx1
    replace rx1 := rx1.ext tx1
    replace dm0 := dm0.ext tx1
    replace bx0 := bx0.ext tx1
    replace dm1 := dm1.ext tx1
    replace eb := eb.trans tx1; replace E0 := E0.trans tx1; clear tx1
    have hgl : (wx1.alloc (.cells #[.slice AP1 ds1.length CP1] 38)).heap.size ≤ (wx1.alloc (.cells #[.slice AP1 ds1.length CP1] 38)).heap.size := Nat.le_refl _
    have hgl := Lib.hid hgl
    go_wp2_with fail
    refine (CI.out _ _ _ rx0 _ _ rx1).mono ?_; rintro _ wg ⟨Ag, Cg, psg, rfl, qg, hpg, dg, sg⟩
    have hlog := Lib.hid E0.size; have hhig := Lib.hid sg.size; have hpg := Lib.hid hpg
    replace B0 := fun w' (e : Ext _ w') => B0 w' (Ext.trans sg e)
    replace B1 := fun w' (e : Ext _ w') => B1 w' (Ext.trans sg e)
    replace Bs := fun w' (e : Ext _ w') => Bs w' (Ext.trans sg e)
    replace Bx0 := fun w' (e : Ext _ w') => Bx0 w' (Ext.trans sg e)
    replace Bx1 := fun w' (e : Ext _ w') => Bx1 w' (Ext.trans sg e)
    replace qs := qs.ext sg
    replace rx0 := rx0.ext sg
    replace rx1 := rx1.ext sg
    replace dm0 := dm0.ext sg
    replace bx0 := bx0.ext sg
    replace dm1 := dm1.ext sg
    replace bx1 := bx1.ext sg
    replace eb := eb.trans sg; replace E0 := E0.trans sg; clear sg
    have Bg := fun w' (e : Ext (wg.alloc (.cells #[.slice Ag R.length Cg] 32)) w') => boxed e
    have tg := Ext_alloc (.cells #[.slice Ag R.length Cg] 32) (Ext.refl wg)
    have bg := Box.new wg #[.slice Ag R.length Cg] 32
    have halg : (wg.alloc (.cells #[.slice Ag R.length Cg] 32)).heap.size = wg.heap.size + 1 := by simp
    have halg := Lib.hid halg
    replace B0 := fun w' (e : Ext _ w') => B0 w' (Ext.trans tg e)
    replace B1 := fun w' (e : Ext _ w') => B1 w' (Ext.trans tg e)
    replace Bs := fun w' (e : Ext _ w') => Bs w' (Ext.trans tg e)
    replace Bx0 := fun w' (e : Ext _ w') => Bx0 w' (Ext.trans tg e)
    replace Bx1 := fun w' (e : Ext _ w') => Bx1 w' (Ext.trans tg e)
    replace qs := qs.ext tg
    replace rx0 := rx0.ext tg
    replace rx1 := rx1.ext tg
    replace qg := qg.ext tg
    replace dm0 := dm0.ext tg
    replace bx0 := bx0.ext tg
    replace dm1 := dm1.ext tg
    replace bx1 := bx1.ext tg
    replace dg := dg.ext tg
    replace eb := eb.trans tg; replace E0 := E0.trans tg; clear tg
    go_wp2_with fail
    refine (eqRegistry_c _ _ _ _ _ _ _ qg qs SR.out SR.out).mono ?_; rintro _ we ⟨rfl, se⟩; rw [HRR.out]
    replace B0 := fun w' (e : Ext _ w') => B0 w' (Ext.trans se e)
    replace B1 := fun w' (e : Ext _ w') => B1 w' (Ext.trans se e)
    replace Bs := fun w' (e : Ext _ w') => Bs w' (Ext.trans se e)
    replace Bx0 := fun w' (e : Ext _ w') => Bx0 w' (Ext.trans se e)
    replace Bx1 := fun w' (e : Ext _ w') => Bx1 w' (Ext.trans se e)
    replace Bg := fun w' (e : Ext _ w') => Bg w' (Ext.trans se e)
    replace qs := qs.ext se
    replace rx0 := rx0.ext se
    replace rx1 := rx1.ext se
    replace qg := qg.ext se
    replace dm0 := dm0.ext se
    replace bx0 := bx0.ext se
    replace dm1 := dm1.ext se
    replace bx1 := bx1.ext se
    replace dg := dg.ext se
    replace bg := bg.ext se
    replace eb := eb.trans se; replace E0 := E0.trans se; clear se
    have HE0 : Hid (eqG ds0 ds0 = true) := eqG_refl ds0
    go_wp2_with fail
    go_region_held3 (fun w' => Ext we w') (first | assumption | exact Ext_drew (Ext.refl _) | exact Ext.trans (by assumption) (by assumption)) (first
      | (go_at_call 13; refine (U0.out _ (h0.ext (eb.trans (by assumption)))).mono ?_; rintro _ w10 ⟨AX0, CX0, rfl, r0, s10⟩)
      | (go_at_call 16; refine (eqRegistry_c _ _ _ _ _ _ _ (rx0.ext (by assumption)) r0 SD0.out SD0.out).mono ?_; rintro _ wf0 ⟨rfl, s20⟩; rw [HE0.out]))
    have sf0 : Ext we wf0 := by assumption
    clear r0 s10 s20
    replace B0 := fun w' (e : Ext _ w') => B0 w' (Ext.trans sf0 e)
    replace B1 := fun w' (e : Ext _ w') => B1 w' (Ext.trans sf0 e)
    replace Bs := fun w' (e : Ext _ w') => Bs w' (Ext.trans sf0 e)
    replace Bx0 := fun w' (e : Ext _ w') => Bx0 w' (Ext.trans sf0 e)
    replace Bx1 := fun w' (e : Ext _ w') => Bx1 w' (Ext.trans sf0 e)
    replace Bg := fun w' (e : Ext _ w') => Bg w' (Ext.trans sf0 e)
    replace qs := qs.ext sf0
    replace rx0 := rx0.ext sf0
    replace rx1 := rx1.ext sf0
    replace qg := qg.ext sf0
    replace dm0 := dm0.ext sf0
    replace bx0 := bx0.ext sf0
    replace dm1 := dm1.ext sf0
    replace bx1 := bx1.ext sf0
    replace dg := dg.ext sf0
    replace bg := bg.ext sf0
    replace eb := eb.trans sf0; replace E0 := E0.trans sf0; clear sf0
    have HE1 : Hid (eqD ds1 ds1 = true) := eqD_refl ds1
    go_wp2_with fail
    go_region_held3 (fun w' => Ext wf0 w') (first | assumption | exact Ext_drew (Ext.refl _) | exact Ext.trans (by assumption) (by assumption)) (first
      | (go_at_call 14; refine (U1.out _ (h1.ext (eb.trans (by assumption)))).mono ?_; rintro _ w11 ⟨AX1, CX1, rfl, r1, s11⟩)
      | (go_at_call 17; refine (eqDescription_c _ _ _ _ _ _ _ (rx1.ext (by assumption)) r1 SD1.out SD1.out).mono ?_; rintro _ wf1 ⟨rfl, s21⟩; rw [HE1.out]))
    have sf1 : Ext wf0 wf1 := by assumption
    clear r1 s11 s21
    replace B0 := fun w' (e : Ext _ w') => B0 w' (Ext.trans sf1 e)
    replace B1 := fun w' (e : Ext _ w') => B1 w' (Ext.trans sf1 e)
    replace Bs := fun w' (e : Ext _ w') => Bs w' (Ext.trans sf1 e)
    replace Bx0 := fun w' (e : Ext _ w') => Bx0 w' (Ext.trans sf1 e)
    replace Bx1 := fun w' (e : Ext _ w') => Bx1 w' (Ext.trans sf1 e)
    replace Bg := fun w' (e : Ext _ w') => Bg w' (Ext.trans sf1 e)
    replace qs := qs.ext sf1
    replace rx0 := rx0.ext sf1
    replace rx1 := rx1.ext sf1
    replace qg := qg.ext sf1
    replace dm0 := dm0.ext sf1
    replace bx0 := bx0.ext sf1
    replace dm1 := dm1.ext sf1
    replace bx1 := bx1.ext sf1
    replace dg := dg.ext sf1
    replace bg := bg.ext sf1
    replace eb := eb.trans sf1; replace E0 := E0.trans sf1; clear sf1
    clear B0 B1 Bs Bx0 Bx1 Bg qs qg rx0 rx1 eb
    have z00 := (bx0.cell 0)
    simp only [List.getElem?_toArray, List.getElem?_cons_zero] at z00
    have hql0 : ds0.length = ps0.length := by rw [← hp0.out]; simp [descsOf]
    have HQL0 := Lib.hid hql0; clear hql0
    go_wp2_with fail
    refine (markReg_c _ _ _ ps0 1 _ _ _ HQL0.out dm0 (by rw [hp0.out]; exact SH0.out) (by omega) (by omega)).mono ?_; rintro _ wm0 ⟨k0, hk0a, hk0b, rfl, hm0⟩
    replace dm1 := dm1.wrote hm0 (.inr (by have := hlo0.out; have := hhi0.out; have := halx0.out; have := hlo1.out; have := hhi1.out; have := halx1.out; have := hgl.out; have := hlog.out; have := hhig.out; have := halg.out; omega))
    replace bx1 := Box.wrote bx1 hm0 (by have := hlo0.out; have := hhi0.out; have := halx0.out; have := hlo1.out; have := hhi1.out; have := halx1.out; have := hgl.out; have := hlog.out; have := hhig.out; have := halg.out; omega)
    replace dg := dg.wrote hm0 (.inr (by have := hlo0.out; have := hhi0.out; have := halx0.out; have := hlo1.out; have := hhi1.out; have := halx1.out; have := hgl.out; have := hlog.out; have := hhig.out; have := halg.out; omega))
    replace bg := Box.wrote bg hm0 (by have := hlo0.out; have := hhi0.out; have := halx0.out; have := hlo1.out; have := hhi1.out; have := halx1.out; have := hgl.out; have := hlog.out; have := hhig.out; have := halg.out; omega)
    replace E0 := hm0.below E0 (by have := hlo0.out; have := hhi0.out; have := halx0.out; have := hlo1.out; have := hhi1.out; have := halx1.out; have := hgl.out; have := hlog.out; have := hhig.out; have := halg.out; omega)
    clear z00 hm0 dm0 bx0
    have z10 := (bx1.cell 0)
    simp only [List.getElem?_toArray, List.getElem?_cons_zero] at z10
    go_wp2_with fail
    refine (markDesc_c _ _ _ ps1 k0 _ _ _ dm1 (by rw [hp1.out]; exact SH1.out) (by omega) (by omega)).mono ?_; rintro _ wm1 ⟨k1, hk1a, hk1b, rfl, hm1⟩
    replace dg := dg.wrote hm1 (.inr (by have := hlo0.out; have := hhi0.out; have := halx0.out; have := hlo1.out; have := hhi1.out; have := halx1.out; have := hgl.out; have := hlog.out; have := hhig.out; have := halg.out; omega))
    replace bg := Box.wrote bg hm1 (by have := hlo0.out; have := hhi0.out; have := halx0.out; have := hlo1.out; have := hhi1.out; have := halx1.out; have := hgl.out; have := hlog.out; have := hhig.out; have := halg.out; omega)
    replace E0 := hm1.below E0 (by have := hlo0.out; have := hhi0.out; have := halx0.out; have := hlo1.out; have := hhi1.out; have := halx1.out; have := hgl.out; have := hlog.out; have := hhig.out; have := halg.out; omega)
    clear z10 hm1 dm1 bx1
    have qg := gmade_rd dg hpg.out HSZ.out SR.out
    have qs := QS.out.ext E0; have eb := EB.out.trans E0
    have B0 := fun w' (e : Ext wm1 w') => CB0.out w' (Ext.trans E0 e); have B1 := fun w' (e : Ext wm1 w') => CB1.out w' (Ext.trans E0 e); have Bs := fun w' (e : Ext wm1 w') => CBs.out w' (Ext.trans E0 e); have Bg := fun w' (e : Ext wm1 w') => (bg.ext e).cell
    go_wp2_with fail
    refine (eqRegistry_c _ _ _ _ _ _ _ qg qs SR.out SR.out).mono ?_; rintro _ wn ⟨rfl, sn⟩; rw [HRR.out]
    replace B0 := fun w' (e : Ext _ w') => B0 w' (Ext.trans sn e)
    replace B1 := fun w' (e : Ext _ w') => B1 w' (Ext.trans sn e)
    replace Bs := fun w' (e : Ext _ w') => Bs w' (Ext.trans sn e)
    replace Bg := fun w' (e : Ext _ w') => Bg w' (Ext.trans sn e)
    replace qs := qs.ext sn
    replace qg := qg.ext sn
    replace dg := dg.ext sn
    replace bg := bg.ext sn
    replace eb := eb.trans sn; replace E0 := E0.trans sn; clear sn
    clear B0 B1 Bs Bg qs qg eb
    have zg0 := (bg.cell 0)
    simp only [List.getElem?_toArray, List.getElem?_cons_zero, List.getElem?_cons_succ] at zg0
    have hgn : R.length = psg.length := by rw [← hpg.out]; simp [descsOf]
    have HGN := Lib.hid hgn; clear hgn
    have hgs : ∀ q ∈ psg, ∀ p ∈ q.2, ShortR p.r := fun q hq p hp => SRg.out (rulesOf q.2) (by rw [← hpg.out]; exact List.mem_map_of_mem (f := fun q : Value × List RV => rulesOf q.2) hq) p.r (List.mem_map_of_mem hp)
    have HGS := Lib.hid hgs; clear hgs
    go_wp2_with fail
    refine (markRegK_c _ _ _ psg 1 _ _ _ HGN.out dg (HMK.out psg hpg.out) (by omega) (by omega)).mono ?_; rintro _ wr ⟨rfl, dk, hmg⟩
    have bg' := Box.wrote bg hmg (by have := hlo0.out; have := hhi0.out; have := halx0.out; have := hlo1.out; have := hhi1.out; have := halx1.out; have := hgl.out; have := hlog.out; have := hhig.out; have := halg.out; omega)
    replace E0 := hmg.below E0 (by have := hlo0.out; have := hhi0.out; have := halx0.out; have := hlo1.out; have := hhi1.out; have := halx1.out; have := hgl.out; have := hlog.out; have := hhig.out; have := halg.out; omega)
    clear zg0 hmg dg bg
    have qs := QS.out.ext E0; have eb := EB.out.trans E0
    have B0 := fun w' (e : Ext wr w') => CB0.out w' (Ext.trans E0 e); have B1 := fun w' (e : Ext wr w') => CB1.out w' (Ext.trans E0 e); have Bs := fun w' (e : Ext wr w') => CBs.out w' (Ext.trans E0 e); have Bg := fun w' (e : Ext wr w') => (bg'.ext e).cell
    clear E0 QS EB CB0 CB1 CBs
    have hke : kEndG 1 psg ≤ 200000000 := by have := kEndG_le 1 psg; have := HMK.out psg hpg.out; unfold szG at this; omega
    have hkn : psg.length ≤ 1048577 := by have := HMK.out psg hpg.out; unfold szG at this; simp only [descsOf, List.length_map] at this; omega
    have HD := Lib.hid (fun (lo hi : Nat) w' (h : GMarked lo hi w' (.slice Ag R.length Cg) psg 1) => heldReg_c Ag R.length Cg psg 1 lo hi w' HGN.out h HGS.out (by omega) hke hkn)
    clear hke hkn
    generalize hKK : kEndG 1 psg = K at *
    have HKK := Lib.hid hKK; clear hKK
    unfold vdesc at HD
    go_wp2_with fail
    refine (HD.out _ _ _ dk).mono ?_; rintro _ wh ⟨rfl, sh⟩
    replace B0 := fun w' (e : Ext _ w') => B0 w' (Ext.trans sh e)
    replace B1 := fun w' (e : Ext _ w') => B1 w' (Ext.trans sh e)
    replace Bs := fun w' (e : Ext _ w') => Bs w' (Ext.trans sh e)
    replace Bg := fun w' (e : Ext _ w') => Bg w' (Ext.trans sh e)
    replace qs := qs.ext sh
    replace dk := dk.ext sh
    replace eb := eb.trans sh; clear sh
    have CXB0 := Lib.hid B0; have B0h := fun w' (e : HExt wh w') => B0 w' e.e; clear B0
    have CXB1 := Lib.hid B1; have B1h := fun w' (e : HExt wh w') => B1 w' e.e; clear B1
    have CXBs := Lib.hid Bs; have Bsh := fun w' (e : HExt wh w') => Bs w' e.e; clear Bs
    have CXBg := Lib.hid Bg; have Bgh := fun w' (e : HExt wh w') => Bg w' e.e; clear Bg
    have COdk := Lib.hid dk; clear dk
    have BG := fun (W : World) w' (e : Ext (W.alloc (.cells #[.slice none 0 0] 32)) w') i => boxed e i
    have FG := fun (W : World) w' (e : Ext (W.alloc (.cells #[.slice none 0 0] 32)) w') i => boxed_free e i
    have BG2 := fun (W : World) w' (e : Ext (W.alloc (.cells #[.slice none 0 0] 32)).drew w') i => boxed ((Ext_drew (Ext.refl _)).trans e) i
    have FG2 := fun (W : World) w' (e : Ext (W.alloc (.cells #[.slice none 0 0] 32)).drew w') i => boxed_free ((Ext_drew (Ext.refl _)).trans e) i
    go_wp2_with fail
    go_cut [15, 16] (fun s6 s7 wx => ∃ g : Nat, s6 = .pointer (some ⟨g, 0, none⟩) ∧ s7 = .bool ok ∧ RegVar wh wx g R)
    case first =>
      go_region_held3 (fun w' => HExt wh w') (first | assumption | exact ⟨Ext_drew (Ext.refl _)⟩ | exact ⟨(HExt.e (by assumption)).trans (by assumption)⟩ | exact ⟨Ext_alloc _ (HExt.e (by assumption))⟩ | exact ⟨Ext_alloc _ (by assumption)⟩ | exact ⟨(HExt.e (by assumption)).setCell (by first | exact Nat.le_refl _ | assumption) _⟩) (first
        | (go_at_call 13; (with_reducible refine (U0.out _ ?_).mono ?_); (exact h0.ext (eb.trans (HExt.e (by assumption)))); rintro _ w3 ⟨A3, C3, rfl, r3, he3⟩; have z3 : wh.heap.size ≤ w3.heap.size := ((HExt.e (by assumption)).trans he3).size; (try (have he43 := he4.trans he3)))
        | (go_at_call 14; (with_reducible refine (U1.out _ ?_).mono ?_); (exact h1.ext (eb.trans (HExt.e (by assumption)))); rintro _ w4 ⟨A4, C4, rfl, r4, he4⟩; have z4 : wh.heap.size ≤ w4.heap.size := ((HExt.e (by assumption)).trans he4).size; (try (have he34 := he3.trans he4)))
        | (go_at_call 15; refine (CI.out _ _ _ (r3.ext (by repeat (first | exact Ext.refl _ | assumption | refine Ext_alloc _ ?_ | refine Ext.trans ?_ (by assumption)))) _ _ (r4.ext (by repeat (first | exact Ext.refl _ | assumption | refine Ext_alloc _ ?_ | refine Ext.trans ?_ (by assumption))))).mono ?_; rintro _ w5 ⟨A5, C5, ps5, rfl, r5, hp5, m5, he5⟩; have y5 : Ext wh w5 := (HExt.e (by assumption)).trans he5; (try (have x1 := he3.trans he5)); (try (have x2 := he4.trans he5)); (try (have x3 := he34.trans he5)); (try (have x4 := he43.trans he5))))
      all_goals
        go_wp2_with fail
        go_meet
        first
          | exact ⟨_, rfl, rfl, RegVar.new r5 y5⟩
          | exact ⟨_, rfl, rfl, RegVar.stored z4 (by simp) m5 hp5 HSZ.out SR.out (BG _ _ he5 0) y5⟩
          | exact ⟨_, rfl, rfl, RegVar.stored z3 (by have := he4.size; simp at this; omega) m5 hp5 HSZ.out SR.out (BG _ _ x2 0) y5⟩
          | exact ⟨_, rfl, rfl, RegVar.stored (Nat.le_refl _) (by have := he34.size; simp at this; omega) m5 hp5 HSZ.out SR.out (BG2 _ _ x3 0) y5⟩
    case rest =>
      obtain ⟨gl, rfl, rfl, Al, Cl, hzl, ql, dl, el⟩ := hcut
      have hgl := block_lt_of_cell dl
      have B0 := CXB0.out; clear CXB0 B0h
      have B1 := CXB1.out; clear CXB1 B1h
      have Bs := CXBs.out; clear CXBs Bsh
      have Bg := CXBg.out; clear CXBg Bgh
      have dk := COdk.out; clear COdk
      have Bl := fun w' (e : Ext wc w') => (e.cell (p := ⟨gl, 0, none⟩) hgl).trans dl
      clear dl BG FG BG2 FG2
      replace B0 := fun w' (e : Ext _ w') => B0 w' (Ext.trans el e)
      replace B1 := fun w' (e : Ext _ w') => B1 w' (Ext.trans el e)
      replace Bs := fun w' (e : Ext _ w') => Bs w' (Ext.trans el e)
      replace Bg := fun w' (e : Ext _ w') => Bg w' (Ext.trans el e)
      replace qs := qs.ext el
      replace dk := dk.ext el
      replace eb := eb.trans el; clear el
      go_wp2_with fail
      refine (eqRegistry_c _ _ _ _ _ _ _ ql qs SR.out SR.out).mono ?_; rintro _ wp ⟨rfl, sp⟩; rw [HRR.out]
      replace B0 := fun w' (e : Ext _ w') => B0 w' (Ext.trans sp e)
      replace B1 := fun w' (e : Ext _ w') => B1 w' (Ext.trans sp e)
      replace Bs := fun w' (e : Ext _ w') => Bs w' (Ext.trans sp e)
      replace Bg := fun w' (e : Ext _ w') => Bg w' (Ext.trans sp e)
      replace Bl := fun w' (e : Ext _ w') => Bl w' (Ext.trans sp e)
      replace qs := qs.ext sp
      replace ql := ql.ext sp
      replace dk := dk.ext sp
      replace eb := eb.trans sp; clear sp
      go_wp2_with fail
      refine (HD.out _ _ _ dk).mono ?_; rintro _ wq ⟨rfl, sq⟩
      go_wp2
      go_ret
      exact ⟨rfl, eb.trans sq⟩
end Go.Proofs.Ytlaejcacembjiaa
