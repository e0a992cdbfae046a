/- The laws' copies of registries. -/
import Derived.Test.YtalnekcmfagjoaaDescTo
namespace Go.Proofs.Ytalnekcmfagjoaa
open Go.RowKit Go.Sort

theorem E_desc : Elem Try.prog 39 28 1 24 (.agg #[.slice none 0 0]) := ⟨Try.underlying39, by kernel_rfl, rfl, by omega⟩
theorem descsOf_append (a b : List (Value × List RV)) : descsOf (a ++ b) = descsOf a ++ descsOf b := by simp [descsOf]
set_option maxRecDepth 100000 in
set_option maxHeartbeats 4000000 in
theorem toDescriptionS_c (A : Option Addr) (ds : List (List DRule)) (c : Nat) (w : World) (h : RdG w A ds c) (hz : szG ds ≤ 1048576) :
    Calls Try.prog 44 #[.slice A ds.length c] w fun e w' => ∃ v qs, e = .returned v ∧ descsOf qs = ds ∧ OwnG w w' v qs ∧ Ext w w' := by
  have hn : ds.length ≤ 1048576 := by unfold szG at hz; omega
  have HZ : Hid (∀ k (hk : k < ds.length), szD ds[k] ≤ 1048576) := fun k hk => szG_mem hz (List.getElem_mem hk)
  go_enter Try.func44, Try.ntmps44
  go_wp2_with (first
    | (at_make; refine wpList_mk rfl _ _ _ rfl E_desc w w (Ext.refl w) ds.length rfl rfl (by omega) (by simp [maxLen]; omega) ?_; intro w1 ho he _))
  have hw1 : w.heap.size < w1.heap.size := (World.ownsRow.lt ho _ rfl).2
  obtain ⟨rest0, HR0, HO⟩ : ∃ rest0 : List Value, Hid (rest0.length = ds.length) ∧ Hid (Own 28 1 w w1 (.slice (some ⟨w.heap.size, 0, none⟩) ds.length ds.length) ds.length rest0) := ⟨_, by show _ = _; rw [Array.length_toList, size_madeCells, Nat.mul_one], ho⟩
  clear ho
  go_loopw [4] (fun i wr => ∃ (k : Nat) (qs : List (Value × List RV)) (rest : List Value), k ≤ ds.length ∧ i = .int .i64 k ∧ qs.length ≤ k ∧ k ≤ qs.length ∧ Hid (descsOf qs = ds.take k) ∧ Hid (rest.length = ds.length - k) ∧ Hid (Own 28 1 w wr (.slice (some ⟨w.heap.size, 0, none⟩) ds.length ds.length) ds.length (qs.map Prod.fst ++ rest)) ∧ Hid (∀ q ∈ qs, OwnD w1 wr q.1 q.2) ∧ Hid (Far (qs.flatMap fun q => q.1 :: q.2.flatMap RV.vals)) ∧ Ext w wr ∧ w1.heap.size ≤ wr.heap.size) (fun i _ => ds.length - (intOf i).toNat)
  case atStart => exact ⟨0, [], rest0, by omega, rfl, by simp, by simp, by simp [Hid, descsOf], by simpa [Hid] using HR0.out, by simpa [Hid] using HO.out, by simp [Hid], Far.nil, he, Nat.le_refl _⟩
  case round =>
    clear HO HR0 rest0 he
    obtain ⟨k, qs, rest, hk, rfl, hl1, hl2, hps, hrest, ho, hq, hfar, he, hsz⟩ := hrel
    by_cases hlt : k < ds.length
    · obtain ⟨b, off, A1, c1, rfl, hb, hs, hr⟩ := h.at k hlt
      have hzk := HZ.out k hlt
      have HT : Hid (ds.take (k+1) = ds.take k ++ [ds[k]]) := List.take_succ_eq_append_getElem hlt
      generalize ds[k] = r at *
      have C := Lib.hid (fun w h => toDescription_c A1 r c1 w h hzk)
      unfold vdesc at C
      clear h
      go_wp2_with fail
      refine (C.out _ (hs.ext he)).mono ?_; rintro _ w2 ⟨v2, ps, rfl, hpr, hro, he2⟩
      obtain ⟨A2, c2, rfl⟩ := hro.shape
      have ho2 := Own.ext ho.out he2
      have hln : (qs.map Prod.fst ++ rest).length = ds.length := by have := ho2.1; omega
      have hlr := hrest.out
      have hpl : qs.length = k := by omega
      obtain ⟨⟨u0, hu0⟩, hf0⟩ := ho2.slot k (by rw [hln]; omega)
      obtain ⟨hO, hE⟩ := Own.store ho2 (he.trans he2) k (.slice A2 ps.length c2)
      have hG := grown_set w2 ⟨w.heap.size, k, none⟩ (.slice A2 ps.length c2)
      have HO : Hid (Own 28 1 w (w2.setCell ⟨w.heap.size, k, none⟩ (.slice A2 ps.length c2)) (.slice (some ⟨w.heap.size, 0, none⟩) ds.length ds.length) ds.length ((qs ++ [(Value.slice A2 ps.length c2, ps)]).map Prod.fst ++ rest.drop 1)) := by
        show Own _ _ _ _ _ _ _
        have : (qs.map Prod.fst ++ rest).set k (.slice A2 ps.length c2) = (qs ++ [(Value.slice A2 ps.length c2, ps)]).map Prod.fst ++ rest.drop 1 := by
          rw [List.set_append_right _ _ (by simp; omega)]
          match rest, hlr with
          | [], hh => simp at hh; omega
          | a :: t, _ => simp [show k - qs.length = 0 by omega]
        rw [← this]; exact hO
      have HE := Lib.hid hE; have HG := Lib.hid hG; have HRO := Lib.hid hro; have HPL := Lib.hid hpl; have HLR := Lib.hid hlr; have HPR := Lib.hid hpr
      have hsz2 := he2.size
      clear ho2 hO hE hG hro hpl hlr ho hpr
      go_wp2
      go_roundw
      case rel =>
        refine ⟨k+1, qs ++ [(.slice A2 ps.length c2, ps)], rest.drop 1, by omega, by go_num, by simp; omega, by simp; omega, ?_, ?_, HO, ?_, ?_, HE.out, ?_⟩
        · show _ = _; rw [descsOf_append, hps.out, HT.out, ← HPR.out]; rfl
        · show _ = _; rw [List.length_drop, HLR.out]; omega
        · intro q hq'
          rcases List.mem_append.1 hq' with hq' | hq'
          · exact ((hq.out q hq').ext he2).keep HG.out (fun v hv g hg he' => by have := (hq.out q hq').block v hv g hg; injection he' with he'; omega)
          · obtain rfl := List.mem_singleton.1 hq'
            exact (HRO.out.keep HG.out (fun v hv g hg he' => by have := HRO.out.block v hv g hg; injection he' with he'; omega)).down hsz
        · show Far _
          rw [List.flatMap_append, List.flatMap_cons, List.flatMap_nil, List.append_nil]
          refine Far.append hfar.out HRO.out.far ?_
          intro u hu v hv g h1 h2
          obtain ⟨p, hp, hu⟩ := List.mem_flatMap.1 hu
          have := (hq.out p hp).block u hu g h1
          have := HRO.out.block v hv g h2
          omega
        · first | exact Nat.le_trans (Nat.le_trans hsz hsz2) HG.out.size | exact Nat.le_trans hsz hsz2
      case measure => simp [intOf]; omega
    · obtain rfl : k = ds.length := by omega
      go_wp2
      go_ret
      have hr0 : rest = [] := List.eq_nil_of_length_eq_zero (by have := hrest.out; omega)
      have hlen : qs.length = ds.length := by omega
      refine ⟨_, qs, rfl, ?_, ⟨?_, ?_, ?_⟩, he⟩
      · have := hps.out; rwa [List.take_length] at this
      · have := ho.out; rw [hr0, List.append_nil] at this; rw [hlen]; exact this
      · exact fun p hp => (hq.out p hp).down (by omega)
      · refine Far.cons hfar.out ?_
        intro u hu g h1 h2
        obtain ⟨p, hp, hu⟩ := List.mem_flatMap.1 hu
        have := (hq.out p hp).block u hu g h2
        have h1' : w.heap.size = g := by simpa [Value.ownBlock] using h1
        omega
set_option maxRecDepth 100000 in
set_option maxHeartbeats 1000000 in
theorem toRegistry_c (A : Option Addr) (ds : List (List DRule)) (c : Nat) (w : World) (h : RdG w A ds c) (hz : szG ds ≤ 1048576) :
    Calls Try.prog 16 #[vdesc (.slice A ds.length c)] w fun e w' => ∃ v qs, e = .returned (vdesc v) ∧ descsOf qs = ds ∧ OwnG w w' v qs ∧ Ext w w' := by
  have C := Lib.hid (fun w h => toDescriptionS_c A ds c w h hz)
  obtain ⟨W0, HW0, HA, HR, HO, eA, hsA⟩ := boxes3' w #[.slice A ds.length c] #[.slice none 0 0] #[.slice none 0 0] 37 41 41
  have HSA := Lib.hid hsA; clear hsA
  have HA0 := Lib.hid HA; have HR0 := Lib.hid HR; have HO0 := Lib.hid HO; clear HA HR HO
  unfold vdesc
  go_enter Try.func16, Try.ntmps16
  go_wp2_with fail
  rw [← HW0.out]
  refine (C.out _ (h.ext eA)).mono ?_; rintro _ w1 ⟨v1, qs, rfl, hps, ho1, he1⟩
  obtain ⟨A1, c1, rfl⟩ := ho1.shape
  have p1 := (HO0.out.ext he1).cell; have q1 := (HO0.out.ext he1).free
  have r1 := (HR0.out.ext he1).cell; have t1 := (HR0.out.ext he1).free
  have HP := Lib.hid hps; have HO1 := Lib.hid ho1
  have hs1 := he1.size
  clear hps ho1
  go_wp2
  have z0 := HSA.out
  refine bodyPost_ret (v := .agg #[.slice A1 qs.length c1]) (by simp [results, Try.results16, go_sem, p1, q1, r1, t1]) rfl ⟨_, qs, rfl, HP.out, ?_, ?_⟩
  · refine ((HO1.out.keep (grown_set _ ⟨w.heap.size + 1 + 1, 0, none⟩ _) ?_).keep (grown_set _ ⟨w.heap.size + 1, 0, none⟩ _) ?_).down (by omega)
    · intro u hu g hg he'; have := HO1.out.block u hu g hg; injection he' with he'; simp only at he'; omega
    · intro u hu g hg he'; have := HO1.out.block u hu g hg; injection he' with he'; simp only at he'; omega
  · exact ((eA.trans he1).setCell (by simp; omega) _).setCell (by simp) _
end Go.Proofs.Ytalnekcmfagjoaa
