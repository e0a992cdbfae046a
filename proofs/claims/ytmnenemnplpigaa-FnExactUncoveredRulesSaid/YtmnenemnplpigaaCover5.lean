/- UncoveredRules of the program and of the reference: the walks. -/
import Derived.Test.YtmnenemnplpigaaCover4
namespace Go.Proofs.Ytmnenemnplpigaa
open Go.RowKit Go.Sort

def nmAt (ds : List DRule) (i : Nat) : ByteArray := (ds.getD i ⟨⟨#[]⟩, 0, 0, false, [], [], [], []⟩).nm
theorem nmAt_at {ds : List DRule} {i : Nat} (h : i < ds.length) : nmAt ds i = ds[i].nm := by unfold nmAt; simp [h]
/-- names of the entries of a list that are not covered, among the first k -/
def uncN (ds : List DRule) (cov : List Int) (E : List Nat) : List ByteArray := (E.filter fun i => at0 cov i == 0).map (nmAt ds)
theorem unc_of {ds : List DRule} {cov : List Int} (h : descOk ds = true) : uncovered ds cov = uncN ds cov (entries ds) := by unfold uncovered; rw [if_pos h]; rfl
theorem unc_none {ds : List DRule} {cov : List Int} (h : descOk ds = false) : uncovered ds cov = [] := by unfold uncovered; rw [if_neg (by rw [h]; simp)]
theorem uncN_in {ds : List DRule} {cov : List Int} {E : List Nat} {x : Nat} (h : (at0 cov x == 0) = true) : uncN ds cov (E ++ [x]) = uncN ds cov E ++ [nmAt ds x] := by
  unfold uncN; rw [List.filter_append, List.map_append]; simp only [List.filter_cons, h, if_true, List.filter_nil]; rfl
theorem uncN_out {ds : List DRule} {cov : List Int} {E : List Nat} {x : Nat} (h : (at0 cov x == 0) = false) : uncN ds cov (E ++ [x]) = uncN ds cov E := by
  unfold uncN; rw [List.filter_append, List.map_append]; simp only [List.filter_cons, h, List.filter_nil]; simp
theorem uncN_len (ds : List DRule) (cov : List Int) (E : List Nat) : (uncN ds cov E).length ≤ E.length := by
  unfold uncN; rw [List.length_map]; exact List.length_filter_le _ _
theorem uncovered_len {ds : List DRule} {cov : List Int} (h : szD ds ≤ 1048576) : (uncovered ds cov).length ≤ 1048576 := by
  cases hv : descOk ds
  · rw [unc_none hv]; simp
  · rw [unc_of hv]; have := uncN_len ds cov (entries ds); have := entries_le ds; have := (show ds.length ≤ 1048576 by unfold szD at h; omega); omega
set_option maxRecDepth 100000 in
set_option maxHeartbeats 4000000 in
theorem sUncov_c (A A' : Option Addr) (ds : List DRule) (c : Nat) (cov : List Int) (c' : Nat) (w : World) (hd : RdD w A ds c) (hs : ShortD ds) (hw : WfD ds) (hc : Is w A' cov c') (hz : szD ds ≤ 1048576) :
    Calls Try.prog 27 #[vdesc (.slice A ds.length c), .slice A' cov.length c'] w fun e w' => ∃ v, e = .returned v ∧ OwnL vstr 9 w w' v (uncovered ds cov) ∧ Ext w w' := by
  have hl := hd.len
  have eb := Ext_alloc (.cells #[.slice A ds.length c] 30) (Ext.refl w)
  have BX := fun w' (e : Ext (w.alloc (.cells #[.slice A ds.length c] 30)) w') => boxed e
  have CV := Lib.hid (fun w h => sValidDesc_c A ds c w h hs hw)
  have CP := Lib.hid (fun w h hv => sPossible_c A ds c w h hv)
  have HD := Lib.hid hd; have HC := Lib.hid hc; clear hd hs hw
  unfold vdesc at *
  obtain ⟨W0, hW0⟩ : ∃ W0, W0 = (w.alloc (.cells #[.slice A ds.length c] 30)) := ⟨_, rfl⟩
  rw [← hW0] at eb BX
  have hs0 : W0.heap.size = w.heap.size + 1 := by rw [hW0]; simp
  have OE := OwnL.empty (f := vstr) (e := 9) (Ext.refl W0)
  rw [hs0] at OE
  have HOE := Lib.hid OE; have HW0 := Lib.hid hW0
  have x0 := Ext_alloc (.cells #[] 9) (Ext.refl W0)
  clear OE hW0 hs0
  cases hv : descOk ds
  · have HE := Lib.hid (unc_none (cov := cov) hv)
    rw [hv] at CV; clear hv
    go_enter Try.func27, Try.ntmps27
    go_wp2_with fail
    rw [← HW0.out]
    refine (CV.out _ (HD.out.ext (eb.trans x0))).mono ?_; rintro _ w1 ⟨rfl, s1⟩
    have e1 := x0.trans s1
    go_wp2
    go_ret
    refine ⟨_, rfl, ?_, eb.trans (x0.trans s1)⟩
    rw [HE.out]; exact (HOE.out.ext s1).down eb.size
  · have HE : Hid (uncovered ds cov = uncN ds cov (entriesUpTo (possible ds) (possible ds).length)) := by show _ = _; rw [unc_of hv, entries_eq, possible_len]
    have hn := (descOk_len hv).2
    rw [hv] at CV
    have HV := Lib.hid hv; clear hv
    rw [HE.out]; clear HE
    go_enter Try.func27, Try.ntmps27
    go_wp2_with fail
    rw [← HW0.out]
    refine (CV.out _ (HD.out.ext (eb.trans x0))).mono ?_; rintro _ w1 ⟨rfl, s1⟩
    have e1 := x0.trans s1
    go_wp2_with fail
    refine (CP.out _ (HD.out.ext (eb.trans e1)) HV.out).mono ?_; rintro _ w2 ⟨v, rfl, ho, s2⟩
    have hpl := possible_len ds
    have hpb : (possible ds).length ≤ 140737488351232 := by omega
    have HFAR : Hid (∀ g, v.ownBlock = some g → W0.heap.size < g) := fun g hg => by have := (World.ownsRow.lt ho g hg).1; have h3 := s1.size; rw [World.size_alloc] at h3; omega
    obtain ⟨A1, c1, rfl, _⟩ := ho.rd hpb
    have e2 := e1.trans s2
    have HP2 := Lib.hid (ho.down (w0 := W0) e1.size)
    have HO2 := Lib.hid (HOE.out.ext (s1.trans s2))
    have HW1 : Hid (W0.heap.size = w.heap.size + 1) := by show _ = _; rw [HW0.out]; simp
    clear ho s2 e1 s1 HOE
    obtain ⟨P, hP⟩ : ∃ P, possible ds = P := ⟨_, rfl⟩
    rw [hP] at hpl hpb HP2 HFAR ⊢
    have HPE := Lib.hid hP; clear hP
    go_wp2
    go_loopw [5, 7] (fun t ix wr => ∃ k : Nat, k ≤ P.length ∧ ix = .int .i64 k ∧ Hid (OwnL vstr 9 W0 wr t (uncN ds cov (entriesUpTo P k))) ∧ Hid (OwnL vbool 4 W0 wr (.slice A1 P.length c1) P) ∧ Hid (∀ g, t.ownBlock = some g → (Value.slice A1 P.length c1).ownBlock ≠ some g) ∧ Ext W0 wr) (fun _ ix _ => P.length - (intOf ix).toNat)
    case atStart => exact ⟨0, by omega, rfl, by simpa [entriesUpTo, uncN] using HO2, HP2, (fun g hg hg' => by have h1 := HFAR.out g hg'; have h2 := HW1.out; simp [Value.ownBlock] at hg; omega), e2⟩
    case round =>
      clear HO2 HP2 HFAR e2 x0
      obtain ⟨k, hk, rfl, ho, hn6, hfar, he⟩ := hrel
      by_cases hlt : k < P.length
      · obtain ⟨_, _, hv6, r6⟩ := OwnL.rd hn6.out hpb
        injection hv6 with q1 _ q2
        subst q1; subst q2
        obtain ⟨b, off, rfl, hb, hcl⟩ := r6.at k hlt
        have hki : k < ds.length := by omega
        obtain ⟨ba, oa, Ab, cb, An, cn, At, ct, Ak, ck, rfl, hba, hSa, hRa⟩ := HD.out.at k hki
        have hnm := Lib.hid (nmAt_at hki)
        have l0 := (hRa.ext eb).c0
        have hz0 : P.getD k false = P[k] := by simp [hlt]
        have HS := Lib.hid (entriesUpTo_succ P k)
        rw [hz0] at HS
        clear hz0 r6
        have hll : (uncN ds cov (entriesUpTo P k)).length ≤ k := Nat.le_trans (uncN_len _ _ _) (by unfold entriesUpTo; have := List.length_filter_le (fun i => P.getD i false) (List.range k); simpa using this)
        have d1 : decide ((k : Int) < (P.length : Int)) = true := by simp; omega
        have UI := Lib.hid (fun h => uncN_in (ds := ds) (cov := cov) (E := entriesUpTo P k) (x := k) h)
        have UO := Lib.hid (fun h => uncN_out (ds := ds) (cov := cov) (E := entriesUpTo P k) (x := k) h)
        generalize P[k] = z at *
        have HNX : Hid (uncN ds cov (entriesUpTo P (k + 1)) = if z = true then uncN ds cov (entriesUpTo P k ++ [k]) else uncN ds cov (entriesUpTo P k)) := by show _ = _; rw [HS.out]; split <;> rfl
        clear HS
        rw [hnm.out] at UI
        generalize ds[k] = r at *
        have HB : Hid (((uncN ds cov (entriesUpTo P k)).length + [r.nm].length) * 16 ≤ 140737488355328) := by show _ ≤ _; simp only [List.length_cons, List.length_nil]; omega
        generalize uncN ds cov (entriesUpTo P k ++ [k]) = L1 at *
        generalize uncN ds cov (entriesUpTo P k) = L at *
        clear hRa hSa hnm hll
        cases z
        · have HE : Hid (L = uncN ds cov (entriesUpTo P (k + 1))) := by show _ = _; rw [HNX.out]; rfl
          rw [HE.out] at ho
          clear UI UO HNX
          go_wp2
          go_roundw
          case rel => exact ⟨k + 1, by omega, by go_num, ho, hn6, hfar, he⟩
          case measure => simp [intOf]; omega
        · have HNX2 : Hid (L1 = uncN ds cov (entriesUpTo P (k + 1))) := by show _ = _; rw [HNX.out]; rfl
          clear HNX
          by_cases hin : k < cov.length
          · obtain ⟨b', off', rfl, hb', hcc⟩ := (HC.out.ext eb).at k hin
            have h0 := Lib.hid (at0_in hin)
            rw [h0.out] at UI UO
            have d2 : decide ((cov.length : Int) ≤ (k : Int)) = false := decide_eq_false (by omega)
            generalize cov[k] = y at *
            by_cases hy : y = 0
            · have HE := Lib.hid (UI.out (by simpa using hy)); clear UI UO
              have k1 : (y == 0) = true := by simpa using hy
              clear hy
              go_wp2_with (first
                | (at_builtin; go_must (refine wpList_appNB rfl (.tmp 38) (.tmp 45) _ rfl E_str (by omega) W0 _ vstr (fun _ => rfl) _ rfl _ _ _ rfl (by simp) L [r.nm] _ rfl ho.out he rfl HB.out ?_); intro v1 w3 ho1 he1 hv1 hg1; rw [← HE.out, HNX2.out] at ho1))
              have H1 := Lib.hid ho1
              have H2 : Hid (OwnL vbool 4 W0 w3 (.slice (some ⟨b, off, none⟩) P.length c1) P) := by
                refine OwnL.keep (hn6.out.ext (Ext_alloc _ (Ext.refl _))) hg1 ?_
                intro g hg hg'
                exact hfar.out g hg' hg
              have H3 : Hid (∀ g, v1.ownBlock = some g → (Value.slice (some ⟨b, off, none⟩) P.length c1).ownBlock ≠ some g) := by
                intro g hg hg'
                rcases hv1 with hv1 | hv1
                · rw [hv1] at hg; exact hfar.out g hg hg'
                · rw [hv1] at hg; injection hg with hg; subst hg
                  have h5 := (World.ownsRow.lt hn6.out _ hg').2
                  simp at h5; omega
              clear ho1 hv1 hg1
              go_roundw
              case rel => exact ⟨k + 1, by omega, by go_num, H1, H2, H3, he1⟩
              case measure => simp [intOf]; omega
            · have HE := Lib.hid (UO.out (by simpa using hy)); clear UI UO
              have k1 : (y == 0) = false := by simpa using hy
              rw [← HE.out, HNX2.out] at ho
              clear hy
              go_wp2
              go_roundw
              case rel => exact ⟨k + 1, by omega, by go_num, ho, hn6, hfar, he⟩
              case measure => simp [intOf]; omega
          · have h0 := Lib.hid (at0_out hin)
            rw [h0.out] at UI UO
            have d2 : decide ((cov.length : Int) ≤ (k : Int)) = true := decide_eq_true (by omega)
            have HE := Lib.hid (UI.out rfl); clear UI UO
            go_wp2_with (first
              | (at_builtin; go_must (refine wpList_appNB rfl (.tmp 38) (.tmp 45) _ rfl E_str (by omega) W0 _ vstr (fun _ => rfl) _ rfl _ _ _ rfl (by simp) L [r.nm] _ rfl ho.out he rfl HB.out ?_); intro v1 w3 ho1 he1 hv1 hg1; rw [← HE.out, HNX2.out] at ho1))
            have H1 := Lib.hid ho1
            have H2 : Hid (OwnL vbool 4 W0 w3 (.slice (some ⟨b, off, none⟩) P.length c1) P) := by
              refine OwnL.keep (hn6.out.ext (Ext_alloc _ (Ext.refl _))) hg1 ?_
              intro g hg hg'
              exact hfar.out g hg' hg
            have H3 : Hid (∀ g, v1.ownBlock = some g → (Value.slice (some ⟨b, off, none⟩) P.length c1).ownBlock ≠ some g) := by
              intro g hg hg'
              rcases hv1 with hv1 | hv1
              · rw [hv1] at hg; exact hfar.out g hg hg'
              · rw [hv1] at hg; injection hg with hg; subst hg
                have h5 := (World.ownsRow.lt hn6.out _ hg').2
                simp at h5; omega
            clear ho1 hv1 hg1
            go_roundw
            case rel => exact ⟨k + 1, by omega, by go_num, H1, H2, H3, he1⟩
            case measure => simp [intOf]; omega
      · obtain rfl : k = P.length := by omega
        go_wp2
        go_ret
        refine ⟨_, rfl, ?_, eb.trans he⟩
        rw [HPE.out]
        exact ho.out.down eb.size
set_option maxRecDepth 100000 in
set_option maxHeartbeats 4000000 in
theorem iUncov_c (A A' : Option Addr) (ds : List DRule) (c : Nat) (cov : List Int) (c' : Nat) (w : World) (hd : RdD w A ds c) (hs : ShortD ds) (hw : WfD ds) (hc : Is w A' cov c') (hz : szD ds ≤ 1048576) :
    Calls Try.prog 28 #[vdesc (.slice A ds.length c), .slice A' cov.length c'] w fun e w' => ∃ v, e = .returned v ∧ OwnL vstr 9 w w' v (uncovered ds cov) ∧ Ext w w' := by
  have hl := hd.len
  have eb := Ext_alloc (.cells #[.slice A ds.length c] 30) (Ext.refl w)
  have BX := fun w' (e : Ext (w.alloc (.cells #[.slice A ds.length c] 30)) w') => boxed e
  have CV := Lib.hid (fun w h => iValidDesc_c A ds c w h hs hw)
  have CP := Lib.hid (fun w h hv => iEntry_c A ds c w h hv)
  have CH := Lib.hid (fun w (i : Nat) h (h1 : (i : Int) ≤ 140737488351232) => elementAt_c A' cov c' i w h h1)
  have HD := Lib.hid hd; have HC := Lib.hid hc; clear hd hs hw hc
  unfold vdesc at *
  obtain ⟨W0, hW0⟩ : ∃ W0, W0 = (w.alloc (.cells #[.slice A ds.length c] 30)) := ⟨_, rfl⟩
  rw [← hW0] at eb BX
  have hs0 : W0.heap.size = w.heap.size + 1 := by rw [hW0]; simp
  have OE := OwnL.empty (f := vstr) (e := 9) (Ext.refl W0)
  rw [hs0] at OE
  have HOE := Lib.hid OE; have HW0 := Lib.hid hW0
  have x0 := Ext_alloc (.cells #[] 9) (Ext.refl W0)
  clear OE hW0 hs0
  cases hv : descOk ds
  · have HE := Lib.hid (unc_none (cov := cov) hv)
    rw [hv] at CV; clear hv
    go_enter Try.func28, Try.ntmps28
    go_wp2_with fail
    rw [← HW0.out]
    refine (CV.out _ (HD.out.ext (eb.trans x0))).mono ?_; rintro _ w1 ⟨rfl, s1⟩
    have e1 := x0.trans s1
    go_wp2
    go_ret
    refine ⟨_, rfl, ?_, eb.trans (x0.trans s1)⟩
    rw [HE.out]; exact (HOE.out.ext s1).down eb.size
  · have HE : Hid (uncovered ds cov = uncN ds cov (entries ds)) := unc_of hv
    have hn := (descOk_len hv).2
    have hle := entries_le ds
    have HLT := Lib.hid (fun i (h : i ∈ entries ds) => entries_lt h)
    rw [hv] at CV
    have HV := Lib.hid hv; clear hv
    rw [HE.out]; clear HE
    go_enter Try.func28, Try.ntmps28
    go_wp2_with fail
    rw [← HW0.out]
    refine (CV.out _ (HD.out.ext (eb.trans x0))).mono ?_; rintro _ w1 ⟨rfl, s1⟩
    have e1 := x0.trans s1
    go_wp2_with fail
    refine (CP.out _ (HD.out.ext (eb.trans e1)) HV.out).mono ?_; rintro _ w2 ⟨v, rfl, ho, s2⟩
    have hel : (entriesI ds).length = (entries ds).length := by unfold entriesI; rw [List.length_map]
    have hpb : (entriesI ds).length ≤ 140737488351232 := by omega
    have HFAR : Hid (∀ g, v.ownBlock = some g → W0.heap.size < g) := fun g hg => by have := (World.ownsRow.lt ho g hg).1; have h3 := s1.size; rw [World.size_alloc] at h3; omega
    obtain ⟨A1, c1, rfl, _⟩ := ho.rd hpb
    have e2 := e1.trans s2
    have HP2 := Lib.hid (ho.down (w0 := W0) e1.size)
    have HO2 := Lib.hid (HOE.out.ext (s1.trans s2))
    have HW1 : Hid (W0.heap.size = w.heap.size + 1) := by show _ = _; rw [HW0.out]; simp
    have hat : ∀ k (hk : k < (entries ds).length), (entriesI ds)[k]? = some ((entries ds)[k] : Int) := fun k hk => by unfold entriesI; simp [hk]
    clear ho s2 e1 s1 HOE
    obtain ⟨E, hE⟩ : ∃ E, entries ds = E := ⟨_, rfl⟩
    rw [hE] at hel hle HLT hat
    have HEE := Lib.hid hE
    obtain ⟨EI, hEI⟩ : ∃ EI, entriesI ds = EI := ⟨_, rfl⟩
    rw [hEI] at hel hpb HP2 HFAR hat ⊢
    clear hE hEI
    go_wp2
    go_loopw [5, 16] (fun t ix wr => ∃ k : Nat, k ≤ EI.length ∧ ix = .int .i64 k ∧ Hid (OwnL vstr 9 W0 wr t (uncN ds cov (E.take k))) ∧ Hid (OwnL vint 3 W0 wr (.slice A1 EI.length c1) EI) ∧ Hid (∀ g, t.ownBlock = some g → (Value.slice A1 EI.length c1).ownBlock ≠ some g) ∧ Ext W0 wr) (fun _ ix _ => EI.length - (intOf ix).toNat)
    case atStart => exact ⟨0, by omega, rfl, by simpa [uncN] using HO2, HP2, (fun g hg hg' => by have h1 := HFAR.out g hg'; have h2 := HW1.out; simp [Value.ownBlock] at hg; omega), e2⟩
    case round =>
      clear HO2 HP2 HFAR e2 x0
      obtain ⟨k, hk, rfl, ho, hn6, hfar, he⟩ := hrel
      by_cases hlt : k < EI.length
      · obtain ⟨_, _, hv6, r6⟩ := OwnL.rd hn6.out hpb
        injection hv6 with q1 _ q2
        subst q1; subst q2
        obtain ⟨b, off, rfl, hb, hcl⟩ := r6.at k hlt
        have hltE : k < E.length := by omega
        have hx := hat k hltE
        rw [List.getElem?_eq_getElem hlt] at hx
        have hx := Option.some.inj hx
        rw [hx] at hcl
        have hki := HLT.out _ (List.getElem_mem hltE)
        have hll : (uncN ds cov (E.take k)).length ≤ k := Nat.le_trans (uncN_len _ _ _) (by rw [List.length_take]; omega)
        have HNX : Hid (uncN ds cov (E.take (k + 1)) = uncN ds cov (E.take k ++ [E[k]])) := by show _ = _; rw [List.take_succ_eq_append_getElem hltE]
        generalize E[k] = x at *
        obtain ⟨ba, oa, Ab, cb, An, cn, At, ct, Ak, ck, rfl, hba, hSa, hRa⟩ := HD.out.at x hki
        have hnm := Lib.hid (nmAt_at hki)
        have l0 := (hRa.ext eb).c0
        clear r6 hx hat
        have UI := Lib.hid (fun h => uncN_in (ds := ds) (cov := cov) (E := E.take k) (x := x) h)
        have UO := Lib.hid (fun h => uncN_out (ds := ds) (cov := cov) (E := E.take k) (x := x) h)
        rw [hnm.out] at UI
        have C := Lib.hid (fun w h => CH.out w x h)
        generalize ds[x] = r at *
        have HB : Hid (((uncN ds cov (E.take k)).length + [r.nm].length) * 16 ≤ 140737488355328) := by show _ ≤ _; simp only [List.length_cons, List.length_nil]; omega
        generalize uncN ds cov (E.take k ++ [x]) = L1 at *
        generalize uncN ds cov (E.take k) = L at *
        generalize at0 cov x = y at *
        clear hRa hSa hnm hll
        have d1 : decide ((k : Int) < (EI.length : Int)) = true := by simp; omega
        by_cases hy : y = 0
        · have HE := Lib.hid (UI.out (by simpa using hy)); clear UI UO
          have k1 : (y == 0) = true := by simpa using hy
          clear hy
          go_wp2_with fail
          refine (C.out _ (HC.out.ext (eb.trans he)) (by omega)).mono ?_; rintro _ w3 ⟨rfl, s3⟩
          have HO3 := Lib.hid (ho.out.ext s3); have HN3 := Lib.hid (hn6.out.ext s3)
          have e3 := he.trans s3
          clear ho hn6
          go_wp2_with (first
            | (at_builtin; go_must (refine wpList_appNB rfl (.tmp 24) (.tmp 31) _ rfl E_str (by omega) W0 _ vstr (fun _ => rfl) _ rfl _ _ _ rfl (by simp) L [r.nm] _ rfl HO3.out e3 rfl HB.out ?_); intro v1 w4 ho1 he1 hv1 hg1; rw [← HE.out, ← HNX.out] at ho1))
          have H1 := Lib.hid ho1
          have H2 : Hid (OwnL vint 3 W0 w4 (.slice (some ⟨b, off, none⟩) EI.length c1) EI) := by
            refine OwnL.keep (HN3.out.ext (Ext_alloc _ (Ext.refl _))) hg1 ?_
            intro g hg hg'
            exact hfar.out g hg' hg
          have H3 : Hid (∀ g, v1.ownBlock = some g → (Value.slice (some ⟨b, off, none⟩) EI.length c1).ownBlock ≠ some g) := by
            intro g hg hg'
            rcases hv1 with hv1 | hv1
            · rw [hv1] at hg; exact hfar.out g hg hg'
            · rw [hv1] at hg; injection hg with hg; subst hg
              have h5 := (World.ownsRow.lt HN3.out _ hg').2
              simp at h5; omega
          clear ho1 hv1 hg1
          go_roundw
          case rel => exact ⟨k + 1, by omega, by go_num, H1, H2, H3, he1⟩
          case measure => simp [intOf]; omega
        · have HE := Lib.hid (UO.out (by simpa using hy)); clear UI UO
          have k1 : (y == 0) = false := by simpa using hy
          rw [← HE.out, ← HNX.out] at ho
          clear hy
          go_wp2_with fail
          refine (C.out _ (HC.out.ext (eb.trans he)) (by omega)).mono ?_; rintro _ w3 ⟨rfl, s3⟩
          have HO3 := Lib.hid (ho.out.ext s3); have HN3 := Lib.hid (hn6.out.ext s3)
          clear ho hn6
          go_wp2
          go_roundw
          case rel => exact ⟨k + 1, by omega, by go_num, HO3, HN3, hfar, he.trans s3⟩
          case measure => simp [intOf]; omega
      · obtain rfl : k = EI.length := by omega
        have HF : Hid (uncN ds cov (E.take EI.length) = uncN ds cov E) := by show _ = _; rw [List.take_of_length_le (by omega)]
        go_wp2
        go_ret
        refine ⟨_, rfl, ?_, eb.trans he⟩
        rw [HEE.out, ← HF.out]
        exact ho.out.down eb.size
end Go.Proofs.Ytmnenemnplpigaa
