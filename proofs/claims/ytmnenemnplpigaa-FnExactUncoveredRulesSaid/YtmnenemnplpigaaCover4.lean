/- CoveragePercent and UncoveredRules of the program and of the reference: the walks. -/
import Derived.Test.YtmnenemnplpigaaCover3
namespace Go.Proofs.Ytmnenemnplpigaa
open Go.RowKit Go.Sort

/-- covered entries among the first k rules -/
def cntUpTo (c : List Bool) (k : Nat) : Nat := (entriesUpTo c k).length
def covUpTo (c : List Bool) (cov : List Int) (k : Nat) : Nat := ((entriesUpTo c k).filter fun i => decide (0 < at0 cov i)).length
theorem cnt_yes {c : List Bool} {k : Nat} (h : c.getD k false = true) : cntUpTo c (k + 1) = cntUpTo c k + 1 := by unfold cntUpTo; rw [entriesUpTo_succ, if_pos h]; simp
theorem cnt_no {c : List Bool} {k : Nat} (h : c.getD k false = false) : cntUpTo c (k + 1) = cntUpTo c k := by unfold cntUpTo; rw [entriesUpTo_succ, if_neg (by rw [h]; simp)]
theorem cov_no {c : List Bool} {cov : List Int} {k : Nat} (h : c.getD k false = false) : covUpTo c cov (k + 1) = covUpTo c cov k := by unfold covUpTo; rw [entriesUpTo_succ, if_neg (by rw [h]; simp)]
theorem cov_in {c : List Bool} {cov : List Int} {k : Nat} (h : c.getD k false = true) (h1 : decide (0 < at0 cov k) = true) : covUpTo c cov (k + 1) = covUpTo c cov k + 1 := by
  unfold covUpTo; rw [entriesUpTo_succ, if_pos h, List.filter_append]; simp only [List.filter_cons, h1, if_true]; simp
theorem cov_out {c : List Bool} {cov : List Int} {k : Nat} (h : c.getD k false = true) (h1 : decide (0 < at0 cov k) = false) : covUpTo c cov (k + 1) = covUpTo c cov k := by
  unfold covUpTo; rw [entriesUpTo_succ, if_pos h, List.filter_append]; simp only [List.filter_cons, h1, List.filter_nil]; simp
theorem cnt_le (c : List Bool) (k : Nat) : cntUpTo c k ≤ k := by
  unfold cntUpTo entriesUpTo; have := List.length_filter_le (fun i => c.getD i false) (List.range k); simpa using this
theorem cov_le (c : List Bool) (cov : List Int) (k : Nat) : covUpTo c cov k ≤ cntUpTo c k := List.length_filter_le _ _
theorem setAll_last (c : List Bool) (l : List Int) (i : Nat) (h : c.getD i false = true) : (setAll c l).getD i false = true := by
  have h1 : c[i]? = some true := by
    unfold List.getD at h
    cases hc : c[i]? with
    | none => rw [hc] at h; cases h
    | some b => rw [hc] at h; simp at h; rw [h]
  have := setAll_true c l i h1
  unfold List.getD; rw [this]; rfl
theorem possFrom_true (ds : List DRule) (m : Nat) : ∀ (n : Nat) (c : List Bool), c.getD m false = true → (possFrom ds n c).getD m false = true := by
  intro n
  induction n with
  | zero => intro c h; exact h
  | succ n ih =>
    intro c h
    rw [possFrom]
    refine ih _ ?_
    unfold possAt
    split
    · exact setAll_last _ _ _ h
    · exact h
theorem possible_last {ds : List DRule} (h : 0 < ds.length) : (possible ds).getD (ds.length - 1) false = true := by
  unfold possible
  refine possFrom_true _ _ _ _ ?_
  unfold List.getD
  rw [List.getElem?_set_self (by simp; omega)]; rfl
theorem cnt_pos {ds : List DRule} (h : 0 < ds.length) : 0 < cntUpTo (possible ds) ds.length := by
  obtain ⟨m, hm⟩ : ∃ m, ds.length = m + 1 := ⟨ds.length - 1, by omega⟩
  have h1 := possible_last h
  rw [hm, Nat.add_sub_cancel] at h1
  rw [hm, cnt_yes h1]; omega
theorem percent_of {ds : List DRule} {cov : List Int} (h : descOk ds = true) : percent ds cov = ((100 * covUpTo (possible ds) cov ds.length : Nat) : Int) / ((cntUpTo (possible ds) ds.length : Nat) : Int) := by
  unfold percent; rw [if_pos h, covered, entries_eq]; rfl
set_option maxHeartbeats 400000 in
theorem sHas_c (A : Option Addr) (l : List Int) (c : Nat) (i : Nat) (w : World) (h : Is w A l c) :
    Gives Try.prog 61 #[.slice A l.length c, .int .i64 i] w (.bool (decide (0 < at0 l i))) := by
  have hl := h.len
  by_cases hlt : i < l.length
  · obtain ⟨b, off, rfl, hb, hc⟩ := h.at i hlt
    rw [at0_in hlt]
    have d : decide ((i : Int) < (l.length : Int)) = true := by simp; omega
    generalize l[i] = x at *
    go_enter Try.func61, Try.ntmps61
    go_wp2
    go_ret
    exact ⟨rfl, Ext.refl _⟩
  · rw [at0_out hlt]
    have d : decide ((i : Int) < (l.length : Int)) = false := decide_eq_false (by omega)
    go_enter Try.func61, Try.ntmps61
    go_wp2
    go_ret
    exact ⟨rfl, Ext.refl _⟩
set_option maxRecDepth 100000 in
set_option maxHeartbeats 4000000 in
theorem sPercent_c (A A' : Option Addr) (ds : List DRule) (c : Nat) (cov : List Int) (c' : Nat) (w : World) (hd : RdD w A ds c) (hs : ShortD ds) (hw : WfD ds) (hc : Is w A' cov c') :
    Gives Try.prog 15 #[vdesc (.slice A ds.length c), .slice A' cov.length c'] w (.int .i64 (percent ds cov)) := by
  have hl := hd.len
  have eb := Ext_alloc (.cells #[.slice A ds.length c] 30) (Ext.refl w)
  have BX := fun w' (e : Ext (w.alloc (.cells #[.slice A ds.length c] 30)) w') => boxed e
  have CV := Lib.hid (fun w h => sValidDesc_c A ds c w h hs hw)
  have CP := Lib.hid (fun w h hv => sPossible_c A ds c w h hv)
  have CH := Lib.hid (fun w i h => sHas_c A' cov c' i w h)
  have HD := Lib.hid hd; have HC := Lib.hid hc; clear hd hc hs hw
  unfold vdesc at *
  cases hv : descOk ds
  · have HE : Hid (percent ds cov = 0) := by show _ = _; unfold percent; rw [if_neg (by rw [hv]; simp)]
    rw [HE.out]
    rw [hv] at CV; clear hv
    go_enter Try.func15, Try.ntmps15
    go_wp2_with fail
    refine (CV.out _ (HD.out.ext eb)).mono ?_; rintro _ w1 ⟨rfl, e1⟩
    go_wp2
    go_ret
    exact ⟨rfl, eb.trans e1⟩
  · have HE := Lib.hid (percent_of (cov := cov) hv)
    have hn := (descOk_len hv).2
    have hpos := cnt_pos (descOk_len hv).1
    rw [hv] at CV
    have HV := Lib.hid hv; clear hv
    rw [HE.out]; clear HE
    go_enter Try.func15, Try.ntmps15
    go_wp2_with fail
    refine (CV.out _ (HD.out.ext eb)).mono ?_; rintro _ w1 ⟨rfl, s1⟩
    have e1 := eb.trans s1
    go_wp2_with fail
    refine (CP.out _ (HD.out.ext e1) HV.out).mono ?_; rintro _ w2 ⟨v, rfl, ho, s2⟩
    have hpl := possible_len ds
    obtain ⟨A1, c1, rfl, hr⟩ := ho.rd (by omega)
    have e2 := e1.trans s2
    have H2 := Lib.hid e2
    clear ho e2 s2 e1 s1
    obtain ⟨P, hP⟩ : ∃ P, possible ds = P := ⟨_, rfl⟩
    rw [hP] at hpl hpos hr ⊢
    have HP := Lib.hid hP; have HPL := Lib.hid hpl; clear hP
    have hPl := hr.len
    rw [← hpl] at hpos ⊢
    have HN : Hid (P.length ≤ 24) := by show _ ≤ _; omega
    clear hpl
    go_wp2
    go_loopw [6, 7, 8] (fun nn cc ix wr => ∃ k : Nat, k ≤ P.length ∧ nn = .int .i64 (cntUpTo P k : Nat) ∧ cc = .int .i64 (covUpTo P cov k : Nat) ∧ ix = .int .i64 k ∧ Ext w2 wr) (fun _ _ ix _ => P.length - (intOf ix).toNat)
    case atStart => exact ⟨0, by omega, by simp [cntUpTo, entriesUpTo], by simp [covUpTo, entriesUpTo], rfl, Ext.refl _⟩
    case round =>
      obtain ⟨k, hk, rfl, rfl, rfl, he⟩ := hrel
      have q1 := cnt_le P k; have q2 := cov_le P cov k
      have hn24 := HN.out
      by_cases hlt : k < P.length
      · obtain ⟨b, off, rfl, hb, hcl⟩ := hr.at k hlt
        have hz : P.getD k false = P[k] := by simp [hlt]
        have N1 := Lib.hid (cnt_no (c := P) (k := k)); have N2 := Lib.hid (cov_no (c := P) (cov := cov) (k := k)); have Y1 := Lib.hid (cnt_yes (c := P) (k := k)); have Y2 := Lib.hid (cov_in (c := P) (cov := cov) (k := k)); have Y3 := Lib.hid (cov_out (c := P) (cov := cov) (k := k))
        rw [hz] at N1 N2 Y1 Y2 Y3
        have C := Lib.hid (fun w h => CH.out w k h)
        generalize P[k] = z at *
        generalize decide (0 < at0 cov k) = y at *
        clear hz hpos
        have d1 : decide ((k : Int) < (P.length : Int)) = true := by simp; omega
        cases z
        · have E1 := Lib.hid (N1.out rfl); have E2 := Lib.hid (N2.out rfl); clear N1 N2 Y1 Y2 Y3
          go_wp2
          go_roundw
          case rel => exact ⟨k + 1, by omega, by rw [E1.out], by rw [E2.out], by go_num, he⟩
          case measure => simp [intOf]; omega
        · have E1 := Lib.hid (Y1.out rfl); clear N1 N2 Y1
          cases y
          · have E2 := Lib.hid (Y3.out rfl rfl); clear Y2 Y3
            go_wp2_with fail
            refine (C.out _ (HC.out.ext (H2.out.trans he))).mono ?_; rintro _ w3 ⟨rfl, s3⟩
            go_wp2
            go_roundw
            case rel => exact ⟨k + 1, by omega, by rw [E1.out]; go_num, by rw [E2.out], by go_num, he.trans s3⟩
            case measure => simp [intOf]; omega
          · have E2 := Lib.hid (Y2.out rfl rfl); clear Y2 Y3
            go_wp2_with fail
            refine (C.out _ (HC.out.ext (H2.out.trans he))).mono ?_; rintro _ w3 ⟨rfl, s3⟩
            go_wp2
            go_roundw
            case rel => exact ⟨k + 1, by omega, by rw [E1.out]; go_num, by rw [E2.out]; go_num, by go_num, he.trans s3⟩
            case measure => simp [intOf]; omega
      · obtain rfl : k = P.length := by omega
        have HF : Hid ((100 * (covUpTo P cov P.length : Int)) / (cntUpTo P P.length : Int) = ((100 * covUpTo (possible ds) cov ds.length : Nat) : Int) / ((cntUpTo (possible ds) ds.length : Nat) : Int)) := by
          show _ = _; rw [HP.out, ← HPL.out]; simp
        have hNz : ¬ ((cntUpTo P P.length : Int) = 0) := by omega
        generalize cntUpTo P P.length = N at *
        generalize covUpTo P cov P.length = M at *
        go_wp2
        go_ret
        exact ⟨ret_i64 HF.out, H2.out.trans he⟩
/-- covered entries among the first k of a list of entries -/
def covE (E : List Nat) (cov : List Int) (k : Nat) : Nat := ((E.take k).filter fun i => decide (0 < at0 cov i)).length
theorem covE_in {E : List Nat} {cov : List Int} {k : Nat} (hk : k < E.length) (h : decide (0 < at0 cov E[k]) = true) : covE E cov (k + 1) = covE E cov k + 1 := by
  unfold covE; rw [List.take_succ_eq_append_getElem hk, List.filter_append]; simp only [List.filter_cons, h, if_true]; simp
theorem covE_out {E : List Nat} {cov : List Int} {k : Nat} (hk : k < E.length) (h : decide (0 < at0 cov E[k]) = false) : covE E cov (k + 1) = covE E cov k := by
  unfold covE; rw [List.take_succ_eq_append_getElem hk, List.filter_append]; simp only [List.filter_cons, h, List.filter_nil]; simp
theorem covE_le (E : List Nat) (cov : List Int) (k : Nat) : covE E cov k ≤ k := by
  unfold covE; have := List.length_filter_le (fun i => decide (0 < at0 cov i)) (E.take k); rw [List.length_take] at this; omega
theorem entries_pos {ds : List DRule} (h : 0 < ds.length) : 0 < (entries ds).length := cnt_pos h
theorem entries_le (ds : List DRule) : (entries ds).length ≤ ds.length := cnt_le _ _
theorem entries_lt {ds : List DRule} {i : Nat} (h : i ∈ entries ds) : i < ds.length := by
  unfold entries at h; have := (List.mem_filter.1 h).1; simpa using this
set_option maxRecDepth 100000 in
set_option maxHeartbeats 4000000 in
theorem iPercent_c (A A' : Option Addr) (ds : List DRule) (c : Nat) (cov : List Int) (c' : Nat) (w : World) (hd : RdD w A ds c) (hs : ShortD ds) (hw : WfD ds) (hc : Is w A' cov c') :
    Gives Try.prog 18 #[vdesc (.slice A ds.length c), .slice A' cov.length c'] w (.int .i64 (percent ds cov)) := by
  have hl := hd.len
  have eb := Ext_alloc (.cells #[.slice A ds.length c] 30) (Ext.refl w)
  have BX := fun w' (e : Ext (w.alloc (.cells #[.slice A ds.length c] 30)) w') => boxed e
  have CV := Lib.hid (fun w h => iValidDesc_c A ds c w h hs hw)
  have CP := Lib.hid (fun w h hv => iEntry_c A ds c w h hv)
  have CH := Lib.hid (fun w (i : Nat) h (h1 : (i : Int) ≤ 140737488351232) => elementAt_c A' cov c' i w h h1)
  have HD := Lib.hid hd; have HC := Lib.hid hc; clear hd hc hs hw
  unfold vdesc at *
  cases hv : descOk ds
  · have HE : Hid (percent ds cov = 0) := by show _ = _; unfold percent; rw [if_neg (by rw [hv]; simp)]
    rw [HE.out]
    rw [hv] at CV; clear hv
    go_enter Try.func18, Try.ntmps18
    go_wp2_with fail
    refine (CV.out _ (HD.out.ext eb)).mono ?_; rintro _ w1 ⟨rfl, e1⟩
    go_wp2
    go_ret
    exact ⟨rfl, eb.trans e1⟩
  · have HE : Hid (percent ds cov = ((100 * covE (entries ds) cov (entries ds).length : Nat) : Int) / ((entries ds).length : Int)) := by
      show _ = _; unfold percent covered covE; rw [if_pos hv, List.take_length]
    have hn := (descOk_len hv).2
    have hpos := entries_pos (descOk_len hv).1
    have hle := entries_le ds
    have HLT := Lib.hid (fun i (h : i ∈ entries ds) => entries_lt h)
    rw [hv] at CV
    have HV := Lib.hid hv; clear hv
    rw [HE.out]; clear HE
    go_enter Try.func18, Try.ntmps18
    go_wp2_with fail
    refine (CV.out _ (HD.out.ext eb)).mono ?_; rintro _ w1 ⟨rfl, s1⟩
    have e1 := eb.trans s1
    go_wp2_with fail
    refine (CP.out _ (HD.out.ext e1) HV.out).mono ?_; rintro _ w2 ⟨v, rfl, ho, s2⟩
    have hel : (entriesI ds).length = (entries ds).length := by unfold entriesI; rw [List.length_map]
    obtain ⟨A1, c1, rfl, hr⟩ := ho.rd (by omega)
    have e2 := e1.trans s2
    have H2 := Lib.hid e2
    clear ho e2 s2 e1 s1
    have hat : ∀ k (hk : k < (entries ds).length), (entriesI ds)[k]? = some ((entries ds)[k] : Int) := fun k hk => by unfold entriesI; simp [hk]
    rw [hel]
    obtain ⟨E, hE⟩ : ∃ E, entries ds = E := ⟨_, rfl⟩
    rw [hE] at hel hpos hle HLT hat ⊢
    obtain ⟨EI, hEI⟩ : ∃ EI, entriesI ds = EI := ⟨_, rfl⟩
    rw [hEI] at hel hr hat
    have HEE := Lib.hid hE; clear hE hEI
    go_wp2
    go_loopw [6, 16] (fun cc ix wr => ∃ k : Nat, k ≤ E.length ∧ cc = .int .i64 (covE E cov k : Nat) ∧ ix = .int .i64 k ∧ Ext w2 wr) (fun _ ix _ => E.length - (intOf ix).toNat)
    case atStart => exact ⟨0, by omega, by simp [covE], rfl, Ext.refl _⟩
    case round =>
      obtain ⟨k, hk, rfl, rfl, he⟩ := hrel
      have q2 := covE_le E cov k
      by_cases hlt : k < E.length
      · obtain ⟨b, off, rfl, hb, hcl⟩ := hr.at k (by omega)
        have hx := hat k hlt
        rw [List.getElem?_eq_getElem (by omega)] at hx
        have hx := Option.some.inj hx
        rw [hx] at hcl
        have hEk := HLT.out _ (List.getElem_mem hlt)
        have Y := Lib.hid (covE_in (cov := cov) hlt); have N := Lib.hid (covE_out (cov := cov) hlt)
        have C := Lib.hid (fun w h => CH.out w E[k] h)
        have hY : Hid (∀ y, decide (0 < at0 cov E[k]) = y → decide (0 < at0 cov E[k]) = y) := fun _ h => h
        generalize E[k] = x at *
        generalize at0 cov x = z at *
        clear hpos hat hx
        by_cases hy : 0 < z
        · have E1 := Lib.hid (Y.out (decide_eq_true hy)); clear Y N
          go_wp2_with fail
          refine (C.out _ (HC.out.ext (H2.out.trans he)) (by omega)).mono ?_; rintro _ w3 ⟨rfl, s3⟩
          go_wp2
          go_roundw
          case rel => exact ⟨k + 1, by omega, by rw [E1.out]; go_num, by go_num, he.trans s3⟩
          case measure => simp [intOf]; omega
        · have E1 := Lib.hid (N.out (decide_eq_false hy)); clear Y N
          go_wp2_with fail
          refine (C.out _ (HC.out.ext (H2.out.trans he)) (by omega)).mono ?_; rintro _ w3 ⟨rfl, s3⟩
          go_wp2
          go_roundw
          case rel => exact ⟨k + 1, by omega, by rw [E1.out], by go_num, he.trans s3⟩
          case measure => simp [intOf]; omega
      · obtain rfl : k = E.length := by omega
        have HF : Hid ((100 * (covE E cov E.length : Int)) / (E.length : Int) = ((100 * covE (entries ds) cov (entries ds).length : Nat) : Int) / ((entries ds).length : Int)) := by
          show _ = _; rw [HEE.out]; simp
        have hNz : ¬ ((E.length : Int) = 0) := by omega
        generalize covE E cov E.length = M at *
        go_wp2
        go_ret
        exact ⟨ret_i64 HF.out, H2.out.trans he⟩
end Go.Proofs.Ytmnenemnplpigaa
