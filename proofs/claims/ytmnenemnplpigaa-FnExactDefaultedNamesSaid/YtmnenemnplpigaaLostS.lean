/- LostNames of the program and of the reference: the walks. -/
import Derived.Test.YtmnenemnplpigaaLostI
namespace Go.Proofs.Ytmnenemnplpigaa
open Go.RowKit Go.Sort

set_option maxRecDepth 100000 in
set_option maxHeartbeats 4000000 in
theorem sLost_c (A A' : Option Addr) (a b : List DRule) (c c' : Nat) (ra rb : Int) (w : World) (ha : RdD w A a c) (hb : RdD w A' b c') (hsa : ShortD a) (hwa : WfD a) (hsb : ShortD b) (hwb : WfD b) (hL : szD a ≤ 1048576) :
    Calls Try.prog 67 #[vdesc (.slice A a.length c), .int .i64 ra, vdesc (.slice A' b.length c'), .int .i64 rb] w fun e w' => ∃ v, e = .returned v ∧ OwnL vstr 9 w w' v (lost a ra b rb) ∧ Ext w w' := by
  have hl := ha.len
  have hl' := hb.len
  have eb := Ext_alloc (.cells #[.slice A' b.length c'] 30) (Ext_alloc (.cells #[.slice A a.length c] 30) (Ext.refl w))
  have BX := fun w' (e : Ext ((w.alloc (.cells #[.slice A a.length c] 30)).alloc (.cells #[.slice A' b.length c'] 30)) w') => boxed2 e
  have B0 := fun w' e => (BX w' e).1
  have B1 := fun w' e => (BX w' e).2.1
  clear BX
  have CA := Lib.hid (fun w h => sKnown_c A a c ra w h hsa hwa)
  have CB := Lib.hid (fun w h => sKnown_c A' b c' rb w h hsb hwb)
  unfold vdesc at *
  obtain ⟨W0, hW0⟩ : ∃ W0, W0 = ((w.alloc (.cells #[.slice A a.length c] 30)).alloc (.cells #[.slice A' b.length c'] 30)) := ⟨_, rfl⟩
  rw [← hW0] at eb B0 B1
  have hs0 : W0.heap.size = w.heap.size + 1 + 1 := by rw [hW0]; simp
  have OE := OwnL.empty (f := vstr) (e := 9) (Ext.refl W0)
  rw [hs0] at OE
  have HOE := Lib.hid OE; have HW0 := Lib.hid hW0
  have x0 := Ext_alloc (.cells #[] 9) (Ext.refl W0)
  clear OE hW0 hs0
  cases hka : knownB a ra
  · have HE : Hid (lost a ra b rb = []) := by show _ = _; unfold lost; rw [hka]; rfl
    rw [hka] at CA; clear hka
    go_enter Try.func67, Try.ntmps67
    go_wp2_with fail
    rw [← HW0.out]
    refine (CA.out _ (ha.ext (eb.trans x0))).mono ?_; rintro _ w1 ⟨rfl, s1⟩
    have e1 := x0.trans s1
    go_wp2
    go_ret
    refine ⟨_, rfl, ?_, eb.trans (x0.trans s1)⟩
    rw [HE.out]; exact (HOE.out.ext s1).down eb.size
  cases hkb : knownB b rb
  · have HE : Hid (lost a ra b rb = []) := by show _ = _; unfold lost; rw [hka, hkb]; rfl
    rw [hka] at CA; clear hka
    rw [hkb] at CB; clear hkb
    go_enter Try.func67, Try.ntmps67
    go_wp2_with fail
    rw [← HW0.out]
    refine (CA.out _ (ha.ext (eb.trans x0))).mono ?_; rintro _ w1 ⟨rfl, s1⟩
    have e1 := x0.trans s1
    go_wp2_with fail
    refine (CB.out _ (hb.ext (eb.trans (x0.trans s1)))).mono ?_; rintro _ w2 ⟨rfl, s2⟩
    go_wp2
    go_ret
    refine ⟨_, rfl, ?_, eb.trans (x0.trans (s1.trans s2))⟩
    rw [HE.out]; exact (HOE.out.ext (s1.trans s2)).down eb.size
  obtain ⟨i, hi, rfl⟩ := knownB_at hka
  obtain ⟨j, hj, rfl⟩ := knownB_at hkb
  have HLV : Hid (lost a (i : Int) b (j : Int) = if a[i].kind = 6 then if b[j].kind = 6 then lostN a[i] b[j] else [] else []) := lost_at hka hkb hi hj
  have hln : a[i].names.length ≤ 1048576 := names_len hL (List.getElem_mem hi)
  rw [hka] at CA; clear hka
  rw [hkb] at CB; clear hkb
  obtain ⟨ba, oa, Ab, cb, An, cn, At, ct, Ak, ck, rfl, hba, hSa, hRa⟩ := ha.at i hi
  obtain ⟨bb, ob, Ab', cb', An', cn', At', ct', Ak', ck', rfl, hbb, hSb, hRb⟩ := hb.at j hj
  have hna := hSa.n.ext eb; have hnb := hSb.n.ext eb
  have HA := Lib.hid ha; have HB := Lib.hid hb
  generalize a[i] = p at *
  generalize b[j] = q at *
  obtain ⟨l0, l1, l2, l3, l4, l5, l6, l7⟩ := hRa.ext eb
  obtain ⟨m0, m1, m2, m3, m4, m5, m6, m7⟩ := hRb.ext eb
  have hkp := hna.len; have hkq := hnb.len
  clear ha hb hRa hRb hSa hSb l0 l2 l3 l4 l6 l7 m0 m2 m3 m4 m6 m7
  have CT := Lib.hid (fun s w h => sContains_c An' q.names cn' s w h)
  have HNB := Lib.hid hnb; clear hnb
  by_cases hp6 : ¬ p.kind = 6
  · have HE : Hid (lost a i b j = []) := by show _ = _; rw [HLV.out, if_neg hp6]
    go_enter Try.func67, Try.ntmps67
    go_wp2_with fail
    rw [← HW0.out]
    refine (CA.out _ (HA.out.ext (eb.trans x0))).mono ?_; rintro _ w1 ⟨rfl, s1⟩
    have e1 := x0.trans s1
    go_wp2_with fail
    refine (CB.out _ (HB.out.ext (eb.trans (x0.trans s1)))).mono ?_; rintro _ w2 ⟨rfl, s2⟩
    have e2 := x0.trans (s1.trans s2)
    go_wp2
    go_ret
    refine ⟨_, rfl, ?_, eb.trans (x0.trans (s1.trans s2))⟩
    rw [HE.out]; exact (HOE.out.ext (s1.trans s2)).down eb.size
  replace hp6 := Classical.not_not.1 hp6
  by_cases hq6 : ¬ q.kind = 6
  · have HE : Hid (lost a i b j = []) := by show _ = _; rw [HLV.out, if_pos hp6, if_neg hq6]
    go_enter Try.func67, Try.ntmps67
    go_wp2_with fail
    rw [← HW0.out]
    refine (CA.out _ (HA.out.ext (eb.trans x0))).mono ?_; rintro _ w1 ⟨rfl, s1⟩
    have e1 := x0.trans s1
    go_wp2_with fail
    refine (CB.out _ (HB.out.ext (eb.trans (x0.trans s1)))).mono ?_; rintro _ w2 ⟨rfl, s2⟩
    have e2 := x0.trans (s1.trans s2)
    go_wp2
    go_ret
    refine ⟨_, rfl, ?_, eb.trans (x0.trans (s1.trans s2))⟩
    rw [HE.out]; exact (HOE.out.ext (s1.trans s2)).down eb.size
  replace hq6 := Classical.not_not.1 hq6
  have HE : Hid (lost a i b j = lostN p q) := by show _ = _; rw [HLV.out, if_pos hp6, if_pos hq6]
  go_enter Try.func67, Try.ntmps67
  go_wp2_with fail
  rw [← HW0.out]
  refine (CA.out _ (HA.out.ext (eb.trans x0))).mono ?_; rintro _ w1 ⟨rfl, s1⟩
  have e1 := x0.trans s1
  go_wp2_with fail
  refine (CB.out _ (HB.out.ext (eb.trans (x0.trans s1)))).mono ?_; rintro _ w2 ⟨rfl, s2⟩
  have e2 := x0.trans (s1.trans s2)
  have HO1 := Lib.hid (HOE.out.ext (s1.trans s2))
  clear s1 s2 HOE CA CB HLV HA HB x0
  go_wp2
  go_loopw [9, 10] (fun t q' wr => ∃ k : Nat, k ≤ p.names.length ∧ q' = .int .i64 k ∧ Hid (OwnL vstr 9 W0 wr t ((p.names.take k).filter (fun s => !hasNm q.names s))) ∧ Ext W0 wr) (fun _ q' _ => p.names.length - (intOf q').toNat)
  case atStart => exact ⟨0, by omega, rfl, by simpa [Hid] using HO1.out, e2⟩
  case round =>
    clear HO1 e2
    obtain ⟨k, hk, rfl, ho, he⟩ := hrel
    by_cases hlt : k < p.names.length
    · obtain ⟨bn, on, rfl, hbn, hcn⟩ := hna.at k hlt
      have HY : Hid (hasNm q.names p.names[k] = false → (p.names.take k).filter (fun s => !hasNm q.names s) ++ [p.names[k]] = (p.names.take (k+1)).filter (fun s => !hasNm q.names s)) := by
        intro h; rw [List.take_succ_eq_append_getElem hlt, List.filter_append]; simp [h]
      have HN : Hid (hasNm q.names p.names[k] = true → (p.names.take k).filter (fun s => !hasNm q.names s) = (p.names.take (k+1)).filter (fun s => !hasNm q.names s)) := by
        intro h; rw [List.take_succ_eq_append_getElem hlt, List.filter_append]; simp [h]
      have hsl : ((p.names.take k).filter (fun s => !hasNm q.names s)).length ≤ k := by
        have h1 := List.length_filter_le (fun s => !hasNm q.names s) (p.names.take k); rw [List.length_take] at h1; omega
      have HB : Hid ((((p.names.take k).filter (fun s => !hasNm q.names s)).length + [p.names[k]].length) * 16 ≤ 140737488355328) := by show _ ≤ _; simp only [List.length_cons, List.length_nil]; omega
      generalize (p.names.take k).filter (fun s => !hasNm q.names s) = L at *
      obtain ⟨L', hL''⟩ : ∃ L', (p.names.take (k+1)).filter (fun s => !hasNm q.names s) = L' := ⟨_, rfl⟩
      rw [hL''] at HY HN
      have HLL := Lib.hid hL''; clear hL''
      have C := Lib.hid (fun w h => CT.out p.names[k] w h)
      generalize p.names[k] = x at *
      clear hna hsl
      generalize hasNm q.names x = z at *
      cases z
      · have HE := Lib.hid (HY.out rfl); clear HY HN
        go_wp2_with fail
        refine wp_region_quiet_below (by kernel_rfl) (by kernel_rfl) ?_
        repeat (go_big_quiet_step ((go_at_call 111; exact Calls.regrown_of (C.out _ (HNB.out.ext (by first | assumption | exact Ext_regrown _ _ he))))))
        refine wpQuiet_nil ?_
        rintro w3 ⟨⟨nq, osq⟩, hq⟩
        have ew3 := ext_of_q hq
        clear hq nq osq
        have s3 := ew3
        have HO := Lib.hid (ho.out.ext s3)
        have e3 := he.trans s3
        go_wp2_with (first
          | (at_builtin; go_must (refine wpList_appN rfl (.tmp 69) (.tmp 79) _ rfl E_str (by omega) W0 _ vstr (fun _ => rfl) _ rfl _ _ rfl L [x] _ rfl HO.out e3 rfl HB.out ?_); intro v1 w4 ho1 he1; rw [HE.out, ← HLL.out] at ho1))
        have H1 := Lib.hid ho1; clear ho1
        go_roundw
        case rel => exact ⟨k+1, by omega, by go_num, H1, he1⟩
        case measure => simp [intOf]; omega
      · have HE := Lib.hid (HN.out rfl); clear HY HN
        go_wp2_with fail
        refine wp_region_quiet_below (by kernel_rfl) (by kernel_rfl) ?_
        repeat (go_big_quiet_step ((go_at_call 111; exact Calls.regrown_of (C.out _ (HNB.out.ext (by first | assumption | exact Ext_regrown _ _ he))))))
        refine wpQuiet_nil ?_
        rintro w3 ⟨⟨nq, osq⟩, hq⟩
        have ew3 := ext_of_q hq
        clear hq nq osq
        have s3 := ew3
        have ho1 := ho.out.ext s3
        rw [HE.out, ← HLL.out] at ho1
        have H1 := Lib.hid ho1; clear ho1
        go_wp2
        go_roundw
        case rel => exact ⟨k+1, by omega, by go_num, H1, he.trans s3⟩
        case measure => simp [intOf]; omega
    · have HF : Hid ((p.names.take k).filter (fun s => !hasNm q.names s) = lostN p q) := by show _ = _; unfold lostN; rw [List.take_of_length_le (by omega)]
      go_wp2
      go_ret
      refine ⟨_, rfl, ?_, eb.trans he⟩
      rw [HE.out, ← HF.out]; exact ho.out.down eb.size
end Go.Proofs.Ytmnenemnplpigaa
