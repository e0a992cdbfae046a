/- The walk of the law on logs: a crash leaves a beginning of the records, the stored ones at least. -/
import Derived.Test.YtcaeeoghkonniaaDrawCrash
import Derived.Test.YtcaeeoghkonniaaDrawAny3
import Derived.Test.YtcaeeoghkonniaaLogsPure2
import Derived.Test.YtcaeeoghkonniaaHeldRecs
import Derived.Test.YtcaeeoghkonniaaCrash
import Derived.Test.YtcaeeoghkonniaaLawRuns
import Derived.Deep.RegionHeld3
namespace Go.Proofs.Ytcaeeoghkonniaa
open Go.RowKit Go.Sort

theorem recs_dlen' (b : List UInt8) (a : Nat) : ∀ r ∈ recs b a, r.l.length ≤ 400 := by
  have key : ∀ f a, ∀ r ∈ (readF f b a).1, r.l.length ≤ 400 := by
    intro f
    induction f with
    | zero => intro a r hr; simp [readF] at hr
    | succ f ih =>
      intro a r hr
      rw [readF] at hr
      cases hd : decN b a with
      | none => rw [hd] at hr; simp at hr
      | some x =>
        rw [hd] at hr
        simp only [List.mem_cons] at hr
        rcases hr with rfl | hr
        · have := validRec_facts (decN_some hd).2.1; omega
        · exact ih _ r hr
  exact key _ a
/-- the first records of two slices: all that the first one has -/
theorem pre_at {ps qs : List (DRec × Value)} {R T : List DRec} (hp : ps.map Prod.fst = R) (hq : qs.map Prod.fst = T) (h : R <+: T) : ps.length ≤ qs.length ∧ ∀ k (h1 : k < ps.length) (h2 : k < qs.length), ps[k].1 = qs[k].1 := by
  have hl := h.length_le
  rw [← hp, ← hq, List.length_map, List.length_map] at hl
  refine ⟨hl, fun k h1 h2 => ?_⟩
  obtain ⟨t, rfl⟩ := h
  have h3 : (qs.map Prod.fst)[k]? = (ps.map Prod.fst ++ t)[k]? := by rw [hq, hp]
  rw [List.getElem?_append_left (by simpa using h1)] at h3
  simpa [h1, h2] using h3.symm
theorem btoi_c (b : Bool) (w : World) : Gives Try.prog 18 #[.bool b] w (.int .i64 (if b then 1 else 0)) := by
  cases b
  all_goals
    go_enter Try.func18, Try.ntmps18
    go_wp2
    go_ret
    exact ⟨rfl, Ext.refl _⟩
set_option maxRecDepth 100000 in
set_option maxHeartbeats 8000000 in
theorem lawLogs_c (A : Option Addr) (l : List UInt8) (c : Nat) (w : World) (h : Rd0 vu8 w A l c) :
    Gives Try.prog 3 #[.slice A l.length c] w (.bool true) := by
  have hl := h.len
  by_cases hL : (1048576 : Int) < (l.length : Int)
  · have HD : Hid (decide ((1048576 : Int) < (l.length : Int)) = true) := by show _ = _; simpa using hL
    go_enter Try.func3, Try.ntmps3
    go_wp2_with fail
    refine (big_c _ _ _ _ h).mono ?_; rintro _ w1 ⟨rfl, he1⟩; rw [HD.out]
    go_wp2
    go_ret
    exact ⟨rfl, he1⟩
  have HD : Hid (decide ((1048576 : Int) < (l.length : Int)) = false) := by show _ = _; simpa using hL
  have hA : Bs w A l c := ⟨h, by omega⟩
  clear hL
  go_enter Try.func3, Try.ntmps3
  go_wp2_with fail
  refine (big_c _ _ _ _ h).mono ?_; rintro _ w1 ⟨rfl, he1⟩; rw [HD.out]
  go_wp2_with fail
  refine (drawCrash_c _ _ _ _ (hA.ext he1)).mono ?_; rintro _ w2 ⟨d, s, v2, n, hd, rfl, ho2, he2⟩
  obtain ⟨A2, c2, rfl, r2⟩ := OwnL.rd ho2 (by omega)
  have e2 := he1.trans he2
  clear he1 he2 ho2
  have x2 := Ext_alloc (.cells #[.slice A2 d.length c2, .int .i64 s] 25) (Ext.refl w2)
  have B2 := fun w' (e : Ext (w2.alloc (.cells #[.slice A2 d.length c2, .int .i64 s] 25)) w') => boxed e
  have hL2 : d.length ≤ 1099511627776 := by omega
  have CC := Lib.hid (fun w h => iCrashLog_c A2 d c2 s n w h hL2)
  have FB : Hid (validLog d s = false → d.take (crashEnd d s n) = d ∧ crashAt d s n = s) := fun hv => ⟨by rw [(crash_bad n hv).1, List.take_length], (crash_bad n hv).2⟩
  have FG : Hid (validLog d s = true → recs (d.take (crashEnd d s n)) 0 <+: recs d 0 ∧ recs (d.take s.toNat) 0 <+: recs (d.take (crashEnd d s n)) 0 ∧ validLog (d.take (crashEnd d s n)) (crashAt d s n) = true ∧ ((d.take (crashEnd d s n)).length : Int) = crashAt d s n) := fun hv => crash_facts n hv
  have hdl : (d.take (crashEnd d s n)).length ≤ 4001 := by rw [List.length_take]; omega
  generalize crashAt d s n = cs at *
  generalize d.take (crashEnd d s n) = E at *
  have CV := Lib.hid (fun w h => sIsValidLog_c A2 d c2 s w h hL2)
  have CW := Lib.hid (fun w h => iIsValidLog_c A2 d c2 s w h hL2)
  unfold vlog at *
  go_wp2_with fail
  refine (CC.out _ (r2.ext x2)).mono ?_; rintro _ w3 ⟨v3, rfl, ho3, s3⟩
  obtain ⟨A3, c3, hv3, r3⟩ := OwnL.rd ho3 (by omega)
  subst hv3
  replace r2 := (r2.ext x2).ext s3; replace e2 := (e2.trans x2).trans s3
  replace B2 := fun w' (e : Ext w3 w') => B2 w' (s3.trans e)
  clear ho3 s3 x2
  have x3 := Ext_alloc (.cells #[.slice A3 E.length c3, .int .i64 cs] 25) (Ext.refl w3)
  have B3 := fun w' (e : Ext (w3.alloc (.cells #[.slice A3 E.length c3, .int .i64 cs] 25)) w') => boxed e
  cases hv : validLog d s
  · obtain ⟨q1, q2⟩ := FB.out hv
    rw [hv] at CV CW
    have CE := Lib.hid (fun w h h' => iEqualLogs_c A3 A2 E d c3 c2 cs s w h h')
    have HT : Hid ((cs == s && E == d) = true) := by show _ = _; rw [q1, q2]; simp
    rw [HT.out] at CE
    unfold vlog at CE
    clear q1 q2 HT hv FB FG
    go_wp2_with fail
    refine (CV.out _ (r2.ext x3)).mono ?_; rintro _ w4 ⟨rfl, s4⟩
    replace B2 := fun w' (e : Ext w4 w') => B2 w' ((x3.trans s4).trans e); replace B3 := fun w' (e : Ext w4 w') => B3 w' (s4.trans e)
    replace r2 := (r2.ext x3).ext s4; replace r3 := (r3.ext x3).ext s4; replace e2 := (e2.trans x3).trans s4
    clear x3 s4
    go_wp2_with fail
    refine (CE.out _ r3 r2).mono ?_; rintro _ w5 ⟨rfl, s5⟩
    replace B2 := fun w' (e : Ext w5 w') => B2 w' (s5.trans e)
    go_wp2_with fail
    refine (CW.out _ (r2.ext s5)).mono ?_; rintro _ w6 ⟨rfl, s6⟩
    go_wp2
    go_ret
    exact ⟨rfl, (e2.trans s5).trans s6⟩
  obtain ⟨f1, f2, f3, f4⟩ := FG.out hv
  clear FB FG
  obtain ⟨h0, h1, h2, h3⟩ := validLog_facts hv
  obtain ⟨sn, rfl⟩ := Int.eq_ofNat_of_zero_le h0
  rw [Int.toNat_natCast] at f2 h3
  have AF := Lib.hid (fun k nm ver q => app_facts (k := k) hv nm ver q)
  rw [hv] at CV
  have HC : Hid ((cs != (E.length : Int)) = false) := by show _ = _; rw [f4]; simp
  have HCd : Hid ((((stop d 0 : Nat) : Int) != (d.length : Int)) = false) := by show _ = _; rw [h2]; simp
  have hsn : sn ≤ d.length := by omega
  have F1 := Lib.hid f1; have F2 := Lib.hid f2
  have CWE := Lib.hid (fun w h => iIsValidLog_c A3 E c3 cs w h (by omega))
  rw [f3] at CWE
  have CR := Lib.hid (fun w h => iReadRecords_c A2 d c2 w h hL2)
  have CRE := Lib.hid (fun w h => iReadRecords_c A3 E c3 w h (by omega))
  have hdT : (d.take sn).length = sn := by rw [List.length_take]; omega
  have CRS : Hid (∀ w', Bs w' A2 (d.take sn) c2 → Calls Try.prog 11 #[.slice A2 sn c2] w' fun e w'' => ∃ v ps, e = .returned (.tuple #[v, .int .i64 (stop (d.take sn) 0 : Nat)]) ∧ ps.map Prod.fst = recs (d.take sn) 0 ∧ OwnR w' w'' v ps ∧ Ext w' w'') := by
    intro w' h'
    have := sReadRecords_c A2 (d.take sn) c2 w' h' (by omega)
    rwa [hdT] at this
  have hlens : ∀ b : List UInt8, b.length ≤ 4001 → ∀ ps : List (DRec × Value), ps.map Prod.fst = recs b 0 → ps.length ≤ 1099511627776 ∧ ∀ p ∈ ps, p.1.l.length ≤ 140737488351232 := by
    intro b hb ps hp
    have h5 := recs_le (b := b) (a := 0) (by omega)
    have h6 := congrArg List.length hp
    rw [List.length_map] at h6
    exact ⟨by omega, fun p hm => by have := recs_dlen' b 0 p.1 (by rw [← hp]; exact List.mem_map_of_mem hm); omega⟩
  have HLN := Lib.hid hlens
  have hcapd := r2.cap
  clear f1 f2 f3 f4 h0 h1 h2 h3 hv hlens hdT
  unfold vlog at CWE
  have g1 := Lib.hid HCd.out
  generalize stop d 0 = s1 at *
  generalize stop (d.take sn) 0 = s2 at *
  go_wp2_with fail
  refine (CV.out _ (r2.ext x3)).mono ?_; rintro _ w4 ⟨rfl, s4⟩
  replace B2 := fun w' (e : Ext w4 w') => B2 w' ((x3.trans s4).trans e); replace B3 := fun w' (e : Ext w4 w') => B3 w' (s4.trans e)
  replace r2 := (r2.ext x3).ext s4; replace r3 := (r3.ext x3).ext s4; replace e2 := (e2.trans x3).trans s4
  clear x3 s4 CV CW
  go_wp2_with fail
  refine (CR.out _ r2).mono ?_; rintro _ w5 ⟨v5, ps5, rfl, hp5, ho5, s5⟩
  obtain ⟨A5, c5, rfl, r5⟩ := ho5.rd (HLN.out d (by omega) _ hp5).1 (HLN.out d (by omega) _ hp5).2
  have HP5 := Lib.hid hp5
  replace B2 := fun w' (e : Ext w5 w') => B2 w' (s5.trans e); replace B3 := fun w' (e : Ext w5 w') => B3 w' (s5.trans e)
  replace r2 := r2.ext s5; replace r3 := r3.ext s5; replace e2 := e2.trans s5
  clear s5 hp5 ho5
  go_wp2_with fail
  refine (CRS.out _ (r2.take sn)).mono ?_; rintro _ w6 ⟨v6, ps6, rfl, hp6, ho6, s6⟩
  obtain ⟨A6, c6, rfl⟩ := ho6.shape
  have HP6 := Lib.hid hp6
  replace B2 := fun w' (e : Ext w6 w') => B2 w' (s6.trans e); replace B3 := fun w' (e : Ext w6 w') => B3 w' (s6.trans e)
  replace r2 := r2.ext s6; replace r3 := r3.ext s6; replace e2 := e2.trans s6; replace r5 := r5.ext s6
  clear s6 hp6 ho6
  go_wp2_with fail
  refine (CRE.out _ r3).mono ?_; rintro _ w7 ⟨v7, ps7, rfl, hp7, ho7, s7⟩
  obtain ⟨A7, c7, rfl, r7⟩ := ho7.rd (HLN.out E hdl _ hp7).1 (HLN.out E hdl _ hp7).2
  have P1 := pre_at hp7 HP5.out F1.out
  have P2 := pre_at HP6.out hp7 F2.out
  replace B2 := fun w' (e : Ext w7 w') => B2 w' (s7.trans e); replace B3 := fun w' (e : Ext w7 w') => B3 w' (s7.trans e)
  replace r2 := r2.ext s7; replace r3 := r3.ext s7; replace e2 := e2.trans s7; replace r5 := r5.ext s7
  have d1 : decide (ps7.length < ps6.length) = false := by have := P2.1; simp; omega
  have d2 : decide (ps5.length < ps7.length) = false := by have := P1.1; simp; omega
  have d3 := HCd.out; have d4 := HC.out
  have PE := Lib.hid P1.2; have PL := P1.1; have PN := r7.2.1; have PM := r5.2.1
  clear s7 hp7 ho7 P1 P2 CR CRS CRE HLN F1 F2 HP6 HC HCd
  go_wp2_with fail
  refine (CWE.out _ r3).mono ?_; rintro _ w8 ⟨rfl, s8⟩
  replace B2 := fun w' (e : Ext w8 w') => B2 w' (s8.trans e)
  replace r2 := r2.ext s8; replace e2 := e2.trans s8; replace r5 := r5.ext s8; replace r7 := r7.ext s8
  clear s8 d1 d2 d3 d4 B3 r3 CWE
  go_wp2
  go_loopw [12] (fun i wr => ∃ k : Nat, k ≤ ps7.length ∧ i = .int .i64 k ∧ Ext w8 wr) (fun i _ => ps7.length - (intOf i).toNat)
  case atStart => exact ⟨0, by omega, rfl, Ext.refl _⟩
  case round =>
    obtain ⟨k, hk, rfl, hx⟩ := hrel
    by_cases hlt : k < ps7.length
    · have hlt' : k < ps5.length := by omega
      obtain ⟨b, rfl, hb, hc⟩ := r7.2.2.2 (by omega)
      obtain ⟨b', rfl, hb', hc'⟩ := r5.2.2.2 (by omega)
      obtain ⟨Aa, ca, hv1, ra⟩ := r7.2.2.1 ps7[k] (List.getElem_mem hlt)
      obtain ⟨Ab, cb, hv2, rb⟩ := r5.2.2.1 ps5[k] (List.getElem_mem hlt')
      have hck := fun w' e => hc w' e k hlt
      have hck' := fun w' e => hc' w' e k hlt'
      have hee := PE.out k hlt hlt'
      rw [hv1] at hck; rw [hv2] at hck'
      obtain ⟨r, hr⟩ : ∃ r, ps5[k].1 = r := ⟨_, rfl⟩
      rw [hr] at hck' rb hee
      rw [hee] at hck ra
      obtain ⟨kk, nm, ver, dd⟩ := r
      dsimp only at hck hck' ra rb
      have CE := Lib.hid (fun w h h' => sEqualRecords_c kk nm ver Aa dd ca kk nm ver Ab dd cb w h h')
      have HE3 : Hid ((kk == kk && nm.toList == nm.toList && ver == ver && dd == dd) = true) := by simp [Hid]
      rw [HE3.out] at CE
      unfold vrec at CE
      have hk0 := fun w' e => (hck w' e).1; have hk1 := fun w' e => (hck w' e).2.1; have hk2 := fun w' e => (hck w' e).2.2.1; have hk3 := fun w' e => (hck w' e).2.2.2
      have hj0 := fun w' e => (hck' w' e).1; have hj1 := fun w' e => (hck' w' e).2.1; have hj2 := fun w' e => (hck' w' e).2.2.1; have hj3 := fun w' e => (hck' w' e).2.2.2
      clear hck hck' hc hc' r5 r7 hv1 hv2 hee hr B2 r2
      go_wp2_with fail
      refine wp_region_quiet_below (by kernel_rfl) (by kernel_rfl) ?_
      repeat (go_big_quiet_step ((go_at_call 12; exact Calls.regrown_of (CE.out _ (ra.ext (by first | assumption | exact Ext_regrown _ _ hx)) (rb.ext (by first | assumption | exact Ext_regrown _ _ hx))))))
      refine wpQuiet_nil ?_
      rintro w9 ⟨⟨nq, osq⟩, hq⟩
      have ew9 := ext_of_q hq
      clear hq nq osq
      go_wp2
      go_roundw
      case rel => exact ⟨k+1, by omega, by go_num, hx.trans ew9⟩
      case measure => simp [intOf]; omega
    · obtain ⟨w9, rfl⟩ : ∃ wo : World, wo = wr := ⟨_, rfl⟩
      replace B2 := fun w' (e : Ext w9 w') => B2 w' (hx.trans e)
      replace r2 := r2.ext hx; replace e2 := e2.trans hx
      have hP5 := congrArg List.length HP5.out
      rw [List.length_map] at hP5
      have HP := Lib.hid hP5
      clear hx r5 r7 PE HP5 hP5
      go_wp2_with fail
      refine (drawRecord_c _ _ _ _ (hA.ext e2)).mono ?_; rintro _ w10 ⟨rk, rn, rv, rd, v10, hrn, hrd, rfl, ho10, s10⟩
      obtain ⟨A10, c10, rfl, r10⟩ := OwnL.rd ho10 (by omega)
      replace B2 := fun w' (e : Ext w10 w') => B2 w' (s10.trans e)
      replace r2 := r2.ext s10; replace e2 := e2.trans s10
      clear s10 ho10
      have x10 := Ext_alloc (.cells #[.int .i64 rk, .string rn, .int .i64 rv, .slice A10 rd.length c10] 36) (Ext.refl w10)
      have B10 := fun w' (e : Ext (w10.alloc (.cells #[.int .i64 rk, .string rn, .int .i64 rv, .slice A10 rd.length c10] 36)) w') => boxed e
      have CA := Lib.hid (fun w h h' => iAppendRecord_c A2 d c2 sn rk rn rv A10 rd c10 w h h' (by omega) hL2)
      have CS := Lib.hid (fun w => sIsValidRecord_c rk rn rv A10 rd c10 w (by omega) (by omega))
      obtain ⟨a1, a2, a3⟩ := AF.out rk rn rv rd
      have hgl : (appBytes d sn rk rn rv rd).length ≤ 4819 := by
        unfold appBytes; split
        · rw [List.length_append]; have := encRec_le rk rn rv rd; omega
        · omega
      obtain ⟨t1, t4, t5⟩ := store_crash a2
      rw [a3] at CA
      rw [← HP.out] at a1
      generalize appBytes d sn rk rn rv rd = G at *
      clear a2 a3 AF CC
      unfold vlog vrec at *
      go_wp2_with fail
      refine (CA.out _ (r2.ext x10) (r10.ext x10)).mono ?_; rintro _ w11 ⟨v11, rfl, ho11, s11⟩
      obtain ⟨A11, c11, rfl, r11⟩ := OwnL.rd ho11 (by omega)
      replace B10 := fun w' (e : Ext w11 w') => B10 w' (s11.trans e)
      replace e2 := (e2.trans x10).trans s11
      clear s11 ho11 x10 r10 r2 B2 CA
      have x11 := Ext_alloc (.cells #[.slice A11 G.length c11, .int .i64 sn] 25) (Ext.refl w11)
      have B11 := fun w' (e : Ext (w11.alloc (.cells #[.slice A11 G.length c11, .int .i64 sn] 25)) w') => boxed e
      have CT := Lib.hid (fun w h => iStoreLog_c A11 G c11 sn w h (by omega))
      have CN := Lib.hid (fun w h => iCountRecords_c A11 G c11 sn w h (by omega))
      rw [t1] at CT
      unfold vlog at CT CN
      go_wp2_with fail
      refine (CT.out _ (r11.ext x11)).mono ?_; rintro _ w12 ⟨v12, rfl, ho12, s12⟩
      obtain ⟨A12, c12, rfl, r12⟩ := OwnL.rd ho12 (by omega)
      replace B10 := fun w' (e : Ext w12 w') => B10 w' ((x11.trans s12).trans e); replace B11 := fun w' (e : Ext w12 w') => B11 w' (s12.trans e)
      replace e2 := (e2.trans x11).trans s12
      replace r11 := (r11.ext x11).ext s12
      clear s12 ho12 x11 CT
      have x12 := Ext_alloc (.cells #[.slice A12 G.length c12, .int .i64 G.length] 25) (Ext.refl w12)
      have B12 := fun w' (e : Ext (w12.alloc (.cells #[.slice A12 G.length c12, .int .i64 G.length] 25)) w') => boxed e
      replace B10 := fun w' (e : Ext _ w') => B10 w' (x12.trans e); replace B11 := fun w' (e : Ext _ w') => B11 w' (x12.trans e)
      replace e2 := e2.trans x12
      replace r11 := r11.ext x12; replace r12 := r12.ext x12
      have CK := Lib.hid (fun w h => iCrashLog_c A12 G c12 (G.length : Int) 0 w h (by omega))
      rw [t4, t5] at CK
      rw [List.take_length] at CK
      unfold vlog at CK
      have HQ : Hid ((((G.length : Int) == (G.length : Int)) && (G == G)) = true) := by show _ = _; simp
      generalize recs G 0 = RG at *
      generalize validRec rk rn rv rd.length = q at *
      have PM1 : (ps5.length : Int) + 1 ≤ 1099511627777 := by omega
      cases q
      all_goals
        simp only [Bool.false_eq_true, if_false, if_true, Nat.add_zero] at a1
        rw [a1] at CN
        clear a1 t1 t4 t5 HP
      · have CB : Hid (∀ w, Gives Try.prog 18 #[.bool false] w (.int .i64 0)) := fun w => btoi_c false w
        have hw0 : IntKind.i64.wrap ((ps5.length : Int) + 0) = (ps5.length : Int) := by rw [Int.add_zero]; exact IntWalk.i64_in _ (by omega)
        have hw1 : IntKind.i64.wrap (ps5.length : Int) = (ps5.length : Int) := IntWalk.i64_in _ (by omega)
        go_wp2_with fail
        go_region_held3 (fun w' => Ext (w12.alloc (.cells #[.slice A12 G.length c12, .int .i64 G.length] 25)) w') (first | assumption | exact Ext_drew (Ext.refl _) | exact Ext.trans (by assumption) (by assumption)) (first
          | (go_at_call 16; refine (CS.out _).mono ?_; rintro _ w13 ⟨rfl, s13⟩)
          | (go_at_call 17; refine (CN.out _ (r11.ext (by assumption))).mono ?_; rintro _ w14 ⟨rfl, s14⟩)
          | (go_at_call 18; refine (CB.out _).mono ?_; rintro _ w15 ⟨rfl, s15⟩)
          | (go_at_call 6; refine (CK.out _ (r12.ext (by assumption))).mono ?_; rintro _ w16 ⟨v16, rfl, ho16, s16⟩; obtain ⟨A16, c16, rfl, r16⟩ := OwnL.rd ho16 (by omega))
          | (go_at_call 8; refine (iEqualLogs_c _ _ _ _ _ _ _ _ _ r16 (r12.ext (by assumption))).mono ?_; rintro _ w17 ⟨rfl, s17⟩; rw [HQ.out]))
        rename_i hHd
        have hHd := Lib.hid hHd
        go_wp2
        go_ret
        exact ⟨rfl, e2.trans hHd.out⟩
      · have CB : Hid (∀ w, Gives Try.prog 18 #[.bool true] w (.int .i64 1)) := fun w => btoi_c true w
        have hw1 : IntKind.i64.wrap ((ps5.length : Int) + 1) = (ps5.length : Int) + 1 := IntWalk.i64_in _ (by omega)
        go_wp2_with fail
        go_region_held3 (fun w' => Ext (w12.alloc (.cells #[.slice A12 G.length c12, .int .i64 G.length] 25)) w') (first | assumption | exact Ext_drew (Ext.refl _) | exact Ext.trans (by assumption) (by assumption)) (first
          | (go_at_call 16; refine (CS.out _).mono ?_; rintro _ w13 ⟨rfl, s13⟩)
          | (go_at_call 17; refine (CN.out _ (r11.ext (by assumption))).mono ?_; rintro _ w14 ⟨rfl, s14⟩)
          | (go_at_call 18; refine (CB.out _).mono ?_; rintro _ w15 ⟨rfl, s15⟩)
          | (go_at_call 6; refine (CK.out _ (r12.ext (by assumption))).mono ?_; rintro _ w16 ⟨v16, rfl, ho16, s16⟩; obtain ⟨A16, c16, rfl, r16⟩ := OwnL.rd ho16 (by omega))
          | (go_at_call 8; refine (iEqualLogs_c _ _ _ _ _ _ _ _ _ r16 (r12.ext (by assumption))).mono ?_; rintro _ w17 ⟨rfl, s17⟩; rw [HQ.out]))
        rename_i hHd
        have hHd := Lib.hid hHd
        go_wp2
        go_ret
        exact ⟨rfl, e2.trans hHd.out⟩
end Go.Proofs.Ytcaeeoghkonniaa
