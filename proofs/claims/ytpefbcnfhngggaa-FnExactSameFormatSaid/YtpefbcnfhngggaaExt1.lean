/- l9Item and l29Extends of the reference: the walks. -/
import Derived.Test.YtpefbcnfhngggaaExtPure
namespace Go.Proofs.Ytpefbcnfhngggaa
open Go.RowKit Go.Sort

set_option maxRecDepth 100000 in
set_option maxHeartbeats 2000000 in
theorem sItem_c (p : DRule) (Ab : Option Addr) (cb : Nat) (An : Option Addr) (cn : Nat) (At : Option Addr) (ct : Nat) (Ak : Option Addr) (ck : Nat) (t : Int) (w : World) (h : RdS w p Ab cb An cn At ct Ak ck) (hk7 : p.kind = 7) (hl : p.kids.length = p.tags.length + 1) (hkn : ∀ j (hj : j < p.kids.length), p.kids[j] = (kd p j : Int)) :
    Gives Try.prog 44 #[vrule p (.slice Ab p.bytes.length cb) (.slice An p.names.length cn) (.slice At p.tags.length ct) (.slice Ak p.kids.length ck), .int .i64 t, .int .i64 0] w (.int .i64 (if tagN p.tags t < p.tags.length then (kd p (tagN p.tags t + 1) : Int) else -1)) := by
  have hlt := h.t.len; have hlk := h.k.len
  have eb := Ext_alloc (.cells #[.string p.nm, .int .i64 p.kind, .int .i64 p.size, .bool p.little, .slice Ab p.bytes.length cb, .slice An p.names.length cn, .slice At p.tags.length ct, .slice Ak p.kids.length ck] 73) (Ext.refl w)
  have BX := fun w' (e : Ext (w.alloc (.cells #[.string p.nm, .int .i64 p.kind, .int .i64 p.size, .bool p.little, .slice Ab p.bytes.length cb, .slice An p.names.length cn, .slice At p.tags.length ct, .slice Ak p.kids.length ck] 73)) w') => boxed e
  have FY : Hid (∀ k (hk : k < p.tags.length), (∀ j (hj : j < p.tags.length), j < k → p.tags[j] ≠ t) → p.tags[k] = t → (if tagN p.tags t < p.tags.length then (kd p (tagN p.tags t + 1) : Int) else -1) = (kd p (k + 1) : Int)) := by
    intro k hk hn he; rw [tagN_at hk he hn, if_pos hk]
  have FN : Hid ((∀ j (hj : j < p.tags.length), p.tags[j] ≠ t) → (if tagN p.tags t < p.tags.length then (kd p (tagN p.tags t + 1) : Int) else -1) = -1) := by
    intro hn; rw [tagN_none hn, if_neg (Nat.lt_irrefl _)]
  generalize (if tagN p.tags t < p.tags.length then (kd p (tagN p.tags t + 1) : Int) else -1) = R at *
  have k5 : (p.kind == 5) = false := by rw [hk7]; rfl
  have k6 : (p.kind == 6) = false := by rw [hk7]; rfl
  have k7 : (p.kind == 7) = true := by rw [hk7]; rfl
  have HKN := Lib.hid hkn; have HL1 := Lib.hid hl
  unfold vrule
  clear hk7 hkn hl
  go_enter Try.func44, Try.ntmps44
  go_wp2
  go_loopw [7] (fun ix wr => ∃ k : Nat, k ≤ p.tags.length ∧ ix = .int .i64 k ∧ Hid (∀ j (hj : j < p.tags.length), j < k → p.tags[j] ≠ t) ∧ Ext (w.alloc (.cells #[.string p.nm, .int .i64 p.kind, .int .i64 p.size, .bool p.little, .slice Ab p.bytes.length cb, .slice An p.names.length cn, .slice At p.tags.length ct, .slice Ak p.kids.length ck] 73)) wr) (fun ix _ => p.tags.length - (intOf ix).toNat)
  case atStart => exact ⟨0, by omega, rfl, (fun j _ hj => by omega), Ext.refl _⟩
  case round =>
    obtain ⟨k, hk, rfl, hn, he⟩ := hrel
    by_cases hlt : k < p.tags.length
    · obtain ⟨bt, ot, rfl, hbt, hct⟩ := (h.t.ext eb).at k hlt
      obtain ⟨bk, ok, rfl, hbk, hck⟩ := (h.k.ext eb).at (k + 1) (by have := HL1.out; omega)
      rw [HKN.out (k + 1) (by have := HL1.out; omega)] at hck
      have Y := Lib.hid (FY.out k hlt hn.out)
      have N : Hid (¬ p.tags[k] = t → ∀ j (hj : j < p.tags.length), j < k + 1 → p.tags[j] ≠ t) := fun hne j hj hjk => by
        rcases (by omega : j < k ∨ j = k) with hjk | rfl
        · exact hn.out j hj hjk
        · exact hne
      have d1 : decide ((k : Int) < (p.tags.length : Int)) = true := decide_eq_true (by omega)
      generalize p.tags[k] = x at *
      generalize kd p (k + 1) = y at *
      have hkl : k + 1 < p.kids.length := by have := HL1.out; omega
      clear FY FN hn h HKN
      by_cases hx : x = t
      · have HE := Lib.hid (Y.out hx); clear Y N
        have kx : (x == t) = true := by simpa using hx
        clear hx
        go_wp2
        go_ret
        exact ⟨ret_i64 HE.out.symm, eb.trans he⟩
      · have HE := Lib.hid (N.out hx); clear Y N
        have kx : (x == t) = false := by simpa using hx
        clear hx
        go_wp2
        go_roundw
        case rel => exact ⟨k + 1, by omega, by go_num, HE, he⟩
        case measure => simp [intOf]; omega
    · have HE := Lib.hid (FN.out (fun j hj => hn.out j hj (by omega)))
      have d1 : decide ((k : Int) < (p.tags.length : Int)) = false := decide_eq_false (by omega)
      clear FY FN
      go_wp2
      go_ret
      exact ⟨ret_i64 HE.out.symm, eb.trans he⟩
/-- four blocks that were laid one behind the other -/
theorem boxed4 {w : World} {c0 c1 c2 c3 : Array Value} {T0 T1 T2 T3 : TypeId} {w' : World} (h : Ext ((((w.alloc (.cells c0 T0)).alloc (.cells c1 T1)).alloc (.cells c2 T2)).alloc (.cells c3 T3)) w') :
    (∀ i, w'.cell? ⟨w.heap.size, i, none⟩ = c0[i]?) ∧ (∀ i, w'.cell? ⟨w.heap.size + 1, i, none⟩ = c1[i]?) ∧ (∀ i, w'.cell? ⟨w.heap.size + 1 + 1, i, none⟩ = c2[i]?) ∧ (∀ i, w'.cell? ⟨w.heap.size + 1 + 1 + 1, i, none⟩ = c3[i]?) := by
  have h1 := boxed2 h
  have h2 := boxed2 ((Ext_alloc _ (Ext_alloc _ (Ext.refl _))).trans h)
  have s1 : ((w.alloc (.cells c0 T0)).alloc (.cells c1 T1)).heap.size = w.heap.size + 1 + 1 := by simp
  rw [s1] at h1
  exact ⟨h2.1, h2.2.1, h1.1, h1.2.1⟩
theorem ext_no {a b : List DRule} (h : descOk a = true) (i j : Nat) (hi : i < a.length) (hj : j < b.length) (hh : extHead a[i] b[j] = false) : ext a b i j = false := by rw [ext_step h i j hi hj, hh]; rfl
theorem ext_yes {a b : List DRule} (h : descOk a = true) (i j : Nat) (hi : i < a.length) (hj : j < b.length) (hh : extHead a[i] b[j] = true) : ext a b i j = extTail (ext a b) a[i] b[j] := by rw [ext_step h i j hi hj, hh]; rfl
set_option maxRecDepth 100000 in
set_option maxHeartbeats 8000000 in
theorem sExt_c (A A' : Option Addr) (a b : List DRule) (c c' : Nat) (w0 : World) (ha : RdD w0 A a c) (hb : RdD w0 A' b c') (hva : descOk a = true) (hvb : descOk b = true) (hsa : ShortD a) (hsb : ShortD b) :
    ∀ n i, i < n → i < a.length → ∀ j, j < b.length → ∀ w, Ext w0 w → Gives Try.prog 27 #[vdesc (.slice A a.length c), .int .i64 (i : Int), vdesc (.slice A' b.length c'), .int .i64 (j : Int)] w (.bool (ext a b i j)) := by
  intro n
  induction n with
  | zero => intro i hi; omega
  | succ n ih =>
    intro i hin hi j hj w e0
    have hla := ha.len; have hlb := hb.len
    obtain ⟨ba, oa, Ab, cb, An, cn, At, ct, Ak, ck, hA, hba, hSa, hRa⟩ := (ha.ext e0).at i hi
    obtain ⟨bb, ob, Ab', cb', An', cn', At', ct', Ak', ck', hA', hbb, hSb, hRb⟩ := (hb.ext e0).at j hj
    subst hA; subst hA'
    have HNO := Lib.hid (fun h => ext_no hva i j hi hj h)
    have HYES := Lib.hid (fun h => ext_yes hva i j hi hj h)
    have fa := ruleFacts hva i hi; have fb := ruleFacts hvb j hj
    have ka := Lib.hid (kd_int hva i hi); have kb := Lib.hid (kd_int hvb j hj)
    have la := Lib.hid (kd_lt hva i hi); have lb := Lib.hid (kd_lt hvb j hj)
    have sa := hsa _ (List.getElem_mem hi); have sb := hsb _ (List.getElem_mem hj)
    have IH : Hid (∀ t (ht : t < a[i].kids.length) y, y < b.length → ∀ w', Ext w w' → Gives Try.prog 27 #[vdesc (.slice (some ⟨ba, oa, none⟩) a.length c), .int .i64 (kd a[i] t : Int), vdesc (.slice (some ⟨bb, ob, none⟩) b.length c'), .int .i64 (y : Int)] w' (.bool (ext a b (kd a[i] t) y))) :=
      fun t ht y hy w' e => ih (kd a[i] t) (by have := la.out t ht; omega) (by have := la.out t ht; omega) y hy w' (e0.trans e)
    clear ih hva hvb hsa hsb
    generalize ext a b i j = Z at *
    generalize a[i] = p at *
    generalize b[j] = q at *
    have HJ : Hid (∀ t, t < q.kids.length → kd q t < b.length) := fun t ht => by have := lb.out t ht; omega
    have eb3 := (Ext_alloc (.cells #[.string p.nm, .int .i64 p.kind, .int .i64 p.size, .bool p.little, .slice Ab p.bytes.length cb, .slice An p.names.length cn, .slice At p.tags.length ct, .slice Ak p.kids.length ck] 73) (Ext_alloc (.cells #[.slice (some ⟨bb, ob, none⟩) b.length c'] 29) (Ext_alloc (.cells #[.slice (some ⟨ba, oa, none⟩) a.length c] 29) (Ext.refl w))))
    have eb := (Ext_alloc (.cells #[.string q.nm, .int .i64 q.kind, .int .i64 q.size, .bool q.little, .slice Ab' q.bytes.length cb', .slice An' q.names.length cn', .slice At' q.tags.length ct', .slice Ak' q.kids.length ck'] 73) (Ext_alloc (.cells #[.string p.nm, .int .i64 p.kind, .int .i64 p.size, .bool p.little, .slice Ab p.bytes.length cb, .slice An p.names.length cn, .slice At p.tags.length ct, .slice Ak p.kids.length ck] 73) (Ext_alloc (.cells #[.slice (some ⟨bb, ob, none⟩) b.length c'] 29) (Ext_alloc (.cells #[.slice (some ⟨ba, oa, none⟩) a.length c] 29) (Ext.refl w)))))
    obtain ⟨W3, hW3⟩ : ∃ W3, W3 = ((((w.alloc (.cells #[.slice (some ⟨ba, oa, none⟩) a.length c] 29)).alloc (.cells #[.slice (some ⟨bb, ob, none⟩) b.length c'] 29)).alloc (.cells #[.string p.nm, .int .i64 p.kind, .int .i64 p.size, .bool p.little, .slice Ab p.bytes.length cb, .slice An p.names.length cn, .slice At p.tags.length ct, .slice Ak p.kids.length ck] 73)).alloc (.cells #[.string q.nm, .int .i64 q.kind, .int .i64 q.size, .bool q.little, .slice Ab' q.bytes.length cb', .slice An' q.names.length cn', .slice At' q.tags.length ct', .slice Ak' q.kids.length ck'] 73)) := ⟨_, rfl⟩
    have BX := fun w' (e : Ext W3 w') => boxed4 (hW3 ▸ e)
    have B0 := fun w' e => (BX w' e).1; have B1 := fun w' e => (BX w' e).2.1; have B2 := fun w' e => (BX w' e).2.2.1; have B3 := fun w' e => (BX w' e).2.2.2
    clear BX
    rw [hW3] at B0 B1 B2 B3
    obtain ⟨m0, m1, m2, m3, m4, m5, m6, m7⟩ := hRa
    obtain ⟨r0, r1, r2, r3, r4, r5, r6, r7⟩ := hRb
    have CB := Lib.hid (fun w' (e : Ext w w') => sEqualBytes_c Ab Ab' p.bytes q.bytes cb cb' w' ⟨hSa.b.ext e, sa.1⟩ ⟨hSb.b.ext e, sb.1⟩)
    have CT := Lib.hid (fun w' (e : Ext w w') => l4Texts_c An An' p.names q.names cn cn' w' (hSa.n.ext e) (hSb.n.ext e))
    have HSA := Lib.hid hSa; have HSB := Lib.hid hSb
    have hpk := hSa.k.len; have hpt := hSa.t.len; have hqk := hSb.k.len
    clear ha hb sa sb lb la
    unfold vdesc at *
    have HW3 := Lib.hid hW3; clear hW3
    unfold extHead at HNO HYES
    generalize p.little = lp at *
    generalize hlq : q.little = lq at *
    have HLQ := Lib.hid hlq; clear hlq
    cases g1 : (p.kind == q.kind)
    · have HE : Hid (Z = false) := HNO.out (by rw [g1]; rfl)
      have h1 : (p.kind != q.kind) = true := by rw [bne, g1]; rfl
      go_enter Try.func27, Try.ntmps27
      go_wp2
      go_ret
      exact ⟨ret_bool HE.out.symm, eb⟩
    have h1 : (p.kind != q.kind) = false := by rw [bne, g1]; rfl
    cases g2 : (p.size == q.size)
    · have HE : Hid (Z = false) := HNO.out (by rw [g1, g2]; rfl)
      have h2 : (p.size != q.size) = true := by rw [bne, g2]; rfl
      go_enter Try.func27, Try.ntmps27
      go_wp2
      go_ret
      exact ⟨ret_bool HE.out.symm, eb⟩
    have h2 : (p.size != q.size) = false := by rw [bne, g2]; rfl
    cases g3 : (lp == lq)
    · have HE : Hid (Z = false) := HNO.out (by rw [g1, g2, g3]; rfl)
      have h3 : (lp != lq) = true := by rw [bne, g3]; rfl
      go_enter Try.func27, Try.ntmps27
      go_wp2
      go_ret
      exact ⟨ret_bool HE.out.symm, eb⟩
    obtain rfl : lp = lq := by simpa using g3
    have h3 : (lp != lp) = false := by simp
    cases g4 : (p.bytes == q.bytes)
    · have HE : Hid (Z = false) := HNO.out (by rw [g1, g2, g3, g4]; rfl)
      rw [g4] at CB
      go_enter Try.func27, Try.ntmps27
      go_wp2_with fail
      refine (CB.out _ eb).mono ?_; rintro _ w1 ⟨rfl, s1⟩
      go_wp2
      go_ret
      exact ⟨ret_bool HE.out.symm, eb.trans s1⟩
    have HZ : Hid (Z = extTail (ext a b) p q) := HYES.out (by rw [g1, g2, g3, g4]; rfl)
    rw [g4] at CB
    clear HNO HYES g1 g2 g3 g4
    unfold extTail at HZ
    obtain ⟨_, W4, hW4, s4⟩ : ∃ _ : Unit, ∃ W4 : World, Hid (W4 = W4) ∧ Ext w w := ⟨(), w, rfl, Ext.refl w⟩
    clear hW4 s4
    by_cases h7 : p.kind = 7
    · rw [if_pos h7] at HZ
      have hq7 : q.kind = 7 := by have := h1; simp at this; omega
      have HC := Lib.hid (fa.cho h7).1; have HC' := Lib.hid (fb.cho hq7).1
      have hp0 : 0 < p.kids.length := by have := HC.out; omega
      have hq0 : 0 < q.kids.length := by have := HC'.out; omega
      have k7 : (p.kind == 7) = true := by simpa using h7
      have I0 := Lib.hid (IH.out 0 hp0 (kd q 0) (HJ.out 0 hq0))
      have CI : Hid (∀ (t : Int) w', Ext w w' → Gives Try.prog 44 #[vrule q (.slice Ab' q.bytes.length cb') (.slice An' q.names.length cn') (.slice At' q.tags.length ct') (.slice Ak' q.kids.length ck'), .int .i64 t, .int .i64 0] w' (.int .i64 (if tagN q.tags t < q.tags.length then (kd q (tagN q.tags t + 1) : Int) else -1))) :=
        fun t w' e => sItem_c q Ab' cb' An' cn' At' ct' Ak' ck' t w' (HSB.out.ext e) hq7 HC'.out kb.out
      unfold vrule at CI
      rw [HLQ.out] at CI
      obtain ⟨bk, ok, hAk, hbk, hck⟩ := HSA.out.k.at 0 hp0
      obtain ⟨bk', ok', hAk', hbk', hck'⟩ := HSB.out.k.at 0 hq0
      subst hAk; subst hAk'
      rw [ka.out 0 hp0] at hck
      rw [kb.out 0 hq0] at hck'
      simp only [Nat.add_zero, vint] at hck hck'
      have hz0 := Lib.hid (fun (h : ext a b (kd p 0) (kd q 0) = false) => HZ.out.trans (by rw [h]; rfl : (ext a b (kd p 0) (kd q 0) && allN p.tags.length (extTag (ext a b) p q)) = false))
      have hz1 := Lib.hid (fun (h : ext a b (kd p 0) (kd q 0) = true) => HZ.out.trans (by rw [h]; rfl : (ext a b (kd p 0) (kd q 0) && allN p.tags.length (extTag (ext a b) p q)) = allN p.tags.length (extTag (ext a b) p q)))
      clear HZ h7 hq7 fa fb
      generalize kd p 0 = x0 at *
      generalize kd q 0 = y0 at *
      generalize ext a b x0 y0 = z0 at *
      go_enter Try.func27, Try.ntmps27
      go_wp2_with fail
      refine (CB.out _ eb).mono ?_; rintro _ w1 ⟨rfl, s1⟩
      replace B0 := fun w' (e : Ext w1 w') => B0 w' (Ext.trans s1 e); replace B1 := fun w' (e : Ext w1 w') => B1 w' (Ext.trans s1 e); replace B2 := fun w' (e : Ext w1 w') => B2 w' (Ext.trans s1 e); replace B3 := fun w' (e : Ext w1 w') => B3 w' (Ext.trans s1 e)
      have e1 := eb.trans s1
      replace hck := fun w' (e : Ext w1 w') => hck w' (Ext.trans e1 e); replace hck' := fun w' (e : Ext w1 w') => hck' w' (Ext.trans e1 e)
      clear s1 eb m0 m1 m2 m3 m4 m5 m6 m7 r0 r1 r2 r3 r4 r5 r6 r7
      go_wp2_with fail
      refine wp_region_quiet_below (by kernel_rfl) (by kernel_rfl) ?_
      repeat (go_big_quiet_step ((go_at_call 27; exact Calls.regrown_of (I0.out _ (e1.trans (by first | exact Ext.refl _ | assumption | exact Ext_regrown _ _ (Ext.refl _)))))))
      refine wpQuiet_nil ?_
      rintro w2 ⟨⟨nq, osq⟩, hq⟩
      have ew2 := ext_of_q hq
      clear hq nq osq
      cases z0
      · have HE := Lib.hid (hz0.out rfl); clear hz0 hz1
        go_wp2
        go_ret
        exact ⟨ret_bool HE.out.symm, e1.trans ew2⟩
      · have HE := Lib.hid (hz1.out rfl); clear hz0 hz1
        clear hck hck'
        have e2 := e1.trans ew2
        go_wp2
        go_loopw [11] (fun ix wr => ∃ k : Nat, k ≤ p.tags.length ∧ ix = .int .i64 k ∧ Hid (∀ t, t < k → extTag (ext a b) p q t = true) ∧ Ext w1 wr) (fun ix _ => p.tags.length - (intOf ix).toNat)
        case atStart => exact ⟨0, by omega, rfl, (fun t ht => by omega), ew2⟩
        case round =>
          clear ew2 e2
          obtain ⟨k, hk, rfl, hn, he⟩ := hrel
          by_cases hlt : k < p.tags.length
          · obtain ⟨bt, ot, hAt, hbt, hct⟩ := HSA.out.t.at k hlt
            subst hAt
            have hkl : k + 1 < p.kids.length := by have := HC.out; omega
            obtain ⟨bk2, ok2, hAk2, hbk2, hck2⟩ := HSA.out.k.at (k + 1) hkl
            injection hAk2 with hAk2; injection hAk2 with q1 q2; subst q1; subst q2
            rw [ka.out (k + 1) hkl] at hck2
            replace hct := fun w' (e : Ext w1 w') => hct w' (Ext.trans e1 e); replace hck2 := fun w' (e : Ext w1 w') => hck2 w' (Ext.trans e1 e)
            have hgt : p.tags.getD k 0 = p.tags[k] := by simp [hlt]
            have HET : Hid (extTag (ext a b) p q k = (decide (tagN q.tags p.tags[k] < q.tags.length) && ext a b (kd p (k + 1)) (kd q (tagN q.tags p.tags[k] + 1)))) := by show _ = _; unfold extTag; rw [hgt]
            have YES : Hid (extTag (ext a b) p q k = true → ∀ t, t < k + 1 → extTag (ext a b) p q t = true) := fun h => upTo hn.out h
            have NO : Hid (extTag (ext a b) p q k = false → Z = false) := fun h => HE.out.trans (allN_no hlt h)
            have C := Lib.hid (CI.out p.tags[k])
            clear hgt hn
            generalize p.tags[k] = x at *
            have d1 : decide ((k : Int) < (p.tags.length : Int)) = true := decide_eq_true (by omega)
            by_cases hT : tagN q.tags x < q.tags.length
            · rw [decide_eq_true hT, Bool.true_and] at HET
              rw [if_pos hT] at C
              have I1 := Lib.hid (IH.out (k + 1) hkl (kd q (tagN q.tags x + 1)) (HJ.out _ (by have := HC'.out; omega)))
              clear hT
              generalize kd q (tagN q.tags x + 1) = y at *
              generalize kd p (k + 1) = u at *
              rw [HET.out] at YES NO
              generalize ext a b u y = z at *
              clear HET
              go_wp2_with fail
              refine wp_region_quiet_below (by kernel_rfl) (by kernel_rfl) ?_
              repeat (go_big_quiet_step ((go_at_call 44; exact Calls.regrown_of (C.out _ (e1.trans (by first | assumption | exact Ext_regrown _ _ he))))))
              refine wpQuiet_nil ?_
              rintro w3 ⟨⟨nq, osq⟩, hq⟩
              have ew3 := ext_of_q hq
              clear hq nq osq
              have e3 := he.trans ew3
              have dy : decide ((y : Int) < 0) = false := decide_eq_false (by omega)
              go_wp2_with fail
              refine wp_region_quiet_below (by kernel_rfl) (by kernel_rfl) ?_
              repeat (go_big_quiet_step ((go_at_call 27; exact Calls.regrown_of (I1.out _ (e1.trans (by first | assumption | exact Ext_regrown _ _ e3))))))
              refine wpQuiet_nil ?_
              rintro w4 ⟨⟨nq, osq⟩, hq⟩
              have ew4 := ext_of_q hq
              clear hq nq osq
              have e4 := e3.trans ew4
              cases z
              · have HF := Lib.hid (NO.out rfl); clear YES NO
                go_wp2
                go_ret
                exact ⟨ret_bool HF.out.symm, e1.trans e4⟩
              · have HF := Lib.hid (YES.out rfl); clear YES NO
                go_wp2
                go_roundw
                case rel =>
                  iterate 32 apply Exists.intro
                  refine ⟨?_, rfl⟩
                  exact ⟨k + 1, by omega, by go_num, HF, e4⟩
                case measure => simp [intOf]; omega
            · rw [decide_eq_false hT, Bool.false_and] at HET
              rw [if_neg hT] at C
              have HF := Lib.hid (NO.out HET.out)
              clear YES NO HET hT
              go_wp2_with fail
              refine wp_region_quiet_below (by kernel_rfl) (by kernel_rfl) ?_
              repeat (go_big_quiet_step ((go_at_call 44; exact Calls.regrown_of (C.out _ (e1.trans (by first | assumption | exact Ext_regrown _ _ he))))))
              refine wpQuiet_nil ?_
              rintro w3 ⟨⟨nq, osq⟩, hq⟩
              have ew3 := ext_of_q hq
              clear hq nq osq
              have e3 := he.trans ew3
              go_wp2
              refine wp_region_quiet_below (by kernel_rfl) (by kernel_rfl) ?_
              repeat (go_big_quiet_step (fail))
              refine wpQuiet_nil ?_
              rintro w4 ⟨⟨nq, osq⟩, hq⟩
              have ew4 := ext_of_q hq
              clear hq nq osq
              have e4 := e3.trans ew4
              go_wp2
              go_ret
              exact ⟨ret_bool HF.out.symm, e1.trans e4⟩
          · have HF : Hid (Z = true) := HE.out.trans (allN_yes fun t ht => hn.out t (by omega))
            have d1 : decide ((k : Int) < (p.tags.length : Int)) = false := decide_eq_false (by omega)
            go_wp2
            go_ret
            exact ⟨ret_bool HF.out.symm, e1.trans he⟩
    · rw [if_neg h7] at HZ
      have k7 : (p.kind == 7) = false := by simpa using h7
      clear h7 fa fb
      cases g5 : eqNms p.names q.names
      · have HE : Hid (Z = false) := HZ.out.trans (by rw [g5]; rfl)
        rw [g5] at CT
        clear HZ g5
        go_enter Try.func27, Try.ntmps27
        go_wp2_with fail
        refine (CB.out _ eb).mono ?_; rintro _ w1 ⟨rfl, s1⟩
        have e1 := eb.trans s1
        go_wp2_with fail
        refine (CT.out _ e1).mono ?_; rintro _ w2 ⟨rfl, s2⟩
        go_wp2
        go_ret
        exact ⟨ret_bool HE.out.symm, e1.trans s2⟩
      rw [g5] at CT
      by_cases g6 : p.kids.length = q.kids.length
      · have HE : Hid (Z = allN p.kids.length (fun t => ext a b (kd p t) (kd q t))) := HZ.out.trans (by rw [g5, g6]; simp)
        have H6 := Lib.hid g6
        clear HZ g5 g6
        go_enter Try.func27, Try.ntmps27
        go_wp2_with fail
        refine (CB.out _ eb).mono ?_; rintro _ w1 ⟨rfl, s1⟩
        have e1 := eb.trans s1
        go_wp2_with fail
        refine (CT.out _ e1).mono ?_; rintro _ w2 ⟨rfl, s2⟩
        replace B0 := fun w' (e : Ext w2 w') => B0 w' (Ext.trans (s1.trans s2) e); replace B1 := fun w' (e : Ext w2 w') => B1 w' (Ext.trans (s1.trans s2) e); replace B2 := fun w' (e : Ext w2 w') => B2 w' (Ext.trans (s1.trans s2) e); replace B3 := fun w' (e : Ext w2 w') => B3 w' (Ext.trans (s1.trans s2) e)
        have e2 := e1.trans s2
        clear s1 s2 eb e1 m0 m1 m2 m3 m4 m5 m6 m7 r0 r1 r2 r3 r4 r5 r6 r7
        have h6 : ((p.kids.length : Int) != (q.kids.length : Int)) = false := by have := H6.out; simp [this]
        go_wp2
        clear h6
        go_loopw [13] (fun ix wr => ∃ k : Nat, k ≤ p.kids.length ∧ ix = .int .i64 k ∧ Hid (∀ t, t < k → ext a b (kd p t) (kd q t) = true) ∧ Ext w2 wr) (fun ix _ => p.kids.length - (intOf ix).toNat)
        case atStart => exact ⟨0, by omega, rfl, (fun t ht => by omega), Ext.refl _⟩
        case round =>
          obtain ⟨k, hk, rfl, hn, he⟩ := hrel
          by_cases hlt : k < p.kids.length
          · have hlt' : k < q.kids.length := by have := H6.out; omega
            obtain ⟨bk, ok, hAk, hbk, hck⟩ := HSA.out.k.at k hlt
            obtain ⟨bk', ok', hAk', hbk', hck'⟩ := HSB.out.k.at k hlt'
            subst hAk; subst hAk'
            rw [ka.out k hlt] at hck
            rw [kb.out k hlt'] at hck'
            replace hck := fun w' (e : Ext w2 w') => hck w' (Ext.trans e2 e); replace hck' := fun w' (e : Ext w2 w') => hck' w' (Ext.trans e2 e)
            have YES : Hid (ext a b (kd p k) (kd q k) = true → ∀ t, t < k + 1 → ext a b (kd p t) (kd q t) = true) := fun h => upTo hn.out h
            have NO : Hid (ext a b (kd p k) (kd q k) = false → Z = false) := fun h => HE.out.trans (allN_no (f := fun t => ext a b (kd p t) (kd q t)) hlt h)
            have I1 := Lib.hid (IH.out k hlt (kd q k) (HJ.out _ hlt'))
            have d1 : decide ((k : Int) < (p.kids.length : Int)) = true := decide_eq_true (by omega)
            clear hn
            generalize kd p k = u at *
            generalize kd q k = y at *
            generalize ext a b u y = z at *
            go_wp2_with fail
            refine wp_region_quiet_below (by kernel_rfl) (by kernel_rfl) ?_
            repeat (go_big_quiet_step ((go_at_call 27; exact Calls.regrown_of (I1.out _ (e2.trans (by first | assumption | exact Ext_regrown _ _ he))))))
            refine wpQuiet_nil ?_
            rintro w4 ⟨⟨nq, osq⟩, hq⟩
            have ew4 := ext_of_q hq
            clear hq nq osq
            have e4 := he.trans ew4
            cases z
            · have HF := Lib.hid (NO.out rfl); clear YES NO
              go_wp2
              go_ret
              exact ⟨ret_bool HF.out.symm, e2.trans e4⟩
            · have HF := Lib.hid (YES.out rfl); clear YES NO
              go_wp2
              go_roundw
              case rel => exact ⟨k + 1, by omega, by go_num, HF, e4⟩
              case measure => simp [intOf]; omega
          · have HF : Hid (Z = true) := HE.out.trans (allN_yes fun t ht => hn.out t (by omega))
            have d1 : decide ((k : Int) < (p.kids.length : Int)) = false := decide_eq_false (by omega)
            go_wp2
            go_ret
            exact ⟨ret_bool HF.out.symm, e2.trans he⟩
      · have HE : Hid (Z = false) := HZ.out.trans (by rw [g5]; simp [g6])
        have h6 : ((p.kids.length : Int) != (q.kids.length : Int)) = true := by simp; omega
        clear HZ g5 g6
        go_enter Try.func27, Try.ntmps27
        go_wp2_with fail
        refine (CB.out _ eb).mono ?_; rintro _ w1 ⟨rfl, s1⟩
        have e1 := eb.trans s1
        go_wp2_with fail
        refine (CT.out _ e1).mono ?_; rintro _ w2 ⟨rfl, s2⟩
        have e2 := e1.trans s2
        replace B2 := fun w' (e : Ext w2 w') => B2 w' (Ext.trans (s1.trans s2) e); replace B3 := fun w' (e : Ext w2 w') => B3 w' (Ext.trans (s1.trans s2) e)
        go_wp2
        go_ret
        exact ⟨ret_bool HE.out.symm, e2⟩
end Go.Proofs.Ytpefbcnfhngggaa
