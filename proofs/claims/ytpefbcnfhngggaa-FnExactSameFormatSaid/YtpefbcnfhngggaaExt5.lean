/- (*comparison).rule of the program; ExtendsRule, Extends, SameFormat: the walks. -/
import Derived.Test.YtpefbcnfhngggaaExt4
import Derived.Test.YtpefbcnfhngggaaExt1
namespace Go.Proofs.Ytpefbcnfhngggaa
open Go.RowKit Go.Sort
open Go.Maps (Keyed)

set_option maxRecDepth 100000 in
set_option maxHeartbeats 8000000 in
theorem rule_c (X : Cmp) (ok : X.Ok) : ∀ n i, i < n → i < X.a.length → RuleC X i := by
  intro n
  induction n with
  | zero => intro i hi; omega
  | succ n ih =>
    intro i hin hi j hj w S hst
    have hla := (descOk_len ok.va).2; have hlb := (descOk_len ok.vb).2
    obtain ⟨ba, oa, Ab, cb, An, cn, At, ct, Ak, ck, hA, hba, hSa, hRa⟩ := ok.ra.at i hi
    obtain ⟨bb, ob, Ab', cb', An', cn', At', ct', Ak', ck', hA', hbb, hSb, hRb⟩ := ok.rb.at j hj
    have C := Lib.hid (cmp_c X ok i j hi hj _ _ rfl rfl Ab cb An cn At ct Ak ck Ab' cb' An' cn' At' ct' Ak' ck' hSa hSb (fun i' hi' => ih i' (by omega) (by omega)))
    have hne := ok.ne; have hbm := ok.bm
    clear ih ok hin hSa hSb
    generalize X.a[i] = p at *
    generalize X.b[j] = q at *
    obtain ⟨Tt, hTt⟩ : ∃ Tt : World → Prop, AtW Tt = Moved X w S i := ⟨_, rfl⟩
    have HT := Lib.hid (fun w' => iff_of_eq (congrFun hTt w'))
    clear hTt
    have t0 : AtW Tt w := (HT.out _).2 (Moved.start hst (Ext.refl _))
    have tE : Hid (∀ w1 w', AtW Tt w1 → Ext w1 w' → AtW Tt w') := fun w1 w' h e => (HT.out _).2 (((HT.out _).1 h).ext e)
    have tW : Hid (∀ w', AtW Tt w' → Ext X.w0 w') := fun w' h => by obtain ⟨_, S', h1, _⟩ := (HT.out _).1 h; exact h1.e0
    have B0 : ∀ w', AtW Tt w' → w'.cell? ⟨X.g, 0, none⟩ = some (.slice (some ⟨ba, oa, none⟩) X.a.length X.c) := fun w' h => by obtain ⟨_, S', h1, _⟩ := (HT.out _).1 h; rw [← hA]; exact h1.box.cell 0
    have B1 : ∀ w', AtW Tt w' → w'.cell? ⟨X.g, 1, none⟩ = some (.slice (some ⟨bb, ob, none⟩) X.b.length X.c') := fun w' h => by obtain ⟨_, S', h1, _⟩ := (HT.out _).1 h; rw [← hA']; exact h1.box.cell 1
    have B2 : ∀ w', AtW Tt w' → w'.cell? ⟨X.g, 2, none⟩ = some (.map (some X.bm)) := fun w' h => by obtain ⟨_, S', h1, _⟩ := (HT.out _).1 h; exact h1.box.cell 2
    obtain ⟨m0, m1, m2, m3, m4, m5, m6, m7⟩ := hRa
    obtain ⟨r0, r1, r2, r3, r4, r5, r6, r7⟩ := hRb
    replace m0 := fun w' (h : AtW Tt w') => m0 w' (tW.out w' h); replace m1 := fun w' (h : AtW Tt w') => m1 w' (tW.out w' h); replace m2 := fun w' (h : AtW Tt w') => m2 w' (tW.out w' h); replace m3 := fun w' (h : AtW Tt w') => m3 w' (tW.out w' h); replace m4 := fun w' (h : AtW Tt w') => m4 w' (tW.out w' h); replace m5 := fun w' (h : AtW Tt w') => m5 w' (tW.out w' h); replace m6 := fun w' (h : AtW Tt w') => m6 w' (tW.out w' h); replace m7 := fun w' (h : AtW Tt w') => m7 w' (tW.out w' h)
    replace r0 := fun w' (h : AtW Tt w') => r0 w' (tW.out w' h); replace r1 := fun w' (h : AtW Tt w') => r1 w' (tW.out w' h); replace r2 := fun w' (h : AtW Tt w') => r2 w' (tW.out w' h); replace r3 := fun w' (h : AtW Tt w') => r3 w' (tW.out w' h); replace r4 := fun w' (h : AtW Tt w') => r4 w' (tW.out w' h); replace r5 := fun w' (h : AtW Tt w') => r5 w' (tW.out w' h); replace r6 := fun w' (h : AtW Tt w') => r6 w' (tW.out w' h); replace r7 := fun w' (h : AtW Tt w') => r7 w' (tW.out w' h)
    have CT : Hid (∀ w1, AtW Tt w1 → Calls Try.prog 49 #[.pointer (some ⟨X.g, 0, none⟩), vrule p (.slice Ab p.bytes.length cb) (.slice An p.names.length cn) (.slice At p.tags.length ct) (.slice Ak p.kids.length ck), vrule q (.slice Ab' q.bytes.length cb') (.slice An' q.names.length cn') (.slice At' q.tags.length ct') (.slice Ak' q.kids.length ck')] w1 fun e w' => e = .returned (.bool (ext X.a X.b i j)) ∧ AtW Tt w') := by
      intro w1 h
      obtain ⟨_, S1, h1, h2, h3⟩ := (HT.out _).1 h
      refine (C.out w1 S1 h1).mono ?_
      rintro e w' ⟨he, hM⟩
      exact ⟨he, (HT.out _).2 (Moved.step ((HT.out _).1 h) h3 h2 hM (Nat.le_refl _))⟩
    have KO := Lib.hid (fun (x y : Nat) (hx : x < X.a.length) (hy : y < X.b.length) => pairKeyOf x y (by omega) (by omega))
    have HM := Lib.hid hst.memo; have HST := Lib.hid hst
    have FIN : Hid (∀ w4 w5 S1, w.grownBy w4 (some X.bm) → X.St w4 S1 → (∀ p ∈ S, p ∈ S1) → (∀ p ∈ S1, p ∈ S ∨ p.1 < i) → Memo Try.prog 79 4 (ext X.a X.b) X.a.length X.b.length w5 X.bm ((i, j) :: S1) → w4.grownBy w5 (some X.bm) → Moved X w S (i + 1) w5) := by
      intro w4 w5 S1 g0 h1 h2 h3 hmem hg
      refine ⟨g0.trans hg, (i, j) :: S1, ⟨h1.e0.grown hg (fun k hk => by injection hk with hk; omega), h1.box.moved hg (by intro hh; injection hh with hh; exact hne hh), hmem⟩, fun p hp => List.mem_cons_of_mem _ (h2 p hp), fun p hp => ?_⟩
      rcases List.mem_cons.1 hp with rfl | hp
      · exact .inr (Nat.lt_succ_self _)
      · rcases h3 p hp with h4 | h4
        · exact .inl h4
        · exact .inr (by omega)
    clear C hne hbm hst
    unfold vrule at *
    generalize hZ : ext X.a X.b i j = Z at *
    have HZ := Lib.hid hZ; clear hZ
    have qi : (i : Int) < (X.a.length : Int) := by omega
    have qj : (j : Int) < (X.b.length : Int) := by omega
    have qi0 : (0 : Int) ≤ (i : Int) := by omega
    have qj0 : (0 : Int) ≤ (j : Int) := by omega
    have b0 := B0 w t0; have b1 := B1 w t0; have b2 := B2 w t0
    go_enter Try.func30, Try.ntmps30
    go_wp2_with (first
      | (at_lookup; go_must (obtain ⟨kl, hkl⟩ := KO.out i j hi hj; refine HM.out.look rfl (.tmp 14) (.tmp 17) rfl pairKey Try.underlying53 Try.underlying4 (zeroBool w) rfl rfl hi hj hkl (fun hno => ?_) (fun hyes => ?_))))
    · clear b0 b1 b2 HM
      go_region_held3 (fun w' => AtW Tt w') (first | assumption | exact tE.out _ _ (by assumption) (Ext_drew (Ext.refl _)) | exact tE.out _ _ (by assumption) (by assumption)) (first
        | (go_at_call 49; refine (CT.out _ (by assumption)).mono ?_; rintro _ w4 ⟨rfl, h4⟩))
      have h5 : AtW Tt w4 := by assumption
      obtain ⟨g0, S1, g1, g2, g3⟩ := (HT.out _).1 h5
      have HM4 := Lib.hid g1.memo; have hla' := Lib.hid hla; have hlb' := Lib.hid hlb
      have hnew : (i, j) ∉ S1 := fun h => by
        rcases g3 _ h with h | h
        · exact hno h
        · exact Nat.lt_irrefl _ h
      have F1 := Lib.hid (fun w5 hm hg => FIN.out w4 w5 S1 g0 g1 g2 g3 hm hg)
      have b2 := B2 w4 h5
      clear g0 g1 g2
      go_wp2_with (first
        | (at_mapUpdate; go_must (refine HM4.out.store rfl (.tmp 44) (.tmp 47) (.tmp 48) rfl pairKey Try.underlying53 Try.underlying4 hla'.out hlb'.out rfl rfl (congrArg Value.bool HZ.out.symm) hi hj KO.out hnew (fun w5 hm5 hg5 => ?_))))
      go_ret
      exact ⟨rfl, F1.out w5 hm5 hg5⟩
    · go_ret
      exact ⟨ret_bool HZ.out, (Moved.start HST.out (Ext.refl _))⟩
end Go.Proofs.Ytpefbcnfhngggaa
