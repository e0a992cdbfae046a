/- Texts, laid into one. -/
import Derived.Test.YtpmcofmdjckijaaGreatZPb18
set_option linter.unusedVariables false
set_option linter.unusedSimpArgs false
set_option maxRecDepth 100000
set_option maxHeartbeats 16000000
namespace Go.Proofs.YtpmcofmdjckijaaGreat
open Go.RowKit Go.Sort
theorem iRule_c (A : Option Addr) (ds : List DRule) (c : Nat) (i : Nat) (w : World) (hd : RdD w A ds c) (hi : i < ds.length) (hs : ShortD ds) (hw : WfD ds) :
 Gives Tryz.prog 98 #[vdesc (.slice A ds.length c), .int .i64 i] w (.bool (ruleOk ds i)) := by
 have hl := hd.len
 have hcap := hd.cap
 have eb := Ext_alloc (.cells #[.slice A ds.length c] 26) (Ext.refl w)
 have BX := fun w' (e : Ext (w.alloc (.cells #[.slice A ds.length c] 26)) w') => boxed e
 rw [ruleOk_at hi]
 obtain ⟨b, off, hA, hb, hall⟩ := hd.cells (by omega)
 have HALL := Lib.hid hall
 obtain ⟨Ab, cb, An, cn, At, ct, Ak, ck, hS, hRA⟩ := hall i hi
 clear hall
 have hsr := hs _ (List.getElem_mem hi); have hwr := hw _ (List.getElem_mem hi)
 have HF : Hid (∀ j (h : j < ds.length), freshNm ds ds[i] j = !(ds[j].nm.toList == ds[i].nm.toList)) := fun j h => freshNm_at h
 generalize ds[i] = r at *
 have HKO : Hid (∀ j (h : j < r.kids.length), kidOk r.kids i j = between r.kids[j] 0 ((i : Int) - 1)) := fun j h => kidOk_at h
 have CK := Lib.hid (fun w h h' => iKind_c A ds c r Ab cb An cn At ct Ak ck w h h' hsr hwr)
 have CN := Lib.hid (fun w => iIsName_c r.nm w hwr.nm)
 have HS := Lib.hid hS
 have hK := hS.k
 have hKl := hK.len
 generalize kindOk ds r = KO at *
 generalize isName r.nm = NM at *
 generalize freshNm ds r = FR at *
 have HSX : Hid (∀ w', Ext w w' → RdS w' r Ab cb An cn At ct Ak ck) := fun w' e => HS.out.ext e
 clear hS hsr hwr HS
 unfold vrule vdesc at *
 have CK' := Lib.hid (fun w' (e : Ext w w') => CK.out w' (hd.ext e) (HSX.out w' e))
 clear CK HSX
 replace hRA := hRA.ext eb
 obtain ⟨nm, kind, size, little, bytes, names, tags, kids⟩ := r
 obtain ⟨k0, k1, k2, k3, k4, k5, k6, k7⟩ := hRA
 dsimp only at *
 have hi1 : (i : Int) < (ds.length : Int) := by omega
 have hi0 : (0 : Int) ≤ (i : Int) := by omega
 have hic : (i : Int) ≤ (c : Int) := by omega
 have CI := Lib.hid (fun w => hasRule_c A ds.length c (i : Int) w hl)
 have HI : Hid ((decide ((0 : Int) ≤ (i : Int)) && decide ((i : Int) < (ds.length : Int))) = true) := by show _ = _; simp; omega
 rw [HI.out] at CI
 unfold vdesc at CI
 clear HI hd
 subst hA
 obtain ⟨kq, hkq⟩ : ∃ kq, (kind == 1) = kq := ⟨_, rfl⟩
 have hkn : (kind != 1) = !kq := by rw [bne, hkq]
 rw [hkq]
 cases NM
 ·clear hkq hkn
  go_enter Tryz.func98, Tryz.ntmps98
  go_wp2_with fail
  refine (CI.out _).mono ?_; rintro _ w1 ⟨rfl, s1⟩
  have x1 := Ext_alloc (.cells #[.string nm, .int .i64 kind, .int .i64 size, .bool little, .slice Ab bytes.length cb, .slice An names.length cn, .slice At tags.length ct, .slice Ak kids.length ck] 96) (Ext.refl w1)
  have BR := fun w' (e : Ext (w1.alloc (.cells #[.string nm, .int .i64 kind, .int .i64 size, .bool little, .slice Ab bytes.length cb, .slice An names.length cn, .slice At tags.length ct, .slice Ak kids.length ck] 96)) w') => boxed e
  have e1 := s1.trans x1
  have eb1 := eb.trans e1
  go_wp2_with fail
  refine (CN.out _).mono ?_; rintro _ w2 ⟨rfl, s2⟩
  go_wp2
  go_ret
  exact ⟨ret_bool (by simp), eb1.trans s2⟩
 cases little
 ·clear hkq hkn
  go_enter Tryz.func98, Tryz.ntmps98
  go_wp2_with fail
  refine (CI.out _).mono ?_; rintro _ w1 ⟨rfl, s1⟩
  have x1 := Ext_alloc (.cells #[.string nm, .int .i64 kind, .int .i64 size, .bool false, .slice Ab bytes.length cb, .slice An names.length cn, .slice At tags.length ct, .slice Ak kids.length ck] 96) (Ext.refl w1)
  have BR := fun w' (e : Ext (w1.alloc (.cells #[.string nm, .int .i64 kind, .int .i64 size, .bool false, .slice Ab bytes.length cb, .slice An names.length cn, .slice At tags.length ct, .slice Ak kids.length ck] 96)) w') => boxed e
  have e1 := s1.trans x1
  have eb1 := eb.trans e1
  go_wp2_with fail
  refine (CN.out _).mono ?_; rintro _ w2 ⟨rfl, s2⟩
  have hx2 := e1.trans s2
  go_wp2
  go_loopw [37] (fun q wr => ∃ k : Nat, k ≤ i ∧ q = .int .i64 k ∧ Hid (∀ j, j < k → FR j = true) ∧ Ext (w1.alloc (.cells #[.string nm, .int .i64 kind, .int .i64 size, .bool false, .slice Ab bytes.length cb, .slice An names.length cn, .slice At tags.length ct, .slice Ak kids.length ck] 96)) wr) (fun q _ => i - (intOf q).toNat)
  case atStart => exact ⟨0, by omega, rfl, (fun j hj => by omega), s2⟩
  case round =>
   clear hx2 s2
   obtain ⟨k, hk, rfl, ht, he⟩ := hrel
   have hx := e1.trans he
   by_cases hlt : k < i
   ·have hkd : k < ds.length := by omega
    obtain ⟨Ab2, cb2, An2, cn2, At2, ct2, Ak2, ck2, _, hR2⟩ := HALL.out k hkd
    have HN := Lib.hid (HF.out k hkd)
    have NO : Hid (FR k = false → allN i FR = false) := fun hf => allN_no hlt hf
    have YES : Hid (FR k = true → ∀ j, j < k + 1 → FR j = true) := upTo ht.out
    generalize ds[k] = p at *
    obtain ⟨m0, m1, m2, m3, m4, m5, m6, m7⟩ := hR2.ext eb
    clear hR2 ht
    have hk1 : (k : Int) < (ds.length : Int) := by omega
    cases hq : (p.nm.toList == nm.toList)
    ·have HE := Lib.hid (YES.out (HN.out.trans (by rw [hq]; rfl))); clear NO YES HN
     go_wp2
     go_roundw
     case rel => exact ⟨k+1, by omega, by go_num, HE.out, Ext_alloc _ he⟩
     case measure => simp [intOf]; omega
    ·have HE := Lib.hid (NO.out (HN.out.trans (by rw [hq]; rfl))); clear NO YES HN
     go_wp2
     go_ret
     exact ⟨ret_bool (by rw [HE.out]; simp), eb1.trans (Ext_alloc _ he)⟩
   ·have HE1 : Hid (allN i FR = true) := allN_yes (fun j hj => ht.out j (by omega))
    obtain ⟨wo, rfl⟩ : ∃ wo : World, wo = wr := ⟨_, rfl⟩
    clear ht HALL HF
    go_wp2
    go_loopw [50] (fun q wr => ∃ k : Nat, k ≤ kids.length ∧ q = .int .i64 k ∧ Hid (∀ j, j < k → kidOk kids i j = true) ∧ Ext (w1.alloc (.cells #[.string nm, .int .i64 kind, .int .i64 size, .bool false, .slice Ab bytes.length cb, .slice An names.length cn, .slice At tags.length ct, .slice Ak kids.length ck] 96)) wr) (fun q _ => kids.length - (intOf q).toNat)
    case atStart => exact ⟨0, by omega, rfl, (fun j hj => by omega), he⟩
    case round =>
     clear he hx
     obtain ⟨k, hk, rfl, ht, he⟩ := hrel
     have hx := e1.trans he
     by_cases hlt : k < kids.length
     ·have HN := Lib.hid (HKO.out k hlt)
      have NO : Hid (kidOk kids i k = false → allN kids.length (kidOk kids i) = false) := fun hf => allN_no hlt hf
      have YES : Hid (kidOk kids i k = true → ∀ j, j < k + 1 → kidOk kids i j = true) := upTo ht.out
      obtain ⟨b2, off2, rfl, hb2, hc2⟩ := hK.at k hlt
      have hc3 := fun w' (e : Ext _ w') => hc2 w' (eb.trans e)
      clear hc2 ht
      generalize kids[k] = kid at *
      cases q1 : decide (kid < 0)
      ·cases q2 : decide ((i : Int) ≤ kid)
       ·have HE := Lib.hid (YES.out (HN.out.trans (by unfold between; simp at q1 q2 ⊢; omega))); clear NO YES HN
        go_wp2
        go_roundw
        case rel => exact ⟨k+1, by omega, by go_num, HE.out, he⟩
        case measure => simp [intOf]; omega
       ·have HE := Lib.hid (NO.out (HN.out.trans (by unfold between; simp at q1 q2 ⊢; omega))); clear NO YES HN
        go_wp2
        go_ret
        exact ⟨ret_bool (by rw [HE.out]; simp), eb1.trans he⟩
      ·have HE := Lib.hid (NO.out (HN.out.trans (by unfold between; simp at q1 ⊢; omega))); clear NO YES HN
       go_wp2
       go_ret
       exact ⟨ret_bool (by rw [HE.out]; simp), eb1.trans he⟩
     ·have HE2 : Hid (allN kids.length (kidOk kids i) = true) := allN_yes (fun j hj => ht.out j (by omega))
      go_wp2_with fail
      refine (CK'.out _ (eb1.trans he)).mono ?_; rintro _ w8 ⟨rfl, s8⟩
      go_wp2
      go_ret
      exact ⟨ret_bool (by rw [HE1.out, HE2.out]; simp), eb1.trans (he.trans s8)⟩
 cases kq
 ·go_enter Tryz.func98, Tryz.ntmps98
  go_wp2_with fail
  refine (CI.out _).mono ?_; rintro _ w1 ⟨rfl, s1⟩
  have x1 := Ext_alloc (.cells #[.string nm, .int .i64 kind, .int .i64 size, .bool true, .slice Ab bytes.length cb, .slice An names.length cn, .slice At tags.length ct, .slice Ak kids.length ck] 96) (Ext.refl w1)
  have BR := fun w' (e : Ext (w1.alloc (.cells #[.string nm, .int .i64 kind, .int .i64 size, .bool true, .slice Ab bytes.length cb, .slice An names.length cn, .slice At tags.length ct, .slice Ak kids.length ck] 96)) w') => boxed e
  have e1 := s1.trans x1
  have eb1 := eb.trans e1
  go_wp2_with fail
  refine (CN.out _).mono ?_; rintro _ w2 ⟨rfl, s2⟩
  go_wp2
  go_ret
  exact ⟨ret_bool (by simp), eb1.trans s2⟩
 go_enter Tryz.func98, Tryz.ntmps98
 go_wp2_with fail
 refine (CI.out _).mono ?_; rintro _ w1 ⟨rfl, s1⟩
 have x1 := Ext_alloc (.cells #[.string nm, .int .i64 kind, .int .i64 size, .bool true, .slice Ab bytes.length cb, .slice An names.length cn, .slice At tags.length ct, .slice Ak kids.length ck] 96) (Ext.refl w1)
 have BR := fun w' (e : Ext (w1.alloc (.cells #[.string nm, .int .i64 kind, .int .i64 size, .bool true, .slice Ab bytes.length cb, .slice An names.length cn, .slice At tags.length ct, .slice Ak kids.length ck] 96)) w') => boxed e
 have e1 := s1.trans x1
 have eb1 := eb.trans e1
 go_wp2_with fail
 refine (CN.out _).mono ?_; rintro _ w2 ⟨rfl, s2⟩
 have hx2 := e1.trans s2
 go_wp2
 go_loopw [37] (fun q wr => ∃ k : Nat, k ≤ i ∧ q = .int .i64 k ∧ Hid (∀ j, j < k → FR j = true) ∧ Ext (w1.alloc (.cells #[.string nm, .int .i64 kind, .int .i64 size, .bool true, .slice Ab bytes.length cb, .slice An names.length cn, .slice At tags.length ct, .slice Ak kids.length ck] 96)) wr) (fun q _ => i - (intOf q).toNat)
 case atStart => exact ⟨0, by omega, rfl, (fun j hj => by omega), s2⟩
 case round =>
  clear hx2 s2
  obtain ⟨k, hk, rfl, ht, he⟩ := hrel
  have hx := e1.trans he
  by_cases hlt : k < i
  ·have hkd : k < ds.length := by omega
   obtain ⟨Ab2, cb2, An2, cn2, At2, ct2, Ak2, ck2, _, hR2⟩ := HALL.out k hkd
   have HN := Lib.hid (HF.out k hkd)
   have NO : Hid (FR k = false → allN i FR = false) := fun hf => allN_no hlt hf
   have YES : Hid (FR k = true → ∀ j, j < k + 1 → FR j = true) := upTo ht.out
   generalize ds[k] = p at *
   obtain ⟨m0, m1, m2, m3, m4, m5, m6, m7⟩ := hR2.ext eb
   clear hR2 ht
   have hk1 : (k : Int) < (ds.length : Int) := by omega
   cases hq : (p.nm.toList == nm.toList)
   ·have HE := Lib.hid (YES.out (HN.out.trans (by rw [hq]; rfl))); clear NO YES HN
    go_wp2
    go_roundw
    case rel => exact ⟨k+1, by omega, by go_num, HE.out, Ext_alloc _ he⟩
    case measure => simp [intOf]; omega
   ·have HE := Lib.hid (NO.out (HN.out.trans (by rw [hq]; rfl))); clear NO YES HN
    go_wp2
    go_ret
    exact ⟨ret_bool (by rw [HE.out]; simp), eb1.trans (Ext_alloc _ he)⟩
  ·have HE1 : Hid (allN i FR = true) := allN_yes (fun j hj => ht.out j (by omega))
   obtain ⟨wo, rfl⟩ : ∃ wo : World, wo = wr := ⟨_, rfl⟩
   clear ht HALL HF
   go_wp2
   go_loopw [50] (fun q wr => ∃ k : Nat, k ≤ kids.length ∧ q = .int .i64 k ∧ Hid (∀ j, j < k → kidOk kids i j = true) ∧ Ext (w1.alloc (.cells #[.string nm, .int .i64 kind, .int .i64 size, .bool true, .slice Ab bytes.length cb, .slice An names.length cn, .slice At tags.length ct, .slice Ak kids.length ck] 96)) wr) (fun q _ => kids.length - (intOf q).toNat)
   case atStart => exact ⟨0, by omega, rfl, (fun j hj => by omega), he⟩
   case round =>
    clear he hx
    obtain ⟨k, hk, rfl, ht, he⟩ := hrel
    have hx := e1.trans he
    by_cases hlt : k < kids.length
    ·have HN := Lib.hid (HKO.out k hlt)
     have NO : Hid (kidOk kids i k = false → allN kids.length (kidOk kids i) = false) := fun hf => allN_no hlt hf
     have YES : Hid (kidOk kids i k = true → ∀ j, j < k + 1 → kidOk kids i j = true) := upTo ht.out
     obtain ⟨b2, off2, rfl, hb2, hc2⟩ := hK.at k hlt
     have hc3 := fun w' (e : Ext _ w') => hc2 w' (eb.trans e)
     clear hc2 ht
     generalize kids[k] = kid at *
     cases q1 : decide (kid < 0)
     ·cases q2 : decide ((i : Int) ≤ kid)
      ·have HE := Lib.hid (YES.out (HN.out.trans (by unfold between; simp at q1 q2 ⊢; omega))); clear NO YES HN
       go_wp2
       go_roundw
       case rel => exact ⟨k+1, by omega, by go_num, HE.out, he⟩
       case measure => simp [intOf]; omega
      ·have HE := Lib.hid (NO.out (HN.out.trans (by unfold between; simp at q1 q2 ⊢; omega))); clear NO YES HN
       go_wp2
       go_ret
       exact ⟨ret_bool (by rw [HE.out]; simp), eb1.trans he⟩
     ·have HE := Lib.hid (NO.out (HN.out.trans (by unfold between; simp at q1 ⊢; omega))); clear NO YES HN
      go_wp2
      go_ret
      exact ⟨ret_bool (by rw [HE.out]; simp), eb1.trans he⟩
    ·have HE2 : Hid (allN kids.length (kidOk kids i) = true) := allN_yes (fun j hj => ht.out j (by omega))
     go_wp2_with fail
     refine (CK'.out _ (eb1.trans he)).mono ?_; rintro _ w8 ⟨rfl, s8⟩
     go_wp2
     go_ret
     exact ⟨ret_bool (by rw [HE1.out, HE2.out]; simp), eb1.trans (he.trans s8)⟩
theorem sRule_c (A : Option Addr) (ds : List DRule) (c : Nat) (i : Nat) (w : World) (hd : RdD w A ds c) (hi : i < ds.length) (hs : ShortD ds) (hw : WfD ds) :
 Gives Tryz.prog 73 #[vdesc (.slice A ds.length c), .int .i64 i] w (.bool (ruleOk ds i)) := by
 have hl := hd.len
 have hcap := hd.cap
 have eb := Ext_alloc (.cells #[.slice A ds.length c] 26) (Ext.refl w)
 have BX := fun w' (e : Ext (w.alloc (.cells #[.slice A ds.length c] 26)) w') => boxed e
 rw [ruleOk_at hi]
 obtain ⟨b, off, hA, hb, hall⟩ := hd.cells (by omega)
 have HALL := Lib.hid hall
 obtain ⟨Ab, cb, An, cn, At, ct, Ak, ck, hS, hRA⟩ := hall i hi
 clear hall
 have hsr := hs _ (List.getElem_mem hi); have hwr := hw _ (List.getElem_mem hi)
 have HF : Hid (∀ j (h : j < ds.length), freshNm ds ds[i] j = !(ds[j].nm.toList == ds[i].nm.toList)) := fun j h => freshNm_at h
 generalize ds[i] = r at *
 have HKO : Hid (∀ j (h : j < r.kids.length), kidOk r.kids i j = between r.kids[j] 0 ((i : Int) - 1)) := fun j h => kidOk_at h
 have CK := Lib.hid (fun w h h' => sKind_c A ds c r Ab cb An cn At ct Ak ck w h h' hsr hwr)
 have CN := Lib.hid (fun w => sIsName_c r.nm w hwr.nm)
 have HS := Lib.hid hS
 have hK := hS.k
 have hKl := hK.len
 generalize kindOk ds r = KO at *
 generalize isName r.nm = NM at *
 generalize freshNm ds r = FR at *
 have HSX : Hid (∀ w', Ext w w' → RdS w' r Ab cb An cn At ct Ak ck) := fun w' e => HS.out.ext e
 clear hS hsr hwr HS
 unfold vrule vdesc at *
 have CK' := Lib.hid (fun w' (e : Ext w w') => CK.out w' (hd.ext e) (HSX.out w' e))
 clear CK HSX
 replace hRA := hRA.ext eb
 obtain ⟨nm, kind, size, little, bytes, names, tags, kids⟩ := r
 obtain ⟨k0, k1, k2, k3, k4, k5, k6, k7⟩ := hRA
 dsimp only at *
 have hi1 : (i : Int) < (ds.length : Int) := by omega
 have hi0 : (0 : Int) ≤ (i : Int) := by omega
 have hic : (i : Int) ≤ (c : Int) := by omega
 have CI := Lib.hid (fun w => l1In_c (i : Int) 0 ((ds.length : Int) - 1) w)
 have HI : Hid ((decide ((0 : Int) ≤ (i : Int)) && decide ((i : Int) ≤ (ds.length : Int) - 1)) = true) := by show _ = _; simp; omega
 rw [HI.out] at CI
 clear HI hd
 subst hA
 go_enter Tryz.func73, Tryz.ntmps73
 go_wp2_with fail
 refine (CI.out _).mono ?_; rintro _ w1 ⟨rfl, s1⟩
 have x1 := Ext_alloc (.cells #[.string nm, .int .i64 kind, .int .i64 size, .bool little, .slice Ab bytes.length cb, .slice An names.length cn, .slice At tags.length ct, .slice Ak kids.length ck] 96) (Ext.refl w1)
 have BR := fun w' (e : Ext (w1.alloc (.cells #[.string nm, .int .i64 kind, .int .i64 size, .bool little, .slice Ab bytes.length cb, .slice An names.length cn, .slice At tags.length ct, .slice Ak kids.length ck] 96)) w') => boxed e
 have e1 := s1.trans x1
 have eb1 := eb.trans e1
 go_wp2
 go_loopw [6] (fun q wr => ∃ k : Nat, k ≤ i ∧ q = .int .i64 k ∧ Hid (∀ j, j < k → FR j = true) ∧ Ext (w1.alloc (.cells #[.string nm, .int .i64 kind, .int .i64 size, .bool little, .slice Ab bytes.length cb, .slice An names.length cn, .slice At tags.length ct, .slice Ak kids.length ck] 96)) wr) (fun q _ => i - (intOf q).toNat)
 case atStart => exact ⟨0, by omega, rfl, (fun j hj => by omega), Ext.refl _⟩
 case round =>
  skip
  obtain ⟨k, hk, rfl, ht, he⟩ := hrel
  have hx := e1.trans he
  by_cases hlt : k < i
  ·have hkd : k < ds.length := by omega
   obtain ⟨Ab2, cb2, An2, cn2, At2, ct2, Ak2, ck2, _, hR2⟩ := HALL.out k hkd
   have HN := Lib.hid (HF.out k hkd)
   have NO : Hid (FR k = false → allN i FR = false) := fun hf => allN_no hlt hf
   have YES : Hid (FR k = true → ∀ j, j < k + 1 → FR j = true) := upTo ht.out
   generalize ds[k] = p at *
   obtain ⟨m0, m1, m2, m3, m4, m5, m6, m7⟩ := hR2.ext eb
   clear hR2 ht
   have hk1 : (k : Int) < (ds.length : Int) := by omega
   cases hq : (p.nm.toList == nm.toList)
   ·have HE := Lib.hid (YES.out (HN.out.trans (by rw [hq]; rfl))); clear NO YES HN
    go_wp2_with fail
    refine wp_region_quiet_below (by kernel_rfl) (by kernel_rfl) ?_
    repeat (go_big_quiet_step (fail))
    refine wpQuiet_nil ?_
    rintro w5 ⟨⟨nq, osq⟩, hq⟩
    have ew5 := ext_of_q hq
    clear hq nq osq
    go_wp2
    go_roundw
    case rel => exact ⟨k+1, by omega, by go_num, HE.out, he.trans ew5⟩
    case measure => simp [intOf]; omega
   ·have HE := Lib.hid (NO.out (HN.out.trans (by rw [hq]; rfl))); clear NO YES HN
    go_wp2_with fail
    refine wp_region_quiet_below (by kernel_rfl) (by kernel_rfl) ?_
    repeat (go_big_quiet_step (fail))
    refine wpQuiet_nil ?_
    rintro w5 ⟨⟨nq, osq⟩, hq⟩
    have ew5 := ext_of_q hq
    clear hq nq osq
    go_wp2
    go_ret
    exact ⟨ret_bool (by rw [HE.out]; simp), eb1.trans (he.trans ew5)⟩
  ·have HE1 : Hid (allN i FR = true) := allN_yes (fun j hj => ht.out j (by omega))
   obtain ⟨wo, rfl⟩ : ∃ wo : World, wo = wr := ⟨_, rfl⟩
   clear ht HALL HF
   go_wp2
   go_loopw [7] (fun q wr => ∃ k : Nat, k ≤ kids.length ∧ q = .int .i64 k ∧ Hid (∀ j, j < k → kidOk kids i j = true) ∧ Ext (w1.alloc (.cells #[.string nm, .int .i64 kind, .int .i64 size, .bool little, .slice Ab bytes.length cb, .slice An names.length cn, .slice At tags.length ct, .slice Ak kids.length ck] 96)) wr) (fun q _ => kids.length - (intOf q).toNat)
   case atStart => exact ⟨0, by omega, rfl, (fun j hj => by omega), he⟩
   case round =>
    clear he hx
    obtain ⟨k, hk, rfl, ht, he⟩ := hrel
    have hx := e1.trans he
    by_cases hlt : k < kids.length
    ·have HN := Lib.hid (HKO.out k hlt)
     have NO : Hid (kidOk kids i k = false → allN kids.length (kidOk kids i) = false) := fun hf => allN_no hlt hf
     have YES : Hid (kidOk kids i k = true → ∀ j, j < k + 1 → kidOk kids i j = true) := upTo ht.out
     obtain ⟨b2, off2, rfl, hb2, hc2⟩ := hK.at k hlt
     have hc3 := fun w' (e : Ext _ w') => hc2 w' (eb.trans e)
     clear hc2 ht
     generalize kids[k] = kid at *
     have CB := Lib.hid (fun w => l1In_c kid 0 ((i : Int) - 1) w)
     have HB : Hid (between kid 0 ((i : Int) - 1) = (decide ((0 : Int) ≤ kid) && decide (kid ≤ (i : Int) - 1))) := rfl
     rw [← HB.out] at CB
     clear HB
     generalize between kid 0 ((i : Int) - 1) = q1 at *
     cases q1
     ·have HE := Lib.hid (NO.out HN.out); clear NO YES HN
      go_wp2_with fail
      refine (CB.out _).mono ?_; rintro _ w6 ⟨rfl, s6⟩
      go_wp2
      go_ret
      exact ⟨ret_bool (by rw [HE.out]; simp), eb1.trans (he.trans s6)⟩
     ·have HE := Lib.hid (YES.out HN.out); clear NO YES HN
      go_wp2_with fail
      refine (CB.out _).mono ?_; rintro _ w6 ⟨rfl, s6⟩
      go_wp2
      go_roundw
      case rel => exact ⟨k+1, by omega, by go_num, HE.out, he.trans s6⟩
      case measure => simp [intOf]; omega
    ·have HE2 : Hid (allN kids.length (kidOk kids i) = true) := allN_yes (fun j hj => ht.out j (by omega))
     cases NM
     ·go_wp2_with fail
      refine (CN.out _).mono ?_; rintro _ w7 ⟨rfl, s7⟩
      go_wp2
      go_ret
      exact ⟨ret_bool (by simp), eb1.trans (he.trans s7)⟩
     ·go_wp2_with fail
      refine (CN.out _).mono ?_; rintro _ w7 ⟨rfl, s7⟩
      have e7 := he.trans s7
      have hx7 := hx.trans s7
      go_wp2_with fail
      refine (CK'.out _ (eb1.trans e7)).mono ?_; rintro _ w8 ⟨rfl, s8⟩
      go_wp2
      go_ret
      exact ⟨ret_bool (by rw [HE1.out, HE2.out]; simp), eb1.trans (e7.trans s8)⟩
theorem iValidDesc_c (A : Option Addr) (ds : List DRule) (c : Nat) (w : World) (hd : RdD w A ds c) (hs : ShortD ds) (hw : WfD ds) :
 Gives Tryz.prog 58 #[vdesc (.slice A ds.length c)] w (.bool (descOk ds)) := by
 have hl := hd.len
 have eb := Ext_alloc (.cells #[.slice A ds.length c] 26) (Ext.refl w)
 have BX := fun w' (e : Ext (w.alloc (.cells #[.slice A ds.length c] 26)) w') => boxed e
 have CI := Lib.hid (fun w => iInRange_c (ds.length : Int) 1 24 w)
 have CR := Lib.hid (fun i w h hi => iRule_c A ds c i w h hi hs hw)
 have HB : Hid (between ds.length 1 24 = (decide ((1 : Int) ≤ (ds.length : Int)) && decide ((ds.length : Int) ≤ 24))) := rfl
 rw [← HB.out] at CI
 unfold descOk
 clear HB
 generalize between ds.length 1 24 = p at *
 unfold vdesc at *
 cases p
 ·go_enter Tryz.func58, Tryz.ntmps58
  go_wp2_with fail
  refine (CI.out _).mono ?_; rintro _ w5 ⟨rfl, s5⟩
  go_wp2
  go_ret
  exact ⟨ret_bool (by simp), eb.trans s5⟩
 ·go_enter Tryz.func58, Tryz.ntmps58
  go_wp2_with fail
  refine (CI.out _).mono ?_; rintro _ w5 ⟨rfl, s5⟩
  go_wp2
  go_loopw [12] (fun q wr => ∃ k : Nat, k ≤ ds.length ∧ q = .int .i64 k ∧ Hid (∀ j, j < k → ruleOk ds j = true) ∧ Ext (w.alloc (.cells #[.slice A ds.length c] 26)) wr) (fun q _ => ds.length - (intOf q).toNat)
  case atStart => exact ⟨0, by omega, rfl, (fun j hj => by omega), s5⟩
  case round =>
   clear s5
   obtain ⟨k, hk, rfl, ht, he⟩ := hrel
   by_cases hlt : k < ds.length
   ·have C := Lib.hid (fun w h => CR.out k w h hlt)
    have NO : Hid (ruleOk ds k = false → allN ds.length (ruleOk ds) = false) := fun hf => allN_no hlt hf
    have YES : Hid (ruleOk ds k = true → ∀ j, j < k + 1 → ruleOk ds j = true) := upTo ht.out
    generalize ruleOk ds k = q at *
    clear ht
    cases q
    ·have HE := Lib.hid (NO.out rfl); clear NO YES
     go_wp2_with fail
     refine (C.out _ (hd.ext (eb.trans he))).mono ?_; rintro _ w4 ⟨rfl, s4⟩
     go_wp2
     go_ret
     exact ⟨ret_bool (by rw [HE.out]; simp), eb.trans (he.trans s4)⟩
    ·have HE := Lib.hid (YES.out rfl); clear NO YES
     go_wp2_with fail
     refine (C.out _ (hd.ext (eb.trans he))).mono ?_; rintro _ w4 ⟨rfl, s4⟩
     go_wp2
     go_roundw
     case rel => exact ⟨k+1, by omega, by go_num, HE.out, he.trans s4⟩
     case measure => simp [intOf]; omega
   ·have HE : Hid (allN ds.length (ruleOk ds) = true) := allN_yes (fun j hj => ht.out j (by omega))
    go_wp2
    go_ret
    exact ⟨ret_bool (by rw [HE.out]; simp), eb.trans he⟩
theorem sValidDesc_c (A : Option Addr) (ds : List DRule) (c : Nat) (w : World) (hd : RdD w A ds c) (hs : ShortD ds) (hw : WfD ds) :
 Gives Tryz.prog 42 #[vdesc (.slice A ds.length c)] w (.bool (descOk ds)) := by
 have hl := hd.len
 have eb := Ext_alloc (.cells #[.slice A ds.length c] 26) (Ext.refl w)
 have BX := fun w' (e : Ext (w.alloc (.cells #[.slice A ds.length c] 26)) w') => boxed e
 have CI := Lib.hid (fun w => l1In_c (ds.length : Int) 1 24 w)
 have CR := Lib.hid (fun i w h hi => sRule_c A ds c i w h hi hs hw)
 have HB : Hid (between ds.length 1 24 = (decide ((1 : Int) ≤ (ds.length : Int)) && decide ((ds.length : Int) ≤ 24))) := rfl
 rw [← HB.out] at CI
 unfold descOk
 clear HB
 generalize between ds.length 1 24 = p at *
 unfold vdesc at *
 go_enter Tryz.func42, Tryz.ntmps42
 go_wp2
 go_loopw [3] (fun q wr => ∃ k : Nat, k ≤ ds.length ∧ q = .int .i64 k ∧ Hid (∀ j, j < k → ruleOk ds j = true) ∧ Ext (w.alloc (.cells #[.slice A ds.length c] 26)) wr) (fun q _ => ds.length - (intOf q).toNat)
 case atStart => exact ⟨0, by omega, rfl, (fun j hj => by omega), Ext.refl _⟩
 case round =>
  obtain ⟨k, hk, rfl, ht, he⟩ := hrel
  by_cases hlt : k < ds.length
  ·have C := Lib.hid (fun w h => CR.out k w h hlt)
   have NO : Hid (ruleOk ds k = false → allN ds.length (ruleOk ds) = false) := fun hf => allN_no hlt hf
   have YES : Hid (ruleOk ds k = true → ∀ j, j < k + 1 → ruleOk ds j = true) := upTo ht.out
   generalize ruleOk ds k = q at *
   clear ht
   cases q
   ·have HE := Lib.hid (NO.out rfl); clear NO YES
    go_wp2_with fail
    refine (C.out _ (hd.ext (eb.trans he))).mono ?_; rintro _ w4 ⟨rfl, s4⟩
    go_wp2
    go_ret
    exact ⟨ret_bool (by rw [HE.out]; simp), eb.trans (he.trans s4)⟩
   ·have HE := Lib.hid (YES.out rfl); clear NO YES
    go_wp2_with fail
    refine (C.out _ (hd.ext (eb.trans he))).mono ?_; rintro _ w4 ⟨rfl, s4⟩
    go_wp2
    go_roundw
    case rel => exact ⟨k+1, by omega, by go_num, HE.out, he.trans s4⟩
    case measure => simp [intOf]; omega
  ·have HE : Hid (allN ds.length (ruleOk ds) = true) := allN_yes (fun j hj => ht.out j (by omega))
   go_wp2_with fail
   refine (CI.out _).mono ?_; rintro _ w5 ⟨rfl, s5⟩
   go_wp2
   go_ret
   exact ⟨ret_bool (by rw [HE.out]; simp), eb.trans (he.trans s5)⟩
def regF (gs : List (List DRule)) (i : Nat) : Bool := match gs[i]? with | some d => descOk d | none => true
end Go.Proofs.YtpmcofmdjckijaaGreat
