/- ExtendsRule, Extends, SameFormat of the program and of the reference: the walks. -/
import Derived.Test.YtpefbcnfhngggaaExt5
import Derived.Test.YtpefbcnfhngggaaLostI
namespace Go.Proofs.Ytpefbcnfhngggaa
open Go.RowKit Go.Sort

theorem known_desc {ds : List DRule} {i : Int} (h : knownB ds i = true) : descOk ds = true := by unfold knownB at h; rw [Bool.and_eq_true] at h; exact h.1
set_option maxRecDepth 100000 in
set_option maxHeartbeats 4000000 in
theorem iExtRule_c (A A' : Option Addr) (a b : List DRule) (c c' : Nat) (ra rb : Int) (w : World) (ha : RdD w A a c) (hb : RdD w A' b c') (hsa : ShortD a) (hwa : WfD a) (hsb : ShortD b) (hwb : WfD b) :
    Gives Try.prog 10 #[vdesc (.slice A a.length c), .int .i64 ra, vdesc (.slice A' b.length c'), .int .i64 rb] w (.bool (extRule a b ra rb)) := by
  have eb := Ext_alloc (.cells #[.slice A' b.length c'] 29) (Ext_alloc (.cells #[.slice A a.length c] 29) (Ext.refl w))
  have BX := fun w' (e : Ext ((w.alloc (.cells #[.slice A a.length c] 29)).alloc (.cells #[.slice A' b.length c'] 29)) w') => boxed2 e
  have B0 := fun w' e => (BX w' e).1
  have B1 := fun w' e => (BX w' e).2.1
  clear BX
  have CA := Lib.hid (fun w h => iKnown_c A a c ra w h hsa hwa)
  have CB := Lib.hid (fun w h => iKnown_c A' b c' rb w h hsb hwb)
  have HA := Lib.hid ha; have HB := Lib.hid hb
  have HSA := Lib.hid hsa; have HSB := Lib.hid hsb
  clear ha hb hsa hsb hwa hwb
  unfold vdesc at *
  cases hka : knownB a ra
  · have HE : Hid (extRule a b ra rb = false) := by show _ = _; unfold extRule; rw [hka]; rfl
    rw [HE.out]
    rw [hka] at CA; clear hka
    go_enter Try.func10, Try.ntmps10
    go_wp2_with fail
    refine (CA.out _ (HA.out.ext eb)).mono ?_; rintro _ w1 ⟨rfl, s1⟩
    go_wp2
    go_ret
    exact ⟨rfl, eb.trans s1⟩
  cases hkb : knownB b rb
  · have HE : Hid (extRule a b ra rb = false) := by show _ = _; unfold extRule; rw [hka, hkb]; rfl
    rw [HE.out]
    rw [hka] at CA; rw [hkb] at CB; clear hka hkb
    go_enter Try.func10, Try.ntmps10
    go_wp2_with fail
    refine (CA.out _ (HA.out.ext eb)).mono ?_; rintro _ w1 ⟨rfl, s1⟩
    have e1 := eb.trans s1
    replace B1 := fun w' (e : Ext w1 w') => B1 w' (Ext.trans s1 e)
    go_wp2_with fail
    refine (CB.out _ (HB.out.ext e1)).mono ?_; rintro _ w2 ⟨rfl, s2⟩
    go_wp2
    go_ret
    exact ⟨rfl, e1.trans s2⟩
  have HVA := Lib.hid (known_desc hka); have HVB := Lib.hid (known_desc hkb)
  obtain ⟨i, hi, rfl⟩ := knownB_at hka
  obtain ⟨j, hj, rfl⟩ := knownB_at hkb
  have HE : Hid (extRule a b (i : Int) (j : Int) = ext a b i j) := by show _ = _; unfold extRule; rw [hka, hkb]; simp
  rw [HE.out]
  rw [hka] at CA; rw [hkb] at CB; clear hka hkb HE
  go_enter Try.func10, Try.ntmps10
  go_wp2_with fail
  refine (CA.out _ (HA.out.ext eb)).mono ?_; rintro _ w1 ⟨rfl, s1⟩
  have e1 := eb.trans s1
  replace B0 := fun w' (e : Ext w1 w') => B0 w' (Ext.trans s1 e)
  replace B1 := fun w' (e : Ext w1 w') => B1 w' (Ext.trans s1 e)
  go_wp2_with fail
  refine (CB.out _ (HB.out.ext e1)).mono ?_; rintro _ w2 ⟨rfl, s2⟩
  have e2 := e1.trans s2
  replace B0 := fun w' (e : Ext w2 w') => B0 w' (Ext.trans s2 e)
  replace B1 := fun w' (e : Ext w2 w') => B1 w' (Ext.trans s2 e)
  clear s1 s2 e1 eb CA CB
  have x1 := Ext_alloc (.map #[] 0) (Ext.refl w2)
  have hsz : (w2.alloc (.map #[] 0)).heap.size = w2.heap.size + 1 := by simp
  have x2 : Ext w2 ((w2.alloc (.map #[] 0)).alloc (.cells #[.slice A a.length c, .slice A' b.length c', .map (some w2.heap.size)] 55)) := Ext_alloc _ x1
  have bx := Box.new (w2.alloc (.map #[] 0)) #[.slice A a.length c, .slice A' b.length c', .map (some w2.heap.size)] 55
  rw [hsz] at bx
  have OK : Hid (Cmp.Ok ⟨A, a, c, A', b, c', w2.heap.size + 1, w2.heap.size, w2⟩) := ⟨HA.out.ext e2, HB.out.ext e2, HVA.out, HVB.out, HSA.out, HSB.out, Nat.le_refl _, by simp⟩
  have ST : Hid (Cmp.St ⟨A, a, c, A', b, c', w2.heap.size + 1, w2.heap.size, w2⟩ ((w2.alloc (.map #[] 0)).alloc (.cells #[.slice A a.length c, .slice A' b.length c', .map (some w2.heap.size)] 55)) []) :=
    ⟨x2, bx, (Memo.made w2).kept (grown_ext (Ext_alloc _ (Ext.refl _)) none) (by simp)⟩
  have C := Lib.hid (rule_c _ OK.out (i + 1) i (Nat.lt_succ_self _) hi j hj _ _ ST.out)
  clear bx hsz
  have hmm : ∀ w : World, (Instr.makeMap 53 none).run Try.prog w = .ok (.map (some w.heap.size)) (w.alloc (.map #[] 0)) := fun w => rfl
  go_wp2_with fail
  refine C.out.mono ?_
  rintro _ w3 ⟨rfl, hg, _⟩
  go_wp2
  go_ret
  exact ⟨rfl, (e2.trans x2).grown hg (fun k hk => by injection hk with hk; have := e2.size; omega)⟩
set_option maxRecDepth 100000 in
set_option maxHeartbeats 4000000 in
theorem sExtRule_c (A A' : Option Addr) (a b : List DRule) (c c' : Nat) (ra rb : Int) (w : World) (ha : RdD w A a c) (hb : RdD w A' b c') (hsa : ShortD a) (hwa : WfD a) (hsb : ShortD b) (hwb : WfD b) :
    Gives Try.prog 8 #[vdesc (.slice A a.length c), .int .i64 ra, vdesc (.slice A' b.length c'), .int .i64 rb] w (.bool (extRule a b ra rb)) := by
  have eb := Ext_alloc (.cells #[.slice A' b.length c'] 29) (Ext_alloc (.cells #[.slice A a.length c] 29) (Ext.refl w))
  have BX := fun w' (e : Ext ((w.alloc (.cells #[.slice A a.length c] 29)).alloc (.cells #[.slice A' b.length c'] 29)) w') => boxed2 e
  have B0 := fun w' e => (BX w' e).1
  have B1 := fun w' e => (BX w' e).2.1
  clear BX
  have CA := Lib.hid (fun w h => sKnown_c A a c ra w h hsa hwa)
  have CB := Lib.hid (fun w h => sKnown_c A' b c' rb w h hsb hwb)
  have HA := Lib.hid ha; have HB := Lib.hid hb
  have HSA := Lib.hid hsa; have HSB := Lib.hid hsb
  clear ha hb hsa hsb hwa hwb
  have SX : Hid (∀ (i j : Nat), i < a.length → j < b.length → descOk a = true → descOk b = true → ∀ w', Ext w w' → Gives Try.prog 27 #[vdesc (.slice A a.length c), .int .i64 (i : Int), vdesc (.slice A' b.length c'), .int .i64 (j : Int)] w' (.bool (ext a b i j))) :=
    fun i j hi hj hva hvb w' e => sExt_c A A' a b c c' w HA.out HB.out hva hvb HSA.out HSB.out (i + 1) i (Nat.lt_succ_self _) hi j hj w' e
  unfold vdesc at *
  cases hka : knownB a ra
  · have HE : Hid (extRule a b ra rb = false) := by show _ = _; unfold extRule; rw [hka]; rfl
    rw [HE.out]
    rw [hka] at CA; clear hka
    go_enter Try.func8, Try.ntmps8
    go_wp2_with fail
    refine (CA.out _ (HA.out.ext eb)).mono ?_; rintro _ w1 ⟨rfl, s1⟩
    go_wp2
    go_ret
    exact ⟨rfl, eb.trans s1⟩
  cases hkb : knownB b rb
  · have HE : Hid (extRule a b ra rb = false) := by show _ = _; unfold extRule; rw [hka, hkb]; rfl
    rw [HE.out]
    rw [hka] at CA; rw [hkb] at CB; clear hka hkb
    go_enter Try.func8, Try.ntmps8
    go_wp2_with fail
    refine (CA.out _ (HA.out.ext eb)).mono ?_; rintro _ w1 ⟨rfl, s1⟩
    have e1 := eb.trans s1
    replace B1 := fun w' (e : Ext w1 w') => B1 w' (Ext.trans s1 e)
    go_wp2_with fail
    refine (CB.out _ (HB.out.ext e1)).mono ?_; rintro _ w2 ⟨rfl, s2⟩
    go_wp2
    go_ret
    exact ⟨rfl, e1.trans s2⟩
  have HVA := Lib.hid (known_desc hka); have HVB := Lib.hid (known_desc hkb)
  obtain ⟨i, hi, rfl⟩ := knownB_at hka
  obtain ⟨j, hj, rfl⟩ := knownB_at hkb
  have HE : Hid (extRule a b (i : Int) (j : Int) = ext a b i j) := by show _ = _; unfold extRule; rw [hka, hkb]; simp
  rw [HE.out]
  rw [hka] at CA; rw [hkb] at CB; clear hka hkb HE
  have C := Lib.hid (SX.out i j hi hj HVA.out HVB.out)
  generalize ext a b i j = z at *
  go_enter Try.func8, Try.ntmps8
  go_wp2_with fail
  refine (CA.out _ (HA.out.ext eb)).mono ?_; rintro _ w1 ⟨rfl, s1⟩
  have e1 := eb.trans s1
  replace B0 := fun w' (e : Ext w1 w') => B0 w' (Ext.trans s1 e)
  replace B1 := fun w' (e : Ext w1 w') => B1 w' (Ext.trans s1 e)
  go_wp2_with fail
  refine (CB.out _ (HB.out.ext e1)).mono ?_; rintro _ w2 ⟨rfl, s2⟩
  have e2 := e1.trans s2
  replace B0 := fun w' (e : Ext w2 w') => B0 w' (Ext.trans s2 e)
  replace B1 := fun w' (e : Ext w2 w') => B1 w' (Ext.trans s2 e)
  clear s1 s2 e1 eb CA CB
  go_wp2_with fail
  refine (C.out _ e2).mono ?_; rintro _ w3 ⟨rfl, s3⟩
  go_wp2
  go_ret
  exact ⟨rfl, e2.trans s3⟩
set_option maxRecDepth 100000 in
set_option maxHeartbeats 4000000 in
theorem sExtD_c (A A' : Option Addr) (a b : List DRule) (c c' : Nat) (w : World) (ha : RdD w A a c) (hb : RdD w A' b c') (hsa : ShortD a) (hwa : WfD a) (hsb : ShortD b) (hwb : WfD b) :
    Gives Try.prog 12 #[vdesc (.slice A a.length c), vdesc (.slice A' b.length c')] w (.bool (extD a b)) := by
  have eb := Ext_alloc (.cells #[.slice A' b.length c'] 29) (Ext_alloc (.cells #[.slice A a.length c] 29) (Ext.refl w))
  have BX := fun w' (e : Ext ((w.alloc (.cells #[.slice A a.length c] 29)).alloc (.cells #[.slice A' b.length c'] 29)) w') => boxed2 e
  have B0 := fun w' e => (BX w' e).1
  have B1 := fun w' e => (BX w' e).2.1
  clear BX
  have hla := ha.len; have hlb := hb.len
  have RA := Lib.hid (fun w => sRoot_c A a c w hla)
  have RB := Lib.hid (fun w => sRoot_c A' b c' w hlb)
  have CX : Hid (∀ w', Ext w w' → Gives Try.prog 8 #[vdesc (.slice A a.length c), .int .i64 ((a.length : Int) - 1), vdesc (.slice A' b.length c'), .int .i64 ((b.length : Int) - 1)] w' (.bool (extD a b))) :=
    fun w' e => sExtRule_c A A' a b c c' _ _ w' (ha.ext e) (hb.ext e) hsa hwa hsb hwb
  clear ha hb hsa hwa hsb hwb
  unfold vdesc at *
  generalize extD a b = z at *
  obtain ⟨W1, hW1⟩ : ∃ W1, W1 = ((w.alloc (.cells #[.slice A a.length c] 29)).alloc (.cells #[.slice A' b.length c'] 29)) := ⟨_, rfl⟩
  go_enter Try.func12, Try.ntmps12
  go_wp2_with fail
  refine wp_region_quiet_below (by kernel_rfl) (by kernel_rfl) ?_
  repeat (go_big_quiet_step ((first | (go_at_call 32; first | exact Calls.regrown_of (RA.out _) | exact Calls.regrown_of (RB.out _)) | (go_at_call 8; exact Calls.regrown_of (CX.out _ (eb.trans (Ext_regrown _ _ (Ext.refl _))))))))
  refine wpQuiet_nil ?_
  rintro w2 ⟨⟨nq, osq⟩, hq⟩
  have ew2 := ext_of_q hq
  clear hq nq osq
  go_wp2
  go_ret
  exact ⟨rfl, eb.trans ew2⟩

set_option maxRecDepth 100000 in
set_option maxHeartbeats 4000000 in
theorem iExtD_c (A A' : Option Addr) (a b : List DRule) (c c' : Nat) (w : World) (ha : RdD w A a c) (hb : RdD w A' b c') (hsa : ShortD a) (hwa : WfD a) (hsb : ShortD b) (hwb : WfD b) :
    Gives Try.prog 13 #[vdesc (.slice A a.length c), vdesc (.slice A' b.length c')] w (.bool (extD a b)) := by
  have eb := Ext_alloc (.cells #[.slice A' b.length c'] 29) (Ext_alloc (.cells #[.slice A a.length c] 29) (Ext.refl w))
  have BX := fun w' (e : Ext ((w.alloc (.cells #[.slice A a.length c] 29)).alloc (.cells #[.slice A' b.length c'] 29)) w') => boxed2 e
  have B0 := fun w' e => (BX w' e).1
  have B1 := fun w' e => (BX w' e).2.1
  clear BX
  have hla := ha.len; have hlb := hb.len
  have RA := Lib.hid (fun w => iRoot_c A a c w hla)
  have RB := Lib.hid (fun w => iRoot_c A' b c' w hlb)
  have CX : Hid (∀ w', Ext w w' → Gives Try.prog 10 #[vdesc (.slice A a.length c), .int .i64 ((a.length : Int) - 1), vdesc (.slice A' b.length c'), .int .i64 ((b.length : Int) - 1)] w' (.bool (extD a b))) :=
    fun w' e => iExtRule_c A A' a b c c' _ _ w' (ha.ext e) (hb.ext e) hsa hwa hsb hwb
  clear ha hb hsa hwa hsb hwb
  unfold vdesc at *
  generalize extD a b = z at *
  obtain ⟨W1, hW1⟩ : ∃ W1, W1 = ((w.alloc (.cells #[.slice A a.length c] 29)).alloc (.cells #[.slice A' b.length c'] 29)) := ⟨_, rfl⟩
  go_enter Try.func13, Try.ntmps13
  go_wp2_with fail
  refine wp_region_quiet_below (by kernel_rfl) (by kernel_rfl) ?_
  repeat (go_big_quiet_step ((first | (go_at_call 33; first | exact Calls.regrown_of (RA.out _) | exact Calls.regrown_of (RB.out _)) | (go_at_call 10; exact Calls.regrown_of (CX.out _ (eb.trans (Ext_regrown _ _ (Ext.refl _))))))))
  refine wpQuiet_nil ?_
  rintro w2 ⟨⟨nq, osq⟩, hq⟩
  have ew2 := ext_of_q hq
  clear hq nq osq
  go_wp2
  go_ret
  exact ⟨rfl, eb.trans ew2⟩
set_option maxRecDepth 100000 in
set_option maxHeartbeats 4000000 in
theorem sSame_c (A A' : Option Addr) (a b : List DRule) (c c' : Nat) (w : World) (ha : RdD w A a c) (hb : RdD w A' b c') (hsa : ShortD a) (hwa : WfD a) (hsb : ShortD b) (hwb : WfD b) :
    Gives Try.prog 14 #[vdesc (.slice A a.length c), vdesc (.slice A' b.length c')] w (.bool (sameF a b)) := by
  have eb := Ext_alloc (.cells #[.slice A' b.length c'] 29) (Ext_alloc (.cells #[.slice A a.length c] 29) (Ext.refl w))
  have BX := fun w' (e : Ext ((w.alloc (.cells #[.slice A a.length c] 29)).alloc (.cells #[.slice A' b.length c'] 29)) w') => boxed2 e
  have B0 := fun w' e => (BX w' e).1
  have B1 := fun w' e => (BX w' e).2.1
  clear BX
  have C1 := Lib.hid (fun w' (e : Ext w w') => sExtD_c A A' a b c c' w' (ha.ext e) (hb.ext e) hsa hwa hsb hwb)
  have C2 := Lib.hid (fun w' (e : Ext w w') => sExtD_c A' A b a c' c w' (hb.ext e) (ha.ext e) hsb hwb hsa hwa)
  clear ha hb hsa hwa hsb hwb
  unfold vdesc at *
  unfold sameF
  generalize extD a b = z at *
  generalize extD b a = y at *
  cases z
  · go_enter Try.func14, Try.ntmps14
    go_wp2_with fail
    refine (C1.out _ eb).mono ?_; rintro _ w1 ⟨rfl, s1⟩
    go_wp2
    go_ret
    exact ⟨ret_bool (by simp), eb.trans s1⟩
  · go_enter Try.func14, Try.ntmps14
    go_wp2_with fail
    refine (C1.out _ eb).mono ?_; rintro _ w1 ⟨rfl, s1⟩
    have e1 := eb.trans s1
    replace B0 := fun w' (e : Ext w1 w') => B0 w' (Ext.trans s1 e)
    replace B1 := fun w' (e : Ext w1 w') => B1 w' (Ext.trans s1 e)
    go_wp2_with fail
    refine (C2.out _ e1).mono ?_; rintro _ w2 ⟨rfl, s2⟩
    go_wp2
    go_ret
    exact ⟨ret_bool (by simp), e1.trans s2⟩

set_option maxRecDepth 100000 in
set_option maxHeartbeats 4000000 in
theorem iSame_c (A A' : Option Addr) (a b : List DRule) (c c' : Nat) (w : World) (ha : RdD w A a c) (hb : RdD w A' b c') (hsa : ShortD a) (hwa : WfD a) (hsb : ShortD b) (hwb : WfD b) :
    Gives Try.prog 15 #[vdesc (.slice A a.length c), vdesc (.slice A' b.length c')] w (.bool (sameF a b)) := by
  have eb := Ext_alloc (.cells #[.slice A' b.length c'] 29) (Ext_alloc (.cells #[.slice A a.length c] 29) (Ext.refl w))
  have BX := fun w' (e : Ext ((w.alloc (.cells #[.slice A a.length c] 29)).alloc (.cells #[.slice A' b.length c'] 29)) w') => boxed2 e
  have B0 := fun w' e => (BX w' e).1
  have B1 := fun w' e => (BX w' e).2.1
  clear BX
  have C1 := Lib.hid (fun w' (e : Ext w w') => iExtD_c A A' a b c c' w' (ha.ext e) (hb.ext e) hsa hwa hsb hwb)
  have C2 := Lib.hid (fun w' (e : Ext w w') => iExtD_c A' A b a c' c w' (hb.ext e) (ha.ext e) hsb hwb hsa hwa)
  clear ha hb hsa hwa hsb hwb
  unfold vdesc at *
  unfold sameF
  generalize extD a b = z at *
  generalize extD b a = y at *
  cases z
  · go_enter Try.func15, Try.ntmps15
    go_wp2_with fail
    refine (C1.out _ eb).mono ?_; rintro _ w1 ⟨rfl, s1⟩
    go_wp2
    go_ret
    exact ⟨ret_bool (by simp), eb.trans s1⟩
  · go_enter Try.func15, Try.ntmps15
    go_wp2_with fail
    refine (C1.out _ eb).mono ?_; rintro _ w1 ⟨rfl, s1⟩
    have e1 := eb.trans s1
    replace B0 := fun w' (e : Ext w1 w') => B0 w' (Ext.trans s1 e)
    replace B1 := fun w' (e : Ext w1 w') => B1 w' (Ext.trans s1 e)
    go_wp2_with fail
    refine (C2.out _ e1).mono ?_; rintro _ w2 ⟨rfl, s2⟩
    go_wp2
    go_ret
    exact ⟨ret_bool (by simp), e1.trans s2⟩
end Go.Proofs.Ytpefbcnfhngggaa
