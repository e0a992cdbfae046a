/- Texts, laid into one. -/
import Derived.Test.YtpmcofmdjckijaaGreatZPb44
import Derived.Test.YtpmcofmdjckijaaGreatZPb45
set_option linter.unusedVariables false
set_option linter.unusedSimpArgs false
set_option maxRecDepth 100000
set_option maxHeartbeats 16000000
namespace Go.Proofs.YtpmcofmdjckijaaGreat
open Go.RowKit Go.Sort
theorem iPieces_c (A : Option Addr) (ds : List DRule) (c : Nat) (Ab : Option Addr) (l : List UInt8) (cb : Nat) (n : Int) (w : World) (hd : RdD w A ds c) (hs : ShortD ds) (hw : WfD ds) (hb : Bs w Ab l cb) :
 Gives Tryz.prog 14 #[vdesc (.slice A ds.length c), .slice Ab l.length cb, .int .i64 n] w (.bool true) := by
 have hll := hb.len; have hlc := hb.cap
 obtain ⟨W1, hW1⟩ : ∃ W, Hid (W = w.alloc (.cells #[.slice A ds.length c] 26)) := ⟨_, rfl⟩
 have e1 : Ext w W1 := ka hW1
 have BD : Box W1 w.heap.size #[.slice A ds.length c] 26 := kb hW1
 have d0 : ∀ w', Ext W1 w' → w'.cell? ⟨w.heap.size, 0, none⟩ = some (Value.slice A ds.length c) := fun w' e => BD.at 0 w' e
 have CC := Lib.hid (fun w' (e : Ext w w') => iCompE_c A ds c w' (hd.ext e) hs hw)
 have HBS := Lib.hid hb
 clear BD hd hs hw hb
 unfold vdesc at *
 go_enter Tryz.func14, Tryz.ntmps14
 go_wp2_with fail
 rw [← hW1.out]
 have CMA := Lib.hid (fun w' => iMax_c n 0 w')
 obtain ⟨v1, hv1⟩ : ∃ v1 : Int, (if n < 0 then 0 else n) = v1 := ⟨_, rfl⟩
 rw [hv1] at CMA
 have CMI := Lib.hid (fun w' => iMin_c v1 (l.length : Int) w')
 obtain ⟨k, hk, hkv⟩ : ∃ k : Nat, k ≤ l.length ∧ (if (l.length : Int) < v1 then (l.length : Int) else v1) = (k : Int) := by
  split at hv1 <;> split
  all_goals first | exact ⟨0, by omega, by omega⟩ | exact ⟨l.length, by omega, rfl⟩ | exact ⟨v1.toNat, by omega, by omega⟩
 rw [hkv] at CMI
 clear hkv hv1
 refine (CMA.out _).mono ?_; rintro _ w1a ⟨rfl, e1a⟩
 go_wp2_with fail
 refine (CMI.out _).mono ?_; rintro _ W2 ⟨rfl, e1b⟩
 have e2 := e1a.trans e1b
 clear e1a e1b CMI CMA
 replace d0 := kx d0 e2
 have e12 := e1.trans e2
 clear e1 e2
 go_wp2_with fail
 refine (CC.out _ e12).mono ?_; rintro _ w3 ⟨vc, ve, rfl, cs, es, hcl, hoc, hel, hin, hoe, e3⟩
 obtain ⟨Ac, cc, hvc, hC⟩ := OwnI.rd hoc hcl
 obtain ⟨Ae, ce, hve, hE⟩ := OwnL.rd hoe (by omega)
 subst hvc; subst hve
 have e03 := e12.trans e3
 have HIN := Lib.hid hin
 clear hin
 have HX := Lib.hid hC; have HY := Lib.hid hE
 clear CC hoc hoe d0 hC hE
 obtain ⟨W4, hW4⟩ : ∃ W, Hid (W = w3.alloc (.cells #[.slice Ac cs.length cc, .slice Ae es.length ce] 55)) := ⟨_, rfl⟩
 have e34 : Ext w3 W4 := ka hW4
 have BP : Box W4 w3.heap.size #[.slice Ac cs.length cc, .slice Ae es.length ce] 55 := kb hW4
 have p0 : ∀ w', Ext W4 w' → w'.cell? ⟨w3.heap.size, 0, none⟩ = some (Value.slice Ac cs.length cc) := fun w' e => BP.at 0 w' e
 have p1 : ∀ w', Ext W4 w' → w'.cell? ⟨w3.heap.size, 1, none⟩ = some (Value.slice Ae es.length ce) := fun w' e => BP.at 1 w' e
 have e04 := e03.trans e34
 clear BP e12 e3 e03
 go_upto_region 3 with (fail)
 rw [← hW4.out]
 clear hW4
 have CN := Lib.hid (fun w' => MRs_C iNewM_c mach0_ok w')
 have CF := Lib.hid (fun (q : Mach) (hq : q.Ok) A1 c1 A2 c2 A3 (l3 : List UInt8) c3 w' (e : Ext W4 w') (h1 : Is w' A1 q.stack c1) (h2 : Is w' A2 q.sums c2) (h3 : Bs w' A3 l3 c3) => MRs_F (feedL_ok hq) (iFeedL_c q A1 c1 A2 c2 Ac cs cc Ae es ce A3 l3 c3 w' (HX.out.ext (e34.trans e)) (HY.out.ext (e34.trans e)) (by omega) HIN.out h1 h2 hq h3))
 generalize hfo : fitsI cs es = fo at CF
 clear hfo
 have HOK1 : Hid (feedL fo cs mach0 (l.take k)).Ok := feedL_ok mach0_ok
 have HOKA : Hid (feedL fo cs mach0 l).Ok := feedL_ok mach0_ok
 have HM : Hid (feedL fo cs (feedL fo cs mach0 (l.take k)) (l.drop k) = feedL fo cs mach0 l) := by show _ = _; rw [feedL_app, List.take_append_drop]
 have CFA := Lib.hid (fun A1 c1 A2 c2 w' (e : Ext W4 w') h1 h2 => CF.out mach0 mach0_ok A1 c1 A2 c2 Ab l cb w' e h1 h2 (HBS.out.ext (e04.trans e)))
 have CF1 := Lib.hid (fun A1 c1 A2 c2 w' (e : Ext W4 w') h1 h2 => CF.out mach0 mach0_ok A1 c1 A2 c2 Ab (l.take k) cb w' e h1 h2 ((HBS.out.take k).ext (e04.trans e)))
 have CF2 := Lib.hid (fun (A1 : Option Addr) (c1 : Nat) (A2 : Option Addr) (c2 : Nat) (A3 : Option Addr) (c3 : Nat) w' (e : Ext W4 w') h1 h2 (h3 : Bs w' A3 (l.drop k) c3) => CF.out (feedL fo cs mach0 (l.take k)) HOK1.out A1 c1 A2 c2 A3 (l.drop k) c3 w' e h1 h2 h3)
 rw [HM.out] at CF2
 have CE := Lib.hid (fun (q : Mach) A1 c1 A2 c2 B1 d1 B2 d2 w' h1 h2 k1 k2 => iEqM_c q A1 c1 A2 c2 B1 d1 B2 d2 w' h1 h2 k1 k2)
 have hlt : (l.take k).length = k := by rw [List.length_take]; omega
 have hld : (l.drop k).length = l.length - k := by rw [List.length_drop]
 have HDR : Hid (∀ (b off : Nat) w', Ext W4 w' → Ab = some ⟨b, off, none⟩ → Bs w' (some ⟨b, off + k, none⟩) (l.drop k) (cb - k)) := fun b off w' e hA => by
  have h1 := HBS.out; rw [hA] at h1
  have h2 := rd_part h1 hk (Nat.le_refl l.length)
  rw [List.take_of_length_le (by rw [List.length_drop]; omega)] at h2
  exact h2.ext (e04.trans e)
 have HDN : Hid (∀ (A3 : Option Addr) (c3 : Nat) w', l.length = 0 → Bs w' A3 (l.drop k) c3) := fun A3 c3 w' h0 => ⟨⟨by rw [List.length_drop]; omega, by rw [List.length_drop]; omega, fun hp => by rw [List.length_drop] at hp; omega⟩, by rw [List.length_drop]; omega⟩
 have HAB : Hid (0 < l.length → ∃ b off, Ab = some ⟨b, off, none⟩) := fun hp => let ⟨b, off, h, _⟩ := HBS.out.base hp; ⟨b, off, h⟩
 rw [hlt] at CF1; rw [hld] at CF2
 have HLD := Lib.hid hld
 generalize hq1 : feedL fo cs mach0 (l.take k) = q1 at *
 generalize hqa : feedL fo cs mach0 l = qa at *
 clear hq1 hqa hlt HM CF hld
 have SY : Hid (∀ w', Ext W4 w' → Ext W4 w' ∧ True) := fun _ h1 => ⟨h1, trivial⟩
 have hki : (k : Int) ≤ (l.length : Int) := by omega
 have hkc : (k : Int) ≤ (cb : Int) := by omega
 have hkc' : k ≤ cb := by omega
 have hlcI : (l.length : Int) ≤ (cb : Int) := by omega
 have hkn : (0 : Int) ≤ (k : Int) := by omega
 unfold MRs mval at *
 unfold mach0 mcells at *
 dsimp only at CN CF1 CFA
 simp only [List.length_nil] at CN CF1 CFA
 go_cut [8] (fun s8 wx => ∃ g S1 d1 S2 d2, s8 = .pointer (some ⟨g, 0, none⟩) ∧ Hid (Box wx g #[.int .i64 qa.pc, .int .i64 qa.reg, .slice S1 qa.stack.length d1, .slice S2 qa.sums.length d2, .int .i64 qa.left, .bool qa.started, .bool qa.escaped, .int .i64 qa.state, .int .i64 qa.code, .int .i64 qa.read] 67) ∧ Hid (OwnL vint 3 W4 wx (.slice S1 qa.stack.length d1) qa.stack) ∧ Hid (OwnL vint 3 W4 wx (.slice S2 qa.sums.length d2) qa.sums) ∧ Ext W4 wx)
 case first =>
  have hp : 0 < l.length ∨ l.length = 0 := by omega
  have eS : Ext W4 W4.drew := Ext_drew (Ext.refl W4)
  have HDA : Hid (0 < l.length → ∀ (b off : Nat) w', Ext W4 w' → Ab = some ⟨b, off, none⟩ → Bs w' (if cb = k then some ⟨b, off, none⟩ else some ⟨b, off + k, none⟩) (l.drop k) (cb - k)) := fun hp b off w' e hA => by
   split
   ·exact ⟨⟨by rw [List.length_drop]; omega, by rw [List.length_drop]; omega, fun hp => by rw [List.length_drop] at hp; omega⟩, by rw [List.length_drop]; omega⟩
   ·exact HDR.out b off w' e hA
  rcases hp with hp | hp
  ·obtain ⟨gb, ob, hAb⟩ := HAB.out hp
   have HDR1 := Lib.hid (fun w' e => HDA.out hp gb ob w' e hAb)
   subst hAb
   clear HDR HAB HDN HDA
   have hck : cb = k ∨ ¬ cb = k := by omega
   rcases hck with hck | hck
   ·have HDR2 : Hid (∀ w', Ext W4 w' → Bs w' (some ⟨gb, ob, none⟩) (l.drop k) (cb - k)) := fun w' e => by have := HDR1.out w' e; rwa [if_pos hck] at this
    clear HDR1
    have hkl : k = l.length := by omega
    have hcl : cb = l.length := by omega
    subst hkl
    subst hcl
    clear hck hki hkc hkc' hlcI hlc hk
    simp only [Nat.sub_self] at CF2 HDR2
    refine wp_region_HD (S := fun w' => Ext W4 w') (ofB 13 0) (by kernel_rfl) (by kernel_rfl) ?_
    generalize W4.drew = wd at *
    refine tkH (i := 0) (some 16) (v := ?_) (ofB 13 1) rfl rfl (by kernel_rfl) (by kernel_rfl) eS (Or.inl ⟨by rfl, ?_⟩) ?_
    rotate_left
    ·(intro w' hSw; have hf0 := p0 w' hSw; have hf1 := p1 w' hSw; clear hSw; go_simp; try with_reducible rfl)
    try simp only [Act.put, lpa, lpz, lps]
    refine tkH (i := 1) (some 17) (v := ?_) (ofB 13 3) rfl rfl (by kernel_rfl) (by kernel_rfl) eS (Or.inl ⟨by rfl, ?_⟩) ?_
    rotate_left
    ·(intro w' hSw; have hf0 := p0 w' hSw; have hf1 := p1 w' hSw; clear hSw; go_simp; try with_reducible rfl)
    try simp only [Act.put, lpa, lpz, lps]
    refine tkH (i := 3) (some 19) (v := ?_) (ofB 13 11) rfl rfl (by kernel_rfl) (by kernel_rfl) eS (Or.inl ⟨by rfl, ?_⟩) ?_
    rotate_left
    ·(intro w' hSw; clear hSw; go_simp; try with_reducible rfl)
    try simp only [Act.put, lpa, lpz, lps]
    refine tkH (i := 4) (some 20) (v := ?_) (ofB 13 27) rfl rfl (by kernel_rfl) (by kernel_rfl) eS (Or.inl ⟨by rfl, ?_⟩) ?_
    rotate_left
    ·(intro w' hSw; clear hSw; go_simp; try with_reducible rfl)
    try simp only [Act.put, lpa, lpz, lps]
    refine tkH (i := 5) (some 21) (v := ?_) (ofB 13 59) rfl rfl (by kernel_rfl) (by kernel_rfl) eS (Or.inl ⟨by rfl, ?_⟩) ?_
    rotate_left
    ·(intro w' hSw; clear hSw; go_simp; try with_reducible rfl)
    try simp only [Act.put, lpa, lpz, lps]
    refine tkH (i := 7) (some 23) (v := ?_) (ofB 13 187) rfl rfl (by kernel_rfl) (by kernel_rfl) eS (Or.inl ⟨by rfl, ?_⟩) ?_
    rotate_left
    ·(intro w' hSw; clear hSw; go_simp; try with_reducible rfl)
    try simp only [Act.put, lpa, lpz, lps]
    refine tkH (i := 8) (some 24) (v := ?_) (ofB 13 443) rfl rfl (by kernel_rfl) (by kernel_rfl) eS (Or.inl ⟨by rfl, ?_⟩) ?_
    rotate_left
    ·(intro w' hSw; clear hSw; go_simp; try with_reducible rfl)
    try simp only [Act.put, lpa, lpz, lps]
    refine tkH (i := 9) (some 25) (v := ?_) (ofB 13 955) rfl rfl (by kernel_rfl) (by kernel_rfl) eS (Or.inl ⟨by rfl, ?_⟩) ?_
    rotate_left
    ·(intro w' hSw; clear hSw; go_simp; try with_reducible rfl)
    try simp only [Act.put, lpa, lpz, lps]
    refine twoH (i := 2) (j := 11) (some 18) (some 8) (ofB 13 959) (ofB 13 3003) (by kernel_rfl) rfl rfl (by kernel_rfl) rfl rfl (by kernel_rfl) (fun K hK => ?_) (fun K hK => ?_)
    ·go_simp
     go_at_call 35
     refine (CN.out _).mono ?_
     rintro _ wn ⟨S1, d1, S2, d2, rfl, _, _, i1', i2', en⟩
     have i1 := Lib.hid i1'; have i2 := Lib.hid i2'
     clear i1' i2'
     replace eS := eS.trans en
     clear en
     refine Shut.out hK _ _ eS ?_
     try simp only [Act.put, lpa, lpz, lps]
     refine twoH (i := 6) (j := 11) (some 22) (some 8) (ofB 13 1023) (ofB 13 3007) (by kernel_rfl) rfl rfl (by kernel_rfl) rfl rfl (by kernel_rfl) (fun K hK => ?_) (fun K hK => ?_)
     ·go_simp
      go_at_call 34
      refine (CF1.out _ _ _ _ _ eS i1.out i2.out).mono ?_
      rintro _ wf ⟨S3, d3, S4, d4, rfl, _, _, i3', i4', ef⟩
      have i3 := Lib.hid i3'; have i4 := Lib.hid i4'
      clear i1 i2 i3' i4'
      replace eS := eS.trans ef
      clear ef
      refine Shut.out hK _ _ eS ?_
      try simp only [Act.put, lpa, lpz, lps]
      refine twoH (i := 10) (j := 11) (some 26) (some 8) (ofB 13 2047) (ofB 13 3071) (by kernel_rfl) rfl rfl (by kernel_rfl) rfl rfl (by kernel_rfl) (fun K hK => ?_) (fun K hK => ?_)
      ·go_simp
       go_at_call 34
       refine (CF2.out _ _ _ _ _ _ _ eS i3.out i4.out (HDR2.out _ eS)).mono ?_
       rintro _ wg ⟨S5, d5, S6, d6, rfl, o5', o6', _, _, eg⟩
       clear i3 i4
       have o5 := Lib.hid (OwnL.down (w0 := W4) o5' eS.size)
       have o6 := Lib.hid (OwnL.down (w0 := W4) o6' eS.size)
       clear o5' o6'
       replace eS := eS.trans eg
       clear eg
       refine Shut.out hK _ _ eS ?_
       try simp only [Act.put, lpa, lpz, lps]
       refine oneH (i := 11) (some 8) (ofB 13 4095) (by kernel_rfl) rfl rfl (by kernel_rfl) (fun K hK => ?_)
       have ea := Lib.hid (Ext_alloc (.cells #[.int .i64 0, .int .i64 0, .slice none 0 0, .slice none 0 0, .int .i64 0, .bool false, .bool false, .int .i64 0, .int .i64 0, .int .i64 0] 67) (Ext.refl wg))
       have tt := (Box.new wg #[.int .i64 0, .int .i64 0, .slice none 0 0, .slice none 0 0, .int .i64 0, .bool false, .bool false, .int .i64 0, .int .i64 0, .int .i64 0] 67).cell
       have tf := (Box.new wg #[.int .i64 0, .int .i64 0, .slice none 0 0, .slice none 0 0, .int .i64 0, .bool false, .bool false, .int .i64 0, .int .i64 0, .int .i64 0] 67).free
       have eSg := Lib.hid eS
       go_simp
       replace eS := eS.trans ea.out
       clear ea
       refine Shut.out hK _ _ eS ?_
       try simp only [Act.put, lpa, lpz, lps]
       refine oneH (i := 12) (none) (ofB 13 8191) (by kernel_rfl) rfl rfl (by kernel_rfl) (fun K hK => ?_)
       have ez := Lib.hid (Ext_alloc (.cells #[.int .i64 qa.pc, .int .i64 qa.reg, .slice S5 qa.stack.length d5, .slice S6 qa.sums.length d6, .int .i64 qa.left, .bool qa.started, .bool qa.escaped, .int .i64 qa.state, .int .i64 qa.code, .int .i64 qa.read] 67) (Ext.refl wg))
       have q5 := Lib.hid (o5.out.ext ez.out)
       have q6 := Lib.hid (o6.out.ext ez.out)
       have qB := Lib.hid (Box.new wg #[.int .i64 qa.pc, .int .i64 qa.reg, .slice S5 qa.stack.length d5, .slice S6 qa.sums.length d6, .int .i64 qa.left, .bool qa.started, .bool qa.escaped, .int .i64 qa.state, .int .i64 qa.code, .int .i64 qa.read] 67)
       go_simp
       replace eS := eSg.out.trans ez.out
       clear tt tf eSg ez
       refine Shut.out hK _ _ eS ?_
       try simp only [Act.put, lpa, lpz, lps]
       refine wpAnyH_done (by kernel_rfl) ?_ _
       obtain ⟨w12, hw12⟩ : ∃ W, Hid (W = (wg.alloc (.cells #[.int .i64 qa.pc, .int .i64 qa.reg, .slice S5 qa.stack.length d5, .slice S6 qa.sums.length d6, .int .i64 qa.left, .bool qa.started, .bool qa.escaped, .int .i64 qa.state, .int .i64 qa.code, .int .i64 qa.read] 67))) := ⟨_, rfl⟩
       have zB := qB.out; have z5 := q5.out; have z6 := q6.out
       rw [← hw12.out] at zB z5 z6 eS
       rw [← hw12.out]
       clear hw12 qB q5 q6
       have qB := Lib.hid zB; have q5 := Lib.hid z5; have q6 := Lib.hid z6
       clear zB z5 z6
       go_wp2_with fail
       go_meet
       exact ⟨_, _, _, _, _, rfl, qB.out, q5.out, q6.out, eS⟩
      ·have ea := Lib.hid (Ext_alloc (.cells #[.int .i64 0, .int .i64 0, .slice none 0 0, .slice none 0 0, .int .i64 0, .bool false, .bool false, .int .i64 0, .int .i64 0, .int .i64 0] 67) (Ext.refl wf))
       have BG := Lib.hid (Box.new wf #[.int .i64 0, .int .i64 0, .slice none 0 0, .slice none 0 0, .int .i64 0, .bool false, .bool false, .int .i64 0, .int .i64 0, .int .i64 0] 67)
       have HGS : W4.heap.size ≤ wf.heap.size := eS.size
       replace i3 := Lib.hid (i3.out.ext ea.out)
       replace i4 := Lib.hid (i4.out.ext ea.out)
       go_simp
       replace eS := eS.trans ea.out
       clear ea
       refine Shut.out hK _ _ eS ?_
       try simp only [Act.put, lpa, lpz, lps]
       refine oneH (i := 10) (some 26) (ofB 13 4095) (by kernel_rfl) rfl rfl (by kernel_rfl) (fun K hK => ?_)
       go_simp
       go_at_call 34
       refine (CF2.out _ _ _ _ _ _ _ eS i3.out i4.out (HDR2.out _ eS)).mono ?_
       rintro _ wg ⟨S5, d5, S6, d6, rfl, o5', o6', _, _, eg⟩
       clear i3 i4
       have hne5 := Lib.hid (OwnL.far o5' (.inl BG.out.lt))
       have hne6 := Lib.hid (OwnL.far o6' (.inl BG.out.lt))
       have o5 := Lib.hid (OwnL.down (w0 := W4) o5' eS.size)
       have o6 := Lib.hid (OwnL.down (w0 := W4) o6' eS.size)
       clear o5' o6'
       replace eS := eS.trans eg
       replace BG := Lib.hid (BG.out.ext eg)
       clear eg
       refine Shut.out hK _ _ eS ?_
       try simp only [Act.put, lpa, lpz, lps]
       refine oneH (i := 12) (none) (ofB 13 8191) (by kernel_rfl) rfl rfl (by kernel_rfl) (fun K hK => ?_)
       have tt := BG.out.cell
       have tf := BG.out.free
       have q5 := Lib.hid (put10_own o5.out hne5.out (.int .i64 qa.pc) (.int .i64 qa.reg) (.slice S5 qa.stack.length d5) (.slice S6 qa.sums.length d6) (.int .i64 qa.left) (.bool qa.started) (.bool qa.escaped) (.int .i64 qa.state) (.int .i64 qa.code) (.int .i64 qa.read))
       have q6 := Lib.hid (put10_own o6.out hne6.out (.int .i64 qa.pc) (.int .i64 qa.reg) (.slice S5 qa.stack.length d5) (.slice S6 qa.sums.length d6) (.int .i64 qa.left) (.bool qa.started) (.bool qa.escaped) (.int .i64 qa.state) (.int .i64 qa.code) (.int .i64 qa.read))
       have qB := Lib.hid (box10 _ _ _ _ _ _ _ _ _ _ BG.out (.int .i64 qa.pc) (.int .i64 qa.reg) (.slice S5 qa.stack.length d5) (.slice S6 qa.sums.length d6) (.int .i64 qa.left) (.bool qa.started) (.bool qa.escaped) (.int .i64 qa.state) (.int .i64 qa.code) (.int .i64 qa.read))
       have qS := Lib.hid (put10_ext eS HGS (.int .i64 qa.pc) (.int .i64 qa.reg) (.slice S5 qa.stack.length d5) (.slice S6 qa.sums.length d6) (.int .i64 qa.left) (.bool qa.started) (.bool qa.escaped) (.int .i64 qa.state) (.int .i64 qa.code) (.int .i64 qa.read))
       go_simp
       replace eS := qS.out
       clear tt tf BG qS
       refine Shut.out hK _ _ eS ?_
       try simp only [Act.put, lpa, lpz, lps]
       refine wpAnyH_done (by kernel_rfl) ?_ _
       obtain ⟨w12, hw12⟩ : ∃ W, Hid (W = s10 wg wf.heap.size qa (.slice S5 qa.stack.length d5) (.slice S6 qa.sums.length d6)) := ⟨_, rfl⟩; unfold s10 at hw12
       have zB := qB.out; have z5 := q5.out; have z6 := q6.out
       rw [← hw12.out] at zB z5 z6 eS
       rw [← hw12.out]
       clear hw12 qB q5 q6
       have qB := Lib.hid zB; have q5 := Lib.hid z5; have q6 := Lib.hid z6
       clear zB z5 z6
       go_wp2_with fail
       go_meet
       exact ⟨_, _, _, _, _, rfl, qB.out, q5.out, q6.out, eS⟩
     ·have ea := Lib.hid (Ext_alloc (.cells #[.int .i64 0, .int .i64 0, .slice none 0 0, .slice none 0 0, .int .i64 0, .bool false, .bool false, .int .i64 0, .int .i64 0, .int .i64 0] 67) (Ext.refl wn))
      have BG := Lib.hid (Box.new wn #[.int .i64 0, .int .i64 0, .slice none 0 0, .slice none 0 0, .int .i64 0, .bool false, .bool false, .int .i64 0, .int .i64 0, .int .i64 0] 67)
      have HGS : W4.heap.size ≤ wn.heap.size := eS.size
      replace i1 := Lib.hid (i1.out.ext ea.out)
      replace i2 := Lib.hid (i2.out.ext ea.out)
      go_simp
      replace eS := eS.trans ea.out
      clear ea
      refine Shut.out hK _ _ eS ?_
      try simp only [Act.put, lpa, lpz, lps]
      refine oneH (i := 6) (some 22) (ofB 13 3071) (by kernel_rfl) rfl rfl (by kernel_rfl) (fun K hK => ?_)
      go_simp
      go_at_call 34
      refine (CF1.out _ _ _ _ _ eS i1.out i2.out).mono ?_
      rintro _ wf ⟨S3, d3, S4, d4, rfl, _, _, i3', i4', ef⟩
      have i3 := Lib.hid i3'; have i4 := Lib.hid i4'
      clear i1 i2 i3' i4'
      replace eS := eS.trans ef
      replace BG := Lib.hid (BG.out.ext ef)
      clear ef
      refine Shut.out hK _ _ eS ?_
      try simp only [Act.put, lpa, lpz, lps]
      refine oneH (i := 10) (some 26) (ofB 13 4095) (by kernel_rfl) rfl rfl (by kernel_rfl) (fun K hK => ?_)
      go_simp
      go_at_call 34
      refine (CF2.out _ _ _ _ _ _ _ eS i3.out i4.out (HDR2.out _ eS)).mono ?_
      rintro _ wg ⟨S5, d5, S6, d6, rfl, o5', o6', _, _, eg⟩
      clear i3 i4
      have hne5 := Lib.hid (OwnL.far o5' (.inl BG.out.lt))
      have hne6 := Lib.hid (OwnL.far o6' (.inl BG.out.lt))
      have o5 := Lib.hid (OwnL.down (w0 := W4) o5' eS.size)
      have o6 := Lib.hid (OwnL.down (w0 := W4) o6' eS.size)
      clear o5' o6'
      replace eS := eS.trans eg
      replace BG := Lib.hid (BG.out.ext eg)
      clear eg
      refine Shut.out hK _ _ eS ?_
      try simp only [Act.put, lpa, lpz, lps]
      refine oneH (i := 12) (none) (ofB 13 8191) (by kernel_rfl) rfl rfl (by kernel_rfl) (fun K hK => ?_)
      have tt := BG.out.cell
      have tf := BG.out.free
      have q5 := Lib.hid (put10_own o5.out hne5.out (.int .i64 qa.pc) (.int .i64 qa.reg) (.slice S5 qa.stack.length d5) (.slice S6 qa.sums.length d6) (.int .i64 qa.left) (.bool qa.started) (.bool qa.escaped) (.int .i64 qa.state) (.int .i64 qa.code) (.int .i64 qa.read))
      have q6 := Lib.hid (put10_own o6.out hne6.out (.int .i64 qa.pc) (.int .i64 qa.reg) (.slice S5 qa.stack.length d5) (.slice S6 qa.sums.length d6) (.int .i64 qa.left) (.bool qa.started) (.bool qa.escaped) (.int .i64 qa.state) (.int .i64 qa.code) (.int .i64 qa.read))
      have qB := Lib.hid (box10 _ _ _ _ _ _ _ _ _ _ BG.out (.int .i64 qa.pc) (.int .i64 qa.reg) (.slice S5 qa.stack.length d5) (.slice S6 qa.sums.length d6) (.int .i64 qa.left) (.bool qa.started) (.bool qa.escaped) (.int .i64 qa.state) (.int .i64 qa.code) (.int .i64 qa.read))
      have qS := Lib.hid (put10_ext eS HGS (.int .i64 qa.pc) (.int .i64 qa.reg) (.slice S5 qa.stack.length d5) (.slice S6 qa.sums.length d6) (.int .i64 qa.left) (.bool qa.started) (.bool qa.escaped) (.int .i64 qa.state) (.int .i64 qa.code) (.int .i64 qa.read))
      go_simp
      replace eS := qS.out
      clear tt tf BG qS
      refine Shut.out hK _ _ eS ?_
      try simp only [Act.put, lpa, lpz, lps]
      refine wpAnyH_done (by kernel_rfl) ?_ _
      obtain ⟨w12, hw12⟩ : ∃ W, Hid (W = s10 wg wn.heap.size qa (.slice S5 qa.stack.length d5) (.slice S6 qa.sums.length d6)) := ⟨_, rfl⟩; unfold s10 at hw12
      have zB := qB.out; have z5 := q5.out; have z6 := q6.out
      rw [← hw12.out] at zB z5 z6 eS
      rw [← hw12.out]
      clear hw12 qB q5 q6
      have qB := Lib.hid zB; have q5 := Lib.hid z5; have q6 := Lib.hid z6
      clear zB z5 z6
      go_wp2_with fail
      go_meet
      exact ⟨_, _, _, _, _, rfl, qB.out, q5.out, q6.out, eS⟩
    ·have ea := Lib.hid (Ext_alloc (.cells #[.int .i64 0, .int .i64 0, .slice none 0 0, .slice none 0 0, .int .i64 0, .bool false, .bool false, .int .i64 0, .int .i64 0, .int .i64 0] 67) (Ext.refl wd))
     have BG := Lib.hid (Box.new wd #[.int .i64 0, .int .i64 0, .slice none 0 0, .slice none 0 0, .int .i64 0, .bool false, .bool false, .int .i64 0, .int .i64 0, .int .i64 0] 67)
     have HGS : W4.heap.size ≤ wd.heap.size := eS.size
     go_simp
     replace eS := eS.trans ea.out
     clear ea
     refine Shut.out hK _ _ eS ?_
     try simp only [Act.put, lpa, lpz, lps]
     refine oneH (i := 2) (some 18) (ofB 13 3007) (by kernel_rfl) rfl rfl (by kernel_rfl) (fun K hK => ?_)
     go_simp
     go_at_call 35
     refine (CN.out _).mono ?_
     rintro _ wn ⟨S1, d1, S2, d2, rfl, _, _, i1', i2', en⟩
     have i1 := Lib.hid i1'; have i2 := Lib.hid i2'
     clear i1' i2'
     replace eS := eS.trans en
     replace BG := Lib.hid (BG.out.ext en)
     clear en
     refine Shut.out hK _ _ eS ?_
     try simp only [Act.put, lpa, lpz, lps]
     refine oneH (i := 6) (some 22) (ofB 13 3071) (by kernel_rfl) rfl rfl (by kernel_rfl) (fun K hK => ?_)
     go_simp
     go_at_call 34
     refine (CF1.out _ _ _ _ _ eS i1.out i2.out).mono ?_
     rintro _ wf ⟨S3, d3, S4, d4, rfl, _, _, i3', i4', ef⟩
     have i3 := Lib.hid i3'; have i4 := Lib.hid i4'
     clear i1 i2 i3' i4'
     replace eS := eS.trans ef
     replace BG := Lib.hid (BG.out.ext ef)
     clear ef
     refine Shut.out hK _ _ eS ?_
     try simp only [Act.put, lpa, lpz, lps]
     refine oneH (i := 10) (some 26) (ofB 13 4095) (by kernel_rfl) rfl rfl (by kernel_rfl) (fun K hK => ?_)
     go_simp
     go_at_call 34
     refine (CF2.out _ _ _ _ _ _ _ eS i3.out i4.out (HDR2.out _ eS)).mono ?_
     rintro _ wg ⟨S5, d5, S6, d6, rfl, o5', o6', _, _, eg⟩
     clear i3 i4
     have hne5 := Lib.hid (OwnL.far o5' (.inl BG.out.lt))
     have hne6 := Lib.hid (OwnL.far o6' (.inl BG.out.lt))
     have o5 := Lib.hid (OwnL.down (w0 := W4) o5' eS.size)
     have o6 := Lib.hid (OwnL.down (w0 := W4) o6' eS.size)
     clear o5' o6'
     replace eS := eS.trans eg
     replace BG := Lib.hid (BG.out.ext eg)
     clear eg
     refine Shut.out hK _ _ eS ?_
     try simp only [Act.put, lpa, lpz, lps]
     refine oneH (i := 12) (none) (ofB 13 8191) (by kernel_rfl) rfl rfl (by kernel_rfl) (fun K hK => ?_)
     have tt := BG.out.cell
     have tf := BG.out.free
     have q5 := Lib.hid (put10_own o5.out hne5.out (.int .i64 qa.pc) (.int .i64 qa.reg) (.slice S5 qa.stack.length d5) (.slice S6 qa.sums.length d6) (.int .i64 qa.left) (.bool qa.started) (.bool qa.escaped) (.int .i64 qa.state) (.int .i64 qa.code) (.int .i64 qa.read))
     have q6 := Lib.hid (put10_own o6.out hne6.out (.int .i64 qa.pc) (.int .i64 qa.reg) (.slice S5 qa.stack.length d5) (.slice S6 qa.sums.length d6) (.int .i64 qa.left) (.bool qa.started) (.bool qa.escaped) (.int .i64 qa.state) (.int .i64 qa.code) (.int .i64 qa.read))
     have qB := Lib.hid (box10 _ _ _ _ _ _ _ _ _ _ BG.out (.int .i64 qa.pc) (.int .i64 qa.reg) (.slice S5 qa.stack.length d5) (.slice S6 qa.sums.length d6) (.int .i64 qa.left) (.bool qa.started) (.bool qa.escaped) (.int .i64 qa.state) (.int .i64 qa.code) (.int .i64 qa.read))
     have qS := Lib.hid (put10_ext eS HGS (.int .i64 qa.pc) (.int .i64 qa.reg) (.slice S5 qa.stack.length d5) (.slice S6 qa.sums.length d6) (.int .i64 qa.left) (.bool qa.started) (.bool qa.escaped) (.int .i64 qa.state) (.int .i64 qa.code) (.int .i64 qa.read))
     go_simp
     replace eS := qS.out
     clear tt tf BG qS
     refine Shut.out hK _ _ eS ?_
     try simp only [Act.put, lpa, lpz, lps]
     refine wpAnyH_done (by kernel_rfl) ?_ _
     obtain ⟨w12, hw12⟩ : ∃ W, Hid (W = s10 wg wd.heap.size qa (.slice S5 qa.stack.length d5) (.slice S6 qa.sums.length d6)) := ⟨_, rfl⟩; unfold s10 at hw12
     have zB := qB.out; have z5 := q5.out; have z6 := q6.out
     rw [← hw12.out] at zB z5 z6 eS
     rw [← hw12.out]
     clear hw12 qB q5 q6
     have qB := Lib.hid zB; have q5 := Lib.hid z5; have q6 := Lib.hid z6
     clear zB z5 z6
     go_wp2_with fail
     go_meet
     exact ⟨_, _, _, _, _, rfl, qB.out, q5.out, q6.out, eS⟩
   ·have HDR2 : Hid (∀ w', Ext W4 w' → Bs w' (some ⟨gb, ob + k, none⟩) (l.drop k) (cb - k)) := fun w' e => by have := HDR1.out w' e; rwa [if_neg hck] at this
    clear HDR1
    refine wp_region_HD (S := fun w' => Ext W4 w') (ofB 13 0) (by kernel_rfl) (by kernel_rfl) ?_
    generalize W4.drew = wd at *
    refine tkH (i := 0) (some 16) (v := ?_) (ofB 13 1) rfl rfl (by kernel_rfl) (by kernel_rfl) eS (Or.inl ⟨by rfl, ?_⟩) ?_
    rotate_left
    ·(intro w' hSw; have hf0 := p0 w' hSw; have hf1 := p1 w' hSw; clear hSw; go_simp; try with_reducible rfl)
    try simp only [Act.put, lpa, lpz, lps]
    refine tkH (i := 1) (some 17) (v := ?_) (ofB 13 3) rfl rfl (by kernel_rfl) (by kernel_rfl) eS (Or.inl ⟨by rfl, ?_⟩) ?_
    rotate_left
    ·(intro w' hSw; have hf0 := p0 w' hSw; have hf1 := p1 w' hSw; clear hSw; go_simp; try with_reducible rfl)
    try simp only [Act.put, lpa, lpz, lps]
    refine tkH (i := 3) (some 19) (v := ?_) (ofB 13 11) rfl rfl (by kernel_rfl) (by kernel_rfl) eS (Or.inl ⟨by rfl, ?_⟩) ?_
    rotate_left
    ·(intro w' hSw; clear hSw; go_simp; try with_reducible rfl)
    try simp only [Act.put, lpa, lpz, lps]
    refine tkH (i := 4) (some 20) (v := ?_) (ofB 13 27) rfl rfl (by kernel_rfl) (by kernel_rfl) eS (Or.inl ⟨by rfl, ?_⟩) ?_
    rotate_left
    ·(intro w' hSw; clear hSw; go_simp; try with_reducible rfl)
    try simp only [Act.put, lpa, lpz, lps]
    refine tkH (i := 5) (some 21) (v := ?_) (ofB 13 59) rfl rfl (by kernel_rfl) (by kernel_rfl) eS (Or.inl ⟨by rfl, ?_⟩) ?_
    rotate_left
    ·(intro w' hSw; clear hSw; go_simp; try with_reducible rfl)
    try simp only [Act.put, lpa, lpz, lps]
    refine tkH (i := 7) (some 23) (v := ?_) (ofB 13 187) rfl rfl (by kernel_rfl) (by kernel_rfl) eS (Or.inl ⟨by rfl, ?_⟩) ?_
    rotate_left
    ·(intro w' hSw; clear hSw; go_simp; try with_reducible rfl)
    try simp only [Act.put, lpa, lpz, lps]
    refine tkH (i := 8) (some 24) (v := ?_) (ofB 13 443) rfl rfl (by kernel_rfl) (by kernel_rfl) eS (Or.inl ⟨by rfl, ?_⟩) ?_
    rotate_left
    ·(intro w' hSw; clear hSw; go_simp; try with_reducible rfl)
    try simp only [Act.put, lpa, lpz, lps]
    refine tkH (i := 9) (some 25) (v := ?_) (ofB 13 955) rfl rfl (by kernel_rfl) (by kernel_rfl) eS (Or.inl ⟨by rfl, ?_⟩) ?_
    rotate_left
    ·(intro w' hSw; clear hSw; go_simp; try with_reducible rfl)
    try simp only [Act.put, lpa, lpz, lps]
    refine twoH (i := 2) (j := 11) (some 18) (some 8) (ofB 13 959) (ofB 13 3003) (by kernel_rfl) rfl rfl (by kernel_rfl) rfl rfl (by kernel_rfl) (fun K hK => ?_) (fun K hK => ?_)
    ·go_simp
     go_at_call 35
     refine (CN.out _).mono ?_
     rintro _ wn ⟨S1, d1, S2, d2, rfl, _, _, i1', i2', en⟩
     have i1 := Lib.hid i1'; have i2 := Lib.hid i2'
     clear i1' i2'
     replace eS := eS.trans en
     clear en
     refine Shut.out hK _ _ eS ?_
     try simp only [Act.put, lpa, lpz, lps]
     refine twoH (i := 6) (j := 11) (some 22) (some 8) (ofB 13 1023) (ofB 13 3007) (by kernel_rfl) rfl rfl (by kernel_rfl) rfl rfl (by kernel_rfl) (fun K hK => ?_) (fun K hK => ?_)
     ·go_simp
      go_at_call 34
      refine (CF1.out _ _ _ _ _ eS i1.out i2.out).mono ?_
      rintro _ wf ⟨S3, d3, S4, d4, rfl, _, _, i3', i4', ef⟩
      have i3 := Lib.hid i3'; have i4 := Lib.hid i4'
      clear i1 i2 i3' i4'
      replace eS := eS.trans ef
      clear ef
      refine Shut.out hK _ _ eS ?_
      try simp only [Act.put, lpa, lpz, lps]
      refine twoH (i := 10) (j := 11) (some 26) (some 8) (ofB 13 2047) (ofB 13 3071) (by kernel_rfl) rfl rfl (by kernel_rfl) rfl rfl (by kernel_rfl) (fun K hK => ?_) (fun K hK => ?_)
      ·go_simp
       go_at_call 34
       refine (CF2.out _ _ _ _ _ _ _ eS i3.out i4.out (HDR2.out _ eS)).mono ?_
       rintro _ wg ⟨S5, d5, S6, d6, rfl, o5', o6', _, _, eg⟩
       clear i3 i4
       have o5 := Lib.hid (OwnL.down (w0 := W4) o5' eS.size)
       have o6 := Lib.hid (OwnL.down (w0 := W4) o6' eS.size)
       clear o5' o6'
       replace eS := eS.trans eg
       clear eg
       refine Shut.out hK _ _ eS ?_
       try simp only [Act.put, lpa, lpz, lps]
       refine oneH (i := 11) (some 8) (ofB 13 4095) (by kernel_rfl) rfl rfl (by kernel_rfl) (fun K hK => ?_)
       have ea := Lib.hid (Ext_alloc (.cells #[.int .i64 0, .int .i64 0, .slice none 0 0, .slice none 0 0, .int .i64 0, .bool false, .bool false, .int .i64 0, .int .i64 0, .int .i64 0] 67) (Ext.refl wg))
       have tt := (Box.new wg #[.int .i64 0, .int .i64 0, .slice none 0 0, .slice none 0 0, .int .i64 0, .bool false, .bool false, .int .i64 0, .int .i64 0, .int .i64 0] 67).cell
       have tf := (Box.new wg #[.int .i64 0, .int .i64 0, .slice none 0 0, .slice none 0 0, .int .i64 0, .bool false, .bool false, .int .i64 0, .int .i64 0, .int .i64 0] 67).free
       have eSg := Lib.hid eS
       go_simp
       replace eS := eS.trans ea.out
       clear ea
       refine Shut.out hK _ _ eS ?_
       try simp only [Act.put, lpa, lpz, lps]
       refine oneH (i := 12) (none) (ofB 13 8191) (by kernel_rfl) rfl rfl (by kernel_rfl) (fun K hK => ?_)
       have ez := Lib.hid (Ext_alloc (.cells #[.int .i64 qa.pc, .int .i64 qa.reg, .slice S5 qa.stack.length d5, .slice S6 qa.sums.length d6, .int .i64 qa.left, .bool qa.started, .bool qa.escaped, .int .i64 qa.state, .int .i64 qa.code, .int .i64 qa.read] 67) (Ext.refl wg))
       have q5 := Lib.hid (o5.out.ext ez.out)
       have q6 := Lib.hid (o6.out.ext ez.out)
       have qB := Lib.hid (Box.new wg #[.int .i64 qa.pc, .int .i64 qa.reg, .slice S5 qa.stack.length d5, .slice S6 qa.sums.length d6, .int .i64 qa.left, .bool qa.started, .bool qa.escaped, .int .i64 qa.state, .int .i64 qa.code, .int .i64 qa.read] 67)
       go_simp
       replace eS := eSg.out.trans ez.out
       clear tt tf eSg ez
       refine Shut.out hK _ _ eS ?_
       try simp only [Act.put, lpa, lpz, lps]
       refine wpAnyH_done (by kernel_rfl) ?_ _
       obtain ⟨w12, hw12⟩ : ∃ W, Hid (W = (wg.alloc (.cells #[.int .i64 qa.pc, .int .i64 qa.reg, .slice S5 qa.stack.length d5, .slice S6 qa.sums.length d6, .int .i64 qa.left, .bool qa.started, .bool qa.escaped, .int .i64 qa.state, .int .i64 qa.code, .int .i64 qa.read] 67))) := ⟨_, rfl⟩
       have zB := qB.out; have z5 := q5.out; have z6 := q6.out
       rw [← hw12.out] at zB z5 z6 eS
       rw [← hw12.out]
       clear hw12 qB q5 q6
       have qB := Lib.hid zB; have q5 := Lib.hid z5; have q6 := Lib.hid z6
       clear zB z5 z6
       go_wp2_with fail
       go_meet
       exact ⟨_, _, _, _, _, rfl, qB.out, q5.out, q6.out, eS⟩
      ·have ea := Lib.hid (Ext_alloc (.cells #[.int .i64 0, .int .i64 0, .slice none 0 0, .slice none 0 0, .int .i64 0, .bool false, .bool false, .int .i64 0, .int .i64 0, .int .i64 0] 67) (Ext.refl wf))
       have BG := Lib.hid (Box.new wf #[.int .i64 0, .int .i64 0, .slice none 0 0, .slice none 0 0, .int .i64 0, .bool false, .bool false, .int .i64 0, .int .i64 0, .int .i64 0] 67)
       have HGS : W4.heap.size ≤ wf.heap.size := eS.size
       replace i3 := Lib.hid (i3.out.ext ea.out)
       replace i4 := Lib.hid (i4.out.ext ea.out)
       go_simp
       replace eS := eS.trans ea.out
       clear ea
       refine Shut.out hK _ _ eS ?_
       try simp only [Act.put, lpa, lpz, lps]
       refine oneH (i := 10) (some 26) (ofB 13 4095) (by kernel_rfl) rfl rfl (by kernel_rfl) (fun K hK => ?_)
       go_simp
       go_at_call 34
       refine (CF2.out _ _ _ _ _ _ _ eS i3.out i4.out (HDR2.out _ eS)).mono ?_
       rintro _ wg ⟨S5, d5, S6, d6, rfl, o5', o6', _, _, eg⟩
       clear i3 i4
       have hne5 := Lib.hid (OwnL.far o5' (.inl BG.out.lt))
       have hne6 := Lib.hid (OwnL.far o6' (.inl BG.out.lt))
       have o5 := Lib.hid (OwnL.down (w0 := W4) o5' eS.size)
       have o6 := Lib.hid (OwnL.down (w0 := W4) o6' eS.size)
       clear o5' o6'
       replace eS := eS.trans eg
       replace BG := Lib.hid (BG.out.ext eg)
       clear eg
       refine Shut.out hK _ _ eS ?_
       try simp only [Act.put, lpa, lpz, lps]
       refine oneH (i := 12) (none) (ofB 13 8191) (by kernel_rfl) rfl rfl (by kernel_rfl) (fun K hK => ?_)
       have tt := BG.out.cell
       have tf := BG.out.free
       have q5 := Lib.hid (put10_own o5.out hne5.out (.int .i64 qa.pc) (.int .i64 qa.reg) (.slice S5 qa.stack.length d5) (.slice S6 qa.sums.length d6) (.int .i64 qa.left) (.bool qa.started) (.bool qa.escaped) (.int .i64 qa.state) (.int .i64 qa.code) (.int .i64 qa.read))
       have q6 := Lib.hid (put10_own o6.out hne6.out (.int .i64 qa.pc) (.int .i64 qa.reg) (.slice S5 qa.stack.length d5) (.slice S6 qa.sums.length d6) (.int .i64 qa.left) (.bool qa.started) (.bool qa.escaped) (.int .i64 qa.state) (.int .i64 qa.code) (.int .i64 qa.read))
       have qB := Lib.hid (box10 _ _ _ _ _ _ _ _ _ _ BG.out (.int .i64 qa.pc) (.int .i64 qa.reg) (.slice S5 qa.stack.length d5) (.slice S6 qa.sums.length d6) (.int .i64 qa.left) (.bool qa.started) (.bool qa.escaped) (.int .i64 qa.state) (.int .i64 qa.code) (.int .i64 qa.read))
       have qS := Lib.hid (put10_ext eS HGS (.int .i64 qa.pc) (.int .i64 qa.reg) (.slice S5 qa.stack.length d5) (.slice S6 qa.sums.length d6) (.int .i64 qa.left) (.bool qa.started) (.bool qa.escaped) (.int .i64 qa.state) (.int .i64 qa.code) (.int .i64 qa.read))
       go_simp
       replace eS := qS.out
       clear tt tf BG qS
       refine Shut.out hK _ _ eS ?_
       try simp only [Act.put, lpa, lpz, lps]
       refine wpAnyH_done (by kernel_rfl) ?_ _
       obtain ⟨w12, hw12⟩ : ∃ W, Hid (W = s10 wg wf.heap.size qa (.slice S5 qa.stack.length d5) (.slice S6 qa.sums.length d6)) := ⟨_, rfl⟩; unfold s10 at hw12
       have zB := qB.out; have z5 := q5.out; have z6 := q6.out
       rw [← hw12.out] at zB z5 z6 eS
       rw [← hw12.out]
       clear hw12 qB q5 q6
       have qB := Lib.hid zB; have q5 := Lib.hid z5; have q6 := Lib.hid z6
       clear zB z5 z6
       go_wp2_with fail
       go_meet
       exact ⟨_, _, _, _, _, rfl, qB.out, q5.out, q6.out, eS⟩
     ·have ea := Lib.hid (Ext_alloc (.cells #[.int .i64 0, .int .i64 0, .slice none 0 0, .slice none 0 0, .int .i64 0, .bool false, .bool false, .int .i64 0, .int .i64 0, .int .i64 0] 67) (Ext.refl wn))
      have BG := Lib.hid (Box.new wn #[.int .i64 0, .int .i64 0, .slice none 0 0, .slice none 0 0, .int .i64 0, .bool false, .bool false, .int .i64 0, .int .i64 0, .int .i64 0] 67)
      have HGS : W4.heap.size ≤ wn.heap.size := eS.size
      replace i1 := Lib.hid (i1.out.ext ea.out)
      replace i2 := Lib.hid (i2.out.ext ea.out)
      go_simp
      replace eS := eS.trans ea.out
      clear ea
      refine Shut.out hK _ _ eS ?_
      try simp only [Act.put, lpa, lpz, lps]
      refine oneH (i := 6) (some 22) (ofB 13 3071) (by kernel_rfl) rfl rfl (by kernel_rfl) (fun K hK => ?_)
      go_simp
      go_at_call 34
      refine (CF1.out _ _ _ _ _ eS i1.out i2.out).mono ?_
      rintro _ wf ⟨S3, d3, S4, d4, rfl, _, _, i3', i4', ef⟩
      have i3 := Lib.hid i3'; have i4 := Lib.hid i4'
      clear i1 i2 i3' i4'
      replace eS := eS.trans ef
      replace BG := Lib.hid (BG.out.ext ef)
      clear ef
      refine Shut.out hK _ _ eS ?_
      try simp only [Act.put, lpa, lpz, lps]
      refine oneH (i := 10) (some 26) (ofB 13 4095) (by kernel_rfl) rfl rfl (by kernel_rfl) (fun K hK => ?_)
      go_simp
      go_at_call 34
      refine (CF2.out _ _ _ _ _ _ _ eS i3.out i4.out (HDR2.out _ eS)).mono ?_
      rintro _ wg ⟨S5, d5, S6, d6, rfl, o5', o6', _, _, eg⟩
      clear i3 i4
      have hne5 := Lib.hid (OwnL.far o5' (.inl BG.out.lt))
      have hne6 := Lib.hid (OwnL.far o6' (.inl BG.out.lt))
      have o5 := Lib.hid (OwnL.down (w0 := W4) o5' eS.size)
      have o6 := Lib.hid (OwnL.down (w0 := W4) o6' eS.size)
      clear o5' o6'
      replace eS := eS.trans eg
      replace BG := Lib.hid (BG.out.ext eg)
      clear eg
      refine Shut.out hK _ _ eS ?_
      try simp only [Act.put, lpa, lpz, lps]
      refine oneH (i := 12) (none) (ofB 13 8191) (by kernel_rfl) rfl rfl (by kernel_rfl) (fun K hK => ?_)
      have tt := BG.out.cell
      have tf := BG.out.free
      have q5 := Lib.hid (put10_own o5.out hne5.out (.int .i64 qa.pc) (.int .i64 qa.reg) (.slice S5 qa.stack.length d5) (.slice S6 qa.sums.length d6) (.int .i64 qa.left) (.bool qa.started) (.bool qa.escaped) (.int .i64 qa.state) (.int .i64 qa.code) (.int .i64 qa.read))
      have q6 := Lib.hid (put10_own o6.out hne6.out (.int .i64 qa.pc) (.int .i64 qa.reg) (.slice S5 qa.stack.length d5) (.slice S6 qa.sums.length d6) (.int .i64 qa.left) (.bool qa.started) (.bool qa.escaped) (.int .i64 qa.state) (.int .i64 qa.code) (.int .i64 qa.read))
      have qB := Lib.hid (box10 _ _ _ _ _ _ _ _ _ _ BG.out (.int .i64 qa.pc) (.int .i64 qa.reg) (.slice S5 qa.stack.length d5) (.slice S6 qa.sums.length d6) (.int .i64 qa.left) (.bool qa.started) (.bool qa.escaped) (.int .i64 qa.state) (.int .i64 qa.code) (.int .i64 qa.read))
      have qS := Lib.hid (put10_ext eS HGS (.int .i64 qa.pc) (.int .i64 qa.reg) (.slice S5 qa.stack.length d5) (.slice S6 qa.sums.length d6) (.int .i64 qa.left) (.bool qa.started) (.bool qa.escaped) (.int .i64 qa.state) (.int .i64 qa.code) (.int .i64 qa.read))
      go_simp
      replace eS := qS.out
      clear tt tf BG qS
      refine Shut.out hK _ _ eS ?_
      try simp only [Act.put, lpa, lpz, lps]
      refine wpAnyH_done (by kernel_rfl) ?_ _
      obtain ⟨w12, hw12⟩ : ∃ W, Hid (W = s10 wg wn.heap.size qa (.slice S5 qa.stack.length d5) (.slice S6 qa.sums.length d6)) := ⟨_, rfl⟩; unfold s10 at hw12
      have zB := qB.out; have z5 := q5.out; have z6 := q6.out
      rw [← hw12.out] at zB z5 z6 eS
      rw [← hw12.out]
      clear hw12 qB q5 q6
      have qB := Lib.hid zB; have q5 := Lib.hid z5; have q6 := Lib.hid z6
      clear zB z5 z6
      go_wp2_with fail
      go_meet
      exact ⟨_, _, _, _, _, rfl, qB.out, q5.out, q6.out, eS⟩
    ·have ea := Lib.hid (Ext_alloc (.cells #[.int .i64 0, .int .i64 0, .slice none 0 0, .slice none 0 0, .int .i64 0, .bool false, .bool false, .int .i64 0, .int .i64 0, .int .i64 0] 67) (Ext.refl wd))
     have BG := Lib.hid (Box.new wd #[.int .i64 0, .int .i64 0, .slice none 0 0, .slice none 0 0, .int .i64 0, .bool false, .bool false, .int .i64 0, .int .i64 0, .int .i64 0] 67)
     have HGS : W4.heap.size ≤ wd.heap.size := eS.size
     go_simp
     replace eS := eS.trans ea.out
     clear ea
     refine Shut.out hK _ _ eS ?_
     try simp only [Act.put, lpa, lpz, lps]
     refine oneH (i := 2) (some 18) (ofB 13 3007) (by kernel_rfl) rfl rfl (by kernel_rfl) (fun K hK => ?_)
     go_simp
     go_at_call 35
     refine (CN.out _).mono ?_
     rintro _ wn ⟨S1, d1, S2, d2, rfl, _, _, i1', i2', en⟩
     have i1 := Lib.hid i1'; have i2 := Lib.hid i2'
     clear i1' i2'
     replace eS := eS.trans en
     replace BG := Lib.hid (BG.out.ext en)
     clear en
     refine Shut.out hK _ _ eS ?_
     try simp only [Act.put, lpa, lpz, lps]
     refine oneH (i := 6) (some 22) (ofB 13 3071) (by kernel_rfl) rfl rfl (by kernel_rfl) (fun K hK => ?_)
     go_simp
     go_at_call 34
     refine (CF1.out _ _ _ _ _ eS i1.out i2.out).mono ?_
     rintro _ wf ⟨S3, d3, S4, d4, rfl, _, _, i3', i4', ef⟩
     have i3 := Lib.hid i3'; have i4 := Lib.hid i4'
     clear i1 i2 i3' i4'
     replace eS := eS.trans ef
     replace BG := Lib.hid (BG.out.ext ef)
     clear ef
     refine Shut.out hK _ _ eS ?_
     try simp only [Act.put, lpa, lpz, lps]
     refine oneH (i := 10) (some 26) (ofB 13 4095) (by kernel_rfl) rfl rfl (by kernel_rfl) (fun K hK => ?_)
     go_simp
     go_at_call 34
     refine (CF2.out _ _ _ _ _ _ _ eS i3.out i4.out (HDR2.out _ eS)).mono ?_
     rintro _ wg ⟨S5, d5, S6, d6, rfl, o5', o6', _, _, eg⟩
     clear i3 i4
     have hne5 := Lib.hid (OwnL.far o5' (.inl BG.out.lt))
     have hne6 := Lib.hid (OwnL.far o6' (.inl BG.out.lt))
     have o5 := Lib.hid (OwnL.down (w0 := W4) o5' eS.size)
     have o6 := Lib.hid (OwnL.down (w0 := W4) o6' eS.size)
     clear o5' o6'
     replace eS := eS.trans eg
     replace BG := Lib.hid (BG.out.ext eg)
     clear eg
     refine Shut.out hK _ _ eS ?_
     try simp only [Act.put, lpa, lpz, lps]
     refine oneH (i := 12) (none) (ofB 13 8191) (by kernel_rfl) rfl rfl (by kernel_rfl) (fun K hK => ?_)
     have tt := BG.out.cell
     have tf := BG.out.free
     have q5 := Lib.hid (put10_own o5.out hne5.out (.int .i64 qa.pc) (.int .i64 qa.reg) (.slice S5 qa.stack.length d5) (.slice S6 qa.sums.length d6) (.int .i64 qa.left) (.bool qa.started) (.bool qa.escaped) (.int .i64 qa.state) (.int .i64 qa.code) (.int .i64 qa.read))
     have q6 := Lib.hid (put10_own o6.out hne6.out (.int .i64 qa.pc) (.int .i64 qa.reg) (.slice S5 qa.stack.length d5) (.slice S6 qa.sums.length d6) (.int .i64 qa.left) (.bool qa.started) (.bool qa.escaped) (.int .i64 qa.state) (.int .i64 qa.code) (.int .i64 qa.read))
     have qB := Lib.hid (box10 _ _ _ _ _ _ _ _ _ _ BG.out (.int .i64 qa.pc) (.int .i64 qa.reg) (.slice S5 qa.stack.length d5) (.slice S6 qa.sums.length d6) (.int .i64 qa.left) (.bool qa.started) (.bool qa.escaped) (.int .i64 qa.state) (.int .i64 qa.code) (.int .i64 qa.read))
     have qS := Lib.hid (put10_ext eS HGS (.int .i64 qa.pc) (.int .i64 qa.reg) (.slice S5 qa.stack.length d5) (.slice S6 qa.sums.length d6) (.int .i64 qa.left) (.bool qa.started) (.bool qa.escaped) (.int .i64 qa.state) (.int .i64 qa.code) (.int .i64 qa.read))
     go_simp
     replace eS := qS.out
     clear tt tf BG qS
     refine Shut.out hK _ _ eS ?_
     try simp only [Act.put, lpa, lpz, lps]
     refine wpAnyH_done (by kernel_rfl) ?_ _
     obtain ⟨w12, hw12⟩ : ∃ W, Hid (W = s10 wg wd.heap.size qa (.slice S5 qa.stack.length d5) (.slice S6 qa.sums.length d6)) := ⟨_, rfl⟩; unfold s10 at hw12
     have zB := qB.out; have z5 := q5.out; have z6 := q6.out
     rw [← hw12.out] at zB z5 z6 eS
     rw [← hw12.out]
     clear hw12 qB q5 q6
     have qB := Lib.hid zB; have q5 := Lib.hid z5; have q6 := Lib.hid z6
     clear zB z5 z6
     go_wp2_with fail
     go_meet
     exact ⟨_, _, _, _, _, rfl, qB.out, q5.out, q6.out, eS⟩
  ·obtain rfl : k = 0 := by omega
   obtain rfl : l = [] := List.eq_nil_of_length_eq_zero hp
   clear HDR HAB HDA hki hkc hkc' hlcI hlc hk
   simp only [List.length_nil, Nat.sub_zero] at CF1 CF2 CFA
   have hck : cb = 0 ∨ ¬ cb = 0 := by omega
   rcases Ab with _ | ⟨gb, ob, qb⟩
   all_goals
    rcases hck with rfl | hck
   all_goals
    refine wp_region_HD (S := fun w' => Ext W4 w') (ofB 13 0) (by kernel_rfl) (by kernel_rfl) ?_
    generalize W4.drew = wd at *
    refine tkH (i := 0) (some 16) (v := ?_) (ofB 13 1) rfl rfl (by kernel_rfl) (by kernel_rfl) eS (Or.inl ⟨by rfl, ?_⟩) ?_
    rotate_left
    ·(intro w' hSw; have hf0 := p0 w' hSw; have hf1 := p1 w' hSw; clear hSw; go_simp; try with_reducible rfl)
    try simp only [Act.put, lpa, lpz, lps]
    refine tkH (i := 1) (some 17) (v := ?_) (ofB 13 3) rfl rfl (by kernel_rfl) (by kernel_rfl) eS (Or.inl ⟨by rfl, ?_⟩) ?_
    rotate_left
    ·(intro w' hSw; have hf0 := p0 w' hSw; have hf1 := p1 w' hSw; clear hSw; go_simp; try with_reducible rfl)
    try simp only [Act.put, lpa, lpz, lps]
    refine tkH (i := 3) (some 19) (v := ?_) (ofB 13 11) rfl rfl (by kernel_rfl) (by kernel_rfl) eS (Or.inl ⟨by rfl, ?_⟩) ?_
    rotate_left
    ·(intro w' hSw; clear hSw; go_simp; try with_reducible rfl)
    try simp only [Act.put, lpa, lpz, lps]
    refine tkH (i := 4) (some 20) (v := ?_) (ofB 13 27) rfl rfl (by kernel_rfl) (by kernel_rfl) eS (Or.inl ⟨by rfl, ?_⟩) ?_
    rotate_left
    ·(intro w' hSw; clear hSw; go_simp; try with_reducible rfl)
    try simp only [Act.put, lpa, lpz, lps]
    refine tkH (i := 5) (some 21) (v := ?_) (ofB 13 59) rfl rfl (by kernel_rfl) (by kernel_rfl) eS (Or.inl ⟨by rfl, ?_⟩) ?_
    rotate_left
    ·(intro w' hSw; clear hSw; go_simp; try with_reducible rfl)
    try simp only [Act.put, lpa, lpz, lps]
    refine tkH (i := 7) (some 23) (v := ?_) (ofB 13 187) rfl rfl (by kernel_rfl) (by kernel_rfl) eS (Or.inl ⟨by rfl, ?_⟩) ?_
    rotate_left
    ·(intro w' hSw; clear hSw; go_simp; try with_reducible rfl)
    try simp only [Act.put, lpa, lpz, lps]
    refine tkH (i := 8) (some 24) (v := ?_) (ofB 13 443) rfl rfl (by kernel_rfl) (by kernel_rfl) eS (Or.inl ⟨by rfl, ?_⟩) ?_
    rotate_left
    ·(intro w' hSw; clear hSw; go_simp; try with_reducible rfl)
    try simp only [Act.put, lpa, lpz, lps]
    refine tkH (i := 9) (some 25) (v := ?_) (ofB 13 955) rfl rfl (by kernel_rfl) (by kernel_rfl) eS (Or.inl ⟨by rfl, ?_⟩) ?_
    rotate_left
    ·(intro w' hSw; clear hSw; go_simp; try with_reducible rfl)
    try simp only [Act.put, lpa, lpz, lps]
    refine twoH (i := 2) (j := 11) (some 18) (some 8) (ofB 13 959) (ofB 13 3003) (by kernel_rfl) rfl rfl (by kernel_rfl) rfl rfl (by kernel_rfl) (fun K hK => ?_) (fun K hK => ?_)
    ·go_simp
     go_at_call 35
     refine (CN.out _).mono ?_
     rintro _ wn ⟨S1, d1, S2, d2, rfl, _, _, i1', i2', en⟩
     have i1 := Lib.hid i1'; have i2 := Lib.hid i2'
     clear i1' i2'
     replace eS := eS.trans en
     clear en
     refine Shut.out hK _ _ eS ?_
     try simp only [Act.put, lpa, lpz, lps]
     refine twoH (i := 6) (j := 11) (some 22) (some 8) (ofB 13 1023) (ofB 13 3007) (by kernel_rfl) rfl rfl (by kernel_rfl) rfl rfl (by kernel_rfl) (fun K hK => ?_) (fun K hK => ?_)
     ·go_simp
      go_at_call 34
      refine (CF1.out _ _ _ _ _ eS i1.out i2.out).mono ?_
      rintro _ wf ⟨S3, d3, S4, d4, rfl, _, _, i3', i4', ef⟩
      have i3 := Lib.hid i3'; have i4 := Lib.hid i4'
      clear i1 i2 i3' i4'
      replace eS := eS.trans ef
      clear ef
      refine Shut.out hK _ _ eS ?_
      try simp only [Act.put, lpa, lpz, lps]
      refine twoH (i := 10) (j := 11) (some 26) (some 8) (ofB 13 2047) (ofB 13 3071) (by kernel_rfl) rfl rfl (by kernel_rfl) rfl rfl (by kernel_rfl) (fun K hK => ?_) (fun K hK => ?_)
      ·go_simp
       go_at_call 34
       refine (CF2.out _ _ _ _ _ _ _ eS i3.out i4.out (HDN.out _ _ _ rfl)).mono ?_
       rintro _ wg ⟨S5, d5, S6, d6, rfl, o5', o6', _, _, eg⟩
       clear i3 i4
       have o5 := Lib.hid (OwnL.down (w0 := W4) o5' eS.size)
       have o6 := Lib.hid (OwnL.down (w0 := W4) o6' eS.size)
       clear o5' o6'
       replace eS := eS.trans eg
       clear eg
       refine Shut.out hK _ _ eS ?_
       try simp only [Act.put, lpa, lpz, lps]
       refine oneH (i := 11) (some 8) (ofB 13 4095) (by kernel_rfl) rfl rfl (by kernel_rfl) (fun K hK => ?_)
       have ea := Lib.hid (Ext_alloc (.cells #[.int .i64 0, .int .i64 0, .slice none 0 0, .slice none 0 0, .int .i64 0, .bool false, .bool false, .int .i64 0, .int .i64 0, .int .i64 0] 67) (Ext.refl wg))
       have tt := (Box.new wg #[.int .i64 0, .int .i64 0, .slice none 0 0, .slice none 0 0, .int .i64 0, .bool false, .bool false, .int .i64 0, .int .i64 0, .int .i64 0] 67).cell
       have tf := (Box.new wg #[.int .i64 0, .int .i64 0, .slice none 0 0, .slice none 0 0, .int .i64 0, .bool false, .bool false, .int .i64 0, .int .i64 0, .int .i64 0] 67).free
       have eSg := Lib.hid eS
       go_simp
       replace eS := eS.trans ea.out
       clear ea
       refine Shut.out hK _ _ eS ?_
       try simp only [Act.put, lpa, lpz, lps]
       refine oneH (i := 12) (none) (ofB 13 8191) (by kernel_rfl) rfl rfl (by kernel_rfl) (fun K hK => ?_)
       have ez := Lib.hid (Ext_alloc (.cells #[.int .i64 qa.pc, .int .i64 qa.reg, .slice S5 qa.stack.length d5, .slice S6 qa.sums.length d6, .int .i64 qa.left, .bool qa.started, .bool qa.escaped, .int .i64 qa.state, .int .i64 qa.code, .int .i64 qa.read] 67) (Ext.refl wg))
       have q5 := Lib.hid (o5.out.ext ez.out)
       have q6 := Lib.hid (o6.out.ext ez.out)
       have qB := Lib.hid (Box.new wg #[.int .i64 qa.pc, .int .i64 qa.reg, .slice S5 qa.stack.length d5, .slice S6 qa.sums.length d6, .int .i64 qa.left, .bool qa.started, .bool qa.escaped, .int .i64 qa.state, .int .i64 qa.code, .int .i64 qa.read] 67)
       go_simp
       replace eS := eSg.out.trans ez.out
       clear tt tf eSg ez
       refine Shut.out hK _ _ eS ?_
       try simp only [Act.put, lpa, lpz, lps]
       refine wpAnyH_done (by kernel_rfl) ?_ _
       obtain ⟨w12, hw12⟩ : ∃ W, Hid (W = (wg.alloc (.cells #[.int .i64 qa.pc, .int .i64 qa.reg, .slice S5 qa.stack.length d5, .slice S6 qa.sums.length d6, .int .i64 qa.left, .bool qa.started, .bool qa.escaped, .int .i64 qa.state, .int .i64 qa.code, .int .i64 qa.read] 67))) := ⟨_, rfl⟩
       have zB := qB.out; have z5 := q5.out; have z6 := q6.out
       rw [← hw12.out] at zB z5 z6 eS
       rw [← hw12.out]
       clear hw12 qB q5 q6
       have qB := Lib.hid zB; have q5 := Lib.hid z5; have q6 := Lib.hid z6
       clear zB z5 z6
       go_wp2_with fail
       go_meet
       exact ⟨_, _, _, _, _, rfl, qB.out, q5.out, q6.out, eS⟩
      ·have ea := Lib.hid (Ext_alloc (.cells #[.int .i64 0, .int .i64 0, .slice none 0 0, .slice none 0 0, .int .i64 0, .bool false, .bool false, .int .i64 0, .int .i64 0, .int .i64 0] 67) (Ext.refl wf))
       have BG := Lib.hid (Box.new wf #[.int .i64 0, .int .i64 0, .slice none 0 0, .slice none 0 0, .int .i64 0, .bool false, .bool false, .int .i64 0, .int .i64 0, .int .i64 0] 67)
       have HGS : W4.heap.size ≤ wf.heap.size := eS.size
       replace i3 := Lib.hid (i3.out.ext ea.out)
       replace i4 := Lib.hid (i4.out.ext ea.out)
       go_simp
       replace eS := eS.trans ea.out
       clear ea
       refine Shut.out hK _ _ eS ?_
       try simp only [Act.put, lpa, lpz, lps]
       refine oneH (i := 10) (some 26) (ofB 13 4095) (by kernel_rfl) rfl rfl (by kernel_rfl) (fun K hK => ?_)
       go_simp
       go_at_call 34
       refine (CF2.out _ _ _ _ _ _ _ eS i3.out i4.out (HDN.out _ _ _ rfl)).mono ?_
       rintro _ wg ⟨S5, d5, S6, d6, rfl, o5', o6', _, _, eg⟩
       clear i3 i4
       have hne5 := Lib.hid (OwnL.far o5' (.inl BG.out.lt))
       have hne6 := Lib.hid (OwnL.far o6' (.inl BG.out.lt))
       have o5 := Lib.hid (OwnL.down (w0 := W4) o5' eS.size)
       have o6 := Lib.hid (OwnL.down (w0 := W4) o6' eS.size)
       clear o5' o6'
       replace eS := eS.trans eg
       replace BG := Lib.hid (BG.out.ext eg)
       clear eg
       refine Shut.out hK _ _ eS ?_
       try simp only [Act.put, lpa, lpz, lps]
       refine oneH (i := 12) (none) (ofB 13 8191) (by kernel_rfl) rfl rfl (by kernel_rfl) (fun K hK => ?_)
       have tt := BG.out.cell
       have tf := BG.out.free
       have q5 := Lib.hid (put10_own o5.out hne5.out (.int .i64 qa.pc) (.int .i64 qa.reg) (.slice S5 qa.stack.length d5) (.slice S6 qa.sums.length d6) (.int .i64 qa.left) (.bool qa.started) (.bool qa.escaped) (.int .i64 qa.state) (.int .i64 qa.code) (.int .i64 qa.read))
       have q6 := Lib.hid (put10_own o6.out hne6.out (.int .i64 qa.pc) (.int .i64 qa.reg) (.slice S5 qa.stack.length d5) (.slice S6 qa.sums.length d6) (.int .i64 qa.left) (.bool qa.started) (.bool qa.escaped) (.int .i64 qa.state) (.int .i64 qa.code) (.int .i64 qa.read))
       have qB := Lib.hid (box10 _ _ _ _ _ _ _ _ _ _ BG.out (.int .i64 qa.pc) (.int .i64 qa.reg) (.slice S5 qa.stack.length d5) (.slice S6 qa.sums.length d6) (.int .i64 qa.left) (.bool qa.started) (.bool qa.escaped) (.int .i64 qa.state) (.int .i64 qa.code) (.int .i64 qa.read))
       have qS := Lib.hid (put10_ext eS HGS (.int .i64 qa.pc) (.int .i64 qa.reg) (.slice S5 qa.stack.length d5) (.slice S6 qa.sums.length d6) (.int .i64 qa.left) (.bool qa.started) (.bool qa.escaped) (.int .i64 qa.state) (.int .i64 qa.code) (.int .i64 qa.read))
       go_simp
       replace eS := qS.out
       clear tt tf BG qS
       refine Shut.out hK _ _ eS ?_
       try simp only [Act.put, lpa, lpz, lps]
       refine wpAnyH_done (by kernel_rfl) ?_ _
       obtain ⟨w12, hw12⟩ : ∃ W, Hid (W = s10 wg wf.heap.size qa (.slice S5 qa.stack.length d5) (.slice S6 qa.sums.length d6)) := ⟨_, rfl⟩; unfold s10 at hw12
       have zB := qB.out; have z5 := q5.out; have z6 := q6.out
       rw [← hw12.out] at zB z5 z6 eS
       rw [← hw12.out]
       clear hw12 qB q5 q6
       have qB := Lib.hid zB; have q5 := Lib.hid z5; have q6 := Lib.hid z6
       clear zB z5 z6
       go_wp2_with fail
       go_meet
       exact ⟨_, _, _, _, _, rfl, qB.out, q5.out, q6.out, eS⟩
     ·have ea := Lib.hid (Ext_alloc (.cells #[.int .i64 0, .int .i64 0, .slice none 0 0, .slice none 0 0, .int .i64 0, .bool false, .bool false, .int .i64 0, .int .i64 0, .int .i64 0] 67) (Ext.refl wn))
      have BG := Lib.hid (Box.new wn #[.int .i64 0, .int .i64 0, .slice none 0 0, .slice none 0 0, .int .i64 0, .bool false, .bool false, .int .i64 0, .int .i64 0, .int .i64 0] 67)
      have HGS : W4.heap.size ≤ wn.heap.size := eS.size
      replace i1 := Lib.hid (i1.out.ext ea.out)
      replace i2 := Lib.hid (i2.out.ext ea.out)
      go_simp
      replace eS := eS.trans ea.out
      clear ea
      refine Shut.out hK _ _ eS ?_
      try simp only [Act.put, lpa, lpz, lps]
      refine oneH (i := 6) (some 22) (ofB 13 3071) (by kernel_rfl) rfl rfl (by kernel_rfl) (fun K hK => ?_)
      go_simp
      go_at_call 34
      refine (CF1.out _ _ _ _ _ eS i1.out i2.out).mono ?_
      rintro _ wf ⟨S3, d3, S4, d4, rfl, _, _, i3', i4', ef⟩
      have i3 := Lib.hid i3'; have i4 := Lib.hid i4'
      clear i1 i2 i3' i4'
      replace eS := eS.trans ef
      replace BG := Lib.hid (BG.out.ext ef)
      clear ef
      refine Shut.out hK _ _ eS ?_
      try simp only [Act.put, lpa, lpz, lps]
      refine oneH (i := 10) (some 26) (ofB 13 4095) (by kernel_rfl) rfl rfl (by kernel_rfl) (fun K hK => ?_)
      go_simp
      go_at_call 34
      refine (CF2.out _ _ _ _ _ _ _ eS i3.out i4.out (HDN.out _ _ _ rfl)).mono ?_
      rintro _ wg ⟨S5, d5, S6, d6, rfl, o5', o6', _, _, eg⟩
      clear i3 i4
      have hne5 := Lib.hid (OwnL.far o5' (.inl BG.out.lt))
      have hne6 := Lib.hid (OwnL.far o6' (.inl BG.out.lt))
      have o5 := Lib.hid (OwnL.down (w0 := W4) o5' eS.size)
      have o6 := Lib.hid (OwnL.down (w0 := W4) o6' eS.size)
      clear o5' o6'
      replace eS := eS.trans eg
      replace BG := Lib.hid (BG.out.ext eg)
      clear eg
      refine Shut.out hK _ _ eS ?_
      try simp only [Act.put, lpa, lpz, lps]
      refine oneH (i := 12) (none) (ofB 13 8191) (by kernel_rfl) rfl rfl (by kernel_rfl) (fun K hK => ?_)
      have tt := BG.out.cell
      have tf := BG.out.free
      have q5 := Lib.hid (put10_own o5.out hne5.out (.int .i64 qa.pc) (.int .i64 qa.reg) (.slice S5 qa.stack.length d5) (.slice S6 qa.sums.length d6) (.int .i64 qa.left) (.bool qa.started) (.bool qa.escaped) (.int .i64 qa.state) (.int .i64 qa.code) (.int .i64 qa.read))
      have q6 := Lib.hid (put10_own o6.out hne6.out (.int .i64 qa.pc) (.int .i64 qa.reg) (.slice S5 qa.stack.length d5) (.slice S6 qa.sums.length d6) (.int .i64 qa.left) (.bool qa.started) (.bool qa.escaped) (.int .i64 qa.state) (.int .i64 qa.code) (.int .i64 qa.read))
      have qB := Lib.hid (box10 _ _ _ _ _ _ _ _ _ _ BG.out (.int .i64 qa.pc) (.int .i64 qa.reg) (.slice S5 qa.stack.length d5) (.slice S6 qa.sums.length d6) (.int .i64 qa.left) (.bool qa.started) (.bool qa.escaped) (.int .i64 qa.state) (.int .i64 qa.code) (.int .i64 qa.read))
      have qS := Lib.hid (put10_ext eS HGS (.int .i64 qa.pc) (.int .i64 qa.reg) (.slice S5 qa.stack.length d5) (.slice S6 qa.sums.length d6) (.int .i64 qa.left) (.bool qa.started) (.bool qa.escaped) (.int .i64 qa.state) (.int .i64 qa.code) (.int .i64 qa.read))
      go_simp
      replace eS := qS.out
      clear tt tf BG qS
      refine Shut.out hK _ _ eS ?_
      try simp only [Act.put, lpa, lpz, lps]
      refine wpAnyH_done (by kernel_rfl) ?_ _
      obtain ⟨w12, hw12⟩ : ∃ W, Hid (W = s10 wg wn.heap.size qa (.slice S5 qa.stack.length d5) (.slice S6 qa.sums.length d6)) := ⟨_, rfl⟩; unfold s10 at hw12
      have zB := qB.out; have z5 := q5.out; have z6 := q6.out
      rw [← hw12.out] at zB z5 z6 eS
      rw [← hw12.out]
      clear hw12 qB q5 q6
      have qB := Lib.hid zB; have q5 := Lib.hid z5; have q6 := Lib.hid z6
      clear zB z5 z6
      go_wp2_with fail
      go_meet
      exact ⟨_, _, _, _, _, rfl, qB.out, q5.out, q6.out, eS⟩
    ·have ea := Lib.hid (Ext_alloc (.cells #[.int .i64 0, .int .i64 0, .slice none 0 0, .slice none 0 0, .int .i64 0, .bool false, .bool false, .int .i64 0, .int .i64 0, .int .i64 0] 67) (Ext.refl wd))
     have BG := Lib.hid (Box.new wd #[.int .i64 0, .int .i64 0, .slice none 0 0, .slice none 0 0, .int .i64 0, .bool false, .bool false, .int .i64 0, .int .i64 0, .int .i64 0] 67)
     have HGS : W4.heap.size ≤ wd.heap.size := eS.size
     go_simp
     replace eS := eS.trans ea.out
     clear ea
     refine Shut.out hK _ _ eS ?_
     try simp only [Act.put, lpa, lpz, lps]
     refine oneH (i := 2) (some 18) (ofB 13 3007) (by kernel_rfl) rfl rfl (by kernel_rfl) (fun K hK => ?_)
     go_simp
     go_at_call 35
     refine (CN.out _).mono ?_
     rintro _ wn ⟨S1, d1, S2, d2, rfl, _, _, i1', i2', en⟩
     have i1 := Lib.hid i1'; have i2 := Lib.hid i2'
     clear i1' i2'
     replace eS := eS.trans en
     replace BG := Lib.hid (BG.out.ext en)
     clear en
     refine Shut.out hK _ _ eS ?_
     try simp only [Act.put, lpa, lpz, lps]
     refine oneH (i := 6) (some 22) (ofB 13 3071) (by kernel_rfl) rfl rfl (by kernel_rfl) (fun K hK => ?_)
     go_simp
     go_at_call 34
     refine (CF1.out _ _ _ _ _ eS i1.out i2.out).mono ?_
     rintro _ wf ⟨S3, d3, S4, d4, rfl, _, _, i3', i4', ef⟩
     have i3 := Lib.hid i3'; have i4 := Lib.hid i4'
     clear i1 i2 i3' i4'
     replace eS := eS.trans ef
     replace BG := Lib.hid (BG.out.ext ef)
     clear ef
     refine Shut.out hK _ _ eS ?_
     try simp only [Act.put, lpa, lpz, lps]
     refine oneH (i := 10) (some 26) (ofB 13 4095) (by kernel_rfl) rfl rfl (by kernel_rfl) (fun K hK => ?_)
     go_simp
     go_at_call 34
     refine (CF2.out _ _ _ _ _ _ _ eS i3.out i4.out (HDN.out _ _ _ rfl)).mono ?_
     rintro _ wg ⟨S5, d5, S6, d6, rfl, o5', o6', _, _, eg⟩
     clear i3 i4
     have hne5 := Lib.hid (OwnL.far o5' (.inl BG.out.lt))
     have hne6 := Lib.hid (OwnL.far o6' (.inl BG.out.lt))
     have o5 := Lib.hid (OwnL.down (w0 := W4) o5' eS.size)
     have o6 := Lib.hid (OwnL.down (w0 := W4) o6' eS.size)
     clear o5' o6'
     replace eS := eS.trans eg
     replace BG := Lib.hid (BG.out.ext eg)
     clear eg
     refine Shut.out hK _ _ eS ?_
     try simp only [Act.put, lpa, lpz, lps]
     refine oneH (i := 12) (none) (ofB 13 8191) (by kernel_rfl) rfl rfl (by kernel_rfl) (fun K hK => ?_)
     have tt := BG.out.cell
     have tf := BG.out.free
     have q5 := Lib.hid (put10_own o5.out hne5.out (.int .i64 qa.pc) (.int .i64 qa.reg) (.slice S5 qa.stack.length d5) (.slice S6 qa.sums.length d6) (.int .i64 qa.left) (.bool qa.started) (.bool qa.escaped) (.int .i64 qa.state) (.int .i64 qa.code) (.int .i64 qa.read))
     have q6 := Lib.hid (put10_own o6.out hne6.out (.int .i64 qa.pc) (.int .i64 qa.reg) (.slice S5 qa.stack.length d5) (.slice S6 qa.sums.length d6) (.int .i64 qa.left) (.bool qa.started) (.bool qa.escaped) (.int .i64 qa.state) (.int .i64 qa.code) (.int .i64 qa.read))
     have qB := Lib.hid (box10 _ _ _ _ _ _ _ _ _ _ BG.out (.int .i64 qa.pc) (.int .i64 qa.reg) (.slice S5 qa.stack.length d5) (.slice S6 qa.sums.length d6) (.int .i64 qa.left) (.bool qa.started) (.bool qa.escaped) (.int .i64 qa.state) (.int .i64 qa.code) (.int .i64 qa.read))
     have qS := Lib.hid (put10_ext eS HGS (.int .i64 qa.pc) (.int .i64 qa.reg) (.slice S5 qa.stack.length d5) (.slice S6 qa.sums.length d6) (.int .i64 qa.left) (.bool qa.started) (.bool qa.escaped) (.int .i64 qa.state) (.int .i64 qa.code) (.int .i64 qa.read))
     go_simp
     replace eS := qS.out
     clear tt tf BG qS
     refine Shut.out hK _ _ eS ?_
     try simp only [Act.put, lpa, lpz, lps]
     refine wpAnyH_done (by kernel_rfl) ?_ _
     obtain ⟨w12, hw12⟩ : ∃ W, Hid (W = s10 wg wd.heap.size qa (.slice S5 qa.stack.length d5) (.slice S6 qa.sums.length d6)) := ⟨_, rfl⟩; unfold s10 at hw12
     have zB := qB.out; have z5 := q5.out; have z6 := q6.out
     rw [← hw12.out] at zB z5 z6 eS
     rw [← hw12.out]
     clear hw12 qB q5 q6
     have qB := Lib.hid zB; have q5 := Lib.hid z5; have q6 := Lib.hid z6
     clear zB z5 z6
     go_wp2_with fail
     go_meet
     exact ⟨_, _, _, _, _, rfl, qB.out, q5.out, q6.out, eS⟩
 case rest =>
  obtain ⟨g, S1, d1, S2, d2, rfl, hbx, ho1, ho2, ew⟩ := hcut
  have HI1 := Lib.hid (OwnL.is ho1.out (by have := HOKA.out.st; omega))
  have HI2 := Lib.hid (OwnL.is ho2.out (by have := HOKA.out.sm; omega))
  clear HDR HDN HAB SY CF1 CF2 ho1 ho2
  replace p0 := kx p0 ew
  replace p1 := kx p1 ew
  have bx := hbx.out
  have u0 : ∀ w', Ext wc w' → w'.cell? ⟨g, 0, none⟩ = some (.int .i64 qa.pc) := fun w' e => (bx.ext e).cell 0
  have u1 : ∀ w', Ext wc w' → w'.cell? ⟨g, 1, none⟩ = some (.int .i64 qa.reg) := fun w' e => (bx.ext e).cell 1
  have u2 : ∀ w', Ext wc w' → w'.cell? ⟨g, 2, none⟩ = some (Value.slice S1 qa.stack.length d1) := fun w' e => (bx.ext e).cell 2
  have u3 : ∀ w', Ext wc w' → w'.cell? ⟨g, 3, none⟩ = some (Value.slice S2 qa.sums.length d2) := fun w' e => (bx.ext e).cell 3
  have u4 : ∀ w', Ext wc w' → w'.cell? ⟨g, 4, none⟩ = some (.int .i64 qa.left) := fun w' e => (bx.ext e).cell 4
  have u5 : ∀ w', Ext wc w' → w'.cell? ⟨g, 5, none⟩ = some (.bool qa.started) := fun w' e => (bx.ext e).cell 5
  have u6 : ∀ w', Ext wc w' → w'.cell? ⟨g, 6, none⟩ = some (.bool qa.escaped) := fun w' e => (bx.ext e).cell 6
  have u7 : ∀ w', Ext wc w' → w'.cell? ⟨g, 7, none⟩ = some (.int .i64 qa.state) := fun w' e => (bx.ext e).cell 7
  have u8 : ∀ w', Ext wc w' → w'.cell? ⟨g, 8, none⟩ = some (.int .i64 qa.code) := fun w' e => (bx.ext e).cell 8
  have u9 : ∀ w', Ext wc w' → w'.cell? ⟨g, 9, none⟩ = some (.int .i64 qa.read) := fun w' e => (bx.ext e).cell 9
  clear bx hbx
  have eS : Ext wc wc.drew := Ext_drew (Ext.refl wc)
  go_wp2_with fail
  refine wp_region_HD (S := fun w' => Ext wc w') (ofB 7 0) (by kernel_rfl) (by kernel_rfl) ?_
  refine tkH (i := 0) (some 27) (v := ?_) (ofB 7 1) rfl rfl (by kernel_rfl) (by kernel_rfl) eS (Or.inl ⟨by rfl, ?_⟩) ?_
  rotate_left
  ·(intro w' hSw; have hf0 := u0 w' hSw; have hf1 := u1 w' hSw; have hf2 := u2 w' hSw; have hf3 := u3 w' hSw; have hf4 := u4 w' hSw; have hf5 := u5 w' hSw; have hf6 := u6 w' hSw; have hf7 := u7 w' hSw; have hf8 := u8 w' hSw; have hf9 := u9 w' hSw; clear hSw; go_simp; try with_reducible rfl)
  try simp only [Act.put, lpa, lpz, lps]
  refine tkH (i := 1) (some 28) (v := ?_) (ofB 7 3) rfl rfl (by kernel_rfl) (by kernel_rfl) eS (Or.inl ⟨by rfl, ?_⟩) ?_
  rotate_left
  ·(intro w' hSw; have hf0 := p0 w' hSw; have hf1 := p1 w' hSw; clear hSw; go_simp; try with_reducible rfl)
  try simp only [Act.put, lpa, lpz, lps]
  refine tkH (i := 3) (some 30) (v := ?_) (ofB 7 11) rfl rfl (by kernel_rfl) (by kernel_rfl) eS (Or.inl ⟨by rfl, ?_⟩) ?_
  rotate_left
  ·(intro w' hSw; clear hSw; go_simp; try with_reducible rfl)
  try simp only [Act.put, lpa, lpz, lps]
  refine oneH (i := 2) (some 29) (ofB 7 15) (by kernel_rfl) rfl rfl (by kernel_rfl) (fun K hK => ?_)
  go_simp
  go_at_call 35
  refine (CN.out _).mono ?_
  rintro _ wn ⟨S3, d3, S4, d4, rfl, _, _, i1, i2, en⟩
  replace eS := eS.trans en
  refine Shut.out hK _ _ eS ?_
  try simp only [Act.put, lpa, lpz, lps]
  refine oneH (i := 4) (some 31) (ofB 7 31) (by kernel_rfl) rfl rfl (by kernel_rfl) (fun K hK => ?_)
  go_simp
  go_at_call 34
  refine (CFA.out _ _ _ _ _ (ew.trans eS) i1 i2).mono ?_
  rintro _ wf ⟨S5, d5, S6, d6, rfl, _, _, i3, i4, ef⟩
  clear i1 i2
  replace eS := eS.trans ef
  refine Shut.out hK _ _ eS ?_
  try simp only [Act.put, lpa, lpz, lps]
  refine oneH (i := 5) (some 32) (ofB 7 63) (by kernel_rfl) rfl rfl (by kernel_rfl) (fun K hK => ?_)
  go_simp
  go_at_call 36
  refine (CE.out qa _ _ _ _ _ _ _ _ _ (HI1.out.ext eS) (HI2.out.ext eS) i3 i4).mono ?_
  rintro _ wh ⟨rfl, eh⟩
  replace eS := eS.trans eh
  refine Shut.out hK _ _ eS ?_
  try simp only [Act.put, lpa, lpz, lps]
  refine tkH (i := 6) (some 6) (v := ?_) (ofB 7 127) rfl rfl (by kernel_rfl) (by kernel_rfl) eS (Or.inl ⟨by rfl, ?_⟩) ?_
  rotate_left
  ·(intro w' hSw; clear hSw; go_simp; try with_reducible rfl)
  try simp only [Act.put, lpa, lpz, lps]
  refine wpAnyH_done (by kernel_rfl) ?_ _
  go_wp2
  go_ret
  exact ⟨rfl, e04.trans (ew.trans eS)⟩
end Go.Proofs.YtpmcofmdjckijaaGreat
