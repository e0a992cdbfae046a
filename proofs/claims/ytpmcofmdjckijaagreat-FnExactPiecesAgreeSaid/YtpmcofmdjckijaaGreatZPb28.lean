/- Texts, laid into one. -/
import Derived.Test.YtpmcofmdjckijaaGreatZPb26
import Derived.Test.YtpmcofmdjckijaaGreatZPb23
set_option linter.unusedVariables false
set_option linter.unusedSimpArgs false
set_option maxRecDepth 100000
set_option maxHeartbeats 16000000
namespace Go.Proofs.YtpmcofmdjckijaaGreat
open Go.RowKit Go.Sort
theorem some_ne {a b : Nat} (h : a ≠ b) : (some a : Option Nat) ≠ some b := fun e => h (Option.some.inj e)
theorem compN_head (ds : List DRule) : ∀ k, ∃ t, (compN ds k).1 = (9, 0, 0) :: t
 | 0 => ⟨_, rfl⟩
 | k + 1 => by
  obtain ⟨t, ht⟩ := compN_head ds k
  exact ⟨_, by rw [compN, ht]; rfl⟩
theorem OwnI.shape {w0 w : World} {v : Value} {l : List Ins} (h : OwnI w0 w v l) (hp : 0 < l.length) : ∃ g cap, v = .slice (some ⟨g, 0, none⟩) l.length cap := by
 rcases h.2 with ⟨rfl, h0⟩ | ⟨g, cap, _, rfl, _⟩
 ·omega
 ·exact ⟨g, cap, rfl⟩
theorem Own.slice {e : TypeId} {size : Nat} {w0 w : World} {v : Value} {n : Nat} {xs : List Value} (h : Own e size w0 w v n xs) : ∃ A m c, v = .slice A m c := by
 rcases h.2 with ⟨rfl, _⟩ | ⟨g, cap, _, rfl, _⟩
 ·exact ⟨_, _, _, rfl⟩
 ·exact ⟨_, _, _, rfl⟩
theorem OwnI.set1 {w0 w : World} {g n cap : Nat} {x : Ins} {t : List Ins} (h : OwnI w0 w (.slice (some ⟨g, 0, none⟩) n cap) (x :: t)) (he : Ext w0 w) (y : Int) :
 OwnI w0 (w.setCell ⟨g, 1, none⟩ (.int .i64 y)) (.slice (some ⟨g, 0, none⟩) n cap) ((x.1, y, x.2.2) :: t) ∧ Ext w0 (w.setCell ⟨g, 1, none⟩ (.int .i64 y)) := by
 have hn : n = (x :: t).length := by
  rcases h.2 with ⟨hv, h0⟩ | ⟨g', cap', _, hv, _⟩
  ·injection hv with a b c
   cases a
  ·injection hv with a b c
 subst hn
 have h1 := Own.store h he 1 (.int .i64 y)
 exact ⟨by unfold OwnI; simpa [icells] using h1.1, h1.2⟩
theorem PSt.set0 {W0 w : World} {g gc n cap : Nat} {ve : Value} {x : Ins} {t : List Ins} {e : List Int} (h : PSt W0 w g (.slice (some ⟨gc, 0, none⟩) n cap) ve (x :: t) e) (y : Int) :
 PSt W0 (w.setCell ⟨gc, 1, none⟩ (.int .i64 y)) g (.slice (some ⟨gc, 0, none⟩) n cap) ve ((x.1, y, x.2.2) :: t) e := by
 have h1 := h.oc.set1 h.ext y
 have hne : g ≠ gc := fun hh => h.n1 (by rw [hh]; rfl)
 exact ⟨h.lo, h.box.other hne 1 _, h1.1, h.oe.other _ _ (h.far gc rfl), h.n1, h.n2, h.far, h1.2⟩
theorem sComp_c (A : Option Addr) (ds : List DRule) (c : Nat) (w : World) (hd : RdD w A ds c) (hs : ShortD ds) (hw : WfD ds) :
 Calls Tryz.prog 21 #[vdesc (.slice A ds.length c)] w fun e w' => ∃ vc ve, e = .returned (.agg #[vc, ve]) ∧ OwnI w w' vc (compD ds).1 ∧ OwnL vint 3 w w' ve (compD ds).2 ∧ Ext w w' := by
 have hl := hd.len
 have CV := Lib.hid (fun w' (e : Ext w w') => sValidDesc_c A ds c w' (hd.ext e) hs hw)
 obtain ⟨W0, hW0, BD, BR, e0, hsz⟩ := boxes2' w #[.slice A ds.length c] #[.slice none 0 0, .slice none 0 0] 26 55
 have kD : ∀ w', Ext W0 w' → w'.cell? ⟨w.heap.size, 0, none⟩ = some (Value.slice A ds.length c) := fun w' e => BD.at 0 w' e
 have d0 := kD _ (Ext.refl _)
 rw [hW0.out] at d0
 have HSZ := Lib.hid hsz
 have CO := Lib.hid (fun o a b w => sOp_c o a b w)
 have HBR := Lib.hid BR
 clear hsz BR BD
 unfold vdesc at *
 cases hok : descOk ds
 ·rw [hok] at CV
  have HC : Hid (compD ds = ([], [])) := by show _ = _; unfold compD; rw [hok]; rfl
  go_enter Tryz.func21, Tryz.ntmps21
  go_wp2_with fail
  rw [← hW0.out]
  refine (CV.out _ e0).mono ?_; rintro _ w1 ⟨rfl, e1⟩
  have br := HBR.out.ext e1
  have r2 := br.cell; have f2 := br.free
  have E1 := e0.trans e1
  go_wp2
  refine bodyPost_ret (v := .agg #[.slice none 0 0, .slice none 0 0]) (by simp [results, Tryz.results21, go_sem, r2, f2]) rfl ?_
  rw [HC.out]
  exact ⟨_, _, rfl, ⟨by simp, .inl ⟨rfl, rfl⟩⟩, OwnL.nil _ _, (E1.setCell (p := ⟨w.heap.size + 1, 0, none⟩) (by show _ ≤ _ + 1; omega) _).setCell (p := ⟨w.heap.size + 1, 1, none⟩) (by show _ ≤ _ + 1; omega) _⟩
 rw [hok] at CV
 have h24 := descOk_24 hok
 have hpos : 0 < ds.length := (descOk_len hok).1
 have HC : Hid (compD ds = ((compN ds ds.length).1.set 0 (9, (compN ds ds.length).2.getLastD 0, 0), (compN ds ds.length).2)) := by show _ = _; unfold compD; rw [hok]; rfl
 have CR : Hid (∀ k, (hk : k < ds.length) → ∀ (E : Option Addr) (es : List Int) (ec start : Nat) w', Ext w w' → Is w' E es ec → es.length = k → start ≤ 100000 →
  Calls Tryz.prog 44 #[.agg #[.slice A ds.length c], .int .i64 (k : Int), .int .i64 (start : Int), .slice E es.length ec] w' (cRuleRes w' (ruleC ds[k] start es))) := fun k hk E es ec start w' e hE he hst =>
  sRuleC_c A ds c hok k hk E es ec start w' (hd.ext e) hs hw hE (by omega) hst
 have HLN := Lib.hid (fun k hk => compN_len hok k hk)
 have HR60 := Lib.hid (fun k hk start es => ruleC_60 hok k hk start es)
 have HEN := Lib.hid (compN_ents ds)
 have HSUC := Lib.hid (fun k hk => compN_succ ds k hk)
 clear hd hs hw hok
 go_enter Tryz.func21, Tryz.ntmps21
 go_wp2_with fail
 rw [← hW0.out]
 refine (CV.out _ e0).mono ?_; rintro _ w1 ⟨rfl, e1⟩
 clear d0 CV
 go_wp2_with fail
 refine (CO.out 9 0 0 _).mono ?_; rintro _ w2 ⟨rfl, e2⟩
 go_wp2_with fail
 refine (CO.out 17 0 0 _).mono ?_; rintro _ w3 ⟨rfl, e3⟩
 have E3 := (e1.trans e2).trans e3
 have P0 : Hid (PSt W0 ((w3.alloc (.cells #[.int .i64 9, .int .i64 0, .int .i64 0, .int .i64 17, .int .i64 0, .int .i64 0] 79)).alloc (.cells #[.slice (some ⟨w3.heap.size, 0, none⟩) 2 2, .slice none 0 0] 55)) (w3.heap.size + 1) (.slice (some ⟨w3.heap.size, 0, none⟩) 2 2) (.slice none 0 0) (compN ds 0).1 (compN ds 0).2) := by
  have h1 := E3.size
  have hb := Box.new (w3.alloc (.cells #[.int .i64 9, .int .i64 0, .int .i64 0, .int .i64 17, .int .i64 0, .int .i64 0] 79)) #[.slice (some ⟨w3.heap.size, 0, none⟩) 2 2, .slice none 0 0] 55
  rw [World.size_alloc] at hb
  refine ⟨by omega, hb, (OwnI.new E3 [(9, 0, 0), (17, 0, 0)] _ rfl 2 rfl (by simp)).ext (Ext_alloc _ (Ext.refl _)), OwnL.nil _ _, ?_, ?_, ?_, Ext_alloc _ (Ext_alloc _ E3)⟩
  ·show some w3.heap.size ≠ some (w3.heap.size + 1); exact some_ne (by omega)
  ·show none ≠ _; intro hh; cases hh
  ·intro b _; show none ≠ _; intro hh; cases hh
 go_wp2_with fail
 go_loopw [4] (fun q wr => ∃ (k : Nat) (vc ve : Value), k ≤ ds.length ∧ q = .int .i64 (k : Int) ∧ Hid (PSt W0 wr (w3.heap.size + 1) vc ve (compN ds k).1 (compN ds k).2)) (fun q _ => ds.length - (intOf q).toNat)
 case atStart => exact ⟨0, _, _, by omega, rfl, P0.out⟩
 case round =>
  clear P0
  obtain ⟨k, vc, ve, hk, rfl, hP⟩ := hrel
  have hcl := HLN.out k hk
  obtain ⟨Ac, cc, hvc, _⟩ := hP.out.oc.rd (by omega)
  obtain ⟨Ae, ce, hve, rE⟩ := hP.out.oe.rd (by rw [HEN.out]; omega)
  have hbx : Box wr (w3.heap.size + 1) #[vc, ve] 55 := hP.out.box
  have b0 : wr.cell? ⟨w3.heap.size + 1, 0, none⟩ = some vc := hbx.cell 0
  have b1 : wr.cell? ⟨w3.heap.size + 1, 1, none⟩ = some ve := hbx.cell 1
  have kd := kD wr hP.out.ext
  have hel := HEN.out k
  have hEw := e0.trans hP.out.ext
  by_cases hlt : k < ds.length
  ·subst hvc; subst hve
   have HSC := Lib.hid (HSUC.out k hlt)
   have HC6 := Lib.hid (HR60.out k hlt)
   have CR1 := Lib.hid (CR.out k hlt)
   have HCL := Lib.hid hcl; have HEL := Lib.hid hel
   generalize hcc : (compN ds k).1 = cs at *
   generalize hee : (compN ds k).2 = es at *
   clear hcc hee hcl hel
   have HPd := Lib.hid (hP.out.next (Ext_drew (Ext.refl wr)))
   have HAB : lv2 (fun w' => Box w' (w3.heap.size + 1) #[Value.slice Ac cs.length cc, Value.slice Ae es.length ce] 55 ∧ w'.cell? ⟨w.heap.size, 0, none⟩ = some (Value.slice A ds.length c)) (fun _ => True) 1 wr.drew := ⟨HPd.out.box, kD _ HPd.out.ext⟩
   go_wp2_with fail
   refine wp_region_C (C := fun j => lv2 (fun w' => Box w' (w3.heap.size + 1) #[Value.slice Ac cs.length cc, Value.slice Ae es.length ce] 55 ∧ w'.cell? ⟨w.heap.size, 0, none⟩ = some (Value.slice A ds.length c)) (fun _ => True) (([0, 1, 1, 0, 0, 0, 1, 1, 0, 0, 0] : List Nat).getD j 0)) (by kernel_rfl) ?_
   refine tkC 0 (i := 0) (v := ?_) rfl (by kernel_rfl) trivial (Or.inl ⟨by rfl, ?_⟩) ?_
   rotate_left
   ·(intro w9 hSw; clear hSw; go_simp; try with_reducible rfl)
   try simp only [Act.put, lpa, lpz, lps]
   refine tkC 0 (i := 3) (v := ?_) rfl (by kernel_rfl) trivial (Or.inl ⟨by rfl, ?_⟩) ?_
   rotate_left
   ·(intro w9 hSw; clear hSw; go_simp; try with_reducible rfl)
   try simp only [Act.put, lpa, lpz, lps]
   refine tkC 0 (i := 4) (v := ?_) rfl (by kernel_rfl) trivial (Or.inl ⟨by rfl, ?_⟩) ?_
   rotate_left
   ·(intro w9 hSw; clear hSw; go_simp; try with_reducible rfl)
   try simp only [Act.put, lpa, lpz, lps]
   refine tkC 0 (i := 5) (v := ?_) rfl (by kernel_rfl) trivial (Or.inl ⟨by rfl, ?_⟩) ?_
   rotate_left
   ·(intro w9 hSw; clear hSw; go_simp; try with_reducible rfl)
   try simp only [Act.put, lpa, lpz, lps]
   refine tkC 1 (i := 1) (v := ?_) rfl (by kernel_rfl) HAB (Or.inl ⟨by rfl, ?_⟩) ?_
   rotate_left
   ·(intro w9 hSw; have hfact : w9.cell? ⟨w3.heap.size + 1, 0, none⟩ = some (Value.slice Ac cs.length cc) := hSw.1.cell 0; clear hSw; go_simp; try with_reducible rfl)
   try simp only [Act.put, lpa, lpz, lps]
   refine tkC 1 (i := 2) (v := ?_) rfl (by kernel_rfl) HAB (Or.inl ⟨by rfl, ?_⟩) ?_
   rotate_left
   ·(intro w9 hSw; have hfact : w9.cell? ⟨w.heap.size, 0, none⟩ = some (Value.slice A ds.length c) := hSw.2; clear hSw; go_simp; try with_reducible rfl)
   try simp only [Act.put, lpa, lpz, lps]
   refine tkC 1 (i := 6) (v := ?_) rfl (by kernel_rfl) HAB (Or.inl ⟨by rfl, ?_⟩) ?_
   rotate_left
   ·(intro w9 hSw; have hfact : w9.cell? ⟨w3.heap.size + 1, 1, none⟩ = some (Value.slice Ae es.length ce) := hSw.1.cell 1; clear hSw; go_simp; try with_reducible rfl)
   try simp only [Act.put, lpa, lpz, lps]
   refine wpAnyC_one (i := 7) (by kernel_rfl) rfl (fun K hK => ?_)
   go_simp
   go_at_call 44
   have hx := HPd.out
   refine (CR1.out Ae es ce cs.length _ (e0.trans hx.ext) (rE.ext (Ext_drew (Ext.refl wr))) HEL.out (by have := HCL.out; omega)).mono ?_
   rintro _ w5 ⟨v5, rfl, ho5, e5⟩
   obtain ⟨A5, c5, hv5, _⟩ := OwnI.rd ho5 (by have := HC6.out (cs.length : Int) es; omega)
   subst hv5
   have HP5 := Lib.hid (HPd.out.next e5)
   have hB5 : (30 : Nat) = 30 := rfl
   refine Shut.out hK _ _ ⟨HP5.out.box, kD _ HP5.out.ext⟩ ?_
   try simp only [Act.put, lpa, lpz, lps]
   refine wpAnyC_one (i := 8) (by kernel_rfl) rfl (fun K hK => ?_)
   refine step_appR rfl (.tmp 25) (.tmp 31) _ rfl E_ins W0 _ w5 _ cs (ruleC ds[k] (cs.length : Int) es) rfl HP5.out.oc HP5.out.ext A5 c5 rfl ho5 rfl (by have := HC6.out (cs.length : Int) es; have := HCL.out; omega) ?_
   intro v7 w7 ho7 he7 hv7 hg7
   obtain ⟨A7, n7, c7, hv7'⟩ := Own.slice ho7
   subst hv7'
   have q0 : _ = some (Value.slice Ac cs.length cc) := (HP5.out.box.moved hg7 HP5.out.n1).cell 0
   have q0f := (HP5.out.box.moved hg7 HP5.out.n1).free 0
   refine Shut.out hK _ _ trivial ?_
   try simp only [Act.put, lpa, lpz, lps]
   refine wpAnyC_one (i := 9) (by kernel_rfl) rfl (fun K hK => ?_)
   go_simp
   refine Shut.out hK _ _ trivial ?_
   try simp only [Act.put, lpa, lpz, lps]
   refine wpAnyC_one (i := 10) (by kernel_rfl) rfl (fun K hK => ?_)
   go_simp
   refine Shut.out hK _ _ trivial ?_
   try simp only [Act.put, lpa, lpz, lps]
   refine wpAnyC_done (by kernel_rfl) ?_ _
   have z1 : _ = some (Value.slice Ae es.length ce) := (HP5.out.box.moved hg7 HP5.out.n1).cell 1
   have HP7 := Lib.hid (HP5.out.appC ho7 he7 hv7 hg7)
   rw [show cs ++ ruleC ds[k] (cs.length : Int) es = (compN ds (k + 1)).1 by rw [HSC.out]] at HP7
   clear HP5 ho7 he7 hv7 hg7 HAB HPd hP b0 b1 q0 q0f kd hbx
   have HP8 := Lib.hid (HP7.out.next (Ext_alloc (.cells #[.int .i64 (cs.length : Int)] 3) (Ext.refl _)))
   have HBD : Hid ((es.length + [(cs.length : Int)].length) * 8 ≤ 140737488355328) := by show _ ≤ _; have := HEL.out; simp; omega
   go_wp2_with (first
    | (at_builtin; go_must (refine wpList_appNB rfl (.tmp 35) (.tmp 37) _ rfl E_int (by omega) W0 _ vint (fun _ => rfl) _ rfl _ _ _ rfl (by simp) es [(cs.length : Int)] _ rfl HP7.out.oe HP7.out.ext rfl HBD.out ?_); intro v9 w9 ho9 he9 hv9 hg9; obtain ⟨A9, n9, c9, hv9'⟩ := Own.slice ho9; subst hv9'; have q1 : _ = some (Value.slice Ae es.length ce) := (HP8.out.box.moved hg9 HP8.out.n2).cell 1; have q1f := (HP8.out.box.moved hg9 HP8.out.n2).free 1))
   have HP9 := Lib.hid (HP8.out.appE ho9 he9 hv9 hg9)
   rw [show es ++ [(cs.length : Int)] = (compN ds (k + 1)).2 by rw [HSC.out]] at HP9
   clear HP8 HP7 ho9 he9 hv9 hg9 HBD HSC z1 q1 q1f
   go_roundw
   case rel => exact ⟨k + 1, _, _, by omega, by go_num, HP9.out⟩
   case measure => simp [intOf]; omega
  ·obtain rfl : k = ds.length := by omega
   obtain ⟨t, ht⟩ := compN_head ds ds.length
   have hoc := hP.out.oc
   obtain ⟨gc, cap, hvc'⟩ := hoc.shape (by rw [ht]; simp)
   subst hve
   have hes0 : 0 < (compN ds ds.length).2.length := by omega
   obtain ⟨be, oe, hAe, hbe, hce⟩ := rE.at ((compN ds ds.length).2.length - 1) (by omega)
   have hgd : (compN ds ds.length).2[(compN ds ds.length).2.length - 1]'(by omega) = (compN ds ds.length).2.getLastD 0 := by
    rw [List.getLastD_eq_getLast?, List.getLast?_eq_getElem?, List.getElem?_eq_getElem (by omega)]; rfl
   rw [hgd] at hce
   clear hvc hgd
   subst hvc'; subst hAe
   have HT : Hid ((compN ds ds.length).1.set 0 (9, (compN ds ds.length).2.getLastD 0, 0) = (9, (compN ds ds.length).2.getLastD 0, 0) :: t) := by show _ = _; rw [ht]; rfl
   have HPt : Hid (PSt W0 wr (w3.heap.size + 1) (.slice (some ⟨gc, 0, none⟩) (compN ds ds.length).1.length cap) (.slice (some ⟨be, oe, none⟩) (compN ds ds.length).2.length ce) ((9, 0, 0) :: t) (compN ds ds.length).2) := by rw [← ht]; exact hP.out
   have HCP : (0 : Int) < ((compN ds ds.length).1.length : Int) := by rw [ht]; simp
   have HCT : Hid ((compN ds ds.length).1.length = t.length + 1) := by show _ = _; rw [ht]; rfl
   have hce' : ∀ w', Ext wr w' → w'.cell? ⟨be, oe + ((compN ds ds.length).2.length - 1), none⟩ = some (.int .i64 ((compN ds ds.length).2.getLastD 0)) := hce
   have HEX := Lib.hid (hP.out.oe)
   clear hP ht hce hcl
   generalize hgd : (compN ds ds.length).2.getLastD 0 = last at *
   generalize hcs : (compN ds ds.length).1 = cs at *
   generalize hes : (compN ds ds.length).2 = es at *
   have hel' : (es.length : Int) ≤ 24 := by omega
   have hx1 := hce'
   have b0' : ∀ w', Ext wr w' → w'.cell? ⟨w3.heap.size + 1, 0, none⟩ = some (Value.slice (some ⟨gc, 0, none⟩) cs.length cap) := fun w' e => (hbx.ext e).cell 0
   have b1' : ∀ w', Ext wr w' → w'.cell? ⟨w3.heap.size + 1, 1, none⟩ = some (Value.slice (some ⟨be, oe, none⟩) es.length ce) := fun w' e => (hbx.ext e).cell 1
   have hi0 : (0 : Int) ≤ (es.length : Int) - 1 := by omega
   have hi1 : (es.length : Int) - 1 < (es.length : Int) := by omega
   have hi2 : ((es.length : Int) - 1).toNat = es.length - 1 := by omega
   have hfin : Hid ((9, last, 0) :: t = (compD ds).1 ∧ es = (compD ds).2) := by
    refine ⟨?_, ?_⟩
    ·rw [HC.out, ← HT.out]
    ·rw [HC.out]
   have hiw : IntKind.i64.wrap ((es.length : Int) - 1) = (es.length : Int) - 1 := IntWalk.i64_in _ (by omega)
   clear hgd hcs hes hce' b0 b1 hbx hel HT HLN HR60 HEN HSUC CR HC rE hlt
   go_wp2_with fail
   refine region_qtail_below 12 (by kernel_rfl) (by kernel_rfl) ?_
   simp only [List.take_succ_cons, List.take_zero, List.drop_succ_cons, List.drop_zero]
   repeat (go_big_quiet_step (fail))
   refine wpQuiet_nil ?_
   rintro w5 ⟨⟨nq, osq⟩, hq⟩
   have e5 := ext_of_q hq
   clear hq nq osq hiw hi0 hi1 hi2 hx1
   have HP5 := Lib.hid (HPt.out.next e5)
   have hoc5 := HP5.out.oc
   rw [HCT.out] at hoc5
   obtain ⟨⟨u1, hu1⟩, hf1⟩ := Own.slot hoc5 1 (by rw [icells_len]; simp; omega)
   clear hoc5
   have HP6 := Lib.hid (HP5.out.set0 last)
   have z0 : _ = some (Value.slice (some ⟨gc, 0, none⟩) cs.length cap) := HP5.out.box.cell 0
   have z1 : _ = some (Value.slice (some ⟨be, oe, none⟩) es.length ce) := HP5.out.box.cell 1
   have hgne : gc ≠ w3.heap.size + 1 := fun hh => HP5.out.n1 (by rw [hh]; rfl)
   have hgne' : w3.heap.size + 1 ≠ gc := fun hh => hgne hh.symm
   have hglo : w.heap.size + 2 ≤ gc := by have := (World.ownsRow.lt HP5.out.oc gc rfl).1; rw [HSZ.out] at this; exact this
   have hgn2 : gc ≠ w.heap.size + 1 := by omega
   have hgn3 : w.heap.size + 1 ≠ gc := by omega
   have br := HBR.out.ext HP5.out.ext
   have r2 := br.cell; have f2 := br.free
   have hlo3 : w.heap.size + 1 ≠ w3.heap.size + 1 := by have := HP5.out.lo; rw [HSZ.out] at this; omega
   go_wp2
   refine bodyPost_ret (v := .agg #[.slice (some ⟨gc, 0, none⟩) cs.length cap, .slice (some ⟨be, oe, none⟩) es.length ce]) (by simp [results, Tryz.results21, go_sem, r2, f2, hgn2, hgn3]) rfl ?_
   obtain ⟨hf1, hf2⟩ := hfin.out
   have nv : (Value.slice (some ⟨gc, 0, none⟩) cs.length cap).ownBlock ≠ some (w.heap.size + 1) := some_ne hgn2
   have ne2 := OwnL.far HP6.out.oe (b := w.heap.size + 1) (.inl (by rw [HSZ.out]; omega))
   refine ⟨_, _, rfl, ?_, ?_, ((e0.trans HP6.out.ext).setCell (p := ⟨w.heap.size + 1, 0, none⟩) (by show _ ≤ _ + 1; omega) _).setCell (p := ⟨w.heap.size + 1, 1, none⟩) (by show _ ≤ _ + 1; omega) _⟩
   ·rw [← hf1]; exact OwnI.down (Own.other (Own.other HP6.out.oc ⟨w.heap.size + 1, 0, none⟩ _ nv) ⟨w.heap.size + 1, 1, none⟩ _ nv) e0.size
   ·rw [← hf2]; exact OwnL.down (OwnL.other (OwnL.other HP6.out.oe ⟨w.heap.size + 1, 0, none⟩ _ ne2) ⟨w.heap.size + 1, 1, none⟩ _ ne2) e0.size
structure KB (X : Nat → Prop) (W0 : World) (p : Nat) (dv : Value) (st : Int) (ev : Value) (w : World) (vc : Value) (l : List Ins) : Prop where
 lo : W0.heap.size ≤ p
 box : Box w p #[dv, .int .i64 st, ev, vc] 139
 oc : OwnI W0 w vc l
 n1 : vc.ownBlock ≠ some p
 xp : ¬ X p
 xc : ∀ b, vc.ownBlock = some b → ¬ X b
 low : ∀ k, X k → k < w.heap.size
 ext : Ext W0 w
def KV (X : Nat → Prop) (W0 : World) (p : Nat) (dv : Value) (st : Int) (ev : Value) (w : World) (l : List Ins) : Prop := ∃ vc, KB X W0 p dv st ev w vc l
section
variable {X : Nat → Prop} {W0 w w' : World} {p : Nat} {dv : Value} {st : Int} {ev vc : Value} {l : List Ins}
theorem KB.next (h : KB X W0 p dv st ev w vc l) (e : Ext w w') : KB X W0 p dv st ev w' vc l :=
 ⟨h.lo, h.box.ext e, h.oc.ext e, h.n1, h.xp, h.xc, fun k hk => Nat.lt_of_lt_of_le (h.low k hk) e.size, h.ext.trans e⟩
theorem KV.weak {Y : Nat → Prop} (h : KV X W0 p dv st ev w l) (hY : ∀ k, Y k → X k) : KV Y W0 p dv st ev w l :=
 let ⟨vc, h⟩ := h; ⟨vc, h.lo, h.box, h.oc, h.n1, fun hx => h.xp (hY _ hx), fun b hb hx => h.xc b hb (hY _ hx), fun k hk => h.low k (hY k hk), h.ext⟩
theorem KB.guard (h : KB X W0 p dv st ev w vc l) (o : Obj) : KB (fun k => X k ∨ k = w.heap.size) W0 p dv st ev (w.alloc o) vc l := by
 have h1 := h.next (Ext_alloc o (Ext.refl w))
 have hp := h.box.lt
 refine ⟨h1.lo, h1.box, h1.oc, h1.n1, ?_, ?_, ?_, h1.ext⟩
 ·rintro (hx | hx)
  ·exact h.xp hx
  ·omega
 ·rintro b hb (hx | hx)
  ·exact h.xc b hb hx
  ·have := (World.ownsRow.lt h.oc b hb).2; omega
 ·rintro k (hx | hx)
  ·have := h.low k hx; simp; omega
  ·simp; omega
theorem KB.app {v' : Value} {l' : List Ins} (h : KB X W0 p dv st ev w vc l) (ho : OwnI W0 w' v' l') (he : Ext W0 w') (hv : v'.ownBlock = vc.ownBlock ∨ v'.ownBlock = some w.heap.size) (hg : w.grownBy w' vc.ownBlock) :
 KB X W0 p dv st ev (w'.setCell ⟨p, 3, none⟩ v') v' l' := by
 have hl := h.box.lt
 have n1' : v'.ownBlock ≠ some p := by
  rcases hv with hv | hv
  ·rw [hv]; exact h.n1
  ·rw [hv]; intro hh; injection hh with hh; omega
 refine ⟨h.lo, ?_, Own.other ho _ _ n1', n1', h.xp, ?_, fun k hk => by have := h.low k hk; have := hg.size; simp; omega, he.setCell (p := ⟨p, 3, none⟩) h.lo v'⟩
 ·have := (h.box.moved hg h.n1).set 3 v'; exact this
 ·intro b hb
  rcases hv with hv | hv
  ·exact h.xc b (hv ▸ hb)
  ·rw [hv] at hb; injection hb with hb; subst hb
   intro hh; have := h.low _ hh; omega
end
theorem iAdd_c (X : Nat → Prop) (W0 : World) (p : Nat) (dv : Value) (st : Int) (ev : Value) (l : List Ins) (o a b : Int) (w : World) (h : KV X W0 p dv st ev w l) (hl : l.length ≤ 900000) :
 Calls Tryz.prog 110 #[.pointer (some ⟨p, 0, none⟩), .int .i64 o, .int .i64 a, .int .i64 b] w fun e w' => e = .returned (.tuple #[]) ∧ (∃ l' : List Ins, l'.length = l.length + 1 ∧ KV X W0 p dv st ev w' l') ∧ MR X w w' := by
 obtain ⟨vc, hb⟩ := h
 obtain ⟨A, c, hvc, _⟩ := OwnI.rd hb.oc (by omega)
 subst hvc
 have r3 : w.cell? ⟨p, 3, none⟩ = some (.slice A l.length c) := hb.box.cell 3
 have e1 := Ext_alloc (.cells #[.int .i64 o, .int .i64 a, .int .i64 b] 79) (Ext.refl w)
 have HB1 := Lib.hid (hb.next e1)
 have HM1 : Hid (MR X w (w.alloc (.cells #[.int .i64 o, .int .i64 a, .int .i64 b] 79))) := MR.alloc _ hb.low
 have HO := Lib.hid hb.oc; have HE := Lib.hid hb.ext
 have HBD : Hid (l.length + 1 ≤ 1000000) := by show _ ≤ _; omega
 clear hb
 go_enter Tryz.func110, Tryz.ntmps110
 go_wp2_with (first
  | (at_builtin; go_must (refine wpList_appIE rfl (.tmp 12) (.tmp 17) _ rfl E_ins W0 w (.slice A l.length c) l [(o, a, b)] rfl HO.out HE.out _ rfl 1 1 rfl rfl rfl HBD.out ?_); intro v1 w1 ho1 he1 hv1 hg1; obtain ⟨A1, n1, c1, hv1'⟩ := Own.slice2 ho1; subst hv1'; have q3 : w1.cell? ⟨p, 3, none⟩ = some (Value.slice A l.length c) := (HB1.out.box.moved hg1 HB1.out.n1).cell 3; have q3f := (HB1.out.box.moved hg1 HB1.out.n1).free 3))
 have hv2 : (Value.slice A1 n1 c1).ownBlock = (Value.slice A l.length c).ownBlock ∨ (Value.slice A1 n1 c1).ownBlock = some (w.alloc (.cells #[.int .i64 o, .int .i64 a, .int .i64 b] 79)).heap.size := by
  rcases hv1 with hv | hv
  ·exact .inl hv
  ·right; rw [hv]; simp
 have HP := Lib.hid (HB1.out.app ho1 he1 hv2 hg1)
 have HRE := Lib.hid (HM1.out.trans ((MR.grown hg1 (fun b hb => HB1.out.xc b hb) HB1.out.low).trans (MR.set (i := 3) (Value.slice A1 n1 c1) HB1.out.xp)))
 first
  | exact bodyPost_end (results_none rfl _ _ _) rfl ⟨rfl, ⟨l ++ [(o, a, b)], by simp, _, HP.out⟩, HRE.out⟩
  | exact bodyPost_ret (results_none rfl _ _ _) rfl ⟨rfl, ⟨l ++ [(o, a, b)], by simp, _, HP.out⟩, HRE.out⟩
theorem iHere_c (X : Nat → Prop) (W0 : World) (p : Nat) (dv : Value) (st : Int) (ev : Value) (l : List Ins) (w : World) (h : KV X W0 p dv st ev w l) (hl : l.length ≤ 900000) :
 Gives Tryz.prog 139 #[.pointer (some ⟨p, 0, none⟩)] w (.int .i64 (wrap64 (st + (l.length : Int)))) := by
 obtain ⟨vc, hb⟩ := h
 obtain ⟨A, c, hvc, _⟩ := OwnI.rd hb.oc (by omega)
 subst hvc
 have r1 : ∀ w', Ext w w' → w'.cell? ⟨p, 1, none⟩ = some (.int .i64 st) := fun w' e => hb.box.at 1 w' e
 have r3 : ∀ w', Ext w w' → w'.cell? ⟨p, 3, none⟩ = some (.slice A l.length c) := fun w' e => hb.box.at 3 w' e
 clear hb
 go_enter Tryz.func139, Tryz.ntmps139
 go_wp2_with fail
 refine wp_region_quiet_below (by kernel_rfl) (by kernel_rfl) ?_
 repeat (go_big_quiet_step ((fail)))
 refine wpQuiet_nil ?_
 rintro w4 ⟨⟨nq, osq⟩, hq⟩
 have ew4 := ext_of_q hq
 clear hq nq osq
 go_wp2
 go_ret
 exact ⟨rfl, ew4⟩
theorem iCall_c (X : Nat → Prop) (W0 : World) (p : Nat) (dv : Value) (st : Int) (Ae : Option Addr) (es : List Int) (ce : Nat) (l : List Ins) (k : Nat) (w : World) (h : KV X W0 p dv st (.slice Ae es.length ce) w l) (hl : l.length ≤ 900000) (hE : Is W0 Ae es ce) (hk : k < es.length) :
 Calls Tryz.prog 138 #[.pointer (some ⟨p, 0, none⟩), .int .i64 (k : Int)] w fun e w' => e = .returned (.tuple #[]) ∧ (∃ l' : List Ins, l'.length = l.length + 1 ∧ KV X W0 p dv st (.slice Ae es.length ce) w' l') ∧ MR X w w' := by
 have C := Lib.hid (fun a => iAdd_c X W0 p dv st (.slice Ae es.length ce) l 9 a 0 w h hl)
 obtain ⟨vc, hb⟩ := h
 have r2 : w.cell? ⟨p, 2, none⟩ = some (.slice Ae es.length ce) := hb.box.cell 2
 obtain ⟨g, off, hA, _, hc⟩ := hE.at k hk
 have hc1 := hc w hb.ext
 subst hA
 have hki : (k : Int) < (es.length : Int) := by omega
 generalize es[k] = y at *
 clear hb hc
 go_enter Tryz.func138, Tryz.ntmps138
 go_wp2_with fail
 refine (C.out y).mono ?_; rintro _ w2 ⟨rfl, hm2, hr2⟩
 go_wp2
 first
  | exact bodyPost_end (results_none rfl _ _ _) rfl ⟨rfl, hm2, hr2⟩
  | exact bodyPost_ret (results_none rfl _ _ _) rfl ⟨rfl, hm2, hr2⟩
theorem iC_integer (X : Nat → Prop) (W0 : World) (p : Nat) (dv : Value) (st : Int) (Ae : Option Addr) (es : List Int) (ce : Nat) (l : List Ins) (r : DRule) (Ab : Option Addr) (cb : Nat) (An : Option Addr) (cn : Nat) (At : Option Addr) (ct : Nat) (Ak : Option Addr) (ck : Nat) (w : World) (h : KV X W0 p dv st (.slice Ae es.length ce) w l) (hl : l.length ≤ 800000) (hS : RdS W0 r Ab cb An cn At ct Ak ck) (hE : Is W0 Ae es ce) (hk : ∀ t (ht : t < r.kids.length), ∃ k : Nat, k < es.length ∧ r.kids[t] = (k : Int)) :
 Calls Tryz.prog 100 #[.pointer (some ⟨p, 0, none⟩), .agg #[.string r.nm, .int .i64 r.kind, .int .i64 r.size, .bool r.little, .slice Ab r.bytes.length cb, .slice An r.names.length cn, .slice At r.tags.length ct, .slice Ak r.kids.length ck]] w fun e w' => e = .returned (.tuple #[]) ∧ (∃ l' : List Ins, l'.length ≤ l.length + 59 ∧ KV X W0 p dv st (.slice Ae es.length ce) w' l') ∧ MR X w w' := by
 obtain ⟨vc, hb⟩ := h
 obtain ⟨W1, hW1⟩ : ∃ W, Hid (W = w.alloc (.cells #[.string r.nm, .int .i64 r.kind, .int .i64 r.size, .bool r.little, .slice Ab r.bytes.length cb, .slice An r.names.length cn, .slice At r.tags.length ct, .slice Ak r.kids.length ck] 96)) := ⟨_, rfl⟩
 have e1 : Ext w W1 := ka hW1
 have HK1 : Hid (KV (fun k => X k ∨ k = w.heap.size) W0 p dv st (.slice Ae es.length ce) W1 l) := by show KV _ _ _ _ _ _ _ _; rw [hW1.out]; exact ⟨_, hb.guard _⟩
 have HR1 : Hid (MR X w W1) := MR.of_ext e1 hb.low
 have HX1 : Hid (MR (fun k => X k ∨ k = w.heap.size) W1 W1) := MR.refl _ _
 have HG1 : Hid (Box W1 w.heap.size #[.string r.nm, .int .i64 r.kind, .int .i64 r.size, .bool r.little, .slice Ab r.bytes.length cb, .slice An r.names.length cn, .slice At r.tags.length ct, .slice Ak r.kids.length ck] 96) := by rw [hW1.out]; exact Box.new _ _ _
 have HXW : Hid (∀ k, X k → X k ∨ k = w.heap.size) := fun k hk => .inl hk
 have CA := Lib.hid (fun l o a b w' h hl => iAdd_c (fun k => X k ∨ k = w.heap.size) W0 p dv st (.slice Ae es.length ce) l o a b w' h hl)
 have CK := Lib.hid (fun l k w' h hl hk => iCall_c (fun k => X k ∨ k = w.heap.size) W0 p dv st Ae es ce l k w' h hl hE hk)
 have CH := Lib.hid (fun l w' h hl => iHere_c (fun k => X k ∨ k = w.heap.size) W0 p dv st (.slice Ae es.length ce) l w' h hl)
 have HKS : Hid (∀ t (ht : t < r.kids.length), ∃ g off, Ak = some ⟨g, off, none⟩ ∧ ∀ w', Ext W0 w' → w'.cell? ⟨g, off + t, none⟩ = some (.int .i64 r.kids[t])) := fun t ht => let ⟨g, off, h1, _, h3⟩ := hS.k.at t ht; ⟨g, off, h1, h3⟩
 have hkl := hS.k.len; have hkc := hS.k.cap
 have HL := Lib.hid hl; have HS := Lib.hid hS; have HKK := Lib.hid hk
 clear hb e1 hE hl hS hk
 rcases Bool.eq_false_or_eq_true r.little with hlt0 | hlt0
 ·have HLT := Lib.hid hlt0
  clear hlt0
  go_enter Tryz.func100, Tryz.ntmps100
  go_upto_region 1 with (fail)
  rw [← hW1.out]
  clear hW1
  have g12 : ∀ w', Ext W1 w' → w'.cell? ⟨w.heap.size, 2, none⟩ = some (.int .i64 r.size) := fun w' e => HG1.out.at 2 w' e
  have g13 : ∀ w', Ext W1 w' → w'.cell? ⟨w.heap.size, 3, none⟩ = some (.bool r.little) := fun w' e => HG1.out.at 3 w' e
  have g14 : ∀ w', Ext W1 w' → w'.cell? ⟨w.heap.size, 4, none⟩ = some (.slice Ab r.bytes.length cb) := fun w' e => HG1.out.at 4 w' e
  have g16 : ∀ w', Ext W1 w' → w'.cell? ⟨w.heap.size, 6, none⟩ = some (.slice At r.tags.length ct) := fun w' e => HG1.out.at 6 w' e
  have g17 : ∀ w', Ext W1 w' → w'.cell? ⟨w.heap.size, 7, none⟩ = some (.slice Ak r.kids.length ck) := fun w' e => HG1.out.at 7 w' e
  simp only [HLT.out] at g13
  go_wp2_with fail
  refine (CA.out l 1 r.size 1 _ HK1.out (by have := HL.out; omega)).mono ?_; rintro _ w2 ⟨rfl, ⟨l2, hl2, hm2⟩, hr2⟩
  have HK2 := Lib.hid hm2; have HX2 := Lib.hid (HX1.out.trans hr2)
  have HG2 : Hid (Box w2 w.heap.size #[.string r.nm, .int .i64 r.kind, .int .i64 r.size, .bool r.little, .slice Ab r.bytes.length cb, .slice An r.names.length cn, .slice At r.tags.length ct, .slice Ak r.kids.length ck] 96) := (hr2.kept _ (.inr rfl)).trans HG1.out
  clear hm2 hr2 g12 g13 g14 g16 g17
  have g22 : ∀ w', Ext w2 w' → w'.cell? ⟨w.heap.size, 2, none⟩ = some (.int .i64 r.size) := fun w' e => HG2.out.at 2 w' e
  have g23 : ∀ w', Ext w2 w' → w'.cell? ⟨w.heap.size, 3, none⟩ = some (.bool r.little) := fun w' e => HG2.out.at 3 w' e
  have g24 : ∀ w', Ext w2 w' → w'.cell? ⟨w.heap.size, 4, none⟩ = some (.slice Ab r.bytes.length cb) := fun w' e => HG2.out.at 4 w' e
  have g26 : ∀ w', Ext w2 w' → w'.cell? ⟨w.heap.size, 6, none⟩ = some (.slice At r.tags.length ct) := fun w' e => HG2.out.at 6 w' e
  have g27 : ∀ w', Ext w2 w' → w'.cell? ⟨w.heap.size, 7, none⟩ = some (.slice Ak r.kids.length ck) := fun w' e => HG2.out.at 7 w' e
  go_wp2
  first
   | exact bodyPost_end (results_none rfl _ _ _) rfl ⟨rfl, ⟨l2, by omega, HK2.out.weak HXW.out⟩, HR1.out.trans (HX2.out.weak HXW.out)⟩
   | exact bodyPost_ret (results_none rfl _ _ _) rfl ⟨rfl, ⟨l2, by omega, HK2.out.weak HXW.out⟩, HR1.out.trans (HX2.out.weak HXW.out)⟩
 ·have HLT := Lib.hid hlt0
  clear hlt0
  go_enter Tryz.func100, Tryz.ntmps100
  go_upto_region 1 with (fail)
  rw [← hW1.out]
  clear hW1
  have g12 : ∀ w', Ext W1 w' → w'.cell? ⟨w.heap.size, 2, none⟩ = some (.int .i64 r.size) := fun w' e => HG1.out.at 2 w' e
  have g13 : ∀ w', Ext W1 w' → w'.cell? ⟨w.heap.size, 3, none⟩ = some (.bool r.little) := fun w' e => HG1.out.at 3 w' e
  have g14 : ∀ w', Ext W1 w' → w'.cell? ⟨w.heap.size, 4, none⟩ = some (.slice Ab r.bytes.length cb) := fun w' e => HG1.out.at 4 w' e
  have g16 : ∀ w', Ext W1 w' → w'.cell? ⟨w.heap.size, 6, none⟩ = some (.slice At r.tags.length ct) := fun w' e => HG1.out.at 6 w' e
  have g17 : ∀ w', Ext W1 w' → w'.cell? ⟨w.heap.size, 7, none⟩ = some (.slice Ak r.kids.length ck) := fun w' e => HG1.out.at 7 w' e
  simp only [HLT.out] at g13
  go_wp2_with fail
  refine (CA.out l 1 r.size 0 _ HK1.out (by have := HL.out; omega)).mono ?_; rintro _ w2 ⟨rfl, ⟨l2, hl2, hm2⟩, hr2⟩
  have HK2 := Lib.hid hm2; have HX2 := Lib.hid (HX1.out.trans hr2)
  have HG2 : Hid (Box w2 w.heap.size #[.string r.nm, .int .i64 r.kind, .int .i64 r.size, .bool r.little, .slice Ab r.bytes.length cb, .slice An r.names.length cn, .slice At r.tags.length ct, .slice Ak r.kids.length ck] 96) := (hr2.kept _ (.inr rfl)).trans HG1.out
  clear hm2 hr2 g12 g13 g14 g16 g17
  have g22 : ∀ w', Ext w2 w' → w'.cell? ⟨w.heap.size, 2, none⟩ = some (.int .i64 r.size) := fun w' e => HG2.out.at 2 w' e
  have g23 : ∀ w', Ext w2 w' → w'.cell? ⟨w.heap.size, 3, none⟩ = some (.bool r.little) := fun w' e => HG2.out.at 3 w' e
  have g24 : ∀ w', Ext w2 w' → w'.cell? ⟨w.heap.size, 4, none⟩ = some (.slice Ab r.bytes.length cb) := fun w' e => HG2.out.at 4 w' e
  have g26 : ∀ w', Ext w2 w' → w'.cell? ⟨w.heap.size, 6, none⟩ = some (.slice At r.tags.length ct) := fun w' e => HG2.out.at 6 w' e
  have g27 : ∀ w', Ext w2 w' → w'.cell? ⟨w.heap.size, 7, none⟩ = some (.slice Ak r.kids.length ck) := fun w' e => HG2.out.at 7 w' e
  go_wp2
  first
   | exact bodyPost_end (results_none rfl _ _ _) rfl ⟨rfl, ⟨l2, by omega, HK2.out.weak HXW.out⟩, HR1.out.trans (HX2.out.weak HXW.out)⟩
   | exact bodyPost_ret (results_none rfl _ _ _) rfl ⟨rfl, ⟨l2, by omega, HK2.out.weak HXW.out⟩, HR1.out.trans (HX2.out.weak HXW.out)⟩
theorem iC_fixed (X : Nat → Prop) (W0 : World) (p : Nat) (dv : Value) (st : Int) (Ae : Option Addr) (es : List Int) (ce : Nat) (l : List Ins) (r : DRule) (Ab : Option Addr) (cb : Nat) (An : Option Addr) (cn : Nat) (At : Option Addr) (ct : Nat) (Ak : Option Addr) (ck : Nat) (w : World) (h : KV X W0 p dv st (.slice Ae es.length ce) w l) (hl : l.length ≤ 800000) (hS : RdS W0 r Ab cb An cn At ct Ak ck) (hE : Is W0 Ae es ce) (hk : ∀ t (ht : t < r.kids.length), ∃ k : Nat, k < es.length ∧ r.kids[t] = (k : Int)) :
 Calls Tryz.prog 102 #[.pointer (some ⟨p, 0, none⟩), .agg #[.string r.nm, .int .i64 r.kind, .int .i64 r.size, .bool r.little, .slice Ab r.bytes.length cb, .slice An r.names.length cn, .slice At r.tags.length ct, .slice Ak r.kids.length ck]] w fun e w' => e = .returned (.tuple #[]) ∧ (∃ l' : List Ins, l'.length ≤ l.length + 59 ∧ KV X W0 p dv st (.slice Ae es.length ce) w' l') ∧ MR X w w' := by
 obtain ⟨vc, hb⟩ := h
 obtain ⟨W1, hW1⟩ : ∃ W, Hid (W = w.alloc (.cells #[.string r.nm, .int .i64 r.kind, .int .i64 r.size, .bool r.little, .slice Ab r.bytes.length cb, .slice An r.names.length cn, .slice At r.tags.length ct, .slice Ak r.kids.length ck] 96)) := ⟨_, rfl⟩
 have e1 : Ext w W1 := ka hW1
 have HK1 : Hid (KV (fun k => X k ∨ k = w.heap.size) W0 p dv st (.slice Ae es.length ce) W1 l) := by show KV _ _ _ _ _ _ _ _; rw [hW1.out]; exact ⟨_, hb.guard _⟩
 have HR1 : Hid (MR X w W1) := MR.of_ext e1 hb.low
 have HX1 : Hid (MR (fun k => X k ∨ k = w.heap.size) W1 W1) := MR.refl _ _
 have HG1 : Hid (Box W1 w.heap.size #[.string r.nm, .int .i64 r.kind, .int .i64 r.size, .bool r.little, .slice Ab r.bytes.length cb, .slice An r.names.length cn, .slice At r.tags.length ct, .slice Ak r.kids.length ck] 96) := by rw [hW1.out]; exact Box.new _ _ _
 have HXW : Hid (∀ k, X k → X k ∨ k = w.heap.size) := fun k hk => .inl hk
 have CA := Lib.hid (fun l o a b w' h hl => iAdd_c (fun k => X k ∨ k = w.heap.size) W0 p dv st (.slice Ae es.length ce) l o a b w' h hl)
 have CK := Lib.hid (fun l k w' h hl hk => iCall_c (fun k => X k ∨ k = w.heap.size) W0 p dv st Ae es ce l k w' h hl hE hk)
 have CH := Lib.hid (fun l w' h hl => iHere_c (fun k => X k ∨ k = w.heap.size) W0 p dv st (.slice Ae es.length ce) l w' h hl)
 have HKS : Hid (∀ t (ht : t < r.kids.length), ∃ g off, Ak = some ⟨g, off, none⟩ ∧ ∀ w', Ext W0 w' → w'.cell? ⟨g, off + t, none⟩ = some (.int .i64 r.kids[t])) := fun t ht => let ⟨g, off, h1, _, h3⟩ := hS.k.at t ht; ⟨g, off, h1, h3⟩
 have hkl := hS.k.len; have hkc := hS.k.cap
 have HL := Lib.hid hl; have HS := Lib.hid hS; have HKK := Lib.hid hk
 clear hb e1 hE hl hS hk
 go_enter Tryz.func102, Tryz.ntmps102
 go_upto_region 1 with (fail)
 rw [← hW1.out]
 clear hW1
 have g12 : ∀ w', Ext W1 w' → w'.cell? ⟨w.heap.size, 2, none⟩ = some (.int .i64 r.size) := fun w' e => HG1.out.at 2 w' e
 have g13 : ∀ w', Ext W1 w' → w'.cell? ⟨w.heap.size, 3, none⟩ = some (.bool r.little) := fun w' e => HG1.out.at 3 w' e
 have g14 : ∀ w', Ext W1 w' → w'.cell? ⟨w.heap.size, 4, none⟩ = some (.slice Ab r.bytes.length cb) := fun w' e => HG1.out.at 4 w' e
 have g16 : ∀ w', Ext W1 w' → w'.cell? ⟨w.heap.size, 6, none⟩ = some (.slice At r.tags.length ct) := fun w' e => HG1.out.at 6 w' e
 have g17 : ∀ w', Ext W1 w' → w'.cell? ⟨w.heap.size, 7, none⟩ = some (.slice Ak r.kids.length ck) := fun w' e => HG1.out.at 7 w' e
 go_wp2_with fail
 refine (CA.out l 3 r.size 0 _ HK1.out (by have := HL.out; omega)).mono ?_; rintro _ w2 ⟨rfl, ⟨l2, hl2, hm2⟩, hr2⟩
 have HK2 := Lib.hid hm2; have HX2 := Lib.hid (HX1.out.trans hr2)
 have HG2 : Hid (Box w2 w.heap.size #[.string r.nm, .int .i64 r.kind, .int .i64 r.size, .bool r.little, .slice Ab r.bytes.length cb, .slice An r.names.length cn, .slice At r.tags.length ct, .slice Ak r.kids.length ck] 96) := (hr2.kept _ (.inr rfl)).trans HG1.out
 clear hm2 hr2 g12 g13 g14 g16 g17
 have g22 : ∀ w', Ext w2 w' → w'.cell? ⟨w.heap.size, 2, none⟩ = some (.int .i64 r.size) := fun w' e => HG2.out.at 2 w' e
 have g23 : ∀ w', Ext w2 w' → w'.cell? ⟨w.heap.size, 3, none⟩ = some (.bool r.little) := fun w' e => HG2.out.at 3 w' e
 have g24 : ∀ w', Ext w2 w' → w'.cell? ⟨w.heap.size, 4, none⟩ = some (.slice Ab r.bytes.length cb) := fun w' e => HG2.out.at 4 w' e
 have g26 : ∀ w', Ext w2 w' → w'.cell? ⟨w.heap.size, 6, none⟩ = some (.slice At r.tags.length ct) := fun w' e => HG2.out.at 6 w' e
 have g27 : ∀ w', Ext w2 w' → w'.cell? ⟨w.heap.size, 7, none⟩ = some (.slice Ak r.kids.length ck) := fun w' e => HG2.out.at 7 w' e
 go_wp2
 first
  | exact bodyPost_end (results_none rfl _ _ _) rfl ⟨rfl, ⟨l2, by omega, HK2.out.weak HXW.out⟩, HR1.out.trans (HX2.out.weak HXW.out)⟩
  | exact bodyPost_ret (results_none rfl _ _ _) rfl ⟨rfl, ⟨l2, by omega, HK2.out.weak HXW.out⟩, HR1.out.trans (HX2.out.weak HXW.out)⟩
theorem iC_sized (X : Nat → Prop) (W0 : World) (p : Nat) (dv : Value) (st : Int) (Ae : Option Addr) (es : List Int) (ce : Nat) (l : List Ins) (r : DRule) (Ab : Option Addr) (cb : Nat) (An : Option Addr) (cn : Nat) (At : Option Addr) (ct : Nat) (Ak : Option Addr) (ck : Nat) (w : World) (h : KV X W0 p dv st (.slice Ae es.length ce) w l) (hl : l.length ≤ 800000) (hS : RdS W0 r Ab cb An cn At ct Ak ck) (hE : Is W0 Ae es ce) (hk : ∀ t (ht : t < r.kids.length), ∃ k : Nat, k < es.length ∧ r.kids[t] = (k : Int)) (hn : r.kids.length = 1) :
 Calls Tryz.prog 103 #[.pointer (some ⟨p, 0, none⟩), .agg #[.string r.nm, .int .i64 r.kind, .int .i64 r.size, .bool r.little, .slice Ab r.bytes.length cb, .slice An r.names.length cn, .slice At r.tags.length ct, .slice Ak r.kids.length ck]] w fun e w' => e = .returned (.tuple #[]) ∧ (∃ l' : List Ins, l'.length ≤ l.length + 59 ∧ KV X W0 p dv st (.slice Ae es.length ce) w' l') ∧ MR X w w' := by
 obtain ⟨vc, hb⟩ := h
 obtain ⟨W1, hW1⟩ : ∃ W, Hid (W = w.alloc (.cells #[.string r.nm, .int .i64 r.kind, .int .i64 r.size, .bool r.little, .slice Ab r.bytes.length cb, .slice An r.names.length cn, .slice At r.tags.length ct, .slice Ak r.kids.length ck] 96)) := ⟨_, rfl⟩
 have e1 : Ext w W1 := ka hW1
 have HK1 : Hid (KV (fun k => X k ∨ k = w.heap.size) W0 p dv st (.slice Ae es.length ce) W1 l) := by show KV _ _ _ _ _ _ _ _; rw [hW1.out]; exact ⟨_, hb.guard _⟩
 have HR1 : Hid (MR X w W1) := MR.of_ext e1 hb.low
 have HX1 : Hid (MR (fun k => X k ∨ k = w.heap.size) W1 W1) := MR.refl _ _
 have HG1 : Hid (Box W1 w.heap.size #[.string r.nm, .int .i64 r.kind, .int .i64 r.size, .bool r.little, .slice Ab r.bytes.length cb, .slice An r.names.length cn, .slice At r.tags.length ct, .slice Ak r.kids.length ck] 96) := by rw [hW1.out]; exact Box.new _ _ _
 have HXW : Hid (∀ k, X k → X k ∨ k = w.heap.size) := fun k hk => .inl hk
 have CA := Lib.hid (fun l o a b w' h hl => iAdd_c (fun k => X k ∨ k = w.heap.size) W0 p dv st (.slice Ae es.length ce) l o a b w' h hl)
 have CK := Lib.hid (fun l k w' h hl hk => iCall_c (fun k => X k ∨ k = w.heap.size) W0 p dv st Ae es ce l k w' h hl hE hk)
 have CH := Lib.hid (fun l w' h hl => iHere_c (fun k => X k ∨ k = w.heap.size) W0 p dv st (.slice Ae es.length ce) l w' h hl)
 have HKS : Hid (∀ t (ht : t < r.kids.length), ∃ g off, Ak = some ⟨g, off, none⟩ ∧ ∀ w', Ext W0 w' → w'.cell? ⟨g, off + t, none⟩ = some (.int .i64 r.kids[t])) := fun t ht => let ⟨g, off, h1, _, h3⟩ := hS.k.at t ht; ⟨g, off, h1, h3⟩
 have hkl := hS.k.len; have hkc := hS.k.cap
 have HL := Lib.hid hl; have HS := Lib.hid hS; have HKK := Lib.hid hk
 clear hb e1 hE hl hS hk
 have HN := Lib.hid hn
 have hnp : (0 : Int) < (r.kids.length : Int) := by omega
 clear hn
 go_enter Tryz.func103, Tryz.ntmps103
 go_upto_region 1 with (fail)
 rw [← hW1.out]
 clear hW1
 have g12 : ∀ w', Ext W1 w' → w'.cell? ⟨w.heap.size, 2, none⟩ = some (.int .i64 r.size) := fun w' e => HG1.out.at 2 w' e
 have g13 : ∀ w', Ext W1 w' → w'.cell? ⟨w.heap.size, 3, none⟩ = some (.bool r.little) := fun w' e => HG1.out.at 3 w' e
 have g14 : ∀ w', Ext W1 w' → w'.cell? ⟨w.heap.size, 4, none⟩ = some (.slice Ab r.bytes.length cb) := fun w' e => HG1.out.at 4 w' e
 have g16 : ∀ w', Ext W1 w' → w'.cell? ⟨w.heap.size, 6, none⟩ = some (.slice At r.tags.length ct) := fun w' e => HG1.out.at 6 w' e
 have g17 : ∀ w', Ext W1 w' → w'.cell? ⟨w.heap.size, 7, none⟩ = some (.slice Ak r.kids.length ck) := fun w' e => HG1.out.at 7 w' e
 obtain ⟨kk1, hkk1, hke1⟩ := HKK.out 0 (by have := HN.out; omega)
 obtain ⟨gk1, ok1, hAk1, hck1⟩ := HKS.out 0 (by have := HN.out; omega)
 have hkw1 : ∀ w', Ext W1 w' → w'.cell? ⟨gk1, ok1 + 0, none⟩ = some (.int .i64 (kk1 : Int)) := fun w' e => by rw [← hke1]; exact hck1 w' ((let ⟨_, h⟩ := HK1.out; h.ext).trans e)
 clear hke1 hck1
 rw [hAk1] at g17
 rw [Nat.add_zero] at hkw1
 go_wp2_with fail
 refine (CK.out l kk1 _ HK1.out (by have := HL.out; omega) hkk1).mono ?_; rintro _ w2 ⟨rfl, ⟨l2, hl2, hm2⟩, hr2⟩
 have HK2 := Lib.hid hm2; have HX2 := Lib.hid (HX1.out.trans hr2)
 have HG2 : Hid (Box w2 w.heap.size #[.string r.nm, .int .i64 r.kind, .int .i64 r.size, .bool r.little, .slice Ab r.bytes.length cb, .slice An r.names.length cn, .slice At r.tags.length ct, .slice Ak r.kids.length ck] 96) := (hr2.kept _ (.inr rfl)).trans HG1.out
 clear hm2 hr2 g12 g13 g14 g16 g17
 have g22 : ∀ w', Ext w2 w' → w'.cell? ⟨w.heap.size, 2, none⟩ = some (.int .i64 r.size) := fun w' e => HG2.out.at 2 w' e
 have g23 : ∀ w', Ext w2 w' → w'.cell? ⟨w.heap.size, 3, none⟩ = some (.bool r.little) := fun w' e => HG2.out.at 3 w' e
 have g24 : ∀ w', Ext w2 w' → w'.cell? ⟨w.heap.size, 4, none⟩ = some (.slice Ab r.bytes.length cb) := fun w' e => HG2.out.at 4 w' e
 have g26 : ∀ w', Ext w2 w' → w'.cell? ⟨w.heap.size, 6, none⟩ = some (.slice At r.tags.length ct) := fun w' e => HG2.out.at 6 w' e
 have g27 : ∀ w', Ext w2 w' → w'.cell? ⟨w.heap.size, 7, none⟩ = some (.slice Ak r.kids.length ck) := fun w' e => HG2.out.at 7 w' e
 go_wp2_with fail
 refine (CA.out l2 4 0 0 _ HK2.out (by have := HL.out; omega)).mono ?_; rintro _ w3 ⟨rfl, ⟨l3, hl3, hm3⟩, hr3⟩
 have HK3 := Lib.hid hm3; have HX3 := Lib.hid (HX2.out.trans hr3)
 have HG3 : Hid (Box w3 w.heap.size #[.string r.nm, .int .i64 r.kind, .int .i64 r.size, .bool r.little, .slice Ab r.bytes.length cb, .slice An r.names.length cn, .slice At r.tags.length ct, .slice Ak r.kids.length ck] 96) := (hr3.kept _ (.inr rfl)).trans HG2.out
 clear hm3 hr3 g22 g23 g24 g26 g27
 have g32 : ∀ w', Ext w3 w' → w'.cell? ⟨w.heap.size, 2, none⟩ = some (.int .i64 r.size) := fun w' e => HG3.out.at 2 w' e
 have g33 : ∀ w', Ext w3 w' → w'.cell? ⟨w.heap.size, 3, none⟩ = some (.bool r.little) := fun w' e => HG3.out.at 3 w' e
 have g34 : ∀ w', Ext w3 w' → w'.cell? ⟨w.heap.size, 4, none⟩ = some (.slice Ab r.bytes.length cb) := fun w' e => HG3.out.at 4 w' e
 have g36 : ∀ w', Ext w3 w' → w'.cell? ⟨w.heap.size, 6, none⟩ = some (.slice At r.tags.length ct) := fun w' e => HG3.out.at 6 w' e
 have g37 : ∀ w', Ext w3 w' → w'.cell? ⟨w.heap.size, 7, none⟩ = some (.slice Ak r.kids.length ck) := fun w' e => HG3.out.at 7 w' e
 go_wp2
 first
  | exact bodyPost_end (results_none rfl _ _ _) rfl ⟨rfl, ⟨l3, by omega, HK3.out.weak HXW.out⟩, HR1.out.trans (HX3.out.weak HXW.out)⟩
  | exact bodyPost_ret (results_none rfl _ _ _) rfl ⟨rfl, ⟨l3, by omega, HK3.out.weak HXW.out⟩, HR1.out.trans (HX3.out.weak HXW.out)⟩
theorem iC_checked (X : Nat → Prop) (W0 : World) (p : Nat) (dv : Value) (st : Int) (Ae : Option Addr) (es : List Int) (ce : Nat) (l : List Ins) (r : DRule) (Ab : Option Addr) (cb : Nat) (An : Option Addr) (cn : Nat) (At : Option Addr) (ct : Nat) (Ak : Option Addr) (ck : Nat) (w : World) (h : KV X W0 p dv st (.slice Ae es.length ce) w l) (hl : l.length ≤ 800000) (hS : RdS W0 r Ab cb An cn At ct Ak ck) (hE : Is W0 Ae es ce) (hk : ∀ t (ht : t < r.kids.length), ∃ k : Nat, k < es.length ∧ r.kids[t] = (k : Int)) (hn : r.kids.length = 1) :
 Calls Tryz.prog 108 #[.pointer (some ⟨p, 0, none⟩), .agg #[.string r.nm, .int .i64 r.kind, .int .i64 r.size, .bool r.little, .slice Ab r.bytes.length cb, .slice An r.names.length cn, .slice At r.tags.length ct, .slice Ak r.kids.length ck]] w fun e w' => e = .returned (.tuple #[]) ∧ (∃ l' : List Ins, l'.length ≤ l.length + 59 ∧ KV X W0 p dv st (.slice Ae es.length ce) w' l') ∧ MR X w w' := by
 obtain ⟨vc, hb⟩ := h
 obtain ⟨W1, hW1⟩ : ∃ W, Hid (W = w.alloc (.cells #[.string r.nm, .int .i64 r.kind, .int .i64 r.size, .bool r.little, .slice Ab r.bytes.length cb, .slice An r.names.length cn, .slice At r.tags.length ct, .slice Ak r.kids.length ck] 96)) := ⟨_, rfl⟩
 have e1 : Ext w W1 := ka hW1
 have HK1 : Hid (KV (fun k => X k ∨ k = w.heap.size) W0 p dv st (.slice Ae es.length ce) W1 l) := by show KV _ _ _ _ _ _ _ _; rw [hW1.out]; exact ⟨_, hb.guard _⟩
 have HR1 : Hid (MR X w W1) := MR.of_ext e1 hb.low
 have HX1 : Hid (MR (fun k => X k ∨ k = w.heap.size) W1 W1) := MR.refl _ _
 have HG1 : Hid (Box W1 w.heap.size #[.string r.nm, .int .i64 r.kind, .int .i64 r.size, .bool r.little, .slice Ab r.bytes.length cb, .slice An r.names.length cn, .slice At r.tags.length ct, .slice Ak r.kids.length ck] 96) := by rw [hW1.out]; exact Box.new _ _ _
 have HXW : Hid (∀ k, X k → X k ∨ k = w.heap.size) := fun k hk => .inl hk
 have CA := Lib.hid (fun l o a b w' h hl => iAdd_c (fun k => X k ∨ k = w.heap.size) W0 p dv st (.slice Ae es.length ce) l o a b w' h hl)
 have CK := Lib.hid (fun l k w' h hl hk => iCall_c (fun k => X k ∨ k = w.heap.size) W0 p dv st Ae es ce l k w' h hl hE hk)
 have CH := Lib.hid (fun l w' h hl => iHere_c (fun k => X k ∨ k = w.heap.size) W0 p dv st (.slice Ae es.length ce) l w' h hl)
 have HKS : Hid (∀ t (ht : t < r.kids.length), ∃ g off, Ak = some ⟨g, off, none⟩ ∧ ∀ w', Ext W0 w' → w'.cell? ⟨g, off + t, none⟩ = some (.int .i64 r.kids[t])) := fun t ht => let ⟨g, off, h1, _, h3⟩ := hS.k.at t ht; ⟨g, off, h1, h3⟩
 have hkl := hS.k.len; have hkc := hS.k.cap
 have HL := Lib.hid hl; have HS := Lib.hid hS; have HKK := Lib.hid hk
 clear hb e1 hE hl hS hk
 have HN := Lib.hid hn
 have hnp : (0 : Int) < (r.kids.length : Int) := by omega
 clear hn
 go_enter Tryz.func108, Tryz.ntmps108
 go_upto_region 1 with (fail)
 rw [← hW1.out]
 clear hW1
 have g12 : ∀ w', Ext W1 w' → w'.cell? ⟨w.heap.size, 2, none⟩ = some (.int .i64 r.size) := fun w' e => HG1.out.at 2 w' e
 have g13 : ∀ w', Ext W1 w' → w'.cell? ⟨w.heap.size, 3, none⟩ = some (.bool r.little) := fun w' e => HG1.out.at 3 w' e
 have g14 : ∀ w', Ext W1 w' → w'.cell? ⟨w.heap.size, 4, none⟩ = some (.slice Ab r.bytes.length cb) := fun w' e => HG1.out.at 4 w' e
 have g16 : ∀ w', Ext W1 w' → w'.cell? ⟨w.heap.size, 6, none⟩ = some (.slice At r.tags.length ct) := fun w' e => HG1.out.at 6 w' e
 have g17 : ∀ w', Ext W1 w' → w'.cell? ⟨w.heap.size, 7, none⟩ = some (.slice Ak r.kids.length ck) := fun w' e => HG1.out.at 7 w' e
 go_wp2_with fail
 refine (CA.out l 14 0 0 _ HK1.out (by have := HL.out; omega)).mono ?_; rintro _ w2 ⟨rfl, ⟨l2, hl2, hm2⟩, hr2⟩
 have HK2 := Lib.hid hm2; have HX2 := Lib.hid (HX1.out.trans hr2)
 have HG2 : Hid (Box w2 w.heap.size #[.string r.nm, .int .i64 r.kind, .int .i64 r.size, .bool r.little, .slice Ab r.bytes.length cb, .slice An r.names.length cn, .slice At r.tags.length ct, .slice Ak r.kids.length ck] 96) := (hr2.kept _ (.inr rfl)).trans HG1.out
 clear hm2 hr2 g12 g13 g14 g16 g17
 have g22 : ∀ w', Ext w2 w' → w'.cell? ⟨w.heap.size, 2, none⟩ = some (.int .i64 r.size) := fun w' e => HG2.out.at 2 w' e
 have g23 : ∀ w', Ext w2 w' → w'.cell? ⟨w.heap.size, 3, none⟩ = some (.bool r.little) := fun w' e => HG2.out.at 3 w' e
 have g24 : ∀ w', Ext w2 w' → w'.cell? ⟨w.heap.size, 4, none⟩ = some (.slice Ab r.bytes.length cb) := fun w' e => HG2.out.at 4 w' e
 have g26 : ∀ w', Ext w2 w' → w'.cell? ⟨w.heap.size, 6, none⟩ = some (.slice At r.tags.length ct) := fun w' e => HG2.out.at 6 w' e
 have g27 : ∀ w', Ext w2 w' → w'.cell? ⟨w.heap.size, 7, none⟩ = some (.slice Ak r.kids.length ck) := fun w' e => HG2.out.at 7 w' e
 obtain ⟨kk2, hkk2, hke2⟩ := HKK.out 0 (by have := HN.out; omega)
 obtain ⟨gk2, ok2, hAk2, hck2⟩ := HKS.out 0 (by have := HN.out; omega)
 have hkw2 : ∀ w', Ext w2 w' → w'.cell? ⟨gk2, ok2 + 0, none⟩ = some (.int .i64 (kk2 : Int)) := fun w' e => by rw [← hke2]; exact hck2 w' ((let ⟨_, h⟩ := HK2.out; h.ext).trans e)
 clear hke2 hck2
 rw [hAk2] at g27
 rw [Nat.add_zero] at hkw2
 go_wp2_with fail
 refine (CK.out l2 kk2 _ HK2.out (by have := HL.out; omega) hkk2).mono ?_; rintro _ w3 ⟨rfl, ⟨l3, hl3, hm3⟩, hr3⟩
 have HK3 := Lib.hid hm3; have HX3 := Lib.hid (HX2.out.trans hr3)
 have HG3 : Hid (Box w3 w.heap.size #[.string r.nm, .int .i64 r.kind, .int .i64 r.size, .bool r.little, .slice Ab r.bytes.length cb, .slice An r.names.length cn, .slice At r.tags.length ct, .slice Ak r.kids.length ck] 96) := (hr3.kept _ (.inr rfl)).trans HG2.out
 clear hm3 hr3 g22 g23 g24 g26 g27
 have g32 : ∀ w', Ext w3 w' → w'.cell? ⟨w.heap.size, 2, none⟩ = some (.int .i64 r.size) := fun w' e => HG3.out.at 2 w' e
 have g33 : ∀ w', Ext w3 w' → w'.cell? ⟨w.heap.size, 3, none⟩ = some (.bool r.little) := fun w' e => HG3.out.at 3 w' e
 have g34 : ∀ w', Ext w3 w' → w'.cell? ⟨w.heap.size, 4, none⟩ = some (.slice Ab r.bytes.length cb) := fun w' e => HG3.out.at 4 w' e
 have g36 : ∀ w', Ext w3 w' → w'.cell? ⟨w.heap.size, 6, none⟩ = some (.slice At r.tags.length ct) := fun w' e => HG3.out.at 6 w' e
 have g37 : ∀ w', Ext w3 w' → w'.cell? ⟨w.heap.size, 7, none⟩ = some (.slice Ak r.kids.length ck) := fun w' e => HG3.out.at 7 w' e
 go_wp2_with fail
 refine (CA.out l3 15 0 0 _ HK3.out (by have := HL.out; omega)).mono ?_; rintro _ w4 ⟨rfl, ⟨l4, hl4, hm4⟩, hr4⟩
 have HK4 := Lib.hid hm4; have HX4 := Lib.hid (HX3.out.trans hr4)
 have HG4 : Hid (Box w4 w.heap.size #[.string r.nm, .int .i64 r.kind, .int .i64 r.size, .bool r.little, .slice Ab r.bytes.length cb, .slice An r.names.length cn, .slice At r.tags.length ct, .slice Ak r.kids.length ck] 96) := (hr4.kept _ (.inr rfl)).trans HG3.out
 clear hm4 hr4 g32 g33 g34 g36 g37
 have g42 : ∀ w', Ext w4 w' → w'.cell? ⟨w.heap.size, 2, none⟩ = some (.int .i64 r.size) := fun w' e => HG4.out.at 2 w' e
 have g43 : ∀ w', Ext w4 w' → w'.cell? ⟨w.heap.size, 3, none⟩ = some (.bool r.little) := fun w' e => HG4.out.at 3 w' e
 have g44 : ∀ w', Ext w4 w' → w'.cell? ⟨w.heap.size, 4, none⟩ = some (.slice Ab r.bytes.length cb) := fun w' e => HG4.out.at 4 w' e
 have g46 : ∀ w', Ext w4 w' → w'.cell? ⟨w.heap.size, 6, none⟩ = some (.slice At r.tags.length ct) := fun w' e => HG4.out.at 6 w' e
 have g47 : ∀ w', Ext w4 w' → w'.cell? ⟨w.heap.size, 7, none⟩ = some (.slice Ak r.kids.length ck) := fun w' e => HG4.out.at 7 w' e
 go_wp2
 first
  | exact bodyPost_end (results_none rfl _ _ _) rfl ⟨rfl, ⟨l4, by omega, HK4.out.weak HXW.out⟩, HR1.out.trans (HX4.out.weak HXW.out)⟩
  | exact bodyPost_ret (results_none rfl _ _ _) rfl ⟨rfl, ⟨l4, by omega, HK4.out.weak HXW.out⟩, HR1.out.trans (HX4.out.weak HXW.out)⟩
theorem iC_option (X : Nat → Prop) (W0 : World) (p : Nat) (dv : Value) (st : Int) (Ae : Option Addr) (es : List Int) (ce : Nat) (l : List Ins) (r : DRule) (Ab : Option Addr) (cb : Nat) (An : Option Addr) (cn : Nat) (At : Option Addr) (ct : Nat) (Ak : Option Addr) (ck : Nat) (w : World) (h : KV X W0 p dv st (.slice Ae es.length ce) w l) (hl : l.length ≤ 800000) (hS : RdS W0 r Ab cb An cn At ct Ak ck) (hE : Is W0 Ae es ce) (hk : ∀ t (ht : t < r.kids.length), ∃ k : Nat, k < es.length ∧ r.kids[t] = (k : Int)) (hn : r.kids.length = 1) :
 Calls Tryz.prog 107 #[.pointer (some ⟨p, 0, none⟩), .agg #[.string r.nm, .int .i64 r.kind, .int .i64 r.size, .bool r.little, .slice Ab r.bytes.length cb, .slice An r.names.length cn, .slice At r.tags.length ct, .slice Ak r.kids.length ck]] w fun e w' => e = .returned (.tuple #[]) ∧ (∃ l' : List Ins, l'.length ≤ l.length + 59 ∧ KV X W0 p dv st (.slice Ae es.length ce) w' l') ∧ MR X w w' := by
 obtain ⟨vc, hb⟩ := h
 obtain ⟨W1, hW1⟩ : ∃ W, Hid (W = w.alloc (.cells #[.string r.nm, .int .i64 r.kind, .int .i64 r.size, .bool r.little, .slice Ab r.bytes.length cb, .slice An r.names.length cn, .slice At r.tags.length ct, .slice Ak r.kids.length ck] 96)) := ⟨_, rfl⟩
 have e1 : Ext w W1 := ka hW1
 have HK1 : Hid (KV (fun k => X k ∨ k = w.heap.size) W0 p dv st (.slice Ae es.length ce) W1 l) := by show KV _ _ _ _ _ _ _ _; rw [hW1.out]; exact ⟨_, hb.guard _⟩
 have HR1 : Hid (MR X w W1) := MR.of_ext e1 hb.low
 have HX1 : Hid (MR (fun k => X k ∨ k = w.heap.size) W1 W1) := MR.refl _ _
 have HG1 : Hid (Box W1 w.heap.size #[.string r.nm, .int .i64 r.kind, .int .i64 r.size, .bool r.little, .slice Ab r.bytes.length cb, .slice An r.names.length cn, .slice At r.tags.length ct, .slice Ak r.kids.length ck] 96) := by rw [hW1.out]; exact Box.new _ _ _
 have HXW : Hid (∀ k, X k → X k ∨ k = w.heap.size) := fun k hk => .inl hk
 have CA := Lib.hid (fun l o a b w' h hl => iAdd_c (fun k => X k ∨ k = w.heap.size) W0 p dv st (.slice Ae es.length ce) l o a b w' h hl)
 have CK := Lib.hid (fun l k w' h hl hk => iCall_c (fun k => X k ∨ k = w.heap.size) W0 p dv st Ae es ce l k w' h hl hE hk)
 have CH := Lib.hid (fun l w' h hl => iHere_c (fun k => X k ∨ k = w.heap.size) W0 p dv st (.slice Ae es.length ce) l w' h hl)
 have HKS : Hid (∀ t (ht : t < r.kids.length), ∃ g off, Ak = some ⟨g, off, none⟩ ∧ ∀ w', Ext W0 w' → w'.cell? ⟨g, off + t, none⟩ = some (.int .i64 r.kids[t])) := fun t ht => let ⟨g, off, h1, _, h3⟩ := hS.k.at t ht; ⟨g, off, h1, h3⟩
 have hkl := hS.k.len; have hkc := hS.k.cap
 have HL := Lib.hid hl; have HS := Lib.hid hS; have HKK := Lib.hid hk
 clear hb e1 hE hl hS hk
 have HN := Lib.hid hn
 have hnp : (0 : Int) < (r.kids.length : Int) := by omega
 clear hn
 go_enter Tryz.func107, Tryz.ntmps107
 go_upto_region 1 with (fail)
 rw [← hW1.out]
 clear hW1
 have g12 : ∀ w', Ext W1 w' → w'.cell? ⟨w.heap.size, 2, none⟩ = some (.int .i64 r.size) := fun w' e => HG1.out.at 2 w' e
 have g13 : ∀ w', Ext W1 w' → w'.cell? ⟨w.heap.size, 3, none⟩ = some (.bool r.little) := fun w' e => HG1.out.at 3 w' e
 have g14 : ∀ w', Ext W1 w' → w'.cell? ⟨w.heap.size, 4, none⟩ = some (.slice Ab r.bytes.length cb) := fun w' e => HG1.out.at 4 w' e
 have g16 : ∀ w', Ext W1 w' → w'.cell? ⟨w.heap.size, 6, none⟩ = some (.slice At r.tags.length ct) := fun w' e => HG1.out.at 6 w' e
 have g17 : ∀ w', Ext W1 w' → w'.cell? ⟨w.heap.size, 7, none⟩ = some (.slice Ak r.kids.length ck) := fun w' e => HG1.out.at 7 w' e
 go_wp2_with fail
 refine (CH.out l _ HK1.out (by have := HL.out; omega)).mono ?_; rintro _ wh ⟨rfl, eh⟩
 have HKh : Hid (KV (fun k => X k ∨ k = w.heap.size) W0 p dv st (.slice Ae es.length ce) wh l) := by obtain ⟨vc, h⟩ := HK1.out; exact ⟨vc, h.next eh⟩
 have HXh : Hid (MR (fun k => X k ∨ k = w.heap.size) W1 wh) := HX1.out.trans (MR.of_ext eh (let ⟨_, h⟩ := HK1.out; h.low))
 have HGh : Hid (Box wh w.heap.size #[.string r.nm, .int .i64 r.kind, .int .i64 r.size, .bool r.little, .slice Ab r.bytes.length cb, .slice An r.names.length cn, .slice At r.tags.length ct, .slice Ak r.kids.length ck] 96) := HG1.out.ext eh
 replace HK1 := HKh; replace HX1 := HXh; replace HG1 := HGh
 clear HKh HXh HGh g12 g13 g14 g16 g17 eh
 generalize wrap64 (st + (l.length : Int)) = hv at *
 have g12 : ∀ w', Ext wh w' → w'.cell? ⟨w.heap.size, 2, none⟩ = some (.int .i64 r.size) := fun w' e => HG1.out.at 2 w' e
 have g13 : ∀ w', Ext wh w' → w'.cell? ⟨w.heap.size, 3, none⟩ = some (.bool r.little) := fun w' e => HG1.out.at 3 w' e
 have g14 : ∀ w', Ext wh w' → w'.cell? ⟨w.heap.size, 4, none⟩ = some (.slice Ab r.bytes.length cb) := fun w' e => HG1.out.at 4 w' e
 have g16 : ∀ w', Ext wh w' → w'.cell? ⟨w.heap.size, 6, none⟩ = some (.slice At r.tags.length ct) := fun w' e => HG1.out.at 6 w' e
 have g17 : ∀ w', Ext wh w' → w'.cell? ⟨w.heap.size, 7, none⟩ = some (.slice Ak r.kids.length ck) := fun w' e => HG1.out.at 7 w' e
 go_wp2_with fail
 refine (CA.out l 13 (wrap64 (hv + 2)) 0 _ HK1.out (by have := HL.out; omega)).mono ?_; rintro _ w2 ⟨rfl, ⟨l2, hl2, hm2⟩, hr2⟩
 have HK2 := Lib.hid hm2; have HX2 := Lib.hid (HX1.out.trans hr2)
 have HG2 : Hid (Box w2 w.heap.size #[.string r.nm, .int .i64 r.kind, .int .i64 r.size, .bool r.little, .slice Ab r.bytes.length cb, .slice An r.names.length cn, .slice At r.tags.length ct, .slice Ak r.kids.length ck] 96) := (hr2.kept _ (.inr rfl)).trans HG1.out
 clear hm2 hr2 g12 g13 g14 g16 g17
 have g22 : ∀ w', Ext w2 w' → w'.cell? ⟨w.heap.size, 2, none⟩ = some (.int .i64 r.size) := fun w' e => HG2.out.at 2 w' e
 have g23 : ∀ w', Ext w2 w' → w'.cell? ⟨w.heap.size, 3, none⟩ = some (.bool r.little) := fun w' e => HG2.out.at 3 w' e
 have g24 : ∀ w', Ext w2 w' → w'.cell? ⟨w.heap.size, 4, none⟩ = some (.slice Ab r.bytes.length cb) := fun w' e => HG2.out.at 4 w' e
 have g26 : ∀ w', Ext w2 w' → w'.cell? ⟨w.heap.size, 6, none⟩ = some (.slice At r.tags.length ct) := fun w' e => HG2.out.at 6 w' e
 have g27 : ∀ w', Ext w2 w' → w'.cell? ⟨w.heap.size, 7, none⟩ = some (.slice Ak r.kids.length ck) := fun w' e => HG2.out.at 7 w' e
 obtain ⟨kk2, hkk2, hke2⟩ := HKK.out 0 (by have := HN.out; omega)
 obtain ⟨gk2, ok2, hAk2, hck2⟩ := HKS.out 0 (by have := HN.out; omega)
 have hkw2 : ∀ w', Ext w2 w' → w'.cell? ⟨gk2, ok2 + 0, none⟩ = some (.int .i64 (kk2 : Int)) := fun w' e => by rw [← hke2]; exact hck2 w' ((let ⟨_, h⟩ := HK2.out; h.ext).trans e)
 clear hke2 hck2
 rw [hAk2] at g27
 rw [Nat.add_zero] at hkw2
 go_wp2_with fail
 refine (CK.out l2 kk2 _ HK2.out (by have := HL.out; omega) hkk2).mono ?_; rintro _ w3 ⟨rfl, ⟨l3, hl3, hm3⟩, hr3⟩
 have HK3 := Lib.hid hm3; have HX3 := Lib.hid (HX2.out.trans hr3)
 have HG3 : Hid (Box w3 w.heap.size #[.string r.nm, .int .i64 r.kind, .int .i64 r.size, .bool r.little, .slice Ab r.bytes.length cb, .slice An r.names.length cn, .slice At r.tags.length ct, .slice Ak r.kids.length ck] 96) := (hr3.kept _ (.inr rfl)).trans HG2.out
 clear hm3 hr3 g22 g23 g24 g26 g27
 have g32 : ∀ w', Ext w3 w' → w'.cell? ⟨w.heap.size, 2, none⟩ = some (.int .i64 r.size) := fun w' e => HG3.out.at 2 w' e
 have g33 : ∀ w', Ext w3 w' → w'.cell? ⟨w.heap.size, 3, none⟩ = some (.bool r.little) := fun w' e => HG3.out.at 3 w' e
 have g34 : ∀ w', Ext w3 w' → w'.cell? ⟨w.heap.size, 4, none⟩ = some (.slice Ab r.bytes.length cb) := fun w' e => HG3.out.at 4 w' e
 have g36 : ∀ w', Ext w3 w' → w'.cell? ⟨w.heap.size, 6, none⟩ = some (.slice At r.tags.length ct) := fun w' e => HG3.out.at 6 w' e
 have g37 : ∀ w', Ext w3 w' → w'.cell? ⟨w.heap.size, 7, none⟩ = some (.slice Ak r.kids.length ck) := fun w' e => HG3.out.at 7 w' e
 go_wp2
 first
  | exact bodyPost_end (results_none rfl _ _ _) rfl ⟨rfl, ⟨l3, by omega, HK3.out.weak HXW.out⟩, HR1.out.trans (HX3.out.weak HXW.out)⟩
  | exact bodyPost_ret (results_none rfl _ _ _) rfl ⟨rfl, ⟨l3, by omega, HK3.out.weak HXW.out⟩, HR1.out.trans (HX3.out.weak HXW.out)⟩
theorem iC_array (X : Nat → Prop) (W0 : World) (p : Nat) (dv : Value) (st : Int) (Ae : Option Addr) (es : List Int) (ce : Nat) (l : List Ins) (r : DRule) (Ab : Option Addr) (cb : Nat) (An : Option Addr) (cn : Nat) (At : Option Addr) (ct : Nat) (Ak : Option Addr) (ck : Nat) (w : World) (h : KV X W0 p dv st (.slice Ae es.length ce) w l) (hl : l.length ≤ 800000) (hS : RdS W0 r Ab cb An cn At ct Ak ck) (hE : Is W0 Ae es ce) (hk : ∀ t (ht : t < r.kids.length), ∃ k : Nat, k < es.length ∧ r.kids[t] = (k : Int)) (hn : r.kids.length = 2) :
 Calls Tryz.prog 104 #[.pointer (some ⟨p, 0, none⟩), .agg #[.string r.nm, .int .i64 r.kind, .int .i64 r.size, .bool r.little, .slice Ab r.bytes.length cb, .slice An r.names.length cn, .slice At r.tags.length ct, .slice Ak r.kids.length ck]] w fun e w' => e = .returned (.tuple #[]) ∧ (∃ l' : List Ins, l'.length ≤ l.length + 59 ∧ KV X W0 p dv st (.slice Ae es.length ce) w' l') ∧ MR X w w' := by
 obtain ⟨vc, hb⟩ := h
 obtain ⟨W1, hW1⟩ : ∃ W, Hid (W = w.alloc (.cells #[.string r.nm, .int .i64 r.kind, .int .i64 r.size, .bool r.little, .slice Ab r.bytes.length cb, .slice An r.names.length cn, .slice At r.tags.length ct, .slice Ak r.kids.length ck] 96)) := ⟨_, rfl⟩
 have e1 : Ext w W1 := ka hW1
 have HK1 : Hid (KV (fun k => X k ∨ k = w.heap.size) W0 p dv st (.slice Ae es.length ce) W1 l) := by show KV _ _ _ _ _ _ _ _; rw [hW1.out]; exact ⟨_, hb.guard _⟩
 have HR1 : Hid (MR X w W1) := MR.of_ext e1 hb.low
 have HX1 : Hid (MR (fun k => X k ∨ k = w.heap.size) W1 W1) := MR.refl _ _
 have HG1 : Hid (Box W1 w.heap.size #[.string r.nm, .int .i64 r.kind, .int .i64 r.size, .bool r.little, .slice Ab r.bytes.length cb, .slice An r.names.length cn, .slice At r.tags.length ct, .slice Ak r.kids.length ck] 96) := by rw [hW1.out]; exact Box.new _ _ _
 have HXW : Hid (∀ k, X k → X k ∨ k = w.heap.size) := fun k hk => .inl hk
 have CA := Lib.hid (fun l o a b w' h hl => iAdd_c (fun k => X k ∨ k = w.heap.size) W0 p dv st (.slice Ae es.length ce) l o a b w' h hl)
 have CK := Lib.hid (fun l k w' h hl hk => iCall_c (fun k => X k ∨ k = w.heap.size) W0 p dv st Ae es ce l k w' h hl hE hk)
 have CH := Lib.hid (fun l w' h hl => iHere_c (fun k => X k ∨ k = w.heap.size) W0 p dv st (.slice Ae es.length ce) l w' h hl)
 have HKS : Hid (∀ t (ht : t < r.kids.length), ∃ g off, Ak = some ⟨g, off, none⟩ ∧ ∀ w', Ext W0 w' → w'.cell? ⟨g, off + t, none⟩ = some (.int .i64 r.kids[t])) := fun t ht => let ⟨g, off, h1, _, h3⟩ := hS.k.at t ht; ⟨g, off, h1, h3⟩
 have hkl := hS.k.len; have hkc := hS.k.cap
 have HL := Lib.hid hl; have HS := Lib.hid hS; have HKK := Lib.hid hk
 clear hb e1 hE hl hS hk
 have HN := Lib.hid hn
 have hnp : (0 : Int) < (r.kids.length : Int) := by omega
 have hnp1 : (1 : Int) < (r.kids.length : Int) := by omega
 clear hn
 go_enter Tryz.func104, Tryz.ntmps104
 go_upto_region 1 with (fail)
 rw [← hW1.out]
 clear hW1
 have g12 : ∀ w', Ext W1 w' → w'.cell? ⟨w.heap.size, 2, none⟩ = some (.int .i64 r.size) := fun w' e => HG1.out.at 2 w' e
 have g13 : ∀ w', Ext W1 w' → w'.cell? ⟨w.heap.size, 3, none⟩ = some (.bool r.little) := fun w' e => HG1.out.at 3 w' e
 have g14 : ∀ w', Ext W1 w' → w'.cell? ⟨w.heap.size, 4, none⟩ = some (.slice Ab r.bytes.length cb) := fun w' e => HG1.out.at 4 w' e
 have g16 : ∀ w', Ext W1 w' → w'.cell? ⟨w.heap.size, 6, none⟩ = some (.slice At r.tags.length ct) := fun w' e => HG1.out.at 6 w' e
 have g17 : ∀ w', Ext W1 w' → w'.cell? ⟨w.heap.size, 7, none⟩ = some (.slice Ak r.kids.length ck) := fun w' e => HG1.out.at 7 w' e
 obtain ⟨kk1, hkk1, hke1⟩ := HKK.out 0 (by have := HN.out; omega)
 obtain ⟨gk1, ok1, hAk1, hck1⟩ := HKS.out 0 (by have := HN.out; omega)
 have hkw1 : ∀ w', Ext W1 w' → w'.cell? ⟨gk1, ok1 + 0, none⟩ = some (.int .i64 (kk1 : Int)) := fun w' e => by rw [← hke1]; exact hck1 w' ((let ⟨_, h⟩ := HK1.out; h.ext).trans e)
 clear hke1 hck1
 rw [hAk1] at g17
 rw [Nat.add_zero] at hkw1
 go_wp2_with fail
 refine (CK.out l kk1 _ HK1.out (by have := HL.out; omega) hkk1).mono ?_; rintro _ w2 ⟨rfl, ⟨l2, hl2, hm2⟩, hr2⟩
 have HK2 := Lib.hid hm2; have HX2 := Lib.hid (HX1.out.trans hr2)
 have HG2 : Hid (Box w2 w.heap.size #[.string r.nm, .int .i64 r.kind, .int .i64 r.size, .bool r.little, .slice Ab r.bytes.length cb, .slice An r.names.length cn, .slice At r.tags.length ct, .slice Ak r.kids.length ck] 96) := (hr2.kept _ (.inr rfl)).trans HG1.out
 clear hm2 hr2 g12 g13 g14 g16 g17
 have g22 : ∀ w', Ext w2 w' → w'.cell? ⟨w.heap.size, 2, none⟩ = some (.int .i64 r.size) := fun w' e => HG2.out.at 2 w' e
 have g23 : ∀ w', Ext w2 w' → w'.cell? ⟨w.heap.size, 3, none⟩ = some (.bool r.little) := fun w' e => HG2.out.at 3 w' e
 have g24 : ∀ w', Ext w2 w' → w'.cell? ⟨w.heap.size, 4, none⟩ = some (.slice Ab r.bytes.length cb) := fun w' e => HG2.out.at 4 w' e
 have g26 : ∀ w', Ext w2 w' → w'.cell? ⟨w.heap.size, 6, none⟩ = some (.slice At r.tags.length ct) := fun w' e => HG2.out.at 6 w' e
 have g27 : ∀ w', Ext w2 w' → w'.cell? ⟨w.heap.size, 7, none⟩ = some (.slice Ak r.kids.length ck) := fun w' e => HG2.out.at 7 w' e
 go_wp2_with fail
 refine (CA.out l2 5 40 0 _ HK2.out (by have := HL.out; omega)).mono ?_; rintro _ w3 ⟨rfl, ⟨l3, hl3, hm3⟩, hr3⟩
 have HK3 := Lib.hid hm3; have HX3 := Lib.hid (HX2.out.trans hr3)
 have HG3 : Hid (Box w3 w.heap.size #[.string r.nm, .int .i64 r.kind, .int .i64 r.size, .bool r.little, .slice Ab r.bytes.length cb, .slice An r.names.length cn, .slice At r.tags.length ct, .slice Ak r.kids.length ck] 96) := (hr3.kept _ (.inr rfl)).trans HG2.out
 clear hm3 hr3 g22 g23 g24 g26 g27
 have g32 : ∀ w', Ext w3 w' → w'.cell? ⟨w.heap.size, 2, none⟩ = some (.int .i64 r.size) := fun w' e => HG3.out.at 2 w' e
 have g33 : ∀ w', Ext w3 w' → w'.cell? ⟨w.heap.size, 3, none⟩ = some (.bool r.little) := fun w' e => HG3.out.at 3 w' e
 have g34 : ∀ w', Ext w3 w' → w'.cell? ⟨w.heap.size, 4, none⟩ = some (.slice Ab r.bytes.length cb) := fun w' e => HG3.out.at 4 w' e
 have g36 : ∀ w', Ext w3 w' → w'.cell? ⟨w.heap.size, 6, none⟩ = some (.slice At r.tags.length ct) := fun w' e => HG3.out.at 6 w' e
 have g37 : ∀ w', Ext w3 w' → w'.cell? ⟨w.heap.size, 7, none⟩ = some (.slice Ak r.kids.length ck) := fun w' e => HG3.out.at 7 w' e
 go_wp2_with fail
 refine (CA.out l3 6 0 0 _ HK3.out (by have := HL.out; omega)).mono ?_; rintro _ w4 ⟨rfl, ⟨l4, hl4, hm4⟩, hr4⟩
 have HK4 := Lib.hid hm4; have HX4 := Lib.hid (HX3.out.trans hr4)
 have HG4 : Hid (Box w4 w.heap.size #[.string r.nm, .int .i64 r.kind, .int .i64 r.size, .bool r.little, .slice Ab r.bytes.length cb, .slice An r.names.length cn, .slice At r.tags.length ct, .slice Ak r.kids.length ck] 96) := (hr4.kept _ (.inr rfl)).trans HG3.out
 clear hm4 hr4 g32 g33 g34 g36 g37
 have g42 : ∀ w', Ext w4 w' → w'.cell? ⟨w.heap.size, 2, none⟩ = some (.int .i64 r.size) := fun w' e => HG4.out.at 2 w' e
 have g43 : ∀ w', Ext w4 w' → w'.cell? ⟨w.heap.size, 3, none⟩ = some (.bool r.little) := fun w' e => HG4.out.at 3 w' e
 have g44 : ∀ w', Ext w4 w' → w'.cell? ⟨w.heap.size, 4, none⟩ = some (.slice Ab r.bytes.length cb) := fun w' e => HG4.out.at 4 w' e
 have g46 : ∀ w', Ext w4 w' → w'.cell? ⟨w.heap.size, 6, none⟩ = some (.slice At r.tags.length ct) := fun w' e => HG4.out.at 6 w' e
 have g47 : ∀ w', Ext w4 w' → w'.cell? ⟨w.heap.size, 7, none⟩ = some (.slice Ak r.kids.length ck) := fun w' e => HG4.out.at 7 w' e
 go_wp2_with fail
 refine (CH.out l4 _ HK4.out (by have := HL.out; omega)).mono ?_; rintro _ wh ⟨rfl, eh⟩
 have HKh : Hid (KV (fun k => X k ∨ k = w.heap.size) W0 p dv st (.slice Ae es.length ce) wh l4) := by obtain ⟨vc, h⟩ := HK4.out; exact ⟨vc, h.next eh⟩
 have HXh : Hid (MR (fun k => X k ∨ k = w.heap.size) W1 wh) := HX4.out.trans (MR.of_ext eh (let ⟨_, h⟩ := HK4.out; h.low))
 have HGh : Hid (Box wh w.heap.size #[.string r.nm, .int .i64 r.kind, .int .i64 r.size, .bool r.little, .slice Ab r.bytes.length cb, .slice An r.names.length cn, .slice At r.tags.length ct, .slice Ak r.kids.length ck] 96) := HG4.out.ext eh
 replace HK4 := HKh; replace HX4 := HXh; replace HG4 := HGh
 clear HKh HXh HGh g42 g43 g44 g46 g47 eh
 generalize wrap64 (st + (l4.length : Int)) = hv at *
 have g42 : ∀ w', Ext wh w' → w'.cell? ⟨w.heap.size, 2, none⟩ = some (.int .i64 r.size) := fun w' e => HG4.out.at 2 w' e
 have g43 : ∀ w', Ext wh w' → w'.cell? ⟨w.heap.size, 3, none⟩ = some (.bool r.little) := fun w' e => HG4.out.at 3 w' e
 have g44 : ∀ w', Ext wh w' → w'.cell? ⟨w.heap.size, 4, none⟩ = some (.slice Ab r.bytes.length cb) := fun w' e => HG4.out.at 4 w' e
 have g46 : ∀ w', Ext wh w' → w'.cell? ⟨w.heap.size, 6, none⟩ = some (.slice At r.tags.length ct) := fun w' e => HG4.out.at 6 w' e
 have g47 : ∀ w', Ext wh w' → w'.cell? ⟨w.heap.size, 7, none⟩ = some (.slice Ak r.kids.length ck) := fun w' e => HG4.out.at 7 w' e
 go_wp2_with fail
 refine (CA.out l4 7 (wrap64 (hv + 3)) 0 _ HK4.out (by have := HL.out; omega)).mono ?_; rintro _ w5 ⟨rfl, ⟨l5, hl5, hm5⟩, hr5⟩
 have HK5 := Lib.hid hm5; have HX5 := Lib.hid (HX4.out.trans hr5)
 have HG5 : Hid (Box w5 w.heap.size #[.string r.nm, .int .i64 r.kind, .int .i64 r.size, .bool r.little, .slice Ab r.bytes.length cb, .slice An r.names.length cn, .slice At r.tags.length ct, .slice Ak r.kids.length ck] 96) := (hr5.kept _ (.inr rfl)).trans HG4.out
 clear hm5 hr5 g42 g43 g44 g46 g47
 have g52 : ∀ w', Ext w5 w' → w'.cell? ⟨w.heap.size, 2, none⟩ = some (.int .i64 r.size) := fun w' e => HG5.out.at 2 w' e
 have g53 : ∀ w', Ext w5 w' → w'.cell? ⟨w.heap.size, 3, none⟩ = some (.bool r.little) := fun w' e => HG5.out.at 3 w' e
 have g54 : ∀ w', Ext w5 w' → w'.cell? ⟨w.heap.size, 4, none⟩ = some (.slice Ab r.bytes.length cb) := fun w' e => HG5.out.at 4 w' e
 have g56 : ∀ w', Ext w5 w' → w'.cell? ⟨w.heap.size, 6, none⟩ = some (.slice At r.tags.length ct) := fun w' e => HG5.out.at 6 w' e
 have g57 : ∀ w', Ext w5 w' → w'.cell? ⟨w.heap.size, 7, none⟩ = some (.slice Ak r.kids.length ck) := fun w' e => HG5.out.at 7 w' e
 obtain ⟨kk5, hkk5, hke5⟩ := HKK.out 1 (by have := HN.out; omega)
 obtain ⟨gk5, ok5, hAk5, hck5⟩ := HKS.out 1 (by have := HN.out; omega)
 have hkw5 : ∀ w', Ext w5 w' → w'.cell? ⟨gk5, ok5 + 1, none⟩ = some (.int .i64 (kk5 : Int)) := fun w' e => by rw [← hke5]; exact hck5 w' ((let ⟨_, h⟩ := HK5.out; h.ext).trans e)
 clear hke5 hck5
 rw [hAk5] at g57
 go_wp2_with fail
 refine (CK.out l5 kk5 _ HK5.out (by have := HL.out; omega) hkk5).mono ?_; rintro _ w6 ⟨rfl, ⟨l6, hl6, hm6⟩, hr6⟩
 have HK6 := Lib.hid hm6; have HX6 := Lib.hid (HX5.out.trans hr6)
 have HG6 : Hid (Box w6 w.heap.size #[.string r.nm, .int .i64 r.kind, .int .i64 r.size, .bool r.little, .slice Ab r.bytes.length cb, .slice An r.names.length cn, .slice At r.tags.length ct, .slice Ak r.kids.length ck] 96) := (hr6.kept _ (.inr rfl)).trans HG5.out
 clear hm6 hr6 g52 g53 g54 g56 g57
 have g62 : ∀ w', Ext w6 w' → w'.cell? ⟨w.heap.size, 2, none⟩ = some (.int .i64 r.size) := fun w' e => HG6.out.at 2 w' e
 have g63 : ∀ w', Ext w6 w' → w'.cell? ⟨w.heap.size, 3, none⟩ = some (.bool r.little) := fun w' e => HG6.out.at 3 w' e
 have g64 : ∀ w', Ext w6 w' → w'.cell? ⟨w.heap.size, 4, none⟩ = some (.slice Ab r.bytes.length cb) := fun w' e => HG6.out.at 4 w' e
 have g66 : ∀ w', Ext w6 w' → w'.cell? ⟨w.heap.size, 6, none⟩ = some (.slice At r.tags.length ct) := fun w' e => HG6.out.at 6 w' e
 have g67 : ∀ w', Ext w6 w' → w'.cell? ⟨w.heap.size, 7, none⟩ = some (.slice Ak r.kids.length ck) := fun w' e => HG6.out.at 7 w' e
 go_wp2_with fail
 refine (CA.out l6 8 hv 0 _ HK6.out (by have := HL.out; omega)).mono ?_; rintro _ w7 ⟨rfl, ⟨l7, hl7, hm7⟩, hr7⟩
 have HK7 := Lib.hid hm7; have HX7 := Lib.hid (HX6.out.trans hr7)
 have HG7 : Hid (Box w7 w.heap.size #[.string r.nm, .int .i64 r.kind, .int .i64 r.size, .bool r.little, .slice Ab r.bytes.length cb, .slice An r.names.length cn, .slice At r.tags.length ct, .slice Ak r.kids.length ck] 96) := (hr7.kept _ (.inr rfl)).trans HG6.out
 clear hm7 hr7 g62 g63 g64 g66 g67
 have g72 : ∀ w', Ext w7 w' → w'.cell? ⟨w.heap.size, 2, none⟩ = some (.int .i64 r.size) := fun w' e => HG7.out.at 2 w' e
 have g73 : ∀ w', Ext w7 w' → w'.cell? ⟨w.heap.size, 3, none⟩ = some (.bool r.little) := fun w' e => HG7.out.at 3 w' e
 have g74 : ∀ w', Ext w7 w' → w'.cell? ⟨w.heap.size, 4, none⟩ = some (.slice Ab r.bytes.length cb) := fun w' e => HG7.out.at 4 w' e
 have g76 : ∀ w', Ext w7 w' → w'.cell? ⟨w.heap.size, 6, none⟩ = some (.slice At r.tags.length ct) := fun w' e => HG7.out.at 6 w' e
 have g77 : ∀ w', Ext w7 w' → w'.cell? ⟨w.heap.size, 7, none⟩ = some (.slice Ak r.kids.length ck) := fun w' e => HG7.out.at 7 w' e
 go_wp2
 first
  | exact bodyPost_end (results_none rfl _ _ _) rfl ⟨rfl, ⟨l7, by omega, HK7.out.weak HXW.out⟩, HR1.out.trans (HX7.out.weak HXW.out)⟩
  | exact bodyPost_ret (results_none rfl _ _ _) rfl ⟨rfl, ⟨l7, by omega, HK7.out.weak HXW.out⟩, HR1.out.trans (HX7.out.weak HXW.out)⟩
theorem iC_terminated (X : Nat → Prop) (W0 : World) (p : Nat) (dv : Value) (st : Int) (Ae : Option Addr) (es : List Int) (ce : Nat) (l : List Ins) (r : DRule) (Ab : Option Addr) (cb : Nat) (An : Option Addr) (cn : Nat) (At : Option Addr) (ct : Nat) (Ak : Option Addr) (ck : Nat) (w : World) (h : KV X W0 p dv st (.slice Ae es.length ce) w l) (hl : l.length ≤ 800000) (hS : RdS W0 r Ab cb An cn At ct Ak ck) (hE : Is W0 Ae es ce) (hk : ∀ t (ht : t < r.kids.length), ∃ k : Nat, k < es.length ∧ r.kids[t] = (k : Int)) (hn : r.bytes.length = 1) :
 Calls Tryz.prog 109 #[.pointer (some ⟨p, 0, none⟩), .agg #[.string r.nm, .int .i64 r.kind, .int .i64 r.size, .bool r.little, .slice Ab r.bytes.length cb, .slice An r.names.length cn, .slice At r.tags.length ct, .slice Ak r.kids.length ck]] w fun e w' => e = .returned (.tuple #[]) ∧ (∃ l' : List Ins, l'.length ≤ l.length + 59 ∧ KV X W0 p dv st (.slice Ae es.length ce) w' l') ∧ MR X w w' := by
 obtain ⟨vc, hb⟩ := h
 obtain ⟨W1, hW1⟩ : ∃ W, Hid (W = w.alloc (.cells #[.string r.nm, .int .i64 r.kind, .int .i64 r.size, .bool r.little, .slice Ab r.bytes.length cb, .slice An r.names.length cn, .slice At r.tags.length ct, .slice Ak r.kids.length ck] 96)) := ⟨_, rfl⟩
 have e1 : Ext w W1 := ka hW1
 have HK1 : Hid (KV (fun k => X k ∨ k = w.heap.size) W0 p dv st (.slice Ae es.length ce) W1 l) := by show KV _ _ _ _ _ _ _ _; rw [hW1.out]; exact ⟨_, hb.guard _⟩
 have HR1 : Hid (MR X w W1) := MR.of_ext e1 hb.low
 have HX1 : Hid (MR (fun k => X k ∨ k = w.heap.size) W1 W1) := MR.refl _ _
 have HG1 : Hid (Box W1 w.heap.size #[.string r.nm, .int .i64 r.kind, .int .i64 r.size, .bool r.little, .slice Ab r.bytes.length cb, .slice An r.names.length cn, .slice At r.tags.length ct, .slice Ak r.kids.length ck] 96) := by rw [hW1.out]; exact Box.new _ _ _
 have HXW : Hid (∀ k, X k → X k ∨ k = w.heap.size) := fun k hk => .inl hk
 have CA := Lib.hid (fun l o a b w' h hl => iAdd_c (fun k => X k ∨ k = w.heap.size) W0 p dv st (.slice Ae es.length ce) l o a b w' h hl)
 have CK := Lib.hid (fun l k w' h hl hk => iCall_c (fun k => X k ∨ k = w.heap.size) W0 p dv st Ae es ce l k w' h hl hE hk)
 have CH := Lib.hid (fun l w' h hl => iHere_c (fun k => X k ∨ k = w.heap.size) W0 p dv st (.slice Ae es.length ce) l w' h hl)
 have HKS : Hid (∀ t (ht : t < r.kids.length), ∃ g off, Ak = some ⟨g, off, none⟩ ∧ ∀ w', Ext W0 w' → w'.cell? ⟨g, off + t, none⟩ = some (.int .i64 r.kids[t])) := fun t ht => let ⟨g, off, h1, _, h3⟩ := hS.k.at t ht; ⟨g, off, h1, h3⟩
 have hkl := hS.k.len; have hkc := hS.k.cap
 have HL := Lib.hid hl; have HS := Lib.hid hS; have HKK := Lib.hid hk
 clear hb e1 hE hl hS hk
 have hnp : (0 : Int) < (r.bytes.length : Int) := by omega
 obtain ⟨gb, ob, hAb, _, hcb⟩ := HS.out.b.at 0 (by omega)
 have hbw : ∀ w', Ext W1 w' → w'.cell? ⟨gb, ob, none⟩ = some (.int .u8 (r.bytes[0].toNat : Int)) := fun w' e => by have := hcb w' ((let ⟨_, h⟩ := HK1.out; h.ext).trans e); simpa [vu8] using this
 have hcv : IntKind.i64.wrap (r.bytes[0].toNat : Int) = (r.bytes[0].toNat : Int) := IntWalk.i64_in _ (by have := r.bytes[0].toNat_lt; omega)
 generalize r.bytes[0] = x at *
 clear hcb HS hn
 subst hAb
 go_enter Tryz.func109, Tryz.ntmps109
 go_upto_region 1 with (fail)
 rw [← hW1.out]
 clear hW1
 have g12 : ∀ w', Ext W1 w' → w'.cell? ⟨w.heap.size, 2, none⟩ = some (.int .i64 r.size) := fun w' e => HG1.out.at 2 w' e
 have g13 : ∀ w', Ext W1 w' → w'.cell? ⟨w.heap.size, 3, none⟩ = some (.bool r.little) := fun w' e => HG1.out.at 3 w' e
 have g14 : ∀ w', Ext W1 w' → w'.cell? ⟨w.heap.size, 4, none⟩ = some (.slice (some ⟨gb, ob, none⟩) r.bytes.length cb) := fun w' e => HG1.out.at 4 w' e
 have g16 : ∀ w', Ext W1 w' → w'.cell? ⟨w.heap.size, 6, none⟩ = some (.slice At r.tags.length ct) := fun w' e => HG1.out.at 6 w' e
 have g17 : ∀ w', Ext W1 w' → w'.cell? ⟨w.heap.size, 7, none⟩ = some (.slice Ak r.kids.length ck) := fun w' e => HG1.out.at 7 w' e
 go_wp2_with fail
 refine (CA.out l 16 (x.toNat : Int) 0 _ HK1.out (by have := HL.out; omega)).mono ?_; rintro _ w2 ⟨rfl, ⟨l2, hl2, hm2⟩, hr2⟩
 have HK2 := Lib.hid hm2; have HX2 := Lib.hid (HX1.out.trans hr2)
 have HG2 : Hid (Box w2 w.heap.size #[.string r.nm, .int .i64 r.kind, .int .i64 r.size, .bool r.little, .slice (some ⟨gb, ob, none⟩) r.bytes.length cb, .slice An r.names.length cn, .slice At r.tags.length ct, .slice Ak r.kids.length ck] 96) := (hr2.kept _ (.inr rfl)).trans HG1.out
 clear hm2 hr2 g12 g13 g14 g16 g17
 have g22 : ∀ w', Ext w2 w' → w'.cell? ⟨w.heap.size, 2, none⟩ = some (.int .i64 r.size) := fun w' e => HG2.out.at 2 w' e
 have g23 : ∀ w', Ext w2 w' → w'.cell? ⟨w.heap.size, 3, none⟩ = some (.bool r.little) := fun w' e => HG2.out.at 3 w' e
 have g24 : ∀ w', Ext w2 w' → w'.cell? ⟨w.heap.size, 4, none⟩ = some (.slice (some ⟨gb, ob, none⟩) r.bytes.length cb) := fun w' e => HG2.out.at 4 w' e
 have g26 : ∀ w', Ext w2 w' → w'.cell? ⟨w.heap.size, 6, none⟩ = some (.slice At r.tags.length ct) := fun w' e => HG2.out.at 6 w' e
 have g27 : ∀ w', Ext w2 w' → w'.cell? ⟨w.heap.size, 7, none⟩ = some (.slice Ak r.kids.length ck) := fun w' e => HG2.out.at 7 w' e
 go_wp2
 first
  | exact bodyPost_end (results_none rfl _ _ _) rfl ⟨rfl, ⟨l2, by omega, HK2.out.weak HXW.out⟩, HR1.out.trans (HX2.out.weak HXW.out)⟩
  | exact bodyPost_ret (results_none rfl _ _ _) rfl ⟨rfl, ⟨l2, by omega, HK2.out.weak HXW.out⟩, HR1.out.trans (HX2.out.weak HXW.out)⟩
theorem iC_constant (X : Nat → Prop) (W0 : World) (p : Nat) (dv : Value) (st : Int) (Ae : Option Addr) (es : List Int) (ce : Nat) (l : List Ins) (r : DRule) (Ab : Option Addr) (cb : Nat) (An : Option Addr) (cn : Nat) (At : Option Addr) (ct : Nat) (Ak : Option Addr) (ck : Nat) (w : World) (h : KV X W0 p dv st (.slice Ae es.length ce) w l) (hl : l.length ≤ 800000) (hS : RdS W0 r Ab cb An cn At ct Ak ck) (hE : Is W0 Ae es ce) (hk : ∀ t (ht : t < r.kids.length), ∃ k : Nat, k < es.length ∧ r.kids[t] = (k : Int)) (hn : r.bytes.length ≤ 16) :
 Calls Tryz.prog 101 #[.pointer (some ⟨p, 0, none⟩), .agg #[.string r.nm, .int .i64 r.kind, .int .i64 r.size, .bool r.little, .slice Ab r.bytes.length cb, .slice An r.names.length cn, .slice At r.tags.length ct, .slice Ak r.kids.length ck]] w fun e w' => e = .returned (.tuple #[]) ∧ (∃ l' : List Ins, l'.length ≤ l.length + 59 ∧ KV X W0 p dv st (.slice Ae es.length ce) w' l') ∧ MR X w w' := by
 obtain ⟨vc, hb⟩ := h
 obtain ⟨W1, hW1⟩ : ∃ W, Hid (W = w.alloc (.cells #[.string r.nm, .int .i64 r.kind, .int .i64 r.size, .bool r.little, .slice Ab r.bytes.length cb, .slice An r.names.length cn, .slice At r.tags.length ct, .slice Ak r.kids.length ck] 96)) := ⟨_, rfl⟩
 have e1 : Ext w W1 := ka hW1
 have HK1 : Hid (KV (fun k => X k ∨ k = w.heap.size) W0 p dv st (.slice Ae es.length ce) W1 l) := by show KV _ _ _ _ _ _ _ _; rw [hW1.out]; exact ⟨_, hb.guard _⟩
 have HR1 : Hid (MR X w W1) := MR.of_ext e1 hb.low
 have HX1 : Hid (MR (fun k => X k ∨ k = w.heap.size) W1 W1) := MR.refl _ _
 have HG1 : Hid (Box W1 w.heap.size #[.string r.nm, .int .i64 r.kind, .int .i64 r.size, .bool r.little, .slice Ab r.bytes.length cb, .slice An r.names.length cn, .slice At r.tags.length ct, .slice Ak r.kids.length ck] 96) := by rw [hW1.out]; exact Box.new _ _ _
 have HXW : Hid (∀ k, X k → X k ∨ k = w.heap.size) := fun k hk => .inl hk
 have CA := Lib.hid (fun l o a b w' h hl => iAdd_c (fun k => X k ∨ k = w.heap.size) W0 p dv st (.slice Ae es.length ce) l o a b w' h hl)
 have CK := Lib.hid (fun l k w' h hl hk => iCall_c (fun k => X k ∨ k = w.heap.size) W0 p dv st Ae es ce l k w' h hl hE hk)
 have CH := Lib.hid (fun l w' h hl => iHere_c (fun k => X k ∨ k = w.heap.size) W0 p dv st (.slice Ae es.length ce) l w' h hl)
 have HKS : Hid (∀ t (ht : t < r.kids.length), ∃ g off, Ak = some ⟨g, off, none⟩ ∧ ∀ w', Ext W0 w' → w'.cell? ⟨g, off + t, none⟩ = some (.int .i64 r.kids[t])) := fun t ht => let ⟨g, off, h1, _, h3⟩ := hS.k.at t ht; ⟨g, off, h1, h3⟩
 have hkl := hS.k.len; have hkc := hS.k.cap
 have HL := Lib.hid hl; have HS := Lib.hid hS; have HKK := Lib.hid hk
 clear hb e1 hE hl hS hk
 have HN := Lib.hid hn
 clear hn
 by_cases hz : r.bytes.length = 0
 ·have hd : decide ((0 : Int) < (r.bytes.length : Int)) = false := decide_eq_false (by omega)
  have hd' : decide (0 < r.bytes.length) = false := decide_eq_false (by omega)
  have HZ := Lib.hid hz
  clear hz HS
  go_enter Tryz.func101, Tryz.ntmps101
  go_upto_region 1 with (fail)
  rw [← hW1.out]
  clear hW1
  have g12 : ∀ w', Ext W1 w' → w'.cell? ⟨w.heap.size, 2, none⟩ = some (.int .i64 r.size) := fun w' e => HG1.out.at 2 w' e
  have g13 : ∀ w', Ext W1 w' → w'.cell? ⟨w.heap.size, 3, none⟩ = some (.bool r.little) := fun w' e => HG1.out.at 3 w' e
  have g14 : ∀ w', Ext W1 w' → w'.cell? ⟨w.heap.size, 4, none⟩ = some (.slice Ab r.bytes.length cb) := fun w' e => HG1.out.at 4 w' e
  have g16 : ∀ w', Ext W1 w' → w'.cell? ⟨w.heap.size, 6, none⟩ = some (.slice At r.tags.length ct) := fun w' e => HG1.out.at 6 w' e
  have g17 : ∀ w', Ext W1 w' → w'.cell? ⟨w.heap.size, 7, none⟩ = some (.slice Ak r.kids.length ck) := fun w' e => HG1.out.at 7 w' e
  go_wp2_with fail
  go_loopw [9] (fun q wr => q = .int .i64 0 ∧ wr = W1) (fun q _ => 0)
  case atStart => exact ⟨rfl, rfl⟩
  case round =>
   obtain ⟨rfl, rfl⟩ := hrel
   go_wp2
   first
    | exact bodyPost_end (results_none rfl _ _ _) rfl ⟨rfl, ⟨l, by omega, HK1.out.weak HXW.out⟩, HR1.out⟩
    | exact bodyPost_ret (results_none rfl _ _ _) rfl ⟨rfl, ⟨l, by omega, HK1.out.weak HXW.out⟩, HR1.out⟩
 obtain ⟨gb, ob, hAb, _⟩ := HS.out.b.at 0 (by omega)
 have HBY : Hid (∀ k (hk : k < r.bytes.length) w', Ext W0 w' → w'.cell? ⟨gb, ob + k, none⟩ = some (.int .u8 (r.bytes[k].toNat : Int))) := fun k hk w' e => by
  obtain ⟨g', o', h1, _, h2⟩ := HS.out.b.at k hk
  rw [hAb] at h1; injection h1 with h1; injection h1 with i1 i2; subst i1; subst i2
  exact h2 w' e
 subst hAb
 clear HS
 go_enter Tryz.func101, Tryz.ntmps101
 go_upto_region 1 with (fail)
 rw [← hW1.out]
 clear hW1
 have g12 : ∀ w', Ext W1 w' → w'.cell? ⟨w.heap.size, 2, none⟩ = some (.int .i64 r.size) := fun w' e => HG1.out.at 2 w' e
 have g13 : ∀ w', Ext W1 w' → w'.cell? ⟨w.heap.size, 3, none⟩ = some (.bool r.little) := fun w' e => HG1.out.at 3 w' e
 have g14 : ∀ w', Ext W1 w' → w'.cell? ⟨w.heap.size, 4, none⟩ = some (.slice (some ⟨gb, ob, none⟩) r.bytes.length cb) := fun w' e => HG1.out.at 4 w' e
 have g16 : ∀ w', Ext W1 w' → w'.cell? ⟨w.heap.size, 6, none⟩ = some (.slice At r.tags.length ct) := fun w' e => HG1.out.at 6 w' e
 have g17 : ∀ w', Ext W1 w' → w'.cell? ⟨w.heap.size, 7, none⟩ = some (.slice Ak r.kids.length ck) := fun w' e => HG1.out.at 7 w' e
 go_wp2_with fail
 go_loopw [9] (fun q wr => ∃ (k : Nat) (lr : List Ins), k ≤ r.bytes.length ∧ q = .int .i64 (k : Int) ∧ lr.length ≤ l.length + 1 * k ∧ Hid (KV (fun k => X k ∨ k = w.heap.size) W0 p dv st (.slice Ae es.length ce) wr lr) ∧ Hid (MR (fun k => X k ∨ k = w.heap.size) W1 wr)) (fun q _ => r.bytes.length - (intOf q).toNat)
 case atStart => exact ⟨0, l, by omega, rfl, by omega, HK1.out, HX1.out⟩
 case round =>
  clear g12 g13 g14 g16 g17
  obtain ⟨k, l9, hkn, rfl, hl9, HK9, HX9⟩ := hrel
  have HG9 : Hid (Box wr w.heap.size #[.string r.nm, .int .i64 r.kind, .int .i64 r.size, .bool r.little, .slice (some ⟨gb, ob, none⟩) r.bytes.length cb, .slice An r.names.length cn, .slice At r.tags.length ct, .slice Ak r.kids.length ck] 96) := (HX9.out.kept _ (.inr rfl)).trans HG1.out
  have g92 : ∀ w', Ext wr w' → w'.cell? ⟨w.heap.size, 2, none⟩ = some (.int .i64 r.size) := fun w' e => HG9.out.at 2 w' e
  have g93 : ∀ w', Ext wr w' → w'.cell? ⟨w.heap.size, 3, none⟩ = some (.bool r.little) := fun w' e => HG9.out.at 3 w' e
  have g94 : ∀ w', Ext wr w' → w'.cell? ⟨w.heap.size, 4, none⟩ = some (.slice (some ⟨gb, ob, none⟩) r.bytes.length cb) := fun w' e => HG9.out.at 4 w' e
  have g96 : ∀ w', Ext wr w' → w'.cell? ⟨w.heap.size, 6, none⟩ = some (.slice At r.tags.length ct) := fun w' e => HG9.out.at 6 w' e
  have g97 : ∀ w', Ext wr w' → w'.cell? ⟨w.heap.size, 7, none⟩ = some (.slice Ak r.kids.length ck) := fun w' e => HG9.out.at 7 w' e
  by_cases hlt : k < r.bytes.length
  ·have hki : (k : Int) < (r.bytes.length : Int) := by omega
   have hk20 : (k : Int) + 1 ≤ 20 := by have := HN.out; omega
   have hbw : ∀ w', Ext wr w' → w'.cell? ⟨gb, ob + k, none⟩ = some (.int .u8 (r.bytes[k].toNat : Int)) := fun w' e => HBY.out k hlt w' ((let ⟨_, h⟩ := HK9.out; h.ext).trans e)
   have hcv : IntKind.i64.wrap (r.bytes[k].toNat : Int) = (r.bytes[k].toNat : Int) := IntWalk.i64_in _ (by have := r.bytes[k].toNat_lt; omega)
   generalize r.bytes[k] = x at *
   go_wp2_with fail
   refine (CA.out l9 2 (x.toNat : Int) 0 _ HK9.out (by have := HL.out; omega)).mono ?_; rintro _ w10 ⟨rfl, ⟨l10, hl10, hm10⟩, hr10⟩
   have HK10 := Lib.hid hm10; have HX10 := Lib.hid (HX9.out.trans hr10)
   have HG10 : Hid (Box w10 w.heap.size #[.string r.nm, .int .i64 r.kind, .int .i64 r.size, .bool r.little, .slice (some ⟨gb, ob, none⟩) r.bytes.length cb, .slice An r.names.length cn, .slice At r.tags.length ct, .slice Ak r.kids.length ck] 96) := (hr10.kept _ (.inr rfl)).trans HG9.out
   clear hm10 hr10 g92 g93 g94 g96 g97
   have g102 : ∀ w', Ext w10 w' → w'.cell? ⟨w.heap.size, 2, none⟩ = some (.int .i64 r.size) := fun w' e => HG10.out.at 2 w' e
   have g103 : ∀ w', Ext w10 w' → w'.cell? ⟨w.heap.size, 3, none⟩ = some (.bool r.little) := fun w' e => HG10.out.at 3 w' e
   have g104 : ∀ w', Ext w10 w' → w'.cell? ⟨w.heap.size, 4, none⟩ = some (.slice (some ⟨gb, ob, none⟩) r.bytes.length cb) := fun w' e => HG10.out.at 4 w' e
   have g106 : ∀ w', Ext w10 w' → w'.cell? ⟨w.heap.size, 6, none⟩ = some (.slice At r.tags.length ct) := fun w' e => HG10.out.at 6 w' e
   have g107 : ∀ w', Ext w10 w' → w'.cell? ⟨w.heap.size, 7, none⟩ = some (.slice Ak r.kids.length ck) := fun w' e => HG10.out.at 7 w' e
   go_wp2
   go_roundw
   case rel => exact ⟨k + 1, l10, by omega, by go_num, by omega, HK10.out, HX10.out⟩
   case measure => simp [intOf]; omega
  ·have hkd : decide ((k : Int) < (r.bytes.length : Int)) = false := decide_eq_false (by omega)
   have hke : k = r.bytes.length := by omega
   go_wp2
   first
    | exact bodyPost_end (results_none rfl _ _ _) rfl ⟨rfl, ⟨l9, by have := HN.out; omega, HK9.out.weak HXW.out⟩, HR1.out.trans (HX9.out.weak HXW.out)⟩
    | exact bodyPost_ret (results_none rfl _ _ _) rfl ⟨rfl, ⟨l9, by have := HN.out; omega, HK9.out.weak HXW.out⟩, HR1.out.trans (HX9.out.weak HXW.out)⟩
theorem iC_sequence (X : Nat → Prop) (W0 : World) (p : Nat) (dv : Value) (st : Int) (Ae : Option Addr) (es : List Int) (ce : Nat) (l : List Ins) (r : DRule) (Ab : Option Addr) (cb : Nat) (An : Option Addr) (cn : Nat) (At : Option Addr) (ct : Nat) (Ak : Option Addr) (ck : Nat) (w : World) (h : KV X W0 p dv st (.slice Ae es.length ce) w l) (hl : l.length ≤ 800000) (hS : RdS W0 r Ab cb An cn At ct Ak ck) (hE : Is W0 Ae es ce) (hk : ∀ t (ht : t < r.kids.length), ∃ k : Nat, k < es.length ∧ r.kids[t] = (k : Int)) (hn : r.kids.length ≤ 8) :
 Calls Tryz.prog 105 #[.pointer (some ⟨p, 0, none⟩), .agg #[.string r.nm, .int .i64 r.kind, .int .i64 r.size, .bool r.little, .slice Ab r.bytes.length cb, .slice An r.names.length cn, .slice At r.tags.length ct, .slice Ak r.kids.length ck]] w fun e w' => e = .returned (.tuple #[]) ∧ (∃ l' : List Ins, l'.length ≤ l.length + 59 ∧ KV X W0 p dv st (.slice Ae es.length ce) w' l') ∧ MR X w w' := by
 obtain ⟨vc, hb⟩ := h
 obtain ⟨W1, hW1⟩ : ∃ W, Hid (W = w.alloc (.cells #[.string r.nm, .int .i64 r.kind, .int .i64 r.size, .bool r.little, .slice Ab r.bytes.length cb, .slice An r.names.length cn, .slice At r.tags.length ct, .slice Ak r.kids.length ck] 96)) := ⟨_, rfl⟩
 have e1 : Ext w W1 := ka hW1
 have HK1 : Hid (KV (fun k => X k ∨ k = w.heap.size) W0 p dv st (.slice Ae es.length ce) W1 l) := by show KV _ _ _ _ _ _ _ _; rw [hW1.out]; exact ⟨_, hb.guard _⟩
 have HR1 : Hid (MR X w W1) := MR.of_ext e1 hb.low
 have HX1 : Hid (MR (fun k => X k ∨ k = w.heap.size) W1 W1) := MR.refl _ _
 have HG1 : Hid (Box W1 w.heap.size #[.string r.nm, .int .i64 r.kind, .int .i64 r.size, .bool r.little, .slice Ab r.bytes.length cb, .slice An r.names.length cn, .slice At r.tags.length ct, .slice Ak r.kids.length ck] 96) := by rw [hW1.out]; exact Box.new _ _ _
 have HXW : Hid (∀ k, X k → X k ∨ k = w.heap.size) := fun k hk => .inl hk
 have CA := Lib.hid (fun l o a b w' h hl => iAdd_c (fun k => X k ∨ k = w.heap.size) W0 p dv st (.slice Ae es.length ce) l o a b w' h hl)
 have CK := Lib.hid (fun l k w' h hl hk => iCall_c (fun k => X k ∨ k = w.heap.size) W0 p dv st Ae es ce l k w' h hl hE hk)
 have CH := Lib.hid (fun l w' h hl => iHere_c (fun k => X k ∨ k = w.heap.size) W0 p dv st (.slice Ae es.length ce) l w' h hl)
 have HKS : Hid (∀ t (ht : t < r.kids.length), ∃ g off, Ak = some ⟨g, off, none⟩ ∧ ∀ w', Ext W0 w' → w'.cell? ⟨g, off + t, none⟩ = some (.int .i64 r.kids[t])) := fun t ht => let ⟨g, off, h1, _, h3⟩ := hS.k.at t ht; ⟨g, off, h1, h3⟩
 have hkl := hS.k.len; have hkc := hS.k.cap
 have HL := Lib.hid hl; have HS := Lib.hid hS; have HKK := Lib.hid hk
 clear hb e1 hE hl hS hk
 have HN := Lib.hid hn
 clear hn
 by_cases hz : r.kids.length = 0
 ·have hd : decide ((0 : Int) < (r.kids.length : Int)) = false := decide_eq_false (by omega)
  have hd' : decide (0 < r.kids.length) = false := decide_eq_false (by omega)
  have HZ := Lib.hid hz
  clear hz HS
  go_enter Tryz.func105, Tryz.ntmps105
  go_upto_region 1 with (fail)
  rw [← hW1.out]
  clear hW1
  have g12 : ∀ w', Ext W1 w' → w'.cell? ⟨w.heap.size, 2, none⟩ = some (.int .i64 r.size) := fun w' e => HG1.out.at 2 w' e
  have g13 : ∀ w', Ext W1 w' → w'.cell? ⟨w.heap.size, 3, none⟩ = some (.bool r.little) := fun w' e => HG1.out.at 3 w' e
  have g14 : ∀ w', Ext W1 w' → w'.cell? ⟨w.heap.size, 4, none⟩ = some (.slice Ab r.bytes.length cb) := fun w' e => HG1.out.at 4 w' e
  have g16 : ∀ w', Ext W1 w' → w'.cell? ⟨w.heap.size, 6, none⟩ = some (.slice At r.tags.length ct) := fun w' e => HG1.out.at 6 w' e
  have g17 : ∀ w', Ext W1 w' → w'.cell? ⟨w.heap.size, 7, none⟩ = some (.slice Ak r.kids.length ck) := fun w' e => HG1.out.at 7 w' e
  go_wp2_with fail
  go_loopw [9] (fun q wr => q = .int .i64 0 ∧ wr = W1) (fun q _ => 0)
  case atStart => exact ⟨rfl, rfl⟩
  case round =>
   obtain ⟨rfl, rfl⟩ := hrel
   go_wp2
   first
    | exact bodyPost_end (results_none rfl _ _ _) rfl ⟨rfl, ⟨l, by omega, HK1.out.weak HXW.out⟩, HR1.out⟩
    | exact bodyPost_ret (results_none rfl _ _ _) rfl ⟨rfl, ⟨l, by omega, HK1.out.weak HXW.out⟩, HR1.out⟩
 obtain ⟨gk, ok, hAk, _⟩ := HKS.out 0 (by omega)
 have HKY : Hid (∀ k (hk : k < r.kids.length), ∃ kk : Nat, kk < es.length ∧ ∀ w', Ext W0 w' → w'.cell? ⟨gk, ok + k, none⟩ = some (.int .i64 (kk : Int))) := fun k hk => by
  obtain ⟨kk, h1, h2⟩ := HKK.out k hk
  obtain ⟨g', o', h3, h4⟩ := HKS.out k hk
  rw [hAk] at h3; injection h3 with h3; injection h3 with i1 i2; subst i1; subst i2
  exact ⟨kk, h1, fun w' e => by rw [← h2]; exact h4 w' e⟩
 subst hAk
 clear HS HKS HKK
 go_enter Tryz.func105, Tryz.ntmps105
 go_upto_region 1 with (fail)
 rw [← hW1.out]
 clear hW1
 have g12 : ∀ w', Ext W1 w' → w'.cell? ⟨w.heap.size, 2, none⟩ = some (.int .i64 r.size) := fun w' e => HG1.out.at 2 w' e
 have g13 : ∀ w', Ext W1 w' → w'.cell? ⟨w.heap.size, 3, none⟩ = some (.bool r.little) := fun w' e => HG1.out.at 3 w' e
 have g14 : ∀ w', Ext W1 w' → w'.cell? ⟨w.heap.size, 4, none⟩ = some (.slice Ab r.bytes.length cb) := fun w' e => HG1.out.at 4 w' e
 have g16 : ∀ w', Ext W1 w' → w'.cell? ⟨w.heap.size, 6, none⟩ = some (.slice At r.tags.length ct) := fun w' e => HG1.out.at 6 w' e
 have g17 : ∀ w', Ext W1 w' → w'.cell? ⟨w.heap.size, 7, none⟩ = some (.slice (some ⟨gk, ok, none⟩) r.kids.length ck) := fun w' e => HG1.out.at 7 w' e
 go_wp2_with fail
 go_loopw [9] (fun q wr => ∃ (k : Nat) (lr : List Ins), k ≤ r.kids.length ∧ q = .int .i64 (k : Int) ∧ lr.length ≤ l.length + 1 * k ∧ Hid (KV (fun k => X k ∨ k = w.heap.size) W0 p dv st (.slice Ae es.length ce) wr lr) ∧ Hid (MR (fun k => X k ∨ k = w.heap.size) W1 wr)) (fun q _ => r.kids.length - (intOf q).toNat)
 case atStart => exact ⟨0, l, by omega, rfl, by omega, HK1.out, HX1.out⟩
 case round =>
  clear g12 g13 g14 g16 g17
  obtain ⟨k, l9, hkn, rfl, hl9, HK9, HX9⟩ := hrel
  have HG9 : Hid (Box wr w.heap.size #[.string r.nm, .int .i64 r.kind, .int .i64 r.size, .bool r.little, .slice Ab r.bytes.length cb, .slice An r.names.length cn, .slice At r.tags.length ct, .slice (some ⟨gk, ok, none⟩) r.kids.length ck] 96) := (HX9.out.kept _ (.inr rfl)).trans HG1.out
  have g92 : ∀ w', Ext wr w' → w'.cell? ⟨w.heap.size, 2, none⟩ = some (.int .i64 r.size) := fun w' e => HG9.out.at 2 w' e
  have g93 : ∀ w', Ext wr w' → w'.cell? ⟨w.heap.size, 3, none⟩ = some (.bool r.little) := fun w' e => HG9.out.at 3 w' e
  have g94 : ∀ w', Ext wr w' → w'.cell? ⟨w.heap.size, 4, none⟩ = some (.slice Ab r.bytes.length cb) := fun w' e => HG9.out.at 4 w' e
  have g96 : ∀ w', Ext wr w' → w'.cell? ⟨w.heap.size, 6, none⟩ = some (.slice At r.tags.length ct) := fun w' e => HG9.out.at 6 w' e
  have g97 : ∀ w', Ext wr w' → w'.cell? ⟨w.heap.size, 7, none⟩ = some (.slice (some ⟨gk, ok, none⟩) r.kids.length ck) := fun w' e => HG9.out.at 7 w' e
  by_cases hlt : k < r.kids.length
  ·have hki : (k : Int) < (r.kids.length : Int) := by omega
   have hk20 : (k : Int) + 1 ≤ 20 := by have := HN.out; omega
   obtain ⟨kk9, hkk9, hkc9⟩ := HKY.out k (by have := HN.out; omega)
   have hkw9 : ∀ w', Ext wr w' → w'.cell? ⟨gk, ok + k, none⟩ = some (.int .i64 (kk9 : Int)) := fun w' e => hkc9 w' ((let ⟨_, h⟩ := HK9.out; h.ext).trans e)
   clear hkc9
   go_wp2_with fail
   refine (CK.out l9 kk9 _ HK9.out (by have := HL.out; have := HN.out; omega) hkk9).mono ?_; rintro _ w10 ⟨rfl, ⟨l10, hl10, hm10⟩, hr10⟩
   have HK10 := Lib.hid hm10; have HX10 := Lib.hid (HX9.out.trans hr10)
   have HG10 : Hid (Box w10 w.heap.size #[.string r.nm, .int .i64 r.kind, .int .i64 r.size, .bool r.little, .slice Ab r.bytes.length cb, .slice An r.names.length cn, .slice At r.tags.length ct, .slice (some ⟨gk, ok, none⟩) r.kids.length ck] 96) := (hr10.kept _ (.inr rfl)).trans HG9.out
   clear hm10 hr10 g92 g93 g94 g96 g97
   have g102 : ∀ w', Ext w10 w' → w'.cell? ⟨w.heap.size, 2, none⟩ = some (.int .i64 r.size) := fun w' e => HG10.out.at 2 w' e
   have g103 : ∀ w', Ext w10 w' → w'.cell? ⟨w.heap.size, 3, none⟩ = some (.bool r.little) := fun w' e => HG10.out.at 3 w' e
   have g104 : ∀ w', Ext w10 w' → w'.cell? ⟨w.heap.size, 4, none⟩ = some (.slice Ab r.bytes.length cb) := fun w' e => HG10.out.at 4 w' e
   have g106 : ∀ w', Ext w10 w' → w'.cell? ⟨w.heap.size, 6, none⟩ = some (.slice At r.tags.length ct) := fun w' e => HG10.out.at 6 w' e
   have g107 : ∀ w', Ext w10 w' → w'.cell? ⟨w.heap.size, 7, none⟩ = some (.slice (some ⟨gk, ok, none⟩) r.kids.length ck) := fun w' e => HG10.out.at 7 w' e
   go_wp2
   go_roundw
   case rel => exact ⟨k + 1, l10, by omega, by go_num, by omega, HK10.out, HX10.out⟩
   case measure => simp [intOf]; omega
  ·have hkd : decide ((k : Int) < (r.kids.length : Int)) = false := decide_eq_false (by omega)
   have hke : k = r.kids.length := by omega
   go_wp2
   first
    | exact bodyPost_end (results_none rfl _ _ _) rfl ⟨rfl, ⟨l9, by have := HN.out; omega, HK9.out.weak HXW.out⟩, HR1.out.trans (HX9.out.weak HXW.out)⟩
    | exact bodyPost_ret (results_none rfl _ _ _) rfl ⟨rfl, ⟨l9, by have := HN.out; omega, HK9.out.weak HXW.out⟩, HR1.out.trans (HX9.out.weak HXW.out)⟩
theorem iC_choice (X : Nat → Prop) (W0 : World) (p : Nat) (dv : Value) (st : Int) (Ae : Option Addr) (es : List Int) (ce : Nat) (l : List Ins) (r : DRule) (Ab : Option Addr) (cb : Nat) (An : Option Addr) (cn : Nat) (At : Option Addr) (ct : Nat) (Ak : Option Addr) (ck : Nat) (w : World) (h : KV X W0 p dv st (.slice Ae es.length ce) w l) (hl : l.length ≤ 800000) (hS : RdS W0 r Ab cb An cn At ct Ak ck) (hE : Is W0 Ae es ce) (hk : ∀ t (ht : t < r.kids.length), ∃ k : Nat, k < es.length ∧ r.kids[t] = (k : Int)) (hn : 1 ≤ r.tags.length ∧ r.tags.length ≤ 8 ∧ r.kids.length = r.tags.length + 1) :
 Calls Tryz.prog 106 #[.pointer (some ⟨p, 0, none⟩), .agg #[.string r.nm, .int .i64 r.kind, .int .i64 r.size, .bool r.little, .slice Ab r.bytes.length cb, .slice An r.names.length cn, .slice At r.tags.length ct, .slice Ak r.kids.length ck]] w fun e w' => e = .returned (.tuple #[]) ∧ (∃ l' : List Ins, l'.length ≤ l.length + 59 ∧ KV X W0 p dv st (.slice Ae es.length ce) w' l') ∧ MR X w w' := by
 obtain ⟨vc, hb⟩ := h
 obtain ⟨W1, hW1⟩ : ∃ W, Hid (W = w.alloc (.cells #[.string r.nm, .int .i64 r.kind, .int .i64 r.size, .bool r.little, .slice Ab r.bytes.length cb, .slice An r.names.length cn, .slice At r.tags.length ct, .slice Ak r.kids.length ck] 96)) := ⟨_, rfl⟩
 have e1 : Ext w W1 := ka hW1
 have HK1 : Hid (KV (fun k => X k ∨ k = w.heap.size) W0 p dv st (.slice Ae es.length ce) W1 l) := by show KV _ _ _ _ _ _ _ _; rw [hW1.out]; exact ⟨_, hb.guard _⟩
 have HR1 : Hid (MR X w W1) := MR.of_ext e1 hb.low
 have HX1 : Hid (MR (fun k => X k ∨ k = w.heap.size) W1 W1) := MR.refl _ _
 have HG1 : Hid (Box W1 w.heap.size #[.string r.nm, .int .i64 r.kind, .int .i64 r.size, .bool r.little, .slice Ab r.bytes.length cb, .slice An r.names.length cn, .slice At r.tags.length ct, .slice Ak r.kids.length ck] 96) := by rw [hW1.out]; exact Box.new _ _ _
 have HXW : Hid (∀ k, X k → X k ∨ k = w.heap.size) := fun k hk => .inl hk
 have CA := Lib.hid (fun l o a b w' h hl => iAdd_c (fun k => X k ∨ k = w.heap.size) W0 p dv st (.slice Ae es.length ce) l o a b w' h hl)
 have CK := Lib.hid (fun l k w' h hl hk => iCall_c (fun k => X k ∨ k = w.heap.size) W0 p dv st Ae es ce l k w' h hl hE hk)
 have CH := Lib.hid (fun l w' h hl => iHere_c (fun k => X k ∨ k = w.heap.size) W0 p dv st (.slice Ae es.length ce) l w' h hl)
 have HKS : Hid (∀ t (ht : t < r.kids.length), ∃ g off, Ak = some ⟨g, off, none⟩ ∧ ∀ w', Ext W0 w' → w'.cell? ⟨g, off + t, none⟩ = some (.int .i64 r.kids[t])) := fun t ht => let ⟨g, off, h1, _, h3⟩ := hS.k.at t ht; ⟨g, off, h1, h3⟩
 have hkl := hS.k.len; have hkc := hS.k.cap
 have HL := Lib.hid hl; have HS := Lib.hid hS; have HKK := Lib.hid hk
 clear hb e1 hE hl hS hk
 have HN := Lib.hid hn
 obtain ⟨gt, ot, hAt, -⟩ := HS.out.t.at 0 (by have := hn.1; omega)
 have HTY : Hid (∀ k (hk : k < r.tags.length) w', Ext W0 w' → w'.cell? ⟨gt, ot + k, none⟩ = some (.int .i64 (r.tags[k]))) := fun k hk w' e => by
  obtain ⟨g', o', h1, _, h2⟩ := HS.out.t.at k hk
  rw [hAt] at h1; injection h1 with h1; injection h1 with i1 i2; subst i1; subst i2
  exact h2 w' e
 subst hAt
 obtain ⟨gk, ok, hAk, -⟩ := HKS.out 0 (by have := hn.2.2; omega)
 have HKY : Hid (∀ k (hk : k < r.kids.length), ∃ kk : Nat, kk < es.length ∧ ∀ w', Ext W0 w' → w'.cell? ⟨gk, ok + k, none⟩ = some (.int .i64 (kk : Int))) := fun k hk => by
  obtain ⟨kk, h1, h2⟩ := HKK.out k hk
  obtain ⟨g', o', h3, h4⟩ := HKS.out k hk
  rw [hAk] at h3; injection h3 with h3; injection h3 with i1 i2; subst i1; subst i2
  exact ⟨kk, h1, fun w' e => by rw [← h2]; exact h4 w' e⟩
 subst hAk
 clear HS HKS HKK
 have hnp : (0 : Int) < (r.kids.length : Int) := by have := hn.2.2; omega
 have hkt : (r.kids.length : Int) = (r.tags.length : Int) + 1 := by have := hn.2.2; omega
 clear hn
 go_enter Tryz.func106, Tryz.ntmps106
 go_upto_region 1 with (fail)
 rw [← hW1.out]
 clear hW1
 have g12 : ∀ w', Ext W1 w' → w'.cell? ⟨w.heap.size, 2, none⟩ = some (.int .i64 r.size) := fun w' e => HG1.out.at 2 w' e
 have g13 : ∀ w', Ext W1 w' → w'.cell? ⟨w.heap.size, 3, none⟩ = some (.bool r.little) := fun w' e => HG1.out.at 3 w' e
 have g14 : ∀ w', Ext W1 w' → w'.cell? ⟨w.heap.size, 4, none⟩ = some (.slice Ab r.bytes.length cb) := fun w' e => HG1.out.at 4 w' e
 have g16 : ∀ w', Ext W1 w' → w'.cell? ⟨w.heap.size, 6, none⟩ = some (.slice (some ⟨gt, ot, none⟩) r.tags.length ct) := fun w' e => HG1.out.at 6 w' e
 have g17 : ∀ w', Ext W1 w' → w'.cell? ⟨w.heap.size, 7, none⟩ = some (.slice (some ⟨gk, ok, none⟩) r.kids.length ck) := fun w' e => HG1.out.at 7 w' e
 obtain ⟨kk1, hkk1, hkc1⟩ := HKY.out 0 (by have := HN.out; omega)
 have hkw1 : ∀ w', Ext W1 w' → w'.cell? ⟨gk, ok + 0, none⟩ = some (.int .i64 (kk1 : Int)) := fun w' e => hkc1 w' ((let ⟨_, h⟩ := HK1.out; h.ext).trans e)
 clear hkc1
 rw [Nat.add_zero] at hkw1
 go_wp2_with fail
 refine (CK.out l kk1 _ HK1.out (by have := HL.out; have := HN.out; omega) hkk1).mono ?_; rintro _ w2 ⟨rfl, ⟨l2, hl2, hm2⟩, hr2⟩
 have HK2 := Lib.hid hm2; have HX2 := Lib.hid (HX1.out.trans hr2)
 have HG2 : Hid (Box w2 w.heap.size #[.string r.nm, .int .i64 r.kind, .int .i64 r.size, .bool r.little, .slice Ab r.bytes.length cb, .slice An r.names.length cn, .slice (some ⟨gt, ot, none⟩) r.tags.length ct, .slice (some ⟨gk, ok, none⟩) r.kids.length ck] 96) := (hr2.kept _ (.inr rfl)).trans HG1.out
 clear hm2 hr2 g12 g13 g14 g16 g17
 have g22 : ∀ w', Ext w2 w' → w'.cell? ⟨w.heap.size, 2, none⟩ = some (.int .i64 r.size) := fun w' e => HG2.out.at 2 w' e
 have g23 : ∀ w', Ext w2 w' → w'.cell? ⟨w.heap.size, 3, none⟩ = some (.bool r.little) := fun w' e => HG2.out.at 3 w' e
 have g24 : ∀ w', Ext w2 w' → w'.cell? ⟨w.heap.size, 4, none⟩ = some (.slice Ab r.bytes.length cb) := fun w' e => HG2.out.at 4 w' e
 have g26 : ∀ w', Ext w2 w' → w'.cell? ⟨w.heap.size, 6, none⟩ = some (.slice (some ⟨gt, ot, none⟩) r.tags.length ct) := fun w' e => HG2.out.at 6 w' e
 have g27 : ∀ w', Ext w2 w' → w'.cell? ⟨w.heap.size, 7, none⟩ = some (.slice (some ⟨gk, ok, none⟩) r.kids.length ck) := fun w' e => HG2.out.at 7 w' e
 have hh : KV (fun k => X k ∨ k = w.heap.size) W0 p dv st (.slice Ae es.length ce) w2 l2 := HK2.out
 have CHV := fun w' (e : Ext w2 w') => CH.out l2 w' (let ⟨vc, h⟩ := hh; ⟨vc, h.next e⟩) (by have := HL.out; omega)
 generalize wrap64 (st + (l2.length : Int)) = hv at CHV
 have CHW := Lib.hid CHV
 clear CHV
 obtain ⟨v1, hv1⟩ : ∃ v, IntKind.i64.wrap (hv + (r.tags.length : Int)) = v := ⟨_, rfl⟩
 obtain ⟨v2, hv2⟩ : ∃ v, IntKind.i64.wrap (v1 + 1) = v := ⟨_, rfl⟩
 go_wp2_with fail
 refine wp_region_quiet_below (by kernel_rfl) (by kernel_rfl) ?_
 repeat (go_big_quiet_step ((go_at_call 139; exact Calls.regrown_of (CHW.out _ (Ext_regrown _ _ (Ext.refl _))))))
 refine wpQuiet_nil ?_
 rintro wh ⟨⟨nq, osq⟩, hq⟩
 have ewh := ext_of_q hq
 clear hq nq osq
 clear hv1 hv2 CHW
 have HKh : Hid (KV (fun k => X k ∨ k = w.heap.size) W0 p dv st (.slice Ae es.length ce) wh l2) := by obtain ⟨vc, h⟩ := HK2.out; exact ⟨vc, h.next ewh⟩
 have HXh : Hid (MR (fun k => X k ∨ k = w.heap.size) W1 wh) := HX2.out.trans (MR.of_ext ewh (let ⟨_, h⟩ := HK2.out; h.low))
 have HGh : Hid (Box wh w.heap.size #[.string r.nm, .int .i64 r.kind, .int .i64 r.size, .bool r.little, .slice Ab r.bytes.length cb, .slice An r.names.length cn, .slice (some ⟨gt, ot, none⟩) r.tags.length ct, .slice (some ⟨gk, ok, none⟩) r.kids.length ck] 96) := HG2.out.ext ewh
 replace HK2 := HKh; replace HX2 := HXh; replace HG2 := HGh
 clear HKh HXh HGh hh g22 g23 g24 g26 g27 ewh
 have g22 : ∀ w', Ext wh w' → w'.cell? ⟨w.heap.size, 2, none⟩ = some (.int .i64 r.size) := fun w' e => HG2.out.at 2 w' e
 have g23 : ∀ w', Ext wh w' → w'.cell? ⟨w.heap.size, 3, none⟩ = some (.bool r.little) := fun w' e => HG2.out.at 3 w' e
 have g24 : ∀ w', Ext wh w' → w'.cell? ⟨w.heap.size, 4, none⟩ = some (.slice Ab r.bytes.length cb) := fun w' e => HG2.out.at 4 w' e
 have g26 : ∀ w', Ext wh w' → w'.cell? ⟨w.heap.size, 6, none⟩ = some (.slice (some ⟨gt, ot, none⟩) r.tags.length ct) := fun w' e => HG2.out.at 6 w' e
 have g27 : ∀ w', Ext wh w' → w'.cell? ⟨w.heap.size, 7, none⟩ = some (.slice (some ⟨gk, ok, none⟩) r.kids.length ck) := fun w' e => HG2.out.at 7 w' e
 go_wp2_with fail
 go_loopw [24] (fun q wr => ∃ (k : Nat) (lr : List Ins), k ≤ r.tags.length ∧ q = .int .i64 (k : Int) ∧ lr.length ≤ l2.length + 1 * k ∧ Hid (KV (fun k => X k ∨ k = w.heap.size) W0 p dv st (.slice Ae es.length ce) wr lr) ∧ Hid (MR (fun k => X k ∨ k = w.heap.size) W1 wr)) (fun q _ => r.tags.length - (intOf q).toNat)
 case atStart => exact ⟨0, l2, by omega, rfl, by omega, HK2.out, HX2.out⟩
 case round =>
  clear g22 g23 g24 g26 g27
  obtain ⟨k, l9, hkn, rfl, hl9, HK9, HX9⟩ := hrel
  have HG9 : Hid (Box wr w.heap.size #[.string r.nm, .int .i64 r.kind, .int .i64 r.size, .bool r.little, .slice Ab r.bytes.length cb, .slice An r.names.length cn, .slice (some ⟨gt, ot, none⟩) r.tags.length ct, .slice (some ⟨gk, ok, none⟩) r.kids.length ck] 96) := (HX9.out.kept _ (.inr rfl)).trans HG1.out
  have g92 : ∀ w', Ext wr w' → w'.cell? ⟨w.heap.size, 2, none⟩ = some (.int .i64 r.size) := fun w' e => HG9.out.at 2 w' e
  have g93 : ∀ w', Ext wr w' → w'.cell? ⟨w.heap.size, 3, none⟩ = some (.bool r.little) := fun w' e => HG9.out.at 3 w' e
  have g94 : ∀ w', Ext wr w' → w'.cell? ⟨w.heap.size, 4, none⟩ = some (.slice Ab r.bytes.length cb) := fun w' e => HG9.out.at 4 w' e
  have g96 : ∀ w', Ext wr w' → w'.cell? ⟨w.heap.size, 6, none⟩ = some (.slice (some ⟨gt, ot, none⟩) r.tags.length ct) := fun w' e => HG9.out.at 6 w' e
  have g97 : ∀ w', Ext wr w' → w'.cell? ⟨w.heap.size, 7, none⟩ = some (.slice (some ⟨gk, ok, none⟩) r.kids.length ck) := fun w' e => HG9.out.at 7 w' e
  by_cases hlt : k < r.tags.length
  ·have hki : (k : Int) < (r.tags.length : Int) := by omega
   have hk20 : (k : Int) + 1 ≤ 20 := by have := HN.out; omega
   have htw : ∀ w', Ext wr w' → w'.cell? ⟨gt, ot + k, none⟩ = some (.int .i64 r.tags[k]) := fun w' e => HTY.out k hlt w' ((let ⟨_, h⟩ := HK9.out; h.ext).trans e)
   generalize r.tags[k] = x at *
   go_wp2_with fail
   refine (CA.out l9 11 x _ _ HK9.out (by have := HL.out; have := HN.out; omega)).mono ?_; rintro _ w10 ⟨rfl, ⟨l10, hl10, hm10⟩, hr10⟩
   have HK10 := Lib.hid hm10; have HX10 := Lib.hid (HX9.out.trans hr10)
   have HG10 : Hid (Box w10 w.heap.size #[.string r.nm, .int .i64 r.kind, .int .i64 r.size, .bool r.little, .slice Ab r.bytes.length cb, .slice An r.names.length cn, .slice (some ⟨gt, ot, none⟩) r.tags.length ct, .slice (some ⟨gk, ok, none⟩) r.kids.length ck] 96) := (hr10.kept _ (.inr rfl)).trans HG9.out
   clear hm10 hr10 g92 g93 g94 g96 g97
   have g102 : ∀ w', Ext w10 w' → w'.cell? ⟨w.heap.size, 2, none⟩ = some (.int .i64 r.size) := fun w' e => HG10.out.at 2 w' e
   have g103 : ∀ w', Ext w10 w' → w'.cell? ⟨w.heap.size, 3, none⟩ = some (.bool r.little) := fun w' e => HG10.out.at 3 w' e
   have g104 : ∀ w', Ext w10 w' → w'.cell? ⟨w.heap.size, 4, none⟩ = some (.slice Ab r.bytes.length cb) := fun w' e => HG10.out.at 4 w' e
   have g106 : ∀ w', Ext w10 w' → w'.cell? ⟨w.heap.size, 6, none⟩ = some (.slice (some ⟨gt, ot, none⟩) r.tags.length ct) := fun w' e => HG10.out.at 6 w' e
   have g107 : ∀ w', Ext w10 w' → w'.cell? ⟨w.heap.size, 7, none⟩ = some (.slice (some ⟨gk, ok, none⟩) r.kids.length ck) := fun w' e => HG10.out.at 7 w' e
   go_wp2
   go_roundw
   case rel => exact ⟨k + 1, l10, by omega, by go_num, by omega, HK10.out, HX10.out⟩
   case measure => simp [intOf]; omega
  ·have hkd : decide ((k : Int) < (r.tags.length : Int)) = false := decide_eq_false (by omega)
   have hke : k = r.tags.length := by omega
   go_wp2_with fail
   refine (CA.out l9 12 3 0 _ HK9.out (by have := HL.out; have := HN.out; omega)).mono ?_; rintro _ w10 ⟨rfl, ⟨l10, hl10, hm10⟩, hr10⟩
   have HK10 := Lib.hid hm10; have HX10 := Lib.hid (HX9.out.trans hr10)
   have HG10 : Hid (Box w10 w.heap.size #[.string r.nm, .int .i64 r.kind, .int .i64 r.size, .bool r.little, .slice Ab r.bytes.length cb, .slice An r.names.length cn, .slice (some ⟨gt, ot, none⟩) r.tags.length ct, .slice (some ⟨gk, ok, none⟩) r.kids.length ck] 96) := (hr10.kept _ (.inr rfl)).trans HG9.out
   clear hm10 hr10 g92 g93 g94 g96 g97
   have g102 : ∀ w', Ext w10 w' → w'.cell? ⟨w.heap.size, 2, none⟩ = some (.int .i64 r.size) := fun w' e => HG10.out.at 2 w' e
   have g103 : ∀ w', Ext w10 w' → w'.cell? ⟨w.heap.size, 3, none⟩ = some (.bool r.little) := fun w' e => HG10.out.at 3 w' e
   have g104 : ∀ w', Ext w10 w' → w'.cell? ⟨w.heap.size, 4, none⟩ = some (.slice Ab r.bytes.length cb) := fun w' e => HG10.out.at 4 w' e
   have g106 : ∀ w', Ext w10 w' → w'.cell? ⟨w.heap.size, 6, none⟩ = some (.slice (some ⟨gt, ot, none⟩) r.tags.length ct) := fun w' e => HG10.out.at 6 w' e
   have g107 : ∀ w', Ext w10 w' → w'.cell? ⟨w.heap.size, 7, none⟩ = some (.slice (some ⟨gk, ok, none⟩) r.kids.length ck) := fun w' e => HG10.out.at 7 w' e
   go_wp2_with fail
   go_loopw [42] (fun q wr => ∃ (k : Nat) (lr : List Ins), k ≤ r.tags.length ∧ q = .int .i64 (k : Int) ∧ lr.length ≤ l.length + 2 + r.tags.length + 2 * k ∧ Hid (KV (fun k => X k ∨ k = w.heap.size) W0 p dv st (.slice Ae es.length ce) wr lr) ∧ Hid (MR (fun k => X k ∨ k = w.heap.size) W1 wr)) (fun q _ => r.tags.length - (intOf q).toNat)
   case atStart => exact ⟨0, l10, by omega, rfl, by have := HN.out; omega, HK10.out, HX10.out⟩
   case round =>
    clear g102 g103 g104 g106 g107
    obtain ⟨k, l19, hkn, rfl, hl19, HK19, HX19⟩ := hrel
    have HG19 : Hid (Box wr w.heap.size #[.string r.nm, .int .i64 r.kind, .int .i64 r.size, .bool r.little, .slice Ab r.bytes.length cb, .slice An r.names.length cn, .slice (some ⟨gt, ot, none⟩) r.tags.length ct, .slice (some ⟨gk, ok, none⟩) r.kids.length ck] 96) := (HX19.out.kept _ (.inr rfl)).trans HG1.out
    have g192 : ∀ w', Ext wr w' → w'.cell? ⟨w.heap.size, 2, none⟩ = some (.int .i64 r.size) := fun w' e => HG19.out.at 2 w' e
    have g193 : ∀ w', Ext wr w' → w'.cell? ⟨w.heap.size, 3, none⟩ = some (.bool r.little) := fun w' e => HG19.out.at 3 w' e
    have g194 : ∀ w', Ext wr w' → w'.cell? ⟨w.heap.size, 4, none⟩ = some (.slice Ab r.bytes.length cb) := fun w' e => HG19.out.at 4 w' e
    have g196 : ∀ w', Ext wr w' → w'.cell? ⟨w.heap.size, 6, none⟩ = some (.slice (some ⟨gt, ot, none⟩) r.tags.length ct) := fun w' e => HG19.out.at 6 w' e
    have g197 : ∀ w', Ext wr w' → w'.cell? ⟨w.heap.size, 7, none⟩ = some (.slice (some ⟨gk, ok, none⟩) r.kids.length ck) := fun w' e => HG19.out.at 7 w' e
    by_cases hlt : k < r.tags.length
    ·have hki : (k : Int) < (r.tags.length : Int) := by omega
     have hkk0 : (k : Int) + 1 < (r.kids.length : Int) := by omega
     have hkn1 : ((k : Int) + 1).toNat = k + 1 := by omega
     have hk20 : (k : Int) + 1 ≤ 20 := by have := HN.out; omega
     by_cases hk0 : k = 0
     ·subst hk0
      obtain ⟨kk19, hkk19, hkc19⟩ := HKY.out (0 + 1) (by have := HN.out; omega)
      have hkw19 : ∀ w', Ext wr w' → w'.cell? ⟨gk, ok + (0 + 1), none⟩ = some (.int .i64 (kk19 : Int)) := fun w' e => hkc19 w' ((let ⟨_, h⟩ := HK19.out; h.ext).trans e)
      clear hkc19
      go_wp2_with fail
      refine (CK.out l19 kk19 _ HK19.out (by have := HL.out; have := HN.out; omega) hkk19).mono ?_; rintro _ w20 ⟨rfl, ⟨l20, hl20, hm20⟩, hr20⟩
      have HK20 := Lib.hid hm20; have HX20 := Lib.hid (HX19.out.trans hr20)
      have HG20 : Hid (Box w20 w.heap.size #[.string r.nm, .int .i64 r.kind, .int .i64 r.size, .bool r.little, .slice Ab r.bytes.length cb, .slice An r.names.length cn, .slice (some ⟨gt, ot, none⟩) r.tags.length ct, .slice (some ⟨gk, ok, none⟩) r.kids.length ck] 96) := (hr20.kept _ (.inr rfl)).trans HG19.out
      clear hm20 hr20 g192 g193 g194 g196 g197
      have g202 : ∀ w', Ext w20 w' → w'.cell? ⟨w.heap.size, 2, none⟩ = some (.int .i64 r.size) := fun w' e => HG20.out.at 2 w' e
      have g203 : ∀ w', Ext w20 w' → w'.cell? ⟨w.heap.size, 3, none⟩ = some (.bool r.little) := fun w' e => HG20.out.at 3 w' e
      have g204 : ∀ w', Ext w20 w' → w'.cell? ⟨w.heap.size, 4, none⟩ = some (.slice Ab r.bytes.length cb) := fun w' e => HG20.out.at 4 w' e
      have g206 : ∀ w', Ext w20 w' → w'.cell? ⟨w.heap.size, 6, none⟩ = some (.slice (some ⟨gt, ot, none⟩) r.tags.length ct) := fun w' e => HG20.out.at 6 w' e
      have g207 : ∀ w', Ext w20 w' → w'.cell? ⟨w.heap.size, 7, none⟩ = some (.slice (some ⟨gk, ok, none⟩) r.kids.length ck) := fun w' e => HG20.out.at 7 w' e
      go_wp2
      go_roundw
      case rel => exact ⟨0 + 1, l20, by omega, by go_num, by omega, HK20.out, HX20.out⟩
      case measure => simp [intOf]; omega
     ·have hkp : (0 : Int) < (k : Int) := by omega
      have hk0b : decide ((0 : Int) < (k : Int)) = true := decide_eq_true hkp
      go_wp2_with fail
      refine (CA.out l19 10 0 0 _ HK19.out (by have := HL.out; have := HN.out; omega)).mono ?_; rintro _ w20 ⟨rfl, ⟨l20, hl20, hm20⟩, hr20⟩
      have HK20 := Lib.hid hm20; have HX20 := Lib.hid (HX19.out.trans hr20)
      have HG20 : Hid (Box w20 w.heap.size #[.string r.nm, .int .i64 r.kind, .int .i64 r.size, .bool r.little, .slice Ab r.bytes.length cb, .slice An r.names.length cn, .slice (some ⟨gt, ot, none⟩) r.tags.length ct, .slice (some ⟨gk, ok, none⟩) r.kids.length ck] 96) := (hr20.kept _ (.inr rfl)).trans HG19.out
      clear hm20 hr20 g192 g193 g194 g196 g197
      have g202 : ∀ w', Ext w20 w' → w'.cell? ⟨w.heap.size, 2, none⟩ = some (.int .i64 r.size) := fun w' e => HG20.out.at 2 w' e
      have g203 : ∀ w', Ext w20 w' → w'.cell? ⟨w.heap.size, 3, none⟩ = some (.bool r.little) := fun w' e => HG20.out.at 3 w' e
      have g204 : ∀ w', Ext w20 w' → w'.cell? ⟨w.heap.size, 4, none⟩ = some (.slice Ab r.bytes.length cb) := fun w' e => HG20.out.at 4 w' e
      have g206 : ∀ w', Ext w20 w' → w'.cell? ⟨w.heap.size, 6, none⟩ = some (.slice (some ⟨gt, ot, none⟩) r.tags.length ct) := fun w' e => HG20.out.at 6 w' e
      have g207 : ∀ w', Ext w20 w' → w'.cell? ⟨w.heap.size, 7, none⟩ = some (.slice (some ⟨gk, ok, none⟩) r.kids.length ck) := fun w' e => HG20.out.at 7 w' e
      obtain ⟨kk20, hkk20, hkc20⟩ := HKY.out (k + 1) (by have := HN.out; omega)
      have hkw20 : ∀ w', Ext w20 w' → w'.cell? ⟨gk, ok + (k + 1), none⟩ = some (.int .i64 (kk20 : Int)) := fun w' e => hkc20 w' ((let ⟨_, h⟩ := HK20.out; h.ext).trans e)
      clear hkc20
      go_wp2_with fail
      refine (CK.out l20 kk20 _ HK20.out (by have := HL.out; have := HN.out; omega) hkk20).mono ?_; rintro _ w21 ⟨rfl, ⟨l21, hl21, hm21⟩, hr21⟩
      have HK21 := Lib.hid hm21; have HX21 := Lib.hid (HX20.out.trans hr21)
      have HG21 : Hid (Box w21 w.heap.size #[.string r.nm, .int .i64 r.kind, .int .i64 r.size, .bool r.little, .slice Ab r.bytes.length cb, .slice An r.names.length cn, .slice (some ⟨gt, ot, none⟩) r.tags.length ct, .slice (some ⟨gk, ok, none⟩) r.kids.length ck] 96) := (hr21.kept _ (.inr rfl)).trans HG20.out
      clear hm21 hr21 g202 g203 g204 g206 g207
      have g212 : ∀ w', Ext w21 w' → w'.cell? ⟨w.heap.size, 2, none⟩ = some (.int .i64 r.size) := fun w' e => HG21.out.at 2 w' e
      have g213 : ∀ w', Ext w21 w' → w'.cell? ⟨w.heap.size, 3, none⟩ = some (.bool r.little) := fun w' e => HG21.out.at 3 w' e
      have g214 : ∀ w', Ext w21 w' → w'.cell? ⟨w.heap.size, 4, none⟩ = some (.slice Ab r.bytes.length cb) := fun w' e => HG21.out.at 4 w' e
      have g216 : ∀ w', Ext w21 w' → w'.cell? ⟨w.heap.size, 6, none⟩ = some (.slice (some ⟨gt, ot, none⟩) r.tags.length ct) := fun w' e => HG21.out.at 6 w' e
      have g217 : ∀ w', Ext w21 w' → w'.cell? ⟨w.heap.size, 7, none⟩ = some (.slice (some ⟨gk, ok, none⟩) r.kids.length ck) := fun w' e => HG21.out.at 7 w' e
      go_wp2
      go_roundw
      case rel => exact ⟨k + 1, l21, by omega, by go_num, by omega, HK21.out, HX21.out⟩
      case measure => simp [intOf]; omega
    ·have hkd : decide ((k : Int) < (r.tags.length : Int)) = false := decide_eq_false (by omega)
     have hke : k = r.tags.length := by omega
     go_wp2
     first
      | exact bodyPost_end (results_none rfl _ _ _) rfl ⟨rfl, ⟨l19, by have := HN.out; omega, HK19.out.weak HXW.out⟩, HR1.out.trans (HX19.out.weak HXW.out)⟩
      | exact bodyPost_ret (results_none rfl _ _ _) rfl ⟨rfl, ⟨l19, by have := HN.out; omega, HK19.out.weak HXW.out⟩, HR1.out.trans (HX19.out.weak HXW.out)⟩
end Go.Proofs.YtpmcofmdjckijaaGreat
