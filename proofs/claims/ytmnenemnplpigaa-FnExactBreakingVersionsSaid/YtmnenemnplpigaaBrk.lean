/- BreakingVersions of the program and of the reference: the walks. -/
import Derived.Test.YtmnenemnplpigaaExt6
namespace Go.Proofs.Ytmnenemnplpigaa
open Go.RowKit Go.Sort

@[go_sem] theorem run_store_func' {P : Program} {w : World} {a : Addr} {m : Mode} (f : Fn) (x y : Array Value) : (store a (.func f x y) m).run P w = stored P w a (.func f x y) m := run_store P w a _ m rfl
def brkUpTo (gs : List (List DRule)) (k : Nat) : List Nat := (List.range k).filter fun i => decide (1 ≤ i) && !extD (gs.getD (i - 1) []) (gs.getD i [])
/-- the versions that do not extend the one before -/
def breaking (gs : List (List DRule)) : List Int := (brkUpTo gs gs.length).map fun (i : Nat) => (i : Int)
theorem brk_one (gs : List (List DRule)) : brkUpTo gs 1 = [] := by unfold brkUpTo; simp [List.range_succ]
theorem brk_zero (gs : List (List DRule)) : brkUpTo gs 0 = [] := rfl
theorem brk_succ {gs : List (List DRule)} {m : Nat} (h : m + 1 < gs.length) : brkUpTo gs (m + 2) = if extD gs[m] gs[m + 1] = true then brkUpTo gs (m + 1) else brkUpTo gs (m + 1) ++ [m + 1] := by
  unfold brkUpTo
  rw [List.range_succ (n := m + 1), List.filter_append]
  have h1 : gs.getD (m + 1 - 1) [] = gs[m] := by simp [Nat.lt_of_succ_lt h]
  have h2 : gs.getD (m + 1) [] = gs[m + 1] := by simp [h]
  simp only [List.filter_cons, List.filter_nil]
  rw [h1, h2]
  cases extD gs[m] gs[m + 1] <;> simp
theorem brk_len (gs : List (List DRule)) (k : Nat) : (brkUpTo gs k).length ≤ k := by
  unfold brkUpTo; have := List.length_filter_le (fun i => decide (1 ≤ i) && !extD (gs.getD (i - 1) []) (gs.getD i [])) (List.range k); simpa using this
theorem breaking_len {gs : List (List DRule)} (h : szG gs ≤ 1048576) : (breaking gs).length ≤ 1048576 := by
  unfold breaking; rw [List.length_map]; have := brk_len gs gs.length; unfold szG at h; omega
set_option maxRecDepth 100000 in
set_option maxHeartbeats 4000000 in
theorem iBrk1_c (A A' : Option Addr) (a b : List DRule) (c c' : Nat) (w : World) (ha : RdD w A a c) (hb : RdD w A' b c') (hsa : ShortD a) (hwa : WfD a) (hsb : ShortD b) (hwb : WfD b) :
    Gives Try.prog 91 #[vdesc (.slice A a.length c), vdesc (.slice A' b.length c')] w (.bool (!extD a b)) := by
  have eb := Ext_alloc (.cells #[.slice A' b.length c'] 30) (Ext_alloc (.cells #[.slice A a.length c] 30) (Ext.refl w))
  have BX := fun w' (e : Ext ((w.alloc (.cells #[.slice A a.length c] 30)).alloc (.cells #[.slice A' b.length c'] 30)) w') => boxed2 e
  have B0 := fun w' e => (BX w' e).1
  have B1 := fun w' e => (BX w' e).2.1
  clear BX
  have C1 := Lib.hid (fun w' (e : Ext w w') => iExtD_c A A' a b c c' w' (ha.ext e) (hb.ext e) hsa hwa hsb hwb)
  clear ha hb hsa hwa hsb hwb
  unfold vdesc at *
  generalize extD a b = z at *
  go_enter Try.func91, Try.ntmps91
  go_wp2_with fail
  refine (C1.out _ eb).mono ?_; rintro _ w1 ⟨rfl, s1⟩
  go_wp2
  go_ret
  exact ⟨rfl, eb.trans s1⟩
set_option maxRecDepth 100000 in
set_option maxHeartbeats 8000000 in
theorem sBrk_c (A : Option Addr) (gs : List (List DRule)) (c : Nat) (w : World) (hd : RdG w A gs c) (hs : ShortG gs) (hw : WfG gs) (hL : gs.length ≤ 1048576) :
    Calls Try.prog 46 #[vdesc (.slice A gs.length c)] w fun e w' => ∃ v, e = .returned v ∧ OwnL vint 3 w w' v (breaking gs) ∧ Ext w w' := by
  have hl := hd.len
  have eb := Ext_alloc (.cells #[.slice A gs.length c] 55) (Ext.refl w)
  have BX := fun w' (e : Ext (w.alloc (.cells #[.slice A gs.length c] 55)) w') => boxed e
  obtain ⟨W0, hW0⟩ : ∃ W0, W0 = (w.alloc (.cells #[.slice A gs.length c] 55)) := ⟨_, rfl⟩
  rw [← hW0] at eb BX
  have hs0 : W0.heap.size = w.heap.size + 1 := by rw [hW0]; simp
  have OE := OwnL.empty (f := vint) (e := 3) (Ext.refl W0)
  rw [hs0] at OE
  have HOE := Lib.hid OE; have HW0 := Lib.hid hW0
  have x0 := Ext_alloc (.cells #[] 3) (Ext.refl W0)
  clear OE hW0 hs0
  have HD := Lib.hid hd; have HS := Lib.hid hs; have HWf := Lib.hid hw
  clear hd hs hw
  unfold vdesc at *
  go_enter Try.func46, Try.ntmps46
  go_wp2
  rw [← HW0.out]
  go_loopw [3, 4] (fun t ix wr => ∃ m : Nat, (m + 1 ≤ gs.length ∨ m = 0) ∧ ix = .int .i64 ((m : Int) + 1) ∧ Hid (OwnL vint 3 W0 wr t ((brkUpTo gs (m + 1)).map fun (i : Nat) => (i : Int))) ∧ Ext W0 wr) (fun _ ix _ => gs.length - (intOf ix).toNat)
  case atStart => exact ⟨0, .inr rfl, by go_num, by rw [brk_one]; exact HOE, x0⟩
  case round =>
    clear HOE x0
    obtain ⟨m, hm, rfl, ho, he⟩ := hrel
    by_cases hlt : m + 1 < gs.length
    · obtain ⟨b, off, A1, c1, hA, hb, hS1, k0⟩ := HD.out.at m (by omega)
      obtain ⟨b2, off2, A2, c2, hA2, hb2, hS2, k1⟩ := HD.out.at (m + 1) hlt
      subst hA
      injection hA2 with hA2; injection hA2 with q1 q2; subst q1; subst q2
      have HN := Lib.hid (brk_succ hlt)
      have C := Lib.hid (fun w' (e : Ext w w') => sExtD_c A1 A2 gs[m] gs[m + 1] c1 c2 w' (hS1.ext e) (hS2.ext e) (HS.out _ (List.getElem_mem _)) (HWf.out _ (List.getElem_mem _)) (HS.out _ (List.getElem_mem hlt)) (HWf.out _ (List.getElem_mem hlt)))
      unfold vdesc at C
      have hll := brk_len gs (m + 1)
      have HB : Hid ((((brkUpTo gs (m + 1)).map fun (i : Nat) => (i : Int)).length + [(m : Int) + 1].length) * 8 ≤ 140737488355328) := by show _ ≤ _; rw [List.length_map]; simp only [List.length_cons, List.length_nil]; omega
      generalize gs[m] = p at *
      generalize gs[m + 1] = q at *
      replace k0 := fun w' (e : Ext W0 w') => k0 w' (eb.trans e); replace k1 := fun w' (e : Ext W0 w') => k1 w' (eb.trans e)
      generalize brkUpTo gs (m + 1) = E at *
      obtain ⟨E', hE'⟩ : ∃ E', brkUpTo gs (m + 2) = E' := ⟨_, rfl⟩
      rw [hE'] at HN
      have HEE := Lib.hid hE'; clear hE' hll hm
      generalize extD p q = z at *
      have b1 : (0 : Int) ≤ (m : Int) := by omega
      have b2 : (m : Int) < (gs.length : Int) := by omega
      have b3 : (m : Int) + 1 < (gs.length : Int) := by omega
      cases z
      · have HE : Hid ((E.map fun (i : Nat) => (i : Int)) ++ [(m : Int) + 1] = E'.map fun (i : Nat) => (i : Int)) := by show _ = _; rw [HN.out]; simp
        clear HN
        go_wp2_with fail
        refine wp_region_quiet_below (by kernel_rfl) (by kernel_rfl) ?_
        repeat (go_big_quiet_step ((go_at_call 32; exact Calls.regrown_of (C.out _ (eb.trans (by first | assumption | exact Ext_regrown _ _ he))))))
        refine wpQuiet_nil ?_
        rintro w3 ⟨⟨nq, osq⟩, hq⟩
        have ew3 := ext_of_q hq
        clear hq nq osq
        have HO := Lib.hid (ho.out.ext ew3)
        have e3 := he.trans ew3
        go_wp2_with (first
          | (at_builtin; go_must (refine wpList_appN rfl (.tmp 26) (.tmp 28) _ rfl E_int (by omega) W0 _ vint (fun _ => rfl) _ rfl _ _ rfl (E.map fun (i : Nat) => (i : Int)) [(m : Int) + 1] _ rfl HO.out e3 rfl HB.out ?_); intro v1 w5 ho1 he1; rw [HE.out, ← HEE.out] at ho1))
        have H1 := Lib.hid ho1; clear ho1
        go_roundw
        case rel => exact ⟨m + 1, .inl (by omega), by go_num, H1, he1⟩
        case measure => simp [intOf]; omega
      · have HE : Hid (E = E') := by show _ = _; rw [HN.out]; rfl
        clear HN
        go_wp2_with fail
        refine wp_region_quiet_below (by kernel_rfl) (by kernel_rfl) ?_
        repeat (go_big_quiet_step ((go_at_call 32; exact Calls.regrown_of (C.out _ (eb.trans (by first | assumption | exact Ext_regrown _ _ he))))))
        refine wpQuiet_nil ?_
        rintro w3 ⟨⟨nq, osq⟩, hq⟩
        have ew3 := ext_of_q hq
        clear hq nq osq
        have HO := Lib.hid (ho.out.ext ew3)
        rw [HE.out, ← HEE.out] at HO
        go_wp2
        go_roundw
        case rel => exact ⟨m + 1, .inl (by omega), by go_num, HO, he.trans ew3⟩
        case measure => simp [intOf]; omega
    · have HF : Hid ((brkUpTo gs (m + 1)).map (fun (i : Nat) => (i : Int)) = breaking gs) := by
        show _ = _
        unfold breaking
        rcases hm with hm | hm
        · rw [show m + 1 = gs.length by omega]
        · subst hm
          rcases Nat.lt_or_ge 0 gs.length with h | h
          · rw [show gs.length = 0 + 1 by omega]
          · rw [show gs.length = 0 by omega, brk_one, brk_zero]
      have d1 : decide ((m : Int) + 1 < (gs.length : Int)) = false := decide_eq_false (by omega)
      go_wp2
      go_ret
      refine ⟨_, rfl, ?_, eb.trans he⟩
      rw [← HF.out]
      exact ho.out.down eb.size
set_option maxRecDepth 100000 in
set_option maxHeartbeats 8000000 in
theorem iBrkV_c (A : Option Addr) (gs : List (List DRule)) (c : Nat) (w : World) (hd : RdG w A gs c) (hs : ShortG gs) (hw : WfG gs) (hL : gs.length ≤ 1048576) :
    Calls Try.prog 92 #[.agg #[.slice A gs.length c, .func (.func 91) #[] #[]]] w fun e w' => ∃ v, e = .returned v ∧ OwnL vint 3 w w' v (breaking gs) ∧ Ext w w' := by
  have hl := hd.len
  have eb := Ext_alloc (.cells #[.slice A gs.length c, .func (.func 91) #[] #[]] 108) (Ext.refl w)
  have BX := fun w' (e : Ext (w.alloc (.cells #[.slice A gs.length c, .func (.func 91) #[] #[]] 108)) w') => boxed e
  obtain ⟨W0, hW0⟩ : ∃ W0, W0 = (w.alloc (.cells #[.slice A gs.length c, .func (.func 91) #[] #[]] 108)) := ⟨_, rfl⟩
  rw [← hW0] at eb BX
  have hs0 : W0.heap.size = w.heap.size + 1 := by rw [hW0]; simp
  have OE := OwnL.empty (f := vint) (e := 3) (Ext.refl W0)
  rw [hs0] at OE
  have HOE := Lib.hid OE; have HW0 := Lib.hid hW0
  have x0 := Ext_alloc (.cells #[] 3) (Ext.refl W0)
  clear OE hW0 hs0
  have HD := Lib.hid hd; have HS := Lib.hid hs; have HWf := Lib.hid hw
  clear hd hs hw
  unfold vdesc at *
  go_enter Try.func92, Try.ntmps92
  go_wp2
  rw [← HW0.out]
  go_loopw [3, 4] (fun t ix wr => ∃ m : Nat, (m + 1 ≤ gs.length ∨ m = 0) ∧ ix = .int .i64 ((m : Int) + 1) ∧ Hid (OwnL vint 3 W0 wr t ((brkUpTo gs (m + 1)).map fun (i : Nat) => (i : Int))) ∧ Ext W0 wr) (fun _ ix _ => gs.length - (intOf ix).toNat)
  case atStart => exact ⟨0, .inr rfl, by go_num, by rw [brk_one]; exact HOE, x0⟩
  case round =>
    clear HOE x0
    obtain ⟨m, hm, rfl, ho, he⟩ := hrel
    by_cases hlt : m + 1 < gs.length
    · obtain ⟨b, off, A1, c1, hA, hb, hS1, k0⟩ := HD.out.at m (by omega)
      obtain ⟨b2, off2, A2, c2, hA2, hb2, hS2, k1⟩ := HD.out.at (m + 1) hlt
      subst hA
      injection hA2 with hA2; injection hA2 with q1 q2; subst q1; subst q2
      have HN := Lib.hid (brk_succ hlt)
      have C := Lib.hid (fun w' (e : Ext w w') => iBrk1_c A1 A2 gs[m] gs[m + 1] c1 c2 w' (hS1.ext e) (hS2.ext e) (HS.out _ (List.getElem_mem _)) (HWf.out _ (List.getElem_mem _)) (HS.out _ (List.getElem_mem hlt)) (HWf.out _ (List.getElem_mem hlt)))
      unfold vdesc at C
      have hll := brk_len gs (m + 1)
      have HB : Hid ((((brkUpTo gs (m + 1)).map fun (i : Nat) => (i : Int)).length + [(m : Int) + 1].length) * 8 ≤ 140737488355328) := by show _ ≤ _; rw [List.length_map]; simp only [List.length_cons, List.length_nil]; omega
      generalize gs[m] = p at *
      generalize gs[m + 1] = q at *
      replace k0 := fun w' (e : Ext W0 w') => k0 w' (eb.trans e); replace k1 := fun w' (e : Ext W0 w') => k1 w' (eb.trans e)
      generalize brkUpTo gs (m + 1) = E at *
      obtain ⟨E', hE'⟩ : ∃ E', brkUpTo gs (m + 2) = E' := ⟨_, rfl⟩
      rw [hE'] at HN
      have HEE := Lib.hid hE'; clear hE' hll hm
      generalize extD p q = z at *
      have b1 : (0 : Int) ≤ (m : Int) := by omega
      have b2 : (m : Int) < (gs.length : Int) := by omega
      have b3 : (m : Int) + 1 < (gs.length : Int) := by omega
      cases z
      · have HE : Hid ((E.map fun (i : Nat) => (i : Int)) ++ [(m : Int) + 1] = E'.map fun (i : Nat) => (i : Int)) := by show _ = _; rw [HN.out]; simp
        clear HN
        go_wp2_with fail
        refine wp_region_quiet_below (by kernel_rfl) (by kernel_rfl) ?_
        repeat (go_big_quiet_step ((go_at_call 91; exact Calls.regrown_of (C.out _ (eb.trans (by first | assumption | exact Ext_regrown _ _ he))))))
        refine wpQuiet_nil ?_
        rintro w3 ⟨⟨nq, osq⟩, hq⟩
        have ew3 := ext_of_q hq
        clear hq nq osq
        have HO := Lib.hid (ho.out.ext ew3)
        have e3 := he.trans ew3
        go_wp2_with (first
          | (at_builtin; go_must (refine wpList_appN rfl (.tmp 27) (.tmp 29) _ rfl E_int (by omega) W0 _ vint (fun _ => rfl) _ rfl _ _ rfl (E.map fun (i : Nat) => (i : Int)) [(m : Int) + 1] _ rfl HO.out e3 rfl HB.out ?_); intro v1 w5 ho1 he1; rw [HE.out, ← HEE.out] at ho1))
        have H1 := Lib.hid ho1; clear ho1
        go_roundw
        case rel => exact ⟨m + 1, .inl (by omega), by go_num, H1, he1⟩
        case measure => simp [intOf]; omega
      · have HE : Hid (E = E') := by show _ = _; rw [HN.out]; rfl
        clear HN
        go_wp2_with fail
        refine wp_region_quiet_below (by kernel_rfl) (by kernel_rfl) ?_
        repeat (go_big_quiet_step ((go_at_call 91; exact Calls.regrown_of (C.out _ (eb.trans (by first | assumption | exact Ext_regrown _ _ he))))))
        refine wpQuiet_nil ?_
        rintro w3 ⟨⟨nq, osq⟩, hq⟩
        have ew3 := ext_of_q hq
        clear hq nq osq
        have HO := Lib.hid (ho.out.ext ew3)
        rw [HE.out, ← HEE.out] at HO
        go_wp2
        go_roundw
        case rel => exact ⟨m + 1, .inl (by omega), by go_num, HO, he.trans ew3⟩
        case measure => simp [intOf]; omega
    · have HF : Hid ((brkUpTo gs (m + 1)).map (fun (i : Nat) => (i : Int)) = breaking gs) := by
        show _ = _
        unfold breaking
        rcases hm with hm | hm
        · rw [show m + 1 = gs.length by omega]
        · subst hm
          rcases Nat.lt_or_ge 0 gs.length with h | h
          · rw [show gs.length = 0 + 1 by omega]
          · rw [show gs.length = 0 by omega, brk_one, brk_zero]
      have d1 : decide ((m : Int) + 1 < (gs.length : Int)) = false := decide_eq_false (by omega)
      go_wp2
      go_ret
      refine ⟨_, rfl, ?_, eb.trans he⟩
      rw [← HF.out]
      exact ho.out.down eb.size
set_option maxRecDepth 100000 in
set_option maxHeartbeats 4000000 in
theorem iBrk_c (A : Option Addr) (gs : List (List DRule)) (c : Nat) (w : World) (hd : RdG w A gs c) (hs : ShortG gs) (hw : WfG gs) (hL : gs.length ≤ 1048576) :
    Calls Try.prog 47 #[vdesc (.slice A gs.length c)] w fun e w' => ∃ v, e = .returned v ∧ OwnL vint 3 w w' v (breaking gs) ∧ Ext w w' := by
  have eb1 := Ext_alloc (.cells #[.slice A gs.length c] 55) (Ext.refl w)
  have eb := Ext_alloc (.cells #[.slice A gs.length c, .func (.func 91) #[] #[]] 108) eb1
  have BX := fun w' (e : Ext (w.alloc (.cells #[.slice A gs.length c] 55)) w') => boxed e
  have BY := fun w' (e : Ext ((w.alloc (.cells #[.slice A gs.length c] 55)).alloc (.cells #[.slice A gs.length c, .func (.func 91) #[] #[]] 108)) w') => (boxed2 e).2.1
  have C := Lib.hid (iBrkV_c A gs c _ (hd.ext eb) hs hw hL)
  unfold vdesc
  go_enter Try.func47, Try.ntmps47
  go_wp2_with fail
  refine C.out.mono ?_; rintro _ w1 ⟨v, rfl, ho, s1⟩
  go_wp2
  go_ret
  exact ⟨v, rfl, ho.down eb.size, eb.trans s1⟩
end Go.Proofs.Ytmnenemnplpigaa
