/- The walk of the law on renaming. -/
import Derived.Test.YtophjmphjdhjoaaZLp8
set_option linter.unusedVariables false
set_option linter.unusedSimpArgs false
namespace Go.Proofs.Ytophjmphjdhjoaa
open Go.RowKit Go.Sort

theorem sum_le {α : Type} (f : α → Nat) (m : Nat) : ∀ l : List α, (∀ x ∈ l, f x ≤ m) → (l.map f).sum ≤ l.length * m
  | [], _ => by simp
  | a :: t, h => by
    have h1 := h a (List.mem_cons_self ..)
    have h2 := sum_le f m t (fun x hx => h x (List.mem_cons_of_mem _ hx))
    rw [List.map_cons, List.sum_cons, List.length_cons, Nat.add_mul]; omega
theorem SmR.sz {r : DRule} (h : SmR r) : szRl r ≤ 1200 := by
  have h1 := h.lens; have h2 := h.nm
  have h3 := sum_le ByteArray.size 60 r.names h.nms
  have h4 : r.names.length * 60 ≤ 16 * 60 := Nat.mul_le_mul_right 60 h1.2.1
  unfold szRl szStrs; omega
theorem SmD.sz {ds : List DRule} (h : SmD ds) : szD ds ≤ 100000 := by
  have h1 := sum_le szRl 1200 ds (fun r hr => (h.2 r hr).sz)
  have h2 : ds.length * 1200 ≤ 24 * 1200 := Nat.mul_le_mul_right 1200 h.1
  have h3 := h.1
  unfold szD; omega
theorem wf_i64 {x : Int} (h : -1000000 ≤ x ∧ x ≤ 1000000) : (Lit.int .i64 x).wf = true := by
  have h1 : IntKind.i64.min ≤ x := Int.le_trans (by decide : IntKind.i64.min ≤ -1000000) h.1
  have h2 : x ≤ IntKind.i64.max := Int.le_trans h.2 (by decide : (1000000 : Int) ≤ IntKind.i64.max)
  simp only [Lit.wf, decide_eq_true h1, decide_eq_true h2, Bool.and_self]
theorem SmR.wf {r : DRule} (h : SmR r) : WfR r :=
  ⟨by have := h.nm; omega, fun s hs => by have := h.nms s hs; omega, wf_i64 (by have := h.kind; omega), wf_i64 (by have := h.ints.1; omega), fun x hx => wf_i64 (by have := h.ints.2.1 x hx; omega), fun x hx => wf_i64 (by have := h.ints.2.2 x hx; omega)⟩
theorem SmD.wf {ds : List DRule} (h : SmD ds) : WfD ds := fun r hr => (h.2 r hr).wf
theorem SmD.short {ds : List DRule} (h : SmD ds) : ShortD ds := shortD_of (by have := h.sz; omega)
theorem SmD.ren {ds : List DRule} (h : SmD ds) {f t : ByteArray} (ht : t.size ≤ 60) : SmD (renD ds f t) := by
  unfold renD
  split
  · rename_i hok
    unfold renOk at hok
    rw [Bool.and_eq_true, decide_eq_true_eq] at hok
    obtain ⟨hk, _⟩ := findR_spec hok.1
    refine ⟨by rw [setNm_len]; exact h.1, fun q hq => ?_⟩
    rcases mem_setNm hk hq with h1 | rfl
    · exact h.2 q h1
    · have := h.2 _ (List.getElem_mem hk)
      exact ⟨ht, this.lens, this.nms, this.kind, this.ints⟩
  · exact h
theorem OwnD.rdD {w0 w : World} {v : Value} {ps : List RV} (h : OwnD w0 w v ps) {ds : List DRule} (he : rulesOf ps = ds) (hs : SmD ds) : ∃ A c, v = .slice A ds.length c ∧ RdD w A ds c := by
  subst he
  exact h.rd (by have := hs.len; omega) (fun p hp => (hs.2 _ (List.mem_map_of_mem hp)).short)
set_option maxRecDepth 100000 in
set_option maxHeartbeats 8000000 in
theorem lawRenaming_c (A : Option Addr) (l : List UInt8) (c : Nat) (w : World) (h : Rd0 vu8 w A l c) :
    Gives Try.prog 4 #[.slice A l.length c] w (.bool true) := by
  have hl := h.len
  by_cases hL : (1048576 : Int) < (l.length : Int)
  · have HD : Hid (decide ((1048576 : Int) < (l.length : Int)) = true) := by show _ = _; simpa using hL
    go_enter Try.func4, Try.ntmps4
    go_wp2_with fail
    refine (big_c _ _ _ _ h).mono ?_; rintro _ w1 ⟨rfl, he1⟩; rw [HD.out]
    go_wp2
    go_ret
    exact ⟨rfl, he1⟩
  have HD : Hid (decide ((1048576 : Int) < (l.length : Int)) = false) := by show _ = _; simpa using hL
  have hA : Bs w A l c := ⟨h, by omega⟩
  clear hL
  have CI := Lib.hid (fun A ds c f t w h hz hw ht => iRen_c A ds c f t w h hz hw ht)
  have CS := Lib.hid (fun A ds c f t w h hz hw ht => sRen_c A ds c f t w h hz hw ht)
  have CE := Lib.hid (fun A A' ds es c c' w h h' hs hs' => sEqualDescriptions_c A A' ds es c c' w h h' hs hs')
  have CV := Lib.hid (fun A ds c w hd hs hw => sValidDesc_c A ds c w hd hs hw)
  have CF := Lib.hid (fun A A' a b c c' w ha hb hsa hwa hsb hwb => sSame_c A A' a b c c' w ha hb hsa hwa hsb hwb)
  have CD := Lib.hid (fun w hA => drawRename_c A l c w hA)
  unfold vdesc at CI CS CE CV CF CD
  go_enter Try.func4, Try.ntmps4
  go_wp2_with fail
  refine (big_c _ _ _ _ h).mono ?_; rintro _ w1 ⟨rfl, he1⟩; rw [HD.out]
  go_wp2_with fail
  refine (CD.out _ (hA.ext he1)).mono ?_; rintro _ w2 ⟨v, ps, f, t, rfl, hSM, hO, hf, ht, he2⟩
  obtain ⟨ds, hds⟩ : ∃ ds, rulesOf ps = ds := ⟨_, rfl⟩
  rw [hds] at hSM
  obtain ⟨A1, c1, rfl, r1⟩ := hO.rdD hds hSM
  have e2 := he1.trans he2
  have hsz := Lib.hid (show szD ds ≤ 1048576 by have := hSM.sz; omega)
  have hwf := Lib.hid hSM.wf; have hsh := Lib.hid hSM.short
  have HSR := Lib.hid (hSM.ren (f := f) ht)
  have HF1 : Hid (f.size ≤ 9223372036854775807) := by show _ ≤ _; omega
  have HT1 : Hid (t.size ≤ 9223372036854775807) := by show _ ≤ _; omega
  have HSM := Lib.hid hSM
  have R1 := Lib.hid r1
  clear hO hds hSM he1 he2 r1
  have x2 := Ext_alloc (.cells #[.slice A1 ds.length c1] 26) (Ext.refl w2)
  have B2 := fun w' (e : Ext (w2.alloc (.cells #[.slice A1 ds.length c1] 26)) w') => boxed e
  have HR0 : Hid (renOk ds f t = true → descOk (renD ds f t) = true ∧ sameF (renD ds f t) ds = descOk ds ∧ renOk (renD ds f t) t f = descOk ds ∧ (descOk ds = true → renD (renD ds f t) t f = ds)) := fun hh => ren_law hh
  have HR1 : Hid (renOk ds f t = false → renD ds f t = ds) := fun hh => by unfold renD; rw [hh]; rfl
  go_wp2_with fail
  refine (CI.out _ _ _ _ _ _ (R1.out.ext x2) hsz.out hwf.out HT1.out).mono ?_; rintro _ w3 ⟨v3, ps3, rfl, hps3, hO3, he3⟩
  generalize hX : renD ds f t = X at *
  generalize hz : renOk ds f t = z at *
  have HXE := Lib.hid hX; have HZE := Lib.hid hz; clear hX hz
  obtain ⟨A3, c3, rfl, r3⟩ := hO3.rdD hps3 HSR.out
  have e3 := x2.trans he3
  have x3 := Ext_alloc (.cells #[.slice A3 X.length c3] 26) (Ext.refl w3)
  have B3 := fun w' (e : Ext (w3.alloc (.cells #[.slice A3 X.length c3] 26)) w') => boxed e
  have HszX := Lib.hid (show szD X ≤ 1048576 by have := HSR.out.sz; omega)
  have HwfX := Lib.hid HSR.out.wf; have HshX := Lib.hid HSR.out.short
  have R3 := Lib.hid r3
  replace B2 := fun w' e => B2 w' (he3.trans e)
  clear hO3 hps3 r3
  have b2 : _ = some (Value.slice A1 ds.length c1) := B2 _ (x3) 0
  go_wp2_with fail
  refine (CS.out _ _ _ _ _ _ (R1.out.ext (e3.trans x3)) hsz.out hwf.out HT1.out).mono ?_; rintro _ w4 ⟨v4, ps4, rfl, hps4, hO4, he4⟩
  rw [HXE.out] at hps4
  rw [HZE.out]
  obtain ⟨A4, c4, rfl, _⟩ := hO4.rdD hps4 HSR.out
  have x4 := Ext_alloc (.cells #[.slice A4 X.length c4] 26) (Ext.refl w4)
  have f4 := (x3.trans he4).trans x4
  have b2' : _ = some (Value.slice A1 ds.length c1) := B2 _ f4 0
  have b3' : _ = some (Value.slice A3 X.length c3) := B3 _ (he4.trans x4) 0
  clear hO4 hps4 b2
  cases z
  · have HE : Hid (eqD X ds = true) := by show _ = _; rw [HR1.out rfl]; exact eqD_refl ds
    go_wp2_with fail
    refine (CE.out _ _ _ _ _ _ _ ((R3.out.ext f4)) (R1.out.ext (e3.trans f4)) HshX.out hsh.out).mono ?_; rintro _ w5 ⟨rfl, e5⟩
    rw [HE.out]
    go_wp2
    go_ret
    exact ⟨rfl, (((e2.trans e3).trans f4).trans e5)⟩
  · obtain ⟨k1, k2, k3, k4⟩ := HR0.out rfl
    have K1 := Lib.hid k1; have K2 := Lib.hid k2; have K3 := Lib.hid k3; have K4 := Lib.hid k4
    clear k1 k2 k3 k4 HR0 HR1
    have HSY := Lib.hid (HSR.out.ren (f := t) (t := f) hf)
    go_wp2_with fail
    refine (CI.out _ _ _ _ _ _ (R3.out.ext f4) HszX.out HwfX.out HF1.out).mono ?_; rintro _ w5 ⟨v5, ps5, rfl, hps5, hO5, he5⟩
    rw [K3.out]
    generalize hY : renD X t f = Y at *
    obtain ⟨A5, c5, rfl, r5⟩ := hO5.rdD hps5 HSY.out
    have x5 := Ext_alloc (.cells #[.slice A5 Y.length c5] 26) (Ext.refl w5)
    have f5 := (f4.trans he5).trans x5
    have P2 := fun w' e => B2 w' (f5.trans e) 0
    have P3 := fun w' e => B3 w' (((he4.trans x4).trans (he5.trans x5)).trans e) 0
    have P5 := fun w' (e : Ext (w5.alloc (.cells #[.slice A5 Y.length c5] 26)) w') => boxed e 0
    have RX := Lib.hid (R3.out.ext f5); have RD := Lib.hid (R1.out.ext (e3.trans f5)); have RY := Lib.hid (r5.ext x5)
    have HshY := Lib.hid HSY.out.short
    have KY := Lib.hid (K4.out)
    have HEX := Lib.hid ((e2.trans e3).trans f5)
    clear hO5 hps5 r5 b2' b3' B2 B3 K4 K3 e2 e3 f4 f5 he3 he4 he5 x2 x3 x4 x5
    obtain ⟨W, hW⟩ : ∃ W, W = (w5.alloc (.cells #[.slice A5 Y.length c5] 26)) := ⟨_, rfl⟩
    rw [← hW] at P2 P3 P5 RX RD RY HEX
    have Q2 : ∀ w', Ext W w' → w'.cell? ⟨w2.heap.size, 0, none⟩ = some (Value.slice A1 ds.length c1) := P2
    have Q3 : ∀ w', Ext W w' → w'.cell? ⟨w3.heap.size, 0, none⟩ = some (Value.slice A3 X.length c3) := P3
    have Q5 : ∀ w', Ext W w' → w'.cell? ⟨w5.heap.size, 0, none⟩ = some (Value.slice A5 Y.length c5) := P5
    have HW := Lib.hid hW
    clear hW P2 P3 P5
    have CVX : Hid (∀ w', Ext W w' → Calls Try.prog 16 #[.agg #[.slice A3 X.length c3]] w' fun e w'' => e = .returned (.bool true) ∧ Ext w' w'') := fun w' e => by
      have := CV.out A3 X c3 w' (RX.out.ext e) HshX.out HwfX.out; rw [K1.out] at this; exact this
    have CVD : Hid (∀ w', Ext W w' → Calls Try.prog 16 #[.agg #[.slice A1 ds.length c1]] w' fun e w'' => e = .returned (.bool (descOk ds)) ∧ Ext w' w'') := fun w' e => CV.out A1 ds c1 w' (RD.out.ext e) hsh.out hwf.out
    have CFX : Hid (∀ w', Ext W w' → Gives Try.prog 17 #[.agg #[.slice A3 X.length c3], .agg #[.slice A1 ds.length c1]] w' (.bool (descOk ds))) := fun w' e => by
      have := CF.out A3 A1 X ds c3 c1 w' (RX.out.ext e) (RD.out.ext e) HshX.out HwfX.out hsh.out hwf.out; rw [K2.out] at this; exact this
    have CEY : Hid (descOk ds = true → ∀ w', Ext W w' → Gives Try.prog 15 #[.agg #[.slice A5 Y.length c5], .agg #[.slice A1 ds.length c1]] w' (.bool true)) := fun hd w' e => by
      have := CE.out A5 A1 Y ds c5 c1 w' (RY.out.ext e) (RD.out.ext e) HshY.out hsh.out
      rw [KY.out hd, eqD_refl] at this
      rw [KY.out hd]; exact this
    clear CI CS CE CV CF CD KY RX RD RY hA h
    generalize descOk ds = z at *
    cases z
    · go_wp2_with fail
      rw [← HW.out]
      refine wp_region_quiet_below (by kernel_rfl) (by kernel_rfl) ?_
      repeat (go_big_quiet_step ((first | (go_at_call 16; first | with_reducible exact Calls.regrown_of (CVX.out _ (by first | assumption | exact Ext_regrown _ _ (Ext.refl _))) | with_reducible exact Calls.regrown_of (CVD.out _ (by first | assumption | exact Ext_regrown _ _ (Ext.refl _)))) | (go_at_call 17; exact Calls.regrown_of (CFX.out _ (by first | assumption | exact Ext_regrown _ _ (Ext.refl _)))))))
      refine wpQuiet_nil ?_
      rintro w6 ⟨⟨nq, osq⟩, hq⟩
      have ew6 := ext_of_q hq
      clear hq nq osq
      go_wp2
      go_ret
      exact ⟨rfl, HEX.out.trans ew6⟩
    · have CEZ := Lib.hid (CEY.out rfl)
      clear CEY
      go_wp2_with fail
      rw [← HW.out]
      refine wp_region_quiet_below (by kernel_rfl) (by kernel_rfl) ?_
      repeat (go_big_quiet_step ((first | (go_at_call 16; first | with_reducible exact Calls.regrown_of (CVX.out _ (by first | assumption | exact Ext_regrown _ _ (Ext.refl _))) | with_reducible exact Calls.regrown_of (CVD.out _ (by first | assumption | exact Ext_regrown _ _ (Ext.refl _)))) | (go_at_call 17; exact Calls.regrown_of (CFX.out _ (by first | assumption | exact Ext_regrown _ _ (Ext.refl _)))) | (go_at_call 15; exact Calls.regrown_of (CEZ.out _ (by first | assumption | exact Ext_regrown _ _ (Ext.refl _)))))))
      refine wpQuiet_nil ?_
      rintro w6 ⟨⟨nq, osq⟩, hq⟩
      have ew6 := ext_of_q hq
      clear hq nq osq
      go_wp2
      go_ret
      exact ⟨rfl, HEX.out.trans ew6⟩
end Go.Proofs.Ytophjmphjdhjoaa

/- The walk of the law on lost parts. -/
namespace Go.Proofs.Ytophjmphjdhjoaa
open Go.RowKit Go.Sort

theorem lost_len16 {a b : List DRule} {ra rb : Int} (hs : SmD a) : (lost a ra b rb).length ≤ 16 := by
  unfold lost
  split
  · split
    · split
      · rename_i p q hp hq
        split
        · split
          · unfold lostN
            have h1 := List.length_filter_le (fun s => !hasNm q.names s) p.names
            have h2 := (hs.2 p (List.mem_of_getElem? hp)).lens
            omega
          · simp
        · simp
      · simp
    · simp
  · simp
set_option maxRecDepth 100000 in
set_option maxHeartbeats 16000000 in
theorem lawParts_c (A : Option Addr) (l : List UInt8) (c : Nat) (w : World) (h : Rd0 vu8 w A l c) :
    Gives Try.prog 3 #[.slice A l.length c] w (.bool true) := by
  have hl := h.len
  by_cases hL : (1048576 : Int) < (l.length : Int)
  · have HD : Hid (decide ((1048576 : Int) < (l.length : Int)) = true) := by show _ = _; simpa using hL
    go_enter Try.func3, Try.ntmps3
    go_wp2_with fail
    refine (big_c _ _ _ _ h).mono ?_; rintro _ w1 ⟨rfl, he1⟩; rw [HD.out]
    go_wp2
    go_ret
    exact ⟨rfl, he1⟩
  have HD : Hid (decide ((1048576 : Int) < (l.length : Int)) = false) := by show _ = _; simpa using hL
  have hA : Bs w A l c := ⟨h, by omega⟩
  clear hL
  have CI := Lib.hid (fun A A' a b c c' ra rb w h1 h2 h3 h4 h5 h6 h7 => iLost_c A A' a b c c' ra rb w h1 h2 h3 h4 h5 h6 h7)
  have CF := Lib.hid (fun A A' a b c c' ra rb w h1 h2 h3 h4 h5 h6 h7 => iDef_c A A' a b c c' ra rb w h1 h2 h3 h4 h5 h6 h7)
  have CS := Lib.hid (fun A A' a b c c' ra rb w h1 h2 h3 h4 h5 h6 h7 => sLost_c A A' a b c c' ra rb w h1 h2 h3 h4 h5 h6 h7)
  have CD := Lib.hid (fun w hA => drawLost_c A l c w hA)
  unfold vdesc at CI CS CF CD
  go_enter Try.func3, Try.ntmps3
  go_wp2_with fail
  refine (big_c _ _ _ _ h).mono ?_; rintro _ w1 ⟨rfl, he1⟩; rw [HD.out]
  go_wp2_with fail
  refine (CD.out _ (hA.ext he1)).mono ?_; rintro _ w2 ⟨v1, v2, a, b, i, rfl, hs1, hs2, K1, K2, hi, he2⟩
  obtain ⟨A1, c1, hv1, r1⟩ := K1.rd
  obtain ⟨A2, c2, hv2, r2⟩ := K2.rd
  subst hv1; subst hv2
  have e2 := he1.trans he2
  have hz1 := Lib.hid (show szD a ≤ 1048576 by have := hs1.sz; omega); have hz2 := Lib.hid (show szD b ≤ 1048576 by have := hs2.sz; omega)
  have hw1 := Lib.hid hs1.wf; have hw2 := Lib.hid hs2.wf; have hh1 := Lib.hid hs1.short; have hh2 := Lib.hid hs2.short
  obtain ⟨W3, hW3, BA, BB, e3, _⟩ := boxes2' w2 #[.slice A1 a.length c1] #[.slice A2 b.length c2] 26 26
  have R1 := Lib.hid (r1.ext e3); have R2 := Lib.hid (r2.ext e3)
  have q1 : ∀ w', Ext W3 w' → w'.cell? ⟨w2.heap.size, 0, none⟩ = some (Value.slice A1 a.length c1) := fun w' e => (BA.ext e).cell 0
  have q2 : ∀ w', Ext W3 w' → w'.cell? ⟨w2.heap.size + 1, 0, none⟩ = some (Value.slice A2 b.length c2) := fun w' e => (BB.ext e).cell 0
  have E3 := Lib.hid (e2.trans e3)
  have HL1 := Lib.hid (lost_len16 (b := b) (ra := i) (rb := i) hs1); have HL2 := Lib.hid (lost_len16 (b := a) (ra := i) (rb := i) hs2)
  have HP := Lib.hid (fun s => lost_mem (a := a) (b := b) (ra := i) (rb := i) (s := s))
  have d1 := q1 _ (Ext.refl _); have d2 := q2 _ (Ext.refl _)
  rw [hW3.out] at d1 d2
  clear K1 K2 hs1 hs2 r1 r2 he1 he2 e2 CD BA BB e3 hA h
  go_wp2_with fail
  rw [← hW3.out]
  refine (CI.out A1 A2 a b c1 c2 i i W3 R1.out R2.out hh1.out hw1.out hh2.out hw2.out hz1.out).mono ?_; rintro _ w4 ⟨v4, rfl, ho4, e4⟩
  obtain ⟨A4, c4, hv4, r4⟩ := OwnL.rd ho4 (by have := HL1.out; omega)
  subst hv4
  have d1 := q1 _ e4; have d2 := q2 _ e4
  clear ho4
  go_wp2_with fail
  refine (CF.out A1 A2 a b c1 c2 i i w4 (R1.out.ext e4) (R2.out.ext e4) hh1.out hw1.out hh2.out hw2.out hz2.out).mono ?_; rintro _ w5 ⟨v5, rfl, ho5, e5⟩
  obtain ⟨A5, c5, hv5, r5⟩ := OwnL.rd ho5 (by have := HL2.out; omega)
  subst hv5
  have R4 := Lib.hid (r4.ext e5); have R5 := Lib.hid r5
  have e35 := e4.trans e5
  have d1 := q1 _ e35; have d2 := q2 _ e35
  clear ho5 r4 r5
  generalize hLL : lost a i b i = LL at *
  generalize hMM : lost b i a i = MM at *
  have HLL := Lib.hid hLL; have HMM := Lib.hid hMM; clear hLL hMM
  go_wp2_with fail
  refine (CS.out A1 A2 a b c1 c2 i i w5 (R1.out.ext e35) (R2.out.ext e35) hh1.out hw1.out hh2.out hw2.out hz1.out).mono ?_; rintro _ w6 ⟨v6, rfl, ho6, e6⟩
  rw [HLL.out] at ho6
  obtain ⟨A6, c6, hv6, r6⟩ := OwnL.rd ho6 (by have := HL1.out; omega)
  subst hv6
  clear ho6 d1 d2
  go_wp2_with fail
  refine (sameTexts_c A4 A6 LL LL c4 c6 w6 ((R4.out.ext e6).1) r6.1).mono ?_; rintro _ w7 ⟨rfl, e7⟩
  rw [eqNms_refl]
  have e37 := (e35.trans e6).trans e7
  have d1 := q1 _ e37; have d2 := q2 _ e37
  clear r6
  go_wp2_with fail
  refine (CS.out A2 A1 b a c2 c1 i i w7 (R2.out.ext e37) (R1.out.ext e37) hh2.out hw2.out hh1.out hw1.out hz2.out).mono ?_; rintro _ w8 ⟨v8, rfl, ho8, e8⟩
  rw [HMM.out] at ho8
  obtain ⟨A8, c8, hv8, r8⟩ := OwnL.rd ho8 (by have := HL2.out; omega)
  subst hv8
  clear ho8 d1 d2
  go_wp2_with fail
  refine (sameTexts_c A5 A8 MM MM c5 c8 w8 (((R5.out.ext e6).ext (e7.trans e8)).1) r8.1).mono ?_; rintro _ w9 ⟨rfl, e9⟩
  rw [eqNms_refl]
  have e39 := e37.trans (e8.trans e9)
  have HE := Lib.hid (E3.out.trans e39)
  have R49 := Lib.hid ((R4.out.ext e6).ext ((e7.trans e8).trans e9)); have R59 := Lib.hid ((R5.out.ext e6).ext ((e7.trans e8).trans e9))
  have R19 := Lib.hid (R1.out.ext e39)
  have p1 := fun w' (e : Ext w9 w') => q1 w' (e39.trans e)
  clear r8 R4 R5 R1 R2 q1 q2 e4 e5 e35 e6 e7 e37 e8 e9 e39 CI CF CS
  go_wp2
  go_loopw [9] (fun t wr => ∃ k : Nat, k ≤ LL.length ∧ t = .int .i64 k ∧ Ext w9 wr) (fun t _ => LL.length - (intOf t).toNat)
  case atStart => exact ⟨0, by omega, rfl, Ext.refl _⟩
  case round =>
    obtain ⟨k, hk, rfl, e⟩ := hrel
    by_cases hlt : k < LL.length
    · obtain ⟨ia, hia, hi', hn1, hn2⟩ := HP.out LL[k] (List.getElem_mem hlt)
      subst hi'
      obtain ⟨bn, on, rfl, _, hcl⟩ := R49.out.at k hlt
      obtain ⟨b0, o0, Ab, cb, An, cn, At, ct, Ak, ck, rfl, _, hS, hRa⟩ := R19.out.at ia hia
      have lN := hRa.c5
      have RN := Lib.hid (hS.n)
      have CC := Lib.hid (fun A l c s w h => sContains_c A l c s w h)
      have N1 := Lib.hid hn1; have N2 := Lib.hid hn2
      have C1 : Hid (∀ w', Ext wr w' → Calls Try.prog 11 #[.slice A5 MM.length c5, .string LL[k]] w' fun e w'' => e = .returned (.bool false) ∧ Ext w' w'') := fun w' e' => by
        have := CC.out A5 MM c5 LL[k] w' ((R59.out.ext (e.trans e')).1); rw [N2.out] at this; exact this
      have C2 : Hid (∀ w', Ext wr w' → Calls Try.prog 11 #[.slice An a[ia].names.length cn, .string LL[k]] w' fun e w'' => e = .returned (.bool true) ∧ Ext w' w'') := fun w' e' => by
        have := CC.out An a[ia].names cn LL[k] w' (RN.out.ext (e.trans e')); rw [N1.out] at this; exact this
      have b1 : (ia : Int) < (a.length : Int) := by omega
      have hl0 := fun w' (e' : Ext wr w') => hcl w' (e.trans e')
      have hl1 := fun w' (e' : Ext wr w') => lN w' (e.trans e')
      have hl2 := fun w' (e' : Ext wr w') => p1 w' (e.trans e')
      clear hn1 hn2 hRa hS hcl lN N1 N2 CC RN R49 R59 R19 HP
      have hk1 : k + 1 ≤ LL.length := hlt
      have hk16 : (k : Int) + 1 ≤ 16 := by have := HL1.out; omega
      have HK1 := Lib.hid hk1
      have HK2 : Hid (LL.length - (k + 1) < LL.length - k) := by show _ < _; omega
      generalize LL[k] = s at *
      generalize a[ia] = r at *
      go_wp2_with fail
      refine wp_region_quiet_below (by kernel_rfl) (by kernel_rfl) ?_
      repeat (go_big_quiet_step ((go_at_call 11; first | with_reducible exact Calls.regrown_of (C1.out _ (by first | assumption | exact Ext_regrown _ _ (Ext.refl _))) | with_reducible exact Calls.regrown_of (C2.out _ (by first | assumption | exact Ext_regrown _ _ (Ext.refl _))))))
      refine wpQuiet_nil ?_
      rintro w10 ⟨⟨nq, osq⟩, hq⟩
      have ew10 := ext_of_q hq
      clear hq nq osq
      go_wp2
      go_roundw
      case rel => exact ⟨k + 1, HK1.out, by go_num, e.trans ew10⟩
      case measure => have := HK2.out; simp [intOf]; omega
    · obtain rfl : k = LL.length := by omega
      go_wp2
      go_ret
      exact ⟨rfl, HE.out.trans e⟩
end Go.Proofs.Ytophjmphjdhjoaa
