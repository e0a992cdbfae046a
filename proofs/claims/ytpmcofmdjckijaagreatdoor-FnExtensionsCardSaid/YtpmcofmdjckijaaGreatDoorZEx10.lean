/- Draws of descriptions: l29Pair (two descriptions, often alike). (Printed by gen/gx41.py.) -/
import Derived.Test.YtpmcofmdjckijaaGreatDoorZEx9
import Derived.IntWalk
set_option linter.unusedVariables false
set_option linter.unusedSimpArgs false
set_option maxRecDepth 100000
set_option maxHeartbeats 16000000
namespace Go.Proofs.YtpmcofmdjckijaaGreatDoor
open Go.RowKit Go.Sort
theorem l29Pair_c (wb w : World) (p : Nat) (A : Option Addr) (l : List UInt8) (c : Nat) (hA : Bs wb A l c) (hC : Cur wb w p A l c) :
 Calls Tryz.prog 29 #[.pointer (some ⟨p, 0, none⟩)] w fun e w' => ∃ v1 v2 d1 d2, e = .returned (.tuple #[vdesc v1, vdesc v2]) ∧ SmD d1 ∧ SmD d2 ∧ KeepD w.heap.size w' v1 d1 ∧ KeepD w.heap.size w' v2 d2 ∧ Cur wb w' p A l c ∧ w.grownBy w' (some p) := by
 have hplt := hC.lt
 have hbw := hC.2.1.size
 have CBe := Lib.hid (fun n w h hn => l1Below_c n wb w p A l c hA h hn)
 have COn := Lib.hid (fun n w h hn => l1Once_c n wb w p A l c hA h hn)
 have CD := Lib.hid (fun w h => l4Description_c wb w p A l c hA h)
 have CMk := Lib.hid (fun Ad ds cd kind hk h1 h2 h3 w h hD => l4Make_c Ad ds cd kind hk h1 h2 h3 wb w p A l c hA h hD)
 have CWd := Lib.hid (fun Aa ds ca h1 h2 w1 h hD => l29Wider_c Aa ds ca h1 h2 wb w1 p A l c hA h hD)
 have CCp := Lib.hid (fun Aa ds ca w1 h hz => sCopyD_c Aa ds ca w1 h hz)
 have CY := Lib.hid (fun w h => l4Any_c wb w p A l c hA h)
 unfold vdesc at *
 unfold vrule at CMk
 obtain ⟨W0, hW0, HR1, HR2, e0, hsA⟩ := boxes2' w #[.slice none 0 0] #[.slice none 0 0] 26 26
 have hsA := Lib.hid hsA
 have HR1 := Lib.hid HR1; have HR2 := Lib.hid HR2
 go_enter Tryz.func29, Tryz.ntmps29
 go_wp2_with fail
 rw [← hW0.out]
 refine (CD.out _ (hC.ext e0)).mono ?_; rintro _ w2 ⟨v, ps, rfl, hV, hp6, hC2, hg2⟩
 obtain ⟨Ad, cd, hv⟩ := hV.own.shape
 subst hv
 have hB2 := HR2.out.moved hg2 (some_ne (by omega))
 have hpl2 := hC2.lt
 have hRl := hB2.lt
 have x2 := Ext_alloc (.cells #[Value.slice Ad ps.length cd] 26) (Ext.refl w2)
 have S0 : Hid (DS wb W0 (w2.alloc (.cells #[Value.slice Ad ps.length cd] 26)) p A l c w2.heap.size (Value.slice Ad ps.length cd) ps w.heap.size) :=
  ⟨Box.new w2 _ _, hV.own.ext x2, fun u hu b hb => by
   have h1 := hV.new u hu b hb
   have h2 := (hV.own.block u hu b hb).2
   have := hsA.out
   exact ⟨by omega, by omega, by omega, by omega⟩, hC2.ext x2, hg2.trans (grown_ext x2 _), by have := hg2.size; omega, by omega, by omega, (HR1.out.moved hg2 (some_ne (by omega))).ext x2, by omega, by omega⟩
 have HB2 := Lib.hid (hB2.ext x2)
 have HMV : Hid (MadeD (rulesOf ps) ∧ (∀ q ∈ ps, SmallR q.r) ∧ ∃ h : 0 < (rulesOf ps).length, (rulesOf ps)[0].kind = 1) := ⟨hV.made, fun q hq => hV.small.2 _ (List.mem_map_of_mem hq), hV.first⟩
 have HG0 := Lib.hid (grown_ext e0 (some p))
 clear hV hC2 hg2 hB2 x2 CD HR1 HR2
 go_wp2_with fail
 refine (COn.out 2 _ S0.out.cur (by omega)).mono ?_; rintro _ w3 ⟨b, rfl, hC3, hg3⟩
 have S3 := Lib.hid (S0.out.moved hC3 hg3)
 have HB23 := Lib.hid (HB2.out.moved hg3 (some_ne (by omega)))
 clear S0 HB2 hC3 hg3 COn
 cases b with
 | false =>
  have HL : Hid (ps.length ≤ 7 ∧ MadeD (rulesOf ps) ∧ (∀ q ∈ ps, SmallR q.r) ∧ 0 < ps.length) := ⟨by omega, HMV.out.1, HMV.out.2.1, by obtain ⟨h, _⟩ := HMV.out.2.2; simpa [rulesOf] using h⟩
  clear HMV CMk
  have hSD : Hid (SmallD (rulesOf ps)) := ⟨by have := HL.out.1; simp [rulesOf] at this ⊢; omega, fun r hr => by obtain ⟨q, hq, rfl⟩ := List.mem_map.1 hr; exact HL.out.2.2.1 q hq⟩
  have hlr : Hid ((rulesOf ps).length = ps.length) := by show _ = _; simp [rulesOf]
  have hmk := Lib.hid (made_kinds HL.out.2.1 hSD.out)
  have HSM1 : Hid (SmD (rulesOf ps)) := MadeD.sm HL.out.2.1 hSD.out
  go_wp2_with fail
  refine (CBe.out 5 _ S3.out.cur (by omega)).mono ?_; rintro _ w4 ⟨y, hy, rfl, hC4, hg4⟩
  have S4 := Lib.hid (S3.out.moved hC4 hg4)
  have HB24 := Lib.hid (HB23.out.moved hg4 (some_ne (by omega)))
  clear S3 HB23 hC4 hg4 CBe hy
  rcases (by omega : y = 0 ∨ y = 1 ∨ y = 2 ∨ 3 ≤ y) with rfl | rfl | rfl | hy3
  ·have SX := Lib.hid (S4.out.ext (Ext_drew (Ext.refl w4)))
   have HB2X := Lib.hid (HB24.out.ext (Ext_drew (Ext.refl w4)))
   have HWX : w.heap.size + 2 ≤ w4.drew.heap.size := by have := SX.out.grow.size; have := hsA.out; omega
   have CX : Hid (∀ w', w' = w4.drew → Calls Tryz.prog 46 #[.agg #[Value.slice Ad ps.length cd]] w' fun e w'' => ∃ (A5 : Option Addr) (n5 c5 : Nat) (d5 : List DRule), e = .returned (.agg #[.slice A5 n5 c5]) ∧ SmD d5 ∧ KeepD (w.heap.size + 2) w'' (.slice A5 n5 c5) d5 ∧ Cur wb w'' p A l c ∧ w'.grownBy w'' (some p)) := fun w' hw' => by
    subst hw'
    obtain ⟨Ad', cd', hv', hrd⟩ := SX.out.rd hSD.out
    injection hv' with q1 _ q2
    subst q1; subst q2
    have h1 := CCp.out _ _ _ w4.drew (hrd _ (World.grownBy.refl _ _)) hSD.out.szD
    rw [hlr.out] at h1
    refine h1.mono ?_
    rintro e w'' ⟨v, ps5, rfl, h2, h3, h4⟩
    obtain ⟨A5, c5, hv⟩ := h3.shape
    subst hv
    exact ⟨A5, _, c5, rulesOf ps5, rfl, by rw [h2]; exact HSM1.out, h3.keepD (by rw [h2]; exact HSM1.out) (fun u hu b hb => by have := (h3.block u hu b hb).1; omega), SX.out.cur.ext h4, grown_ext h4 _⟩
   have HAB : lv2 (fun w' => w'.cell? ⟨w2.heap.size, 0, none⟩ = some (Value.slice Ad ps.length cd)) (fun _ => True) 1 w4.drew := SX.out.box.cell 0
   clear CWd CCp CY S4 HB24
   go_wp2_with fail
   refine wp_region_C (C := fun j => lv2 (fun w' => w'.cell? ⟨w2.heap.size, 0, none⟩ = some (Value.slice Ad ps.length cd)) (fun _ => True) (([1, 1, 1, 1, 0] : List Nat).getD j 0)) (by kernel_rfl) ?_
   refine tkC 1 (i := 0) (v := ?_) rfl (by kernel_rfl) HAB (Or.inl ⟨by rfl, ?_⟩) ?_
   rotate_left
   ·(intro w9 hSw; have hfact : w9.cell? ⟨w2.heap.size, 0, none⟩ = some (Value.slice Ad ps.length cd) := hSw; clear hSw; go_simp; try with_reducible rfl)
   try simp only [Act.put, lpa, lpz, lps]
   refine tkC 1 (i := 1) (v := ?_) rfl (by kernel_rfl) HAB (Or.inl ⟨by rfl, ?_⟩) ?_
   rotate_left
   ·(intro w9 hSw; have hfact : w9.cell? ⟨w2.heap.size, 0, none⟩ = some (Value.slice Ad ps.length cd) := hSw; clear hSw; go_simp; try with_reducible rfl)
   try simp only [Act.put, lpa, lpz, lps]
   refine wpAnyC_one (i := 2) (by kernel_rfl) rfl (fun K hK => ?_)
   go_simp
   go_at_call 46
   refine (CX.out _ rfl).mono ?_
   rintro _ w6 ⟨A5, n5, c5, d5, rfl, hsm5, hk5, hC6, hg6⟩
   have S6 := Lib.hid (SX.out.moved hC6 hg6)
   have HB26 := Lib.hid (HB2X.out.moved hg6 (some_ne (by omega)))
   have HSM5 := Lib.hid hsm5
   have KB6 := Lib.hid hk5
   have r1 : _ = some (Value.slice none 0 0) := S6.out.res.cell 0
   have r1f := S6.out.res.free 0
   have r2 : _ = some (Value.slice none 0 0) := HB26.out.cell 0
   have r2f := HB26.out.free 0
   clear hsm5 hk5 hC6 hg6
   refine Shut.out hK _ _ (S6.out.box.cell 0) ?_
   try simp only [Act.put, lpa, lpz, lps]
   refine wpAnyC_one (i := 3) (by kernel_rfl) rfl (fun K hK => ?_)
   go_simp
   refine Shut.out hK _ _ ((S6.out.box.other (g' := w.heap.size) (by omega) 0 (Value.slice Ad ps.length cd)).cell 0) ?_
   try simp only [Act.put, lpa, lpz, lps]
   refine wpAnyC_one (i := 4) (by kernel_rfl) rfl (fun K hK => ?_)
   go_simp
   refine Shut.out hK _ _ trivial ?_
   try simp only [Act.put, lpa, lpz, lps]
   refine wpAnyC_done (by kernel_rfl) ?_ _
   have KA6 := S6.out.own.keepD (n0 := w.heap.size + 2) HSM1.out (fun u hu b hb => by have := (S6.out.new u hu b hb).1; have := hsA.out; omega)
   have PF := Lib.hid (pair_fin (u1 := Value.slice Ad ps.length cd) (u2 := Value.slice A5 n5 c5) S6.out.cur (HG0.out.trans S6.out.grow) KA6 KB6.out S6.out.res HB26.out hbw hplt)
   obtain ⟨k1, k2, kc, kg, z1, z2⟩ := PF.out
   have F1 := Lib.hid k1; have F2 := Lib.hid k2; have F3 := Lib.hid kc; have F4 := Lib.hid kg
   clear PF HAB r1 r1f r2 r2f k1 k2 kc kg KA6
   go_wp2_with fail
   refine bodyPost_ret (v := .tuple #[.agg #[Value.slice Ad ps.length cd], .agg #[Value.slice A5 n5 c5]]) (by simp [results, Tryz.results29, go_sem, z1, z2]) rfl ?_
   first
    | exact ⟨_, _, (rulesOf ps), d5, rfl, HSM1.out, HSM5.out, F1.out, F2.out, F3.out, F4.out⟩
    | exact ⟨_, _, rfl, (rulesOf ps), d5, HSM1.out, HSM5.out, F1.out, F2.out, F3.out, F4.out⟩
    | exact ⟨_, _, ⟨rfl, rfl⟩, (rulesOf ps), d5, HSM1.out, HSM5.out, F1.out, F2.out, F3.out, F4.out⟩
  ·have SX := Lib.hid (S4.out.ext (Ext_drew (Ext.refl w4)))
   have HB2X := Lib.hid (HB24.out.ext (Ext_drew (Ext.refl w4)))
   have HWX : w.heap.size + 2 ≤ w4.drew.heap.size := by have := SX.out.grow.size; have := hsA.out; omega
   have CX : Hid (∀ w', w' = w4.drew → Calls Tryz.prog 22 #[.pointer (some ⟨p, 0, none⟩), .agg #[Value.slice Ad ps.length cd]] w' fun e w'' => ∃ (A5 : Option Addr) (n5 c5 : Nat) (d5 : List DRule), e = .returned (.agg #[.slice A5 n5 c5]) ∧ SmD d5 ∧ KeepD (w.heap.size + 2) w'' (.slice A5 n5 c5) d5 ∧ Cur wb w'' p A l c ∧ w'.grownBy w'' (some p)) := fun w' hw' => by
    subst hw'
    obtain ⟨Ad', cd', hv', hrd⟩ := SX.out.rd hSD.out
    injection hv' with q1 _ q2
    subst q1; subst q2
    have h1 := CWd.out _ _ _ hSD.out hmk.out.2 w4.drew SX.out.cur (hrd _ (World.grownBy.refl _ _))
    rw [hlr.out] at h1
    refine h1.mono ?_
    rintro e w'' ⟨v, ps5, rfl, h2, h3, h4, h5, h6⟩
    obtain ⟨A5, c5, hv⟩ := h3.shape
    subst hv
    have h7 : SmD (rulesOf ps5) := WI.smD (by rw [hlr.out]; exact h2) hSD.out hmk.out.1
    exact ⟨A5, _, c5, rulesOf ps5, rfl, h7, h3.keepD h7 (fun u hu b hb => by have := h4 u hu b hb; omega), h5, h6⟩
   have HAB : lv2 (fun w' => w'.cell? ⟨w2.heap.size, 0, none⟩ = some (Value.slice Ad ps.length cd)) (fun _ => True) 1 w4.drew := SX.out.box.cell 0
   clear CWd CCp CY S4 HB24
   go_wp2_with fail
   refine wp_region_C (C := fun j => lv2 (fun w' => w'.cell? ⟨w2.heap.size, 0, none⟩ = some (Value.slice Ad ps.length cd)) (fun _ => True) (([0, 1, 1, 1, 1, 0] : List Nat).getD j 0)) (by kernel_rfl) ?_
   refine tkC 0 (i := 0) (v := ?_) rfl (by kernel_rfl) trivial (Or.inl ⟨by rfl, ?_⟩) ?_
   rotate_left
   ·(intro w9 hSw; clear hSw; go_simp; try with_reducible rfl)
   try simp only [Act.put, lpa, lpz, lps]
   refine tkC 1 (i := 1) (v := ?_) rfl (by kernel_rfl) HAB (Or.inl ⟨by rfl, ?_⟩) ?_
   rotate_left
   ·(intro w9 hSw; have hfact : w9.cell? ⟨w2.heap.size, 0, none⟩ = some (Value.slice Ad ps.length cd) := hSw; clear hSw; go_simp; try with_reducible rfl)
   try simp only [Act.put, lpa, lpz, lps]
   refine tkC 1 (i := 3) (v := ?_) rfl (by kernel_rfl) HAB (Or.inl ⟨by rfl, ?_⟩) ?_
   rotate_left
   ·(intro w9 hSw; have hfact : w9.cell? ⟨w2.heap.size, 0, none⟩ = some (Value.slice Ad ps.length cd) := hSw; clear hSw; go_simp; try with_reducible rfl)
   try simp only [Act.put, lpa, lpz, lps]
   refine wpAnyC_one (i := 2) (by kernel_rfl) rfl (fun K hK => ?_)
   go_simp
   go_at_call 22
   refine (CX.out _ rfl).mono ?_
   rintro _ w6 ⟨A5, n5, c5, d5, rfl, hsm5, hk5, hC6, hg6⟩
   have S6 := Lib.hid (SX.out.moved hC6 hg6)
   have HB26 := Lib.hid (HB2X.out.moved hg6 (some_ne (by omega)))
   have HSM5 := Lib.hid hsm5
   have KB6 := Lib.hid hk5
   have r1 : _ = some (Value.slice none 0 0) := S6.out.res.cell 0
   have r1f := S6.out.res.free 0
   have r2 : _ = some (Value.slice none 0 0) := HB26.out.cell 0
   have r2f := HB26.out.free 0
   clear hsm5 hk5 hC6 hg6
   refine Shut.out hK _ _ (S6.out.box.cell 0) ?_
   try simp only [Act.put, lpa, lpz, lps]
   refine wpAnyC_one (i := 4) (by kernel_rfl) rfl (fun K hK => ?_)
   go_simp
   refine Shut.out hK _ _ ((S6.out.box.other (g' := w.heap.size) (by omega) 0 (Value.slice A5 n5 c5)).cell 0) ?_
   try simp only [Act.put, lpa, lpz, lps]
   refine wpAnyC_one (i := 5) (by kernel_rfl) rfl (fun K hK => ?_)
   go_simp
   refine Shut.out hK _ _ trivial ?_
   try simp only [Act.put, lpa, lpz, lps]
   refine wpAnyC_done (by kernel_rfl) ?_ _
   have KA6 := S6.out.own.keepD (n0 := w.heap.size + 2) HSM1.out (fun u hu b hb => by have := (S6.out.new u hu b hb).1; have := hsA.out; omega)
   have PF := Lib.hid (pair_fin (u1 := Value.slice A5 n5 c5) (u2 := Value.slice Ad ps.length cd) S6.out.cur (HG0.out.trans S6.out.grow) KB6.out KA6 S6.out.res HB26.out hbw hplt)
   obtain ⟨k1, k2, kc, kg, z1, z2⟩ := PF.out
   have F1 := Lib.hid k1; have F2 := Lib.hid k2; have F3 := Lib.hid kc; have F4 := Lib.hid kg
   clear PF HAB r1 r1f r2 r2f k1 k2 kc kg KA6
   go_wp2_with fail
   refine bodyPost_ret (v := .tuple #[.agg #[Value.slice A5 n5 c5], .agg #[Value.slice Ad ps.length cd]]) (by simp [results, Tryz.results29, go_sem, z1, z2]) rfl ?_
   first
    | exact ⟨_, _, d5, (rulesOf ps), rfl, HSM5.out, HSM1.out, F1.out, F2.out, F3.out, F4.out⟩
    | exact ⟨_, _, rfl, d5, (rulesOf ps), HSM5.out, HSM1.out, F1.out, F2.out, F3.out, F4.out⟩
    | exact ⟨_, _, ⟨rfl, rfl⟩, d5, (rulesOf ps), HSM5.out, HSM1.out, F1.out, F2.out, F3.out, F4.out⟩
  ·have SX := Lib.hid (S4.out.ext (Ext_drew (Ext.refl w4)))
   have HB2X := Lib.hid (HB24.out.ext (Ext_drew (Ext.refl w4)))
   have HWX : w.heap.size + 2 ≤ w4.drew.heap.size := by have := SX.out.grow.size; have := hsA.out; omega
   have CX : Hid (∀ w', w' = w4.drew → Calls Tryz.prog 53 #[.pointer (some ⟨p, 0, none⟩)] w' fun e w'' => ∃ (A5 : Option Addr) (n5 c5 : Nat) (d5 : List DRule), e = .returned (.agg #[.slice A5 n5 c5]) ∧ SmD d5 ∧ KeepD (w.heap.size + 2) w'' (.slice A5 n5 c5) d5 ∧ Cur wb w'' p A l c ∧ w'.grownBy w'' (some p)) := fun w' hw' => by
    subst hw'
    refine (CY.out w4.drew SX.out.cur).mono ?_
    rintro e w'' ⟨v, ps5, rfl, h2, _, h5, h6⟩
    obtain ⟨A5, c5, hv⟩ := h2.own.shape
    subst hv
    exact ⟨A5, _, c5, rulesOf ps5, rfl, h2.small, h2.own.keepD h2.small (fun u hu b hb => by have := h2.new u hu b hb; omega), h5, h6⟩
   have HAB : lv2 (fun w' => w'.cell? ⟨w2.heap.size, 0, none⟩ = some (Value.slice Ad ps.length cd)) (fun _ => True) 1 w4.drew := SX.out.box.cell 0
   clear CWd CCp CY S4 HB24
   go_wp2_with fail
   refine wp_region_C (C := fun j => lv2 (fun w' => w'.cell? ⟨w2.heap.size, 0, none⟩ = some (Value.slice Ad ps.length cd)) (fun _ => True) (([1, 0, 1, 1, 0] : List Nat).getD j 0)) (by kernel_rfl) ?_
   refine tkC 0 (i := 1) (v := ?_) rfl (by kernel_rfl) trivial (Or.inl ⟨by rfl, ?_⟩) ?_
   rotate_left
   ·(intro w9 hSw; clear hSw; go_simp; try with_reducible rfl)
   try simp only [Act.put, lpa, lpz, lps]
   refine tkC 1 (i := 0) (v := ?_) rfl (by kernel_rfl) HAB (Or.inl ⟨by rfl, ?_⟩) ?_
   rotate_left
   ·(intro w9 hSw; have hfact : w9.cell? ⟨w2.heap.size, 0, none⟩ = some (Value.slice Ad ps.length cd) := hSw; clear hSw; go_simp; try with_reducible rfl)
   try simp only [Act.put, lpa, lpz, lps]
   refine wpAnyC_one (i := 2) (by kernel_rfl) rfl (fun K hK => ?_)
   go_simp
   go_at_call 53
   refine (CX.out _ rfl).mono ?_
   rintro _ w6 ⟨A5, n5, c5, d5, rfl, hsm5, hk5, hC6, hg6⟩
   have S6 := Lib.hid (SX.out.moved hC6 hg6)
   have HB26 := Lib.hid (HB2X.out.moved hg6 (some_ne (by omega)))
   have HSM5 := Lib.hid hsm5
   have KB6 := Lib.hid hk5
   have r1 : _ = some (Value.slice none 0 0) := S6.out.res.cell 0
   have r1f := S6.out.res.free 0
   have r2 : _ = some (Value.slice none 0 0) := HB26.out.cell 0
   have r2f := HB26.out.free 0
   clear hsm5 hk5 hC6 hg6
   refine Shut.out hK _ _ (S6.out.box.cell 0) ?_
   try simp only [Act.put, lpa, lpz, lps]
   refine wpAnyC_one (i := 3) (by kernel_rfl) rfl (fun K hK => ?_)
   go_simp
   refine Shut.out hK _ _ ((S6.out.box.other (g' := w.heap.size) (by omega) 0 (Value.slice Ad ps.length cd)).cell 0) ?_
   try simp only [Act.put, lpa, lpz, lps]
   refine wpAnyC_one (i := 4) (by kernel_rfl) rfl (fun K hK => ?_)
   go_simp
   refine Shut.out hK _ _ trivial ?_
   try simp only [Act.put, lpa, lpz, lps]
   refine wpAnyC_done (by kernel_rfl) ?_ _
   have KA6 := S6.out.own.keepD (n0 := w.heap.size + 2) HSM1.out (fun u hu b hb => by have := (S6.out.new u hu b hb).1; have := hsA.out; omega)
   have PF := Lib.hid (pair_fin (u1 := Value.slice Ad ps.length cd) (u2 := Value.slice A5 n5 c5) S6.out.cur (HG0.out.trans S6.out.grow) KA6 KB6.out S6.out.res HB26.out hbw hplt)
   obtain ⟨k1, k2, kc, kg, z1, z2⟩ := PF.out
   have F1 := Lib.hid k1; have F2 := Lib.hid k2; have F3 := Lib.hid kc; have F4 := Lib.hid kg
   clear PF HAB r1 r1f r2 r2f k1 k2 kc kg KA6
   go_wp2_with fail
   refine bodyPost_ret (v := .tuple #[.agg #[Value.slice Ad ps.length cd], .agg #[Value.slice A5 n5 c5]]) (by simp [results, Tryz.results29, go_sem, z1, z2]) rfl ?_
   first
    | exact ⟨_, _, (rulesOf ps), d5, rfl, HSM1.out, HSM5.out, F1.out, F2.out, F3.out, F4.out⟩
    | exact ⟨_, _, rfl, (rulesOf ps), d5, HSM1.out, HSM5.out, F1.out, F2.out, F3.out, F4.out⟩
    | exact ⟨_, _, ⟨rfl, rfl⟩, (rulesOf ps), d5, HSM1.out, HSM5.out, F1.out, F2.out, F3.out, F4.out⟩
  ·have SX := Lib.hid (S4.out.ext (Ext_drew (Ext.refl w4)))
   have HB2X := Lib.hid (HB24.out.ext (Ext_drew (Ext.refl w4)))
   have HWX : w.heap.size + 2 ≤ w4.drew.heap.size := by have := SX.out.grow.size; have := hsA.out; omega
   have CX : Hid (∀ w', w' = w4.drew → Calls Tryz.prog 22 #[.pointer (some ⟨p, 0, none⟩), .agg #[Value.slice Ad ps.length cd]] w' fun e w'' => ∃ (A5 : Option Addr) (n5 c5 : Nat) (d5 : List DRule), e = .returned (.agg #[.slice A5 n5 c5]) ∧ SmD d5 ∧ KeepD (w.heap.size + 2) w'' (.slice A5 n5 c5) d5 ∧ Cur wb w'' p A l c ∧ w'.grownBy w'' (some p)) := fun w' hw' => by
    subst hw'
    obtain ⟨Ad', cd', hv', hrd⟩ := SX.out.rd hSD.out
    injection hv' with q1 _ q2
    subst q1; subst q2
    have h1 := CWd.out _ _ _ hSD.out hmk.out.2 w4.drew SX.out.cur (hrd _ (World.grownBy.refl _ _))
    rw [hlr.out] at h1
    refine h1.mono ?_
    rintro e w'' ⟨v, ps5, rfl, h2, h3, h4, h5, h6⟩
    obtain ⟨A5, c5, hv⟩ := h3.shape
    subst hv
    have h7 : SmD (rulesOf ps5) := WI.smD (by rw [hlr.out]; exact h2) hSD.out hmk.out.1
    exact ⟨A5, _, c5, rulesOf ps5, rfl, h7, h3.keepD h7 (fun u hu b hb => by have := h4 u hu b hb; omega), h5, h6⟩
   have HAB : lv2 (fun w' => w'.cell? ⟨w2.heap.size, 0, none⟩ = some (Value.slice Ad ps.length cd)) (fun _ => True) 1 w4.drew := SX.out.box.cell 0
   clear CWd CCp CY S4 HB24
   go_wp2_with fail
   refine wp_region_C (C := fun j => lv2 (fun w' => w'.cell? ⟨w2.heap.size, 0, none⟩ = some (Value.slice Ad ps.length cd)) (fun _ => True) (([1, 0, 1, 1, 1, 0] : List Nat).getD j 0)) (by kernel_rfl) ?_
   refine tkC 0 (i := 1) (v := ?_) rfl (by kernel_rfl) trivial (Or.inl ⟨by rfl, ?_⟩) ?_
   rotate_left
   ·(intro w9 hSw; clear hSw; go_simp; try with_reducible rfl)
   try simp only [Act.put, lpa, lpz, lps]
   refine tkC 1 (i := 0) (v := ?_) rfl (by kernel_rfl) HAB (Or.inl ⟨by rfl, ?_⟩) ?_
   rotate_left
   ·(intro w9 hSw; have hfact : w9.cell? ⟨w2.heap.size, 0, none⟩ = some (Value.slice Ad ps.length cd) := hSw; clear hSw; go_simp; try with_reducible rfl)
   try simp only [Act.put, lpa, lpz, lps]
   refine tkC 1 (i := 2) (v := ?_) rfl (by kernel_rfl) HAB (Or.inl ⟨by rfl, ?_⟩) ?_
   rotate_left
   ·(intro w9 hSw; have hfact : w9.cell? ⟨w2.heap.size, 0, none⟩ = some (Value.slice Ad ps.length cd) := hSw; clear hSw; go_simp; try with_reducible rfl)
   try simp only [Act.put, lpa, lpz, lps]
   refine wpAnyC_one (i := 3) (by kernel_rfl) rfl (fun K hK => ?_)
   go_simp
   go_at_call 22
   refine (CX.out _ rfl).mono ?_
   rintro _ w6 ⟨A5, n5, c5, d5, rfl, hsm5, hk5, hC6, hg6⟩
   have S6 := Lib.hid (SX.out.moved hC6 hg6)
   have HB26 := Lib.hid (HB2X.out.moved hg6 (some_ne (by omega)))
   have HSM5 := Lib.hid hsm5
   have KB6 := Lib.hid hk5
   have r1 : _ = some (Value.slice none 0 0) := S6.out.res.cell 0
   have r1f := S6.out.res.free 0
   have r2 : _ = some (Value.slice none 0 0) := HB26.out.cell 0
   have r2f := HB26.out.free 0
   clear hsm5 hk5 hC6 hg6
   refine Shut.out hK _ _ (S6.out.box.cell 0) ?_
   try simp only [Act.put, lpa, lpz, lps]
   refine wpAnyC_one (i := 4) (by kernel_rfl) rfl (fun K hK => ?_)
   go_simp
   refine Shut.out hK _ _ ((S6.out.box.other (g' := w.heap.size) (by omega) 0 (Value.slice Ad ps.length cd)).cell 0) ?_
   try simp only [Act.put, lpa, lpz, lps]
   refine wpAnyC_one (i := 5) (by kernel_rfl) rfl (fun K hK => ?_)
   go_simp
   refine Shut.out hK _ _ trivial ?_
   try simp only [Act.put, lpa, lpz, lps]
   refine wpAnyC_done (by kernel_rfl) ?_ _
   have KA6 := S6.out.own.keepD (n0 := w.heap.size + 2) HSM1.out (fun u hu b hb => by have := (S6.out.new u hu b hb).1; have := hsA.out; omega)
   have PF := Lib.hid (pair_fin (u1 := Value.slice Ad ps.length cd) (u2 := Value.slice A5 n5 c5) S6.out.cur (HG0.out.trans S6.out.grow) KA6 KB6.out S6.out.res HB26.out hbw hplt)
   obtain ⟨k1, k2, kc, kg, z1, z2⟩ := PF.out
   have F1 := Lib.hid k1; have F2 := Lib.hid k2; have F3 := Lib.hid kc; have F4 := Lib.hid kg
   clear PF HAB r1 r1f r2 r2f k1 k2 kc kg KA6
   go_wp2_with fail
   refine bodyPost_ret (v := .tuple #[.agg #[Value.slice Ad ps.length cd], .agg #[Value.slice A5 n5 c5]]) (by simp [results, Tryz.results29, go_sem, z1, z2]) rfl ?_
   first
    | exact ⟨_, _, (rulesOf ps), d5, rfl, HSM1.out, HSM5.out, F1.out, F2.out, F3.out, F4.out⟩
    | exact ⟨_, _, rfl, (rulesOf ps), d5, HSM1.out, HSM5.out, F1.out, F2.out, F3.out, F4.out⟩
    | exact ⟨_, _, ⟨rfl, rfl⟩, (rulesOf ps), d5, HSM1.out, HSM5.out, F1.out, F2.out, F3.out, F4.out⟩
 | true =>
  have hSD : Hid (SmallD (rulesOf ps)) := ⟨by simp [rulesOf]; omega, fun r hr => by obtain ⟨q, hq, rfl⟩ := List.mem_map.1 hr; exact HMV.out.2.1 q hq⟩
  have CP : Hid (∀ (w' : World), DS wb W0 w' p A l c w2.heap.size (.slice Ad ps.length cd) ps w.heap.size → Calls Tryz.prog 21 #[.pointer (some ⟨p, 0, none⟩), .agg #[.slice Ad ps.length cd], .int .i64 7] w' fun e w'' => ∃ q : RV, e = .returned (.agg #[.string q.r.nm, .int .i64 q.r.kind, .int .i64 q.r.size, .bool q.r.little, q.vb, q.vn, q.vt, q.vk]) ∧ SmallR q.r ∧ q.r.kind = 7 ∧ MadeR (rulesOf ps) q.r ∧ RuleOwn wb w'' q ∧ Far q.vals ∧ (∀ u ∈ q.vals, ∀ b, u.ownBlock = some b → w'.heap.size ≤ b) ∧ Cur wb w'' p A l c ∧ w'.grownBy w'' (some p)) := fun w' hS' => by
   obtain ⟨Ad', cd', hv', hrd⟩ := hS'.rd hSD.out
   injection hv' with q1 _ q2
   subst q1; subst q2
   have h1 := CMk.out Ad (rulesOf ps) cd 7 (by omega) (by simp [rulesOf]; omega) (.inr ⟨0, HMV.out.2.2⟩) HMV.out.1 w' hS'.cur hrd
   rw [show (rulesOf ps).length = ps.length by simp [rulesOf]] at h1
   exact h1
  have SX := Lib.hid (S3.out.ext (Ext_drew (Ext.refl w3)))
  have HB2X := Lib.hid (HB23.out.ext (Ext_drew (Ext.refl w3)))
  have HMX : Hid (ps.length + 1 ≤ maxLen ∧ (ps.length + 1) * 136 ≤ 140737488355328) := ⟨by simp only [maxLen]; omega, by omega⟩
  have HPre : Hid (∀ w', DS wb W0 w' p A l c w2.heap.size (.slice Ad ps.length cd) ps w.heap.size → (∀ u ∈ (Value.slice Ad ps.length cd) :: ps.flatMap RV.vals, ∀ b, u.ownBlock = some b → b < w'.heap.size) ∧ (W0.heap.size ≤ w'.heap.size ∧ w2.heap.size < w'.heap.size ∧ p < w'.heap.size ∧ w.heap.size < w'.heap.size)) := fun w' h => by
   have h1 := h.grow.size; have h2 := h.box.lt; have h3 := h.cur.lt; have h4 := h.res.lt
   exact ⟨fun u hu b hb => (h.own.block u hu b hb).2, h1, h2, h3, h4⟩
  have HAB : lv2 (fun w' => w'.cell? ⟨w2.heap.size, 0, none⟩ = some (Value.slice Ad ps.length cd)) (fun _ => True) 1 w3.drew := SX.out.box.cell 0
  clear S3 HB23 CMk
  go_wp2_with fail
  refine wp_region_C (C := fun j => lv2 (fun w' => w'.cell? ⟨w2.heap.size, 0, none⟩ = some (Value.slice Ad ps.length cd)) (fun _ => True) (([0, 1, 0, 1, 1, 1, 1, 0, 0] : List Nat).getD j 0)) (by kernel_rfl) ?_
  refine tkC 0 (i := 0) (v := ?_) rfl (by kernel_rfl) trivial (Or.inl ⟨by rfl, ?_⟩) ?_
  rotate_left
  ·(intro w9 hSw; clear hSw; go_simp; try with_reducible rfl)
  try simp only [Act.put, lpa, lpz, lps]
  refine tkC 0 (i := 2) (v := ?_) rfl (by kernel_rfl) trivial (Or.inl ⟨by rfl, ?_⟩) ?_
  rotate_left
  ·(intro w9 hSw; clear hSw; go_simp; try with_reducible rfl)
  try simp only [Act.put, lpa, lpz, lps]
  refine tkC 1 (i := 1) (v := ?_) rfl (by kernel_rfl) HAB (Or.inl ⟨by rfl, ?_⟩) ?_
  rotate_left
  ·(intro w9 hSw; have hfact : w9.cell? ⟨w2.heap.size, 0, none⟩ = some (Value.slice Ad ps.length cd) := hSw; clear hSw; go_simp; try with_reducible rfl)
  try simp only [Act.put, lpa, lpz, lps]
  refine tkC 1 (i := 3) (v := ?_) rfl (by kernel_rfl) HAB (Or.inl ⟨by rfl, ?_⟩) ?_
  rotate_left
  ·(intro w9 hSw; have hfact : w9.cell? ⟨w2.heap.size, 0, none⟩ = some (Value.slice Ad ps.length cd) := hSw; clear hSw; go_simp; try with_reducible rfl)
  try simp only [Act.put, lpa, lpz, lps]
  refine wpAnyC_one (i := 4) (by kernel_rfl) rfl (fun K hK => ?_)
  go_simp
  go_at_call 21
  refine (CP.out _ SX.out).mono ?_
  rintro _ w6 ⟨q, rfl, hsm, hkq, hmr, hro, hfr, hnb, hC6, hg6⟩
  have S6 := Lib.hid (DS.moved SX.out hC6 hg6)
  have HB26 := Lib.hid (HB2X.out.moved hg6 (some_ne (by omega)))
  have hone := Lib.hid (vals_cells_one q hro hsm.short)
  have HRO := Lib.hid (hro.ext (Ext_alloc (.cells #[.string q.r.nm, .int .i64 q.r.kind, .int .i64 q.r.size, .bool q.r.little, q.vb, q.vn, q.vt, q.vk] 51) (Ext.refl _)))
  have HSM := Lib.hid hsm
  have HMR := Lib.hid hmr
  have HFR := Lib.hid hfr
  have HNB := Lib.hid hnb
  have HOLD := Lib.hid (HPre.out _ SX.out).1
  have HNG := Lib.hid (HPre.out _ SX.out).2
  clear hC6 hg6 hsm hmr hkq hro hfr hnb
  refine Shut.out hK _ _ (S6.out.box.cell 0) ?_
  try simp only [Act.put, lpa, lpz, lps]
  refine wpAnyC_one (i := 5) (by kernel_rfl) rfl (fun K hK => ?_)
  go_simp
  have S5' := Lib.hid (S6.out.ext (Ext_alloc (.cells #[.string q.r.nm, .int .i64 q.r.kind, .int .i64 q.r.size, .bool q.r.little, q.vb, q.vn, q.vt, q.vk] 51) (Ext.refl _)))
  have HB25' := Lib.hid (HB26.out.ext (Ext_alloc (.cells #[.string q.r.nm, .int .i64 q.r.kind, .int .i64 q.r.size, .bool q.r.little, q.vb, q.vn, q.vt, q.vk] 51) (Ext.refl _)))
  refine Shut.out hK _ _ (S5'.out.box.cell 0) ?_
  try simp only [Act.put, lpa, lpz, lps]
  refine wpAnyC_one (i := 6) (by kernel_rfl) rfl (fun K hK => ?_)
  refine step_app8 rfl (.tmp 10) (.tmp 14) _ rfl E_rule wb (w6.alloc (.cells #[.string q.r.nm, .int .i64 q.r.kind, .int .i64 q.r.size, .bool q.r.little, q.vb, q.vn, q.vt, q.vk] 51)) (Value.slice Ad ps.length cd) ps.length (ps.flatMap RV.cells) rfl S5'.out.own.row S5'.out.cur.2.1.size ⟨w6.heap.size, 0, none⟩ 1 1 (RV.cells q) rfl rfl (fun j u hu => (World.cell?_alloc_at' w6 (RV.cells q) 51 j).trans hu) hone.out HMX.out.1 HMX.out.2 ?_
  intro v7 w7 ho7 hg7 hv7
  have hvb := (S5'.out.new _ (List.mem_cons_self ..))
  obtain ⟨⟨z7, y7⟩, M7⟩ := DS.snoc S5'.out HRO.out HFR.out HOLD.out HNB.out HNG.out ho7 (S5'.out.cur.2.1.grown hg7 (fun k hk => (World.ownsRow.lt S5'.out.own.row k hk).1)) hg7 hv7
  obtain ⟨A7, c7, hsh⟩ := M7.own.shape
  obtain ⟨ps', hps⟩ : ∃ ps', ps ++ [q] = ps' := ⟨_, rfl⟩
  rw [hps] at hsh M7
  subst hsh
  have HB27 := Lib.hid (HB25'.out.moved hg7 (fun hh => by have := (hvb _ hh).1; have := hsA.out; omega))
  have HPS := Lib.hid hps
  clear ho7 hg7 hv7 hvb hps
  have M7 := Lib.hid M7
  refine Shut.out hK _ _ z7 ?_
  try simp only [Act.put, lpa, lpz, lps]
  refine wpAnyC_one (i := 7) (by kernel_rfl) rfl (fun K hK => ?_)
  go_simp
  refine Shut.out hK _ _ trivial ?_
  try simp only [Act.put, lpa, lpz, lps]
  refine wpAnyC_one (i := 8) (by kernel_rfl) rfl (fun K hK => ?_)
  go_simp
  refine Shut.out hK _ _ trivial ?_
  try simp only [Act.put, lpa, lpz, lps]
  refine wpAnyC_done (by kernel_rfl) ?_ _
  have HL : Hid (ps'.length ≤ 7 ∧ MadeD (rulesOf ps') ∧ (∀ u ∈ ps', SmallR u.r) ∧ 0 < ps'.length) := by
   rw [← HPS.out]
   obtain ⟨h1, h2, _⟩ := HMV.out
   have e : rulesOf (ps ++ [q]) = rulesOf ps ++ [q.r] := by simp [rulesOf]
   refine ⟨by simp; omega, by rw [e]; exact h1.snoc HMR.out, fun r hr => ?_, by simp⟩
   rcases List.mem_append.1 hr with h6 | h6
   ·exact h2 r h6
   ·rw [List.mem_singleton.1 h6]; exact HSM.out
  have HB29 := Lib.hid (HB27.out.other (g' := w2.heap.size) (by omega) 0 (.slice A7 ps'.length c7))
  clear HMV HMR HSM HAB z7 y7 HB27 S5' S6 HB25' HB26 SX HB2X HRO HFR HNB HOLD HNG hone hSD HPS HMX HPre CP
  have hSD : Hid (SmallD (rulesOf ps')) := ⟨by have := HL.out.1; simp [rulesOf] at this ⊢; omega, fun r hr => by obtain ⟨q, hq, rfl⟩ := List.mem_map.1 hr; exact HL.out.2.2.1 q hq⟩
  have hlr : Hid ((rulesOf ps').length = ps'.length) := by show _ = _; simp [rulesOf]
  have hmk := Lib.hid (made_kinds HL.out.2.1 hSD.out)
  have HSM1 : Hid (SmD (rulesOf ps')) := MadeD.sm HL.out.2.1 hSD.out
  go_wp2_with fail
  refine (CBe.out 5 _ M7.out.cur (by omega)).mono ?_; rintro _ w4 ⟨y, hy, rfl, hC4, hg4⟩
  have S4 := Lib.hid (M7.out.moved hC4 hg4)
  have HB24 := Lib.hid (HB29.out.moved hg4 (some_ne (by omega)))
  clear M7 HB29 hC4 hg4 CBe hy
  rcases (by omega : y = 0 ∨ y = 1 ∨ y = 2 ∨ 3 ≤ y) with rfl | rfl | rfl | hy3
  ·have SX := Lib.hid (S4.out.ext (Ext_drew (Ext.refl w4)))
   have HB2X := Lib.hid (HB24.out.ext (Ext_drew (Ext.refl w4)))
   have HWX : w.heap.size + 2 ≤ w4.drew.heap.size := by have := SX.out.grow.size; have := hsA.out; omega
   have CX : Hid (∀ w', w' = w4.drew → Calls Tryz.prog 46 #[.agg #[Value.slice A7 ps'.length c7]] w' fun e w'' => ∃ (A5 : Option Addr) (n5 c5 : Nat) (d5 : List DRule), e = .returned (.agg #[.slice A5 n5 c5]) ∧ SmD d5 ∧ KeepD (w.heap.size + 2) w'' (.slice A5 n5 c5) d5 ∧ Cur wb w'' p A l c ∧ w'.grownBy w'' (some p)) := fun w' hw' => by
    subst hw'
    obtain ⟨Ad', cd', hv', hrd⟩ := SX.out.rd hSD.out
    injection hv' with q1 _ q2
    subst q1; subst q2
    have h1 := CCp.out _ _ _ w4.drew (hrd _ (World.grownBy.refl _ _)) hSD.out.szD
    rw [hlr.out] at h1
    refine h1.mono ?_
    rintro e w'' ⟨v, ps5, rfl, h2, h3, h4⟩
    obtain ⟨A5, c5, hv⟩ := h3.shape
    subst hv
    exact ⟨A5, _, c5, rulesOf ps5, rfl, by rw [h2]; exact HSM1.out, h3.keepD (by rw [h2]; exact HSM1.out) (fun u hu b hb => by have := (h3.block u hu b hb).1; omega), SX.out.cur.ext h4, grown_ext h4 _⟩
   have HAB : lv2 (fun w' => w'.cell? ⟨w2.heap.size, 0, none⟩ = some (Value.slice A7 ps'.length c7)) (fun _ => True) 1 w4.drew := SX.out.box.cell 0
   clear CWd CCp CY S4 HB24
   go_wp2_with fail
   refine wp_region_C (C := fun j => lv2 (fun w' => w'.cell? ⟨w2.heap.size, 0, none⟩ = some (Value.slice A7 ps'.length c7)) (fun _ => True) (([1, 1, 1, 1, 0] : List Nat).getD j 0)) (by kernel_rfl) ?_
   refine tkC 1 (i := 0) (v := ?_) rfl (by kernel_rfl) HAB (Or.inl ⟨by rfl, ?_⟩) ?_
   rotate_left
   ·(intro w9 hSw; have hfact : w9.cell? ⟨w2.heap.size, 0, none⟩ = some (Value.slice A7 ps'.length c7) := hSw; clear hSw; go_simp; try with_reducible rfl)
   try simp only [Act.put, lpa, lpz, lps]
   refine tkC 1 (i := 1) (v := ?_) rfl (by kernel_rfl) HAB (Or.inl ⟨by rfl, ?_⟩) ?_
   rotate_left
   ·(intro w9 hSw; have hfact : w9.cell? ⟨w2.heap.size, 0, none⟩ = some (Value.slice A7 ps'.length c7) := hSw; clear hSw; go_simp; try with_reducible rfl)
   try simp only [Act.put, lpa, lpz, lps]
   refine wpAnyC_one (i := 2) (by kernel_rfl) rfl (fun K hK => ?_)
   go_simp
   go_at_call 46
   refine (CX.out _ rfl).mono ?_
   rintro _ w6 ⟨A5, n5, c5, d5, rfl, hsm5, hk5, hC6, hg6⟩
   have S6 := Lib.hid (SX.out.moved hC6 hg6)
   have HB26 := Lib.hid (HB2X.out.moved hg6 (some_ne (by omega)))
   have HSM5 := Lib.hid hsm5
   have KB6 := Lib.hid hk5
   have r1 : _ = some (Value.slice none 0 0) := S6.out.res.cell 0
   have r1f := S6.out.res.free 0
   have r2 : _ = some (Value.slice none 0 0) := HB26.out.cell 0
   have r2f := HB26.out.free 0
   clear hsm5 hk5 hC6 hg6
   refine Shut.out hK _ _ (S6.out.box.cell 0) ?_
   try simp only [Act.put, lpa, lpz, lps]
   refine wpAnyC_one (i := 3) (by kernel_rfl) rfl (fun K hK => ?_)
   go_simp
   refine Shut.out hK _ _ ((S6.out.box.other (g' := w.heap.size) (by omega) 0 (Value.slice A7 ps'.length c7)).cell 0) ?_
   try simp only [Act.put, lpa, lpz, lps]
   refine wpAnyC_one (i := 4) (by kernel_rfl) rfl (fun K hK => ?_)
   go_simp
   refine Shut.out hK _ _ trivial ?_
   try simp only [Act.put, lpa, lpz, lps]
   refine wpAnyC_done (by kernel_rfl) ?_ _
   have KA6 := S6.out.own.keepD (n0 := w.heap.size + 2) HSM1.out (fun u hu b hb => by have := (S6.out.new u hu b hb).1; have := hsA.out; omega)
   have PF := Lib.hid (pair_fin (u1 := Value.slice A7 ps'.length c7) (u2 := Value.slice A5 n5 c5) S6.out.cur (HG0.out.trans S6.out.grow) KA6 KB6.out S6.out.res HB26.out hbw hplt)
   obtain ⟨k1, k2, kc, kg, z1, z2⟩ := PF.out
   have F1 := Lib.hid k1; have F2 := Lib.hid k2; have F3 := Lib.hid kc; have F4 := Lib.hid kg
   clear PF HAB r1 r1f r2 r2f k1 k2 kc kg KA6
   go_wp2_with fail
   refine bodyPost_ret (v := .tuple #[.agg #[Value.slice A7 ps'.length c7], .agg #[Value.slice A5 n5 c5]]) (by simp [results, Tryz.results29, go_sem, z1, z2]) rfl ?_
   first
    | exact ⟨_, _, (rulesOf ps'), d5, rfl, HSM1.out, HSM5.out, F1.out, F2.out, F3.out, F4.out⟩
    | exact ⟨_, _, rfl, (rulesOf ps'), d5, HSM1.out, HSM5.out, F1.out, F2.out, F3.out, F4.out⟩
    | exact ⟨_, _, ⟨rfl, rfl⟩, (rulesOf ps'), d5, HSM1.out, HSM5.out, F1.out, F2.out, F3.out, F4.out⟩
  ·have SX := Lib.hid (S4.out.ext (Ext_drew (Ext.refl w4)))
   have HB2X := Lib.hid (HB24.out.ext (Ext_drew (Ext.refl w4)))
   have HWX : w.heap.size + 2 ≤ w4.drew.heap.size := by have := SX.out.grow.size; have := hsA.out; omega
   have CX : Hid (∀ w', w' = w4.drew → Calls Tryz.prog 22 #[.pointer (some ⟨p, 0, none⟩), .agg #[Value.slice A7 ps'.length c7]] w' fun e w'' => ∃ (A5 : Option Addr) (n5 c5 : Nat) (d5 : List DRule), e = .returned (.agg #[.slice A5 n5 c5]) ∧ SmD d5 ∧ KeepD (w.heap.size + 2) w'' (.slice A5 n5 c5) d5 ∧ Cur wb w'' p A l c ∧ w'.grownBy w'' (some p)) := fun w' hw' => by
    subst hw'
    obtain ⟨Ad', cd', hv', hrd⟩ := SX.out.rd hSD.out
    injection hv' with q1 _ q2
    subst q1; subst q2
    have h1 := CWd.out _ _ _ hSD.out hmk.out.2 w4.drew SX.out.cur (hrd _ (World.grownBy.refl _ _))
    rw [hlr.out] at h1
    refine h1.mono ?_
    rintro e w'' ⟨v, ps5, rfl, h2, h3, h4, h5, h6⟩
    obtain ⟨A5, c5, hv⟩ := h3.shape
    subst hv
    have h7 : SmD (rulesOf ps5) := WI.smD (by rw [hlr.out]; exact h2) hSD.out hmk.out.1
    exact ⟨A5, _, c5, rulesOf ps5, rfl, h7, h3.keepD h7 (fun u hu b hb => by have := h4 u hu b hb; omega), h5, h6⟩
   have HAB : lv2 (fun w' => w'.cell? ⟨w2.heap.size, 0, none⟩ = some (Value.slice A7 ps'.length c7)) (fun _ => True) 1 w4.drew := SX.out.box.cell 0
   clear CWd CCp CY S4 HB24
   go_wp2_with fail
   refine wp_region_C (C := fun j => lv2 (fun w' => w'.cell? ⟨w2.heap.size, 0, none⟩ = some (Value.slice A7 ps'.length c7)) (fun _ => True) (([0, 1, 1, 1, 1, 0] : List Nat).getD j 0)) (by kernel_rfl) ?_
   refine tkC 0 (i := 0) (v := ?_) rfl (by kernel_rfl) trivial (Or.inl ⟨by rfl, ?_⟩) ?_
   rotate_left
   ·(intro w9 hSw; clear hSw; go_simp; try with_reducible rfl)
   try simp only [Act.put, lpa, lpz, lps]
   refine tkC 1 (i := 1) (v := ?_) rfl (by kernel_rfl) HAB (Or.inl ⟨by rfl, ?_⟩) ?_
   rotate_left
   ·(intro w9 hSw; have hfact : w9.cell? ⟨w2.heap.size, 0, none⟩ = some (Value.slice A7 ps'.length c7) := hSw; clear hSw; go_simp; try with_reducible rfl)
   try simp only [Act.put, lpa, lpz, lps]
   refine tkC 1 (i := 3) (v := ?_) rfl (by kernel_rfl) HAB (Or.inl ⟨by rfl, ?_⟩) ?_
   rotate_left
   ·(intro w9 hSw; have hfact : w9.cell? ⟨w2.heap.size, 0, none⟩ = some (Value.slice A7 ps'.length c7) := hSw; clear hSw; go_simp; try with_reducible rfl)
   try simp only [Act.put, lpa, lpz, lps]
   refine wpAnyC_one (i := 2) (by kernel_rfl) rfl (fun K hK => ?_)
   go_simp
   go_at_call 22
   refine (CX.out _ rfl).mono ?_
   rintro _ w6 ⟨A5, n5, c5, d5, rfl, hsm5, hk5, hC6, hg6⟩
   have S6 := Lib.hid (SX.out.moved hC6 hg6)
   have HB26 := Lib.hid (HB2X.out.moved hg6 (some_ne (by omega)))
   have HSM5 := Lib.hid hsm5
   have KB6 := Lib.hid hk5
   have r1 : _ = some (Value.slice none 0 0) := S6.out.res.cell 0
   have r1f := S6.out.res.free 0
   have r2 : _ = some (Value.slice none 0 0) := HB26.out.cell 0
   have r2f := HB26.out.free 0
   clear hsm5 hk5 hC6 hg6
   refine Shut.out hK _ _ (S6.out.box.cell 0) ?_
   try simp only [Act.put, lpa, lpz, lps]
   refine wpAnyC_one (i := 4) (by kernel_rfl) rfl (fun K hK => ?_)
   go_simp
   refine Shut.out hK _ _ ((S6.out.box.other (g' := w.heap.size) (by omega) 0 (Value.slice A5 n5 c5)).cell 0) ?_
   try simp only [Act.put, lpa, lpz, lps]
   refine wpAnyC_one (i := 5) (by kernel_rfl) rfl (fun K hK => ?_)
   go_simp
   refine Shut.out hK _ _ trivial ?_
   try simp only [Act.put, lpa, lpz, lps]
   refine wpAnyC_done (by kernel_rfl) ?_ _
   have KA6 := S6.out.own.keepD (n0 := w.heap.size + 2) HSM1.out (fun u hu b hb => by have := (S6.out.new u hu b hb).1; have := hsA.out; omega)
   have PF := Lib.hid (pair_fin (u1 := Value.slice A5 n5 c5) (u2 := Value.slice A7 ps'.length c7) S6.out.cur (HG0.out.trans S6.out.grow) KB6.out KA6 S6.out.res HB26.out hbw hplt)
   obtain ⟨k1, k2, kc, kg, z1, z2⟩ := PF.out
   have F1 := Lib.hid k1; have F2 := Lib.hid k2; have F3 := Lib.hid kc; have F4 := Lib.hid kg
   clear PF HAB r1 r1f r2 r2f k1 k2 kc kg KA6
   go_wp2_with fail
   refine bodyPost_ret (v := .tuple #[.agg #[Value.slice A5 n5 c5], .agg #[Value.slice A7 ps'.length c7]]) (by simp [results, Tryz.results29, go_sem, z1, z2]) rfl ?_
   first
    | exact ⟨_, _, d5, (rulesOf ps'), rfl, HSM5.out, HSM1.out, F1.out, F2.out, F3.out, F4.out⟩
    | exact ⟨_, _, rfl, d5, (rulesOf ps'), HSM5.out, HSM1.out, F1.out, F2.out, F3.out, F4.out⟩
    | exact ⟨_, _, ⟨rfl, rfl⟩, d5, (rulesOf ps'), HSM5.out, HSM1.out, F1.out, F2.out, F3.out, F4.out⟩
  ·have SX := Lib.hid (S4.out.ext (Ext_drew (Ext.refl w4)))
   have HB2X := Lib.hid (HB24.out.ext (Ext_drew (Ext.refl w4)))
   have HWX : w.heap.size + 2 ≤ w4.drew.heap.size := by have := SX.out.grow.size; have := hsA.out; omega
   have CX : Hid (∀ w', w' = w4.drew → Calls Tryz.prog 53 #[.pointer (some ⟨p, 0, none⟩)] w' fun e w'' => ∃ (A5 : Option Addr) (n5 c5 : Nat) (d5 : List DRule), e = .returned (.agg #[.slice A5 n5 c5]) ∧ SmD d5 ∧ KeepD (w.heap.size + 2) w'' (.slice A5 n5 c5) d5 ∧ Cur wb w'' p A l c ∧ w'.grownBy w'' (some p)) := fun w' hw' => by
    subst hw'
    refine (CY.out w4.drew SX.out.cur).mono ?_
    rintro e w'' ⟨v, ps5, rfl, h2, _, h5, h6⟩
    obtain ⟨A5, c5, hv⟩ := h2.own.shape
    subst hv
    exact ⟨A5, _, c5, rulesOf ps5, rfl, h2.small, h2.own.keepD h2.small (fun u hu b hb => by have := h2.new u hu b hb; omega), h5, h6⟩
   have HAB : lv2 (fun w' => w'.cell? ⟨w2.heap.size, 0, none⟩ = some (Value.slice A7 ps'.length c7)) (fun _ => True) 1 w4.drew := SX.out.box.cell 0
   clear CWd CCp CY S4 HB24
   go_wp2_with fail
   refine wp_region_C (C := fun j => lv2 (fun w' => w'.cell? ⟨w2.heap.size, 0, none⟩ = some (Value.slice A7 ps'.length c7)) (fun _ => True) (([1, 0, 1, 1, 0] : List Nat).getD j 0)) (by kernel_rfl) ?_
   refine tkC 0 (i := 1) (v := ?_) rfl (by kernel_rfl) trivial (Or.inl ⟨by rfl, ?_⟩) ?_
   rotate_left
   ·(intro w9 hSw; clear hSw; go_simp; try with_reducible rfl)
   try simp only [Act.put, lpa, lpz, lps]
   refine tkC 1 (i := 0) (v := ?_) rfl (by kernel_rfl) HAB (Or.inl ⟨by rfl, ?_⟩) ?_
   rotate_left
   ·(intro w9 hSw; have hfact : w9.cell? ⟨w2.heap.size, 0, none⟩ = some (Value.slice A7 ps'.length c7) := hSw; clear hSw; go_simp; try with_reducible rfl)
   try simp only [Act.put, lpa, lpz, lps]
   refine wpAnyC_one (i := 2) (by kernel_rfl) rfl (fun K hK => ?_)
   go_simp
   go_at_call 53
   refine (CX.out _ rfl).mono ?_
   rintro _ w6 ⟨A5, n5, c5, d5, rfl, hsm5, hk5, hC6, hg6⟩
   have S6 := Lib.hid (SX.out.moved hC6 hg6)
   have HB26 := Lib.hid (HB2X.out.moved hg6 (some_ne (by omega)))
   have HSM5 := Lib.hid hsm5
   have KB6 := Lib.hid hk5
   have r1 : _ = some (Value.slice none 0 0) := S6.out.res.cell 0
   have r1f := S6.out.res.free 0
   have r2 : _ = some (Value.slice none 0 0) := HB26.out.cell 0
   have r2f := HB26.out.free 0
   clear hsm5 hk5 hC6 hg6
   refine Shut.out hK _ _ (S6.out.box.cell 0) ?_
   try simp only [Act.put, lpa, lpz, lps]
   refine wpAnyC_one (i := 3) (by kernel_rfl) rfl (fun K hK => ?_)
   go_simp
   refine Shut.out hK _ _ ((S6.out.box.other (g' := w.heap.size) (by omega) 0 (Value.slice A7 ps'.length c7)).cell 0) ?_
   try simp only [Act.put, lpa, lpz, lps]
   refine wpAnyC_one (i := 4) (by kernel_rfl) rfl (fun K hK => ?_)
   go_simp
   refine Shut.out hK _ _ trivial ?_
   try simp only [Act.put, lpa, lpz, lps]
   refine wpAnyC_done (by kernel_rfl) ?_ _
   have KA6 := S6.out.own.keepD (n0 := w.heap.size + 2) HSM1.out (fun u hu b hb => by have := (S6.out.new u hu b hb).1; have := hsA.out; omega)
   have PF := Lib.hid (pair_fin (u1 := Value.slice A7 ps'.length c7) (u2 := Value.slice A5 n5 c5) S6.out.cur (HG0.out.trans S6.out.grow) KA6 KB6.out S6.out.res HB26.out hbw hplt)
   obtain ⟨k1, k2, kc, kg, z1, z2⟩ := PF.out
   have F1 := Lib.hid k1; have F2 := Lib.hid k2; have F3 := Lib.hid kc; have F4 := Lib.hid kg
   clear PF HAB r1 r1f r2 r2f k1 k2 kc kg KA6
   go_wp2_with fail
   refine bodyPost_ret (v := .tuple #[.agg #[Value.slice A7 ps'.length c7], .agg #[Value.slice A5 n5 c5]]) (by simp [results, Tryz.results29, go_sem, z1, z2]) rfl ?_
   first
    | exact ⟨_, _, (rulesOf ps'), d5, rfl, HSM1.out, HSM5.out, F1.out, F2.out, F3.out, F4.out⟩
    | exact ⟨_, _, rfl, (rulesOf ps'), d5, HSM1.out, HSM5.out, F1.out, F2.out, F3.out, F4.out⟩
    | exact ⟨_, _, ⟨rfl, rfl⟩, (rulesOf ps'), d5, HSM1.out, HSM5.out, F1.out, F2.out, F3.out, F4.out⟩
  ·have SX := Lib.hid (S4.out.ext (Ext_drew (Ext.refl w4)))
   have HB2X := Lib.hid (HB24.out.ext (Ext_drew (Ext.refl w4)))
   have HWX : w.heap.size + 2 ≤ w4.drew.heap.size := by have := SX.out.grow.size; have := hsA.out; omega
   have CX : Hid (∀ w', w' = w4.drew → Calls Tryz.prog 22 #[.pointer (some ⟨p, 0, none⟩), .agg #[Value.slice A7 ps'.length c7]] w' fun e w'' => ∃ (A5 : Option Addr) (n5 c5 : Nat) (d5 : List DRule), e = .returned (.agg #[.slice A5 n5 c5]) ∧ SmD d5 ∧ KeepD (w.heap.size + 2) w'' (.slice A5 n5 c5) d5 ∧ Cur wb w'' p A l c ∧ w'.grownBy w'' (some p)) := fun w' hw' => by
    subst hw'
    obtain ⟨Ad', cd', hv', hrd⟩ := SX.out.rd hSD.out
    injection hv' with q1 _ q2
    subst q1; subst q2
    have h1 := CWd.out _ _ _ hSD.out hmk.out.2 w4.drew SX.out.cur (hrd _ (World.grownBy.refl _ _))
    rw [hlr.out] at h1
    refine h1.mono ?_
    rintro e w'' ⟨v, ps5, rfl, h2, h3, h4, h5, h6⟩
    obtain ⟨A5, c5, hv⟩ := h3.shape
    subst hv
    have h7 : SmD (rulesOf ps5) := WI.smD (by rw [hlr.out]; exact h2) hSD.out hmk.out.1
    exact ⟨A5, _, c5, rulesOf ps5, rfl, h7, h3.keepD h7 (fun u hu b hb => by have := h4 u hu b hb; omega), h5, h6⟩
   have HAB : lv2 (fun w' => w'.cell? ⟨w2.heap.size, 0, none⟩ = some (Value.slice A7 ps'.length c7)) (fun _ => True) 1 w4.drew := SX.out.box.cell 0
   clear CWd CCp CY S4 HB24
   go_wp2_with fail
   refine wp_region_C (C := fun j => lv2 (fun w' => w'.cell? ⟨w2.heap.size, 0, none⟩ = some (Value.slice A7 ps'.length c7)) (fun _ => True) (([1, 0, 1, 1, 1, 0] : List Nat).getD j 0)) (by kernel_rfl) ?_
   refine tkC 0 (i := 1) (v := ?_) rfl (by kernel_rfl) trivial (Or.inl ⟨by rfl, ?_⟩) ?_
   rotate_left
   ·(intro w9 hSw; clear hSw; go_simp; try with_reducible rfl)
   try simp only [Act.put, lpa, lpz, lps]
   refine tkC 1 (i := 0) (v := ?_) rfl (by kernel_rfl) HAB (Or.inl ⟨by rfl, ?_⟩) ?_
   rotate_left
   ·(intro w9 hSw; have hfact : w9.cell? ⟨w2.heap.size, 0, none⟩ = some (Value.slice A7 ps'.length c7) := hSw; clear hSw; go_simp; try with_reducible rfl)
   try simp only [Act.put, lpa, lpz, lps]
   refine tkC 1 (i := 2) (v := ?_) rfl (by kernel_rfl) HAB (Or.inl ⟨by rfl, ?_⟩) ?_
   rotate_left
   ·(intro w9 hSw; have hfact : w9.cell? ⟨w2.heap.size, 0, none⟩ = some (Value.slice A7 ps'.length c7) := hSw; clear hSw; go_simp; try with_reducible rfl)
   try simp only [Act.put, lpa, lpz, lps]
   refine wpAnyC_one (i := 3) (by kernel_rfl) rfl (fun K hK => ?_)
   go_simp
   go_at_call 22
   refine (CX.out _ rfl).mono ?_
   rintro _ w6 ⟨A5, n5, c5, d5, rfl, hsm5, hk5, hC6, hg6⟩
   have S6 := Lib.hid (SX.out.moved hC6 hg6)
   have HB26 := Lib.hid (HB2X.out.moved hg6 (some_ne (by omega)))
   have HSM5 := Lib.hid hsm5
   have KB6 := Lib.hid hk5
   have r1 : _ = some (Value.slice none 0 0) := S6.out.res.cell 0
   have r1f := S6.out.res.free 0
   have r2 : _ = some (Value.slice none 0 0) := HB26.out.cell 0
   have r2f := HB26.out.free 0
   clear hsm5 hk5 hC6 hg6
   refine Shut.out hK _ _ (S6.out.box.cell 0) ?_
   try simp only [Act.put, lpa, lpz, lps]
   refine wpAnyC_one (i := 4) (by kernel_rfl) rfl (fun K hK => ?_)
   go_simp
   refine Shut.out hK _ _ ((S6.out.box.other (g' := w.heap.size) (by omega) 0 (Value.slice A7 ps'.length c7)).cell 0) ?_
   try simp only [Act.put, lpa, lpz, lps]
   refine wpAnyC_one (i := 5) (by kernel_rfl) rfl (fun K hK => ?_)
   go_simp
   refine Shut.out hK _ _ trivial ?_
   try simp only [Act.put, lpa, lpz, lps]
   refine wpAnyC_done (by kernel_rfl) ?_ _
   have KA6 := S6.out.own.keepD (n0 := w.heap.size + 2) HSM1.out (fun u hu b hb => by have := (S6.out.new u hu b hb).1; have := hsA.out; omega)
   have PF := Lib.hid (pair_fin (u1 := Value.slice A7 ps'.length c7) (u2 := Value.slice A5 n5 c5) S6.out.cur (HG0.out.trans S6.out.grow) KA6 KB6.out S6.out.res HB26.out hbw hplt)
   obtain ⟨k1, k2, kc, kg, z1, z2⟩ := PF.out
   have F1 := Lib.hid k1; have F2 := Lib.hid k2; have F3 := Lib.hid kc; have F4 := Lib.hid kg
   clear PF HAB r1 r1f r2 r2f k1 k2 kc kg KA6
   go_wp2_with fail
   refine bodyPost_ret (v := .tuple #[.agg #[Value.slice A7 ps'.length c7], .agg #[Value.slice A5 n5 c5]]) (by simp [results, Tryz.results29, go_sem, z1, z2]) rfl ?_
   first
    | exact ⟨_, _, (rulesOf ps'), d5, rfl, HSM1.out, HSM5.out, F1.out, F2.out, F3.out, F4.out⟩
    | exact ⟨_, _, rfl, (rulesOf ps'), d5, HSM1.out, HSM5.out, F1.out, F2.out, F3.out, F4.out⟩
    | exact ⟨_, _, ⟨rfl, rfl⟩, (rulesOf ps'), d5, HSM1.out, HSM5.out, F1.out, F2.out, F3.out, F4.out⟩
theorem ext_fin {w w1 w2 wr : World} {p : Nat} {A : Option Addr} {l : List UInt8} {c : Nat} {v1 v2 : Value} {d1 d2 : List DRule} (h : LN w w1 w2 wr p A l c v1 v2 d1 d2) :
 KeepD w.heap.size ((wr.setCell ⟨w.heap.size, 0, none⟩ v1).setCell ⟨w.heap.size + 1, 0, none⟩ v2) v1 d1 ∧ KeepD w.heap.size ((wr.setCell ⟨w.heap.size, 0, none⟩ v1).setCell ⟨w.heap.size + 1, 0, none⟩ v2) v2 d2 ∧ Ext w ((wr.setCell ⟨w.heap.size, 0, none⟩ v1).setCell ⟨w.heap.size + 1, 0, none⟩ v2) ∧ ((wr.setCell ⟨w.heap.size, 0, none⟩ v1).setCell ⟨w.heap.size + 1, 0, none⟩ v2).cell? ⟨w.heap.size, 0, none⟩ = some v1 ∧ ((wr.setCell ⟨w.heap.size, 0, none⟩ v1).setCell ⟨w.heap.size + 1, 0, none⟩ v2).cell? ⟨w.heap.size + 1, 0, none⟩ = some v2 := by
 have hp := h.hp
 have s1 : Same w1.heap.size wr (wr.setCell ⟨w.heap.size, 0, none⟩ v1) := Same.set _ _ (.inl (by show w.heap.size < _; omega))
 have s2 : Same w1.heap.size (wr.setCell ⟨w.heap.size, 0, none⟩ v1) ((wr.setCell ⟨w.heap.size, 0, none⟩ v1).setCell ⟨w.heap.size + 1, 0, none⟩ v2) := Same.set _ _ (.inl (by show w.heap.size + 1 < _; omega))
 have s3 := s1.trans s2
 have b1 := (h.b1.set 0 v1).other (g' := w.heap.size + 1) (by omega) 0 v2
 have b2 := (h.b2.other (g' := w.heap.size) (by omega) 0 v1).set 0 v2
 exact ⟨(h.ka.same s3).low (by omega), (h.kb.same s3).low (by omega), (h.ext.setCell (p := ⟨w.heap.size, 0, none⟩) (Nat.le_refl _) v1).setCell (p := ⟨w.heap.size + 1, 0, none⟩) (by show w.heap.size ≤ w.heap.size + 1; omega) v2, by simpa using b1.cell 0, by simpa using b2.cell 0⟩
theorem drawExtR_c (A : Option Addr) (l : List UInt8) (c : Nat) (w : World) (hA : Bs w A l c) :
 Calls Tryz.prog 11 #[.slice A l.length c] w fun e w' => ∃ v1 v2 d1 d2 i k, e = .returned (.tuple #[vdesc v1, .int .i64 i, vdesc v2, .int .i64 k]) ∧ SmD d1 ∧ SmD d2 ∧ KeepD w.heap.size w' v1 d1 ∧ KeepD w.heap.size w' v2 d2 ∧ (-1 ≤ i ∧ i ≤ 100) ∧ (-1 ≤ k ∧ k ≤ 100) ∧ Ext w w' := by
 obtain ⟨W0, hW0, HR1, HR2, e0, hsA⟩ := boxes2' w #[.slice none 0 0] #[.slice none 0 0] 26 26
 have hsA := Lib.hid hsA
 have HR1 := Lib.hid HR1; have HR2 := Lib.hid HR2
 have CN := Lib.hid (fun w' h => l1New_c A l c w' h)
 have CP := Lib.hid (fun wb w' p h hb => l29Pair_c wb w' p A l c h hb)
 have CB := Lib.hid (fun n wb w' p h1 h2 hn => l1Below_c n wb w' p A l c h1 h2 hn)
 have CO := Lib.hid (fun n wb w' p h1 h2 hn => l1Once_c n wb w' p A l c h1 h2 hn)
 unfold vdesc at *
 go_enter Tryz.func11, Tryz.ntmps11
 go_wp2_with fail
 rw [← hW0.out]
 refine (CN.out _ (hA.ext e0)).mono ?_; rintro _ w1 ⟨p, rfl, hC1⟩
 have hpw := hC1.1
 have hC1' := hC1.lower' e0
 have hpl := hC1.lt
 go_wp2_with fail
 refine (CP.out w w1 p hA hC1').mono ?_; rintro _ w2 ⟨v1, v2, d1, d2, rfl, hs1, hs2, K1, K2, hC2, hg2⟩
 obtain ⟨A1, c1, hv1, _⟩ := K1.rd
 obtain ⟨A2, c2, hv2, _⟩ := K2.rd
 subst hv1; subst hv2
 have hn1 : d1.length ≤ 24 := hs1.1
 have hn2 : d2.length ≤ 24 := hs2.1
 have hR1l := (HR1.out.ext hC1.2.1).lt; have hR2l := (HR2.out.ext hC1.2.1).lt
 have hw2 := hg2.size
 have hsz := hsA.out
 have b1 := HR1.out.ext hC1.2.1
 have b1' := b1.moved hg2 (some_ne (by omega))
 have b2' := (HR2.out.ext hC1.2.1).moved hg2 (some_ne (by omega))
 obtain ⟨W3, hW3, BA, BB, e3, hs3⟩ := boxes2' w2 #[.slice A1 d1.length c1] #[.slice A2 d2.length c2] 26 26
 have KA := Lib.hid (K1.same (Same.of_ext e3))
 have KB := Lib.hid (K2.same (Same.of_ext e3))
 have BA := Lib.hid BA; have BB := Lib.hid BB
 have B1 := Lib.hid (b1'.ext e3); have B2 := Lib.hid (b2'.ext e3)
 have C3 := Lib.hid (hC2.ext e3)
 have G3 : Hid (Ext w W3) := ((e0.trans hC1.2.1).grown hg2 (fun k hk => by injection hk with hk; omega)).trans e3
 have HS1 := Lib.hid hs1; have HS2 := Lib.hid hs2
 have cdA : W3.cell? ⟨w2.heap.size, 0, none⟩ = some (Value.slice A1 d1.length c1) := BA.out.cell 0
 have hpl2 := hC2.lt
 rw [hW3.out] at cdA
 clear K1 K2 hC2 hg2 b1 b1' b2' HR1 HR2 hs1 hs2 hC1 hC1' CP CN e0 hs3
 go_wp2_with fail
 rw [← hW3.out]
 refine (CB.out ((d1.length : Int) + 2) w W3 p hA C3.out (by omega)).mono ?_; rintro _ w4 ⟨y, hy, rfl, hC4, hg4⟩
 have L3 : Hid (LN w w1 w2 W3 p A l c (.slice A1 d1.length c1) (.slice A2 d2.length c2) d1 d2) := ⟨KA.out, KB.out, BA.out, BB.out, B1.out, B2.out, C3.out, G3.out, by omega, hpl, hw2⟩
 have L4 := Lib.hid (L3.out.moved hC4 hg4)
 have hy26 : y ≤ 26 := by unfold below at hy; split at hy <;> omega
 clear L3 KA KB BA BB B1 B2 C3 G3 hC4 hg4 hy cdA
 go_wp2_with fail
 refine (CO.out 2 w w4 p hA L4.out.cur (by omega)).mono ?_; rintro _ w5 ⟨b, rfl, hC5, hg5⟩
 have L5 := Lib.hid (L4.out.moved hC5 hg5)
 clear hC5 hg5 L4 CO
 cases b with
 | true =>
  have hpp := L5.out.hp
  have HAC : lv2 (fun w' => w'.cell? ⟨w2.heap.size + 1, 0, none⟩ = some (Value.slice A2 d2.length c2)) (fun w' => w'.cell? ⟨w2.heap.size, 0, none⟩ = some (Value.slice A1 d1.length c1)) 3 w5.drew := ⟨(L5.out.bb.ext (Ext_drew (Ext.refl _))).cell 0, (L5.out.ba.ext (Ext_drew (Ext.refl _))).cell 0⟩
  have r1 : _ = some (Value.slice none 0 0) := L5.out.b1.cell 0
  have r1f := L5.out.b1.free 0
  have r2 : _ = some (Value.slice none 0 0) := L5.out.b2.cell 0
  have r2f := L5.out.b2.free 0
  go_wp2_with fail
  refine wp_region_C (C := fun j => lv2 (fun w' => w'.cell? ⟨w2.heap.size + 1, 0, none⟩ = some (Value.slice A2 d2.length c2)) (fun w' => w'.cell? ⟨w2.heap.size, 0, none⟩ = some (Value.slice A1 d1.length c1)) (([3, 0, 3, 0, 3, 3, 0, 0] : List Nat).getD j 0)) (by kernel_rfl) ?_
  refine tkC 0 (i := 1) (v := ?_) rfl (by kernel_rfl) trivial (Or.inl ⟨by rfl, ?_⟩) ?_
  rotate_left
  ·(intro w9 hSw; clear hSw; go_simp; try with_reducible rfl)
  try simp only [Act.put, lpa, lpz, lps]
  refine tkC 0 (i := 3) (v := ?_) rfl (by kernel_rfl) trivial (Or.inl ⟨by rfl, ?_⟩) ?_
  rotate_left
  ·(intro w9 hSw; clear hSw; go_simp; try with_reducible rfl)
  try simp only [Act.put, lpa, lpz, lps]
  refine tkC 3 (i := 0) (v := ?_) rfl (by kernel_rfl) HAC (Or.inl ⟨by rfl, ?_⟩) ?_
  rotate_left
  ·(intro w9 hSw; have hfact : w9.cell? ⟨w2.heap.size, 0, none⟩ = some (Value.slice A1 d1.length c1) := hSw.2; clear hSw; go_simp; try with_reducible rfl)
  try simp only [Act.put, lpa, lpz, lps]
  refine tkC 3 (i := 2) (v := ?_) rfl (by kernel_rfl) HAC (Or.inl ⟨by rfl, ?_⟩) ?_
  rotate_left
  ·(intro w9 hSw; have hfact : w9.cell? ⟨w2.heap.size + 1, 0, none⟩ = some (Value.slice A2 d2.length c2) := hSw.1; clear hSw; go_simp; try with_reducible rfl)
  try simp only [Act.put, lpa, lpz, lps]
  refine wpAnyC_one (i := 4) (by kernel_rfl) rfl (fun K hK => ?_)
  go_simp
  refine Shut.out hK _ _ ⟨((L5.out.bb.other (g' := w.heap.size) (by omega) 0 (Value.slice A1 d1.length c1)).ext (Ext_drew (Ext.refl _))).cell 0, ((L5.out.ba.other (g' := w.heap.size) (by omega) 0 (Value.slice A1 d1.length c1)).ext (Ext_drew (Ext.refl _))).cell 0⟩ ?_
  try simp only [Act.put, lpa, lpz, lps]
  refine wpAnyC_one (i := 5) (by kernel_rfl) rfl (fun K hK => ?_)
  go_simp
  refine Shut.out hK _ _ ⟨((L5.out.bb.other (g' := w.heap.size) (by omega) 0 (Value.slice A1 d1.length c1)).ext (Ext_drew (Ext.refl _))).cell 0, ((L5.out.ba.other (g' := w.heap.size) (by omega) 0 (Value.slice A1 d1.length c1)).ext (Ext_drew (Ext.refl _))).cell 0⟩ ?_
  try simp only [Act.put, lpa, lpz, lps]
  refine wpAnyC_one (i := 6) (by kernel_rfl) rfl (fun K hK => ?_)
  go_simp
  refine Shut.out hK _ _ trivial ?_
  try simp only [Act.put, lpa, lpz, lps]
  refine wpAnyC_one (i := 7) (by kernel_rfl) rfl (fun K hK => ?_)
  go_simp
  refine Shut.out hK _ _ trivial ?_
  try simp only [Act.put, lpa, lpz, lps]
  refine wpAnyC_done (by kernel_rfl) ?_ _
  have PF := Lib.hid (lost_fin L5.out)
  clear L5
  obtain ⟨k1, k2, ke, z1, z2⟩ := PF.out
  have F1 := Lib.hid k1; have F2 := Lib.hid k2; have F3 := Lib.hid ke
  clear PF HAC r1 r1f r2 r2f k1 k2 ke
  go_wp2_with fail
  refine bodyPost_ret (v := .tuple #[.agg #[Value.slice A1 d1.length c1], .int .i64 ((y : Int) - 1), .agg #[Value.slice A2 d2.length c2], .int .i64 ((y : Int) - 1)]) (by simp [results, Tryz.results11, go_sem, z1, z2]) rfl ?_
  exact ⟨_, _, d1, d2, (y : Int) - 1, (y : Int) - 1, rfl, HS1.out, HS2.out, F1.out, F2.out, ⟨by omega, by omega⟩, ⟨by omega, by omega⟩, F3.out⟩
 | false =>
  have hpp := L5.out.hp
  have hwl : IntKind.i64.wrap ((d2.length : Int) + 2) = (d2.length : Int) + 2 := IntWalk.i64_in _ (by omega)
  have LD := Lib.hid (L5.out.moved (L5.out.cur.ext (Ext_drew (Ext.refl _))) (grown_ext (Ext_drew (Ext.refl _)) _))
  have HAC : lv2 (fun w' => w'.cell? ⟨w2.heap.size + 1, 0, none⟩ = some (Value.slice A2 d2.length c2)) (fun w' => w'.cell? ⟨w2.heap.size, 0, none⟩ = some (Value.slice A1 d1.length c1)) 3 w5.drew := ⟨LD.out.bb.cell 0, LD.out.ba.cell 0⟩
  clear L5
  go_wp2_with fail
  refine wp_region_C (C := fun j => lv2 (fun w' => w'.cell? ⟨w2.heap.size + 1, 0, none⟩ = some (Value.slice A2 d2.length c2)) (fun w' => w'.cell? ⟨w2.heap.size, 0, none⟩ = some (Value.slice A1 d1.length c1)) (([3, 0, 3, 0, 0, 3, 0, 0, 3, 3, 3, 3, 3, 0] : List Nat).getD j 0)) (by kernel_rfl) ?_
  refine tkC 0 (i := 1) (v := ?_) rfl (by kernel_rfl) trivial (Or.inl ⟨by rfl, ?_⟩) ?_
  rotate_left
  ·(intro w9 hSw; clear hSw; go_simp; try with_reducible rfl)
  try simp only [Act.put, lpa, lpz, lps]
  refine tkC 0 (i := 3) (v := ?_) rfl (by kernel_rfl) trivial (Or.inl ⟨by rfl, ?_⟩) ?_
  rotate_left
  ·(intro w9 hSw; clear hSw; go_simp; try with_reducible rfl)
  try simp only [Act.put, lpa, lpz, lps]
  refine tkC 0 (i := 4) (v := ?_) rfl (by kernel_rfl) trivial (Or.inl ⟨by rfl, ?_⟩) ?_
  rotate_left
  ·(intro w9 hSw; clear hSw; go_simp; try with_reducible rfl)
  try simp only [Act.put, lpa, lpz, lps]
  refine tkC 3 (i := 5) (v := ?_) rfl (by kernel_rfl) HAC (Or.inl ⟨by rfl, ?_⟩) ?_
  rotate_left
  ·(intro w9 hSw; have hfact : w9.cell? ⟨w2.heap.size + 1, 0, none⟩ = some (Value.slice A2 d2.length c2) := hSw.1; clear hSw; go_simp; try with_reducible rfl)
  try simp only [Act.put, lpa, lpz, lps]
  refine tkC 0 (i := 6) (v := ?_) rfl (by kernel_rfl) trivial (Or.inl ⟨by rfl, ?_⟩) ?_
  rotate_left
  ·(intro w9 hSw; clear hSw; go_simp; try with_reducible rfl)
  try simp only [Act.put, lpa, lpz, lps]
  refine tkC 0 (i := 7) (v := ?_) rfl (by kernel_rfl) trivial (Or.inl ⟨by rfl, ?_⟩) ?_
  rotate_left
  ·(intro w9 hSw; clear hSw; go_simp; try with_reducible rfl)
  try simp only [Act.put, lpa, lpz, lps]
  refine tkC 3 (i := 0) (v := ?_) rfl (by kernel_rfl) HAC (Or.inl ⟨by rfl, ?_⟩) ?_
  rotate_left
  ·(intro w9 hSw; have hfact : w9.cell? ⟨w2.heap.size, 0, none⟩ = some (Value.slice A1 d1.length c1) := hSw.2; clear hSw; go_simp; try with_reducible rfl)
  try simp only [Act.put, lpa, lpz, lps]
  refine tkC 3 (i := 2) (v := ?_) rfl (by kernel_rfl) HAC (Or.inl ⟨by rfl, ?_⟩) ?_
  rotate_left
  ·(intro w9 hSw; have hfact : w9.cell? ⟨w2.heap.size + 1, 0, none⟩ = some (Value.slice A2 d2.length c2) := hSw.1; clear hSw; go_simp; try with_reducible rfl)
  try simp only [Act.put, lpa, lpz, lps]
  refine wpAnyC_one (i := 8) (by kernel_rfl) rfl (fun K hK => ?_)
  go_simp
  go_at_call 30
  refine (CB.out ((d2.length : Int) + 2) w _ p hA LD.out.cur (by omega)).mono ?_
  rintro _ w6 ⟨z, hz, rfl, hC6, hg6⟩
  have L6 := Lib.hid (LD.out.moved hC6 hg6)
  have hz26 : z ≤ 26 := (by unfold below at hz; split at hz <;> omega)
  have hwz : IntKind.i64.wrap ((z : Int) - 1) = (z : Int) - 1 := IntWalk.i64_in _ (by omega)
  have r1 : _ = some (Value.slice none 0 0) := L6.out.b1.cell 0
  have r1f := L6.out.b1.free 0
  have r2 : _ = some (Value.slice none 0 0) := L6.out.b2.cell 0
  have r2f := L6.out.b2.free 0
  clear hz hC6 hg6
  refine Shut.out hK _ _ ⟨L6.out.bb.cell 0, L6.out.ba.cell 0⟩ ?_
  try simp only [Act.put, lpa, lpz, lps]
  refine tkC 3 (i := 9) (v := ?_) rfl (by kernel_rfl) (⟨L6.out.bb.cell 0, L6.out.ba.cell 0⟩) (Or.inl ⟨by rfl, ?_⟩) ?_
  rotate_left
  ·(intro w9 hSw; clear hSw; go_simp; try with_reducible rfl)
  try simp only [Act.put, lpa, lpz, lps]
  refine wpAnyC_one (i := 10) (by kernel_rfl) rfl (fun K hK => ?_)
  go_simp
  refine Shut.out hK _ _ ⟨(L6.out.bb.other (g' := w.heap.size) (by omega) 0 (Value.slice A1 d1.length c1)).cell 0, (L6.out.ba.other (g' := w.heap.size) (by omega) 0 (Value.slice A1 d1.length c1)).cell 0⟩ ?_
  try simp only [Act.put, lpa, lpz, lps]
  refine wpAnyC_one (i := 11) (by kernel_rfl) rfl (fun K hK => ?_)
  go_simp
  refine Shut.out hK _ _ ⟨(L6.out.bb.other (g' := w.heap.size) (by omega) 0 (Value.slice A1 d1.length c1)).cell 0, (L6.out.ba.other (g' := w.heap.size) (by omega) 0 (Value.slice A1 d1.length c1)).cell 0⟩ ?_
  try simp only [Act.put, lpa, lpz, lps]
  refine wpAnyC_one (i := 12) (by kernel_rfl) rfl (fun K hK => ?_)
  go_simp
  refine Shut.out hK _ _ ⟨((L6.out.bb.other (g' := w.heap.size) (by omega) 0 (Value.slice A1 d1.length c1)).other (g' := w.heap.size + 1) (by omega) 0 (Value.slice A2 d2.length c2)).cell 0, ((L6.out.ba.other (g' := w.heap.size) (by omega) 0 (Value.slice A1 d1.length c1)).other (g' := w.heap.size + 1) (by omega) 0 (Value.slice A2 d2.length c2)).cell 0⟩ ?_
  try simp only [Act.put, lpa, lpz, lps]
  refine wpAnyC_one (i := 13) (by kernel_rfl) rfl (fun K hK => ?_)
  go_simp
  refine Shut.out hK _ _ trivial ?_
  try simp only [Act.put, lpa, lpz, lps]
  refine wpAnyC_done (by kernel_rfl) ?_ _
  have PF := Lib.hid (ext_fin L6.out)
  clear L6 LD
  obtain ⟨k1, k2, ke, z1, z2⟩ := PF.out
  have F1 := Lib.hid k1; have F2 := Lib.hid k2; have F3 := Lib.hid ke
  clear PF HAC r1 r1f r2 r2f k1 k2 ke
  go_wp2_with fail
  refine bodyPost_ret (v := .tuple #[.agg #[Value.slice A1 d1.length c1], .int .i64 ((y : Int) - 1), .agg #[Value.slice A2 d2.length c2], .int .i64 ((z : Int) - 1)]) (by simp [results, Tryz.results11, go_sem, z1, z2]) rfl ?_
  exact ⟨_, _, d1, d2, (y : Int) - 1, (z : Int) - 1, rfl, HS1.out, HS2.out, F1.out, F2.out, ⟨by omega, by omega⟩, ⟨by omega, by omega⟩, F3.out⟩
def readRoot (ds : List DRule) (b : List UInt8) : RR := if descOk ds = true ∧ b.length ≤ 400 then readV ds b (ds.length - 1) 0 else .bad 0 8
theorem readFile_eq (ds : List DRule) (b : List UInt8) : readFile ds b = if (readRoot ds b).code = 0 ∧ (readRoot ds b).next < b.length then .bad (readRoot ds b).next 7 else readRoot ds b := by
 unfold readFile readRoot
 by_cases h : descOk ds = true ∧ b.length ≤ 400
 ·rw [if_pos h, if_pos h]
 ·rw [if_neg h, if_neg h, if_neg (by simp [RR.bad])]
theorem root_known {ds : List DRule} (h : descOk ds = true) : 0 < ds.length ∧ knownB ds ((ds.length : Int) - 1) = true := by
 have h2 := h
 unfold descOk at h2
 rw [Bool.and_eq_true, between_iff] at h2
 refine ⟨by omega, ?_⟩
 unfold knownB
 rw [h]; simp; omega
theorem root_unknown {ds : List DRule} (h : descOk ds = false) (i : Int) : knownB ds i = false := by unfold knownB; rw [h]; rfl
theorem RdOut_shapeC {f : Nat} {args : Array Value} {R : RR} {w' : World} (h : Calls Tryz.prog f args w' (RdOut R w')) : Calls Tryz.prog f args w' (fun e w'' => ∃ (t : VT) (A1 : Option Addr) (n1 c1 : Nat) (A2 : Option Addr) (n2 c2 : Nat), e = .returned (.tuple #[.agg #[.int .i64 (R).v.num, .slice A1 n1 c1, .slice A2 n2 c2], .int .i64 ((R).next : Int), .int .i64 ((R).code : Int)]) ∧ Hid (t.vb = .slice A1 n1 c1 ∧ t.vi = .slice A2 n2 c2) ∧ Hid (GotV w' w'' t (R).v) ∧ Ext w' w'') := h.mono fun _ _ h => RdOut.shape h
theorem sReadRoot_c (A : Option Addr) (ds : List DRule) (c : Nat) (Ab : Option Addr) (b : List UInt8) (cb : Nat) (w : World) (hd : RdD w A ds c) (hs : ShortD ds) (hw : WfD ds) (hb : Bs w Ab b cb) :
 Calls Tryz.prog 27 #[vdesc (.slice A ds.length c), .int .i64 ((ds.length : Int) - 1), .slice Ab b.length cb, .int .i64 0] w (RdOut (readRoot ds b) w) := by
 have hl := hd.len
 have hbl := hb.len
 have CK := Lib.hid (fun w' (e : Ext w w') => l7Rule_c A ds c ((ds.length : Int) - 1) w' (hd.ext e) hs hw)
 have CI := Lib.hid (fun (x lo hi : Int) w' => l1In_c x lo hi w')
 have B1 := Box.new w #[.slice A ds.length c] 26
 have x1 := Ext_alloc (.cells #[.slice A ds.length c] 26) (Ext.refl w)
 have B2 := Box.new (w.alloc (.cells #[.slice A ds.length c] 26)) #[.int .i64 0, .slice none 0 0, .slice none 0 0] 29
 have x2 := Ext_alloc (.cells #[.int .i64 0, .slice none 0 0, .slice none 0 0] 29) (Ext.refl (w.alloc (.cells #[.slice A ds.length c] 26)))
 rw [World.size_alloc] at B2
 have B1 := B1.ext x2
 obtain ⟨W0, hW0⟩ : ∃ W0, W0 = (w.alloc (.cells #[.slice A ds.length c] 26)).alloc (.cells #[.int .i64 0, .slice none 0 0, .slice none 0 0] 29) := ⟨_, rfl⟩
 rw [← hW0] at B1 B2 x2
 have e0 := x1.trans x2
 have hs0 : W0.heap.size = w.heap.size + 1 + 1 := by rw [hW0]; simp
 have HW0 := Lib.hid hW0; have HB2 := Lib.hid B2; have HS0 := Lib.hid hs0
 have d0 : ∀ w', Ext W0 w' → _ = some (Value.slice A ds.length c) := fun w' e => B1.at 0 w' e
 clear hW0 B1 B2 x1 x2 hs0
 unfold readRoot
 unfold vdesc at *
 cases hok : descOk ds
 ·rw [if_neg (by simp)]
  rw [root_unknown hok] at CK
  go_enter Tryz.func27, Tryz.ntmps27
  go_wp2_with fail
  rw [← HW0.out]
  refine (CK.out _ e0).mono ?_; rintro _ w1 ⟨rfl, he1⟩
  have hbq := HB2.out.ext he1
  have f1 := hbq.cell; have f2 := hbq.free
  have hput := Lib.hid ((e0.trans he1).grown (grown_put3 _ (w.heap.size + 1) 0 t0) (fun g hg => by injection hg with hg; omega))
  go_wp2
  exact bodyPost_ret (v := badRes 0 8) (by simp [results, Tryz.results27, go_sem, f1, f2, badRes, zeroV]) rfl (RdOut.bad hput.out)
 ·obtain ⟨h0, hk⟩ := root_known hok
  rw [hk] at CK
  have CR := Lib.hid (fun w' (e : Ext w w') => RdOut_shapeC (sRead_all A ds c hok Ab b cb (ds.length - 1) (by omega) 0 w' (by omega) (hd.ext e) (hb.ext e)))
  unfold vdesc at CR
  rw [show ((ds.length - 1 : Nat) : Int) = (ds.length : Int) - 1 by omega] at CR
  have hin : (decide ((0 : Int) ≤ 0) && decide ((0 : Int) ≤ (b.length : Int))) = true := by simp
  have hle : (0 : Int) ≤ (ds.length : Int) - 1 := by omega
  by_cases h4 : b.length ≤ 400
  ·rw [if_pos ⟨rfl, h4⟩]
   have h4i : ¬ (400 : Int) < (b.length : Int) := by omega
   generalize readV ds b (ds.length - 1) 0 = Y at *
   go_enter Tryz.func27, Tryz.ntmps27
   go_wp2_with fail
   rw [← HW0.out]
   refine (CK.out _ e0).mono ?_; rintro _ w1 ⟨rfl, he1⟩
   go_wp2_with fail
   refine (CI.out _ _ _ _).mono ?_; rintro _ w2 ⟨rfl, he2⟩
   rw [hin]
   have e02 := he1.trans he2
   go_wp2_with fail
   refine (CR.out _ (e0.trans e02)).mono ?_; rintro _ w5 ⟨t, A1, n1, c1, A2, n2, c2, rfl, hsh, hgt, he5⟩
   have e05 := e02.trans he5
   have hbq := HB2.out.ext e05
   have f1 := hbq.cell; have f2 := hbq.free
   have hs0' := HS0.out; have hz2 := e02.size
   have hG := val_out3 (w := w) (g := w.heap.size + 1) (by omega) (e0.trans e05) (hgt.out.down (by omega)) (fun u hu g hg => by have := (hgt.out.own.block u hu g hg).1; omega) (.int .i64 Y.v.num) (.slice A1 n1 c1) (.slice A2 n2 c2)
   have HG := Lib.hid hG
   clear hG hs0'
   go_wp2
   exact bodyPost_ret (v := .tuple #[.agg #[.int .i64 Y.v.num, .slice A1 n1 c1, .slice A2 n2 c2], .int .i64 (Y.next : Int), .int .i64 (Y.code : Int)]) (by simp [results, Tryz.results27, go_sem, f1, f2]) rfl ⟨t, by unfold rrVal vval; rw [hsh.out.1, hsh.out.2], HG.out.1, HG.out.2⟩
  ·rw [if_neg (fun h => h4 h.2)]
   have h4i : (400 : Int) < (b.length : Int) := by omega
   go_enter Tryz.func27, Tryz.ntmps27
   go_wp2_with fail
   rw [← HW0.out]
   refine (CK.out _ e0).mono ?_; rintro _ w1 ⟨rfl, he1⟩
   go_wp2_with fail
   refine (CI.out _ _ _ _).mono ?_; rintro _ w2 ⟨rfl, he2⟩
   rw [hin]
   have e02 := he1.trans he2
   have hbq := HB2.out.ext e02
   have f1 := hbq.cell; have f2 := hbq.free
   have hput := Lib.hid ((e0.trans e02).grown (grown_put3 _ (w.heap.size + 1) 0 t0) (fun g hg => by injection hg with hg; omega))
   go_wp2
   exact bodyPost_ret (v := badRes 0 8) (by simp [results, Tryz.results27, go_sem, f1, f2, badRes, zeroV]) rfl (RdOut.bad hput.out)
theorem sReadFile_c (A : Option Addr) (ds : List DRule) (c : Nat) (Ab : Option Addr) (b : List UInt8) (cb : Nat) (w : World) (hd : RdD w A ds c) (hs : ShortD ds) (hw : WfD ds) (hb : Bs w Ab b cb) :
 Calls Tryz.prog 9 #[vdesc (.slice A ds.length c), .slice Ab b.length cb] w (RdOut (readFile ds b) w) := by
 have hl := hd.len
 have hbl := hb.len
 have CO := Lib.hid (fun w' => sRoot_c A ds c w' hl)
 have CR := Lib.hid (fun w' (e : Ext w w') => RdOut_shapeC (sReadRoot_c A ds c Ab b cb w' (hd.ext e) hs hw (hb.ext e)))
 have B1 := Box.new w #[.slice A ds.length c] 26
 have x1 := Ext_alloc (.cells #[.slice A ds.length c] 26) (Ext.refl w)
 have B2 := Box.new (w.alloc (.cells #[.slice A ds.length c] 26)) #[.int .i64 0, .slice none 0 0, .slice none 0 0] 29
 have x2 := Ext_alloc (.cells #[.int .i64 0, .slice none 0 0, .slice none 0 0] 29) (Ext.refl (w.alloc (.cells #[.slice A ds.length c] 26)))
 rw [World.size_alloc] at B2
 have B1 := B1.ext x2
 obtain ⟨W0, hW0⟩ : ∃ W0, W0 = (w.alloc (.cells #[.slice A ds.length c] 26)).alloc (.cells #[.int .i64 0, .slice none 0 0, .slice none 0 0] 29) := ⟨_, rfl⟩
 rw [← hW0] at B1 B2 x2
 have e0 := x1.trans x2
 have hs0 : W0.heap.size = w.heap.size + 1 + 1 := by rw [hW0]; simp
 have HW0 := Lib.hid hW0; have HB2 := Lib.hid B2; have HS0 := Lib.hid hs0
 have d0 : ∀ w', Ext W0 w' → _ = some (Value.slice A ds.length c) := fun w' e => B1.at 0 w' e
 clear hW0 B1 B2 x1 x2 hs0 hd hb
 rw [readFile_eq]
 obtain ⟨R, hR⟩ : ∃ R, (if (readRoot ds b).code = 0 ∧ (readRoot ds b).next < b.length then RR.bad (readRoot ds b).next 7 else readRoot ds b) = R := ⟨_, rfl⟩
 rw [hR]
 generalize readRoot ds b = Y at *
 have HRR := Lib.hid hR; clear hR
 unfold vdesc at *
 have SY : Hid (∀ w', Ext W0 w' → Ext W0 w' ∧ True) := fun _ h1 => ⟨h1, trivial⟩
 have HXD : Ext W0 W0.drew := Ext_drew (Ext.refl W0)
 go_enter Tryz.func9, Tryz.ntmps9
 go_wp2_with fail
 rw [← HW0.out]
 go_cut [7, 8, 9] (fun s7 s8 s9 wx => ∃ g t vb vi, s7 = .pointer (some ⟨g, 0, none⟩) ∧ s8 = .int .i64 (Y.next : Int) ∧ s9 = .int .i64 (Y.code : Int) ∧ Hid (t.vb = vb ∧ t.vi = vi ∧ Box wx g #[.int .i64 Y.v.num, vb, vi] 29) ∧ Hid (GotV W0 wx t Y.v) ∧ Hid ((∃ A1 n1 c1, vb = .slice A1 n1 c1) ∧ ∃ A2 n2 c2, vi = .slice A2 n2 c2) ∧ Ext W0 wx)
 case first =>
  go_region_held3 (fun w' => Ext W0 w' ∧ True) (first | exact SY.out _ HXD | exact SY.out _ (by assumption) | exact SY.out _ (Ext_alloc _ (And.left (by assumption))) | exact SY.out _ (Ext_alloc _ (by assumption)) | exact SY.out _ (((Ext.setCell hE5 (by first | exact Nat.le_refl _ | exact hE4.size) _).setCell (by first | exact Nat.le_refl _ | exact hE4.size) _).setCell (by first | exact Nat.le_refl _ | exact hE4.size) _)) (first
   | (go_at_call 26; have hq := ‹Ext W0 _ ∧ True›; refine (CO.out _).mono ?_; rintro _ w4 ⟨rfl, he4⟩; have hE4 := hq.1.trans he4; (try (have hbx : Box w4 W0.heap.size #[.int .i64 0, .slice none 0 0, .slice none 0 0] 29 := Box.ext (Box.new W0.drew #[.int .i64 0, .slice none 0 0, .slice none 0 0] 29) he4)))
   | (go_at_call 27; have hq := ‹Ext W0 _ ∧ True›; refine (CR.out _ (e0.trans hq.1)).mono ?_; rintro _ w5 ⟨t, A1, n1, c1, A2, n2, c2, rfl, hsh, hgt, he5⟩; have hE5 := hq.1.trans he5; (first | (have hbz : Box w5 W0.heap.size #[.int .i64 0, .slice none 0 0, .slice none 0 0] 29 := Box.ext hbx he5; have z0 : w5.cell? ⟨W0.heap.size, 0, none⟩ = some (Value.int .i64 0) := hbz.cell 0; have z1 : w5.cell? ⟨W0.heap.size, 1, none⟩ = some (Value.slice none 0 0) := hbz.cell 1; have z2 : w5.cell? ⟨W0.heap.size, 2, none⟩ = some (Value.slice none 0 0) := hbz.cell 2; have y0 : w5.frozen? ⟨W0.heap.size, 0, none⟩ = false := hbz.free 0; have y1 : w5.frozen? ⟨W0.heap.size, 1, none⟩ = false := hbz.free 1; have y2 : w5.frozen? ⟨W0.heap.size, 2, none⟩ = false := hbz.free 2) | (have hbz : Box w5 w4.heap.size #[.int .i64 0, .slice none 0 0, .slice none 0 0] 29 := Box.ext (Box.new w4 #[.int .i64 0, .slice none 0 0, .slice none 0 0] 29) he5; have z0 : w5.cell? ⟨w4.heap.size, 0, none⟩ = some (Value.int .i64 0) := hbz.cell 0; have z1 : w5.cell? ⟨w4.heap.size, 1, none⟩ = some (Value.slice none 0 0) := hbz.cell 1; have z2 : w5.cell? ⟨w4.heap.size, 2, none⟩ = some (Value.slice none 0 0) := hbz.cell 2; have y0 : w5.frozen? ⟨w4.heap.size, 0, none⟩ = false := hbz.free 0; have y1 : w5.frozen? ⟨w4.heap.size, 1, none⟩ = false := hbz.free 1; have y2 : w5.frozen? ⟨w4.heap.size, 2, none⟩ = false := hbz.free 2) | skip)))
  all_goals
   go_wp2_with fail
   go_meet
  all_goals
   first
    | exact ⟨_, t, _, _, rfl, rfl, rfl, ⟨hsh.out.1, hsh.out.2, Box.new w5 _ _⟩, GotV.down (GotV.ext hgt.out (Ext_alloc _ (Ext.refl _))) hE4.size, ⟨⟨_, _, _, rfl⟩, _, _, _, rfl⟩, Ext_alloc _ hE5⟩
    | exact ⟨_, t, _, _, rfl, rfl, rfl, ⟨hsh.out.1, hsh.out.2, box_laid hbz _ _ _⟩, GotV.down (got_laid hgt.out (by rw [World.size_alloc]; omega) _ _ _) (by rw [World.size_alloc]; have := hE4.size; omega), ⟨⟨_, _, _, rfl⟩, _, _, _, rfl⟩, ((hE5.setCell (by exact hE4.size) _).setCell (by exact hE4.size) _).setCell (by exact hE4.size) _⟩
    | exact ⟨_, t, _, _, rfl, rfl, rfl, ⟨hsh.out.1, hsh.out.2, box_laid hbz _ _ _⟩, GotV.down (got_laid hgt.out (by have h1 := he4.size; simp at h1; omega) _ _ _) hE4.size, ⟨⟨_, _, _, rfl⟩, _, _, _, rfl⟩, ((hE5.setCell (by exact Nat.le_refl _) _).setCell (by exact Nat.le_refl _) _).setCell (by exact Nat.le_refl _) _⟩
 case rest =>
  obtain ⟨g, t, vb, vi, rfl, rfl, rfl, hbg, hgt, ⟨⟨A1, n1, c1, rfl⟩, A2, n2, c2, rfl⟩, hEc⟩ := hcut
  have hbx := hbg.out.2.2
  have p0 : _ = some (Value.int .i64 Y.v.num) := hbx.cell 0
  have p1 : _ = some (Value.slice A1 n1 c1) := hbx.cell 1
  have p2 : _ = some (Value.slice A2 n2 c2) := hbx.cell 2
  have hbq := HB2.out.ext hEc
  have f1 := hbq.cell; have f2 := hbq.free
  have hs0' := HS0.out
  by_cases hc : Y.code = 0
  ·have hci : ((Y.code : Int) == 0) = true := by simp [hc]
   by_cases hn : Y.next < b.length
   ·have hni : (Y.next : Int) < (b.length : Int) := by omega
    have hq := HRR.out; rw [if_pos ⟨hc, hn⟩] at hq; subst hq
    have hput := Lib.hid ((e0.trans hEc).grown (grown_put3 _ (w.heap.size + 1) 0 t0) (fun g hg => by injection hg with hg; omega))
    clear HRR hc hn hbx SY
    go_wp2
    exact bodyPost_ret (v := badRes Y.next 7) (by simp [results, Tryz.results9, go_sem, f1, f2, badRes, zeroV]) rfl (RdOut.bad hput.out)
   ·have hni : ¬ (Y.next : Int) < (b.length : Int) := by omega
    have hq := HRR.out; rw [if_neg (fun h => hn h.2)] at hq; subst hq
    clear HRR hbx SY
    have hG := val_out3 (w := w) (g := w.heap.size + 1) (by omega) (e0.trans hEc) (hgt.out.down (by omega)) (fun u hu g hg => by have := (hgt.out.own.block u hu g hg).1; omega) (.int .i64 Y.v.num) (.slice A1 n1 c1) (.slice A2 n2 c2)
    have HG := Lib.hid hG
    clear hG
    go_wp2
    exact bodyPost_ret (v := .tuple #[.agg #[.int .i64 Y.v.num, .slice A1 n1 c1, .slice A2 n2 c2], .int .i64 (Y.next : Int), .int .i64 (Y.code : Int)]) (by first | (simp [results, Tryz.results9, go_sem, p0, p1, p2, f1, f2]; done) | (simp [results, Tryz.results9, go_sem, p0, p1, p2, f1, f2]; omega)) rfl ⟨t, by unfold rrVal vval; rw [hbg.out.1, hbg.out.2.1], HG.out.1, HG.out.2⟩
  ·have hci : ((Y.code : Int) == 0) = false := by simp [hc]
   have hq := HRR.out; rw [if_neg (fun h => hc h.1)] at hq; subst hq
   clear HRR hbx SY
   have hG := val_out3 (w := w) (g := w.heap.size + 1) (by omega) (e0.trans hEc) (hgt.out.down (by omega)) (fun u hu g hg => by have := (hgt.out.own.block u hu g hg).1; omega) (.int .i64 Y.v.num) (.slice A1 n1 c1) (.slice A2 n2 c2)
   have HG := Lib.hid hG
   clear hG
   go_wp2
   exact bodyPost_ret (v := .tuple #[.agg #[.int .i64 Y.v.num, .slice A1 n1 c1, .slice A2 n2 c2], .int .i64 (Y.next : Int), .int .i64 (Y.code : Int)]) (by first | (simp [results, Tryz.results9, go_sem, p0, p1, p2, f1, f2]; done) | (simp [results, Tryz.results9, go_sem, p0, p1, p2, f1, f2]; omega)) rfl ⟨t, by unfold rrVal vval; rw [hbg.out.1, hbg.out.2.1], HG.out.1, HG.out.2⟩
theorem ofN_get : ∀ (s n k : Nat) (h : k < s), (ofN s n)[k]'(by rw [ofN_len]; exact h) = UInt8.ofNat (n / 256 ^ (s - 1 - k))
 | s + 1, n, k, h => by
  by_cases hk : k < s
  ·have e : (ofN (s + 1) n)[k]'(by rw [ofN_len]; exact h) = (ofN s (n / 256))[k]'(by rw [ofN_len]; exact hk) := by
    simp only [ofN]
    rw [List.getElem_append_left]
   rw [e, ofN_get s (n / 256) k hk, Nat.div_div_eq_div_mul]
   congr 2
   rw [show s + 1 - 1 - k = (s - 1 - k) + 1 by omega, Nat.pow_succ, Nat.mul_comm]
  ·obtain rfl : k = s := by omega
   have e : (ofN (k + 1) n)[k]'(by rw [ofN_len]; exact h) = UInt8.ofNat n := by
    simp only [ofN]
    rw [List.getElem_append_right (by rw [ofN_len]; omega)]
    simp [ofN_len]
   rw [e]; simp
theorem ofN_take (s n k : Nat) (h : k < s) : (ofN s n).take (k + 1) = (ofN s n).take k ++ [UInt8.ofNat (n / 256 ^ (s - 1 - k))] := by
 rw [List.take_succ_eq_append_getElem (by rw [ofN_len]; exact h), ofN_get s n k h]
theorem sBig1_c (n : Nat) (hn : n < 256) (w : World) :
 Calls Tryz.prog 84 #[.int .i64 (n : Int), .int .i64 1] w fun e w' => ∃ v, e = .returned v ∧ OwnL vu8 5 w w' v (ofN 1 n) ∧ Ext w w' := by
 have CP := Lib.hid (fun w => l2PowerN_c 1 w (by omega) (by omega))
 have hx1 := Ext_alloc (.cells #[] 5) (Ext.refl w)
 have ho1 := OwnL.empty (f := vu8) (e := 5) (Ext.refl w)
 have hni : (n : Int) ≤ 255 := by omega
 have HX : ∀ (m : Nat) (x : Int), x = ((m % 256 : Nat) : Int) → Hid (#[Value.int .u8 x] = ([UInt8.ofNat m].map vu8).toArray) := by
  intro m x hx
  show _ = _
  have : (UInt8.ofNat m).toNat = m % 256 := by rw [UInt8.toNat_ofNat']
  simp [vu8, this, hx]
 have HB : ∀ k (x : UInt8), Hid ((((ofN 1 n).take k).length + [x].length) * 1 ≤ 140737488355328) := by intro k x; show _ ≤ _; have := List.length_take_le' k (ofN 1 n); rw [ofN_len] at this; simp at this ⊢; omega
 have T0 : Hid ((ofN 1 n).take 1 = (ofN 1 n).take 0 ++ [UInt8.ofNat (n / 1)]) := ofN_take 1 n 0 (by omega)
 have TT : Hid ((ofN 1 n).take 1 = ofN 1 n) := by show _ = _; rw [List.take_of_length_le (by rw [ofN_len]; omega)]
 go_enter Tryz.func84, Tryz.ntmps84
 go_wp2_with (first
  | (go_at_call 48; refine (CP.out _).mono ?_; rintro _ w2 ⟨rfl, he2⟩)
  | (go_at_call 51; refine (l1In_c _ _ _ _).mono ?_; rintro _ w1 ⟨rfl, he1⟩))
 have he4 := (‹Ext (w.alloc (.cells #[] 5)) _›.trans he2).trans he1
 go_loopw [5, 6] (fun t i wr => ∃ k : Nat, k ≤ 1 ∧ i = .int .i64 (0 - k) ∧ Hid (OwnL vu8 5 w wr t ((ofN 1 n).take k)) ∧ Ext w wr) (fun _ i _ => (intOf i + 1).toNat)
 case atStart => exact ⟨0, by omega, rfl, ho1.ext he4, hx1.trans he4⟩
 case round =>
  clear he4 he1 he2 ho1 hx1
  obtain ⟨k, hk, rfl, ho, he⟩ := hrel
  rcases (by omega : k = 0 ∨ k = 1) with rfl | rfl
  ·go_wp2_with (first
    | (at_builtin; go_must (refine wpList_appN rfl (.tmp 26) (.tmp 32) _ rfl E_u8 (by omega) w _ vu8 (fun _ => rfl) _ rfl _ _ rfl ((ofN 1 n).take 0) [UInt8.ofNat (n / 1)] _ (HX (n / 1) _ (by omega)).out ho.out he rfl (HB _ _).out ?_); intro v1 w1 ho1 he1; rw [← T0.out] at ho1))
   have HO := Lib.hid ho1
   go_roundw
   case rel => exact ⟨1, by omega, rfl, HO, he1⟩
   case measure => simp [intOf]
  ·go_wp2
   go_ret
   have h1 := ho.out
   rw [TT.out] at h1
   exact ⟨_, rfl, h1, he⟩
theorem sBig2_c (n : Nat) (hn : n < 65536) (w : World) :
 Calls Tryz.prog 84 #[.int .i64 (n : Int), .int .i64 2] w fun e w' => ∃ v, e = .returned v ∧ OwnL vu8 5 w w' v (ofN 2 n) ∧ Ext w w' := by
 have CP := Lib.hid (fun w => l2PowerN_c 2 w (by omega) (by omega))
 have hx1 := Ext_alloc (.cells #[] 5) (Ext.refl w)
 have ho1 := OwnL.empty (f := vu8) (e := 5) (Ext.refl w)
 have hni : (n : Int) ≤ 65535 := by omega
 have HX : ∀ (m : Nat) (x : Int), x = ((m % 256 : Nat) : Int) → Hid (#[Value.int .u8 x] = ([UInt8.ofNat m].map vu8).toArray) := by
  intro m x hx
  show _ = _
  have : (UInt8.ofNat m).toNat = m % 256 := by rw [UInt8.toNat_ofNat']
  simp [vu8, this, hx]
 have HB : ∀ k (x : UInt8), Hid ((((ofN 2 n).take k).length + [x].length) * 1 ≤ 140737488355328) := by intro k x; show _ ≤ _; have := List.length_take_le' k (ofN 2 n); rw [ofN_len] at this; simp at this ⊢; omega
 have T0 : Hid ((ofN 2 n).take 1 = (ofN 2 n).take 0 ++ [UInt8.ofNat (n / 256)]) := ofN_take 2 n 0 (by omega)
 have T1 : Hid ((ofN 2 n).take 2 = (ofN 2 n).take 1 ++ [UInt8.ofNat (n / 1)]) := ofN_take 2 n 1 (by omega)
 have TT : Hid ((ofN 2 n).take 2 = ofN 2 n) := by show _ = _; rw [List.take_of_length_le (by rw [ofN_len]; omega)]
 go_enter Tryz.func84, Tryz.ntmps84
 go_wp2_with (first
  | (go_at_call 48; refine (CP.out _).mono ?_; rintro _ w2 ⟨rfl, he2⟩)
  | (go_at_call 51; refine (l1In_c _ _ _ _).mono ?_; rintro _ w1 ⟨rfl, he1⟩))
 have he4 := (‹Ext (w.alloc (.cells #[] 5)) _›.trans he2).trans he1
 go_loopw [5, 6] (fun t i wr => ∃ k : Nat, k ≤ 2 ∧ i = .int .i64 (1 - k) ∧ Hid (OwnL vu8 5 w wr t ((ofN 2 n).take k)) ∧ Ext w wr) (fun _ i _ => (intOf i + 1).toNat)
 case atStart => exact ⟨0, by omega, rfl, ho1.ext he4, hx1.trans he4⟩
 case round =>
  clear he4 he1 he2 ho1 hx1
  obtain ⟨k, hk, rfl, ho, he⟩ := hrel
  rcases (by omega : k = 0 ∨ k = 1 ∨ k = 2) with rfl | rfl | rfl
  ·go_wp2_with (first
    | (at_builtin; go_must (refine wpList_appN rfl (.tmp 26) (.tmp 32) _ rfl E_u8 (by omega) w _ vu8 (fun _ => rfl) _ rfl _ _ rfl ((ofN 2 n).take 0) [UInt8.ofNat (n / 256)] _ (HX (n / 256) _ (by omega)).out ho.out he rfl (HB _ _).out ?_); intro v1 w1 ho1 he1; rw [← T0.out] at ho1))
   have HO := Lib.hid ho1
   go_roundw
   case rel => exact ⟨1, by omega, rfl, HO, he1⟩
   case measure => simp [intOf]
  ·go_wp2_with (first
    | (at_builtin; go_must (refine wpList_appN rfl (.tmp 26) (.tmp 32) _ rfl E_u8 (by omega) w _ vu8 (fun _ => rfl) _ rfl _ _ rfl ((ofN 2 n).take 1) [UInt8.ofNat (n / 1)] _ (HX (n / 1) _ (by omega)).out ho.out he rfl (HB _ _).out ?_); intro v1 w1 ho1 he1; rw [← T1.out] at ho1))
   have HO := Lib.hid ho1
   go_roundw
   case rel => exact ⟨2, by omega, rfl, HO, he1⟩
   case measure => simp [intOf]
  ·go_wp2
   go_ret
   have h1 := ho.out
   rw [TT.out] at h1
   exact ⟨_, rfl, h1, he⟩
theorem sBig3_c (n : Nat) (hn : n < 16777216) (w : World) :
 Calls Tryz.prog 84 #[.int .i64 (n : Int), .int .i64 3] w fun e w' => ∃ v, e = .returned v ∧ OwnL vu8 5 w w' v (ofN 3 n) ∧ Ext w w' := by
 have CP := Lib.hid (fun w => l2PowerN_c 3 w (by omega) (by omega))
 have hx1 := Ext_alloc (.cells #[] 5) (Ext.refl w)
 have ho1 := OwnL.empty (f := vu8) (e := 5) (Ext.refl w)
 have hni : (n : Int) ≤ 16777215 := by omega
 have HX : ∀ (m : Nat) (x : Int), x = ((m % 256 : Nat) : Int) → Hid (#[Value.int .u8 x] = ([UInt8.ofNat m].map vu8).toArray) := by
  intro m x hx
  show _ = _
  have : (UInt8.ofNat m).toNat = m % 256 := by rw [UInt8.toNat_ofNat']
  simp [vu8, this, hx]
 have HB : ∀ k (x : UInt8), Hid ((((ofN 3 n).take k).length + [x].length) * 1 ≤ 140737488355328) := by intro k x; show _ ≤ _; have := List.length_take_le' k (ofN 3 n); rw [ofN_len] at this; simp at this ⊢; omega
 have T0 : Hid ((ofN 3 n).take 1 = (ofN 3 n).take 0 ++ [UInt8.ofNat (n / 65536)]) := ofN_take 3 n 0 (by omega)
 have T1 : Hid ((ofN 3 n).take 2 = (ofN 3 n).take 1 ++ [UInt8.ofNat (n / 256)]) := ofN_take 3 n 1 (by omega)
 have T2 : Hid ((ofN 3 n).take 3 = (ofN 3 n).take 2 ++ [UInt8.ofNat (n / 1)]) := ofN_take 3 n 2 (by omega)
 have TT : Hid ((ofN 3 n).take 3 = ofN 3 n) := by show _ = _; rw [List.take_of_length_le (by rw [ofN_len]; omega)]
 go_enter Tryz.func84, Tryz.ntmps84
 go_wp2_with (first
  | (go_at_call 48; refine (CP.out _).mono ?_; rintro _ w2 ⟨rfl, he2⟩)
  | (go_at_call 51; refine (l1In_c _ _ _ _).mono ?_; rintro _ w1 ⟨rfl, he1⟩))
 have he4 := (‹Ext (w.alloc (.cells #[] 5)) _›.trans he2).trans he1
 go_loopw [5, 6] (fun t i wr => ∃ k : Nat, k ≤ 3 ∧ i = .int .i64 (2 - k) ∧ Hid (OwnL vu8 5 w wr t ((ofN 3 n).take k)) ∧ Ext w wr) (fun _ i _ => (intOf i + 1).toNat)
 case atStart => exact ⟨0, by omega, rfl, ho1.ext he4, hx1.trans he4⟩
 case round =>
  clear he4 he1 he2 ho1 hx1
  obtain ⟨k, hk, rfl, ho, he⟩ := hrel
  rcases (by omega : k = 0 ∨ k = 1 ∨ k = 2 ∨ k = 3) with rfl | rfl | rfl | rfl
  ·go_wp2_with (first
    | (at_builtin; go_must (refine wpList_appN rfl (.tmp 26) (.tmp 32) _ rfl E_u8 (by omega) w _ vu8 (fun _ => rfl) _ rfl _ _ rfl ((ofN 3 n).take 0) [UInt8.ofNat (n / 65536)] _ (HX (n / 65536) _ (by omega)).out ho.out he rfl (HB _ _).out ?_); intro v1 w1 ho1 he1; rw [← T0.out] at ho1))
   have HO := Lib.hid ho1
   go_roundw
   case rel => exact ⟨1, by omega, rfl, HO, he1⟩
   case measure => simp [intOf]
  ·go_wp2_with (first
    | (at_builtin; go_must (refine wpList_appN rfl (.tmp 26) (.tmp 32) _ rfl E_u8 (by omega) w _ vu8 (fun _ => rfl) _ rfl _ _ rfl ((ofN 3 n).take 1) [UInt8.ofNat (n / 256)] _ (HX (n / 256) _ (by omega)).out ho.out he rfl (HB _ _).out ?_); intro v1 w1 ho1 he1; rw [← T1.out] at ho1))
   have HO := Lib.hid ho1
   go_roundw
   case rel => exact ⟨2, by omega, rfl, HO, he1⟩
   case measure => simp [intOf]
  ·go_wp2_with (first
    | (at_builtin; go_must (refine wpList_appN rfl (.tmp 26) (.tmp 32) _ rfl E_u8 (by omega) w _ vu8 (fun _ => rfl) _ rfl _ _ rfl ((ofN 3 n).take 2) [UInt8.ofNat (n / 1)] _ (HX (n / 1) _ (by omega)).out ho.out he rfl (HB _ _).out ?_); intro v1 w1 ho1 he1; rw [← T2.out] at ho1))
   have HO := Lib.hid ho1
   go_roundw
   case rel => exact ⟨3, by omega, rfl, HO, he1⟩
   case measure => simp [intOf]
  ·go_wp2
   go_ret
   have h1 := ho.out
   rw [TT.out] at h1
   exact ⟨_, rfl, h1, he⟩
theorem sBig4_c (n : Nat) (hn : n < 4294967296) (w : World) :
 Calls Tryz.prog 84 #[.int .i64 (n : Int), .int .i64 4] w fun e w' => ∃ v, e = .returned v ∧ OwnL vu8 5 w w' v (ofN 4 n) ∧ Ext w w' := by
 have CP := Lib.hid (fun w => l2PowerN_c 4 w (by omega) (by omega))
 have hx1 := Ext_alloc (.cells #[] 5) (Ext.refl w)
 have ho1 := OwnL.empty (f := vu8) (e := 5) (Ext.refl w)
 have hni : (n : Int) ≤ 4294967295 := by omega
 have HX : ∀ (m : Nat) (x : Int), x = ((m % 256 : Nat) : Int) → Hid (#[Value.int .u8 x] = ([UInt8.ofNat m].map vu8).toArray) := by
  intro m x hx
  show _ = _
  have : (UInt8.ofNat m).toNat = m % 256 := by rw [UInt8.toNat_ofNat']
  simp [vu8, this, hx]
 have HB : ∀ k (x : UInt8), Hid ((((ofN 4 n).take k).length + [x].length) * 1 ≤ 140737488355328) := by intro k x; show _ ≤ _; have := List.length_take_le' k (ofN 4 n); rw [ofN_len] at this; simp at this ⊢; omega
 have T0 : Hid ((ofN 4 n).take 1 = (ofN 4 n).take 0 ++ [UInt8.ofNat (n / 16777216)]) := ofN_take 4 n 0 (by omega)
 have T1 : Hid ((ofN 4 n).take 2 = (ofN 4 n).take 1 ++ [UInt8.ofNat (n / 65536)]) := ofN_take 4 n 1 (by omega)
 have T2 : Hid ((ofN 4 n).take 3 = (ofN 4 n).take 2 ++ [UInt8.ofNat (n / 256)]) := ofN_take 4 n 2 (by omega)
 have T3 : Hid ((ofN 4 n).take 4 = (ofN 4 n).take 3 ++ [UInt8.ofNat (n / 1)]) := ofN_take 4 n 3 (by omega)
 have TT : Hid ((ofN 4 n).take 4 = ofN 4 n) := by show _ = _; rw [List.take_of_length_le (by rw [ofN_len]; omega)]
 go_enter Tryz.func84, Tryz.ntmps84
 go_wp2_with (first
  | (go_at_call 48; refine (CP.out _).mono ?_; rintro _ w2 ⟨rfl, he2⟩)
  | (go_at_call 51; refine (l1In_c _ _ _ _).mono ?_; rintro _ w1 ⟨rfl, he1⟩))
 have he4 := (‹Ext (w.alloc (.cells #[] 5)) _›.trans he2).trans he1
 go_loopw [5, 6] (fun t i wr => ∃ k : Nat, k ≤ 4 ∧ i = .int .i64 (3 - k) ∧ Hid (OwnL vu8 5 w wr t ((ofN 4 n).take k)) ∧ Ext w wr) (fun _ i _ => (intOf i + 1).toNat)
 case atStart => exact ⟨0, by omega, rfl, ho1.ext he4, hx1.trans he4⟩
 case round =>
  clear he4 he1 he2 ho1 hx1
  obtain ⟨k, hk, rfl, ho, he⟩ := hrel
  rcases (by omega : k = 0 ∨ k = 1 ∨ k = 2 ∨ k = 3 ∨ k = 4) with rfl | rfl | rfl | rfl | rfl
  ·go_wp2_with (first
    | (at_builtin; go_must (refine wpList_appN rfl (.tmp 26) (.tmp 32) _ rfl E_u8 (by omega) w _ vu8 (fun _ => rfl) _ rfl _ _ rfl ((ofN 4 n).take 0) [UInt8.ofNat (n / 16777216)] _ (HX (n / 16777216) _ (by omega)).out ho.out he rfl (HB _ _).out ?_); intro v1 w1 ho1 he1; rw [← T0.out] at ho1))
   have HO := Lib.hid ho1
   go_roundw
   case rel => exact ⟨1, by omega, rfl, HO, he1⟩
   case measure => simp [intOf]
  ·go_wp2_with (first
    | (at_builtin; go_must (refine wpList_appN rfl (.tmp 26) (.tmp 32) _ rfl E_u8 (by omega) w _ vu8 (fun _ => rfl) _ rfl _ _ rfl ((ofN 4 n).take 1) [UInt8.ofNat (n / 65536)] _ (HX (n / 65536) _ (by omega)).out ho.out he rfl (HB _ _).out ?_); intro v1 w1 ho1 he1; rw [← T1.out] at ho1))
   have HO := Lib.hid ho1
   go_roundw
   case rel => exact ⟨2, by omega, rfl, HO, he1⟩
   case measure => simp [intOf]
  ·go_wp2_with (first
    | (at_builtin; go_must (refine wpList_appN rfl (.tmp 26) (.tmp 32) _ rfl E_u8 (by omega) w _ vu8 (fun _ => rfl) _ rfl _ _ rfl ((ofN 4 n).take 2) [UInt8.ofNat (n / 256)] _ (HX (n / 256) _ (by omega)).out ho.out he rfl (HB _ _).out ?_); intro v1 w1 ho1 he1; rw [← T2.out] at ho1))
   have HO := Lib.hid ho1
   go_roundw
   case rel => exact ⟨3, by omega, rfl, HO, he1⟩
   case measure => simp [intOf]
  ·go_wp2_with (first
    | (at_builtin; go_must (refine wpList_appN rfl (.tmp 26) (.tmp 32) _ rfl E_u8 (by omega) w _ vu8 (fun _ => rfl) _ rfl _ _ rfl ((ofN 4 n).take 3) [UInt8.ofNat (n / 1)] _ (HX (n / 1) _ (by omega)).out ho.out he rfl (HB _ _).out ?_); intro v1 w1 ho1 he1; rw [← T3.out] at ho1))
   have HO := Lib.hid ho1
   go_roundw
   case rel => exact ⟨4, by omega, rfl, HO, he1⟩
   case measure => simp [intOf]
  ·go_wp2
   go_ret
   have h1 := ho.out
   rw [TT.out] at h1
   exact ⟨_, rfl, h1, he⟩
theorem sBig_c (s n : Nat) (hs : 1 ≤ s ∧ s ≤ 4) (hn : n < 256 ^ s) (w : World) :
 Calls Tryz.prog 84 #[.int .i64 (n : Int), .int .i64 (s : Int)] w fun e w' => ∃ v, e = .returned v ∧ OwnL vu8 5 w w' v (ofN s n) ∧ Ext w w' := by
 rcases (by omega : s = 1 ∨ s = 2 ∨ s = 3 ∨ s = 4) with rfl | rfl | rfl | rfl
 ·exact sBig1_c n hn w
 ·exact sBig2_c n hn w
 ·exact sBig3_c n hn w
 ·exact sBig4_c n hn w
theorem rev_take (l : List UInt8) (k : Nat) (h : k < l.length) : l.reverse.take (k + 1) = l.reverse.take k ++ [l[l.length - 1 - k]] := by
 rw [List.take_succ_eq_append_getElem (by simpa using h)]
 congr 2
 rw [List.getElem_reverse]
theorem sLittle_c (s n : Nat) (hs : 1 ≤ s ∧ s ≤ 4) (hn : n < 256 ^ s) (w : World) :
 Calls Tryz.prog 83 #[.int .i64 (n : Int), .int .i64 (s : Int)] w fun e w' => ∃ v, e = .returned v ∧ OwnL vu8 5 w w' v (ofN s n).reverse ∧ Ext w w' := by
 have CB := Lib.hid (fun w => sBig_c s n hs hn w)
 have hlen := ofN_len s n
 generalize ofN s n = L at *
 have HT := Lib.hid (fun k h => rev_take L k h)
 have HTT : Hid (L.reverse.take L.length = L.reverse) := by show _ = _; rw [List.take_of_length_le (by simp)]
 have HLR : Hid (L.reverse.length = L.length) := List.length_reverse
 have hL4 : L.length ≤ 4 := by omega
 clear hlen
 go_enter Tryz.func83, Tryz.ntmps83
 go_wp2_with fail
 refine (CB.out _).mono ?_; rintro _ w1 ⟨v1, rfl, ho1, he1⟩
 obtain ⟨A1, c1, hv, hr⟩ := OwnL.rd ho1 (by omega)
 subst hv
 have ho2 := Lib.hid (OwnL.empty (f := vu8) (e := 5) (Ext.refl w1))
 have hw1 := Ext_alloc (.cells #[] 5) (Ext.refl w1)
 have HR := Lib.hid hr
 clear ho1 hr
 go_wp2
 go_loopw [6, 7] (fun t i wr => ∃ k : Nat, k ≤ L.length ∧ i = .int .i64 ((L.length : Int) - 1 - k) ∧ Hid (OwnL vu8 5 w1 wr t (L.reverse.take k)) ∧ Ext w1 wr) (fun _ i _ => (intOf i + 1).toNat)
 case atStart => exact ⟨0, by omega, by simp, ho2, hw1⟩
 case round =>
  clear ho2 hw1
  obtain ⟨k, hk, rfl, ho, he⟩ := hrel
  by_cases hlt : k < L.length
  ·obtain ⟨b, off, hA, hb, hc⟩ := HR.out.at (L.length - 1 - k) (by omega)
   subst hA
   have q1 := fun w' (e : Ext wr w') => hc w' (he.trans e)
   have HTk := Lib.hid (HT.out k hlt)
   have hsub : (L.length : Int) - 1 - (k : Int) = ((L.length - 1 - k : Nat) : Int) := by omega
   have HB : ∀ (x : UInt8), Hid (((L.reverse.take k).length + [x].length) * 1 ≤ 140737488355328) := by intro x; show _ ≤ _; have := List.length_take_le' k L.reverse; have := HLR.out; simp at *; omega
   have hik : L.length - 1 - k < L.length := by omega
   simp only [vu8] at q1
   generalize L[L.length - 1 - k] = y at *
   have hY : Hid (#[Value.int .u8 (y.toNat : Int)] = ([y].map vu8).toArray) := rfl
   rw [hsub]
   have hnn : (0 : Int) ≤ ((L.length - 1 - k : Nat) : Int) := by omega
   generalize hj : L.length - 1 - k = j at *
   have hji : (j : Int) < (L.length : Int) := by omega
   clear hc
   go_wp2_with (first
    | (at_builtin; go_must (refine wpList_appN rfl (.tmp 19) (.tmp 24) _ rfl E_u8 (by omega) w1 _ vu8 (fun _ => rfl) _ rfl _ _ rfl (L.reverse.take k) [y] _ hY.out ho.out he rfl (HB y).out ?_); intro v4 w4 ho4 he4; rw [← HTk.out] at ho4))
   have HO := Lib.hid ho4
   clear ho4
   go_wp2
   go_roundw
   case rel => exact ⟨k + 1, by omega, by congr 1; omega, HO, he4⟩
   case measure => simp [intOf]
  ·obtain rfl : k = L.length := by omega
   have hneg : ¬ (0 : Int) ≤ (L.length : Int) - 1 - (L.length : Int) := by omega
   go_wp2
   go_ret
   have h1 := ho.out
   rw [HTT.out] at h1
   exact ⟨_, rfl, h1.down he1.size, he1.trans he⟩
theorem sEncI_c (r : DRule) (Rb : Option Addr) (rb : Nat) (Rn : Option Addr) (rn : Nat) (Rt : Option Addr) (rt : Nat) (Rk : Option Addr) (rk : Nat) (n : Nat) (hs : 1 ≤ r.size ∧ r.size ≤ 4) (hn : n < 256 ^ r.size.toNat) (w : World) :
 Calls Tryz.prog 67 #[vrule r (.slice Rb r.bytes.length rb) (.slice Rn r.names.length rn) (.slice Rt r.tags.length rt) (.slice Rk r.kids.length rk), .int .i64 (n : Int)] w fun e w' => ∃ v, e = .returned v ∧ OwnL vu8 5 w w' v (encI r n) ∧ Ext w w' := by
 have CB := Lib.hid (fun w => sBig_c r.size.toNat n (by omega) hn w)
 have CL := Lib.hid (fun w => sLittle_c r.size.toNat n (by omega) hn w)
 rw [Int.toNat_of_nonneg (by omega)] at CB CL
 obtain ⟨L, hL⟩ : ∃ L, encI r n = L := ⟨_, rfl⟩
 rw [hL]
 unfold encI at hL
 have eb := Ext_alloc (.cells #[.string r.nm, .int .i64 r.kind, .int .i64 r.size, .bool r.little, .slice Rb r.bytes.length rb, .slice Rn r.names.length rn, .slice Rt r.tags.length rt, .slice Rk r.kids.length rk] 51) (Ext.refl w)
 have hbs := eb.size
 unfold vrule
 cases hl : r.little
 ·rw [hl] at hL eb hbs
  simp only [Bool.false_eq_true, if_false] at hL
  subst hL
  clear CL
  go_enter Tryz.func67, Tryz.ntmps67
  go_wp2_with fail
  refine (CB.out _).mono ?_; rintro _ w1 ⟨v, rfl, ho, he1⟩
  have HO := Lib.hid (ho.down hbs)
  clear ho
  go_wp2
  go_ret
  exact ⟨_, rfl, HO.out, eb.trans he1⟩
 ·rw [hl] at hL eb hbs
  simp only [if_true] at hL
  subst hL
  clear CB
  go_enter Tryz.func67, Tryz.ntmps67
  go_wp2_with fail
  refine (CL.out _).mono ?_; rintro _ w1 ⟨v, rfl, ho, he1⟩
  have HO := Lib.hid (ho.down hbs)
  clear ho
  go_wp2
  go_ret
  exact ⟨_, rfl, HO.out, eb.trans he1⟩
noncomputable def eqVs (a b : List DVal) : Bool := decide (a = b)
theorem eqVs_all {a b : List DVal} (hl : a.length = b.length) (h : ∀ j (h1 : j < a.length) (h2 : j < b.length), eqV a[j] b[j] = true) : eqVs a b = true := by
 unfold eqVs; rw [decide_eq_true_eq]; exact List.ext_getElem hl (fun i h1 h2 => eqV_iff.1 (h i h1 h2))
theorem eqV_num {a b : DVal} (h : (a.num != b.num) = true) : eqV a b = false := eqV_no (by rintro rfl; simp at h)
theorem eqV_bytes {a b : DVal} (h : (a.bytes == b.bytes) = false) : eqV a b = false := eqV_no (by rintro rfl; simp at h)
theorem eqV_parts {a b : DVal} (h1 : (a.num != b.num) = false) (h2 : (a.bytes == b.bytes) = true) (h3 : eqVs a.items b.items = true) : eqV a b = true := by
 rw [eqV_iff]; exact DVal.ext' (by simpa using h1) (by simpa using h2) (by unfold eqVs at h3; simpa using h3)
theorem Rd0.bs {w : World} {A : Option Addr} {l : List UInt8} {c : Nat} (h : Rd0 vu8 w A l c) {n : Nat} (hn : l.length ≤ n) (hm : n ≤ 140737488351232) : Bs w A l c := ⟨h, by omega⟩
theorem eqV_count {a b : DVal} (h : a.items.length ≠ b.items.length) : eqV a b = false := eqV_no (by rintro rfl; exact h rfl)
theorem eqV_item {a b : DVal} {k : Nat} (h1 : k < a.items.length) (h2 : k < b.items.length) (h : eqV a.items[k] b.items[k] = false) : eqV a b = false := eqV_no (by rintro rfl; rw [eqV_refl] at h; cases h)
theorem eqV_all {a b : DVal} (h1 : (a.num != b.num) = false) (h2 : (a.bytes == b.bytes) = true) (hl : a.items.length = b.items.length) (h : ∀ j (h1 : j < a.items.length) (h2 : j < b.items.length), eqV a.items[j] b.items[j] = true) : eqV a b = true :=
 eqV_parts h1 h2 (eqVs_all hl h)
def sEqVOk (a : DVal) : Prop := ∀ (b : DVal) (Ab : Option Addr) (cb : Nat) (Ai : Option Addr) (ci : Nat) (Ab' : Option Addr) (cb' : Nat) (Ai' : Option Addr) (ci' : Nat) (w : World), RdV w a Ab cb Ai ci → RdV w b Ab' cb' Ai' ci' → szV a ≤ 140737488351232 → szV b ≤ 140737488351232 →
 Gives Tryz.prog 10 #[vval a (.slice Ab a.bytes.length cb) (.slice Ai a.items.length ci), vval b (.slice Ab' b.bytes.length cb') (.slice Ai' b.items.length ci')] w (.bool (eqV a b))
theorem sEqV_of (a : DVal) (H : ∀ x ∈ a.items, sEqVOk x) : sEqVOk a := by
 intro b Ab cb Ai ci Ab' cb' Ai' ci' w h h' hs hs'
 have C1 := Lib.hid (fun w h h' => sEqualBytes_c Ab Ab' a.bytes b.bytes cb cb' w h h')
 have h1 : Bs w Ab a.bytes cb := h.b.bs (bytes_le a) hs
 have h1' : Bs w Ab' b.bytes cb' := h'.b.bs (bytes_le b) hs'
 have hi := h.i; have hi' := h'.i
 have hl := hi.len; have hl' := hi'.len
 have HH := Lib.hid H
 have HS1 : Hid (∀ x ∈ a.items, szV x ≤ 140737488351232) := fun x hx => by have := szV_item hx; omega
 have HS2 : Hid (∀ x ∈ b.items, szV x ≤ 140737488351232) := fun x hx => by have := szV_item hx; omega
 have eb := Ext_alloc (.cells #[.int .i64 b.num, .slice Ab' b.bytes.length cb', .slice Ai' b.items.length ci'] 29) (Ext_alloc (.cells #[.int .i64 a.num, .slice Ab a.bytes.length cb, .slice Ai a.items.length ci] 29) (Ext.refl w))
 have BX := fun w' (e : Ext ((w.alloc (.cells #[.int .i64 a.num, .slice Ab a.bytes.length cb, .slice Ai a.items.length ci] 29)).alloc (.cells #[.int .i64 b.num, .slice Ab' b.bytes.length cb', .slice Ai' b.items.length ci'] 29)) w') => boxed2 e
 have B0 := fun w' e => (BX w' e).1
 have B1 := fun w' e => (BX w' e).2.1
 clear BX h h' H hs hs'
 unfold vval
 cases hq : (a.num != b.num)
 ·have HQ := Lib.hid hq
  cases hz : (a.bytes == b.bytes)
  ·have E := Lib.hid (eqV_bytes hz)
   rw [hz] at C1
   clear hz
   go_enter Tryz.func10, Tryz.ntmps10
   go_wp2_with fail
   refine (C1.out _ (h1.ext eb) (h1'.ext eb)).mono ?_; rintro _ w1 ⟨rfl, he1⟩
   go_wp2
   go_ret
   exact ⟨ret_bool E.out.symm, eb.trans he1⟩
  ·have HZ := Lib.hid hz
   rw [hz] at C1
   clear hz
   by_cases hn : a.items.length = b.items.length
   ·have hb1 : ((a.items.length : Int) != (b.items.length : Int)) = false := by simp [hn]
    have H := Lib.hid hn
    clear hn
    go_enter Tryz.func10, Tryz.ntmps10
    go_wp2_with fail
    refine (C1.out _ (h1.ext eb) (h1'.ext eb)).mono ?_; rintro _ w1 ⟨rfl, he1⟩
    have e1 := eb.trans he1
    replace B0 := fun w' (e : Ext w1 w') => B0 w' (he1.trans e)
    replace B1 := fun w' (e : Ext w1 w') => B1 w' (he1.trans e)
    clear eb he1
    have n0 := fun w' e => B0 w' e 2
    have n1 := fun w' e => B1 w' e 2
    simp only [List.getElem?_toArray, List.getElem?_cons_zero, List.getElem?_cons_succ] at n0 n1
    clear B0 B1 h1 h1' C1
    go_wp2
    go_loopw [5] (fun i wr => ∃ k : Nat, k ≤ a.items.length ∧ i = .int .i64 k ∧ Hid (∀ j (h1 : j < a.items.length) (h2 : j < b.items.length), j < k → eqV a.items[j] b.items[j] = true) ∧ Ext w1 wr) (fun i _ => a.items.length - (intOf i).toNat)
    case atStart => exact ⟨0, by omega, rfl, (fun j _ _ hj => by omega), Ext.refl _⟩
    case round =>
     obtain ⟨k, hk, rfl, ht, he⟩ := hrel
     by_cases hlt : k < a.items.length
     ·have hlt' : k < b.items.length := by have := H.out; omega
      obtain ⟨bb, off, A1, c1, D1, d1, rfl, hb, hS, k0, k1, k2⟩ := hi.at k hlt
      obtain ⟨bb', off', A1', c1', D1', d1', rfl, hb', hS', j0, j1, j2⟩ := hi'.at k hlt'
      replace k0 := fun w' (e : Ext w1 w') => k0 w' (e1.trans e)
      replace k1 := fun w' (e : Ext w1 w') => k1 w' (e1.trans e)
      replace k2 := fun w' (e : Ext w1 w') => k2 w' (e1.trans e)
      replace j0 := fun w' (e : Ext w1 w') => j0 w' (e1.trans e)
      replace j1 := fun w' (e : Ext w1 w') => j1 w' (e1.trans e)
      replace j2 := fun w' (e : Ext w1 w') => j2 w' (e1.trans e)
      have s1 := HS1.out _ (List.getElem_mem hlt); have s2 := HS2.out _ (List.getElem_mem hlt')
      have NO : Hid (eqV a.items[k] b.items[k] = false → eqV a b = false) := eqV_item hlt hlt'
      have YES : Hid (eqV a.items[k] b.items[k] = true → ∀ j (h1 : j < a.items.length) (h2 : j < b.items.length), j < k + 1 → eqV a.items[j] b.items[j] = true) := by
       intro hy j h1 h2 hj
       rcases (by omega : j < k ∨ j = k) with hj | rfl
       ·exact ht.out j h1 h2 hj
       ·exact hy
      have Hk := HH.out _ (List.getElem_mem hlt)
      generalize a.items[k] = r at *
      generalize b.items[k] = q at *
      have CE := Lib.hid (fun w h h' => Hk q A1 c1 D1 d1 A1' c1' D1' d1' w h h' s1 s2)
      generalize eqV r q = z at *
      unfold vval at CE
      have H1 := Lib.hid (fun w' (e : Ext w1 w') => hS.ext (e1.trans e)); have H2 := Lib.hid (fun w' (e : Ext w1 w') => hS'.ext (e1.trans e))
      clear s1 s2 hS hS' Hk hi hi'
      have HT := ht; clear ht
      go_wp2_with fail
      refine wp_region_quiet_below (by kernel_rfl) (by kernel_rfl) ?_
      repeat (go_big_quiet_step ((go_at_call 10; exact Calls.regrown_of (CE.out _ (H1.out _ (by first | assumption | exact Ext_regrown _ _ he)) (H2.out _ (by first | assumption | exact Ext_regrown _ _ he))))))
      refine wpQuiet_nil ?_
      rintro w2 ⟨⟨nq, osq⟩, hq⟩
      have ew2 := ext_of_q hq
      clear hq nq osq
      have he1 := he.trans ew2
      cases z
      ·have NO' := Lib.hid (NO.out rfl); clear NO YES
       go_wp2
       go_ret
       exact ⟨ret_bool NO'.out.symm, e1.trans he1⟩
      ·have YES' := Lib.hid (YES.out rfl); clear NO YES
       go_wp2
       go_roundw
       case rel => exact ⟨k+1, by omega, by go_num, YES'.out, he1⟩
       case measure => simp [intOf]; omega
     ·have hk' : k = a.items.length := by omega
      have HE : Hid (eqV a b = true) := eqV_all HQ.out HZ.out H.out (fun j h1 h2 => ht.out j h1 h2 (by omega))
      go_wp2
      go_ret
      exact ⟨ret_bool HE.out.symm, e1.trans he⟩
   ·have hb1 : ((a.items.length : Int) != (b.items.length : Int)) = true := by simp; omega
    have E := Lib.hid (eqV_count hn)
    clear hn
    go_enter Tryz.func10, Tryz.ntmps10
    go_wp2_with fail
    refine (C1.out _ (h1.ext eb) (h1'.ext eb)).mono ?_; rintro _ w1 ⟨rfl, he1⟩
    replace B0 := fun w' (e : Ext w1 w') => B0 w' (he1.trans e)
    replace B1 := fun w' (e : Ext w1 w') => B1 w' (he1.trans e)
    go_wp2
    go_ret
    exact ⟨ret_bool E.out.symm, eb.trans he1⟩
 ·have E := Lib.hid (eqV_num hq); clear C1
  go_enter Tryz.func10, Tryz.ntmps10
  go_wp2
  go_ret
  exact ⟨ret_bool E.out.symm, eb⟩
theorem sEqV_all : ∀ v, sEqVOk v := fun v => DVal.ind sEqV_of v
end Go.Proofs.YtpmcofmdjckijaaGreatDoor
