/- Texts, laid into one. -/
import Derived.Test.YtpmcofmdjckijaaGreatZPb39
import Derived.Test.YtpmcofmdjckijaaGreatZPb43
set_option linter.unusedVariables false
set_option linter.unusedSimpArgs false
set_option maxRecDepth 100000
set_option maxHeartbeats 16000000
namespace Go.Proofs.YtpmcofmdjckijaaGreat
open Go.RowKit Go.Sort
theorem iCopyM_c (m : Mach) (A1 : Option Addr) (c1 : Nat) (A2 : Option Addr) (c2 : Nat) (w : World) (hS : Is w A1 m.stack c1) (hQ : Is w A2 m.sums c2) (hm : m.Ok) :
 Calls Tryz.prog 61 #[mval m (.slice A1 m.stack.length c1) (.slice A2 m.sums.length c2)] w fun e w' => ∃ vs vq, e = .returned (mval m vs vq) ∧ OwnL vint 3 w w' vs m.stack ∧ OwnL vint 3 w w' vq m.sums ∧ (∀ b, vs.ownBlock = some b → vq.ownBlock ≠ some b) ∧ Ext w w' := by
 have hs := hm.st; have hq := hm.sm
 obtain ⟨W0, HW, B1, B2, eb, hsz⟩ := boxes2' w (mcells m (.slice A1 m.stack.length c1) (.slice A2 m.sums.length c2)) (mcells ⟨0, 0, [], [], 0, false, false, 0, 0, 0⟩ (.slice none 0 0) (.slice none 0 0)) 67 67
 have HB1 := Lib.hid B1; have HB2 := Lib.hid B2; have HSZ := Lib.hid hsz
 have e1 := Ext_alloc (.cells #[] 3) (Ext.refl W0)
 have E1 := eb.trans e1
 have OE := OwnL.empty (f := vint) (e := 3) eb
 rw [hsz] at OE
 have HOE := Lib.hid OE
 have HS := Lib.hid (hS.ext E1)
 have HQ0 := Lib.hid hQ
 have a2 : (W0.alloc (.cells #[] 3)).cell? ⟨w.heap.size, 2, none⟩ = some (Value.slice A1 m.stack.length c1) := (B1.ext e1).cell 2
 clear B1 B2 OE hS hQ
 unfold mval mcells at *
 go_enter Tryz.func61, Tryz.ntmps61
 go_wp2_with (first
  | (at_builtin; rw [← HW.out]; go_must (refine wpList_appL rfl (.tmp 3) (.tmp 5) _ rfl E_int (by omega) w _ vint (fun _ => rfl) (.slice (some ⟨w.heap.size + 2, 0, none⟩) 0 0) rfl A1 m.stack.length c1 rfl [] m.stack HOE.out E1 rfl (Rd.srcM HS.out (Ext.refl _)) (by simp; omega) ?_); intro v4 w4 ho4 he4 hv4 hg4; obtain ⟨A4, n4, c4, hv4'⟩ := Own.slice2 ho4; subst hv4'; have bx4 := (HB1.out.ext e1).moved hg4 (show some (w.heap.size + 2) ≠ some w.heap.size from fun hh => by have := Option.some.inj hh; omega); have HX4 := Lib.hid bx4; have by4 := (HB2.out.ext e1).moved hg4 (show some (w.heap.size + 2) ≠ some (w.heap.size + 1) from fun hh => by have := Option.some.inj hh; omega); have HY4 := Lib.hid by4; have q2 : w4.cell? ⟨w.heap.size, 2, none⟩ = some (Value.slice A1 m.stack.length c1) := bx4.cell 2; have q2f := bx4.free 2; have E5 : Ext w (w4.setCell ⟨w.heap.size, 2, none⟩ (.slice A4 n4 c4)) := he4.setCell (p := ⟨w.heap.size, 2, none⟩) (Nat.le_refl _) _; have e6 := Ext_alloc (.cells #[] 3) (Ext.refl (w4.setCell ⟨w.heap.size, 2, none⟩ (.slice A4 n4 c4))); have E6 := E5.trans e6; have bx5 := (bx4.set 2 (Value.slice A4 n4 c4)).ext e6; have a3 := bx5.cell 3; have a3' : ((w4.setCell ⟨w.heap.size, 2, none⟩ (.slice A4 n4 c4)).alloc (.cells #[] 3)).cell? ⟨w.heap.size, 3, none⟩ = some (Value.slice A2 m.sums.length c2) := a3; have HO4 := Lib.hid ho4; have OE5 := OwnL.empty (f := vint) (e := 3) E5; rw [show (w4.setCell ⟨w.heap.size, 2, none⟩ (.slice A4 n4 c4)).heap.size = w4.heap.size by simp] at OE5; have HOE5 := Lib.hid OE5; have HQ6 := Lib.hid (HQ0.out.ext E6); clear bx4 by4 OE5 bx5 a3)
  | (at_builtin; go_must (refine wpList_appL rfl (.tmp 8) (.tmp 10) _ rfl E_int (by omega) w _ vint (fun _ => rfl) (.slice (some ⟨w4.heap.size, 0, none⟩) 0 0) rfl A2 m.sums.length c2 rfl [] m.sums HOE5.out E6 rfl (Rd.srcM HQ6.out (Ext.refl _)) (by simp; omega) ?_); intro v6 w6 ho6 he6 hv6 hg6; obtain ⟨A6, n6, c6, hv6'⟩ := Own.slice2 ho6; subst hv6'; have hl4 := HX4.out.lt; have bx5 := HX4.out.set 2 (Value.slice A4 n4 c4); have bx6 := (bx5.ext e6).moved hg6 (show some w4.heap.size ≠ some w.heap.size from fun hh => by have := Option.some.inj hh; omega); have HX6 := Lib.hid bx6; have hly := HY4.out.lt; have by6 := ((HY4.out.other (show w.heap.size + 1 ≠ w.heap.size by omega) 2 (Value.slice A4 n4 c4)).ext e6).moved hg6 (show some w4.heap.size ≠ some (w.heap.size + 1) from fun hh => by have := Option.some.inj hh; omega); have HY6 := Lib.hid by6; have q3 : w6.cell? ⟨w.heap.size, 3, none⟩ = some (Value.slice A2 m.sums.length c2) := bx6.cell 3; have q3f := bx6.free 3; have HO6 := Lib.hid ho6; have E7 : Ext w (w6.setCell ⟨w.heap.size, 3, none⟩ (.slice A6 n6 c6)) := he6.setCell (p := ⟨w.heap.size, 3, none⟩) (Nat.le_refl _) _; have HE7 := Lib.hid E7; have HG6 := Lib.hid hg6; have r0 : w6.cell? ⟨w.heap.size, 0, none⟩ = some (.int .i64 m.pc) := bx6.cell 0; have r1 : w6.cell? ⟨w.heap.size, 1, none⟩ = some (.int .i64 m.reg) := bx6.cell 1; have r2 : w6.cell? ⟨w.heap.size, 2, none⟩ = some (Value.slice A4 n4 c4) := bx6.cell 2; have r4 : w6.cell? ⟨w.heap.size, 4, none⟩ = some (.int .i64 m.left) := bx6.cell 4; have r5 : w6.cell? ⟨w.heap.size, 5, none⟩ = some (.bool m.started) := bx6.cell 5; have r6 : w6.cell? ⟨w.heap.size, 6, none⟩ = some (.bool m.escaped) := bx6.cell 6; have r7 : w6.cell? ⟨w.heap.size, 7, none⟩ = some (.int .i64 m.state) := bx6.cell 7; have r8 : w6.cell? ⟨w.heap.size, 8, none⟩ = some (.int .i64 m.code) := bx6.cell 8; have r9 : w6.cell? ⟨w.heap.size, 9, none⟩ = some (.int .i64 m.read) := bx6.cell 9; have t2 := by6.cell; have tf := by6.free; clear bx5 bx6 by6 E5 E6 E7 a2 a3' q2 q2f hg6 hg4))
 have h4 : ∀ b, (Value.slice A4 n4 c4).ownBlock = some b → w.heap.size + 2 ≤ b ∧ b < w4.heap.size := by
  intro b hb
  refine ⟨?_, (World.ownsRow.lt HO4.out b hb).2⟩
  rcases hv4 with hv | hv
  ·rw [hb] at hv; have h1 : b = w.heap.size + 2 := Option.some.inj hv; omega
  ·rw [hb] at hv; have h1 := Option.some.inj hv; rw [World.size_alloc, HSZ.out] at h1; omega
 have h6 : ∀ b, (Value.slice A6 n6 c6).ownBlock = some b → w4.heap.size ≤ b := by
  intro b hb
  rcases hv6 with hv | hv
  ·rw [hb] at hv; have h1 : b = w4.heap.size := Option.some.inj hv; omega
  ·rw [hb] at hv; have h1 := Option.some.inj hv; simp at h1; omega
 have hl4 := HX4.out.lt; have hly := HY4.out.lt
 have o4 : OwnL vint 3 w (w6.setCell ⟨w.heap.size, 3, none⟩ (.slice A6 n6 c6)) (.slice A4 n4 c4) m.stack := by
  have a1 := (HO4.out.other ⟨w.heap.size, 2, none⟩ (.slice A4 n4 c4) (fun hh => by have := (h4 _ hh).1; have h9 : (⟨w.heap.size, 2, none⟩ : Addr).block = w.heap.size := rfl; rw [h9] at this; omega)).ext e6
  have a2 := a1.keep HG6.out (fun b hb hr => by have := (h4 b hb).2; have h1 : w4.heap.size = b := Option.some.inj hr; omega)
  exact a2.other ⟨w.heap.size, 3, none⟩ _ (fun hh => by have := (h4 _ hh).1; have h9 : (⟨w.heap.size, 3, none⟩ : Addr).block = w.heap.size := rfl; rw [h9] at this; omega)
 have o6 : OwnL vint 3 w (w6.setCell ⟨w.heap.size, 3, none⟩ (.slice A6 n6 c6)) (.slice A6 n6 c6) m.sums :=
  HO6.out.other ⟨w.heap.size, 3, none⟩ _ (fun hh => by have := h6 _ hh; have h9 : (⟨w.heap.size, 3, none⟩ : Addr).block = w.heap.size := rfl; rw [h9] at this; omega)
 have F4 := put10_own (g := w.heap.size + 1) o4 (fun hh => by have := (h4 _ hh).1; omega) (.int .i64 m.pc) (.int .i64 m.reg) (.slice A4 n4 c4) (.slice A6 n6 c6) (.int .i64 m.left) (.bool m.started) (.bool m.escaped) (.int .i64 m.state) (.int .i64 m.code) (.int .i64 m.read)
 have F6 := put10_own (g := w.heap.size + 1) o6 (fun hh => by have := h6 _ hh; omega) (.int .i64 m.pc) (.int .i64 m.reg) (.slice A4 n4 c4) (.slice A6 n6 c6) (.int .i64 m.left) (.bool m.started) (.bool m.escaped) (.int .i64 m.state) (.int .i64 m.code) (.int .i64 m.read)
 have FE := put10_ext (g := w.heap.size + 1) HE7.out (by omega) (.int .i64 m.pc) (.int .i64 m.reg) (.slice A4 n4 c4) (.slice A6 n6 c6) (.int .i64 m.left) (.bool m.started) (.bool m.escaped) (.int .i64 m.state) (.int .i64 m.code) (.int .i64 m.read)
 refine bodyPost_ret (v := .agg #[.int .i64 m.pc, .int .i64 m.reg, .slice A4 n4 c4, .slice A6 n6 c6, .int .i64 m.left, .bool m.started, .bool m.escaped, .int .i64 m.state, .int .i64 m.code, .int .i64 m.read]) (by simp [results, Tryz.results61, go_sem, t2, tf]) rfl ?_
 exact ⟨_, _, rfl, F4, F6, fun b hb hh => by have := (h4 b hb).2; have := h6 b hh; omega, FE⟩
theorem iNewM_c (w : World) : Calls Tryz.prog 35 #[] w (MRes mach0 w) := by
 unfold MRes mval mcells mach0
 have br := Box.new w #[.int .i64 0, .int .i64 0, .slice none 0 0, .slice none 0 0, .int .i64 0, .bool false, .bool false, .int .i64 0, .int .i64 0, .int .i64 0] 67
 have t2 := br.cell; have tf := br.free
 go_enter Tryz.func35, Tryz.ntmps35
 go_wp2
 refine bodyPost_ret (v := .agg #[.int .i64 0, .int .i64 0, .slice none 0 0, .slice none 0 0, .int .i64 0, .bool false, .bool false, .int .i64 0, .int .i64 0, .int .i64 0]) (by simp [results, Tryz.results35, go_sem, t2, tf]) rfl ?_
 exact ⟨_, _, rfl, OwnL.nil _ _, OwnL.nil _ _, (fun b hb => by simp [Value.ownBlock] at hb), Ext_alloc _ (Ext.refl w)⟩
theorem iFeedL_c (m : Mach) (A1 : Option Addr) (c1 : Nat) (A2 : Option Addr) (c2 : Nat) (Ac : Option Addr) (cs : List Ins) (cc : Nat) (Ae : Option Addr) (es : List Int) (ce : Nat) (Ab : Option Addr) (l : List UInt8) (cb : Nat) (w : World) (hC : RdI w Ac cs cc) (hE : Is w Ae es ce) (hel : es.length ≤ 1000000) (hin : EntB es) (hS : Is w A1 m.stack c1) (hQ : Is w A2 m.sums c2) (hm : m.Ok) (hBs : Bs w Ab l cb) :
 Calls Tryz.prog 34 #[.agg #[.slice Ac cs.length cc, .slice Ae es.length ce], mval m (.slice A1 m.stack.length c1) (.slice A2 m.sums.length c2), .slice Ab l.length cb] w (MRes (feedL (fitsI cs es) cs m l) w) := by
 unfold MRes
 have hl := hC.len; have hcp := hC.cap
 obtain ⟨W1, hW1, B1, B2, B3, e1, hsz⟩ := boxes3' w #[.slice Ac cs.length cc, .slice Ae es.length ce] (mcells m (.slice A1 m.stack.length c1) (.slice A2 m.sums.length c2)) (mcells ⟨0, 0, [], [], 0, false, false, 0, 0, 0⟩ (.slice none 0 0) (.slice none 0 0)) 55 67 67
 have CC := Lib.hid (iCopyM_c m A1 c1 A2 c2 W1 (hS.ext e1) (hQ.ext e1) hm)
 have CT := Lib.hid (fun w' (e : Ext W1 w') => iFits_c Ac cs cc Ae es ce w' (hC.ext (e1.trans e)) (hE.ext (e1.trans e)) hel hin)
 have HCX := Lib.hid (fun w' (hr : MR (· < W1.heap.size) W1 w') => (hC.ext e1).ext (MR.to_ext hr))
 have HEX := Lib.hid (fun w' (hr : MR (· < W1.heap.size) W1 w') => (hE.ext e1).ext (MR.to_ext hr))
 have HOP := Lib.hid (fun h j hj => fitsI_op (cs := cs) (es := es) h j hj)
 have HOK : Hid (∀ k, (feedL (fitsI cs es) cs m (l.take k)).Ok) := fun k => feedL_ok hm
 have HSN : Hid (∀ k (hk : k < l.length), feedL (fitsI cs es) cs m (l.take (k + 1)) = feedF (fitsI cs es) cs (feedL (fitsI cs es) cs m (l.take k)) (l[k].toNat : Int)) := fun k hk => feedL_snoc _ _ _ _ k hk
 have H0 : Hid (feedL (fitsI cs es) cs m (l.take 0) = m) := rfl
 have HALL : Hid (feedL (fitsI cs es) cs m (l.take l.length) = feedL (fitsI cs es) cs m l) := by show _ = _; rw [List.take_length]
 have HBS := Lib.hid (hBs.ext e1)
 have hll := hBs.len; have hlc := hBs.cap
 have HSZ := Lib.hid hsz; have HE1 := Lib.hid e1; have HB3 := Lib.hid B3
 have p0 : ∀ w', Ext W1 w' → w'.cell? ⟨w.heap.size, 0, none⟩ = some (Value.slice Ac cs.length cc) := fun w' e => B1.at 0 w' e
 have p1 : ∀ w', Ext W1 w' → w'.cell? ⟨w.heap.size, 1, none⟩ = some (Value.slice Ae es.length ce) := fun w' e => B1.at 1 w' e
 have bx := B2
 unfold mcells at bx
 have k0 : ∀ w', Ext W1 w' → w'.cell? ⟨w.heap.size + 1, 0, none⟩ = some (.int .i64 m.pc) := fun w' e => (bx.ext e).cell 0
 have k1 : ∀ w', Ext W1 w' → w'.cell? ⟨w.heap.size + 1, 1, none⟩ = some (.int .i64 m.reg) := fun w' e => (bx.ext e).cell 1
 have k2 : ∀ w', Ext W1 w' → w'.cell? ⟨w.heap.size + 1, 2, none⟩ = some (Value.slice A1 m.stack.length c1) := fun w' e => (bx.ext e).cell 2
 have k3 : ∀ w', Ext W1 w' → w'.cell? ⟨w.heap.size + 1, 3, none⟩ = some (Value.slice A2 m.sums.length c2) := fun w' e => (bx.ext e).cell 3
 have k4 : ∀ w', Ext W1 w' → w'.cell? ⟨w.heap.size + 1, 4, none⟩ = some (.int .i64 m.left) := fun w' e => (bx.ext e).cell 4
 have k5 : ∀ w', Ext W1 w' → w'.cell? ⟨w.heap.size + 1, 5, none⟩ = some (.bool m.started) := fun w' e => (bx.ext e).cell 5
 have k6 : ∀ w', Ext W1 w' → w'.cell? ⟨w.heap.size + 1, 6, none⟩ = some (.bool m.escaped) := fun w' e => (bx.ext e).cell 6
 have k7 : ∀ w', Ext W1 w' → w'.cell? ⟨w.heap.size + 1, 7, none⟩ = some (.int .i64 m.state) := fun w' e => (bx.ext e).cell 7
 have k8 : ∀ w', Ext W1 w' → w'.cell? ⟨w.heap.size + 1, 8, none⟩ = some (.int .i64 m.code) := fun w' e => (bx.ext e).cell 8
 have k9 : ∀ w', Ext W1 w' → w'.cell? ⟨w.heap.size + 1, 9, none⟩ = some (.int .i64 m.read) := fun w' e => (bx.ext e).cell 9
 clear B1 B2 B3 hsz hS hQ hC hE hm hBs bx
 generalize hf : fitsI cs es = f at *
 clear hf
 generalize hFL : (fun t => feedL f cs m (l.take t)) = FL at *
 have HFL : Hid (∀ t, feedL f cs m (l.take t) = FL t) := fun t => by rw [← hFL]
 clear hFL
 simp only [HFL.out] at HOK HSN H0 HALL
 clear HFL
 obtain ⟨R, HRV⟩ : ∃ R, Hid (feedL f cs m l = R) := ⟨_, rfl⟩
 rw [HRV.out] at HALL ⊢
 clear HRV
 have CFD := Lib.hid (fun (g : Nat) (q : Mach) (b : Int) (hb : 0 ≤ b ∧ b ≤ 255) w' h hq (hc : ∀ w'', MR (· < W1.heap.size) w' w'' → RdI w'' Ac cs cc) (hc2 : ∀ w'', MR (· < W1.heap.size) w' w'' → Is w'' Ae es ce) => iFeed_c (· < W1.heap.size) W1 g q Ac cs cc Ae es ce f b w' h hq hc hc2 HOP.out hb)
 unfold mval at *
 unfold mcells at *
 dsimp only at hW1
 go_enter Tryz.func34, Tryz.ntmps34
 go_wp2_with fail
 rw [← hW1.out]
 refine CC.out.mono ?_; rintro _ w2 ⟨vs, vq, rfl, ho1, ho2, hfar, e2⟩
 obtain ⟨S1, d1', hvs⟩ := ho1.len_shape; obtain ⟨S2, d2', hvq⟩ := ho2.len_shape
 subst hvs; subst hvq
 have HB := Lib.hid (MB.laid ho1 ho2 hfar e2)
 obtain ⟨W3, hW3⟩ : ∃ W, Hid (W = w2.alloc (.cells (mcells m (.slice S1 m.stack.length d1') (.slice S2 m.sums.length d2')) 67)) := ⟨_, rfl⟩
 rw [← hW3.out] at HB
 unfold mcells at hW3
 clear ho1 ho2 hfar k0 k1 k2 k3 k4 k5 k6 k7 k8 k9 CC
 have E3 := HB.out.ext
 have e23 : Ext w2 W3 := ka hW3
 go_upto_region 2 with (fail)
 rw [← hW3.out]
 clear hW3 e23 e2
 by_cases hl0 : l.length = 0
 ·have hlb : ((l.length : Int) == 0) = true := by simp [hl0]
  have HA : Hid (R = m) := by show _ = _; rw [← HALL.out, hl0, H0.out]
  clear hl0
  have bx := HB.out.box
  have u0 : W3.cell? ⟨w2.heap.size, 0, none⟩ = some (.int .i64 m.pc) := bx.cell 0
  have u1 : W3.cell? ⟨w2.heap.size, 1, none⟩ = some (.int .i64 m.reg) := bx.cell 1
  have u2 : W3.cell? ⟨w2.heap.size, 2, none⟩ = some (Value.slice S1 m.stack.length d1') := bx.cell 2
  have u3 : W3.cell? ⟨w2.heap.size, 3, none⟩ = some (Value.slice S2 m.sums.length d2') := bx.cell 3
  have u4 : W3.cell? ⟨w2.heap.size, 4, none⟩ = some (.int .i64 m.left) := bx.cell 4
  have u5 : W3.cell? ⟨w2.heap.size, 5, none⟩ = some (.bool m.started) := bx.cell 5
  have u6 : W3.cell? ⟨w2.heap.size, 6, none⟩ = some (.bool m.escaped) := bx.cell 6
  have u7 : W3.cell? ⟨w2.heap.size, 7, none⟩ = some (.int .i64 m.state) := bx.cell 7
  have u8 : W3.cell? ⟨w2.heap.size, 8, none⟩ = some (.int .i64 m.code) := bx.cell 8
  have u9 : W3.cell? ⟨w2.heap.size, 9, none⟩ = some (.int .i64 m.read) := bx.cell 9
  have br := HB3.out.ext HB.out.ext
  have t2 := br.cell; have tf := br.free
  unfold mcells at t2
  have FN := Lib.hid (HB.out.fin HE1.out (g := w.heap.size + 1 + 1) (by omega) (by rw [HSZ.out]; omega))
  clear bx br
  go_wp2
  refine bodyPost_ret (v := .agg #[.int .i64 m.pc, .int .i64 m.reg, (Value.slice S1 m.stack.length d1'), (Value.slice S2 m.sums.length d2'), .int .i64 m.left, .bool m.started, .bool m.escaped, .int .i64 m.state, .int .i64 m.code, .int .i64 m.read]) (by simp [results, Tryz.results34, go_sem, t2, tf]) rfl ?_
  rw [HA.out]
  exact ⟨_, _, rfl, FN.out.1, FN.out.2.1, HB.out.far, FN.out.2.2⟩
 have hlb : ((l.length : Int) == 0) = false := by rw [beq_eq_false_iff_ne]; omega
 have HMV : Hid (MV (· < W1.heap.size) W1 W3 w2.heap.size (FL 0)) := by show MV _ _ _ _ _; rw [H0.out]; exact ⟨_, _, HB.out⟩
 have HR3 : Hid (MR (· < W1.heap.size) W1 W3) := MR.of_ext E3 (fun k hk => hk)
 have p03 := fun w' (e : Ext W3 w') => p0 w' (E3.trans e)
 have p13 := fun w' (e : Ext W3 w') => p1 w' (E3.trans e)
 have CT3 := Lib.hid (CT.out W3 E3)
 clear H0 CT
 go_wp2_with fail
 refine CT3.out.mono ?_; rintro _ w4 ⟨rfl, e4⟩
 have HMV4 : Hid (MV (· < W1.heap.size) W1 w4 w2.heap.size (FL 0)) := by obtain ⟨a, b, h⟩ := HMV.out; exact ⟨a, b, h.next e4⟩
 have HR4 : Hid (MR (· < W1.heap.size) W1 w4) := HR3.out.trans (MR.of_ext e4 HB.out.low)
 clear HMV HR3 HB p03 p13 CT3
 go_wp2_with fail
 go_loopw [21] (fun q wr => ∃ k : Nat, k ≤ l.length ∧ q = .int .i64 (k : Int) ∧ Hid (MV (· < W1.heap.size) W1 wr w2.heap.size (FL k)) ∧ Hid (MR (· < W1.heap.size) W1 wr)) (fun q _ => l.length - (intOf q).toNat)
 case atStart => exact ⟨0, by omega, rfl, HMV4.out, HR4.out⟩
 case round =>
  clear HMV4 HR4 E3 e4
  obtain ⟨k, hk, rfl, hmv, hrr⟩ := hrel
  obtain ⟨vs3, vq3, hb3⟩ := hmv.out
  have ER := hb3.ext
  by_cases hlt : k < l.length
  ·have HNX := Lib.hid (HSN.out k hlt)
   obtain ⟨gb, ob, hAb, _, hcb⟩ := HBS.out.at k hlt
   subst hAb
   have hcl : ∀ w', Ext wr w' → w'.cell? ⟨gb, ob + k, none⟩ = some (.int .u8 (l[k].toNat : Int)) := fun w' e => hcb w' (ER.trans e)
   have q0 := fun w' (e : Ext wr w') => p0 w' (ER.trans e)
   have q1 := fun w' (e : Ext wr w') => p1 w' (ER.trans e)
   have hki : (k : Int) < (l.length : Int) := by omega
   have hkb := l[k].toNat_lt
   have hcv : IntKind.i64.wrap (l[k].toNat : Int) = (l[k].toNat : Int) := IntWalk.i64_in _ (by omega)
   have hkl : (k : Int) + 1 ≤ 140737488351232 := by omega
   have CF1 := Lib.hid (CFD.out w2.heap.size (FL k) (l[k].toNat : Int) ⟨by omega, by omega⟩ wr hmv.out (HOK.out k) (fun w'' h => HCX.out w'' (hrr.out.trans h)) (fun w'' h => HEX.out w'' (hrr.out.trans h)))
   generalize l[k] = y at *
   clear hcb HSN HALL HBS p0 p1 hb3
   have HNX2 : Hid (FL (k + 1) = feedF f cs (FL k) (y.toNat : Int)) := HNX.out
   clear HNX
   generalize feedF f cs (FL k) (y.toNat : Int) = r at *
   go_wp2_with fail
   refine CF1.out.mono ?_; rintro _ w5 ⟨rfl, hm5, hr5⟩
   have HM5 := Lib.hid hm5; have HR5 := Lib.hid (hrr.out.trans hr5)
   clear hm5 hr5
   go_wp2
   go_roundw
   case rel => exact ⟨k + 1, by omega, by go_num, (by show MV _ _ _ _ _; rw [HNX2.out]; exact HM5.out), HR5.out⟩
   case measure => simp [intOf]; omega
  ·have hkl : k = l.length := by omega
   subst hkl
   have hOK := HOK.out l.length
   obtain ⟨S3, d3, hvs3⟩ := hb3.os.len_shape; obtain ⟨S4, d4, hvq3⟩ := hb3.oq.len_shape
   subst hvs3; subst hvq3
   have HB := Lib.hid hb3
   have HA : Hid (R = FL l.length) := by show _ = _; exact HALL.out.symm
   have hkd : decide ((l.length : Int) < (l.length : Int)) = false := by simp
   clear hmv hb3 hOK
   generalize FL l.length = r at *
   have bx := HB.out.box
   have u0 : wr.cell? ⟨w2.heap.size, 0, none⟩ = some (.int .i64 r.pc) := bx.cell 0
   have u1 : wr.cell? ⟨w2.heap.size, 1, none⟩ = some (.int .i64 r.reg) := bx.cell 1
   have u2 : wr.cell? ⟨w2.heap.size, 2, none⟩ = some (Value.slice S3 r.stack.length d3) := bx.cell 2
   have u3 : wr.cell? ⟨w2.heap.size, 3, none⟩ = some (Value.slice S4 r.sums.length d4) := bx.cell 3
   have u4 : wr.cell? ⟨w2.heap.size, 4, none⟩ = some (.int .i64 r.left) := bx.cell 4
   have u5 : wr.cell? ⟨w2.heap.size, 5, none⟩ = some (.bool r.started) := bx.cell 5
   have u6 : wr.cell? ⟨w2.heap.size, 6, none⟩ = some (.bool r.escaped) := bx.cell 6
   have u7 : wr.cell? ⟨w2.heap.size, 7, none⟩ = some (.int .i64 r.state) := bx.cell 7
   have u8 : wr.cell? ⟨w2.heap.size, 8, none⟩ = some (.int .i64 r.code) := bx.cell 8
   have u9 : wr.cell? ⟨w2.heap.size, 9, none⟩ = some (.int .i64 r.read) := bx.cell 9
   have br := HB3.out.ext HB.out.ext
   have t2 := br.cell; have tf := br.free
   unfold mcells at t2
   have FN := Lib.hid (HB.out.fin HE1.out (g := w.heap.size + 1 + 1) (by omega) (by rw [HSZ.out]; omega))
   clear bx br
   go_wp2
   refine bodyPost_ret (v := .agg #[.int .i64 r.pc, .int .i64 r.reg, (Value.slice S3 r.stack.length d3), (Value.slice S4 r.sums.length d4), .int .i64 r.left, .bool r.started, .bool r.escaped, .int .i64 r.state, .int .i64 r.code, .int .i64 r.read]) (by simp [results, Tryz.results34, go_sem, t2, tf]) rfl ?_
   rw [HA.out]
   exact ⟨_, _, rfl, FN.out.1, FN.out.2.1, HB.out.far, FN.out.2.2⟩
end Go.Proofs.YtpmcofmdjckijaaGreat
