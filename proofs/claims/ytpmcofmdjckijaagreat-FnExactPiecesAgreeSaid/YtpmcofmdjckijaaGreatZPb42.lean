/- Texts, laid into one. -/
import Derived.Test.YtpmcofmdjckijaaGreatZPb41
set_option linter.unusedVariables false
set_option linter.unusedSimpArgs false
set_option maxRecDepth 100000
set_option maxHeartbeats 16000000
namespace Go.Proofs.YtpmcofmdjckijaaGreat
open Go.RowKit Go.Sort
theorem advM_eq (cs : List Ins) (es : List Int) (m : Mach) : advM cs es m = advF (fitsOk cs es) cs m := rfl
theorem fits_op {cs : List Ins} {es : List Int} (h : fitsOk cs es = true) (j : Nat) (hj : j < cs.length) (h1 : (insAt cs (j : Int)).1 = 1) : 1 ≤ (insAt cs (j : Int)).2.1 ∧ (insAt cs (j : Int)).2.1 ≤ 4 := by
 unfold fitsOk safeOk at h
 simp only [Bool.and_eq_true] at h
 have h2 := allFrom_at (p := fun i => insOk cs (i : Int)) h.1.1.1.2 j (Nat.zero_le _) (by omega)
 unfold insOk at h2
 simp only [Bool.and_eq_true] at h2
 have h3 := h2.2
 unfold operOk at h3
 rw [if_pos h1] at h3
 unfold inB at h3
 simp only [Bool.and_eq_true, decide_eq_true_eq] at h3
 exact h3.1
theorem MB.laid {W1 w2 : World} {m : Mach} {vs vq : Value} (ho1 : OwnL vint 3 W1 w2 vs m.stack) (ho2 : OwnL vint 3 W1 w2 vq m.sums) (hfar : ∀ b, vs.ownBlock = some b → vq.ownBlock ≠ some b) (e2 : Ext W1 w2) :
 MB (· < W1.heap.size) W1 (w2.alloc (.cells (mcells m vs vq) 67)) w2.heap.size m vs vq := by
 have h2 := e2.size
 exact ⟨h2, Box.new _ _ _, ho1.ext (Ext_alloc _ (Ext.refl _)), ho2.ext (Ext_alloc _ (Ext.refl _)), fun hh => by have := (World.ownsRow.lt ho1 _ hh).2; omega, fun hh => by have := (World.ownsRow.lt ho2 _ hh).2; omega, hfar, by show ¬ _ < _; omega, fun b hb hx => by have := (World.ownsRow.lt ho1 b hb).1; have hx' : b < W1.heap.size := hx; omega, fun b hb hx => by have := (World.ownsRow.lt ho2 b hb).1; have hx' : b < W1.heap.size := hx; omega, fun k hk => by have hk' : k < W1.heap.size := hk; simp; omega, Ext_alloc _ e2⟩
theorem sFeed_c (m : Mach) (A1 : Option Addr) (c1 : Nat) (A2 : Option Addr) (c2 : Nat) (Ac : Option Addr) (cs : List Ins) (cc : Nat) (Ae : Option Addr) (es : List Int) (ce : Nat) (b : Int) (w : World) (hC : RdI w Ac cs cc) (hE : Is w Ae es ce) (hel : es.length ≤ 1000000) (hS : Is w A1 m.stack c1) (hQ : Is w A2 m.sums c2) (hm : m.Ok) (hb : 0 ≤ b ∧ b ≤ 255) :
 Calls Tryz.prog 52 #[.agg #[.slice Ac cs.length cc, .slice Ae es.length ce], mval m (.slice A1 m.stack.length c1) (.slice A2 m.sums.length c2), .int .i64 b] w (MRes (feedF (fitsOk cs es) cs m b) w) := by
 unfold MRes
 have hl := hC.len; have hcp := hC.cap
 obtain ⟨W1, hW1, B1, B2, B3, e1, hsz⟩ := boxes3' w #[.slice Ac cs.length cc, .slice Ae es.length ce] (mcells m (.slice A1 m.stack.length c1) (.slice A2 m.sums.length c2)) (mcells ⟨0, 0, [], [], 0, false, false, 0, 0, 0⟩ (.slice none 0 0) (.slice none 0 0)) 55 67 67
 have CA0 := Lib.hid (fun w' (e : Ext W1 w') => sAdvM_c m A1 c1 A2 c2 Ac cs cc Ae es ce w' (hC.ext (e1.trans e)) (hE.ext (e1.trans e)) hel (hS.ext (e1.trans e)) (hQ.ext (e1.trans e)) hm)
 have CI := Lib.hid (fun w' => l1In_c b 0 255 w')
 have HD : Hid ((decide ((0 : Int) ≤ b) && decide (b ≤ 255)) = true) := by show _ = _; simp; omega
 have HC := Lib.hid (hC.ext e1)
 have HOK := Lib.hid (advF_ok (f := fitsOk cs es) (cs := cs) hm)
 have HFE : Hid (feedF (fitsOk cs es) cs m b = feedO cs (advF (fitsOk cs es) cs m) b) := rfl
 have HRUN : Hid ((advF (fitsOk cs es) cs m).state = 0 → ∀ j, j < cs.length → (insAt cs (j : Int)).1 = 1 → 1 ≤ (insAt cs (j : Int)).2.1 ∧ (insAt cs (j : Int)).2.1 ≤ 4) := fun h j hj h1 => fits_op (advF_run h).1 j hj h1
 have HSZ := Lib.hid hsz; have HE1 := Lib.hid e1; have HB3 := Lib.hid B3; have HBB := Lib.hid hb
 have p0 : ∀ w', Ext W1 w' → w'.cell? ⟨w.heap.size, 0, none⟩ = some (Value.slice Ac cs.length cc) := fun w' e => B1.at 0 w' e
 have p1 : ∀ w', Ext W1 w' → w'.cell? ⟨w.heap.size, 1, none⟩ = some (Value.slice Ae es.length ce) := fun w' e => B1.at 1 w' e
 have t2w := fun i w' e => B2.at i w' e
 clear B1 B3 hsz hS hQ hC hE hm hb
 unfold MRes mval at CA0
 unfold mval
 rw [advM_eq] at CA0
 rw [HFE.out]
 generalize advF (fitsOk cs es) cs m = q at *
 unfold mcells at hW1 t2w
 dsimp only at hW1
 have k0 := t2w 0; have k1 := t2w 1; have k2 := t2w 2; have k3 := t2w 3; have k4 := t2w 4; have k5 := t2w 5; have k6 := t2w 6; have k7 := t2w 7; have k8 := t2w 8; have k9 := t2w 9
 clear t2w B2 HFE
 simp only [List.getElem?_toArray, List.getElem?_cons_zero, List.getElem?_cons_succ] at k0 k1 k2 k3 k4 k5 k6 k7 k8 k9
 obtain ⟨R, HRV⟩ : ∃ R, Hid (feedO cs q b = R) := ⟨_, rfl⟩
 rw [HRV.out]
 unfold mcells at *
 go_enter Tryz.func52, Tryz.ntmps52
 go_wp2_with fail
 rw [← hW1.out]
 refine (CI.out _).mono ?_; rintro _ w0 ⟨rfl, e0⟩; rw [HD.out]
 replace p0 := kx p0 e0
 replace p1 := kx p1 e0
 replace k0 := kx k0 e0
 replace k1 := kx k1 e0
 replace k2 := kx k2 e0
 replace k3 := kx k3 e0
 replace k4 := kx k4 e0
 replace k5 := kx k5 e0
 replace k6 := kx k6 e0
 replace k7 := kx k7 e0
 replace k8 := kx k8 e0
 replace k9 := kx k9 e0
 go_wp2_with fail
 refine (CA0.out w0 e0).mono ?_; rintro _ w2 ⟨vs, vq, rfl, ho1, ho2, hfar, e2⟩
 obtain ⟨S1, d1', hvs⟩ := ho1.len_shape; obtain ⟨S2, d2', hvq⟩ := ho2.len_shape
 subst hvs; subst hvq
 have HB := Lib.hid (MB.laid (ho1.down e0.size) (ho2.down e0.size) hfar (e0.trans e2))
 obtain ⟨W3, hW3⟩ : ∃ W, Hid (W = w2.alloc (.cells (mcells q (.slice S1 q.stack.length d1') (.slice S2 q.sums.length d2')) 67)) := ⟨_, rfl⟩
 rw [← hW3.out] at HB
 unfold mcells at hW3
 clear ho1 ho2 hfar k0 k1 k2 k3 k4 k5 k6 k7 k8 k9
 have E3 := HB.out.ext
 have e23 : Ext w2 W3 := ka hW3
 replace p0 := fun w' (e : Ext W3 w') => p0 w' (e2.trans (e23.trans e))
 replace p1 := fun w' (e : Ext W3 w') => p1 w' (e2.trans (e23.trans e))
 go_upto_if 18 with (fail)
 rw [← hW3.out]
 have HCR : Hid (∀ w', MR (· < W1.heap.size) W3 w' → RdI w' Ac cs cc) := fun w' hr => HC.out.ext (MR.to_ext ((MR.of_ext E3 (fun k hk => hk)).trans hr))
 have CFA := Lib.hid (fun w' h => sFail_c (· < W1.heap.size) W1 w2.heap.size q 7 w' h)
 by_cases h1 : q.state = 1
 ·have HA : Hid (R = q.fail 7) := by show _ = _; rw [← HRV.out]; unfold feedO; rw [if_pos h1]
  have hb1 : (q.state == 1) = true := by simp [h1]
  go_wp2_with fail
  refine (CFA.out _ ⟨_, _, HB.out⟩).mono ?_; rintro _ w5 ⟨rfl, ⟨vs5, vq5, hm5⟩, hr5⟩
  generalize q.fail 7 = r at *
  obtain ⟨S5, d5, hvs5⟩ := hm5.os.len_shape; obtain ⟨S6, d6, hvq5⟩ := hm5.oq.len_shape
  subst hvs5; subst hvq5
  have HB5 := Lib.hid hm5
  clear hm5 hr5
  have bx := HB5.out.box
  have u0 : w5.cell? ⟨w2.heap.size, 0, none⟩ = some (.int .i64 r.pc) := bx.cell 0
  have u1 : w5.cell? ⟨w2.heap.size, 1, none⟩ = some (.int .i64 r.reg) := bx.cell 1
  have u2 : w5.cell? ⟨w2.heap.size, 2, none⟩ = some (Value.slice S5 r.stack.length d5) := bx.cell 2
  have u3 : w5.cell? ⟨w2.heap.size, 3, none⟩ = some (Value.slice S6 r.sums.length d6) := bx.cell 3
  have u4 : w5.cell? ⟨w2.heap.size, 4, none⟩ = some (.int .i64 r.left) := bx.cell 4
  have u5 : w5.cell? ⟨w2.heap.size, 5, none⟩ = some (.bool r.started) := bx.cell 5
  have u6 : w5.cell? ⟨w2.heap.size, 6, none⟩ = some (.bool r.escaped) := bx.cell 6
  have u7 : w5.cell? ⟨w2.heap.size, 7, none⟩ = some (.int .i64 r.state) := bx.cell 7
  have u8 : w5.cell? ⟨w2.heap.size, 8, none⟩ = some (.int .i64 r.code) := bx.cell 8
  have u9 : w5.cell? ⟨w2.heap.size, 9, none⟩ = some (.int .i64 r.read) := bx.cell 9
  have br := HB3.out.ext HB5.out.ext
  have t2 := br.cell; have tf := br.free
  unfold mcells at t2
  have FN := Lib.hid (HB5.out.fin HE1.out (g := w.heap.size + 1 + 1) (by omega) (by rw [HSZ.out]; omega))
  clear bx br
  go_wp2
  refine bodyPost_ret (v := .agg #[.int .i64 r.pc, .int .i64 r.reg, (Value.slice S5 r.stack.length d5), (Value.slice S6 r.sums.length d6), .int .i64 r.left, .bool r.started, .bool r.escaped, .int .i64 r.state, .int .i64 r.code, .int .i64 r.read]) (by simp [results, Tryz.results52, go_sem, t2, tf]) rfl ?_
  rw [HA.out]
  exact ⟨_, _, rfl, FN.out.1, FN.out.2.1, HB5.out.far, FN.out.2.2⟩
 have n1 : (q.state == 1) = false := by simp [h1]
 by_cases h0 : q.state = 0
 ·have HA : Hid (R = Mach.byte cs q b) := by show _ = _; rw [← HRV.out]; unfold feedO; rw [if_neg h1, if_pos h0]
  have hb0 : (q.state == 0) = true := by simp [h0]
  have CBY := Lib.hid (fun w' h hC => sByteM_c (· < W1.heap.size) W1 w2.heap.size q Ac cs cc Ae es ce b w' h HOK.out hC (HRUN.out h0) HBB.out)
  have u7 : W3.cell? ⟨w2.heap.size, 7, none⟩ = some (.int .i64 q.state) := HB.out.box.cell 7
  go_wp2_with fail
  refine (CBY.out _ ⟨_, _, HB.out⟩ HCR.out).mono ?_; rintro _ w5 ⟨rfl, ⟨vs5, vq5, hm5⟩, hr5⟩
  generalize Mach.byte cs q b = r at *
  clear u7
  obtain ⟨S5, d5, hvs5⟩ := hm5.os.len_shape; obtain ⟨S6, d6, hvq5⟩ := hm5.oq.len_shape
  subst hvs5; subst hvq5
  have HB5 := Lib.hid hm5
  clear hm5 hr5
  have bx := HB5.out.box
  have u0 : w5.cell? ⟨w2.heap.size, 0, none⟩ = some (.int .i64 r.pc) := bx.cell 0
  have u1 : w5.cell? ⟨w2.heap.size, 1, none⟩ = some (.int .i64 r.reg) := bx.cell 1
  have u2 : w5.cell? ⟨w2.heap.size, 2, none⟩ = some (Value.slice S5 r.stack.length d5) := bx.cell 2
  have u3 : w5.cell? ⟨w2.heap.size, 3, none⟩ = some (Value.slice S6 r.sums.length d6) := bx.cell 3
  have u4 : w5.cell? ⟨w2.heap.size, 4, none⟩ = some (.int .i64 r.left) := bx.cell 4
  have u5 : w5.cell? ⟨w2.heap.size, 5, none⟩ = some (.bool r.started) := bx.cell 5
  have u6 : w5.cell? ⟨w2.heap.size, 6, none⟩ = some (.bool r.escaped) := bx.cell 6
  have u7 : w5.cell? ⟨w2.heap.size, 7, none⟩ = some (.int .i64 r.state) := bx.cell 7
  have u8 : w5.cell? ⟨w2.heap.size, 8, none⟩ = some (.int .i64 r.code) := bx.cell 8
  have u9 : w5.cell? ⟨w2.heap.size, 9, none⟩ = some (.int .i64 r.read) := bx.cell 9
  have br := HB3.out.ext HB5.out.ext
  have t2 := br.cell; have tf := br.free
  unfold mcells at t2
  have FN := Lib.hid (HB5.out.fin HE1.out (g := w.heap.size + 1 + 1) (by omega) (by rw [HSZ.out]; omega))
  clear bx br
  go_wp2
  refine bodyPost_ret (v := .agg #[.int .i64 r.pc, .int .i64 r.reg, (Value.slice S5 r.stack.length d5), (Value.slice S6 r.sums.length d6), .int .i64 r.left, .bool r.started, .bool r.escaped, .int .i64 r.state, .int .i64 r.code, .int .i64 r.read]) (by simp [results, Tryz.results52, go_sem, t2, tf]) rfl ?_
  rw [HA.out]
  exact ⟨_, _, rfl, FN.out.1, FN.out.2.1, HB5.out.far, FN.out.2.2⟩
 have HA : Hid (R = q) := by show _ = _; rw [← HRV.out]; unfold feedO; rw [if_neg h1, if_neg h0]
 have n0 : (q.state == 0) = false := by simp [h0]
 have bx := HB.out.box
 have u0 : W3.cell? ⟨w2.heap.size, 0, none⟩ = some (.int .i64 q.pc) := bx.cell 0
 have u1 : W3.cell? ⟨w2.heap.size, 1, none⟩ = some (.int .i64 q.reg) := bx.cell 1
 have u2 : W3.cell? ⟨w2.heap.size, 2, none⟩ = some (Value.slice S1 q.stack.length d1') := bx.cell 2
 have u3 : W3.cell? ⟨w2.heap.size, 3, none⟩ = some (Value.slice S2 q.sums.length d2') := bx.cell 3
 have u4 : W3.cell? ⟨w2.heap.size, 4, none⟩ = some (.int .i64 q.left) := bx.cell 4
 have u5 : W3.cell? ⟨w2.heap.size, 5, none⟩ = some (.bool q.started) := bx.cell 5
 have u6 : W3.cell? ⟨w2.heap.size, 6, none⟩ = some (.bool q.escaped) := bx.cell 6
 have u7 : W3.cell? ⟨w2.heap.size, 7, none⟩ = some (.int .i64 q.state) := bx.cell 7
 have u8 : W3.cell? ⟨w2.heap.size, 8, none⟩ = some (.int .i64 q.code) := bx.cell 8
 have u9 : W3.cell? ⟨w2.heap.size, 9, none⟩ = some (.int .i64 q.read) := bx.cell 9
 have br := HB3.out.ext HB.out.ext
 have t2 := br.cell; have tf := br.free
 unfold mcells at t2
 have FN := Lib.hid (HB.out.fin HE1.out (g := w.heap.size + 1 + 1) (by omega) (by rw [HSZ.out]; omega))
 clear bx br
 go_wp2
 refine bodyPost_ret (v := .agg #[.int .i64 q.pc, .int .i64 q.reg, (Value.slice S1 q.stack.length d1'), (Value.slice S2 q.sums.length d2'), .int .i64 q.left, .bool q.started, .bool q.escaped, .int .i64 q.state, .int .i64 q.code, .int .i64 q.read]) (by simp [results, Tryz.results52, go_sem, t2, tf]) rfl ?_
 rw [HA.out]
 exact ⟨_, _, rfl, FN.out.1, FN.out.2.1, HB.out.far, FN.out.2.2⟩
end Go.Proofs.YtpmcofmdjckijaaGreat
