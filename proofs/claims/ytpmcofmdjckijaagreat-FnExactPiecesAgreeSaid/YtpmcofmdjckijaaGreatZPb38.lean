/- Texts, laid into one. -/
import Derived.Test.YtpmcofmdjckijaaGreatZPb30
import Derived.Test.YtpmcofmdjckijaaGreatZPb36
set_option linter.unusedVariables false
set_option linter.unusedSimpArgs false
set_option maxRecDepth 100000
set_option maxHeartbeats 16000000
namespace Go.Proofs.YtpmcofmdjckijaaGreat
open Go.RowKit Go.Sort
def advM (cs : List Ins) (es : List Int) (m : Mach) : Mach :=
 if m.state = 0 then (if fitsOk cs es && !(m.started && !inB m.pc 0 ((cs.length : Int) - 1)) then advN cs 100001 m else m.fail 8) else m
def MRes (m : Mach) (w : World) (e : Ending) (w' : World) : Prop := ∃ vs vq, e = .returned (mval m vs vq) ∧ OwnL vint 3 w w' vs m.stack ∧ OwnL vint 3 w w' vq m.sums ∧ (∀ b, vs.ownBlock = some b → vq.ownBlock ≠ some b) ∧ Ext w w'
theorem MB.fin {w W1 wr : World} {p g : Nat} {m : Mach} {vs vq : Value} (h : MB (· < W1.heap.size) W1 wr p m vs vq) (e1 : Ext w W1) (hg : w.heap.size ≤ g) (hgl : g < W1.heap.size) :
 OwnL vint 3 w ((((((((((wr.setCell ⟨g, 0, none⟩ (.int .i64 m.pc)).setCell ⟨g, 1, none⟩ (.int .i64 m.reg)).setCell ⟨g, 2, none⟩ vs).setCell ⟨g, 3, none⟩ vq).setCell ⟨g, 4, none⟩ (.int .i64 m.left)).setCell ⟨g, 5, none⟩ (.bool m.started)).setCell ⟨g, 6, none⟩ (.bool m.escaped)).setCell ⟨g, 7, none⟩ (.int .i64 m.state)).setCell ⟨g, 8, none⟩ (.int .i64 m.code)).setCell ⟨g, 9, none⟩ (.int .i64 m.read)) vs m.stack ∧
 OwnL vint 3 w ((((((((((wr.setCell ⟨g, 0, none⟩ (.int .i64 m.pc)).setCell ⟨g, 1, none⟩ (.int .i64 m.reg)).setCell ⟨g, 2, none⟩ vs).setCell ⟨g, 3, none⟩ vq).setCell ⟨g, 4, none⟩ (.int .i64 m.left)).setCell ⟨g, 5, none⟩ (.bool m.started)).setCell ⟨g, 6, none⟩ (.bool m.escaped)).setCell ⟨g, 7, none⟩ (.int .i64 m.state)).setCell ⟨g, 8, none⟩ (.int .i64 m.code)).setCell ⟨g, 9, none⟩ (.int .i64 m.read)) vq m.sums ∧
 Ext w ((((((((((wr.setCell ⟨g, 0, none⟩ (.int .i64 m.pc)).setCell ⟨g, 1, none⟩ (.int .i64 m.reg)).setCell ⟨g, 2, none⟩ vs).setCell ⟨g, 3, none⟩ vq).setCell ⟨g, 4, none⟩ (.int .i64 m.left)).setCell ⟨g, 5, none⟩ (.bool m.started)).setCell ⟨g, 6, none⟩ (.bool m.escaped)).setCell ⟨g, 7, none⟩ (.int .i64 m.state)).setCell ⟨g, 8, none⟩ (.int .i64 m.code)).setCell ⟨g, 9, none⟩ (.int .i64 m.read)) :=
 ⟨(put10_own h.os (fun hh => h.xs g hh hgl) _ _ _ _ _ _ _ _ _ _).down e1.size, (put10_own h.oq (fun hh => h.xq g hh hgl) _ _ _ _ _ _ _ _ _ _).down e1.size, put10_ext (e1.trans h.ext) hg _ _ _ _ _ _ _ _ _ _⟩
theorem sAdvM_c (m : Mach) (A1 : Option Addr) (c1 : Nat) (A2 : Option Addr) (c2 : Nat) (Ac : Option Addr) (cs : List Ins) (cc : Nat) (Ae : Option Addr) (es : List Int) (ce : Nat) (w : World) (hC : RdI w Ac cs cc) (hE : Is w Ae es ce) (hel : es.length ≤ 1000000) (hS : Is w A1 m.stack c1) (hQ : Is w A2 m.sums c2) (hm : m.Ok) :
 Calls Tryz.prog 72 #[.agg #[.slice Ac cs.length cc, .slice Ae es.length ce], mval m (.slice A1 m.stack.length c1) (.slice A2 m.sums.length c2)] w (MRes (advM cs es m) w) := by
 unfold MRes
 have hl := hC.len; have hcp := hC.cap
 obtain ⟨W1, hW1, B1, B2, B3, e1, hsz⟩ := boxes3' w #[.slice Ac cs.length cc, .slice Ae es.length ce] (mcells m (.slice A1 m.stack.length c1) (.slice A2 m.sums.length c2)) (mcells ⟨0, 0, [], [], 0, false, false, 0, 0, 0⟩ (.slice none 0 0) (.slice none 0 0)) 55 67 67
 have CC := Lib.hid (sCopyM_c m A1 c1 A2 c2 W1 (hS.ext e1) (hQ.ext e1) hm)
 have CF := Lib.hid (fun w' (e : Ext w w') => sFits_c Ac cs cc Ae es ce w' (hC.ext e) (hE.ext e) hel)
 have CI := Lib.hid (fun w' => l1In_c m.pc 0 ((cs.length : Int) - 1) w')
 have HC := Lib.hid (hC.ext e1)
 have HOK := Lib.hid hm
 have HSZ := Lib.hid hsz; have HE1 := Lib.hid e1; have HB3 := Lib.hid B3
 have b2 := fun i => B2.at i
 have p0 : ∀ w', Ext W1 w' → w'.cell? ⟨w.heap.size, 0, none⟩ = some (Value.slice Ac cs.length cc) := fun w' e => B1.at 0 w' e
 have p1 : ∀ w', Ext W1 w' → w'.cell? ⟨w.heap.size, 1, none⟩ = some (Value.slice Ae es.length ce) := fun w' e => B1.at 1 w' e
 have k0 : ∀ w', Ext W1 w' → w'.cell? ⟨w.heap.size + 1, 0, none⟩ = some (.int .i64 m.pc) := fun w' e => B2.at 0 w' e
 have k5 : ∀ w', Ext W1 w' → w'.cell? ⟨w.heap.size + 1, 5, none⟩ = some (.bool m.started) := fun w' e => B2.at 5 w' e
 have k7 : ∀ w', Ext W1 w' → w'.cell? ⟨w.heap.size + 1, 7, none⟩ = some (.int .i64 m.state) := fun w' e => B2.at 7 w' e
 clear B1 B2 B3 hsz hS hQ hC hE hm b2
 unfold mval at *
 unfold mcells at hW1 CC
 dsimp only at hW1
 unfold mcells
 go_enter Tryz.func72, Tryz.ntmps72
 go_wp2_with fail
 rw [← hW1.out]
 refine CC.out.mono ?_; rintro _ w2 ⟨vs, vq, rfl, ho1, ho2, hfar, e2⟩
 obtain ⟨S1, d1', hvs⟩ := ho1.len_shape; obtain ⟨S2, d2', hvq⟩ := ho2.len_shape
 subst hvs; subst hvq
 have HB : Hid (MB (· < W1.heap.size) W1 (w2.alloc (.cells (mcells m (.slice S1 m.stack.length d1') (.slice S2 m.sums.length d2')) 67)) w2.heap.size m (.slice S1 m.stack.length d1') (.slice S2 m.sums.length d2')) := by
  have h2 := e2.size
  exact ⟨h2, Box.new _ _ _, ho1.ext (Ext_alloc _ (Ext.refl _)), ho2.ext (Ext_alloc _ (Ext.refl _)), fun hh => by have := (World.ownsRow.lt ho1 _ hh).2; omega, fun hh => by have := (World.ownsRow.lt ho2 _ hh).2; omega, hfar, by show ¬ _ < _; omega, fun b hb hx => by have := (World.ownsRow.lt ho1 b hb).1; have hx' : b < W1.heap.size := hx; omega, fun b hb hx => by have := (World.ownsRow.lt ho2 b hb).1; have hx' : b < W1.heap.size := hx; omega, fun k hk => by have hk' : k < W1.heap.size := hk; simp; omega, Ext_alloc _ e2⟩
 obtain ⟨W3, hW3⟩ : ∃ W, Hid (W = w2.alloc (.cells (mcells m (.slice S1 m.stack.length d1') (.slice S2 m.sums.length d2')) 67)) := ⟨_, rfl⟩
 rw [← hW3.out] at HB
 unfold mcells at hW3
 clear ho1 ho2 hfar CC
 have E3 := HB.out.ext
 have j7 := k7 W3 E3
 rw [hW3.out] at j7
 go_upto_if 10 with (fail)
 rw [← hW3.out]
 clear j7
 have k0' := fun w' (e : Ext W3 w') => k0 w' (E3.trans e)
 have k5' := fun w' (e : Ext W3 w') => k5 w' (E3.trans e)
 have q0' := fun w' (e : Ext W3 w') => p0 w' (E3.trans e)
 have q1' := fun w' (e : Ext W3 w') => p1 w' (E3.trans e)
 by_cases hst : m.state = 0
 rotate_left
 ·have HA : Hid (advM cs es m = m) := by show _ = _; unfold advM; rw [if_neg hst]
  have hnb : (m.state != 0) = true := by simp [hst]
  have bx := HB.out.box
  have u0 : W3.cell? ⟨w2.heap.size, 0, none⟩ = some (.int .i64 m.pc) := bx.cell 0
  have u1 : W3.cell? ⟨w2.heap.size, 1, none⟩ = some (.int .i64 m.reg) := bx.cell 1
  have u2 : W3.cell? ⟨w2.heap.size, 2, none⟩ = some (Value.slice S1 m.stack.length d1') := bx.cell 2
  have u3 : W3.cell? ⟨w2.heap.size, 3, none⟩ = some (Value.slice S2 m.sums.length d2') := bx.cell 3
  have u4 : W3.cell? ⟨w2.heap.size, 4, none⟩ = some (.int .i64 m.left) := bx.cell 4
  have u5 : W3.cell? ⟨w2.heap.size, 5, none⟩ = some (.bool m.started) := bx.cell 5
  have u6 : W3.cell? ⟨w2.heap.size, 6, none⟩ = some (.bool m.escaped) := bx.cell 6
  have u7 : W3.cell? ⟨w2.heap.size, 7, none⟩ = some (.int .i64 m.state) := bx.cell 7
  have u8 : W3.cell? ⟨w2.heap.size, 8, none⟩ = some (.int .i64 m.code) := bx.cell 8
  have u9 : W3.cell? ⟨w2.heap.size, 9, none⟩ = some (.int .i64 m.read) := bx.cell 9
  have br := HB3.out.ext HB.out.ext
  have t2 := br.cell; have tf := br.free
  unfold mcells at t2
  have FN := Lib.hid (HB.out.fin HE1.out (g := w.heap.size + 1 + 1) (by omega) (by rw [HSZ.out]; omega))
  clear bx br
  go_wp2
  refine bodyPost_ret (v := .agg #[.int .i64 m.pc, .int .i64 m.reg, (Value.slice S1 m.stack.length d1'), (Value.slice S2 m.sums.length d2'), .int .i64 m.left, .bool m.started, .bool m.escaped, .int .i64 m.state, .int .i64 m.code, .int .i64 m.read]) (by simp [results, Tryz.results72, go_sem, t2, tf]) rfl ?_
  rw [HA.out]
  exact ⟨_, _, rfl, FN.out.1, FN.out.2.1, HB.out.far, FN.out.2.2⟩
 have hsb : (m.state != 0) = false := by simp [hst]
 have CF1 := Lib.hid (CF.out W3 (HE1.out.trans E3))
 have CFA := Lib.hid (fun w' h => sFail_c (· < W1.heap.size) W1 w2.heap.size m 8 w' h)
 have CAD := Lib.hid (fun w' h hC => sAdv_c (· < W1.heap.size) W1 w2.heap.size m Ac cs cc Ae es ce w' h HOK.out hC)
 have HCR : Hid (∀ w', MR (· < W1.heap.size) W3 w' → RdI w' Ac cs cc) := fun w' hr => HC.out.ext (MR.to_ext ((MR.of_ext E3 (fun k hk => hk)).trans hr))
 cases hf : fitsOk cs es
 ·rw [hf] at CF1
  have HA : Hid (advM cs es m = m.fail 8) := by show _ = _; unfold advM; rw [if_pos hst, hf]; rfl
  go_wp2_with fail
  refine CF1.out.mono ?_; rintro _ w4 ⟨rfl, e4⟩
  go_wp2_with fail
  refine (CFA.out _ ⟨_, _, HB.out.next e4⟩).mono ?_; rintro _ w5 ⟨rfl, ⟨vs5, vq5, hm5⟩, hr5⟩
  generalize m.fail 8 = q at *
  obtain ⟨S5, d5, hvs5⟩ := hm5.os.len_shape; obtain ⟨S6, d6, hvq5⟩ := hm5.oq.len_shape
  subst hvs5; subst hvq5
  have HB5 := Lib.hid hm5
  clear hm5 hr5
  have bx := HB5.out.box
  have u0 : w5.cell? ⟨w2.heap.size, 0, none⟩ = some (.int .i64 q.pc) := bx.cell 0
  have u1 : w5.cell? ⟨w2.heap.size, 1, none⟩ = some (.int .i64 q.reg) := bx.cell 1
  have u2 : w5.cell? ⟨w2.heap.size, 2, none⟩ = some (Value.slice S5 q.stack.length d5) := bx.cell 2
  have u3 : w5.cell? ⟨w2.heap.size, 3, none⟩ = some (Value.slice S6 q.sums.length d6) := bx.cell 3
  have u4 : w5.cell? ⟨w2.heap.size, 4, none⟩ = some (.int .i64 q.left) := bx.cell 4
  have u5 : w5.cell? ⟨w2.heap.size, 5, none⟩ = some (.bool q.started) := bx.cell 5
  have u6 : w5.cell? ⟨w2.heap.size, 6, none⟩ = some (.bool q.escaped) := bx.cell 6
  have u7 : w5.cell? ⟨w2.heap.size, 7, none⟩ = some (.int .i64 q.state) := bx.cell 7
  have u8 : w5.cell? ⟨w2.heap.size, 8, none⟩ = some (.int .i64 q.code) := bx.cell 8
  have u9 : w5.cell? ⟨w2.heap.size, 9, none⟩ = some (.int .i64 q.read) := bx.cell 9
  have br := HB3.out.ext HB5.out.ext
  have t2 := br.cell; have tf := br.free
  unfold mcells at t2
  have FN := Lib.hid (HB5.out.fin HE1.out (g := w.heap.size + 1 + 1) (by omega) (by rw [HSZ.out]; omega))
  clear bx br
  go_wp2
  refine bodyPost_ret (v := .agg #[.int .i64 q.pc, .int .i64 q.reg, (Value.slice S5 q.stack.length d5), (Value.slice S6 q.sums.length d6), .int .i64 q.left, .bool q.started, .bool q.escaped, .int .i64 q.state, .int .i64 q.code, .int .i64 q.read]) (by simp [results, Tryz.results72, go_sem, t2, tf]) rfl ?_
  rw [HA.out]
  exact ⟨_, _, rfl, FN.out.1, FN.out.2.1, HB5.out.far, FN.out.2.2⟩
 rw [hf] at CF1
 cases hs : m.started
 ·have HA : Hid (advM cs es m = advN cs 100001 m) := by show _ = _; unfold advM; rw [if_pos hst, hf, hs]; rfl
  rw [hs] at k5'
  go_wp2_with fail
  refine CF1.out.mono ?_; rintro _ w4 ⟨rfl, e4⟩
  have q4 := fun w' (e : Ext w4 w') => q0' w' (e4.trans e)
  have q41 := fun w' (e : Ext w4 w') => q1' w' (e4.trans e)
  go_wp2_with fail
  refine (CAD.out _ ⟨_, _, HB.out.next e4⟩ (fun w' hr => HCR.out w' ((MR.of_ext e4 HB.out.low).trans hr))).mono ?_; rintro _ w5 ⟨rfl, ⟨vs5, vq5, hm5⟩, hr5⟩
  generalize advN cs 100001 m = q at *
  obtain ⟨S5, d5, hvs5⟩ := hm5.os.len_shape; obtain ⟨S6, d6, hvq5⟩ := hm5.oq.len_shape
  subst hvs5; subst hvq5
  have HB5 := Lib.hid hm5
  clear hm5 hr5
  have bx := HB5.out.box
  have u0 : w5.cell? ⟨w2.heap.size, 0, none⟩ = some (.int .i64 q.pc) := bx.cell 0
  have u1 : w5.cell? ⟨w2.heap.size, 1, none⟩ = some (.int .i64 q.reg) := bx.cell 1
  have u2 : w5.cell? ⟨w2.heap.size, 2, none⟩ = some (Value.slice S5 q.stack.length d5) := bx.cell 2
  have u3 : w5.cell? ⟨w2.heap.size, 3, none⟩ = some (Value.slice S6 q.sums.length d6) := bx.cell 3
  have u4 : w5.cell? ⟨w2.heap.size, 4, none⟩ = some (.int .i64 q.left) := bx.cell 4
  have u5 : w5.cell? ⟨w2.heap.size, 5, none⟩ = some (.bool q.started) := bx.cell 5
  have u6 : w5.cell? ⟨w2.heap.size, 6, none⟩ = some (.bool q.escaped) := bx.cell 6
  have u7 : w5.cell? ⟨w2.heap.size, 7, none⟩ = some (.int .i64 q.state) := bx.cell 7
  have u8 : w5.cell? ⟨w2.heap.size, 8, none⟩ = some (.int .i64 q.code) := bx.cell 8
  have u9 : w5.cell? ⟨w2.heap.size, 9, none⟩ = some (.int .i64 q.read) := bx.cell 9
  have br := HB3.out.ext HB5.out.ext
  have t2 := br.cell; have tf := br.free
  unfold mcells at t2
  have FN := Lib.hid (HB5.out.fin HE1.out (g := w.heap.size + 1 + 1) (by omega) (by rw [HSZ.out]; omega))
  clear bx br
  go_wp2
  refine bodyPost_ret (v := .agg #[.int .i64 q.pc, .int .i64 q.reg, (Value.slice S5 q.stack.length d5), (Value.slice S6 q.sums.length d6), .int .i64 q.left, .bool q.started, .bool q.escaped, .int .i64 q.state, .int .i64 q.code, .int .i64 q.read]) (by simp [results, Tryz.results72, go_sem, t2, tf]) rfl ?_
  rw [HA.out]
  exact ⟨_, _, rfl, FN.out.1, FN.out.2.1, HB5.out.far, FN.out.2.2⟩
 rw [hs] at k5'
 cases hi : (decide ((0 : Int) ≤ m.pc) && decide (m.pc ≤ (cs.length : Int) - 1))
 ·rw [hi] at CI
  have HA : Hid (advM cs es m = m.fail 8) := by show _ = _; unfold advM inB; rw [if_pos hst, hf, hs, hi]; rfl
  go_wp2_with fail
  refine CF1.out.mono ?_; rintro _ w4 ⟨rfl, e4⟩
  go_wp2_with fail
  refine (CI.out _).mono ?_; rintro _ w6 ⟨rfl, e6⟩
  have e46 := e4.trans e6
  go_wp2_with fail
  refine (CFA.out _ ⟨_, _, HB.out.next e46⟩).mono ?_; rintro _ w5 ⟨rfl, ⟨vs5, vq5, hm5⟩, hr5⟩
  generalize m.fail 8 = q at *
  obtain ⟨S5, d5, hvs5⟩ := hm5.os.len_shape; obtain ⟨S6, d6, hvq5⟩ := hm5.oq.len_shape
  subst hvs5; subst hvq5
  have HB5 := Lib.hid hm5
  clear hm5 hr5
  have bx := HB5.out.box
  have u0 : w5.cell? ⟨w2.heap.size, 0, none⟩ = some (.int .i64 q.pc) := bx.cell 0
  have u1 : w5.cell? ⟨w2.heap.size, 1, none⟩ = some (.int .i64 q.reg) := bx.cell 1
  have u2 : w5.cell? ⟨w2.heap.size, 2, none⟩ = some (Value.slice S5 q.stack.length d5) := bx.cell 2
  have u3 : w5.cell? ⟨w2.heap.size, 3, none⟩ = some (Value.slice S6 q.sums.length d6) := bx.cell 3
  have u4 : w5.cell? ⟨w2.heap.size, 4, none⟩ = some (.int .i64 q.left) := bx.cell 4
  have u5 : w5.cell? ⟨w2.heap.size, 5, none⟩ = some (.bool q.started) := bx.cell 5
  have u6 : w5.cell? ⟨w2.heap.size, 6, none⟩ = some (.bool q.escaped) := bx.cell 6
  have u7 : w5.cell? ⟨w2.heap.size, 7, none⟩ = some (.int .i64 q.state) := bx.cell 7
  have u8 : w5.cell? ⟨w2.heap.size, 8, none⟩ = some (.int .i64 q.code) := bx.cell 8
  have u9 : w5.cell? ⟨w2.heap.size, 9, none⟩ = some (.int .i64 q.read) := bx.cell 9
  have br := HB3.out.ext HB5.out.ext
  have t2 := br.cell; have tf := br.free
  unfold mcells at t2
  have FN := Lib.hid (HB5.out.fin HE1.out (g := w.heap.size + 1 + 1) (by omega) (by rw [HSZ.out]; omega))
  clear bx br
  go_wp2
  refine bodyPost_ret (v := .agg #[.int .i64 q.pc, .int .i64 q.reg, (Value.slice S5 q.stack.length d5), (Value.slice S6 q.sums.length d6), .int .i64 q.left, .bool q.started, .bool q.escaped, .int .i64 q.state, .int .i64 q.code, .int .i64 q.read]) (by simp [results, Tryz.results72, go_sem, t2, tf]) rfl ?_
  rw [HA.out]
  exact ⟨_, _, rfl, FN.out.1, FN.out.2.1, HB5.out.far, FN.out.2.2⟩
 ·rw [hi] at CI
  have HA : Hid (advM cs es m = advN cs 100001 m) := by show _ = _; unfold advM inB; rw [if_pos hst, hf, hs, hi]; rfl
  go_wp2_with fail
  refine CF1.out.mono ?_; rintro _ w4 ⟨rfl, e4⟩
  go_wp2_with fail
  refine (CI.out _).mono ?_; rintro _ w6 ⟨rfl, e6⟩
  have e46 := e4.trans e6
  have q6 := fun w' (e : Ext w6 w') => q0' w' (e46.trans e)
  have q61 := fun w' (e : Ext w6 w') => q1' w' (e46.trans e)
  go_wp2_with fail
  refine (CAD.out _ ⟨_, _, HB.out.next e46⟩ (fun w' hr => HCR.out w' ((MR.of_ext e46 HB.out.low).trans hr))).mono ?_; rintro _ w5 ⟨rfl, ⟨vs5, vq5, hm5⟩, hr5⟩
  generalize advN cs 100001 m = q at *
  obtain ⟨S5, d5, hvs5⟩ := hm5.os.len_shape; obtain ⟨S6, d6, hvq5⟩ := hm5.oq.len_shape
  subst hvs5; subst hvq5
  have HB5 := Lib.hid hm5
  clear hm5 hr5
  have bx := HB5.out.box
  have u0 : w5.cell? ⟨w2.heap.size, 0, none⟩ = some (.int .i64 q.pc) := bx.cell 0
  have u1 : w5.cell? ⟨w2.heap.size, 1, none⟩ = some (.int .i64 q.reg) := bx.cell 1
  have u2 : w5.cell? ⟨w2.heap.size, 2, none⟩ = some (Value.slice S5 q.stack.length d5) := bx.cell 2
  have u3 : w5.cell? ⟨w2.heap.size, 3, none⟩ = some (Value.slice S6 q.sums.length d6) := bx.cell 3
  have u4 : w5.cell? ⟨w2.heap.size, 4, none⟩ = some (.int .i64 q.left) := bx.cell 4
  have u5 : w5.cell? ⟨w2.heap.size, 5, none⟩ = some (.bool q.started) := bx.cell 5
  have u6 : w5.cell? ⟨w2.heap.size, 6, none⟩ = some (.bool q.escaped) := bx.cell 6
  have u7 : w5.cell? ⟨w2.heap.size, 7, none⟩ = some (.int .i64 q.state) := bx.cell 7
  have u8 : w5.cell? ⟨w2.heap.size, 8, none⟩ = some (.int .i64 q.code) := bx.cell 8
  have u9 : w5.cell? ⟨w2.heap.size, 9, none⟩ = some (.int .i64 q.read) := bx.cell 9
  have br := HB3.out.ext HB5.out.ext
  have t2 := br.cell; have tf := br.free
  unfold mcells at t2
  have FN := Lib.hid (HB5.out.fin HE1.out (g := w.heap.size + 1 + 1) (by omega) (by rw [HSZ.out]; omega))
  clear bx br
  go_wp2
  refine bodyPost_ret (v := .agg #[.int .i64 q.pc, .int .i64 q.reg, (Value.slice S5 q.stack.length d5), (Value.slice S6 q.sums.length d6), .int .i64 q.left, .bool q.started, .bool q.escaped, .int .i64 q.state, .int .i64 q.code, .int .i64 q.read]) (by simp [results, Tryz.results72, go_sem, t2, tf]) rfl ?_
  rw [HA.out]
  exact ⟨_, _, rfl, FN.out.1, FN.out.2.1, HB5.out.far, FN.out.2.2⟩
end Go.Proofs.YtpmcofmdjckijaaGreat
