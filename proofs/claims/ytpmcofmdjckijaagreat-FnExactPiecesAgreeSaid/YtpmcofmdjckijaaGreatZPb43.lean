/- Texts, laid into one. -/
import Derived.Test.YtpmcofmdjckijaaGreatZPb42
set_option linter.unusedVariables false
set_option linter.unusedSimpArgs false
set_option maxRecDepth 100000
set_option maxHeartbeats 16000000
namespace Go.Proofs.YtpmcofmdjckijaaGreat
open Go.RowKit Go.Sort
theorem box10 {w : World} {g : Nat} {T : TypeId} (a0 a1 a2 a3 a4 a5 a6 a7 a8 a9 : Value) (h : Box w g #[a0, a1, a2, a3, a4, a5, a6, a7, a8, a9] T) (u0 u1 u2 u3 u4 u5 u6 u7 u8 u9 : Value) :
 Box ((((((((((w.setCell ⟨g, 0, none⟩ u0).setCell ⟨g, 1, none⟩ u1).setCell ⟨g, 2, none⟩ u2).setCell ⟨g, 3, none⟩ u3).setCell ⟨g, 4, none⟩ u4).setCell ⟨g, 5, none⟩ u5).setCell ⟨g, 6, none⟩ u6).setCell ⟨g, 7, none⟩ u7).setCell ⟨g, 8, none⟩ u8).setCell ⟨g, 9, none⟩ u9) g #[u0, u1, u2, u3, u4, u5, u6, u7, u8, u9] T := by
 have h0 : Box _ g #[u0, a1, a2, a3, a4, a5, a6, a7, a8, a9] T := h.set 0 u0
 have h1 : Box _ g #[u0, u1, a2, a3, a4, a5, a6, a7, a8, a9] T := h0.set 1 u1
 have h2 : Box _ g #[u0, u1, u2, a3, a4, a5, a6, a7, a8, a9] T := h1.set 2 u2
 have h3 : Box _ g #[u0, u1, u2, u3, a4, a5, a6, a7, a8, a9] T := h2.set 3 u3
 have h4 : Box _ g #[u0, u1, u2, u3, u4, a5, a6, a7, a8, a9] T := h3.set 4 u4
 have h5 : Box _ g #[u0, u1, u2, u3, u4, u5, a6, a7, a8, a9] T := h4.set 5 u5
 have h6 : Box _ g #[u0, u1, u2, u3, u4, u5, u6, a7, a8, a9] T := h5.set 6 u6
 have h7 : Box _ g #[u0, u1, u2, u3, u4, u5, u6, u7, a8, a9] T := h6.set 7 u7
 have h8 : Box _ g #[u0, u1, u2, u3, u4, u5, u6, u7, u8, a9] T := h7.set 8 u8
 have h9 : Box _ g #[u0, u1, u2, u3, u4, u5, u6, u7, u8, u9] T := h8.set 9 u9
 exact h9
theorem MB.all {W1 wr wc w5 : World} {p : Nat} {m q : Mach} {vs vq vs' vq' : Value} (h : MB (· < W1.heap.size) W1 wr p m vs vq) (ec : Ext wr wc) (ho1 : OwnL vint 3 wc w5 vs' q.stack) (ho2 : OwnL vint 3 wc w5 vq' q.sums) (hfar : ∀ b, vs'.ownBlock = some b → vq'.ownBlock ≠ some b) (e5 : Ext wc w5) :
 MB (· < W1.heap.size) W1 ((((((((((w5.setCell ⟨p, 0, none⟩ (.int .i64 q.pc)).setCell ⟨p, 1, none⟩ (.int .i64 q.reg)).setCell ⟨p, 2, none⟩ vs').setCell ⟨p, 3, none⟩ vq').setCell ⟨p, 4, none⟩ (.int .i64 q.left)).setCell ⟨p, 5, none⟩ (.bool q.started)).setCell ⟨p, 6, none⟩ (.bool q.escaped)).setCell ⟨p, 7, none⟩ (.int .i64 q.state)).setCell ⟨p, 8, none⟩ (.int .i64 q.code)).setCell ⟨p, 9, none⟩ (.int .i64 q.read)) p q vs' vq' := by
 have hp := (h.box.ext ec).lt
 have hs : W1.heap.size ≤ wc.heap.size := Nat.le_trans h.ext.size ec.size
 have n1 : vs'.ownBlock ≠ some p := fun hh => by have := (World.ownsRow.lt ho1 _ hh).1; omega
 have n2 : vq'.ownBlock ≠ some p := fun hh => by have := (World.ownsRow.lt ho2 _ hh).1; omega
 have hz : W1.heap.size ≤ w5.heap.size := Nat.le_trans hs e5.size
 exact ⟨h.lo, box10 _ _ _ _ _ _ _ _ _ _ (h.box.ext (ec.trans e5)) _ _ _ _ _ _ _ _ _ _, (put10_own ho1 n1 _ _ _ _ _ _ _ _ _ _).down hs, (put10_own ho2 n2 _ _ _ _ _ _ _ _ _ _).down hs, n1, n2, hfar, h.xp,
  fun b hb hx => by have := (World.ownsRow.lt ho1 b hb).1; have hx' : b < W1.heap.size := hx; omega, fun b hb hx => by have := (World.ownsRow.lt ho2 b hb).1; have hx' : b < W1.heap.size := hx; omega, fun k hk => by have hk' : k < W1.heap.size := hk; simp; omega, put10_ext (h.ext.trans (ec.trans e5)) h.lo _ _ _ _ _ _ _ _ _ _⟩
theorem sFeedL_c (m : Mach) (A1 : Option Addr) (c1 : Nat) (A2 : Option Addr) (c2 : Nat) (Ac : Option Addr) (cs : List Ins) (cc : Nat) (Ae : Option Addr) (es : List Int) (ce : Nat) (Ab : Option Addr) (l : List UInt8) (cb : Nat) (w : World) (hC : RdI w Ac cs cc) (hE : Is w Ae es ce) (hel : es.length ≤ 1000000) (hS : Is w A1 m.stack c1) (hQ : Is w A2 m.sums c2) (hm : m.Ok) (hBs : Bs w Ab l cb) :
 Calls Tryz.prog 27 #[.agg #[.slice Ac cs.length cc, .slice Ae es.length ce], mval m (.slice A1 m.stack.length c1) (.slice A2 m.sums.length c2), .slice Ab l.length cb] w (MRes (feedL (fitsOk cs es) cs m l) w) := by
 unfold MRes
 have hl := hC.len; have hcp := hC.cap
 obtain ⟨W1, hW1, B1, B2, B3, e1, hsz⟩ := boxes3' w #[.slice Ac cs.length cc, .slice Ae es.length ce] (mcells m (.slice A1 m.stack.length c1) (.slice A2 m.sums.length c2)) (mcells ⟨0, 0, [], [], 0, false, false, 0, 0, 0⟩ (.slice none 0 0) (.slice none 0 0)) 55 67 67
 have CC := Lib.hid (sCopyM_c m A1 c1 A2 c2 W1 (hS.ext e1) (hQ.ext e1) hm)
 have CF := Lib.hid (fun (q : Mach) B1 d1 B2 d2 (b : UInt8) w' (e : Ext W1 w') (h1 : Is w' B1 q.stack d1) (h2 : Is w' B2 q.sums d2) (hq : q.Ok) => sFeed_c q B1 d1 B2 d2 Ac cs cc Ae es ce (b.toNat : Int) w' (hC.ext (e1.trans e)) (hE.ext (e1.trans e)) hel h1 h2 hq ⟨by omega, by have := b.toNat_lt; omega⟩)
 have HOK : Hid (∀ k, (feedL (fitsOk cs es) cs m (l.take k)).Ok) := fun k => feedL_ok hm
 have HSN : Hid (∀ k (hk : k < l.length), feedL (fitsOk cs es) cs m (l.take (k + 1)) = feedF (fitsOk cs es) cs (feedL (fitsOk cs es) cs m (l.take k)) (l[k].toNat : Int)) := fun k hk => feedL_snoc _ _ _ _ k hk
 have H0 : Hid (feedL (fitsOk cs es) cs m (l.take 0) = m) := rfl
 have HALL : Hid (feedL (fitsOk cs es) cs m (l.take l.length) = feedL (fitsOk cs es) cs m l) := by show _ = _; rw [List.take_length]
 have HBS := Lib.hid (hBs.ext e1)
 have hll := hBs.len; have hlc := hBs.cap
 have HSZ := Lib.hid hsz; have HE1 := Lib.hid e1; have HB3 := Lib.hid B3
 have p0 : ∀ w', Ext W1 w' → w'.cell? ⟨w.heap.size, 0, none⟩ = some (Value.slice Ac cs.length cc) := fun w' e => B1.at 0 w' e
 have p1 : ∀ w', Ext W1 w' → w'.cell? ⟨w.heap.size, 1, none⟩ = some (Value.slice Ae es.length ce) := fun w' e => B1.at 1 w' e
 have bx := B2
 unfold mcells at bx
 have k0 : ∀ w', Ext W1 w' → w'.cell? ⟨w.heap.size + 1, 0, none⟩ = some (.int .i64 m.pc) := fun w' e => (bx.ext e).cell 0
 have k1 : ∀ w', Ext W1 w' → w'.cell? ⟨w.heap.size + 1, 1, none⟩ = some (.int .i64 m.reg) := fun w' e => (bx.ext e).cell 1
 have k2 : ∀ w', Ext W1 w' → w'.cell? ⟨w.heap.size + 1, 2, none⟩ = some (Value.slice A1 m.stack.length c1) := fun w' e => (bx.ext e).cell 2
 have k3 : ∀ w', Ext W1 w' → w'.cell? ⟨w.heap.size + 1, 3, none⟩ = some (Value.slice A2 m.sums.length c2) := fun w' e => (bx.ext e).cell 3
 have k4 : ∀ w', Ext W1 w' → w'.cell? ⟨w.heap.size + 1, 4, none⟩ = some (.int .i64 m.left) := fun w' e => (bx.ext e).cell 4
 have k5 : ∀ w', Ext W1 w' → w'.cell? ⟨w.heap.size + 1, 5, none⟩ = some (.bool m.started) := fun w' e => (bx.ext e).cell 5
 have k6 : ∀ w', Ext W1 w' → w'.cell? ⟨w.heap.size + 1, 6, none⟩ = some (.bool m.escaped) := fun w' e => (bx.ext e).cell 6
 have k7 : ∀ w', Ext W1 w' → w'.cell? ⟨w.heap.size + 1, 7, none⟩ = some (.int .i64 m.state) := fun w' e => (bx.ext e).cell 7
 have k8 : ∀ w', Ext W1 w' → w'.cell? ⟨w.heap.size + 1, 8, none⟩ = some (.int .i64 m.code) := fun w' e => (bx.ext e).cell 8
 have k9 : ∀ w', Ext W1 w' → w'.cell? ⟨w.heap.size + 1, 9, none⟩ = some (.int .i64 m.read) := fun w' e => (bx.ext e).cell 9
 clear B1 B2 B3 hsz hS hQ hC hE hm hBs bx
 generalize hf : fitsOk cs es = f at *
 clear hf
 generalize hFL : (fun t => feedL f cs m (l.take t)) = FL at *
 have HFL : Hid (∀ t, feedL f cs m (l.take t) = FL t) := fun t => by rw [← hFL]
 clear hFL
 simp only [HFL.out] at HOK HSN H0 HALL
 clear HFL
 obtain ⟨R, HRV⟩ : ∃ R, Hid (feedL f cs m l = R) := ⟨_, rfl⟩
 rw [HRV.out] at HALL ⊢
 clear HRV
 unfold MRes mval at CF
 unfold mval at *
 unfold mcells at *
 dsimp only at hW1
 go_enter Tryz.func27, Tryz.ntmps27
 go_wp2_with fail
 rw [← hW1.out]
 refine CC.out.mono ?_; rintro _ w2 ⟨vs, vq, rfl, ho1, ho2, hfar, e2⟩
 obtain ⟨S1, d1', hvs⟩ := ho1.len_shape; obtain ⟨S2, d2', hvq⟩ := ho2.len_shape
 subst hvs; subst hvq
 have HB := Lib.hid (MB.laid ho1 ho2 hfar e2)
 obtain ⟨W3, hW3⟩ : ∃ W, Hid (W = w2.alloc (.cells (mcells m (.slice S1 m.stack.length d1') (.slice S2 m.sums.length d2')) 67)) := ⟨_, rfl⟩
 rw [← hW3.out] at HB
 unfold mcells at hW3
 clear ho1 ho2 hfar k0 k1 k2 k3 k4 k5 k6 k7 k8 k9 CC
 have E3 := HB.out.ext
 have e23 : Ext w2 W3 := ka hW3
 have HMV : Hid (MV (· < W1.heap.size) W1 W3 w2.heap.size (FL 0)) := by show MV _ _ _ _ _; rw [H0.out]; exact ⟨_, _, HB.out⟩
 clear HB E3
 go_upto_region 2 with (fail)
 rw [← hW3.out]
 clear hW3 e23 e2 H0
 go_wp2_with fail
 go_loopw [8] (fun q wr => ∃ k : Nat, k ≤ l.length ∧ q = .int .i64 (k : Int) ∧ Hid (MV (· < W1.heap.size) W1 wr w2.heap.size (FL k))) (fun q _ => l.length - (intOf q).toNat)
 case atStart => exact ⟨0, by omega, rfl, HMV.out⟩
 case round =>
  clear HMV
  obtain ⟨k, hk, rfl, hmv⟩ := hrel
  obtain ⟨vs3, vq3, hb3⟩ := hmv.out
  have hOK := HOK.out k
  obtain ⟨S3, d3, hvs3, hS3⟩ := OwnL.rd hb3.os (by have := hOK.st; omega)
  obtain ⟨S4, d4, hvq3, hS4⟩ := OwnL.rd hb3.oq (by have := hOK.sm; omega)
  subst hvs3; subst hvq3
  have HB := Lib.hid hb3
  have HS3 := Lib.hid hS3; have HS4 := Lib.hid hS4; have HOKk := Lib.hid hOK
  clear hmv hb3 hS3 hS4 hOK
  have ER := HB.out.ext
  have hpw := HB.out.box.lt
  have bx := HB.out.box
  unfold mcells at bx
  by_cases hlt : k < l.length
  ·have HNX := Lib.hid (HSN.out k hlt)
   have u0 : ∀ w', Ext wr w' → w'.cell? ⟨w2.heap.size, 0, none⟩ = some (.int .i64 (FL k).pc) := fun w' e => (bx.ext e).cell 0
   have u1 : ∀ w', Ext wr w' → w'.cell? ⟨w2.heap.size, 1, none⟩ = some (.int .i64 (FL k).reg) := fun w' e => (bx.ext e).cell 1
   have u2 : ∀ w', Ext wr w' → w'.cell? ⟨w2.heap.size, 2, none⟩ = some (Value.slice S3 (FL k).stack.length d3) := fun w' e => (bx.ext e).cell 2
   have u3 : ∀ w', Ext wr w' → w'.cell? ⟨w2.heap.size, 3, none⟩ = some (Value.slice S4 (FL k).sums.length d4) := fun w' e => (bx.ext e).cell 3
   have u4 : ∀ w', Ext wr w' → w'.cell? ⟨w2.heap.size, 4, none⟩ = some (.int .i64 (FL k).left) := fun w' e => (bx.ext e).cell 4
   have u5 : ∀ w', Ext wr w' → w'.cell? ⟨w2.heap.size, 5, none⟩ = some (.bool (FL k).started) := fun w' e => (bx.ext e).cell 5
   have u6 : ∀ w', Ext wr w' → w'.cell? ⟨w2.heap.size, 6, none⟩ = some (.bool (FL k).escaped) := fun w' e => (bx.ext e).cell 6
   have u7 : ∀ w', Ext wr w' → w'.cell? ⟨w2.heap.size, 7, none⟩ = some (.int .i64 (FL k).state) := fun w' e => (bx.ext e).cell 7
   have u8 : ∀ w', Ext wr w' → w'.cell? ⟨w2.heap.size, 8, none⟩ = some (.int .i64 (FL k).code) := fun w' e => (bx.ext e).cell 8
   have u9 : ∀ w', Ext wr w' → w'.cell? ⟨w2.heap.size, 9, none⟩ = some (.int .i64 (FL k).read) := fun w' e => (bx.ext e).cell 9
   obtain ⟨gb, ob, hAb, _, hcb⟩ := HBS.out.at k hlt
   subst hAb
   have hcl : ∀ w', Ext wr w' → w'.cell? ⟨gb, ob + k, none⟩ = some (.int .u8 (l[k].toNat : Int)) := fun w' e => hcb w' (ER.trans e)
   have q0 := fun w' (e : Ext wr w') => p0 w' (ER.trans e)
   have q1 := fun w' (e : Ext wr w') => p1 w' (ER.trans e)
   have CF1 := Lib.hid (fun w' (e : Ext wr w') => CF.out (FL k) S3 d3 S4 d4 l[k] w' (ER.trans e) (HS3.out.ext e) (HS4.out.ext e) HOKk.out)
   have hki : (k : Int) < (l.length : Int) := by omega
   have hkb := l[k].toNat_lt
   have hcv : IntKind.i64.wrap (l[k].toNat : Int) = (l[k].toNat : Int) := IntWalk.i64_in _ (by omega)
   have hkl : (k : Int) + 1 ≤ 140737488351232 := by omega
   generalize l[k] = y at *
   generalize hq : FL k = q at *
   clear hq hcb bx HSN HALL HBS CF p0 p1
   have HNX2 : Hid (FL (k + 1) = feedF f cs q (y.toNat : Int)) := HNX.out
   clear HNX
   generalize feedF f cs q (y.toNat : Int) = r at *
   go_wp2_with fail
   refine region_qtail_below 7 (by kernel_rfl) (by kernel_rfl) ?_
   simp only [List.take_succ_cons, List.take_zero, List.drop_succ_cons, List.drop_zero]
   repeat (go_big_quiet_step (fail))
   refine wpQuiet_nil ?_
   rintro w4 ⟨⟨nq, osq⟩, hq⟩
   have e4 := ext_of_q hq
   clear hq nq osq
   go_wp2_with fail
   refine (CF1.out w4 e4).mono ?_; rintro _ w5 ⟨vs5, vq5, rfl, ho1, ho2, hfar, e5⟩
   obtain ⟨S5, d5, hvs5⟩ := ho1.len_shape; obtain ⟨S6, d6, hvq5⟩ := ho2.len_shape
   subst hvs5; subst hvq5
   have HB5 := Lib.hid (HB.out.all e4 ho1 ho2 hfar e5)
   have bx5 := HB.out.box.ext (e4.trans e5)
   have tt := bx5.cell; have tf := bx5.free
   unfold mcells at tt
   clear ho1 ho2 hfar bx5
   go_wp2
   go_roundw
   case rel => exact ⟨k + 1, by omega, by go_num, (by show MV _ _ _ _ _; rw [HNX2.out]; exact ⟨_, _, HB5.out⟩)⟩
   case measure => simp [intOf]; omega
  ·have hkl : k = l.length := by omega
   subst hkl
   have HA : Hid (R = FL l.length) := by show _ = _; exact HALL.out.symm
   have hkd : decide ((l.length : Int) < (l.length : Int)) = false := by simp
   generalize FL l.length = r at *
   clear bx
   have bx := HB.out.box
   have u0 : wr.cell? ⟨w2.heap.size, 0, none⟩ = some (.int .i64 r.pc) := bx.cell 0
   have u1 : wr.cell? ⟨w2.heap.size, 1, none⟩ = some (.int .i64 r.reg) := bx.cell 1
   have u2 : wr.cell? ⟨w2.heap.size, 2, none⟩ = some (Value.slice S3 r.stack.length d3) := bx.cell 2
   have u3 : wr.cell? ⟨w2.heap.size, 3, none⟩ = some (Value.slice S4 r.sums.length d4) := bx.cell 3
   have u4 : wr.cell? ⟨w2.heap.size, 4, none⟩ = some (.int .i64 r.left) := bx.cell 4
   have u5 : wr.cell? ⟨w2.heap.size, 5, none⟩ = some (.bool r.started) := bx.cell 5
   have u6 : wr.cell? ⟨w2.heap.size, 6, none⟩ = some (.bool r.escaped) := bx.cell 6
   have u7 : wr.cell? ⟨w2.heap.size, 7, none⟩ = some (.int .i64 r.state) := bx.cell 7
   have u8 : wr.cell? ⟨w2.heap.size, 8, none⟩ = some (.int .i64 r.code) := bx.cell 8
   have u9 : wr.cell? ⟨w2.heap.size, 9, none⟩ = some (.int .i64 r.read) := bx.cell 9
   have br := HB3.out.ext HB.out.ext
   have t2 := br.cell; have tf := br.free
   unfold mcells at t2
   have FN := Lib.hid (HB.out.fin HE1.out (g := w.heap.size + 1 + 1) (by omega) (by rw [HSZ.out]; omega))
   clear bx br
   go_wp2
   refine bodyPost_ret (v := .agg #[.int .i64 r.pc, .int .i64 r.reg, (Value.slice S3 r.stack.length d3), (Value.slice S4 r.sums.length d4), .int .i64 r.left, .bool r.started, .bool r.escaped, .int .i64 r.state, .int .i64 r.code, .int .i64 r.read]) (by simp [results, Tryz.results27, go_sem, t2, tf]) rfl ?_
   rw [HA.out]
   exact ⟨_, _, rfl, FN.out.1, FN.out.2.1, HB.out.far, FN.out.2.2⟩
end Go.Proofs.YtpmcofmdjckijaaGreat
