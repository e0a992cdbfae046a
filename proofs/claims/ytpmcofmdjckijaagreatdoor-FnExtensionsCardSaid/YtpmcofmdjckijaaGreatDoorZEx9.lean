/- Draws of values: l9Make (a value of a rule), by kinds. (Printed by gen/gx39.py.) -/
import Derived.Test.YtpmcofmdjckijaaGreatDoorZEx8
import Derived.Deep.RegionHeld3
import Derived.IntWalk
set_option linter.unusedVariables false
set_option linter.unusedSimpArgs false
set_option maxRecDepth 100000
set_option maxHeartbeats 16000000
namespace Go.Proofs.YtpmcofmdjckijaaGreatDoor
open Go.RowKit Go.Sort
theorem l9Make2_c (Ad : Option Addr) (ds : List DRule) (cd : Nat) (hok : descOk ds = true) (i : Nat) (hi : i < ds.length) (hk : ds[i].kind = 2) (wb : World) (p : Nat) (A : Option Addr) (l : List UInt8) (c : Nat) (hA : Bs wb A l c) (HR : ∀ j, j < i → MakeOk Ad ds cd wb p A l c j) : MakeOk Ad ds cd wb p A l c i := by
 intro m hm w hC hD
 have hplt := hC.lt
 have hbw := hC.2.1.size
 have hdl := (descOk_len hok).2
 have CBe := Lib.hid (fun n w h hn => l1Below_c n wb w p A l c hA h hn)
 have COn := Lib.hid (fun n w h hn => l1Once_c n wb w p A l c hA h hn)
 obtain ⟨g, off, hAd, hgw, hall⟩ := hD.out
 obtain ⟨Ab, cb, An, cn, At, ct, Ak, ck, hst⟩ := hall i hi
 subst hAd
 have hS := (hst w (World.grownBy.refl _ _)).1
 obtain ⟨r0, r1, r2, r3, r4, r5, r6, r7⟩ := (hst w (World.grownBy.refl _ _)).2
 have HST := Lib.hid hst; have HD := Lib.hid hD; have HC := Lib.hid hC
 have hii : (i : Int) < (ds.length : Int) := by omega
 have hi0 : (0 : Int) ≤ (i : Int) := by omega
 clear hall hst hD
 have t1 : (ds[i].kind == 1) = false := by rw [hk]; rfl
 have t3 : (ds[i].kind == 3) = false := by rw [hk]; rfl
 have t4 : (ds[i].kind == 4) = false := by rw [hk]; rfl
 have t10 : (ds[i].kind == 10) = false := by rw [hk]; rfl
 have t5 : (ds[i].kind == 5) = false := by rw [hk]; rfl
 have t6 : (ds[i].kind == 6) = false := by rw [hk]; rfl
 have t7 : (ds[i].kind == 7) = false := by rw [hk]; rfl
 have t8 : (ds[i].kind == 8) = false := by rw [hk]; rfl
 have t9 : (ds[i].kind == 9) = false := by rw [hk]; rfl
 have HFT : Hid (FitV ds i (.mk 0 [] [])) := made2 hi hk
 generalize ds[i] = r at *
 obtain ⟨W0, W1, HW0, HW1, B1, B2, B3, B4, e0, x1, hs0, hs1⟩ := boxes4' w #[Value.slice (some ⟨g, off, none⟩) ds.length cd] val0 #[.string r.nm, .int .i64 r.kind, .int .i64 r.size, .bool r.little, .slice Ab r.bytes.length cb, .slice An r.names.length cn, .slice At r.tags.length ct, .slice Ak r.kids.length ck] val0 26 29 51 29
 have e01 := e0.trans x1
 have M0 : Hid (VM wb w W1 p A l c (Value.slice (some ⟨g, off, none⟩) ds.length cd) #[.string r.nm, .int .i64 r.kind, .int .i64 r.size, .bool r.little, .slice Ab r.bytes.length cb, .slice An r.names.length cn, .slice At r.tags.length ct, .slice Ak r.kids.length ck] 0 (.slice none 0 0) [] (.slice none 0 0) []) :=
  ⟨B1.ext x1, B2.ext x1, B3.ext x1, B4, OwnL.nil _ _, OwnTs.nil _ _, by simp [Far, Value.ownBlock], by simp [Value.ownBlock], HC.out.ext e01, grown_ext e01 _⟩
 have q0 : ∀ w', Ext W0 w' → _ = some (Value.slice (some ⟨g, off, none⟩) ds.length cd) := fun w' e => B1.at 0 w' e
 have k0 : ∀ w', Ext W0 w' → _ = some (Value.string r.nm) := fun w' e => B3.at 0 w' e
 have k1 : ∀ w', Ext W0 w' → _ = some (Value.int .i64 r.kind) := fun w' e => B3.at 1 w' e
 have k2 : ∀ w', Ext W0 w' → _ = some (Value.int .i64 r.size) := fun w' e => B3.at 2 w' e
 have k3 : ∀ w', Ext W0 w' → _ = some (Value.bool r.little) := fun w' e => B3.at 3 w' e
 have k4 : ∀ w', Ext W0 w' → _ = some (Value.slice Ab r.bytes.length cb) := fun w' e => B3.at 4 w' e
 have k5 : ∀ w', Ext W0 w' → _ = some (Value.slice An r.names.length cn) := fun w' e => B3.at 5 w' e
 have k6 : ∀ w', Ext W0 w' → _ = some (Value.slice At r.tags.length ct) := fun w' e => B3.at 6 w' e
 have k7 : ∀ w', Ext W0 w' → _ = some (Value.slice Ak r.kids.length ck) := fun w' e => B3.at 7 w' e
 have HWM : Hid (IntKind.i64.wrap ((m : Int) / 2) = ((m / 2 : Nat) : Int)) := by
  show _ = _
  rw [IntWalk.i64_in _ (by omega)]; omega
 have HS1 := Lib.hid hs1; have HX1 := Lib.hid x1
 clear B1 B2 B3 B4 hs0 hs1 hk
 unfold val0 at *
 go_enter Tryz.func23, Tryz.ntmps23
 rw [HW1.out, HW0.out] at M0
 have HOUT := Lib.hid M0.out.asis
 have m0 : _ = some (Value.int .i64 0) := M0.out.box.cell 0
 have m1 : _ = some (Value.slice none 0 0) := M0.out.box.cell 1
 have m2 : _ = some (Value.slice none 0 0) := M0.out.box.cell 2
 have f1 := M0.out.res.cell; have f2 := M0.out.res.free
 go_wp2
 obtain ⟨hO, hF, hN, hCc, hG⟩ := HOUT.out
 exact bodyPost_ret (v := .agg #[.int .i64 0, .slice none 0 0, .slice none 0 0]) (by simp [results, Tryz.results23, go_sem, f1, f2]) rfl ⟨.mk 0 [] (.slice none 0 0) [] (.slice none 0 0), _, _, _, _, _, _, rfl, ⟨rfl, rfl⟩, ⟨HFT.out.1, HFT.out.2, hO, hF, hN, hCc, hG⟩⟩
theorem l9Make1_c (Ad : Option Addr) (ds : List DRule) (cd : Nat) (hok : descOk ds = true) (i : Nat) (hi : i < ds.length) (hk : ds[i].kind = 1) (wb : World) (p : Nat) (A : Option Addr) (l : List UInt8) (c : Nat) (hA : Bs wb A l c) (HR : ∀ j, j < i → MakeOk Ad ds cd wb p A l c j) : MakeOk Ad ds cd wb p A l c i := by
 intro m hm w hC hD
 have hplt := hC.lt
 have hbw := hC.2.1.size
 have hdl := (descOk_len hok).2
 have CBe := Lib.hid (fun n w h hn => l1Below_c n wb w p A l c hA h hn)
 have COn := Lib.hid (fun n w h hn => l1Once_c n wb w p A l c hA h hn)
 obtain ⟨g, off, hAd, hgw, hall⟩ := hD.out
 obtain ⟨Ab, cb, An, cn, At, ct, Ak, ck, hst⟩ := hall i hi
 subst hAd
 have hS := (hst w (World.grownBy.refl _ _)).1
 obtain ⟨r0, r1, r2, r3, r4, r5, r6, r7⟩ := (hst w (World.grownBy.refl _ _)).2
 have HST := Lib.hid hst; have HD := Lib.hid hD; have HC := Lib.hid hC
 have hii : (i : Int) < (ds.length : Int) := by omega
 have hi0 : (0 : Int) ≤ (i : Int) := by omega
 clear hall hst hD
 have t1 : (ds[i].kind == 1) = true := by rw [hk]; rfl
 have t3 : (ds[i].kind == 3) = false := by rw [hk]; rfl
 have t4 : (ds[i].kind == 4) = false := by rw [hk]; rfl
 have t10 : (ds[i].kind == 10) = false := by rw [hk]; rfl
 have t5 : (ds[i].kind == 5) = false := by rw [hk]; rfl
 have t6 : (ds[i].kind == 6) = false := by rw [hk]; rfl
 have t7 : (ds[i].kind == 7) = false := by rw [hk]; rfl
 have t8 : (ds[i].kind == 8) = false := by rw [hk]; rfl
 have t9 : (ds[i].kind == 9) = false := by rw [hk]; rfl
 obtain ⟨s, hs, hs1, hs4, hft⟩ := made1 hok hi hk
 have HFT := Lib.hid hft; clear hft
 have CP : Hid (∀ w, Gives Tryz.prog 48 #[.int .i64 ds[i].size] w (.int .i64 (256 ^ s))) := fun w => by rw [hs]; exact l2PowerN_c s w hs1 hs4
 clear hs
 have CM := Lib.hid (fun w => sMin_c (256 ^ s) 70000 w)
 generalize ds[i] = r at *
 obtain ⟨W0, W1, HW0, HW1, B1, B2, B3, B4, e0, x1, hs0, hs1⟩ := boxes4' w #[Value.slice (some ⟨g, off, none⟩) ds.length cd] val0 #[.string r.nm, .int .i64 r.kind, .int .i64 r.size, .bool r.little, .slice Ab r.bytes.length cb, .slice An r.names.length cn, .slice At r.tags.length ct, .slice Ak r.kids.length ck] val0 26 29 51 29
 have e01 := e0.trans x1
 have M0 : Hid (VM wb w W1 p A l c (Value.slice (some ⟨g, off, none⟩) ds.length cd) #[.string r.nm, .int .i64 r.kind, .int .i64 r.size, .bool r.little, .slice Ab r.bytes.length cb, .slice An r.names.length cn, .slice At r.tags.length ct, .slice Ak r.kids.length ck] 0 (.slice none 0 0) [] (.slice none 0 0) []) :=
  ⟨B1.ext x1, B2.ext x1, B3.ext x1, B4, OwnL.nil _ _, OwnTs.nil _ _, by simp [Far, Value.ownBlock], by simp [Value.ownBlock], HC.out.ext e01, grown_ext e01 _⟩
 have q0 : ∀ w', Ext W0 w' → _ = some (Value.slice (some ⟨g, off, none⟩) ds.length cd) := fun w' e => B1.at 0 w' e
 have k0 : ∀ w', Ext W0 w' → _ = some (Value.string r.nm) := fun w' e => B3.at 0 w' e
 have k1 : ∀ w', Ext W0 w' → _ = some (Value.int .i64 r.kind) := fun w' e => B3.at 1 w' e
 have k2 : ∀ w', Ext W0 w' → _ = some (Value.int .i64 r.size) := fun w' e => B3.at 2 w' e
 have k3 : ∀ w', Ext W0 w' → _ = some (Value.bool r.little) := fun w' e => B3.at 3 w' e
 have k4 : ∀ w', Ext W0 w' → _ = some (Value.slice Ab r.bytes.length cb) := fun w' e => B3.at 4 w' e
 have k5 : ∀ w', Ext W0 w' → _ = some (Value.slice An r.names.length cn) := fun w' e => B3.at 5 w' e
 have k6 : ∀ w', Ext W0 w' → _ = some (Value.slice At r.tags.length ct) := fun w' e => B3.at 6 w' e
 have k7 : ∀ w', Ext W0 w' → _ = some (Value.slice Ak r.kids.length ck) := fun w' e => B3.at 7 w' e
 have HWM : Hid (IntKind.i64.wrap ((m : Int) / 2) = ((m / 2 : Nat) : Int)) := by
  show _ = _
  rw [IntWalk.i64_in _ (by omega)]; omega
 have HS1 := Lib.hid hs1; have HX1 := Lib.hid x1
 clear B1 B2 B3 B4 hs0 hs1 hk
 obtain ⟨N, hN⟩ : ∃ N : Int, N = (if (70000 : Int) < 256 ^ s then 70000 else 256 ^ s) := ⟨_, rfl⟩
 have HN : Hid (N ≤ 70000 ∧ ∀ x : Nat, below N x → x < 256 ^ s) := by
  have hp : (256 : Int) ^ s = ((256 ^ s : Nat) : Int) := by push_cast; rfl
  have hp1 : 0 < 256 ^ s := Nat.pow_pos (by omega)
  rw [hN, hp]
  split
  ·exact ⟨by omega, fun x hx => by unfold below at hx; rw [if_neg (by omega)] at hx; omega⟩
  ·exact ⟨by omega, fun x hx => by unfold below at hx; rw [if_neg (by omega)] at hx; omega⟩
 rw [← hN] at CM
 clear hN
 generalize (256 : Int) ^ s = Z at *
 have hN7 := HN.out.1
 unfold val0 at *
 go_enter Tryz.func23, Tryz.ntmps23
 go_wp2_with fail
 rw [← HW0.out, ← HW1.out]
 refine (CP.out _).mono ?_; rintro _ w1 ⟨rfl, he1⟩
 have M1 := Lib.hid (M0.out.ext hplt he1)
 clear M0
 go_wp2_with fail
 refine (CM.out _).mono ?_; rintro _ w2 ⟨rfl, he2⟩
 have M2 := Lib.hid (M1.out.ext hplt he2)
 clear M1
 go_wp2_with fail
 refine (CBe.out N _ M2.out.cur (by omega)).mono ?_; rintro _ w3 ⟨x, hx, rfl, hC3, hg3⟩
 have M3 := Lib.hid (M2.out.moved hplt hC3 hg3)
 have HX := Lib.hid (HN.out.2 x hx)
 have z0 : _ = some (Value.int .i64 0) := M3.out.box.cell 0
 have y0 := M3.out.box.free 0
 have M4 := Lib.hid (M3.out.num hplt hbw (x : Int))
 have kk := M3.out.rb.cell 1
 clear M2 hC3 hg3 hx HN
 have m0 : _ = some (Value.int .i64 (x : Int)) := M4.out.box.cell 0
 have m1 : _ = some (Value.slice none 0 0) := M4.out.box.cell 1
 have m2 : _ = some (Value.slice none 0 0) := M4.out.box.cell 2
 have f1 := M4.out.res.cell; have f2 := M4.out.res.free
 have HOUT := Lib.hid (M4.out.out hplt hbw (.int .i64 (x : Int)) (Value.slice none 0 0) (Value.slice none 0 0))
 have HV := Lib.hid (HFT.out x HX.out)
 go_wp2_with fail
 obtain ⟨hO, hF, hN, hCc, hG⟩ := HOUT.out
 exact bodyPost_ret (v := .agg #[.int .i64 (x : Int), Value.slice none 0 0, Value.slice none 0 0]) (by simp [results, Tryz.results23, go_sem, f1, f2]) rfl ⟨.mk (x : Int) [] (Value.slice none 0 0) [] (Value.slice none 0 0), _, _, _, _, _, _, rfl, ⟨rfl, rfl⟩, ⟨HV.out.1, HV.out.2, hO, hF, hN, hCc, hG⟩⟩
theorem l9Make3_c (Ad : Option Addr) (ds : List DRule) (cd : Nat) (hok : descOk ds = true) (i : Nat) (hi : i < ds.length) (hk : ds[i].kind = 3) (wb : World) (p : Nat) (A : Option Addr) (l : List UInt8) (c : Nat) (hA : Bs wb A l c) (HR : ∀ j, j < i → MakeOk Ad ds cd wb p A l c j) : MakeOk Ad ds cd wb p A l c i := by
 intro m hm w hC hD
 have hplt := hC.lt
 have hbw := hC.2.1.size
 have hdl := (descOk_len hok).2
 have CBe := Lib.hid (fun n w h hn => l1Below_c n wb w p A l c hA h hn)
 have COn := Lib.hid (fun n w h hn => l1Once_c n wb w p A l c hA h hn)
 obtain ⟨g, off, hAd, hgw, hall⟩ := hD.out
 obtain ⟨Ab, cb, An, cn, At, ct, Ak, ck, hst⟩ := hall i hi
 subst hAd
 have hS := (hst w (World.grownBy.refl _ _)).1
 obtain ⟨r0, r1, r2, r3, r4, r5, r6, r7⟩ := (hst w (World.grownBy.refl _ _)).2
 have HST := Lib.hid hst; have HD := Lib.hid hD; have HC := Lib.hid hC
 have hii : (i : Int) < (ds.length : Int) := by omega
 have hi0 : (0 : Int) ≤ (i : Int) := by omega
 clear hall hst hD
 have t1 : (ds[i].kind == 1) = false := by rw [hk]; rfl
 have t3 : (ds[i].kind == 3) = true := by rw [hk]; rfl
 have t4 : (ds[i].kind == 4) = false := by rw [hk]; rfl
 have t10 : (ds[i].kind == 10) = false := by rw [hk]; rfl
 have t5 : (ds[i].kind == 5) = false := by rw [hk]; rfl
 have t6 : (ds[i].kind == 6) = false := by rw [hk]; rfl
 have t7 : (ds[i].kind == 7) = false := by rw [hk]; rfl
 have t8 : (ds[i].kind == 8) = false := by rw [hk]; rfl
 have t9 : (ds[i].kind == 9) = false := by rw [hk]; rfl
 obtain ⟨s, hs, hs64, hft⟩ := made3 hok hi hk
 have HFT := Lib.hid hft; clear hft
 have CB := fun w h => l1Bytes_c s hs64 wb w p A l c hA h
 rw [← hs] at CB
 have CB := Lib.hid CB
 clear hs
 generalize ds[i] = r at *
 obtain ⟨W0, W1, HW0, HW1, B1, B2, B3, B4, e0, x1, hs0, hs1⟩ := boxes4' w #[Value.slice (some ⟨g, off, none⟩) ds.length cd] val0 #[.string r.nm, .int .i64 r.kind, .int .i64 r.size, .bool r.little, .slice Ab r.bytes.length cb, .slice An r.names.length cn, .slice At r.tags.length ct, .slice Ak r.kids.length ck] val0 26 29 51 29
 have e01 := e0.trans x1
 have M0 : Hid (VM wb w W1 p A l c (Value.slice (some ⟨g, off, none⟩) ds.length cd) #[.string r.nm, .int .i64 r.kind, .int .i64 r.size, .bool r.little, .slice Ab r.bytes.length cb, .slice An r.names.length cn, .slice At r.tags.length ct, .slice Ak r.kids.length ck] 0 (.slice none 0 0) [] (.slice none 0 0) []) :=
  ⟨B1.ext x1, B2.ext x1, B3.ext x1, B4, OwnL.nil _ _, OwnTs.nil _ _, by simp [Far, Value.ownBlock], by simp [Value.ownBlock], HC.out.ext e01, grown_ext e01 _⟩
 have q0 : ∀ w', Ext W0 w' → _ = some (Value.slice (some ⟨g, off, none⟩) ds.length cd) := fun w' e => B1.at 0 w' e
 have k0 : ∀ w', Ext W0 w' → _ = some (Value.string r.nm) := fun w' e => B3.at 0 w' e
 have k1 : ∀ w', Ext W0 w' → _ = some (Value.int .i64 r.kind) := fun w' e => B3.at 1 w' e
 have k2 : ∀ w', Ext W0 w' → _ = some (Value.int .i64 r.size) := fun w' e => B3.at 2 w' e
 have k3 : ∀ w', Ext W0 w' → _ = some (Value.bool r.little) := fun w' e => B3.at 3 w' e
 have k4 : ∀ w', Ext W0 w' → _ = some (Value.slice Ab r.bytes.length cb) := fun w' e => B3.at 4 w' e
 have k5 : ∀ w', Ext W0 w' → _ = some (Value.slice An r.names.length cn) := fun w' e => B3.at 5 w' e
 have k6 : ∀ w', Ext W0 w' → _ = some (Value.slice At r.tags.length ct) := fun w' e => B3.at 6 w' e
 have k7 : ∀ w', Ext W0 w' → _ = some (Value.slice Ak r.kids.length ck) := fun w' e => B3.at 7 w' e
 have HWM : Hid (IntKind.i64.wrap ((m : Int) / 2) = ((m / 2 : Nat) : Int)) := by
  show _ = _
  rw [IntWalk.i64_in _ (by omega)]; omega
 have HS1 := Lib.hid hs1; have HX1 := Lib.hid x1
 clear B1 B2 B3 B4 hs0 hs1 hk
 unfold val0 at *
 go_enter Tryz.func23, Tryz.ntmps23
 go_wp2_with fail
 rw [← HW0.out, ← HW1.out]
 refine (CB.out _ M0.out.cur).mono ?_; rintro _ w3 ⟨v, bs, hbl, rfl, hO3, hn3, hC3, hg3⟩
 obtain ⟨A3, c3, hsh⟩ := Own.shape hO3
 subst hsh
 have M3 := Lib.hid (M0.out.moved hplt hC3 hg3)
 have HX := Lib.hid (HFT.out bs hbl)
 have z0 : _ = some (Value.slice none 0 0) := M3.out.box.cell 1
 have y0 := M3.out.box.free 1
 have M4 := Lib.hid (M3.out.bytes hplt hbw hO3 hn3 (by simp [Value.ownBlock]) (by have := M0.out.size; omega))
 clear M0 M3 hC3 hg3 hO3 hn3 hbl
 have m0 : _ = some (Value.int .i64 0) := M4.out.box.cell 0
 have m1 : _ = some (Value.slice A3 bs.length c3) := M4.out.box.cell 1
 have m2 : _ = some (Value.slice none 0 0) := M4.out.box.cell 2
 have f1 := M4.out.res.cell; have f2 := M4.out.res.free
 have HOUT := Lib.hid (M4.out.out hplt hbw (.int .i64 0) (Value.slice A3 bs.length c3) (Value.slice none 0 0))
 have HV := Lib.hid (HX.out)
 go_wp2_with fail
 obtain ⟨hO, hF, hN, hCc, hG⟩ := HOUT.out
 exact bodyPost_ret (v := .agg #[.int .i64 0, Value.slice A3 bs.length c3, Value.slice none 0 0]) (by simp [results, Tryz.results23, go_sem, f1, f2]) rfl ⟨.mk 0 bs (Value.slice A3 bs.length c3) [] (Value.slice none 0 0), _, _, _, _, _, _, rfl, ⟨rfl, rfl⟩, ⟨HV.out.1, HV.out.2, hO, hF, hN, hCc, hG⟩⟩
theorem l9Make9_c (Ad : Option Addr) (ds : List DRule) (cd : Nat) (hok : descOk ds = true) (i : Nat) (hi : i < ds.length) (hk : ds[i].kind = 9) (wb : World) (p : Nat) (A : Option Addr) (l : List UInt8) (c : Nat) (hA : Bs wb A l c) (HR : ∀ j, j < i → MakeOk Ad ds cd wb p A l c j) : MakeOk Ad ds cd wb p A l c i := by
 intro m hm w hC hD
 have hplt := hC.lt
 have hbw := hC.2.1.size
 have hdl := (descOk_len hok).2
 have CBe := Lib.hid (fun n w h hn => l1Below_c n wb w p A l c hA h hn)
 have COn := Lib.hid (fun n w h hn => l1Once_c n wb w p A l c hA h hn)
 obtain ⟨g, off, hAd, hgw, hall⟩ := hD.out
 obtain ⟨Ab, cb, An, cn, At, ct, Ak, ck, hst⟩ := hall i hi
 subst hAd
 have hS := (hst w (World.grownBy.refl _ _)).1
 obtain ⟨r0, r1, r2, r3, r4, r5, r6, r7⟩ := (hst w (World.grownBy.refl _ _)).2
 have HST := Lib.hid hst; have HD := Lib.hid hD; have HC := Lib.hid hC
 have hii : (i : Int) < (ds.length : Int) := by omega
 have hi0 : (0 : Int) ≤ (i : Int) := by omega
 clear hall hst hD
 have t1 : (ds[i].kind == 1) = false := by rw [hk]; rfl
 have t3 : (ds[i].kind == 3) = false := by rw [hk]; rfl
 have t4 : (ds[i].kind == 4) = false := by rw [hk]; rfl
 have t10 : (ds[i].kind == 10) = false := by rw [hk]; rfl
 have t5 : (ds[i].kind == 5) = false := by rw [hk]; rfl
 have t6 : (ds[i].kind == 6) = false := by rw [hk]; rfl
 have t7 : (ds[i].kind == 7) = false := by rw [hk]; rfl
 have t8 : (ds[i].kind == 8) = false := by rw [hk]; rfl
 have t9 : (ds[i].kind == 9) = true := by rw [hk]; rfl
 obtain ⟨hjl, hft⟩ := made9 hok hi (.inr hk)
 have hkl := (kids_len hok i hi).2.2.2.2.1 (.inr hk)
 obtain ⟨bk, ok, hAk, hbk, hcel⟩ := hS.k.at 0 (by omega)
 subst hAk
 clear hcel
 have HK : Hid (∀ w', w.grownBy w' (some p) → w'.cell? ⟨bk, ok, none⟩ = some (Value.int .i64 ((kd ds[i] 0 : Nat) : Int))) := fun w' hg => by
  have h1 := (HST.out w' hg).1.k.cellAt 0 (by omega)
  rw [kd_int hok i hi 0 (by omega)] at h1
  exact h1
 have CR : Hid (∀ w', w.grownBy w' (some p) → Cur wb w' p A l c → ∀ x : Int, x = ((m / 2 : Nat) : Int) → Calls Tryz.prog 23 #[.pointer (some ⟨p, 0, none⟩), .agg #[Value.slice (some ⟨g, off, none⟩) ds.length cd], .int .i64 ((kd ds[i] 0 : Nat) : Int), .int .i64 x] w' fun e w'' => ∃ (t : VT) (A1 : Option Addr) (n1 c1 : Nat) (A2 : Option Addr) (n2 c2 : Nat), e = .returned (.agg #[.int .i64 t.num, .slice A1 n1 c1, .slice A2 n2 c2]) ∧ Hid (t.vb = .slice A1 n1 c1 ∧ t.vi = .slice A2 n2 c2) ∧ DrawnV ds (kd ds[i] 0) wb w' w'' p A l c t) := fun w' hg hc x hx => by
  subst hx
  exact HR _ hjl (m / 2) (by omega) w' hc (HD.out.mono hg)
 have HFT := Lib.hid hft
 clear hft
 generalize kd ds[i] 0 = kj at *
 have hkl0 : 0 < ds[i].kids.length := by omega
 have hkl1 : (0 : Int) < (ds[i].kids.length : Int) := by omega
 clear hkl
 generalize ds[i] = r at *
 obtain ⟨W0, W1, HW0, HW1, B1, B2, B3, B4, e0, x1, hs0, hs1⟩ := boxes4' w #[Value.slice (some ⟨g, off, none⟩) ds.length cd] val0 #[.string r.nm, .int .i64 r.kind, .int .i64 r.size, .bool r.little, .slice Ab r.bytes.length cb, .slice An r.names.length cn, .slice At r.tags.length ct, .slice (some ⟨bk, ok, none⟩) r.kids.length ck] val0 26 29 51 29
 have e01 := e0.trans x1
 have M0 : Hid (VM wb w W1 p A l c (Value.slice (some ⟨g, off, none⟩) ds.length cd) #[.string r.nm, .int .i64 r.kind, .int .i64 r.size, .bool r.little, .slice Ab r.bytes.length cb, .slice An r.names.length cn, .slice At r.tags.length ct, .slice (some ⟨bk, ok, none⟩) r.kids.length ck] 0 (.slice none 0 0) [] (.slice none 0 0) []) :=
  ⟨B1.ext x1, B2.ext x1, B3.ext x1, B4, OwnL.nil _ _, OwnTs.nil _ _, by simp [Far, Value.ownBlock], by simp [Value.ownBlock], HC.out.ext e01, grown_ext e01 _⟩
 have q0 : ∀ w', Ext W0 w' → _ = some (Value.slice (some ⟨g, off, none⟩) ds.length cd) := fun w' e => B1.at 0 w' e
 have k0 : ∀ w', Ext W0 w' → _ = some (Value.string r.nm) := fun w' e => B3.at 0 w' e
 have k1 : ∀ w', Ext W0 w' → _ = some (Value.int .i64 r.kind) := fun w' e => B3.at 1 w' e
 have k2 : ∀ w', Ext W0 w' → _ = some (Value.int .i64 r.size) := fun w' e => B3.at 2 w' e
 have k3 : ∀ w', Ext W0 w' → _ = some (Value.bool r.little) := fun w' e => B3.at 3 w' e
 have k4 : ∀ w', Ext W0 w' → _ = some (Value.slice Ab r.bytes.length cb) := fun w' e => B3.at 4 w' e
 have k5 : ∀ w', Ext W0 w' → _ = some (Value.slice An r.names.length cn) := fun w' e => B3.at 5 w' e
 have k6 : ∀ w', Ext W0 w' → _ = some (Value.slice At r.tags.length ct) := fun w' e => B3.at 6 w' e
 have k7 : ∀ w', Ext W0 w' → _ = some (Value.slice (some ⟨bk, ok, none⟩) r.kids.length ck) := fun w' e => B3.at 7 w' e
 have HWM : Hid (IntKind.i64.wrap ((m : Int) / 2) = ((m / 2 : Nat) : Int)) := by
  show _ = _
  rw [IntWalk.i64_in _ (by omega)]; omega
 have HS1 := Lib.hid hs1; have HX1 := Lib.hid x1
 clear B1 B2 B3 B4 hs0 hs1 hk
 unfold val0 at *
 go_enter Tryz.func23, Tryz.ntmps23
 go_wp2_with fail
 rw [← HW0.out, ← HW1.out]
 have MD := Lib.hid (M0.out.ext hplt (Ext_drew (Ext.refl W1)))
 have HAB : lv2 (fun w' => w'.cell? ⟨w.heap.size, 0, none⟩ = some (Value.slice (some ⟨g, off, none⟩) ds.length cd) ∧ w'.cell? ⟨w.heap.size + 1 + 1, 7, none⟩ = some (Value.slice (some ⟨bk, ok, none⟩) r.kids.length ck) ∧ w'.cell? ⟨bk, ok, none⟩ = some (Value.int .i64 (kj : Int))) (fun _ => True) 1 (W1).drew := ⟨MD.out.db.cell 0, MD.out.rb.cell 7, HK.out _ MD.out.grow⟩
 clear M0
 refine wp_region_C (C := fun j => lv2 (fun w' => w'.cell? ⟨w.heap.size, 0, none⟩ = some (Value.slice (some ⟨g, off, none⟩) ds.length cd) ∧ w'.cell? ⟨w.heap.size + 1 + 1, 7, none⟩ = some (Value.slice (some ⟨bk, ok, none⟩) r.kids.length ck) ∧ w'.cell? ⟨bk, ok, none⟩ = some (Value.int .i64 (kj : Int))) (fun _ => True) (([0, 1, 0, 1, 0, 1, 0, 0, 0, 0, 0, 0] : List Nat).getD j 0)) (by kernel_rfl) ?_
 refine tkC 0 (i := 0) (v := ?_) rfl (by kernel_rfl) trivial (Or.inl ⟨by rfl, ?_⟩) ?_
 rotate_left
 ·(intro w9 hSw; clear hSw; go_simp; try with_reducible rfl)
 try simp only [Act.put, lpa, lpz, lps]
 refine tkC 0 (i := 2) (v := ?_) rfl (by kernel_rfl) trivial (Or.inl ⟨by rfl, ?_⟩) ?_
 rotate_left
 ·(intro w9 hSw; clear hSw; go_simp; try with_reducible rfl)
 try simp only [Act.put, lpa, lpz, lps]
 refine tkC 0 (i := 6) (v := ?_) rfl (by kernel_rfl) trivial (Or.inl ⟨by rfl, ?_⟩) ?_
 rotate_left
 ·(intro w9 hSw; clear hSw; go_simp; try with_reducible rfl)
 try simp only [Act.put, lpa, lpz, lps]
 refine tkC 0 (i := 7) (v := ?_) rfl (by kernel_rfl) trivial (Or.inl ⟨by rfl, ?_⟩) ?_
 rotate_left
 ·(intro w9 hSw; clear hSw; go_simp; try with_reducible rfl)
 try simp only [Act.put, lpa, lpz, lps]
 refine tkC 1 (i := 3) (v := ?_) rfl (by kernel_rfl) HAB (Or.inl ⟨by rfl, ?_⟩) ?_
 rotate_left
 ·(intro w9 hSw; have hfact : w9.cell? ⟨w.heap.size + 1 + 1, 7, none⟩ = some (Value.slice (some ⟨bk, ok, none⟩) r.kids.length ck) := hSw.2.1; clear hSw; go_simp; try with_reducible rfl)
 try simp only [Act.put, lpa, lpz, lps]
 refine tkC 0 (i := 4) (v := ?_) rfl (by kernel_rfl) trivial (Or.inl ⟨by rfl, ?_⟩) ?_
 rotate_left
 ·(intro w9 hSw; clear hSw; go_simp; try with_reducible rfl)
 try simp only [Act.put, lpa, lpz, lps]
 refine tkC 1 (i := 1) (v := ?_) rfl (by kernel_rfl) HAB (Or.inl ⟨by rfl, ?_⟩) ?_
 rotate_left
 ·(intro w9 hSw; have hfact : w9.cell? ⟨w.heap.size, 0, none⟩ = some (Value.slice (some ⟨g, off, none⟩) ds.length cd) := hSw.1; clear hSw; go_simp; try with_reducible rfl)
 try simp only [Act.put, lpa, lpz, lps]
 refine tkC 1 (i := 5) (v := ?_) rfl (by kernel_rfl) HAB (Or.inl ⟨by rfl, ?_⟩) ?_
 rotate_left
 ·(intro w9 hSw; have hfact : w9.cell? ⟨bk, ok, none⟩ = some (Value.int .i64 (kj : Int)) := hSw.2.2; clear hSw; go_simp; try with_reducible rfl)
 try simp only [Act.put, lpa, lpz, lps]
 refine wpAnyC_one (i := 8) (by kernel_rfl) rfl (fun K hK => ?_)
 go_simp
 go_at_call 23
 refine (CR.out _ MD.out.grow MD.out.cur _ (by first | exact HWM.out | omega)).mono ?_
 rintro _ w6 ⟨t, A1, n1, c1, A2, n2, c2, rfl, hsh, hdv⟩
 have hsz6 := hdv.grow.size
 have M6 := MD.out.moved hplt hdv.cur hdv.grow
 have z2 : _ = some (Value.slice none 0 0) := (M6.ext hplt (Ext_alloc (.cells #[.int .i64 t.num, .slice A1 n1 c1, .slice A2 n2 c2] 29) (Ext.refl w6))).box.cell 2
 have y2 := (M6.ext hplt (Ext_alloc (.cells #[.int .i64 t.num, .slice A1 n1 c1, .slice A2 n2 c2] 29) (Ext.refl w6))).box.free 2
 have hms := M6.size
 have M7 := M6.single hplt hbw hdv.own hdv.far hdv.new (by simp [Value.ownBlock]) (by have := MD.out.size; omega) (cs := #[.int .i64 t.num, .slice A1 n1 c1, .slice A2 n2 c2]) (by unfold VT.cells; rw [hsh.out.1, hsh.out.2])
 have M7 := Lib.hid M7
 have HFT' := Lib.hid (HFT.out t.val ⟨hdv.valid, hdv.sz⟩)
 clear hdv M6
 refine Shut.out hK _ _ trivial ?_
 try simp only [Act.put, lpa, lpz, lps]
 refine wpAnyC_one (i := 9) (by kernel_rfl) rfl (fun K hK => ?_)
 go_simp
 refine Shut.out hK _ _ trivial ?_
 try simp only [Act.put, lpa, lpz, lps]
 refine wpAnyC_one (i := 10) (by kernel_rfl) rfl (fun K hK => ?_)
 go_simp
 refine Shut.out hK _ _ trivial ?_
 try simp only [Act.put, lpa, lpz, lps]
 refine wpAnyC_one (i := 11) (by kernel_rfl) rfl (fun K hK => ?_)
 go_simp
 refine Shut.out hK _ _ trivial ?_
 try simp only [Act.put, lpa, lpz, lps]
 refine wpAnyC_done (by kernel_rfl) ?_ _
 clear HAB
 have m0 : _ = some (Value.int .i64 0) := M7.out.box.cell 0
 have m1 : _ = some (Value.slice none 0 0) := M7.out.box.cell 1
 have m2 : _ = some (Value.slice (some ⟨w6.heap.size, 0, none⟩) 1 1) := M7.out.box.cell 2
 have f1 := M7.out.res.cell; have f2 := M7.out.res.free
 have HOUT := Lib.hid (M7.out.out hplt hbw (.int .i64 0) (Value.slice none 0 0) (Value.slice (some ⟨w6.heap.size, 0, none⟩) 1 1))
 have HV := Lib.hid (HFT'.out)
 go_wp2_with fail
 obtain ⟨hO, hF, hN, hCc, hG⟩ := HOUT.out
 exact bodyPost_ret (v := .agg #[.int .i64 0, Value.slice none 0 0, Value.slice (some ⟨w6.heap.size, 0, none⟩) 1 1]) (by simp [results, Tryz.results23, go_sem, f1, f2]) rfl ⟨VT.mk 0 [] (Value.slice none 0 0) [t] (Value.slice (some ⟨w6.heap.size, 0, none⟩) 1 1), _, _, _, _, _, _, rfl, ⟨rfl, rfl⟩, ⟨HV.out.1, HV.out.2, hO, hF, hN, hCc, hG⟩⟩
theorem l9Make8_c (Ad : Option Addr) (ds : List DRule) (cd : Nat) (hok : descOk ds = true) (i : Nat) (hi : i < ds.length) (hk : ds[i].kind = 8) (wb : World) (p : Nat) (A : Option Addr) (l : List UInt8) (c : Nat) (hA : Bs wb A l c) (HR : ∀ j, j < i → MakeOk Ad ds cd wb p A l c j) : MakeOk Ad ds cd wb p A l c i := by
 intro m hm w hC hD
 have hplt := hC.lt
 have hbw := hC.2.1.size
 have hdl := (descOk_len hok).2
 have CBe := Lib.hid (fun n w h hn => l1Below_c n wb w p A l c hA h hn)
 have COn := Lib.hid (fun n w h hn => l1Once_c n wb w p A l c hA h hn)
 obtain ⟨g, off, hAd, hgw, hall⟩ := hD.out
 obtain ⟨Ab, cb, An, cn, At, ct, Ak, ck, hst⟩ := hall i hi
 subst hAd
 have hS := (hst w (World.grownBy.refl _ _)).1
 obtain ⟨r0, r1, r2, r3, r4, r5, r6, r7⟩ := (hst w (World.grownBy.refl _ _)).2
 have HST := Lib.hid hst; have HD := Lib.hid hD; have HC := Lib.hid hC
 have hii : (i : Int) < (ds.length : Int) := by omega
 have hi0 : (0 : Int) ≤ (i : Int) := by omega
 clear hall hst hD
 have t1 : (ds[i].kind == 1) = false := by rw [hk]; rfl
 have t3 : (ds[i].kind == 3) = false := by rw [hk]; rfl
 have t4 : (ds[i].kind == 4) = false := by rw [hk]; rfl
 have t10 : (ds[i].kind == 10) = false := by rw [hk]; rfl
 have t5 : (ds[i].kind == 5) = false := by rw [hk]; rfl
 have t6 : (ds[i].kind == 6) = false := by rw [hk]; rfl
 have t7 : (ds[i].kind == 7) = false := by rw [hk]; rfl
 have t8 : (ds[i].kind == 8) = true := by rw [hk]; rfl
 have t9 : (ds[i].kind == 9) = false := by rw [hk]; rfl
 obtain ⟨hjl, hft⟩ := made9 hok hi (.inl hk)
 have hkl := (kids_len hok i hi).2.2.2.2.1 (.inl hk)
 obtain ⟨bk, ok, hAk, hbk, hcel⟩ := hS.k.at 0 (by omega)
 subst hAk
 clear hcel
 have HK : Hid (∀ w', w.grownBy w' (some p) → w'.cell? ⟨bk, ok, none⟩ = some (Value.int .i64 ((kd ds[i] 0 : Nat) : Int))) := fun w' hg => by
  have h1 := (HST.out w' hg).1.k.cellAt 0 (by omega)
  rw [kd_int hok i hi 0 (by omega)] at h1
  exact h1
 have CR : Hid (∀ w', w.grownBy w' (some p) → Cur wb w' p A l c → ∀ x : Int, x = ((m / 2 : Nat) : Int) → Calls Tryz.prog 23 #[.pointer (some ⟨p, 0, none⟩), .agg #[Value.slice (some ⟨g, off, none⟩) ds.length cd], .int .i64 ((kd ds[i] 0 : Nat) : Int), .int .i64 x] w' fun e w'' => ∃ (t : VT) (A1 : Option Addr) (n1 c1 : Nat) (A2 : Option Addr) (n2 c2 : Nat), e = .returned (.agg #[.int .i64 t.num, .slice A1 n1 c1, .slice A2 n2 c2]) ∧ Hid (t.vb = .slice A1 n1 c1 ∧ t.vi = .slice A2 n2 c2) ∧ DrawnV ds (kd ds[i] 0) wb w' w'' p A l c t) := fun w' hg hc x hx => by
  subst hx
  exact HR _ hjl (m / 2) (by omega) w' hc (HD.out.mono hg)
 have HFT := Lib.hid hft
 clear hft
 generalize kd ds[i] 0 = kj at *
 have hkl0 : 0 < ds[i].kids.length := by omega
 have hkl1 : (0 : Int) < (ds[i].kids.length : Int) := by omega
 clear hkl
 have HF0 : Hid (FitV ds i (.mk 0 [] [])) := made8n hi hk
 generalize ds[i] = r at *
 obtain ⟨W0, W1, HW0, HW1, B1, B2, B3, B4, e0, x1, hs0, hs1⟩ := boxes4' w #[Value.slice (some ⟨g, off, none⟩) ds.length cd] val0 #[.string r.nm, .int .i64 r.kind, .int .i64 r.size, .bool r.little, .slice Ab r.bytes.length cb, .slice An r.names.length cn, .slice At r.tags.length ct, .slice (some ⟨bk, ok, none⟩) r.kids.length ck] val0 26 29 51 29
 have e01 := e0.trans x1
 have M0 : Hid (VM wb w W1 p A l c (Value.slice (some ⟨g, off, none⟩) ds.length cd) #[.string r.nm, .int .i64 r.kind, .int .i64 r.size, .bool r.little, .slice Ab r.bytes.length cb, .slice An r.names.length cn, .slice At r.tags.length ct, .slice (some ⟨bk, ok, none⟩) r.kids.length ck] 0 (.slice none 0 0) [] (.slice none 0 0) []) :=
  ⟨B1.ext x1, B2.ext x1, B3.ext x1, B4, OwnL.nil _ _, OwnTs.nil _ _, by simp [Far, Value.ownBlock], by simp [Value.ownBlock], HC.out.ext e01, grown_ext e01 _⟩
 have q0 : ∀ w', Ext W0 w' → _ = some (Value.slice (some ⟨g, off, none⟩) ds.length cd) := fun w' e => B1.at 0 w' e
 have k0 : ∀ w', Ext W0 w' → _ = some (Value.string r.nm) := fun w' e => B3.at 0 w' e
 have k1 : ∀ w', Ext W0 w' → _ = some (Value.int .i64 r.kind) := fun w' e => B3.at 1 w' e
 have k2 : ∀ w', Ext W0 w' → _ = some (Value.int .i64 r.size) := fun w' e => B3.at 2 w' e
 have k3 : ∀ w', Ext W0 w' → _ = some (Value.bool r.little) := fun w' e => B3.at 3 w' e
 have k4 : ∀ w', Ext W0 w' → _ = some (Value.slice Ab r.bytes.length cb) := fun w' e => B3.at 4 w' e
 have k5 : ∀ w', Ext W0 w' → _ = some (Value.slice An r.names.length cn) := fun w' e => B3.at 5 w' e
 have k6 : ∀ w', Ext W0 w' → _ = some (Value.slice At r.tags.length ct) := fun w' e => B3.at 6 w' e
 have k7 : ∀ w', Ext W0 w' → _ = some (Value.slice (some ⟨bk, ok, none⟩) r.kids.length ck) := fun w' e => B3.at 7 w' e
 have HWM : Hid (IntKind.i64.wrap ((m : Int) / 2) = ((m / 2 : Nat) : Int)) := by
  show _ = _
  rw [IntWalk.i64_in _ (by omega)]; omega
 have HS1 := Lib.hid hs1; have HX1 := Lib.hid x1
 clear B1 B2 B3 B4 hs0 hs1 hk
 unfold val0 at *
 go_enter Tryz.func23, Tryz.ntmps23
 go_wp2_with fail
 rw [← HW0.out, ← HW1.out]
 refine (COn.out 2 _ M0.out.cur (by omega)).mono ?_; rintro _ w1 ⟨b, rfl, hC1, hg1⟩
 have M1 := Lib.hid (M0.out.moved hplt hC1 hg1)
 clear M0 hC1 hg1
 cases b with
 | false =>
  have m0 : _ = some (Value.int .i64 0) := M1.out.box.cell 0
  have m1 : _ = some (Value.slice none 0 0) := M1.out.box.cell 1
  have m2 : _ = some (Value.slice none 0 0) := M1.out.box.cell 2
  have f1 := M1.out.res.cell; have f2 := M1.out.res.free
  have HOUT := Lib.hid (M1.out.out hplt hbw (.int .i64 0) (Value.slice none 0 0) (Value.slice none 0 0))
  have HV := Lib.hid (HF0.out)
  go_wp2_with fail
  obtain ⟨hO, hF, hN, hCc, hG⟩ := HOUT.out
  exact bodyPost_ret (v := .agg #[.int .i64 0, Value.slice none 0 0, Value.slice none 0 0]) (by simp [results, Tryz.results23, go_sem, f1, f2]) rfl ⟨.mk 0 [] (Value.slice none 0 0) [] (Value.slice none 0 0), _, _, _, _, _, _, rfl, ⟨rfl, rfl⟩, ⟨HV.out.1, HV.out.2, hO, hF, hN, hCc, hG⟩⟩
 | true =>
  go_wp2_with fail
  have MD := Lib.hid (M1.out.ext hplt (Ext_drew (Ext.refl w1)))
  have HAB : lv2 (fun w' => w'.cell? ⟨w.heap.size, 0, none⟩ = some (Value.slice (some ⟨g, off, none⟩) ds.length cd) ∧ w'.cell? ⟨w.heap.size + 1 + 1, 7, none⟩ = some (Value.slice (some ⟨bk, ok, none⟩) r.kids.length ck) ∧ w'.cell? ⟨bk, ok, none⟩ = some (Value.int .i64 (kj : Int))) (fun _ => True) 1 (w1).drew := ⟨MD.out.db.cell 0, MD.out.rb.cell 7, HK.out _ MD.out.grow⟩
  clear M1
  refine wp_region_C (C := fun j => lv2 (fun w' => w'.cell? ⟨w.heap.size, 0, none⟩ = some (Value.slice (some ⟨g, off, none⟩) ds.length cd) ∧ w'.cell? ⟨w.heap.size + 1 + 1, 7, none⟩ = some (Value.slice (some ⟨bk, ok, none⟩) r.kids.length ck) ∧ w'.cell? ⟨bk, ok, none⟩ = some (Value.int .i64 (kj : Int))) (fun _ => True) (([0, 1, 0, 1, 0, 1, 0, 0, 0, 0, 0, 0] : List Nat).getD j 0)) (by kernel_rfl) ?_
  refine tkC 0 (i := 0) (v := ?_) rfl (by kernel_rfl) trivial (Or.inl ⟨by rfl, ?_⟩) ?_
  rotate_left
  ·(intro w9 hSw; clear hSw; go_simp; try with_reducible rfl)
  try simp only [Act.put, lpa, lpz, lps]
  refine tkC 0 (i := 2) (v := ?_) rfl (by kernel_rfl) trivial (Or.inl ⟨by rfl, ?_⟩) ?_
  rotate_left
  ·(intro w9 hSw; clear hSw; go_simp; try with_reducible rfl)
  try simp only [Act.put, lpa, lpz, lps]
  refine tkC 0 (i := 6) (v := ?_) rfl (by kernel_rfl) trivial (Or.inl ⟨by rfl, ?_⟩) ?_
  rotate_left
  ·(intro w9 hSw; clear hSw; go_simp; try with_reducible rfl)
  try simp only [Act.put, lpa, lpz, lps]
  refine tkC 0 (i := 7) (v := ?_) rfl (by kernel_rfl) trivial (Or.inl ⟨by rfl, ?_⟩) ?_
  rotate_left
  ·(intro w9 hSw; clear hSw; go_simp; try with_reducible rfl)
  try simp only [Act.put, lpa, lpz, lps]
  refine tkC 1 (i := 3) (v := ?_) rfl (by kernel_rfl) HAB (Or.inl ⟨by rfl, ?_⟩) ?_
  rotate_left
  ·(intro w9 hSw; have hfact : w9.cell? ⟨w.heap.size + 1 + 1, 7, none⟩ = some (Value.slice (some ⟨bk, ok, none⟩) r.kids.length ck) := hSw.2.1; clear hSw; go_simp; try with_reducible rfl)
  try simp only [Act.put, lpa, lpz, lps]
  refine tkC 0 (i := 4) (v := ?_) rfl (by kernel_rfl) trivial (Or.inl ⟨by rfl, ?_⟩) ?_
  rotate_left
  ·(intro w9 hSw; clear hSw; go_simp; try with_reducible rfl)
  try simp only [Act.put, lpa, lpz, lps]
  refine tkC 1 (i := 1) (v := ?_) rfl (by kernel_rfl) HAB (Or.inl ⟨by rfl, ?_⟩) ?_
  rotate_left
  ·(intro w9 hSw; have hfact : w9.cell? ⟨w.heap.size, 0, none⟩ = some (Value.slice (some ⟨g, off, none⟩) ds.length cd) := hSw.1; clear hSw; go_simp; try with_reducible rfl)
  try simp only [Act.put, lpa, lpz, lps]
  refine tkC 1 (i := 5) (v := ?_) rfl (by kernel_rfl) HAB (Or.inl ⟨by rfl, ?_⟩) ?_
  rotate_left
  ·(intro w9 hSw; have hfact : w9.cell? ⟨bk, ok, none⟩ = some (Value.int .i64 (kj : Int)) := hSw.2.2; clear hSw; go_simp; try with_reducible rfl)
  try simp only [Act.put, lpa, lpz, lps]
  refine wpAnyC_one (i := 8) (by kernel_rfl) rfl (fun K hK => ?_)
  go_simp
  go_at_call 23
  refine (CR.out _ MD.out.grow MD.out.cur _ (by first | exact HWM.out | omega)).mono ?_
  rintro _ w6 ⟨t, A1, n1, c1, A2, n2, c2, rfl, hsh, hdv⟩
  have hsz6 := hdv.grow.size
  have M6 := MD.out.moved hplt hdv.cur hdv.grow
  have z2 : _ = some (Value.slice none 0 0) := (M6.ext hplt (Ext_alloc (.cells #[.int .i64 t.num, .slice A1 n1 c1, .slice A2 n2 c2] 29) (Ext.refl w6))).box.cell 2
  have y2 := (M6.ext hplt (Ext_alloc (.cells #[.int .i64 t.num, .slice A1 n1 c1, .slice A2 n2 c2] 29) (Ext.refl w6))).box.free 2
  have hms := M6.size
  have M7 := M6.single hplt hbw hdv.own hdv.far hdv.new (by simp [Value.ownBlock]) (by have := MD.out.size; omega) (cs := #[.int .i64 t.num, .slice A1 n1 c1, .slice A2 n2 c2]) (by unfold VT.cells; rw [hsh.out.1, hsh.out.2])
  have M7 := Lib.hid M7
  have HFT' := Lib.hid (HFT.out t.val ⟨hdv.valid, hdv.sz⟩)
  clear hdv M6
  refine Shut.out hK _ _ trivial ?_
  try simp only [Act.put, lpa, lpz, lps]
  refine wpAnyC_one (i := 9) (by kernel_rfl) rfl (fun K hK => ?_)
  go_simp
  refine Shut.out hK _ _ trivial ?_
  try simp only [Act.put, lpa, lpz, lps]
  refine wpAnyC_one (i := 10) (by kernel_rfl) rfl (fun K hK => ?_)
  go_simp
  refine Shut.out hK _ _ trivial ?_
  try simp only [Act.put, lpa, lpz, lps]
  refine wpAnyC_one (i := 11) (by kernel_rfl) rfl (fun K hK => ?_)
  go_simp
  refine Shut.out hK _ _ trivial ?_
  try simp only [Act.put, lpa, lpz, lps]
  refine wpAnyC_done (by kernel_rfl) ?_ _
  clear HAB
  have m0 : _ = some (Value.int .i64 0) := M7.out.box.cell 0
  have m1 : _ = some (Value.slice none 0 0) := M7.out.box.cell 1
  have m2 : _ = some (Value.slice (some ⟨w6.heap.size, 0, none⟩) 1 1) := M7.out.box.cell 2
  have f1 := M7.out.res.cell; have f2 := M7.out.res.free
  have HOUT := Lib.hid (M7.out.out hplt hbw (.int .i64 0) (Value.slice none 0 0) (Value.slice (some ⟨w6.heap.size, 0, none⟩) 1 1))
  have HV := Lib.hid (HFT'.out)
  go_wp2_with fail
  obtain ⟨hO, hF, hN, hCc, hG⟩ := HOUT.out
  exact bodyPost_ret (v := .agg #[.int .i64 0, Value.slice none 0 0, Value.slice (some ⟨w6.heap.size, 0, none⟩) 1 1]) (by simp [results, Tryz.results23, go_sem, f1, f2]) rfl ⟨VT.mk 0 [] (Value.slice none 0 0) [t] (Value.slice (some ⟨w6.heap.size, 0, none⟩) 1 1), _, _, _, _, _, _, rfl, ⟨rfl, rfl⟩, ⟨HV.out.1, HV.out.2, hO, hF, hN, hCc, hG⟩⟩
theorem l9Make7_c (Ad : Option Addr) (ds : List DRule) (cd : Nat) (hok : descOk ds = true) (i : Nat) (hi : i < ds.length) (hk : ds[i].kind = 7) (wb : World) (p : Nat) (A : Option Addr) (l : List UInt8) (c : Nat) (hA : Bs wb A l c) (HR : ∀ j, j < i → MakeOk Ad ds cd wb p A l c j) : MakeOk Ad ds cd wb p A l c i := by
 intro m hm w hC hD
 have hplt := hC.lt
 have hbw := hC.2.1.size
 have hdl := (descOk_len hok).2
 have CBe := Lib.hid (fun n w h hn => l1Below_c n wb w p A l c hA h hn)
 have COn := Lib.hid (fun n w h hn => l1Once_c n wb w p A l c hA h hn)
 obtain ⟨g, off, hAd, hgw, hall⟩ := hD.out
 obtain ⟨Ab, cb, An, cn, At, ct, Ak, ck, hst⟩ := hall i hi
 subst hAd
 have hS := (hst w (World.grownBy.refl _ _)).1
 obtain ⟨r0, r1, r2, r3, r4, r5, r6, r7⟩ := (hst w (World.grownBy.refl _ _)).2
 have HST := Lib.hid hst; have HD := Lib.hid hD; have HC := Lib.hid hC
 have hii : (i : Int) < (ds.length : Int) := by omega
 have hi0 : (0 : Int) ≤ (i : Int) := by omega
 clear hall hst hD
 have t1 : (ds[i].kind == 1) = false := by rw [hk]; rfl
 have t3 : (ds[i].kind == 3) = false := by rw [hk]; rfl
 have t4 : (ds[i].kind == 4) = false := by rw [hk]; rfl
 have t10 : (ds[i].kind == 10) = false := by rw [hk]; rfl
 have t5 : (ds[i].kind == 5) = false := by rw [hk]; rfl
 have t6 : (ds[i].kind == 6) = false := by rw [hk]; rfl
 have t7 : (ds[i].kind == 7) = true := by rw [hk]; rfl
 have t8 : (ds[i].kind == 8) = false := by rw [hk]; rfl
 have t9 : (ds[i].kind == 9) = false := by rw [hk]; rfl
 have hkt := ((kids_len hok i hi).2.2.2.1 hk).1
 have htn : 0 < ds[i].tags.length ∧ ds[i].tags.length ≤ 8 := choice_tags hok hi hk
 obtain ⟨bk, ok, hAk, hbk, hcel⟩ := hS.k.at 0 (by omega)
 subst hAk
 clear hcel
 obtain ⟨bt, ot, hAt, hbt, hcel⟩ := hS.t.at 0 (by omega)
 subst hAt
 clear hcel
 have HTG : Hid (∀ x, x < ds[i].tags.length → ∃ (n : Int) (kj : Nat), kj < i ∧ (∀ w', w.grownBy w' (some p) → w'.cell? ⟨bt, ot + x, none⟩ = some (Value.int .i64 n) ∧ w'.cell? ⟨bk, ok + (x + 1), none⟩ = some (Value.int .i64 (kj : Int))) ∧ ∀ d : DVal, FitV ds kj d → FitV ds i (.mk n [] [d])) := fun x hx => by
  refine ⟨ds[i].tags[x], kd ds[i] (x + 1), kd_lt hok i hi _ (by omega), fun w' hg => ⟨(HST.out w' hg).1.t.cellAt x hx, ?_⟩, made7 hok hi hk x hx⟩
  have h1 := (HST.out w' hg).1.k.cellAt (x + 1) (by omega)
  rw [kd_int hok i hi (x + 1) (by omega)] at h1
  exact h1
 have CR0 : Hid (∀ kj, kj < i → ∀ w', w.grownBy w' (some p) → Cur wb w' p A l c → ∀ x : Int, x = ((m / 2 : Nat) : Int) → Calls Tryz.prog 23 #[.pointer (some ⟨p, 0, none⟩), .agg #[Value.slice (some ⟨g, off, none⟩) ds.length cd], .int .i64 ((kj : Nat) : Int), .int .i64 x] w' fun e w'' => ∃ (t : VT) (A1 : Option Addr) (n1 c1 : Nat) (A2 : Option Addr) (n2 c2 : Nat), e = .returned (.agg #[.int .i64 t.num, .slice A1 n1 c1, .slice A2 n2 c2]) ∧ Hid (t.vb = .slice A1 n1 c1 ∧ t.vi = .slice A2 n2 c2) ∧ DrawnV ds (kj) wb w' w'' p A l c t) := fun kj hj w' hg hc x hx => by
  subst hx
  exact HR _ hj (m / 2) (by omega) w' hc (HD.out.mono hg)
 have HKT := Lib.hid hkt
 clear hkt
 generalize ds[i] = r at *
 obtain ⟨W0, W1, HW0, HW1, B1, B2, B3, B4, e0, x1, hs0, hs1⟩ := boxes4' w #[Value.slice (some ⟨g, off, none⟩) ds.length cd] val0 #[.string r.nm, .int .i64 r.kind, .int .i64 r.size, .bool r.little, .slice Ab r.bytes.length cb, .slice An r.names.length cn, .slice (some ⟨bt, ot, none⟩) r.tags.length ct, .slice (some ⟨bk, ok, none⟩) r.kids.length ck] val0 26 29 51 29
 have e01 := e0.trans x1
 have M0 : Hid (VM wb w W1 p A l c (Value.slice (some ⟨g, off, none⟩) ds.length cd) #[.string r.nm, .int .i64 r.kind, .int .i64 r.size, .bool r.little, .slice Ab r.bytes.length cb, .slice An r.names.length cn, .slice (some ⟨bt, ot, none⟩) r.tags.length ct, .slice (some ⟨bk, ok, none⟩) r.kids.length ck] 0 (.slice none 0 0) [] (.slice none 0 0) []) :=
  ⟨B1.ext x1, B2.ext x1, B3.ext x1, B4, OwnL.nil _ _, OwnTs.nil _ _, by simp [Far, Value.ownBlock], by simp [Value.ownBlock], HC.out.ext e01, grown_ext e01 _⟩
 have q0 : ∀ w', Ext W0 w' → _ = some (Value.slice (some ⟨g, off, none⟩) ds.length cd) := fun w' e => B1.at 0 w' e
 have k0 : ∀ w', Ext W0 w' → _ = some (Value.string r.nm) := fun w' e => B3.at 0 w' e
 have k1 : ∀ w', Ext W0 w' → _ = some (Value.int .i64 r.kind) := fun w' e => B3.at 1 w' e
 have k2 : ∀ w', Ext W0 w' → _ = some (Value.int .i64 r.size) := fun w' e => B3.at 2 w' e
 have k3 : ∀ w', Ext W0 w' → _ = some (Value.bool r.little) := fun w' e => B3.at 3 w' e
 have k4 : ∀ w', Ext W0 w' → _ = some (Value.slice Ab r.bytes.length cb) := fun w' e => B3.at 4 w' e
 have k5 : ∀ w', Ext W0 w' → _ = some (Value.slice An r.names.length cn) := fun w' e => B3.at 5 w' e
 have k6 : ∀ w', Ext W0 w' → _ = some (Value.slice (some ⟨bt, ot, none⟩) r.tags.length ct) := fun w' e => B3.at 6 w' e
 have k7 : ∀ w', Ext W0 w' → _ = some (Value.slice (some ⟨bk, ok, none⟩) r.kids.length ck) := fun w' e => B3.at 7 w' e
 have HWM : Hid (IntKind.i64.wrap ((m : Int) / 2) = ((m / 2 : Nat) : Int)) := by
  show _ = _
  rw [IntWalk.i64_in _ (by omega)]; omega
 have HS1 := Lib.hid hs1; have HX1 := Lib.hid x1
 clear B1 B2 B3 B4 hs0 hs1 hk
 unfold val0 at *
 go_enter Tryz.func23, Tryz.ntmps23
 go_wp2_with fail
 rw [← HW0.out, ← HW1.out]
 refine (CBe.out _ _ M0.out.cur (by omega)).mono ?_; rintro _ w1 ⟨y, hy, rfl, hC1, hg1⟩
 have hyt : y < r.tags.length := by unfold below at hy; rw [if_neg (by omega)] at hy; omega
 obtain ⟨n, kj, hjl, htk, hft⟩ := HTG.out y hyt
 have M1 := Lib.hid (M0.out.moved hplt hC1 hg1)
 have CR := Lib.hid (CR0.out kj hjl)
 have HFT := Lib.hid hft
 have HK : Hid (∀ w', w.grownBy w' (some p) → w'.cell? ⟨bk, ok + (y + 1), none⟩ = some (Value.int .i64 (kj : Int))) := fun w' hg => (htk w' hg).2
 have tc := (htk w1 M1.out.grow).1
 have u6 : _ = some (Value.slice (some ⟨bt, ot, none⟩) r.tags.length ct) := M1.out.rb.cell 6
 have z0 : _ = some (Value.int .i64 0) := M1.out.box.cell 0
 have y0 := M1.out.box.free 0
 have hkt := HKT.out
 have hy1 : (y : Int) < (r.tags.length : Int) := by omega
 have hy2 : (y : Int) + 1 < (r.kids.length : Int) := by omega
 have hy3 : y + 1 < r.kids.length := by omega
 have hy4 : (0 : Int) ≤ (y : Int) + 1 := by omega
 have hyw : IntKind.i64.wrap ((y : Int) + 1) = (y : Int) + 1 := IntWalk.i64_in _ (by omega)
 have M2 := Lib.hid (M1.out.num hplt hbw n)
 clear M0 hC1 hg1 htk hft hy CR0 HTG hkt
 go_wp2_with fail
 have MD := Lib.hid (M2.out.ext hplt (Ext_drew (Ext.refl (w1.setCell ⟨w.heap.size + 1 + 1 + 1, 0, none⟩ (.int .i64 n)))))
 have HAB : lv2 (fun w' => w'.cell? ⟨w.heap.size, 0, none⟩ = some (Value.slice (some ⟨g, off, none⟩) ds.length cd) ∧ w'.cell? ⟨w.heap.size + 1 + 1, 7, none⟩ = some (Value.slice (some ⟨bk, ok, none⟩) r.kids.length ck) ∧ w'.cell? ⟨bk, ok + (y + 1), none⟩ = some (Value.int .i64 (kj : Int))) (fun _ => True) 1 ((w1.setCell ⟨w.heap.size + 1 + 1 + 1, 0, none⟩ (.int .i64 n))).drew := ⟨MD.out.db.cell 0, MD.out.rb.cell 7, HK.out _ MD.out.grow⟩
 clear M2
 refine wp_region_C (C := fun j => lv2 (fun w' => w'.cell? ⟨w.heap.size, 0, none⟩ = some (Value.slice (some ⟨g, off, none⟩) ds.length cd) ∧ w'.cell? ⟨w.heap.size + 1 + 1, 7, none⟩ = some (Value.slice (some ⟨bk, ok, none⟩) r.kids.length ck) ∧ w'.cell? ⟨bk, ok + (y + 1), none⟩ = some (Value.int .i64 (kj : Int))) (fun _ => True) (([0, 1, 0, 1, 0, 0, 0, 1, 0, 0, 0, 0, 0, 0] : List Nat).getD j 0)) (by kernel_rfl) ?_
 refine tkC 0 (i := 0) (v := ?_) rfl (by kernel_rfl) trivial (Or.inl ⟨by rfl, ?_⟩) ?_
 rotate_left
 ·(intro w9 hSw; clear hSw; go_simp; try with_reducible rfl)
 try simp only [Act.put, lpa, lpz, lps]
 refine tkC 0 (i := 2) (v := ?_) rfl (by kernel_rfl) trivial (Or.inl ⟨by rfl, ?_⟩) ?_
 rotate_left
 ·(intro w9 hSw; clear hSw; go_simp; try with_reducible rfl)
 try simp only [Act.put, lpa, lpz, lps]
 refine tkC 0 (i := 4) (v := ?_) rfl (by kernel_rfl) trivial (Or.inl ⟨by rfl, ?_⟩) ?_
 rotate_left
 ·(intro w9 hSw; clear hSw; go_simp; try with_reducible rfl)
 try simp only [Act.put, lpa, lpz, lps]
 refine tkC 0 (i := 5) (v := ?_) rfl (by kernel_rfl) trivial (Or.inl ⟨by rfl, ?_⟩) ?_
 rotate_left
 ·(intro w9 hSw; clear hSw; go_simp; try with_reducible rfl)
 try simp only [Act.put, lpa, lpz, lps]
 refine tkC 0 (i := 8) (v := ?_) rfl (by kernel_rfl) trivial (Or.inl ⟨by rfl, ?_⟩) ?_
 rotate_left
 ·(intro w9 hSw; clear hSw; go_simp; try with_reducible rfl)
 try simp only [Act.put, lpa, lpz, lps]
 refine tkC 0 (i := 9) (v := ?_) rfl (by kernel_rfl) trivial (Or.inl ⟨by rfl, ?_⟩) ?_
 rotate_left
 ·(intro w9 hSw; clear hSw; go_simp; try with_reducible rfl)
 try simp only [Act.put, lpa, lpz, lps]
 refine tkC 1 (i := 3) (v := ?_) rfl (by kernel_rfl) HAB (Or.inl ⟨by rfl, ?_⟩) ?_
 rotate_left
 ·(intro w9 hSw; have hfact : w9.cell? ⟨w.heap.size + 1 + 1, 7, none⟩ = some (Value.slice (some ⟨bk, ok, none⟩) r.kids.length ck) := hSw.2.1; clear hSw; go_simp; try with_reducible rfl)
 try simp only [Act.put, lpa, lpz, lps]
 refine tkC 0 (i := 6) (v := ?_) rfl (by kernel_rfl) trivial (Or.inl ⟨by rfl, ?_⟩) ?_
 rotate_left
 ·(intro w9 hSw; clear hSw; go_simp; try with_reducible rfl)
 try simp only [Act.put, lpa, lpz, lps]
 refine tkC 1 (i := 1) (v := ?_) rfl (by kernel_rfl) HAB (Or.inl ⟨by rfl, ?_⟩) ?_
 rotate_left
 ·(intro w9 hSw; have hfact : w9.cell? ⟨w.heap.size, 0, none⟩ = some (Value.slice (some ⟨g, off, none⟩) ds.length cd) := hSw.1; clear hSw; go_simp; try with_reducible rfl)
 try simp only [Act.put, lpa, lpz, lps]
 refine tkC 1 (i := 7) (v := ?_) rfl (by kernel_rfl) HAB (Or.inl ⟨by rfl, ?_⟩) ?_
 rotate_left
 ·(intro w9 hSw; have hfact : w9.cell? ⟨bk, ok + (y + 1), none⟩ = some (Value.int .i64 (kj : Int)) := hSw.2.2; clear hSw; go_simp; try with_reducible rfl)
 try simp only [Act.put, lpa, lpz, lps]
 refine wpAnyC_one (i := 10) (by kernel_rfl) rfl (fun K hK => ?_)
 go_simp
 go_at_call 23
 refine (CR.out _ MD.out.grow MD.out.cur _ (by first | exact HWM.out | omega)).mono ?_
 rintro _ w6 ⟨t, A1, n1, c1, A2, n2, c2, rfl, hsh, hdv⟩
 have hsz6 := hdv.grow.size
 have M6 := MD.out.moved hplt hdv.cur hdv.grow
 have z2 : _ = some (Value.slice none 0 0) := (M6.ext hplt (Ext_alloc (.cells #[.int .i64 t.num, .slice A1 n1 c1, .slice A2 n2 c2] 29) (Ext.refl w6))).box.cell 2
 have y2 := (M6.ext hplt (Ext_alloc (.cells #[.int .i64 t.num, .slice A1 n1 c1, .slice A2 n2 c2] 29) (Ext.refl w6))).box.free 2
 have hms := M6.size
 have M7 := M6.single hplt hbw hdv.own hdv.far hdv.new (by simp [Value.ownBlock]) (by have := MD.out.size; omega) (cs := #[.int .i64 t.num, .slice A1 n1 c1, .slice A2 n2 c2]) (by unfold VT.cells; rw [hsh.out.1, hsh.out.2])
 have M7 := Lib.hid M7
 have HFT' := Lib.hid (HFT.out t.val ⟨hdv.valid, hdv.sz⟩)
 clear hdv M6
 refine Shut.out hK _ _ trivial ?_
 try simp only [Act.put, lpa, lpz, lps]
 refine wpAnyC_one (i := 11) (by kernel_rfl) rfl (fun K hK => ?_)
 go_simp
 refine Shut.out hK _ _ trivial ?_
 try simp only [Act.put, lpa, lpz, lps]
 refine wpAnyC_one (i := 12) (by kernel_rfl) rfl (fun K hK => ?_)
 go_simp
 refine Shut.out hK _ _ trivial ?_
 try simp only [Act.put, lpa, lpz, lps]
 refine wpAnyC_one (i := 13) (by kernel_rfl) rfl (fun K hK => ?_)
 go_simp
 refine Shut.out hK _ _ trivial ?_
 try simp only [Act.put, lpa, lpz, lps]
 refine wpAnyC_done (by kernel_rfl) ?_ _
 clear HAB
 have m0 : _ = some (Value.int .i64 n) := M7.out.box.cell 0
 have m1 : _ = some (Value.slice none 0 0) := M7.out.box.cell 1
 have m2 : _ = some (Value.slice (some ⟨w6.heap.size, 0, none⟩) 1 1) := M7.out.box.cell 2
 have f1 := M7.out.res.cell; have f2 := M7.out.res.free
 have HOUT := Lib.hid (M7.out.out hplt hbw (.int .i64 n) (Value.slice none 0 0) (Value.slice (some ⟨w6.heap.size, 0, none⟩) 1 1))
 have HV := Lib.hid (HFT'.out)
 go_wp2_with fail
 obtain ⟨hO, hF, hN, hCc, hG⟩ := HOUT.out
 exact bodyPost_ret (v := .agg #[.int .i64 n, Value.slice none 0 0, Value.slice (some ⟨w6.heap.size, 0, none⟩) 1 1]) (by simp [results, Tryz.results23, go_sem, f1, f2]) rfl ⟨VT.mk n [] (Value.slice none 0 0) [t] (Value.slice (some ⟨w6.heap.size, 0, none⟩) 1 1), _, _, _, _, _, _, rfl, ⟨rfl, rfl⟩, ⟨HV.out.1, HV.out.2, hO, hF, hN, hCc, hG⟩⟩
theorem l9Make4_c (Ad : Option Addr) (ds : List DRule) (cd : Nat) (hok : descOk ds = true) (i : Nat) (hi : i < ds.length) (hk : ds[i].kind = 4) (wb : World) (p : Nat) (A : Option Addr) (l : List UInt8) (c : Nat) (hA : Bs wb A l c) (HR : ∀ j, j < i → MakeOk Ad ds cd wb p A l c j) : MakeOk Ad ds cd wb p A l c i := by
 intro m hm w hC hD
 have hplt := hC.lt
 have hbw := hC.2.1.size
 have hdl := (descOk_len hok).2
 have CBe := Lib.hid (fun n w h hn => l1Below_c n wb w p A l c hA h hn)
 have COn := Lib.hid (fun n w h hn => l1Once_c n wb w p A l c hA h hn)
 obtain ⟨g, off, hAd, hgw, hall⟩ := hD.out
 obtain ⟨Ab, cb, An, cn, At, ct, Ak, ck, hst⟩ := hall i hi
 subst hAd
 have hS := (hst w (World.grownBy.refl _ _)).1
 obtain ⟨r0, r1, r2, r3, r4, r5, r6, r7⟩ := (hst w (World.grownBy.refl _ _)).2
 have HST := Lib.hid hst; have HD := Lib.hid hD; have HC := Lib.hid hC
 have hii : (i : Int) < (ds.length : Int) := by omega
 have hi0 : (0 : Int) ≤ (i : Int) := by omega
 clear hall hst hD
 have t1 : (ds[i].kind == 1) = false := by rw [hk]; rfl
 have t3 : (ds[i].kind == 3) = false := by rw [hk]; rfl
 have t4 : (ds[i].kind == 4) = true := by rw [hk]; rfl
 have t10 : (ds[i].kind == 10) = false := by rw [hk]; rfl
 have t5 : (ds[i].kind == 5) = false := by rw [hk]; rfl
 have t6 : (ds[i].kind == 6) = false := by rw [hk]; rfl
 have t7 : (ds[i].kind == 7) = false := by rw [hk]; rfl
 have t8 : (ds[i].kind == 8) = false := by rw [hk]; rfl
 have t9 : (ds[i].kind == 9) = false := by rw [hk]; rfl
 have HFT : Hid (∀ b : List UInt8, b.length ≤ 6 → FitV ds i (.mk 0 b [])) := made4 hok hi hk
 obtain ⟨q, hq⟩ : ∃ q : Nat, q = (if m < 6 then m else 6) := ⟨_, rfl⟩
 have hq6 : q ≤ 6 := by rw [hq]; split <;> omega
 have CM : Hid (∀ w, Gives Tryz.prog 47 #[.int .i64 (m : Int), .int .i64 6] w (.int .i64 (q : Int))) := fun w => by
  have h := sMin_c (m : Int) 6 w
  have e : (if (6 : Int) < (m : Int) then (6 : Int) else (m : Int)) = (q : Int) := by rw [hq]; split <;> split <;> omega
  rwa [e] at h
 clear hq
 have CB := Lib.hid (fun n (hn : n ≤ 64) w h => l1Bytes_c n hn wb w p A l c hA h)
 generalize ds[i] = r at *
 obtain ⟨W0, W1, HW0, HW1, B1, B2, B3, B4, e0, x1, hs0, hs1⟩ := boxes4' w #[Value.slice (some ⟨g, off, none⟩) ds.length cd] val0 #[.string r.nm, .int .i64 r.kind, .int .i64 r.size, .bool r.little, .slice Ab r.bytes.length cb, .slice An r.names.length cn, .slice At r.tags.length ct, .slice Ak r.kids.length ck] val0 26 29 51 29
 have e01 := e0.trans x1
 have M0 : Hid (VM wb w W1 p A l c (Value.slice (some ⟨g, off, none⟩) ds.length cd) #[.string r.nm, .int .i64 r.kind, .int .i64 r.size, .bool r.little, .slice Ab r.bytes.length cb, .slice An r.names.length cn, .slice At r.tags.length ct, .slice Ak r.kids.length ck] 0 (.slice none 0 0) [] (.slice none 0 0) []) :=
  ⟨B1.ext x1, B2.ext x1, B3.ext x1, B4, OwnL.nil _ _, OwnTs.nil _ _, by simp [Far, Value.ownBlock], by simp [Value.ownBlock], HC.out.ext e01, grown_ext e01 _⟩
 have q0 : ∀ w', Ext W0 w' → _ = some (Value.slice (some ⟨g, off, none⟩) ds.length cd) := fun w' e => B1.at 0 w' e
 have k0 : ∀ w', Ext W0 w' → _ = some (Value.string r.nm) := fun w' e => B3.at 0 w' e
 have k1 : ∀ w', Ext W0 w' → _ = some (Value.int .i64 r.kind) := fun w' e => B3.at 1 w' e
 have k2 : ∀ w', Ext W0 w' → _ = some (Value.int .i64 r.size) := fun w' e => B3.at 2 w' e
 have k3 : ∀ w', Ext W0 w' → _ = some (Value.bool r.little) := fun w' e => B3.at 3 w' e
 have k4 : ∀ w', Ext W0 w' → _ = some (Value.slice Ab r.bytes.length cb) := fun w' e => B3.at 4 w' e
 have k5 : ∀ w', Ext W0 w' → _ = some (Value.slice An r.names.length cn) := fun w' e => B3.at 5 w' e
 have k6 : ∀ w', Ext W0 w' → _ = some (Value.slice At r.tags.length ct) := fun w' e => B3.at 6 w' e
 have k7 : ∀ w', Ext W0 w' → _ = some (Value.slice Ak r.kids.length ck) := fun w' e => B3.at 7 w' e
 have HWM : Hid (IntKind.i64.wrap ((m : Int) / 2) = ((m / 2 : Nat) : Int)) := by
  show _ = _
  rw [IntWalk.i64_in _ (by omega)]; omega
 have HS1 := Lib.hid hs1; have HX1 := Lib.hid x1
 clear B1 B2 B3 B4 hs0 hs1 hk
 unfold val0 at *
 go_enter Tryz.func23, Tryz.ntmps23
 go_wp2_with fail
 rw [← HW0.out, ← HW1.out]
 refine (CM.out _).mono ?_; rintro _ w1 ⟨rfl, he1⟩
 have M1 := Lib.hid (M0.out.ext hplt he1)
 clear M0 he1
 go_wp2_with fail
 refine (CBe.out ((q : Int) + 1) _ M1.out.cur (by omega)).mono ?_; rintro _ w2 ⟨x, hx, rfl, hC2, hg2⟩
 have hx6 : x ≤ 6 := by unfold below at hx; rw [if_neg (by omega)] at hx; omega
 have M2 := Lib.hid (M1.out.moved hplt hC2 hg2)
 clear M1 hC2 hg2 hx
 go_wp2_with fail
 refine (CB.out x (by omega) _ M2.out.cur).mono ?_; rintro _ w3 ⟨v, bs, hbl, rfl, hO3, hn3, hC3, hg3⟩
 obtain ⟨A3, c3, hsh⟩ := Own.shape hO3
 subst hsh
 have M3 := Lib.hid (M2.out.moved hplt hC3 hg3)
 have z0 : _ = some (Value.slice none 0 0) := M3.out.box.cell 1
 have y0 := M3.out.box.free 1
 have M4 := Lib.hid (M3.out.bytes hplt hbw hO3 hn3 (by simp [Value.ownBlock]) (by have := M2.out.size; omega))
 have HX := Lib.hid (HFT.out bs (by omega))
 have kk : _ = some (Value.int .i64 r.kind) := M4.out.rb.cell 1
 clear M2 M3 hC3 hg3 hO3 hn3 hbl
 have m0 : _ = some (Value.int .i64 0) := M4.out.box.cell 0
 have m1 : _ = some (Value.slice A3 bs.length c3) := M4.out.box.cell 1
 have m2 : _ = some (Value.slice none 0 0) := M4.out.box.cell 2
 have f1 := M4.out.res.cell; have f2 := M4.out.res.free
 have HOUT := Lib.hid (M4.out.out hplt hbw (.int .i64 0) (Value.slice A3 bs.length c3) (Value.slice none 0 0))
 have HV := Lib.hid (HX.out)
 go_wp2_with fail
 obtain ⟨hO, hF, hN, hCc, hG⟩ := HOUT.out
 exact bodyPost_ret (v := .agg #[.int .i64 0, Value.slice A3 bs.length c3, Value.slice none 0 0]) (by simp [results, Tryz.results23, go_sem, f1, f2]) rfl ⟨.mk 0 bs (Value.slice A3 bs.length c3) [] (Value.slice none 0 0), _, _, _, _, _, _, rfl, ⟨rfl, rfl⟩, ⟨HV.out.1, HV.out.2, hO, hF, hN, hCc, hG⟩⟩
theorem l9Make10_c (Ad : Option Addr) (ds : List DRule) (cd : Nat) (hok : descOk ds = true) (i : Nat) (hi : i < ds.length) (hk : ds[i].kind = 10) (wb : World) (p : Nat) (A : Option Addr) (l : List UInt8) (c : Nat) (hA : Bs wb A l c) (HR : ∀ j, j < i → MakeOk Ad ds cd wb p A l c j) : MakeOk Ad ds cd wb p A l c i := by
 intro m hm w hC hD
 have hplt := hC.lt
 have hbw := hC.2.1.size
 have hdl := (descOk_len hok).2
 have CBe := Lib.hid (fun n w h hn => l1Below_c n wb w p A l c hA h hn)
 have COn := Lib.hid (fun n w h hn => l1Once_c n wb w p A l c hA h hn)
 obtain ⟨g, off, hAd, hgw, hall⟩ := hD.out
 obtain ⟨Ab, cb, An, cn, At, ct, Ak, ck, hst⟩ := hall i hi
 subst hAd
 have hS := (hst w (World.grownBy.refl _ _)).1
 obtain ⟨r0, r1, r2, r3, r4, r5, r6, r7⟩ := (hst w (World.grownBy.refl _ _)).2
 have HST := Lib.hid hst; have HD := Lib.hid hD; have HC := Lib.hid hC
 have hii : (i : Int) < (ds.length : Int) := by omega
 have hi0 : (0 : Int) ≤ (i : Int) := by omega
 clear hall hst hD
 have t1 : (ds[i].kind == 1) = false := by rw [hk]; rfl
 have t3 : (ds[i].kind == 3) = false := by rw [hk]; rfl
 have t4 : (ds[i].kind == 4) = false := by rw [hk]; rfl
 have t10 : (ds[i].kind == 10) = true := by rw [hk]; rfl
 have t5 : (ds[i].kind == 5) = false := by rw [hk]; rfl
 have t6 : (ds[i].kind == 6) = false := by rw [hk]; rfl
 have t7 : (ds[i].kind == 7) = false := by rw [hk]; rfl
 have t8 : (ds[i].kind == 8) = false := by rw [hk]; rfl
 have t9 : (ds[i].kind == 9) = false := by rw [hk]; rfl
 have HFT : Hid (∀ b : List UInt8, b.length ≤ 6 → FitV ds i (.mk 0 b [])) := made10 hi hk
 obtain ⟨q, hq⟩ : ∃ q : Nat, q = (if m < 6 then m else 6) := ⟨_, rfl⟩
 have hq6 : q ≤ 6 := by rw [hq]; split <;> omega
 have CM : Hid (∀ w, Gives Tryz.prog 47 #[.int .i64 (m : Int), .int .i64 6] w (.int .i64 (q : Int))) := fun w => by
  have h := sMin_c (m : Int) 6 w
  have e : (if (6 : Int) < (m : Int) then (6 : Int) else (m : Int)) = (q : Int) := by rw [hq]; split <;> split <;> omega
  rwa [e] at h
 clear hq
 have CB := Lib.hid (fun n (hn : n ≤ 64) w h => l1Bytes_c n hn wb w p A l c hA h)
 have hb1 := (term_byte hok i hi hk).2
 obtain ⟨bb, ob, hAb, hbb, hcel⟩ := hS.b.at 0 (by omega)
 subst hAb
 clear hcel
 have HBC : Hid (∃ tb : UInt8, ∀ w', w.grownBy w' (some p) → w'.cell? ⟨bb, ob, none⟩ = some (Value.int .u8 (tb.toNat : Int))) := ⟨ds[i].bytes[0]'(by omega), fun w' hg => (HST.out w' hg).1.b.cellAt 0 (by omega)⟩
 have hbl0 : 0 < ds[i].bytes.length := by omega
 have hbl1 : (0 : Int) < (ds[i].bytes.length : Int) := by omega
 clear hb1
 obtain ⟨tb, hbc⟩ := HBC.out
 replace HBC := Lib.hid hbc
 clear hbc
 generalize ds[i] = r at *
 obtain ⟨W0, W1, HW0, HW1, B1, B2, B3, B4, e0, x1, hs0, hs1⟩ := boxes4' w #[Value.slice (some ⟨g, off, none⟩) ds.length cd] val0 #[.string r.nm, .int .i64 r.kind, .int .i64 r.size, .bool r.little, .slice (some ⟨bb, ob, none⟩) r.bytes.length cb, .slice An r.names.length cn, .slice At r.tags.length ct, .slice Ak r.kids.length ck] val0 26 29 51 29
 have e01 := e0.trans x1
 have M0 : Hid (VM wb w W1 p A l c (Value.slice (some ⟨g, off, none⟩) ds.length cd) #[.string r.nm, .int .i64 r.kind, .int .i64 r.size, .bool r.little, .slice (some ⟨bb, ob, none⟩) r.bytes.length cb, .slice An r.names.length cn, .slice At r.tags.length ct, .slice Ak r.kids.length ck] 0 (.slice none 0 0) [] (.slice none 0 0) []) :=
  ⟨B1.ext x1, B2.ext x1, B3.ext x1, B4, OwnL.nil _ _, OwnTs.nil _ _, by simp [Far, Value.ownBlock], by simp [Value.ownBlock], HC.out.ext e01, grown_ext e01 _⟩
 have q0 : ∀ w', Ext W0 w' → _ = some (Value.slice (some ⟨g, off, none⟩) ds.length cd) := fun w' e => B1.at 0 w' e
 have k0 : ∀ w', Ext W0 w' → _ = some (Value.string r.nm) := fun w' e => B3.at 0 w' e
 have k1 : ∀ w', Ext W0 w' → _ = some (Value.int .i64 r.kind) := fun w' e => B3.at 1 w' e
 have k2 : ∀ w', Ext W0 w' → _ = some (Value.int .i64 r.size) := fun w' e => B3.at 2 w' e
 have k3 : ∀ w', Ext W0 w' → _ = some (Value.bool r.little) := fun w' e => B3.at 3 w' e
 have k4 : ∀ w', Ext W0 w' → _ = some (Value.slice (some ⟨bb, ob, none⟩) r.bytes.length cb) := fun w' e => B3.at 4 w' e
 have k5 : ∀ w', Ext W0 w' → _ = some (Value.slice An r.names.length cn) := fun w' e => B3.at 5 w' e
 have k6 : ∀ w', Ext W0 w' → _ = some (Value.slice At r.tags.length ct) := fun w' e => B3.at 6 w' e
 have k7 : ∀ w', Ext W0 w' → _ = some (Value.slice Ak r.kids.length ck) := fun w' e => B3.at 7 w' e
 have HWM : Hid (IntKind.i64.wrap ((m : Int) / 2) = ((m / 2 : Nat) : Int)) := by
  show _ = _
  rw [IntWalk.i64_in _ (by omega)]; omega
 have HS1 := Lib.hid hs1; have HX1 := Lib.hid x1
 clear B1 B2 B3 B4 hs0 hs1 hk
 unfold val0 at *
 go_enter Tryz.func23, Tryz.ntmps23
 go_wp2_with fail
 rw [← HW0.out, ← HW1.out]
 refine (CM.out _).mono ?_; rintro _ w1 ⟨rfl, he1⟩
 have M1 := Lib.hid (M0.out.ext hplt he1)
 clear M0 he1
 go_wp2_with fail
 refine (CBe.out ((q : Int) + 1) _ M1.out.cur (by omega)).mono ?_; rintro _ w2 ⟨x, hx, rfl, hC2, hg2⟩
 have hx6 : x ≤ 6 := by unfold below at hx; rw [if_neg (by omega)] at hx; omega
 have M2 := Lib.hid (M1.out.moved hplt hC2 hg2)
 clear M1 hC2 hg2 hx
 go_wp2_with fail
 refine (CB.out x (by omega) _ M2.out.cur).mono ?_; rintro _ w3 ⟨v, bs, hbl, rfl, hO3, hn3, hC3, hg3⟩
 obtain ⟨A3, c3, hsh⟩ := Own.shape hO3
 subst hsh
 have M3 := Lib.hid (M2.out.moved hplt hC3 hg3)
 have z0 : _ = some (Value.slice none 0 0) := M3.out.box.cell 1
 have y0 := M3.out.box.free 1
 have M4 := Lib.hid (M3.out.bytes hplt hbw hO3 hn3 (by simp [Value.ownBlock]) (by have := M2.out.size; omega))
 have kk : _ = some (Value.int .i64 r.kind) := M4.out.rb.cell 1
 have u1 : _ = some (Value.slice A3 bs.length c3) := M4.out.box.cell 1
 have hbx : bs.length ≤ 6 := by omega
 clear M2 M3 hC3 hg3 hO3 hn3 hbl
 by_cases hb0 : 0 < bs.length
 ·have hb1 : (0 : Int) < (bs.length : Int) := by omega
  go_wp2_with fail
  refine (COn.out 2 _ M4.out.cur (by omega)).mono ?_; rintro _ w5 ⟨b, rfl, hC5, hg5⟩
  have M5 := Lib.hid (M4.out.moved hplt hC5 hg5)
  clear M4 hC5 hg5 kk u1
  cases b with
  | false =>
   have HX := Lib.hid (HFT.out bs hbx)
   have m0 : _ = some (Value.int .i64 0) := M5.out.box.cell 0
   have m1 : _ = some (Value.slice A3 bs.length c3) := M5.out.box.cell 1
   have m2 : _ = some (Value.slice none 0 0) := M5.out.box.cell 2
   have f1 := M5.out.res.cell; have f2 := M5.out.res.free
   have HOUT := Lib.hid (M5.out.out hplt hbw (.int .i64 0) (Value.slice A3 bs.length c3) (Value.slice none 0 0))
   have HV := Lib.hid (HX.out)
   go_wp2_with fail
   obtain ⟨hO, hF, hN, hCc, hG⟩ := HOUT.out
   exact bodyPost_ret (v := .agg #[.int .i64 0, Value.slice A3 bs.length c3, Value.slice none 0 0]) (by simp [results, Tryz.results23, go_sem, f1, f2]) rfl ⟨.mk 0 bs (Value.slice A3 bs.length c3) [] (Value.slice none 0 0), _, _, _, _, _, _, rfl, ⟨rfl, rfl⟩, ⟨HV.out.1, HV.out.2, hO, hF, hN, hCc, hG⟩⟩
  | true =>
   obtain ⟨g3, cap3, hv3, _, _⟩ := World.ownsRow.form M5.out.own hb0
   injection hv3 with hv31 _ hv33
   subst hv31; subst hv33
   have htb : IntKind.i64.wrap (tb.toNat : Int) = (tb.toNat : Int) := IntWalk.i64_in _ (by have := tb.toNat_lt; omega)
   go_wp2_with fail
   have MD := Lib.hid (M5.out.ext hplt (Ext_drew (Ext.refl w5)))
   have HAB : lv2 (fun w' => w'.cell? ⟨w.heap.size + 1 + 1 + 1, 1, none⟩ = some (Value.slice (some ⟨g3, 0, none⟩) bs.length c3) ∧ w'.cell? ⟨w.heap.size + 1 + 1, 4, none⟩ = some (Value.slice (some ⟨bb, ob, none⟩) r.bytes.length cb) ∧ w'.cell? ⟨bb, ob, none⟩ = some (Value.int .u8 (tb.toNat : Int))) (fun _ => True) 1 w5.drew := ⟨MD.out.box.cell 1, MD.out.rb.cell 4, HBC.out _ MD.out.grow⟩
   clear M5
   refine wp_region_C (C := fun j => lv2 (fun w' => w'.cell? ⟨w.heap.size + 1 + 1 + 1, 1, none⟩ = some (Value.slice (some ⟨g3, 0, none⟩) bs.length c3) ∧ w'.cell? ⟨w.heap.size + 1 + 1, 4, none⟩ = some (Value.slice (some ⟨bb, ob, none⟩) r.bytes.length cb) ∧ w'.cell? ⟨bb, ob, none⟩ = some (Value.int .u8 (tb.toNat : Int))) (fun _ => True) (([0, 1, 0, 0, 1, 0, 1, 0, 1, 1, 1, 0, 0] : List Nat).getD j 0)) (by kernel_rfl) ?_
   refine tkC 0 (i := 0) (v := ?_) rfl (by kernel_rfl) trivial (Or.inl ⟨by rfl, ?_⟩) ?_
   rotate_left
   ·(intro w9 hSw; clear hSw; go_simp; try with_reducible rfl)
   try simp only [Act.put, lpa, lpz, lps]
   refine tkC 0 (i := 2) (v := ?_) rfl (by kernel_rfl) trivial (Or.inl ⟨by rfl, ?_⟩) ?_
   rotate_left
   ·(intro w9 hSw; clear hSw; go_simp; try with_reducible rfl)
   try simp only [Act.put, lpa, lpz, lps]
   refine tkC 0 (i := 3) (v := ?_) rfl (by kernel_rfl) trivial (Or.inl ⟨by rfl, ?_⟩) ?_
   rotate_left
   ·(intro w9 hSw; clear hSw; go_simp; try with_reducible rfl)
   try simp only [Act.put, lpa, lpz, lps]
   refine tkC 1 (i := 4) (v := ?_) rfl (by kernel_rfl) HAB (Or.inl ⟨by rfl, ?_⟩) ?_
   rotate_left
   ·(intro w9 hSw; have hfact : w9.cell? ⟨w.heap.size + 1 + 1, 4, none⟩ = some (Value.slice (some ⟨bb, ob, none⟩) r.bytes.length cb) := hSw.2.1; clear hSw; go_simp; try with_reducible rfl)
   try simp only [Act.put, lpa, lpz, lps]
   refine tkC 0 (i := 5) (v := ?_) rfl (by kernel_rfl) trivial (Or.inl ⟨by rfl, ?_⟩) ?_
   rotate_left
   ·(intro w9 hSw; clear hSw; go_simp; try with_reducible rfl)
   try simp only [Act.put, lpa, lpz, lps]
   refine tkC 1 (i := 6) (v := ?_) rfl (by kernel_rfl) HAB (Or.inl ⟨by rfl, ?_⟩) ?_
   rotate_left
   ·(intro w9 hSw; have hfact : w9.cell? ⟨bb, ob, none⟩ = some (Value.int .u8 (tb.toNat : Int)) := hSw.2.2; clear hSw; go_simp; try with_reducible rfl)
   try simp only [Act.put, lpa, lpz, lps]
   refine tkC 0 (i := 7) (v := ?_) rfl (by kernel_rfl) trivial (Or.inl ⟨by rfl, ?_⟩) ?_
   rotate_left
   ·(intro w9 hSw; clear hSw; go_simp; try with_reducible rfl)
   try simp only [Act.put, lpa, lpz, lps]
   refine tkC 1 (i := 1) (v := ?_) rfl (by kernel_rfl) HAB (Or.inl ⟨by rfl, ?_⟩) ?_
   rotate_left
   ·(intro w9 hSw; have hfact : w9.cell? ⟨w.heap.size + 1 + 1 + 1, 1, none⟩ = some (Value.slice (some ⟨g3, 0, none⟩) bs.length c3) := hSw.1; clear hSw; go_simp; try with_reducible rfl)
   try simp only [Act.put, lpa, lpz, lps]
   refine wpAnyC_one (i := 8) (by kernel_rfl) rfl (fun K hK => ?_)
   go_simp
   have M7 := Lib.hid (MD.out.ext hplt (Ext_alloc (.cells #[.int .i64 (tb.toNat : Int), .int .i64 92] 3) (Ext.refl _)))
   refine Shut.out hK _ _ ⟨M7.out.box.cell 1, M7.out.rb.cell 4, HBC.out _ M7.out.grow⟩ ?_
   try simp only [Act.put, lpa, lpz, lps]
   refine wpAnyC_one (i := 9) (by kernel_rfl) rfl (fun K hK => ?_)
   go_simp
   go_at_call 45
   refine (l1IntBox_c [(tb.toNat : Int), 92] (by simp) (by simp) 2 rfl #[.int .i64 (tb.toNat : Int), .int .i64 92] rfl wb _ p A l c hA _ M7.out.cur (by first | (refine Box.newd' _ _ _ _ ?_; first | rfl | (simp; done)) | (refine Box.new' _ _ _ _ ?_; first | rfl | (simp; done)))).mono ?_
   rintro _ w8 ⟨x, hx, rfl, hC8, hg8⟩
   have M8 := Lib.hid (M7.out.moved hplt hC8 hg8)
   obtain ⟨y, hyw⟩ : ∃ y : UInt8, IntKind.u8.wrap x = (y.toNat : Int) := (by
    simp only [List.mem_cons, List.not_mem_nil, or_false] at hx
    rcases hx with rfl | rfl
    ·exact ⟨tb, IntWalk.u8_in _ (by have := tb.toNat_lt; omega)⟩
    ·exact ⟨92, IntWalk.u8_in _ (by omega)⟩)
   obtain ⟨⟨u0, zz⟩, yy, M9⟩ := M8.out.byte0 hplt hbw hb0 y _ rfl
   have M9 := Lib.hid M9
   have HX := Lib.hid (HFT.out (bs.set 0 y) (by rw [List.length_set]; omega))
   clear hC8 hg8 hx
   refine Shut.out hK _ _ ⟨M8.out.box.cell 1, M8.out.rb.cell 4, HBC.out _ M8.out.grow⟩ ?_
   try simp only [Act.put, lpa, lpz, lps]
   refine wpAnyC_one (i := 10) (by kernel_rfl) rfl (fun K hK => ?_)
   go_simp
   refine Shut.out hK _ _ ⟨M8.out.box.cell 1, M8.out.rb.cell 4, HBC.out _ M8.out.grow⟩ ?_
   try simp only [Act.put, lpa, lpz, lps]
   refine wpAnyC_one (i := 11) (by kernel_rfl) rfl (fun K hK => ?_)
   go_simp
   refine Shut.out hK _ _ trivial ?_
   try simp only [Act.put, lpa, lpz, lps]
   refine wpAnyC_one (i := 12) (by kernel_rfl) rfl (fun K hK => ?_)
   go_simp
   refine Shut.out hK _ _ trivial ?_
   try simp only [Act.put, lpa, lpz, lps]
   refine wpAnyC_done (by kernel_rfl) ?_ _
   clear HAB MD M7 M8
   have m0 : _ = some (Value.int .i64 0) := M9.out.box.cell 0
   have m1 : _ = some (Value.slice (some ⟨g3, 0, none⟩) bs.length c3) := M9.out.box.cell 1
   have m2 : _ = some (Value.slice none 0 0) := M9.out.box.cell 2
   have f1 := M9.out.res.cell; have f2 := M9.out.res.free
   have HOUT := Lib.hid (M9.out.out hplt hbw (.int .i64 0) (Value.slice (some ⟨g3, 0, none⟩) bs.length c3) (Value.slice none 0 0))
   have HV := Lib.hid (HX.out)
   go_wp2_with fail
   obtain ⟨hO, hF, hN, hCc, hG⟩ := HOUT.out
   exact bodyPost_ret (v := .agg #[.int .i64 0, Value.slice (some ⟨g3, 0, none⟩) bs.length c3, Value.slice none 0 0]) (by simp [results, Tryz.results23, go_sem, f1, f2]) rfl ⟨.mk 0 (bs.set 0 y) (Value.slice (some ⟨g3, 0, none⟩) bs.length c3) [] (Value.slice none 0 0), _, _, _, _, _, _, rfl, ⟨rfl, rfl⟩, ⟨HV.out.1, HV.out.2, hO, hF, hN, hCc, hG⟩⟩
 ·have HX := Lib.hid (HFT.out bs hbx)
  have hb1 : ¬ (0 : Int) < (bs.length : Int) := by omega
  have m0 : _ = some (Value.int .i64 0) := M4.out.box.cell 0
  have m1 : _ = some (Value.slice A3 bs.length c3) := M4.out.box.cell 1
  have m2 : _ = some (Value.slice none 0 0) := M4.out.box.cell 2
  have f1 := M4.out.res.cell; have f2 := M4.out.res.free
  have HOUT := Lib.hid (M4.out.out hplt hbw (.int .i64 0) (Value.slice A3 bs.length c3) (Value.slice none 0 0))
  have HV := Lib.hid (HX.out)
  go_wp2_with fail
  obtain ⟨hO, hF, hN, hCc, hG⟩ := HOUT.out
  exact bodyPost_ret (v := .agg #[.int .i64 0, Value.slice A3 bs.length c3, Value.slice none 0 0]) (by simp [results, Tryz.results23, go_sem, f1, f2]) rfl ⟨.mk 0 bs (Value.slice A3 bs.length c3) [] (Value.slice none 0 0), _, _, _, _, _, _, rfl, ⟨rfl, rfl⟩, ⟨HV.out.1, HV.out.2, hO, hF, hN, hCc, hG⟩⟩
theorem l9Make6_c (Ad : Option Addr) (ds : List DRule) (cd : Nat) (hok : descOk ds = true) (i : Nat) (hi : i < ds.length) (hk : ds[i].kind = 6) (wb : World) (p : Nat) (A : Option Addr) (l : List UInt8) (c : Nat) (hA : Bs wb A l c) (HR : ∀ j, j < i → MakeOk Ad ds cd wb p A l c j) : MakeOk Ad ds cd wb p A l c i := by
 intro m hm w hC hD
 have hplt := hC.lt
 have hbw := hC.2.1.size
 have hdl := (descOk_len hok).2
 have CBe := Lib.hid (fun n w h hn => l1Below_c n wb w p A l c hA h hn)
 have COn := Lib.hid (fun n w h hn => l1Once_c n wb w p A l c hA h hn)
 obtain ⟨g, off, hAd, hgw, hall⟩ := hD.out
 obtain ⟨Ab, cb, An, cn, At, ct, Ak, ck, hst⟩ := hall i hi
 subst hAd
 have hS := (hst w (World.grownBy.refl _ _)).1
 obtain ⟨r0, r1, r2, r3, r4, r5, r6, r7⟩ := (hst w (World.grownBy.refl _ _)).2
 have HST := Lib.hid hst; have HD := Lib.hid hD; have HC := Lib.hid hC
 have hii : (i : Int) < (ds.length : Int) := by omega
 have hi0 : (0 : Int) ≤ (i : Int) := by omega
 clear hall hst hD
 have t1 : (ds[i].kind == 1) = false := by rw [hk]; rfl
 have t3 : (ds[i].kind == 3) = false := by rw [hk]; rfl
 have t4 : (ds[i].kind == 4) = false := by rw [hk]; rfl
 have t10 : (ds[i].kind == 10) = false := by rw [hk]; rfl
 have t5 : (ds[i].kind == 5) = false := by rw [hk]; rfl
 have t6 : (ds[i].kind == 6) = true := by rw [hk]; rfl
 have t7 : (ds[i].kind == 7) = false := by rw [hk]; rfl
 have t8 : (ds[i].kind == 8) = false := by rw [hk]; rfl
 have t9 : (ds[i].kind == 9) = false := by rw [hk]; rfl
 obtain ⟨hk8, hft⟩ := made6 hok hi hk
 obtain ⟨bk, ok, hAk, hbk, hcel⟩ := hS.k.at 0 (by omega)
 subst hAk
 clear hcel
 have HTK : Hid (∀ k, k < ds[i].kids.length → ∀ w', w.grownBy w' (some p) → w'.cell? ⟨bk, ok + k, none⟩ = some (Value.int .i64 ((kd ds[i] k : Nat) : Int))) := fun k hk' w' hg => by
  have h1 := (HST.out w' hg).1.k.cellAt k hk'
  rw [kd_int hok i hi k hk'] at h1
  exact h1
 have CR : Hid (∀ k, k < ds[i].kids.length → ∀ w', w.grownBy w' (some p) → Cur wb w' p A l c → ∀ x : Int, x = ((m / 2 : Nat) : Int) → Calls Tryz.prog 23 #[.pointer (some ⟨p, 0, none⟩), .agg #[Value.slice (some ⟨g, off, none⟩) ds.length cd], .int .i64 ((kd ds[i] k : Nat) : Int), .int .i64 x] w' fun e w'' => ∃ (t : VT) (A1 : Option Addr) (n1 c1 : Nat) (A2 : Option Addr) (n2 c2 : Nat), e = .returned (.agg #[.int .i64 t.num, .slice A1 n1 c1, .slice A2 n2 c2]) ∧ Hid (t.vb = .slice A1 n1 c1 ∧ t.vi = .slice A2 n2 c2) ∧ DrawnV ds (kd ds[i] k) wb w' w'' p A l c t) := fun k hk' w' hg hc x hx => by
  subst hx
  exact HR _ (kd_lt hok i hi k hk') (m / 2) (by omega) w' hc (HD.out.mono hg)
 have HFT := Lib.hid hft
 clear hft
 obtain ⟨KD, hKD⟩ : ∃ KD : Nat → Nat, KD = fun k => kd ds[i] k := ⟨_, rfl⟩
 have e : ∀ k, kd ds[i] k = KD k := fun k => by rw [hKD]
 simp only [e] at HTK CR HFT
 clear e hKD
 generalize ds[i] = r at *
 obtain ⟨W0, W1, HW0, HW1, B1, B2, B3, B4, e0, x1, hs0, hs1⟩ := boxes4' w #[Value.slice (some ⟨g, off, none⟩) ds.length cd] val0 #[.string r.nm, .int .i64 r.kind, .int .i64 r.size, .bool r.little, .slice Ab r.bytes.length cb, .slice An r.names.length cn, .slice At r.tags.length ct, .slice (some ⟨bk, ok, none⟩) r.kids.length ck] val0 26 29 51 29
 have e01 := e0.trans x1
 have M0 : Hid (VM wb w W1 p A l c (Value.slice (some ⟨g, off, none⟩) ds.length cd) #[.string r.nm, .int .i64 r.kind, .int .i64 r.size, .bool r.little, .slice Ab r.bytes.length cb, .slice An r.names.length cn, .slice At r.tags.length ct, .slice (some ⟨bk, ok, none⟩) r.kids.length ck] 0 (.slice none 0 0) [] (.slice none 0 0) []) :=
  ⟨B1.ext x1, B2.ext x1, B3.ext x1, B4, OwnL.nil _ _, OwnTs.nil _ _, by simp [Far, Value.ownBlock], by simp [Value.ownBlock], HC.out.ext e01, grown_ext e01 _⟩
 have q0 : ∀ w', Ext W0 w' → _ = some (Value.slice (some ⟨g, off, none⟩) ds.length cd) := fun w' e => B1.at 0 w' e
 have k0 : ∀ w', Ext W0 w' → _ = some (Value.string r.nm) := fun w' e => B3.at 0 w' e
 have k1 : ∀ w', Ext W0 w' → _ = some (Value.int .i64 r.kind) := fun w' e => B3.at 1 w' e
 have k2 : ∀ w', Ext W0 w' → _ = some (Value.int .i64 r.size) := fun w' e => B3.at 2 w' e
 have k3 : ∀ w', Ext W0 w' → _ = some (Value.bool r.little) := fun w' e => B3.at 3 w' e
 have k4 : ∀ w', Ext W0 w' → _ = some (Value.slice Ab r.bytes.length cb) := fun w' e => B3.at 4 w' e
 have k5 : ∀ w', Ext W0 w' → _ = some (Value.slice An r.names.length cn) := fun w' e => B3.at 5 w' e
 have k6 : ∀ w', Ext W0 w' → _ = some (Value.slice At r.tags.length ct) := fun w' e => B3.at 6 w' e
 have k7 : ∀ w', Ext W0 w' → _ = some (Value.slice (some ⟨bk, ok, none⟩) r.kids.length ck) := fun w' e => B3.at 7 w' e
 have HWM : Hid (IntKind.i64.wrap ((m : Int) / 2) = ((m / 2 : Nat) : Int)) := by
  show _ = _
  rw [IntWalk.i64_in _ (by omega)]; omega
 have HS1 := Lib.hid hs1; have HX1 := Lib.hid x1
 clear B1 B2 B3 B4 hs0 hs1 hk
 unfold val0 at *
 go_enter Tryz.func23, Tryz.ntmps23
 go_wp2
 rw [← HW0.out, ← HW1.out]
 go_loopw [12] (fun t wr => ∃ (k : Nat) (vi : Value) (ps : List VT), t = .int .i64 k ∧ (k = ps.length ∧ k ≤ r.kids.length) ∧ Hid (FitL ds (KD) (valsOf ps)) ∧ Hid (VM wb w wr p A l c (Value.slice (some ⟨g, off, none⟩) ds.length cd) #[.string r.nm, .int .i64 r.kind, .int .i64 r.size, .bool r.little, .slice Ab r.bytes.length cb, .slice An r.names.length cn, .slice At r.tags.length ct, .slice (some ⟨bk, ok, none⟩) r.kids.length ck] 0 (.slice none 0 0) [] vi ps)) (fun t _ => r.kids.length - (intOf t).toNat)
 case atStart => exact ⟨0, _, [], rfl, ⟨rfl, by omega⟩, FitL.nil _ _, M0⟩
 case round =>
  clear M0
  obtain ⟨k, vi, ps, rfl, ⟨hkp, hkl⟩, HF, M1⟩ := hrel
  subst hkp
  obtain ⟨Ai, ci, hvi⟩ := M1.out.its.shape
  subst hvi
  have u7 : _ = some (Value.slice (some ⟨bk, ok, none⟩) r.kids.length ck) := M1.out.rb.cell 7
  by_cases hlt : ps.length < r.kids.length
  ·have HKC := Lib.hid (HTK.out _ hlt)
   have HMX : Hid (ps.length + 1 ≤ maxLen ∧ (ps.length + 1) * 56 ≤ 140737488355328) := ⟨by simp only [maxLen]; omega, by omega⟩
   have hi1 : (ps.length : Int) < (r.kids.length : Int) := by omega
   go_wp2_with fail
   have MD := Lib.hid (M1.out.ext hplt (Ext_drew (Ext.refl wr)))
   have HOLD := Lib.hid MD.out.old
   have HAB : lv2 (fun w' => w'.cell? ⟨w.heap.size, 0, none⟩ = some (Value.slice (some ⟨g, off, none⟩) ds.length cd) ∧ w'.cell? ⟨w.heap.size + 1 + 1, 7, none⟩ = some (Value.slice (some ⟨bk, ok, none⟩) r.kids.length ck) ∧ w'.cell? ⟨bk, ok + ps.length, none⟩ = some (Value.int .i64 (KD ps.length : Int)) ∧ w'.cell? ⟨w.heap.size + 1 + 1 + 1, 2, none⟩ = some (Value.slice Ai ps.length ci)) (fun _ => True) 1 wr.drew := ⟨MD.out.db.cell 0, MD.out.rb.cell 7, HKC.out _ MD.out.grow, MD.out.box.cell 2⟩
   clear M1
   refine wp_region_C (C := fun j => lv2 (fun w' => w'.cell? ⟨w.heap.size, 0, none⟩ = some (Value.slice (some ⟨g, off, none⟩) ds.length cd) ∧ w'.cell? ⟨w.heap.size + 1 + 1, 7, none⟩ = some (Value.slice (some ⟨bk, ok, none⟩) r.kids.length ck) ∧ w'.cell? ⟨bk, ok + ps.length, none⟩ = some (Value.int .i64 (KD ps.length : Int)) ∧ w'.cell? ⟨w.heap.size + 1 + 1 + 1, 2, none⟩ = some (Value.slice Ai ps.length ci)) (fun _ => True) (([0, 1, 0, 1, 0, 1, 0, 0, 1, 0, 0, 1, 1, 0, 0, 0] : List Nat).getD j 0)) (by kernel_rfl) ?_
   refine tkC 0 (i := 0) (v := ?_) rfl (by kernel_rfl) trivial (Or.inl ⟨by rfl, ?_⟩) ?_
   rotate_left
   ·(intro w9 hSw; clear hSw; go_simp; try with_reducible rfl)
   try simp only [Act.put, lpa, lpz, lps]
   refine tkC 0 (i := 2) (v := ?_) rfl (by kernel_rfl) trivial (Or.inl ⟨by rfl, ?_⟩) ?_
   rotate_left
   ·(intro w9 hSw; clear hSw; go_simp; try with_reducible rfl)
   try simp only [Act.put, lpa, lpz, lps]
   refine tkC 0 (i := 4) (v := ?_) rfl (by kernel_rfl) trivial (Or.inl ⟨by rfl, ?_⟩) ?_
   rotate_left
   ·(intro w9 hSw; clear hSw; go_simp; try with_reducible rfl)
   try simp only [Act.put, lpa, lpz, lps]
   refine tkC 0 (i := 6) (v := ?_) rfl (by kernel_rfl) trivial (Or.inl ⟨by rfl, ?_⟩) ?_
   rotate_left
   ·(intro w9 hSw; clear hSw; go_simp; try with_reducible rfl)
   try simp only [Act.put, lpa, lpz, lps]
   refine tkC 0 (i := 9) (v := ?_) rfl (by kernel_rfl) trivial (Or.inl ⟨by rfl, ?_⟩) ?_
   rotate_left
   ·(intro w9 hSw; clear hSw; go_simp; try with_reducible rfl)
   try simp only [Act.put, lpa, lpz, lps]
   refine tkC 0 (i := 10) (v := ?_) rfl (by kernel_rfl) trivial (Or.inl ⟨by rfl, ?_⟩) ?_
   rotate_left
   ·(intro w9 hSw; clear hSw; go_simp; try with_reducible rfl)
   try simp only [Act.put, lpa, lpz, lps]
   refine tkC 1 (i := 5) (v := ?_) rfl (by kernel_rfl) HAB (Or.inl ⟨by rfl, ?_⟩) ?_
   rotate_left
   ·(intro w9 hSw; have hfact : w9.cell? ⟨w.heap.size + 1 + 1, 7, none⟩ = some (Value.slice (some ⟨bk, ok, none⟩) r.kids.length ck) := hSw.2.1; clear hSw; go_simp; try with_reducible rfl)
   try simp only [Act.put, lpa, lpz, lps]
   refine tkC 0 (i := 7) (v := ?_) rfl (by kernel_rfl) trivial (Or.inl ⟨by rfl, ?_⟩) ?_
   rotate_left
   ·(intro w9 hSw; clear hSw; go_simp; try with_reducible rfl)
   try simp only [Act.put, lpa, lpz, lps]
   refine tkC 1 (i := 1) (v := ?_) rfl (by kernel_rfl) HAB (Or.inl ⟨by rfl, ?_⟩) ?_
   rotate_left
   ·(intro w9 hSw; have hfact : w9.cell? ⟨w.heap.size + 1 + 1 + 1, 2, none⟩ = some (Value.slice Ai ps.length ci) := hSw.2.2.2; clear hSw; go_simp; try with_reducible rfl)
   try simp only [Act.put, lpa, lpz, lps]
   refine tkC 1 (i := 3) (v := ?_) rfl (by kernel_rfl) HAB (Or.inl ⟨by rfl, ?_⟩) ?_
   rotate_left
   ·(intro w9 hSw; have hfact : w9.cell? ⟨w.heap.size, 0, none⟩ = some (Value.slice (some ⟨g, off, none⟩) ds.length cd) := hSw.1; clear hSw; go_simp; try with_reducible rfl)
   try simp only [Act.put, lpa, lpz, lps]
   refine tkC 1 (i := 8) (v := ?_) rfl (by kernel_rfl) HAB (Or.inl ⟨by rfl, ?_⟩) ?_
   rotate_left
   ·(intro w9 hSw; have hfact : w9.cell? ⟨bk, ok + ps.length, none⟩ = some (Value.int .i64 (KD ps.length : Int)) := hSw.2.2.1; clear hSw; go_simp; try with_reducible rfl)
   try simp only [Act.put, lpa, lpz, lps]
   refine wpAnyC_one (i := 11) (by kernel_rfl) rfl (fun K hK => ?_)
   go_simp
   go_at_call 23
   refine (CR.out _ hlt _ MD.out.grow MD.out.cur _ (by first | exact HWM.out | omega)).mono ?_
   rintro _ w6 ⟨t, A1, n1, c1, A2, n2, c2, rfl, hsh, hdv⟩
   have M6 := Lib.hid (MD.out.moved hplt hdv.cur hdv.grow)
   have HDV := Lib.hid hdv
   clear hdv
   refine Shut.out hK _ _ ⟨M6.out.db.cell 0, M6.out.rb.cell 7, HKC.out _ M6.out.grow, M6.out.box.cell 2⟩ ?_
   try simp only [Act.put, lpa, lpz, lps]
   refine wpAnyC_one (i := 12) (by kernel_rfl) rfl (fun K hK => ?_)
   go_simp
   have M6' := Lib.hid (M6.out.ext hplt (Ext_alloc (.cells #[.int .i64 t.num, .slice A1 n1 c1, .slice A2 n2 c2] 29) (Ext.refl w6)))
   have hcs : t.cells = [.int .i64 t.num, .slice A1 n1 c1, .slice A2 n2 c2] := by unfold VT.cells; rw [hsh.out.1, hsh.out.2]
   have HCS := Lib.hid hcs
   have hone := Lib.hid HDV.out.own.one
   rw [hcs] at hone
   clear hcs
   refine Shut.out hK _ _ ⟨M6'.out.db.cell 0, M6'.out.rb.cell 7, HKC.out _ M6'.out.grow, M6'.out.box.cell 2⟩ ?_
   try simp only [Act.put, lpa, lpz, lps]
   refine wpAnyC_one (i := 13) (by kernel_rfl) rfl (fun K hK => ?_)
   refine step_app8 rfl (.tmp 109) (.tmp 120) _ rfl E_val wb (w6.alloc (.cells #[.int .i64 t.num, .slice A1 n1 c1, .slice A2 n2 c2] 29)) (Value.slice Ai ps.length ci) ps.length (ps.flatMap VT.cells) rfl M6'.out.its.row M6'.out.cur.2.1.size ⟨w6.heap.size, 0, none⟩ 1 1 [.int .i64 t.num, .slice A1 n1 c1, .slice A2 n2 c2] rfl rfl (fun j u hu => (World.cell?_alloc_at' w6 [.int .i64 t.num, .slice A1 n1 c1, .slice A2 n2 c2] 29 j).trans hu) hone.out HMX.out.1 HMX.out.2 ?_
   intro v7 w7 ho7 hg7 hv7
   rw [← HCS.out] at ho7
   obtain ⟨⟨z7, y7⟩, M7⟩ := VM.snoc M6'.out hplt hbw (HDV.out.own.ext (Ext_alloc (.cells #[.int .i64 t.num, .slice A1 n1 c1, .slice A2 n2 c2] 29) (Ext.refl w6))) HDV.out.far HDV.out.new HOLD.out MD.out.size (by have := HDV.out.grow.size; rw [World.size_alloc]; omega) ho7 (M6'.out.cur.2.1.grown hg7 (fun k hk => (World.ownsRow.lt M6'.out.its.row k hk).1)) hg7 hv7
   obtain ⟨A7, c7, hsh7⟩ := M7.its.shape
   replace hsh7 : v7 = .slice A7 (ps.length + 1) c7 := (by rw [hsh7, List.length_append]; rfl)
   subst hsh7
   have M7 := Lib.hid M7
   have HX := Lib.hid (HF.out.put ⟨HDV.out.valid, HDV.out.sz⟩)
   clear ho7 hg7 hv7
   refine Shut.out hK _ _ trivial ?_
   try simp only [Act.put, lpa, lpz, lps]
   refine wpAnyC_one (i := 14) (by kernel_rfl) rfl (fun K hK => ?_)
   go_simp
   refine Shut.out hK _ _ trivial ?_
   try simp only [Act.put, lpa, lpz, lps]
   refine wpAnyC_one (i := 15) (by kernel_rfl) rfl (fun K hK => ?_)
   go_simp
   refine Shut.out hK _ _ trivial ?_
   try simp only [Act.put, lpa, lpz, lps]
   refine wpAnyC_done (by kernel_rfl) ?_ _
   clear HAB MD M6 M6' HDV HOLD
   clear u7 HKC HMX z7 y7
   go_wp2
   go_roundw
   case rel => exact ⟨ps.length + 1, _, ps ++ [t], by go_num, ⟨by simp, by omega⟩, HX, M7⟩
   case measure => simp [intOf]; omega
  ·have hle : ps.length = r.kids.length := by omega
   have HV6 := Lib.hid (HFT.out (valsOf ps) (by rw [valsOf_len]; exact hle) HF.out)
   clear hle
   have m0 : _ = some (Value.int .i64 0) := M1.out.box.cell 0
   have m1 : _ = some (Value.slice none 0 0) := M1.out.box.cell 1
   have m2 : _ = some (Value.slice Ai ps.length ci) := M1.out.box.cell 2
   have f1 := M1.out.res.cell; have f2 := M1.out.res.free
   have HOUT := Lib.hid (M1.out.out hplt hbw (.int .i64 0) (Value.slice none 0 0) (Value.slice Ai ps.length ci))
   have HV := Lib.hid (HV6.out)
   go_wp2_with fail
   obtain ⟨hO, hF, hN, hCc, hG⟩ := HOUT.out
   exact bodyPost_ret (v := .agg #[.int .i64 0, Value.slice none 0 0, Value.slice Ai ps.length ci]) (by simp [results, Tryz.results23, go_sem, f1, f2]) rfl ⟨.mk 0 [] (Value.slice none 0 0) ps (Value.slice Ai ps.length ci), _, _, _, _, _, _, rfl, ⟨rfl, rfl⟩, ⟨HV.out.1, HV.out.2, hO, hF, hN, hCc, hG⟩⟩
theorem l9Make5_c (Ad : Option Addr) (ds : List DRule) (cd : Nat) (hok : descOk ds = true) (i : Nat) (hi : i < ds.length) (hk : ds[i].kind = 5) (wb : World) (p : Nat) (A : Option Addr) (l : List UInt8) (c : Nat) (hA : Bs wb A l c) (HR : ∀ j, j < i → MakeOk Ad ds cd wb p A l c j) : MakeOk Ad ds cd wb p A l c i := by
 intro m hm w hC hD
 have hplt := hC.lt
 have hbw := hC.2.1.size
 have hdl := (descOk_len hok).2
 have CBe := Lib.hid (fun n w h hn => l1Below_c n wb w p A l c hA h hn)
 have COn := Lib.hid (fun n w h hn => l1Once_c n wb w p A l c hA h hn)
 obtain ⟨g, off, hAd, hgw, hall⟩ := hD.out
 obtain ⟨Ab, cb, An, cn, At, ct, Ak, ck, hst⟩ := hall i hi
 subst hAd
 have hS := (hst w (World.grownBy.refl _ _)).1
 obtain ⟨r0, r1, r2, r3, r4, r5, r6, r7⟩ := (hst w (World.grownBy.refl _ _)).2
 have HST := Lib.hid hst; have HD := Lib.hid hD; have HC := Lib.hid hC
 have hii : (i : Int) < (ds.length : Int) := by omega
 have hi0 : (0 : Int) ≤ (i : Int) := by omega
 clear hall hst hD
 have t1 : (ds[i].kind == 1) = false := by rw [hk]; rfl
 have t3 : (ds[i].kind == 3) = false := by rw [hk]; rfl
 have t4 : (ds[i].kind == 4) = false := by rw [hk]; rfl
 have t10 : (ds[i].kind == 10) = false := by rw [hk]; rfl
 have t5 : (ds[i].kind == 5) = true := by rw [hk]; rfl
 have t6 : (ds[i].kind == 6) = false := by rw [hk]; rfl
 have t7 : (ds[i].kind == 7) = false := by rw [hk]; rfl
 have t8 : (ds[i].kind == 8) = false := by rw [hk]; rfl
 have t9 : (ds[i].kind == 9) = false := by rw [hk]; rfl
 have hkl5 := ((kids_len hok i hi).2.1 hk).1
 have hft := made5 hok hi hk
 obtain ⟨bk, ok, hAk, hbk, hcel⟩ := hS.k.at 0 (by omega)
 subst hAk
 clear hcel
 have HKC : Hid (∀ w', w.grownBy w' (some p) → w'.cell? ⟨bk, ok + 1, none⟩ = some (Value.int .i64 ((kd ds[i] 1 : Nat) : Int))) := fun w' hg => by
  have h1 := (HST.out w' hg).1.k.cellAt 1 (by omega)
  rw [kd_int hok i hi 1 (by omega)] at h1
  exact h1
 have CR : Hid (∀ w', w.grownBy w' (some p) → Cur wb w' p A l c → ∀ x : Int, x = ((m / 2 : Nat) : Int) → Calls Tryz.prog 23 #[.pointer (some ⟨p, 0, none⟩), .agg #[Value.slice (some ⟨g, off, none⟩) ds.length cd], .int .i64 ((kd ds[i] 1 : Nat) : Int), .int .i64 x] w' fun e w'' => ∃ (t : VT) (A1 : Option Addr) (n1 c1 : Nat) (A2 : Option Addr) (n2 c2 : Nat), e = .returned (.agg #[.int .i64 t.num, .slice A1 n1 c1, .slice A2 n2 c2]) ∧ Hid (t.vb = .slice A1 n1 c1 ∧ t.vi = .slice A2 n2 c2) ∧ DrawnV ds (kd ds[i] 1) wb w' w'' p A l c t) := fun w' hg hc x hx => by
  subst hx
  exact HR _ (kd_lt hok i hi 1 (by omega)) (m / 2) (by omega) w' hc (HD.out.mono hg)
 have HFT := Lib.hid hft
 clear hft
 generalize kd ds[i] 1 = kj at *
 have hkl0 : 1 < ds[i].kids.length := by omega
 have hkl1 : (1 : Int) < (ds[i].kids.length : Int) := by omega
 clear hkl5
 obtain ⟨q, hq⟩ : ∃ q : Nat, q = (if m < 3 then m else 3) := ⟨_, rfl⟩
 have hq3 : q ≤ 3 := by rw [hq]; split <;> omega
 have CM : Hid (∀ w, Gives Tryz.prog 47 #[.int .i64 (m : Int), .int .i64 3] w (.int .i64 (q : Int))) := fun w => by
  have h := sMin_c (m : Int) 3 w
  have e : (if (3 : Int) < (m : Int) then (3 : Int) else (m : Int)) = (q : Int) := by rw [hq]; split <;> split <;> omega
  rwa [e] at h
 clear hq
 generalize ds[i] = r at *
 obtain ⟨W0, W1, HW0, HW1, B1, B2, B3, B4, e0, x1, hs0, hs1⟩ := boxes4' w #[Value.slice (some ⟨g, off, none⟩) ds.length cd] val0 #[.string r.nm, .int .i64 r.kind, .int .i64 r.size, .bool r.little, .slice Ab r.bytes.length cb, .slice An r.names.length cn, .slice At r.tags.length ct, .slice (some ⟨bk, ok, none⟩) r.kids.length ck] val0 26 29 51 29
 have e01 := e0.trans x1
 have M0 : Hid (VM wb w W1 p A l c (Value.slice (some ⟨g, off, none⟩) ds.length cd) #[.string r.nm, .int .i64 r.kind, .int .i64 r.size, .bool r.little, .slice Ab r.bytes.length cb, .slice An r.names.length cn, .slice At r.tags.length ct, .slice (some ⟨bk, ok, none⟩) r.kids.length ck] 0 (.slice none 0 0) [] (.slice none 0 0) []) :=
  ⟨B1.ext x1, B2.ext x1, B3.ext x1, B4, OwnL.nil _ _, OwnTs.nil _ _, by simp [Far, Value.ownBlock], by simp [Value.ownBlock], HC.out.ext e01, grown_ext e01 _⟩
 have q0 : ∀ w', Ext W0 w' → _ = some (Value.slice (some ⟨g, off, none⟩) ds.length cd) := fun w' e => B1.at 0 w' e
 have k0 : ∀ w', Ext W0 w' → _ = some (Value.string r.nm) := fun w' e => B3.at 0 w' e
 have k1 : ∀ w', Ext W0 w' → _ = some (Value.int .i64 r.kind) := fun w' e => B3.at 1 w' e
 have k2 : ∀ w', Ext W0 w' → _ = some (Value.int .i64 r.size) := fun w' e => B3.at 2 w' e
 have k3 : ∀ w', Ext W0 w' → _ = some (Value.bool r.little) := fun w' e => B3.at 3 w' e
 have k4 : ∀ w', Ext W0 w' → _ = some (Value.slice Ab r.bytes.length cb) := fun w' e => B3.at 4 w' e
 have k5 : ∀ w', Ext W0 w' → _ = some (Value.slice An r.names.length cn) := fun w' e => B3.at 5 w' e
 have k6 : ∀ w', Ext W0 w' → _ = some (Value.slice At r.tags.length ct) := fun w' e => B3.at 6 w' e
 have k7 : ∀ w', Ext W0 w' → _ = some (Value.slice (some ⟨bk, ok, none⟩) r.kids.length ck) := fun w' e => B3.at 7 w' e
 have HWM : Hid (IntKind.i64.wrap ((m : Int) / 2) = ((m / 2 : Nat) : Int)) := by
  show _ = _
  rw [IntWalk.i64_in _ (by omega)]; omega
 have HS1 := Lib.hid hs1; have HX1 := Lib.hid x1
 clear B1 B2 B3 B4 hs0 hs1 hk
 unfold val0 at *
 go_enter Tryz.func23, Tryz.ntmps23
 go_wp2_with fail
 rw [← HW0.out, ← HW1.out]
 refine (CM.out _).mono ?_; rintro _ w1 ⟨rfl, he1⟩
 have M1 := Lib.hid (M0.out.ext hplt he1)
 clear M0 he1
 go_wp2_with fail
 refine (CBe.out ((q : Int) + 1) _ M1.out.cur (by omega)).mono ?_; rintro _ w2 ⟨x, hx, rfl, hC2, hg2⟩
 have hx3 : x ≤ 3 := by unfold below at hx; rw [if_neg (by omega)] at hx; omega
 have M2 := Lib.hid (M1.out.moved hplt hC2 hg2)
 clear M1 hC2 hg2 hx
 go_wp2
 go_loopw [11] (fun t wr => ∃ (k : Nat) (vi : Value) (ps : List VT), t = .int .i64 k ∧ (k + ps.length ≤ 3) ∧ Hid (FitL ds (fun _ => kj) (valsOf ps)) ∧ Hid (VM wb w wr p A l c (Value.slice (some ⟨g, off, none⟩) ds.length cd) #[.string r.nm, .int .i64 r.kind, .int .i64 r.size, .bool r.little, .slice Ab r.bytes.length cb, .slice An r.names.length cn, .slice At r.tags.length ct, .slice (some ⟨bk, ok, none⟩) r.kids.length ck] 0 (.slice none 0 0) [] vi ps)) (fun t _ => (intOf t).toNat)
 case atStart => exact ⟨x, _, [], rfl, by simpa using hx3, FitL.nil _ _, M2⟩
 case round =>
  clear M2
  obtain ⟨k, vi, ps, rfl, hkp, HF, M1⟩ := hrel
  obtain ⟨Ai, ci, hvi⟩ := M1.out.its.shape
  subst hvi
  by_cases hlt : 0 < k
  ·have HMX : Hid (ps.length + 1 ≤ maxLen ∧ (ps.length + 1) * 56 ≤ 140737488355328) := ⟨by simp only [maxLen]; omega, by omega⟩
   go_wp2_with fail
   have MD := Lib.hid (M1.out.ext hplt (Ext_drew (Ext.refl wr)))
   have HOLD := Lib.hid MD.out.old
   have HAB : lv2 (fun w' => w'.cell? ⟨w.heap.size, 0, none⟩ = some (Value.slice (some ⟨g, off, none⟩) ds.length cd) ∧ w'.cell? ⟨w.heap.size + 1 + 1, 7, none⟩ = some (Value.slice (some ⟨bk, ok, none⟩) r.kids.length ck) ∧ w'.cell? ⟨bk, ok + 1, none⟩ = some (Value.int .i64 (kj : Int)) ∧ w'.cell? ⟨w.heap.size + 1 + 1 + 1, 2, none⟩ = some (Value.slice Ai ps.length ci)) (fun _ => True) 1 wr.drew := ⟨MD.out.db.cell 0, MD.out.rb.cell 7, HKC.out _ MD.out.grow, MD.out.box.cell 2⟩
   clear M1
   refine wp_region_C (C := fun j => lv2 (fun w' => w'.cell? ⟨w.heap.size, 0, none⟩ = some (Value.slice (some ⟨g, off, none⟩) ds.length cd) ∧ w'.cell? ⟨w.heap.size + 1 + 1, 7, none⟩ = some (Value.slice (some ⟨bk, ok, none⟩) r.kids.length ck) ∧ w'.cell? ⟨bk, ok + 1, none⟩ = some (Value.int .i64 (kj : Int)) ∧ w'.cell? ⟨w.heap.size + 1 + 1 + 1, 2, none⟩ = some (Value.slice Ai ps.length ci)) (fun _ => True) (([0, 1, 0, 1, 0, 1, 0, 1, 0, 0, 1, 1, 0, 0, 0] : List Nat).getD j 0)) (by kernel_rfl) ?_
   refine tkC 0 (i := 0) (v := ?_) rfl (by kernel_rfl) trivial (Or.inl ⟨by rfl, ?_⟩) ?_
   rotate_left
   ·(intro w9 hSw; clear hSw; go_simp; try with_reducible rfl)
   try simp only [Act.put, lpa, lpz, lps]
   refine tkC 0 (i := 2) (v := ?_) rfl (by kernel_rfl) trivial (Or.inl ⟨by rfl, ?_⟩) ?_
   rotate_left
   ·(intro w9 hSw; clear hSw; go_simp; try with_reducible rfl)
   try simp only [Act.put, lpa, lpz, lps]
   refine tkC 0 (i := 4) (v := ?_) rfl (by kernel_rfl) trivial (Or.inl ⟨by rfl, ?_⟩) ?_
   rotate_left
   ·(intro w9 hSw; clear hSw; go_simp; try with_reducible rfl)
   try simp only [Act.put, lpa, lpz, lps]
   refine tkC 0 (i := 8) (v := ?_) rfl (by kernel_rfl) trivial (Or.inl ⟨by rfl, ?_⟩) ?_
   rotate_left
   ·(intro w9 hSw; clear hSw; go_simp; try with_reducible rfl)
   try simp only [Act.put, lpa, lpz, lps]
   refine tkC 0 (i := 9) (v := ?_) rfl (by kernel_rfl) trivial (Or.inl ⟨by rfl, ?_⟩) ?_
   rotate_left
   ·(intro w9 hSw; clear hSw; go_simp; try with_reducible rfl)
   try simp only [Act.put, lpa, lpz, lps]
   refine tkC 1 (i := 5) (v := ?_) rfl (by kernel_rfl) HAB (Or.inl ⟨by rfl, ?_⟩) ?_
   rotate_left
   ·(intro w9 hSw; have hfact : w9.cell? ⟨w.heap.size + 1 + 1, 7, none⟩ = some (Value.slice (some ⟨bk, ok, none⟩) r.kids.length ck) := hSw.2.1; clear hSw; go_simp; try with_reducible rfl)
   try simp only [Act.put, lpa, lpz, lps]
   refine tkC 0 (i := 6) (v := ?_) rfl (by kernel_rfl) trivial (Or.inl ⟨by rfl, ?_⟩) ?_
   rotate_left
   ·(intro w9 hSw; clear hSw; go_simp; try with_reducible rfl)
   try simp only [Act.put, lpa, lpz, lps]
   refine tkC 1 (i := 1) (v := ?_) rfl (by kernel_rfl) HAB (Or.inl ⟨by rfl, ?_⟩) ?_
   rotate_left
   ·(intro w9 hSw; have hfact : w9.cell? ⟨w.heap.size + 1 + 1 + 1, 2, none⟩ = some (Value.slice Ai ps.length ci) := hSw.2.2.2; clear hSw; go_simp; try with_reducible rfl)
   try simp only [Act.put, lpa, lpz, lps]
   refine tkC 1 (i := 3) (v := ?_) rfl (by kernel_rfl) HAB (Or.inl ⟨by rfl, ?_⟩) ?_
   rotate_left
   ·(intro w9 hSw; have hfact : w9.cell? ⟨w.heap.size, 0, none⟩ = some (Value.slice (some ⟨g, off, none⟩) ds.length cd) := hSw.1; clear hSw; go_simp; try with_reducible rfl)
   try simp only [Act.put, lpa, lpz, lps]
   refine tkC 1 (i := 7) (v := ?_) rfl (by kernel_rfl) HAB (Or.inl ⟨by rfl, ?_⟩) ?_
   rotate_left
   ·(intro w9 hSw; have hfact : w9.cell? ⟨bk, ok + 1, none⟩ = some (Value.int .i64 (kj : Int)) := hSw.2.2.1; clear hSw; go_simp; try with_reducible rfl)
   try simp only [Act.put, lpa, lpz, lps]
   refine wpAnyC_one (i := 10) (by kernel_rfl) rfl (fun K hK => ?_)
   go_simp
   go_at_call 23
   refine (CR.out _ MD.out.grow MD.out.cur _ (by first | exact HWM.out | omega)).mono ?_
   rintro _ w6 ⟨t, A1, n1, c1, A2, n2, c2, rfl, hsh, hdv⟩
   have M6 := Lib.hid (MD.out.moved hplt hdv.cur hdv.grow)
   have HDV := Lib.hid hdv
   clear hdv
   refine Shut.out hK _ _ ⟨M6.out.db.cell 0, M6.out.rb.cell 7, HKC.out _ M6.out.grow, M6.out.box.cell 2⟩ ?_
   try simp only [Act.put, lpa, lpz, lps]
   refine wpAnyC_one (i := 11) (by kernel_rfl) rfl (fun K hK => ?_)
   go_simp
   have M6' := Lib.hid (M6.out.ext hplt (Ext_alloc (.cells #[.int .i64 t.num, .slice A1 n1 c1, .slice A2 n2 c2] 29) (Ext.refl w6)))
   have hcs : t.cells = [.int .i64 t.num, .slice A1 n1 c1, .slice A2 n2 c2] := by unfold VT.cells; rw [hsh.out.1, hsh.out.2]
   have HCS := Lib.hid hcs
   have hone := Lib.hid HDV.out.own.one
   rw [hcs] at hone
   clear hcs
   refine Shut.out hK _ _ ⟨M6'.out.db.cell 0, M6'.out.rb.cell 7, HKC.out _ M6'.out.grow, M6'.out.box.cell 2⟩ ?_
   try simp only [Act.put, lpa, lpz, lps]
   refine wpAnyC_one (i := 12) (by kernel_rfl) rfl (fun K hK => ?_)
   refine step_app8 rfl (.tmp 86) (.tmp 96) _ rfl E_val wb (w6.alloc (.cells #[.int .i64 t.num, .slice A1 n1 c1, .slice A2 n2 c2] 29)) (Value.slice Ai ps.length ci) ps.length (ps.flatMap VT.cells) rfl M6'.out.its.row M6'.out.cur.2.1.size ⟨w6.heap.size, 0, none⟩ 1 1 [.int .i64 t.num, .slice A1 n1 c1, .slice A2 n2 c2] rfl rfl (fun j u hu => (World.cell?_alloc_at' w6 [.int .i64 t.num, .slice A1 n1 c1, .slice A2 n2 c2] 29 j).trans hu) hone.out HMX.out.1 HMX.out.2 ?_
   intro v7 w7 ho7 hg7 hv7
   rw [← HCS.out] at ho7
   obtain ⟨⟨z7, y7⟩, M7⟩ := VM.snoc M6'.out hplt hbw (HDV.out.own.ext (Ext_alloc (.cells #[.int .i64 t.num, .slice A1 n1 c1, .slice A2 n2 c2] 29) (Ext.refl w6))) HDV.out.far HDV.out.new HOLD.out MD.out.size (by have := HDV.out.grow.size; rw [World.size_alloc]; omega) ho7 (M6'.out.cur.2.1.grown hg7 (fun k hk => (World.ownsRow.lt M6'.out.its.row k hk).1)) hg7 hv7
   obtain ⟨A7, c7, hsh7⟩ := M7.its.shape
   replace hsh7 : v7 = .slice A7 (ps.length + 1) c7 := (by rw [hsh7, List.length_append]; rfl)
   subst hsh7
   have M7 := Lib.hid M7
   have HX := Lib.hid (HF.out.put ⟨HDV.out.valid, HDV.out.sz⟩)
   clear ho7 hg7 hv7
   refine Shut.out hK _ _ trivial ?_
   try simp only [Act.put, lpa, lpz, lps]
   refine wpAnyC_one (i := 13) (by kernel_rfl) rfl (fun K hK => ?_)
   go_simp
   refine Shut.out hK _ _ trivial ?_
   try simp only [Act.put, lpa, lpz, lps]
   refine wpAnyC_one (i := 14) (by kernel_rfl) rfl (fun K hK => ?_)
   go_simp
   refine Shut.out hK _ _ trivial ?_
   try simp only [Act.put, lpa, lpz, lps]
   refine wpAnyC_done (by kernel_rfl) ?_ _
   clear HAB MD M6 M6' HDV HOLD
   clear HMX z7 y7
   go_wp2
   go_roundw
   case rel => exact ⟨k - 1, _, ps ++ [t], by go_num, by simp; omega, HX, M7⟩
   case measure => simp [intOf]; omega
  ·obtain rfl : k = 0 := by omega
   have HV6 := Lib.hid (HFT.out (valsOf ps) (by rw [valsOf_len]; omega) HF.out)
   have m0 : _ = some (Value.int .i64 0) := M1.out.box.cell 0
   have m1 : _ = some (Value.slice none 0 0) := M1.out.box.cell 1
   have m2 : _ = some (Value.slice Ai ps.length ci) := M1.out.box.cell 2
   have f1 := M1.out.res.cell; have f2 := M1.out.res.free
   have HOUT := Lib.hid (M1.out.out hplt hbw (.int .i64 0) (Value.slice none 0 0) (Value.slice Ai ps.length ci))
   have HV := Lib.hid (HV6.out)
   go_wp2_with fail
   obtain ⟨hO, hF, hN, hCc, hG⟩ := HOUT.out
   exact bodyPost_ret (v := .agg #[.int .i64 0, Value.slice none 0 0, Value.slice Ai ps.length ci]) (by simp [results, Tryz.results23, go_sem, f1, f2]) rfl ⟨.mk 0 [] (Value.slice none 0 0) ps (Value.slice Ai ps.length ci), _, _, _, _, _, _, rfl, ⟨rfl, rfl⟩, ⟨HV.out.1, HV.out.2, hO, hF, hN, hCc, hG⟩⟩
theorem l9Make_c (Ad : Option Addr) (ds : List DRule) (cd : Nat) (hok : descOk ds = true) (wb : World) (p : Nat) (A : Option Addr) (l : List UInt8) (c : Nat) (hA : Bs wb A l c) : ∀ n i, i ≤ n → i < ds.length → MakeOk Ad ds cd wb p A l c i := by
 intro n
 induction n with
 | zero =>
  intro i h0 hi
  exact step i hi (fun j hj => by omega)
 | succ n ih =>
  intro i h0 hi
  exact step i hi (fun j hj => ih j (by omega) (by omega))
where
 step (i : Nat) (hi : i < ds.length) (HR : ∀ j, j < i → MakeOk Ad ds cd wb p A l c j) : MakeOk Ad ds cd wb p A l c i := by
  have hk := ruleKind hok i hi
  have h10 : ds[i].kind = 1 ∨ ds[i].kind = 2 ∨ ds[i].kind = 3 ∨ ds[i].kind = 4 ∨ ds[i].kind = 5 ∨ ds[i].kind = 6 ∨ ds[i].kind = 7 ∨ ds[i].kind = 8 ∨ ds[i].kind = 9 ∨ ds[i].kind = 10 := by
   unfold kindOk at hk
   by_cases h1 : ds[i].kind = 1; · omega
   by_cases h2 : ds[i].kind = 2; · omega
   by_cases h3 : ds[i].kind = 3; · omega
   by_cases h4 : ds[i].kind = 4; · omega
   by_cases h5 : ds[i].kind = 5; · omega
   by_cases h6 : ds[i].kind = 6; · omega
   by_cases h7 : ds[i].kind = 7; · omega
   by_cases h8 : ds[i].kind = 8; · omega
   by_cases h9 : ds[i].kind = 9; · omega
   by_cases h10 : ds[i].kind = 10; · omega
   rw [if_neg h1, if_neg h2, if_neg h3, if_neg h4, if_neg h5, if_neg h6, if_neg h7, if_neg h8, if_neg h9, if_neg h10] at hk
   cases hk
  rcases h10 with h | h | h | h | h | h | h | h | h | h
  ·exact l9Make1_c Ad ds cd hok i hi h wb p A l c hA HR
  ·exact l9Make2_c Ad ds cd hok i hi h wb p A l c hA HR
  ·exact l9Make3_c Ad ds cd hok i hi h wb p A l c hA HR
  ·exact l9Make4_c Ad ds cd hok i hi h wb p A l c hA HR
  ·exact l9Make5_c Ad ds cd hok i hi h wb p A l c hA HR
  ·exact l9Make6_c Ad ds cd hok i hi h wb p A l c hA HR
  ·exact l9Make7_c Ad ds cd hok i hi h wb p A l c hA HR
  ·exact l9Make8_c Ad ds cd hok i hi h wb p A l c hA HR
  ·exact l9Make9_c Ad ds cd hok i hi h wb p A l c hA HR
  ·exact l9Make10_c Ad ds cd hok i hi h wb p A l c hA HR
theorem OwnD.stayD {wb w : World} {v : Value} {ps : List RV} (h : OwnD wb w v ps) (hs : ∀ q ∈ ps, ShortR q.r) (hn : ps.length ≤ 24) (h0 : 0 < ps.length) {p : Nat} (hp : ∀ u ∈ v :: ps.flatMap RV.vals, ∀ b, u.ownBlock = some b → b ≠ p) :
 ∃ Ad cd, v = .slice Ad (rulesOf ps).length cd ∧ StayD w p Ad (rulesOf ps) cd := by
 obtain ⟨g, cap, _, _, _, _, _, _, _, _, hv, _⟩ := h.stay hs hn hp 0 h0
 have hlen : (rulesOf ps).length = ps.length := by simp [rulesOf]
 refine ⟨some ⟨g, 0, none⟩, cap, by rw [hlen]; exact hv, g, 0, rfl, ?_, fun i hi => ?_⟩
 ·exact (h.block v (List.mem_cons_self ..) g (by rw [hv]; rfl)).2
 ·have hi' : i < ps.length := by omega
  obtain ⟨g', cap', Ab, cb, An, cn, At, ct, Ak, ck, hv', hr⟩ := h.stay hs hn hp i hi'
  rw [hv] at hv'
  injection hv' with e1 _ e2
  injection e1 with e1
  injection e1 with e1 _ _
  subst e1
  have hr0 : (rulesOf ps)[i] = ps[i].r := by simp [rulesOf]
  rw [hr0, Nat.zero_add]
  exact ⟨Ab, cb, An, cn, At, ct, Ak, ck, hr⟩
theorem WI.smD {ds : List DRule} {ps : List RV} (h : WI ds ps ds.length) (hs : SmallD ds) (hk : ∀ i (hi : i < ds.length), -100 ≤ ds[i].kind ∧ ds[i].kind ≤ 100) : SmD (rulesOf ps) := by
 have hl := h.len
 refine ⟨by have := hs.1; simp [rulesOf]; omega, fun r hr => ?_⟩
 obtain ⟨i, hi, rfl⟩ := List.getElem_of_mem hr
 have hi' : i < ps.length := by simpa [rulesOf] using hi
 have hi2 : i < ds.length := by omega
 have hw := h.wid i hi' hi2 hi2
 have e : (rulesOf ps)[i] = ps[i].r := by simp [rulesOf]
 rw [e]
 exact hw.sm (hs.2 _ (List.getElem_mem hi2)) (hk i hi2) (by have := hs.1; omega)
theorem vers_fin {w W : World} {u1 u2 x0 x1 x2 : Value} {d1 d2 : List DRule} {t : VT} (he : Ext w W) (K1 : KeepD (w.heap.size + 3) W u1 d1) (K2 : KeepD (w.heap.size + 3) W u2 d2) (ht : OwnT w W t) (hn : ∀ u ∈ t.vals, ∀ b, u.ownBlock = some b → w.heap.size + 3 ≤ b)
 (B1 : Box W w.heap.size #[.slice none 0 0] 26) (B2 : Box W (w.heap.size + 1) #[.slice none 0 0] 26) (B3 : Box W (w.heap.size + 1 + 1) val0 29) :
 KeepD w.heap.size (((((W.setCell ⟨w.heap.size, 0, none⟩ u1).setCell ⟨w.heap.size + 1, 0, none⟩ u2).setCell ⟨w.heap.size + 1 + 1, 0, none⟩ x0).setCell ⟨w.heap.size + 1 + 1, 1, none⟩ x1).setCell ⟨w.heap.size + 1 + 1, 2, none⟩ x2) u1 d1 ∧ KeepD w.heap.size (((((W.setCell ⟨w.heap.size, 0, none⟩ u1).setCell ⟨w.heap.size + 1, 0, none⟩ u2).setCell ⟨w.heap.size + 1 + 1, 0, none⟩ x0).setCell ⟨w.heap.size + 1 + 1, 1, none⟩ x1).setCell ⟨w.heap.size + 1 + 1, 2, none⟩ x2) u2 d2 ∧ OwnT w (((((W.setCell ⟨w.heap.size, 0, none⟩ u1).setCell ⟨w.heap.size + 1, 0, none⟩ u2).setCell ⟨w.heap.size + 1 + 1, 0, none⟩ x0).setCell ⟨w.heap.size + 1 + 1, 1, none⟩ x1).setCell ⟨w.heap.size + 1 + 1, 2, none⟩ x2) t ∧ Ext w (((((W.setCell ⟨w.heap.size, 0, none⟩ u1).setCell ⟨w.heap.size + 1, 0, none⟩ u2).setCell ⟨w.heap.size + 1 + 1, 0, none⟩ x0).setCell ⟨w.heap.size + 1 + 1, 1, none⟩ x1).setCell ⟨w.heap.size + 1 + 1, 2, none⟩ x2) ∧
 (((((W.setCell ⟨w.heap.size, 0, none⟩ u1).setCell ⟨w.heap.size + 1, 0, none⟩ u2).setCell ⟨w.heap.size + 1 + 1, 0, none⟩ x0).setCell ⟨w.heap.size + 1 + 1, 1, none⟩ x1).setCell ⟨w.heap.size + 1 + 1, 2, none⟩ x2).cell? ⟨w.heap.size, 0, none⟩ = some u1 ∧ (((((W.setCell ⟨w.heap.size, 0, none⟩ u1).setCell ⟨w.heap.size + 1, 0, none⟩ u2).setCell ⟨w.heap.size + 1 + 1, 0, none⟩ x0).setCell ⟨w.heap.size + 1 + 1, 1, none⟩ x1).setCell ⟨w.heap.size + 1 + 1, 2, none⟩ x2).cell? ⟨w.heap.size + 1, 0, none⟩ = some u2 ∧ (((((W.setCell ⟨w.heap.size, 0, none⟩ u1).setCell ⟨w.heap.size + 1, 0, none⟩ u2).setCell ⟨w.heap.size + 1 + 1, 0, none⟩ x0).setCell ⟨w.heap.size + 1 + 1, 1, none⟩ x1).setCell ⟨w.heap.size + 1 + 1, 2, none⟩ x2).cell? ⟨w.heap.size + 1 + 1, 0, none⟩ = some x0 ∧ (((((W.setCell ⟨w.heap.size, 0, none⟩ u1).setCell ⟨w.heap.size + 1, 0, none⟩ u2).setCell ⟨w.heap.size + 1 + 1, 0, none⟩ x0).setCell ⟨w.heap.size + 1 + 1, 1, none⟩ x1).setCell ⟨w.heap.size + 1 + 1, 2, none⟩ x2).cell? ⟨w.heap.size + 1 + 1, 1, none⟩ = some x1 ∧ (((((W.setCell ⟨w.heap.size, 0, none⟩ u1).setCell ⟨w.heap.size + 1, 0, none⟩ u2).setCell ⟨w.heap.size + 1 + 1, 0, none⟩ x0).setCell ⟨w.heap.size + 1 + 1, 1, none⟩ x1).setCell ⟨w.heap.size + 1 + 1, 2, none⟩ x2).cell? ⟨w.heap.size + 1 + 1, 2, none⟩ = some x2 := by
 have s1 : Same (w.heap.size + 3) W (W.setCell ⟨w.heap.size, 0, none⟩ u1) := Same.set _ _ (.inl (by show w.heap.size < _; omega))
 have s2 : Same (w.heap.size + 3) _ ((W.setCell ⟨w.heap.size, 0, none⟩ u1).setCell ⟨w.heap.size + 1, 0, none⟩ u2) := Same.set _ _ (.inl (by show w.heap.size + 1 < _; omega))
 have s3 : Same (w.heap.size + 3) _ (((W.setCell ⟨w.heap.size, 0, none⟩ u1).setCell ⟨w.heap.size + 1, 0, none⟩ u2).setCell ⟨w.heap.size + 1 + 1, 0, none⟩ x0) := Same.set _ _ (.inl (by show w.heap.size + 1 + 1 < _; omega))
 have s4 : Same (w.heap.size + 3) _ ((((W.setCell ⟨w.heap.size, 0, none⟩ u1).setCell ⟨w.heap.size + 1, 0, none⟩ u2).setCell ⟨w.heap.size + 1 + 1, 0, none⟩ x0).setCell ⟨w.heap.size + 1 + 1, 1, none⟩ x1) := Same.set _ _ (.inl (by show w.heap.size + 1 + 1 < _; omega))
 have s5 : Same (w.heap.size + 3) _ (((((W.setCell ⟨w.heap.size, 0, none⟩ u1).setCell ⟨w.heap.size + 1, 0, none⟩ u2).setCell ⟨w.heap.size + 1 + 1, 0, none⟩ x0).setCell ⟨w.heap.size + 1 + 1, 1, none⟩ x1).setCell ⟨w.heap.size + 1 + 1, 2, none⟩ x2) := Same.set _ _ (.inl (by show w.heap.size + 1 + 1 < _; omega))
 have s := (((s1.trans s2).trans s3).trans s4).trans s5
 have b1 := ((((B1.set 0 u1).other (g' := w.heap.size + 1) (by omega) 0 u2).other (g' := w.heap.size + 1 + 1) (by omega) 0 x0).other (g' := w.heap.size + 1 + 1) (by omega) 1 x1).other (g' := w.heap.size + 1 + 1) (by omega) 2 x2
 have b2 := ((((B2.other (g' := w.heap.size) (by omega) 0 u1).set 0 u2).other (g' := w.heap.size + 1 + 1) (by omega) 0 x0).other (g' := w.heap.size + 1 + 1) (by omega) 1 x1).other (g' := w.heap.size + 1 + 1) (by omega) 2 x2
 have b3 := ((((B3.other (g' := w.heap.size) (by omega) 0 u1).other (g' := w.heap.size + 1) (by omega) 0 u2).set 0 x0).set 1 x1).set 2 x2
 have z1 := b1.cell 0; have z2 := b2.cell 0; have z3 := b3.cell 0; have z4 := b3.cell 1; have z5 := b3.cell 2
 have gr : ∀ (W : World) (k j : Nat) (u : Value), k < w.heap.size + 3 → (∀ {t : VT}, OwnT w W t → (∀ u ∈ t.vals, ∀ b, u.ownBlock = some b → w.heap.size + 3 ≤ b) → OwnT w (W.setCell ⟨k, j, none⟩ u) t) := fun W k j u hk t ht hn =>
  ht.keep (grown_set W ⟨k, j, none⟩ u) (fun x hx b hb hh => by have := hn x hx b hb; injection hh with hh; simp at hh; omega)
 refine ⟨(K1.same s).low (by omega), (K2.same s).low (by omega), gr _ _ _ _ (by omega) (gr _ _ _ _ (by omega) (gr _ _ _ _ (by omega) (gr _ _ _ _ (by omega) (gr _ _ _ _ (by omega) ht hn) hn) hn) hn) hn, ?_, by simpa using z1, by simpa using z2, by simpa [val0] using z3, by simpa [val0] using z4, by simpa [val0] using z5⟩
 exact ((((he.setCell (p := ⟨w.heap.size, 0, none⟩) (Nat.le_refl _) u1).setCell (p := ⟨w.heap.size + 1, 0, none⟩) (by show w.heap.size ≤ w.heap.size + 1; omega) u2).setCell (p := ⟨w.heap.size + 1 + 1, 0, none⟩) (by show w.heap.size ≤ w.heap.size + 1 + 1; omega) x0).setCell (p := ⟨w.heap.size + 1 + 1, 1, none⟩) (by show w.heap.size ≤ w.heap.size + 1 + 1; omega) x1).setCell (p := ⟨w.heap.size + 1 + 1, 2, none⟩) (by show w.heap.size ≤ w.heap.size + 1 + 1; omega) x2
theorem made_kinds {ds : List DRule} (h : MadeD ds) (hs : SmallD ds) : (∀ i (hi : i < ds.length), -100 ≤ ds[i].kind ∧ ds[i].kind ≤ 100) ∧ ∀ i (hi : i < ds.length), ds[i].kind = 7 → 0 < ds[i].tags.length := by
 have hm : ∀ i (hi : i < ds.length), kindOk (ds.take i) ds[i] = true := fun i hi => (h i hi).ok
 refine ⟨fun i hi => ?_, fun i hi h7 => ?_⟩
 ·have := hm i hi
  unfold kindOk at this
  by_cases h1 : ds[i].kind = 1; · omega
  by_cases h2 : ds[i].kind = 2; · omega
  by_cases h3 : ds[i].kind = 3; · omega
  by_cases h4 : ds[i].kind = 4; · omega
  by_cases h5 : ds[i].kind = 5; · omega
  by_cases h6 : ds[i].kind = 6; · omega
  by_cases h7 : ds[i].kind = 7; · omega
  by_cases h8 : ds[i].kind = 8; · omega
  by_cases h9 : ds[i].kind = 9; · omega
  by_cases h10 : ds[i].kind = 10; · omega
  rw [if_neg h1, if_neg h2, if_neg h3, if_neg h4, if_neg h5, if_neg h6, if_neg h7, if_neg h8, if_neg h9, if_neg h10] at this
  cases this
 ·have := hm i hi
  unfold kindOk at this
  rw [if_neg (by omega), if_neg (by omega), if_neg (by omega), if_neg (by omega), if_neg (by omega), if_neg (by omega), if_pos h7] at this
  unfold choOk at this
  simp only [Bool.and_eq_true, between_iff] at this
  omega
theorem drawVersions_c (A : Option Addr) (l : List UInt8) (c : Nat) (w : World) (hA : Bs w A l c) :
 Calls Tryz.prog 5 #[.slice A l.length c] w fun e w' => ∃ (v1 v2 : Value) (d1 : List DRule) (ps2 : List RV) (t : VT) (A1 : Option Addr) (n1 c1 : Nat) (A2 : Option Addr) (n2 c2 : Nat), e = .returned (.tuple #[vdesc v1, vdesc v2, .agg #[.int .i64 t.num, .slice A1 n1 c1, .slice A2 n2 c2]]) ∧ (t.vb = .slice A1 n1 c1 ∧ t.vi = .slice A2 n2 c2) ∧ (MadeD d1 ∧ SmallD d1 ∧ 0 < d1.length ∧ d1.length ≤ 7) ∧ WI d1 ps2 d1.length ∧ KeepD w.heap.size w' v1 d1 ∧ KeepD w.heap.size w' v2 (rulesOf ps2) ∧ (validV d1 (d1.length - 1) t.val = true ∧ szV t.val ≤ 100 * 9 ^ (d1.length - 1)) ∧ OwnT w w' t ∧ Ext w w' := by
 obtain ⟨W0, HW0, B1, B2, B3, e0, hsA⟩ := boxes3' w #[.slice none 0 0] #[.slice none 0 0] val0 26 26 29
 have hsA := Lib.hid hsA
 have CN := Lib.hid (fun w' h => l1New_c A l c w' h)
 have B1 := Lib.hid B1; have B2 := Lib.hid B2; have B3 := Lib.hid B3
 unfold vdesc at *
 unfold val0 at *
 go_enter Tryz.func5, Tryz.ntmps5
 go_wp2_with fail
 rw [← HW0.out]
 refine (CN.out _ (hA.ext e0)).mono ?_; rintro _ w1 ⟨p, rfl, hC1⟩
 have hpw : w.heap.size + 3 ≤ p := by have := hC1.1; have := hsA.out; omega
 have g01 : W0.grownBy w1 (some p) := grown_ext hC1.2.1 _
 have hx1 := hC1.2.1
 have B1 := Lib.hid (B1.out.ext hx1); have B2 := Lib.hid (B2.out.ext hx1); have B3 := Lib.hid (B3.out.ext hx1)
 have hC1 := hC1.lower' e0
 have CD := Lib.hid (l4Description_c w w1 p A l c hA hC1)
 have COn := Lib.hid (fun n w' h hn => l1Once_c n w w' p A l c hA h hn)
 have CMk := Lib.hid (fun Ad ds cd kind hk h1 h2 h3 w1 h hD => l4Make_c Ad ds cd kind hk h1 h2 h3 w w1 p A l c hA h hD)
 have CWd := Lib.hid (fun Aa ds ca h1 h2 w1 h hD => l29Wider_c Aa ds ca h1 h2 w w1 p A l c hA h hD)
 have CV := Lib.hid (fun Ad ds cd hok n i h1 h2 => l9Make_c Ad ds cd hok w p A l c hA n i h1 h2)
 unfold vdesc at CD CMk CWd
 unfold vrule at CMk
 unfold MakeOk at CV
 have hpl1 := hC1.lt
 have hE1 : Ext w w1 := e0.trans hx1
 go_wp2_with fail
 refine CD.out.mono ?_; rintro _ w2 ⟨v, ps, rfl, hV, hp6, hC2, hg2⟩
 obtain ⟨Ad, cd, hv⟩ := hV.own.shape
 subst hv
 have hB1 := B1.out.moved hg2 (some_ne (by omega)); have hB2 := B2.out.moved hg2 (some_ne (by omega)); have hB3 := B3.out.moved hg2 (some_ne (by omega))
 have hpl2 := hC2.lt
 have hRl := hB3.lt
 have hs1 := hx1.size
 have hs2 := hg2.size
 have x2 := Ext_alloc (.cells #[Value.slice Ad ps.length cd] 26) (Ext.refl w2)
 have S0 : Hid (DS w W0 (w2.alloc (.cells #[Value.slice Ad ps.length cd] 26)) p A l c w2.heap.size (Value.slice Ad ps.length cd) ps w.heap.size) :=
  ⟨Box.new w2 _ _, hV.own.ext x2, fun u hu b hb => by
   have h1 := hV.new u hu b hb
   have h2 := (hV.own.block u hu b hb).2
   have := hsA.out
   exact ⟨by omega, by omega, by omega, by omega⟩, hC2.ext x2, (g01.trans hg2).trans (grown_ext x2 _), by omega, by omega, by omega, hB1.ext x2, by omega, by omega⟩
 have HB2 := Lib.hid (hB2.ext x2); have HB3 := Lib.hid (hB3.ext x2)
 have HMV : Hid (MadeD (rulesOf ps) ∧ (∀ q ∈ ps, SmallR q.r) ∧ ∃ h : 0 < (rulesOf ps).length, (rulesOf ps)[0].kind = 1) := ⟨hV.made, fun q hq => hV.small.2 _ (List.mem_map_of_mem hq), hV.first⟩
 clear hV hC2 hg2 hB1 hB2 hB3 x2 CD B1 B2 B3 hC1 hx1 g01 hs1 hE1
 go_wp2_with fail
 refine (COn.out 2 _ S0.out.cur (by omega)).mono ?_; rintro _ w3 ⟨b, rfl, hC3, hg3⟩
 have S3 := Lib.hid (S0.out.moved hC3 hg3)
 have HB23 := Lib.hid (HB2.out.moved hg3 (some_ne (by omega)))
 have HB33 := Lib.hid (HB3.out.moved hg3 (some_ne (by omega)))
 clear S0 HB2 HB3 hC3 hg3
 cases b with
 | false =>
  have HL : Hid (ps.length ≤ 7 ∧ MadeD (rulesOf ps) ∧ (∀ q ∈ ps, SmallR q.r) ∧ 0 < ps.length) := ⟨by omega, HMV.out.1, HMV.out.2.1, by obtain ⟨h, _⟩ := HMV.out.2.2; simpa [rulesOf] using h⟩
  clear HMV
  have hSD : Hid (SmallD (rulesOf ps)) := ⟨by have := HL.out.1; simp [rulesOf] at this ⊢; omega, fun r hr => by obtain ⟨q, hq, rfl⟩ := List.mem_map.1 hr; exact HL.out.2.2.1 q hq⟩
  have hlr : Hid ((rulesOf ps).length = ps.length) := by show _ = _; simp [rulesOf]
  have SX := Lib.hid (S3.out.ext (Ext_drew (Ext.refl w3)))
  have HB2X := Lib.hid (HB23.out.ext (Ext_drew (Ext.refl w3)))
  have HB3X := Lib.hid (HB33.out.ext (Ext_drew (Ext.refl w3)))
  have hok := Lib.hid (MadeD.valid HL.out.2.1 (by rw [hlr.out]; exact HL.out.2.2.2) (by rw [hlr.out]; have := HL.out.1; omega))
  have hmk := Lib.hid (made_kinds HL.out.2.1 hSD.out)
  have HSM1 : Hid (SmD (rulesOf ps)) := MadeD.sm HL.out.2.1 hSD.out
  have HAB : lv2 (fun w' => w'.cell? ⟨w2.heap.size, 0, none⟩ = some (Value.slice Ad ps.length cd)) (fun _ => True) 1 w3.drew := SX.out.box.cell 0
  have hln1 : IntKind.i64.wrap ((ps.length : Int) - 1) = (((ps.length - 1 : Nat) : Nat) : Int) := by
   have h1 := HL.out.2.2.2; have h2 := HL.out.1
   rw [IntWalk.i64_in _ (by omega)]; omega
  have HLN := Lib.hid hln1; clear hln1
  have CW : Hid (Calls Tryz.prog 22 #[.pointer (some ⟨p, 0, none⟩), .agg #[Value.slice Ad ps.length cd]] w3.drew fun e w' => ∃ A5 n5 c5 ps5, e = .returned (.agg #[.slice A5 n5 c5]) ∧ WI (rulesOf ps) ps5 (rulesOf ps).length ∧ OwnD w w' (.slice A5 n5 c5) ps5 ∧ (∀ u ∈ (Value.slice A5 n5 c5) :: ps5.flatMap RV.vals, ∀ b, u.ownBlock = some b → w3.drew.heap.size ≤ b) ∧ Cur w w' p A l c ∧ w3.drew.grownBy w' (some p)) := by
   obtain ⟨Ad', cd', hv', hrd⟩ := SX.out.rd hSD.out
   injection hv' with q1 _ q2
   subst q1; subst q2
   have h1 := CWd.out _ _ _ hSD.out hmk.out.2 _ SX.out.cur (hrd _ (World.grownBy.refl _ _))
   rw [hlr.out] at h1
   refine h1.mono ?_
   rintro e w' ⟨v, ps5, rfl, h2, h3, h4, h5, h6⟩
   obtain ⟨A5, c5, hv⟩ := h3.shape
   subst hv
   exact ⟨A5, _, c5, ps5, rfl, by rw [hlr.out]; exact h2, h3, h4, h5, h6⟩
  have CMV : Hid (∀ w', w3.drew.grownBy w' (some p) → DS w W0 w' p A l c w2.heap.size (Value.slice Ad ps.length cd) ps w.heap.size → ∀ x : Int, x = (((ps.length - 1 : Nat) : Nat) : Int) → Calls Tryz.prog 23 #[.pointer (some ⟨p, 0, none⟩), .agg #[Value.slice Ad ps.length cd], .int .i64 x, .int .i64 8] w' fun e w'' => ∃ (t : VT) (A1 : Option Addr) (n1 c1 : Nat) (A2 : Option Addr) (n2 c2 : Nat), e = .returned (.agg #[.int .i64 t.num, .slice A1 n1 c1, .slice A2 n2 c2]) ∧ Hid (t.vb = .slice A1 n1 c1 ∧ t.vi = .slice A2 n2 c2) ∧ DrawnV (rulesOf ps) (ps.length - 1) w w' w'' p A l c t) := fun w' hg hS x hx => by
   subst hx
   obtain ⟨Ad', cd', hv', hst⟩ := hS.own.stayD (fun q hq => (HL.out.2.2.1 q hq).short) (by have := HL.out.1; omega) HL.out.2.2.2 (p := p) (fun u hu b hb => (hS.new u hu b hb).2.2.1)
   rw [hlr.out] at hv'
   injection hv' with q1 _ q2
   subst q1; subst q2
   have h1 := CV.out _ _ _ hok.out (ps.length - 1) (ps.length - 1) (Nat.le_refl _) (by rw [hlr.out]; have := HL.out.2.2.2; omega) 8 (by omega) w' hS.cur hst
   rw [hlr.out] at h1
   exact h1
  clear CMk CWd CV COn S3 HB23 HB33
  go_wp2_with fail
  refine wp_region_C (C := fun j => lv2 (fun w' => w'.cell? ⟨w2.heap.size, 0, none⟩ = some (Value.slice Ad ps.length cd)) (fun _ => True) (([1, 0, 1, 1, 0, 1, 0, 1, 0, 0, 1, 0, 0, 0] : List Nat).getD j 0)) (by kernel_rfl) ?_
  refine tkC 0 (i := 1) (v := ?_) rfl (by kernel_rfl) trivial (Or.inl ⟨by rfl, ?_⟩) ?_
  rotate_left
  ·(intro w9 hSw; clear hSw; go_simp; try with_reducible rfl)
  try simp only [Act.put, lpa, lpz, lps]
  refine tkC 0 (i := 4) (v := ?_) rfl (by kernel_rfl) trivial (Or.inl ⟨by rfl, ?_⟩) ?_
  rotate_left
  ·(intro w9 hSw; clear hSw; go_simp; try with_reducible rfl)
  try simp only [Act.put, lpa, lpz, lps]
  refine tkC 0 (i := 6) (v := ?_) rfl (by kernel_rfl) trivial (Or.inl ⟨by rfl, ?_⟩) ?_
  rotate_left
  ·(intro w9 hSw; clear hSw; go_simp; try with_reducible rfl)
  try simp only [Act.put, lpa, lpz, lps]
  refine tkC 1 (i := 7) (v := ?_) rfl (by kernel_rfl) HAB (Or.inl ⟨by rfl, ?_⟩) ?_
  rotate_left
  ·(intro w9 hSw; have hfact : w9.cell? ⟨w2.heap.size, 0, none⟩ = some (Value.slice Ad ps.length cd) := hSw; clear hSw; go_simp; try with_reducible rfl)
  try simp only [Act.put, lpa, lpz, lps]
  refine tkC 0 (i := 8) (v := ?_) rfl (by kernel_rfl) trivial (Or.inl ⟨by rfl, ?_⟩) ?_
  rotate_left
  ·(intro w9 hSw; clear hSw; go_simp; try with_reducible rfl)
  try simp only [Act.put, lpa, lpz, lps]
  refine tkC 0 (i := 9) (v := ?_) rfl (by kernel_rfl) trivial (Or.inl ⟨by rfl, ?_⟩) ?_
  rotate_left
  ·(intro w9 hSw; clear hSw; go_simp; try with_reducible rfl)
  try simp only [Act.put, lpa, lpz, lps]
  refine tkC 1 (i := 0) (v := ?_) rfl (by kernel_rfl) HAB (Or.inl ⟨by rfl, ?_⟩) ?_
  rotate_left
  ·(intro w9 hSw; have hfact : w9.cell? ⟨w2.heap.size, 0, none⟩ = some (Value.slice Ad ps.length cd) := hSw; clear hSw; go_simp; try with_reducible rfl)
  try simp only [Act.put, lpa, lpz, lps]
  refine tkC 1 (i := 2) (v := ?_) rfl (by kernel_rfl) HAB (Or.inl ⟨by rfl, ?_⟩) ?_
  rotate_left
  ·(intro w9 hSw; have hfact : w9.cell? ⟨w2.heap.size, 0, none⟩ = some (Value.slice Ad ps.length cd) := hSw; clear hSw; go_simp; try with_reducible rfl)
  try simp only [Act.put, lpa, lpz, lps]
  refine tkC 1 (i := 5) (v := ?_) rfl (by kernel_rfl) HAB (Or.inl ⟨by rfl, ?_⟩) ?_
  rotate_left
  ·(intro w9 hSw; have hfact : w9.cell? ⟨w2.heap.size, 0, none⟩ = some (Value.slice Ad ps.length cd) := hSw; clear hSw; go_simp; try with_reducible rfl)
  try simp only [Act.put, lpa, lpz, lps]
  refine wpAnyC_one (i := 3) (by kernel_rfl) rfl (fun K hK => ?_)
  go_simp
  go_at_call 22
  refine CW.out.mono ?_
  rintro _ w5 ⟨A5, n5, c5, ps5, rfl, hWI, hO5, hn5, hC5, hg5⟩
  have hpX := SX.out.cur.lt
  have S5 := Lib.hid (SX.out.moved hC5 hg5)
  have HB25 := Lib.hid (HB2X.out.moved hg5 (some_ne (by omega)))
  have HB35 := Lib.hid (HB3X.out.moved hg5 (some_ne (by omega)))
  have HWI := Lib.hid hWI
  have HO5 := Lib.hid hO5
  have HN5 := Lib.hid hn5
  have CM5 := Lib.hid (CMV.out _ hg5 S5.out)
  have HW5 := Lib.hid hg5.size
  clear hWI hO5 hn5 hC5 hg5
  refine Shut.out hK _ _ (S5.out.box.cell 0) ?_
  try simp only [Act.put, lpa, lpz, lps]
  refine wpAnyC_one (i := 10) (by kernel_rfl) rfl (fun K hK => ?_)
  go_simp
  go_at_call 23
  refine (CM5.out _ (by first | exact HLN.out | (have h1 := HL.out.2.2.2; omega))).mono ?_
  rintro _ w6 ⟨t, A1, n1, c1, A2, n2, c2, rfl, hsh, hdv⟩
  have S6 := Lib.hid (S5.out.moved hdv.cur hdv.grow)
  have HB26 := Lib.hid (HB25.out.moved hdv.grow (some_ne (by omega)))
  have HB36 := Lib.hid (HB35.out.moved hdv.grow (some_ne (by omega)))
  have HO6 := Lib.hid (HO5.out.keep hdv.grow (fun u hu b hb hh => by have := HN5.out u hu b hb; injection hh with hh; omega))
  have HDV := Lib.hid hdv
  have r1 : _ = some (Value.slice none 0 0) := S6.out.res.cell 0
  have r1f := S6.out.res.free 0
  have r2 : _ = some (Value.slice none 0 0) := HB26.out.cell 0
  have r2f := HB26.out.free 0
  have r30 : _ = some (Value.int .i64 0) := HB36.out.cell 0
  have r31 : _ = some (Value.slice none 0 0) := HB36.out.cell 1
  have r32 : _ = some (Value.slice none 0 0) := HB36.out.cell 2
  have r30f := HB36.out.free 0
  have r31f := HB36.out.free 1
  have r32f := HB36.out.free 2
  clear hdv
  refine Shut.out hK _ _ (S6.out.box.cell 0) ?_
  try simp only [Act.put, lpa, lpz, lps]
  refine wpAnyC_one (i := 11) (by kernel_rfl) rfl (fun K hK => ?_)
  go_simp
  refine Shut.out hK _ _ trivial ?_
  try simp only [Act.put, lpa, lpz, lps]
  refine wpAnyC_one (i := 12) (by kernel_rfl) rfl (fun K hK => ?_)
  go_simp
  refine Shut.out hK _ _ trivial ?_
  try simp only [Act.put, lpa, lpz, lps]
  refine wpAnyC_one (i := 13) (by kernel_rfl) rfl (fun K hK => ?_)
  go_simp
  refine Shut.out hK _ _ trivial ?_
  try simp only [Act.put, lpa, lpz, lps]
  refine wpAnyC_done (by kernel_rfl) ?_ _
  have hsz := hsA.out
  have hsX := SX.out.grow.size
  have hs5 := HW5.out
  have K1 := S6.out.own.keepD (n0 := w.heap.size + 3) HSM1.out (fun u hu b hb => by have := (S6.out.new u hu b hb).1; omega)
  have K2 := HO6.out.keepD (n0 := w.heap.size + 3) (HWI.out.smD hSD.out hmk.out.1) (fun u hu b hb => by have := HN5.out u hu b hb; omega)
  have E6 : Ext w w6 := S6.out.cur.2.1
  have PF := Lib.hid (vers_fin (x0 := .int .i64 t.num) (x1 := .slice A1 n1 c1) (x2 := .slice A2 n2 c2) E6 K1 K2 HDV.out.own (fun u hu b hb => by have := HDV.out.new u hu b hb; omega) S6.out.res HB26.out HB36.out)
  clear K1 K2 E6
  obtain ⟨k1, k2, ko, ke, z1, z2, z3, z4, z5⟩ := PF.out
  have F1 := Lib.hid k1; have F2 := Lib.hid k2; have F3 := Lib.hid ko; have F4 := Lib.hid ke
  clear PF HAB k1 k2 ko ke r1 r1f r2 r2f r30 r31 r32 r30f r31f r32f
  go_wp2_with fail
  refine bodyPost_ret (v := .tuple #[.agg #[Value.slice Ad ps.length cd], .agg #[.slice A5 n5 c5], .agg #[.int .i64 t.num, .slice A1 n1 c1, .slice A2 n2 c2]]) (by simp [results, Tryz.results5, go_sem, z1, z2, z3, z4, z5]) rfl ?_
  exact ⟨_, _, rulesOf ps, ps5, t, _, _, _, _, _, _, rfl, hsh.out, ⟨HL.out.2.1, hSD.out, by rw [hlr.out]; exact HL.out.2.2.2, by rw [hlr.out]; exact HL.out.1⟩, HWI.out, F1.out, F2.out, by rw [hlr.out]; exact ⟨HDV.out.valid, HDV.out.sz⟩, F3.out, F4.out⟩
 | true =>
  have hSD : Hid (SmallD (rulesOf ps)) := ⟨by simp [rulesOf]; omega, fun r hr => by obtain ⟨q, hq, rfl⟩ := List.mem_map.1 hr; exact HMV.out.2.1 q hq⟩
  have CP : Hid (∀ (w' : World), DS w W0 w' p A l c w2.heap.size (.slice Ad ps.length cd) ps w.heap.size → Calls Tryz.prog 21 #[.pointer (some ⟨p, 0, none⟩), .agg #[.slice Ad ps.length cd], .int .i64 7] w' fun e w'' => ∃ q : RV, e = .returned (.agg #[.string q.r.nm, .int .i64 q.r.kind, .int .i64 q.r.size, .bool q.r.little, q.vb, q.vn, q.vt, q.vk]) ∧ SmallR q.r ∧ q.r.kind = 7 ∧ MadeR (rulesOf ps) q.r ∧ RuleOwn w w'' q ∧ Far q.vals ∧ (∀ u ∈ q.vals, ∀ b, u.ownBlock = some b → w'.heap.size ≤ b) ∧ Cur w w'' p A l c ∧ w'.grownBy w'' (some p)) := fun w' hS' => by
   obtain ⟨Ad', cd', hv', hrd⟩ := hS'.rd hSD.out
   injection hv' with q1 _ q2
   subst q1; subst q2
   have h1 := CMk.out Ad (rulesOf ps) cd 7 (by omega) (by simp [rulesOf]; omega) (.inr ⟨0, HMV.out.2.2⟩) HMV.out.1 w' hS'.cur hrd
   rw [show (rulesOf ps).length = ps.length by simp [rulesOf]] at h1
   exact h1
  have SX := Lib.hid (S3.out.ext (Ext_drew (Ext.refl w3)))
  have HB2X := Lib.hid (HB23.out.ext (Ext_drew (Ext.refl w3)))
  have HB3X := Lib.hid (HB33.out.ext (Ext_drew (Ext.refl w3)))
  have HMX : Hid (ps.length + 1 ≤ maxLen ∧ (ps.length + 1) * 136 ≤ 140737488355328) := ⟨by simp only [maxLen]; omega, by omega⟩
  have HPre : Hid (∀ w', DS w W0 w' p A l c w2.heap.size (.slice Ad ps.length cd) ps w.heap.size → (∀ u ∈ (Value.slice Ad ps.length cd) :: ps.flatMap RV.vals, ∀ b, u.ownBlock = some b → b < w'.heap.size) ∧ (W0.heap.size ≤ w'.heap.size ∧ w2.heap.size < w'.heap.size ∧ p < w'.heap.size ∧ w.heap.size < w'.heap.size)) := fun w' h => by
   have h1 := h.grow.size; have h2 := h.box.lt; have h3 := h.cur.lt; have h4 := h.res.lt
   exact ⟨fun u hu b hb => (h.own.block u hu b hb).2, h1, h2, h3, h4⟩
  have HAB : lv2 (fun w' => w'.cell? ⟨w2.heap.size, 0, none⟩ = some (Value.slice Ad ps.length cd)) (fun _ => True) 1 w3.drew := SX.out.box.cell 0
  clear S3 HB23 HB33 CMk
  go_wp2_with fail
  refine wp_region_C (C := fun j => lv2 (fun w' => w'.cell? ⟨w2.heap.size, 0, none⟩ = some (Value.slice Ad ps.length cd)) (fun _ => True) (([0, 1, 0, 1, 1, 1, 1, 0, 0] : List Nat).getD j 0)) (by kernel_rfl) ?_
  refine tkC 0 (i := 0) (v := ?_) rfl (by kernel_rfl) trivial (Or.inl ⟨by rfl, ?_⟩) ?_
  rotate_left
  ·(intro w9 hSw; clear hSw; go_simp; try with_reducible rfl)
  try simp only [Act.put, lpa, lpz, lps]
  refine tkC 0 (i := 2) (v := ?_) rfl (by kernel_rfl) trivial (Or.inl ⟨by rfl, ?_⟩) ?_
  rotate_left
  ·(intro w9 hSw; clear hSw; go_simp; try with_reducible rfl)
  try simp only [Act.put, lpa, lpz, lps]
  refine tkC 1 (i := 1) (v := ?_) rfl (by kernel_rfl) HAB (Or.inl ⟨by rfl, ?_⟩) ?_
  rotate_left
  ·(intro w9 hSw; have hfact : w9.cell? ⟨w2.heap.size, 0, none⟩ = some (Value.slice Ad ps.length cd) := hSw; clear hSw; go_simp; try with_reducible rfl)
  try simp only [Act.put, lpa, lpz, lps]
  refine tkC 1 (i := 3) (v := ?_) rfl (by kernel_rfl) HAB (Or.inl ⟨by rfl, ?_⟩) ?_
  rotate_left
  ·(intro w9 hSw; have hfact : w9.cell? ⟨w2.heap.size, 0, none⟩ = some (Value.slice Ad ps.length cd) := hSw; clear hSw; go_simp; try with_reducible rfl)
  try simp only [Act.put, lpa, lpz, lps]
  refine wpAnyC_one (i := 4) (by kernel_rfl) rfl (fun K hK => ?_)
  go_simp
  go_at_call 21
  refine (CP.out _ SX.out).mono ?_
  rintro _ w6 ⟨q, rfl, hsm, hkq, hmr, hro, hfr, hnb, hC6, hg6⟩
  have S6 := Lib.hid (DS.moved SX.out hC6 hg6)
  have HB26 := Lib.hid (HB2X.out.moved hg6 (some_ne (by omega)))
  have HB36 := Lib.hid (HB3X.out.moved hg6 (some_ne (by omega)))
  have hone := Lib.hid (vals_cells_one q hro hsm.short)
  have HRO := Lib.hid (hro.ext (Ext_alloc (.cells #[.string q.r.nm, .int .i64 q.r.kind, .int .i64 q.r.size, .bool q.r.little, q.vb, q.vn, q.vt, q.vk] 51) (Ext.refl _)))
  have HSM := Lib.hid hsm
  have HMR := Lib.hid hmr
  have HFR := Lib.hid hfr
  have HNB := Lib.hid hnb
  have HOLD := Lib.hid (HPre.out _ SX.out).1
  have HNG := Lib.hid (HPre.out _ SX.out).2
  clear hC6 hg6 hsm hmr hkq hro hfr hnb
  refine Shut.out hK _ _ (S6.out.box.cell 0) ?_
  try simp only [Act.put, lpa, lpz, lps]
  refine wpAnyC_one (i := 5) (by kernel_rfl) rfl (fun K hK => ?_)
  go_simp
  have S5' := Lib.hid (S6.out.ext (Ext_alloc (.cells #[.string q.r.nm, .int .i64 q.r.kind, .int .i64 q.r.size, .bool q.r.little, q.vb, q.vn, q.vt, q.vk] 51) (Ext.refl _)))
  have HB25' := Lib.hid (HB26.out.ext (Ext_alloc (.cells #[.string q.r.nm, .int .i64 q.r.kind, .int .i64 q.r.size, .bool q.r.little, q.vb, q.vn, q.vt, q.vk] 51) (Ext.refl _)))
  have HB35' := Lib.hid (HB36.out.ext (Ext_alloc (.cells #[.string q.r.nm, .int .i64 q.r.kind, .int .i64 q.r.size, .bool q.r.little, q.vb, q.vn, q.vt, q.vk] 51) (Ext.refl _)))
  refine Shut.out hK _ _ (S5'.out.box.cell 0) ?_
  try simp only [Act.put, lpa, lpz, lps]
  refine wpAnyC_one (i := 6) (by kernel_rfl) rfl (fun K hK => ?_)
  refine step_app8 rfl (.tmp 14) (.tmp 18) _ rfl E_rule w (w6.alloc (.cells #[.string q.r.nm, .int .i64 q.r.kind, .int .i64 q.r.size, .bool q.r.little, q.vb, q.vn, q.vt, q.vk] 51)) (Value.slice Ad ps.length cd) ps.length (ps.flatMap RV.cells) rfl S5'.out.own.row S5'.out.cur.2.1.size ⟨w6.heap.size, 0, none⟩ 1 1 (RV.cells q) rfl rfl (fun j u hu => (World.cell?_alloc_at' w6 (RV.cells q) 51 j).trans hu) hone.out HMX.out.1 HMX.out.2 ?_
  intro v7 w7 ho7 hg7 hv7
  have hvb := (S5'.out.new _ (List.mem_cons_self ..))
  obtain ⟨⟨z7, y7⟩, M7⟩ := DS.snoc S5'.out HRO.out HFR.out HOLD.out HNB.out HNG.out ho7 (S5'.out.cur.2.1.grown hg7 (fun k hk => (World.ownsRow.lt S5'.out.own.row k hk).1)) hg7 hv7
  obtain ⟨A7, c7, hsh⟩ := M7.own.shape
  have hl7 := congrArg List.length (rfl : ps ++ [q] = ps ++ [q])
  obtain ⟨ps', hps⟩ : ∃ ps', ps ++ [q] = ps' := ⟨_, rfl⟩
  rw [hps] at hsh M7
  subst hsh
  have HB27 := Lib.hid (HB25'.out.moved hg7 (fun hh => by have := (hvb _ hh).1; have := hsA.out; omega))
  have HB37 := Lib.hid (HB35'.out.moved hg7 (fun hh => by have := (hvb _ hh).1; have := hsA.out; omega))
  have HPS := Lib.hid hps
  clear ho7 hg7 hv7 hvb hl7 hps
  have M7 := Lib.hid M7
  refine Shut.out hK _ _ z7 ?_
  try simp only [Act.put, lpa, lpz, lps]
  refine wpAnyC_one (i := 7) (by kernel_rfl) rfl (fun K hK => ?_)
  go_simp
  refine Shut.out hK _ _ trivial ?_
  try simp only [Act.put, lpa, lpz, lps]
  refine wpAnyC_one (i := 8) (by kernel_rfl) rfl (fun K hK => ?_)
  go_simp
  refine Shut.out hK _ _ trivial ?_
  try simp only [Act.put, lpa, lpz, lps]
  refine wpAnyC_done (by kernel_rfl) ?_ _
  have HL : Hid (ps'.length ≤ 7 ∧ MadeD (rulesOf ps') ∧ (∀ u ∈ ps', SmallR u.r) ∧ 0 < ps'.length) := by
   rw [← HPS.out]
   obtain ⟨h1, h2, _⟩ := HMV.out
   have e : rulesOf (ps ++ [q]) = rulesOf ps ++ [q.r] := by simp [rulesOf]
   refine ⟨by simp; omega, by rw [e]; exact h1.snoc HMR.out, fun r hr => ?_, by simp⟩
   rcases List.mem_append.1 hr with h6 | h6
   ·exact h2 r h6
   ·rw [List.mem_singleton.1 h6]; exact HSM.out
  have HB29 := Lib.hid (HB27.out.other (g' := w2.heap.size) (by omega) 0 (.slice A7 ps'.length c7))
  have HB39 := Lib.hid (HB37.out.other (g' := w2.heap.size) (by omega) 0 (.slice A7 ps'.length c7))
  clear HMV HMR HSM HAB z7 y7 HB27 HB37 S5' S6 HB25' HB35' HB26 HB36 SX HB2X HB3X HRO HFR HNB HOLD HNG hone hSD HPS HMX HPre CP
  have hSD : Hid (SmallD (rulesOf ps')) := ⟨by have := HL.out.1; simp [rulesOf] at this ⊢; omega, fun r hr => by obtain ⟨q, hq, rfl⟩ := List.mem_map.1 hr; exact HL.out.2.2.1 q hq⟩
  have hlr : Hid ((rulesOf ps').length = ps'.length) := by show _ = _; simp [rulesOf]
  have SX := Lib.hid (M7.out.ext (Ext_drew (Ext.refl (w7.setCell ⟨w2.heap.size, 0, none⟩ (.slice A7 ps'.length c7)))))
  have HB2X := Lib.hid (HB29.out.ext (Ext_drew (Ext.refl (w7.setCell ⟨w2.heap.size, 0, none⟩ (.slice A7 ps'.length c7)))))
  have HB3X := Lib.hid (HB39.out.ext (Ext_drew (Ext.refl (w7.setCell ⟨w2.heap.size, 0, none⟩ (.slice A7 ps'.length c7)))))
  have hok := Lib.hid (MadeD.valid HL.out.2.1 (by rw [hlr.out]; exact HL.out.2.2.2) (by rw [hlr.out]; have := HL.out.1; omega))
  have hmk := Lib.hid (made_kinds HL.out.2.1 hSD.out)
  have HSM1 : Hid (SmD (rulesOf ps')) := MadeD.sm HL.out.2.1 hSD.out
  have HAB : lv2 (fun w' => w'.cell? ⟨w2.heap.size, 0, none⟩ = some (Value.slice A7 ps'.length c7)) (fun _ => True) 1 (w7.setCell ⟨w2.heap.size, 0, none⟩ (.slice A7 ps'.length c7)).drew := SX.out.box.cell 0
  have hln1 : IntKind.i64.wrap ((ps'.length : Int) - 1) = (((ps'.length - 1 : Nat) : Nat) : Int) := by
   have h1 := HL.out.2.2.2; have h2 := HL.out.1
   rw [IntWalk.i64_in _ (by omega)]; omega
  have HLN := Lib.hid hln1; clear hln1
  have CW : Hid (Calls Tryz.prog 22 #[.pointer (some ⟨p, 0, none⟩), .agg #[Value.slice A7 ps'.length c7]] (w7.setCell ⟨w2.heap.size, 0, none⟩ (.slice A7 ps'.length c7)).drew fun e w' => ∃ A5 n5 c5 ps5, e = .returned (.agg #[.slice A5 n5 c5]) ∧ WI (rulesOf ps') ps5 (rulesOf ps').length ∧ OwnD w w' (.slice A5 n5 c5) ps5 ∧ (∀ u ∈ (Value.slice A5 n5 c5) :: ps5.flatMap RV.vals, ∀ b, u.ownBlock = some b → (w7.setCell ⟨w2.heap.size, 0, none⟩ (.slice A7 ps'.length c7)).drew.heap.size ≤ b) ∧ Cur w w' p A l c ∧ (w7.setCell ⟨w2.heap.size, 0, none⟩ (.slice A7 ps'.length c7)).drew.grownBy w' (some p)) := by
   obtain ⟨Ad', cd', hv', hrd⟩ := SX.out.rd hSD.out
   injection hv' with q1 _ q2
   subst q1; subst q2
   have h1 := CWd.out _ _ _ hSD.out hmk.out.2 _ SX.out.cur (hrd _ (World.grownBy.refl _ _))
   rw [hlr.out] at h1
   refine h1.mono ?_
   rintro e w' ⟨v, ps5, rfl, h2, h3, h4, h5, h6⟩
   obtain ⟨A5, c5, hv⟩ := h3.shape
   subst hv
   exact ⟨A5, _, c5, ps5, rfl, by rw [hlr.out]; exact h2, h3, h4, h5, h6⟩
  have CMV : Hid (∀ w', (w7.setCell ⟨w2.heap.size, 0, none⟩ (.slice A7 ps'.length c7)).drew.grownBy w' (some p) → DS w W0 w' p A l c w2.heap.size (Value.slice A7 ps'.length c7) ps' w.heap.size → ∀ x : Int, x = (((ps'.length - 1 : Nat) : Nat) : Int) → Calls Tryz.prog 23 #[.pointer (some ⟨p, 0, none⟩), .agg #[Value.slice A7 ps'.length c7], .int .i64 x, .int .i64 8] w' fun e w'' => ∃ (t : VT) (A1 : Option Addr) (n1 c1 : Nat) (A2 : Option Addr) (n2 c2 : Nat), e = .returned (.agg #[.int .i64 t.num, .slice A1 n1 c1, .slice A2 n2 c2]) ∧ Hid (t.vb = .slice A1 n1 c1 ∧ t.vi = .slice A2 n2 c2) ∧ DrawnV (rulesOf ps') (ps'.length - 1) w w' w'' p A l c t) := fun w' hg hS x hx => by
   subst hx
   obtain ⟨Ad', cd', hv', hst⟩ := hS.own.stayD (fun q hq => (HL.out.2.2.1 q hq).short) (by have := HL.out.1; omega) HL.out.2.2.2 (p := p) (fun u hu b hb => (hS.new u hu b hb).2.2.1)
   rw [hlr.out] at hv'
   injection hv' with q1 _ q2
   subst q1; subst q2
   have h1 := CV.out _ _ _ hok.out (ps'.length - 1) (ps'.length - 1) (Nat.le_refl _) (by rw [hlr.out]; have := HL.out.2.2.2; omega) 8 (by omega) w' hS.cur hst
   rw [hlr.out] at h1
   exact h1
  clear CWd CV COn M7 HB29 HB39
  go_wp2_with fail
  refine wp_region_C (C := fun j => lv2 (fun w' => w'.cell? ⟨w2.heap.size, 0, none⟩ = some (Value.slice A7 ps'.length c7)) (fun _ => True) (([1, 0, 1, 1, 0, 1, 0, 1, 0, 0, 1, 0, 0, 0] : List Nat).getD j 0)) (by kernel_rfl) ?_
  refine tkC 0 (i := 1) (v := ?_) rfl (by kernel_rfl) trivial (Or.inl ⟨by rfl, ?_⟩) ?_
  rotate_left
  ·(intro w9 hSw; clear hSw; go_simp; try with_reducible rfl)
  try simp only [Act.put, lpa, lpz, lps]
  refine tkC 0 (i := 4) (v := ?_) rfl (by kernel_rfl) trivial (Or.inl ⟨by rfl, ?_⟩) ?_
  rotate_left
  ·(intro w9 hSw; clear hSw; go_simp; try with_reducible rfl)
  try simp only [Act.put, lpa, lpz, lps]
  refine tkC 0 (i := 6) (v := ?_) rfl (by kernel_rfl) trivial (Or.inl ⟨by rfl, ?_⟩) ?_
  rotate_left
  ·(intro w9 hSw; clear hSw; go_simp; try with_reducible rfl)
  try simp only [Act.put, lpa, lpz, lps]
  refine tkC 1 (i := 7) (v := ?_) rfl (by kernel_rfl) HAB (Or.inl ⟨by rfl, ?_⟩) ?_
  rotate_left
  ·(intro w9 hSw; have hfact : w9.cell? ⟨w2.heap.size, 0, none⟩ = some (Value.slice A7 ps'.length c7) := hSw; clear hSw; go_simp; try with_reducible rfl)
  try simp only [Act.put, lpa, lpz, lps]
  refine tkC 0 (i := 8) (v := ?_) rfl (by kernel_rfl) trivial (Or.inl ⟨by rfl, ?_⟩) ?_
  rotate_left
  ·(intro w9 hSw; clear hSw; go_simp; try with_reducible rfl)
  try simp only [Act.put, lpa, lpz, lps]
  refine tkC 0 (i := 9) (v := ?_) rfl (by kernel_rfl) trivial (Or.inl ⟨by rfl, ?_⟩) ?_
  rotate_left
  ·(intro w9 hSw; clear hSw; go_simp; try with_reducible rfl)
  try simp only [Act.put, lpa, lpz, lps]
  refine tkC 1 (i := 0) (v := ?_) rfl (by kernel_rfl) HAB (Or.inl ⟨by rfl, ?_⟩) ?_
  rotate_left
  ·(intro w9 hSw; have hfact : w9.cell? ⟨w2.heap.size, 0, none⟩ = some (Value.slice A7 ps'.length c7) := hSw; clear hSw; go_simp; try with_reducible rfl)
  try simp only [Act.put, lpa, lpz, lps]
  refine tkC 1 (i := 2) (v := ?_) rfl (by kernel_rfl) HAB (Or.inl ⟨by rfl, ?_⟩) ?_
  rotate_left
  ·(intro w9 hSw; have hfact : w9.cell? ⟨w2.heap.size, 0, none⟩ = some (Value.slice A7 ps'.length c7) := hSw; clear hSw; go_simp; try with_reducible rfl)
  try simp only [Act.put, lpa, lpz, lps]
  refine tkC 1 (i := 5) (v := ?_) rfl (by kernel_rfl) HAB (Or.inl ⟨by rfl, ?_⟩) ?_
  rotate_left
  ·(intro w9 hSw; have hfact : w9.cell? ⟨w2.heap.size, 0, none⟩ = some (Value.slice A7 ps'.length c7) := hSw; clear hSw; go_simp; try with_reducible rfl)
  try simp only [Act.put, lpa, lpz, lps]
  refine wpAnyC_one (i := 3) (by kernel_rfl) rfl (fun K hK => ?_)
  go_simp
  go_at_call 22
  refine CW.out.mono ?_
  rintro _ w5 ⟨A5, n5, c5, ps5, rfl, hWI, hO5, hn5, hC5, hg5⟩
  have hpX := SX.out.cur.lt
  have S5 := Lib.hid (SX.out.moved hC5 hg5)
  have HB25 := Lib.hid (HB2X.out.moved hg5 (some_ne (by omega)))
  have HB35 := Lib.hid (HB3X.out.moved hg5 (some_ne (by omega)))
  have HWI := Lib.hid hWI
  have HO5 := Lib.hid hO5
  have HN5 := Lib.hid hn5
  have CM5 := Lib.hid (CMV.out _ hg5 S5.out)
  have HW5 := Lib.hid hg5.size
  clear hWI hO5 hn5 hC5 hg5
  refine Shut.out hK _ _ (S5.out.box.cell 0) ?_
  try simp only [Act.put, lpa, lpz, lps]
  refine wpAnyC_one (i := 10) (by kernel_rfl) rfl (fun K hK => ?_)
  go_simp
  go_at_call 23
  refine (CM5.out _ (by first | exact HLN.out | (have h1 := HL.out.2.2.2; omega))).mono ?_
  rintro _ w6 ⟨t, A1, n1, c1, A2, n2, c2, rfl, hsh, hdv⟩
  have S6 := Lib.hid (S5.out.moved hdv.cur hdv.grow)
  have HB26 := Lib.hid (HB25.out.moved hdv.grow (some_ne (by omega)))
  have HB36 := Lib.hid (HB35.out.moved hdv.grow (some_ne (by omega)))
  have HO6 := Lib.hid (HO5.out.keep hdv.grow (fun u hu b hb hh => by have := HN5.out u hu b hb; injection hh with hh; omega))
  have HDV := Lib.hid hdv
  have r1 : _ = some (Value.slice none 0 0) := S6.out.res.cell 0
  have r1f := S6.out.res.free 0
  have r2 : _ = some (Value.slice none 0 0) := HB26.out.cell 0
  have r2f := HB26.out.free 0
  have r30 : _ = some (Value.int .i64 0) := HB36.out.cell 0
  have r31 : _ = some (Value.slice none 0 0) := HB36.out.cell 1
  have r32 : _ = some (Value.slice none 0 0) := HB36.out.cell 2
  have r30f := HB36.out.free 0
  have r31f := HB36.out.free 1
  have r32f := HB36.out.free 2
  clear hdv
  refine Shut.out hK _ _ (S6.out.box.cell 0) ?_
  try simp only [Act.put, lpa, lpz, lps]
  refine wpAnyC_one (i := 11) (by kernel_rfl) rfl (fun K hK => ?_)
  go_simp
  refine Shut.out hK _ _ trivial ?_
  try simp only [Act.put, lpa, lpz, lps]
  refine wpAnyC_one (i := 12) (by kernel_rfl) rfl (fun K hK => ?_)
  go_simp
  refine Shut.out hK _ _ trivial ?_
  try simp only [Act.put, lpa, lpz, lps]
  refine wpAnyC_one (i := 13) (by kernel_rfl) rfl (fun K hK => ?_)
  go_simp
  refine Shut.out hK _ _ trivial ?_
  try simp only [Act.put, lpa, lpz, lps]
  refine wpAnyC_done (by kernel_rfl) ?_ _
  have hsz := hsA.out
  have hsX := SX.out.grow.size
  have hs5 := HW5.out
  have K1 := S6.out.own.keepD (n0 := w.heap.size + 3) HSM1.out (fun u hu b hb => by have := (S6.out.new u hu b hb).1; omega)
  have K2 := HO6.out.keepD (n0 := w.heap.size + 3) (HWI.out.smD hSD.out hmk.out.1) (fun u hu b hb => by have := HN5.out u hu b hb; omega)
  have E6 : Ext w w6 := S6.out.cur.2.1
  have PF := Lib.hid (vers_fin (x0 := .int .i64 t.num) (x1 := .slice A1 n1 c1) (x2 := .slice A2 n2 c2) E6 K1 K2 HDV.out.own (fun u hu b hb => by have := HDV.out.new u hu b hb; omega) S6.out.res HB26.out HB36.out)
  clear K1 K2 E6
  obtain ⟨k1, k2, ko, ke, z1, z2, z3, z4, z5⟩ := PF.out
  have F1 := Lib.hid k1; have F2 := Lib.hid k2; have F3 := Lib.hid ko; have F4 := Lib.hid ke
  clear PF HAB k1 k2 ko ke r1 r1f r2 r2f r30 r31 r32 r30f r31f r32f
  go_wp2_with fail
  refine bodyPost_ret (v := .tuple #[.agg #[Value.slice A7 ps'.length c7], .agg #[.slice A5 n5 c5], .agg #[.int .i64 t.num, .slice A1 n1 c1, .slice A2 n2 c2]]) (by simp [results, Tryz.results5, go_sem, z1, z2, z3, z4, z5]) rfl ?_
  exact ⟨_, _, rulesOf ps', ps5, t, _, _, _, _, _, _, rfl, hsh.out, ⟨HL.out.2.1, hSD.out, by rw [hlr.out]; exact HL.out.2.2.2, by rw [hlr.out]; exact HL.out.1⟩, HWI.out, F1.out, F2.out, by rw [hlr.out]; exact ⟨HDV.out.valid, HDV.out.sz⟩, F3.out, F4.out⟩
end Go.Proofs.YtpmcofmdjckijaaGreatDoor
