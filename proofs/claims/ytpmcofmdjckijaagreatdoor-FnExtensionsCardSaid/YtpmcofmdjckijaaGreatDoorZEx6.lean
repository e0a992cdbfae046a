/- Kinds of rules, of the reference. -/
import Derived.Test.YtpmcofmdjckijaaGreatDoorZEx5
set_option linter.unusedVariables false
set_option linter.unusedSimpArgs false
set_option maxRecDepth 100000
set_option maxHeartbeats 16000000
namespace Go.Proofs.YtpmcofmdjckijaaGreatDoor
open Go.RowKit Go.Sort
theorem sKind1_c (A : Option Addr) (ds : List DRule) (c : Nat) (r : DRule) (Ab : Option Addr) (cb : Nat) (An : Option Addr) (cn : Nat) (At : Option Addr) (ct : Nat) (Ak : Option Addr) (ck : Nat) (w : World) (hd : RdD w A ds c) (h : RdS w r Ab cb An cn At ct Ak ck) (hs : ShortR r) (hw : WfR r) (hk : r.kind = 1) :
 Gives Tryz.prog 87 #[vdesc (.slice A ds.length c), vrule r (.slice Ab r.bytes.length cb) (.slice An r.names.length cn) (.slice At r.tags.length ct) (.slice Ak r.kids.length ck)] w (.bool ((!r.little || r.kind == 1) && kindOk ds r)) := by
 have eb := Ext_alloc (.cells #[.string r.nm, .int .i64 r.kind, .int .i64 r.size, .bool r.little, .slice Ab r.bytes.length cb, .slice An r.names.length cn, .slice At r.tags.length ct, .slice Ak r.kids.length ck] 51) (Ext_alloc (.cells #[.slice A ds.length c] 26) (Ext.refl w))
 have BX := fun w' (e : Ext ((w.alloc (.cells #[.slice A ds.length c] 26)).alloc (.cells #[.string r.nm, .int .i64 r.kind, .int .i64 r.size, .bool r.little, .slice Ab r.bytes.length cb, .slice An r.names.length cn, .slice At r.tags.length ct, .slice Ak r.kids.length ck] 51)) w') => boxed2 e
 have B0 := fun w' e => (BX w' e).1
 have B1 := fun w' e => (BX w' e).2.1
 clear BX
 have t1 : (r.kind == 1) = true := by rw [hk]; rfl
 have t2 : (r.kind == 2) = false := by rw [hk]; rfl
 have t3 : (r.kind == 3) = false := by rw [hk]; rfl
 have t4 : (r.kind == 4) = false := by rw [hk]; rfl
 have t5 : (r.kind == 5) = false := by rw [hk]; rfl
 have t6 : (r.kind == 6) = false := by rw [hk]; rfl
 have t7 : (r.kind == 7) = false := by rw [hk]; rfl
 have t8 : (r.kind == 8) = false := by rw [hk]; rfl
 have t9 : (r.kind == 9) = false := by rw [hk]; rfl
 have t10 : (r.kind == 10) = false := by rw [hk]; rfl
 have HV : Hid (((!r.little || r.kind == 1) && kindOk ds r) = ((plainB r true false false false 0 && (!r.little || r.kind == 1)) && (between r.size 1 4 && (!r.little || decide (1 < r.size))))) := by
  have : kindOk ds r = (plainB r true false false false 0 && (between r.size 1 4 && (!r.little || decide (1 < r.size)))) := by simp [kindOk, hk, Bool.and_assoc]
  show _ = _; rw [this]; cases (!r.little || r.kind == 1) <;> simp
 rw [HV.out]
 have CP := Lib.hid (fun w => sShape1000_c r Ab cb An cn At ct Ak ck 0 w h.lens)
 generalize (plainB r true false false false 0 && (!r.little || r.kind == 1)) = p at *
 clear HV hk
 have CI := Lib.hid (fun w => l1In_c r.size 1 4 w)
 have HB : Hid (between r.size 1 4 = (decide (((1) : Int) ≤ r.size) && decide (r.size ≤ 4))) := rfl
 rw [← HB.out] at CI
 clear HB
 generalize between r.size 1 4 = q at *
 unfold vrule vdesc at *
 cases p
 ·go_enter Tryz.func87, Tryz.ntmps87
  go_wp2_with fail
  refine (CP.out _).mono ?_; rintro _ w1 ⟨rfl, he1⟩
  go_wp2
  go_ret
  exact ⟨ret_bool (by simp), eb.trans he1⟩
 cases q
 ·go_enter Tryz.func87, Tryz.ntmps87
  go_wp2_with fail
  refine (CP.out _).mono ?_; rintro _ w1 ⟨rfl, he1⟩
  go_wp2_with fail
  refine (CI.out _).mono ?_; rintro _ w2 ⟨rfl, he2⟩
  go_wp2
  go_ret
  exact ⟨ret_bool (by simp), eb.trans (he1.trans he2)⟩
 generalize r.little = li at *
 cases li
 all_goals
  cases hz : decide (1 < r.size)
  all_goals
   go_enter Tryz.func87, Tryz.ntmps87
   go_wp2_with fail
   refine (CP.out _).mono ?_; rintro _ w1 ⟨rfl, he1⟩
   go_wp2_with fail
   refine (CI.out _).mono ?_; rintro _ w2 ⟨rfl, he2⟩
   have e2 := he1.trans he2
   go_wp2
   go_ret
   exact ⟨ret_bool (by simp), eb.trans e2⟩
theorem sKind2_c (A : Option Addr) (ds : List DRule) (c : Nat) (r : DRule) (Ab : Option Addr) (cb : Nat) (An : Option Addr) (cn : Nat) (At : Option Addr) (ct : Nat) (Ak : Option Addr) (ck : Nat) (w : World) (hd : RdD w A ds c) (h : RdS w r Ab cb An cn At ct Ak ck) (hs : ShortR r) (hw : WfR r) (hk : r.kind = 2) :
 Gives Tryz.prog 87 #[vdesc (.slice A ds.length c), vrule r (.slice Ab r.bytes.length cb) (.slice An r.names.length cn) (.slice At r.tags.length ct) (.slice Ak r.kids.length ck)] w (.bool ((!r.little || r.kind == 1) && kindOk ds r)) := by
 have eb := Ext_alloc (.cells #[.string r.nm, .int .i64 r.kind, .int .i64 r.size, .bool r.little, .slice Ab r.bytes.length cb, .slice An r.names.length cn, .slice At r.tags.length ct, .slice Ak r.kids.length ck] 51) (Ext_alloc (.cells #[.slice A ds.length c] 26) (Ext.refl w))
 have BX := fun w' (e : Ext ((w.alloc (.cells #[.slice A ds.length c] 26)).alloc (.cells #[.string r.nm, .int .i64 r.kind, .int .i64 r.size, .bool r.little, .slice Ab r.bytes.length cb, .slice An r.names.length cn, .slice At r.tags.length ct, .slice Ak r.kids.length ck] 51)) w') => boxed2 e
 have B0 := fun w' e => (BX w' e).1
 have B1 := fun w' e => (BX w' e).2.1
 clear BX
 have t1 : (r.kind == 1) = false := by rw [hk]; rfl
 have t2 : (r.kind == 2) = true := by rw [hk]; rfl
 have t3 : (r.kind == 3) = false := by rw [hk]; rfl
 have t4 : (r.kind == 4) = false := by rw [hk]; rfl
 have t5 : (r.kind == 5) = false := by rw [hk]; rfl
 have t6 : (r.kind == 6) = false := by rw [hk]; rfl
 have t7 : (r.kind == 7) = false := by rw [hk]; rfl
 have t8 : (r.kind == 8) = false := by rw [hk]; rfl
 have t9 : (r.kind == 9) = false := by rw [hk]; rfl
 have t10 : (r.kind == 10) = false := by rw [hk]; rfl
 have HV : Hid (((!r.little || r.kind == 1) && kindOk ds r) = ((plainB r false true false false 0 && (!r.little || r.kind == 1)) && (between r.bytes.length 1 16))) := by
  have : kindOk ds r = (plainB r false true false false 0 && (between r.bytes.length 1 16)) := by simp [kindOk, hk, Bool.and_assoc]
  show _ = _; rw [this]; cases (!r.little || r.kind == 1) <;> simp
 rw [HV.out]
 have CP := Lib.hid (fun w => sShape0100_c r Ab cb An cn At ct Ak ck 0 w h.lens)
 generalize (plainB r false true false false 0 && (!r.little || r.kind == 1)) = p at *
 clear HV hk
 have CI := Lib.hid (fun w => l1In_c (r.bytes.length : Int) 1 16 w)
 have HB : Hid (between r.bytes.length 1 16 = (decide (((1) : Int) ≤ (r.bytes.length : Int)) && decide ((r.bytes.length : Int) ≤ 16))) := rfl
 rw [← HB.out] at CI
 clear HB
 generalize between r.bytes.length 1 16 = q at *
 have hlb := h.lens.1
 unfold vrule vdesc at *
 cases p
 ·go_enter Tryz.func87, Tryz.ntmps87
  go_wp2_with fail
  refine (CP.out _).mono ?_; rintro _ w1 ⟨rfl, he1⟩
  go_wp2
  go_ret
  exact ⟨ret_bool (by simp), eb.trans he1⟩
 go_enter Tryz.func87, Tryz.ntmps87
 go_wp2_with fail
 refine (CP.out _).mono ?_; rintro _ w1 ⟨rfl, he1⟩
 go_wp2_with fail
 refine (CI.out _).mono ?_; rintro _ w2 ⟨rfl, he2⟩
 go_wp2
 go_ret
 exact ⟨ret_bool (by simp), eb.trans (he1.trans he2)⟩
theorem sKind3_c (A : Option Addr) (ds : List DRule) (c : Nat) (r : DRule) (Ab : Option Addr) (cb : Nat) (An : Option Addr) (cn : Nat) (At : Option Addr) (ct : Nat) (Ak : Option Addr) (ck : Nat) (w : World) (hd : RdD w A ds c) (h : RdS w r Ab cb An cn At ct Ak ck) (hs : ShortR r) (hw : WfR r) (hk : r.kind = 3) :
 Gives Tryz.prog 87 #[vdesc (.slice A ds.length c), vrule r (.slice Ab r.bytes.length cb) (.slice An r.names.length cn) (.slice At r.tags.length ct) (.slice Ak r.kids.length ck)] w (.bool ((!r.little || r.kind == 1) && kindOk ds r)) := by
 have eb := Ext_alloc (.cells #[.string r.nm, .int .i64 r.kind, .int .i64 r.size, .bool r.little, .slice Ab r.bytes.length cb, .slice An r.names.length cn, .slice At r.tags.length ct, .slice Ak r.kids.length ck] 51) (Ext_alloc (.cells #[.slice A ds.length c] 26) (Ext.refl w))
 have BX := fun w' (e : Ext ((w.alloc (.cells #[.slice A ds.length c] 26)).alloc (.cells #[.string r.nm, .int .i64 r.kind, .int .i64 r.size, .bool r.little, .slice Ab r.bytes.length cb, .slice An r.names.length cn, .slice At r.tags.length ct, .slice Ak r.kids.length ck] 51)) w') => boxed2 e
 have B0 := fun w' e => (BX w' e).1
 have B1 := fun w' e => (BX w' e).2.1
 clear BX
 have t1 : (r.kind == 1) = false := by rw [hk]; rfl
 have t2 : (r.kind == 2) = false := by rw [hk]; rfl
 have t3 : (r.kind == 3) = true := by rw [hk]; rfl
 have t4 : (r.kind == 4) = false := by rw [hk]; rfl
 have t5 : (r.kind == 5) = false := by rw [hk]; rfl
 have t6 : (r.kind == 6) = false := by rw [hk]; rfl
 have t7 : (r.kind == 7) = false := by rw [hk]; rfl
 have t8 : (r.kind == 8) = false := by rw [hk]; rfl
 have t9 : (r.kind == 9) = false := by rw [hk]; rfl
 have t10 : (r.kind == 10) = false := by rw [hk]; rfl
 have HV : Hid (((!r.little || r.kind == 1) && kindOk ds r) = ((plainB r true false false false 0 && (!r.little || r.kind == 1)) && (between r.size 1 64))) := by
  have : kindOk ds r = (plainB r true false false false 0 && (between r.size 1 64)) := by simp [kindOk, hk, Bool.and_assoc]
  show _ = _; rw [this]; cases (!r.little || r.kind == 1) <;> simp
 rw [HV.out]
 have CP := Lib.hid (fun w => sShape1000_c r Ab cb An cn At ct Ak ck 0 w h.lens)
 generalize (plainB r true false false false 0 && (!r.little || r.kind == 1)) = p at *
 clear HV hk
 have CI := Lib.hid (fun w => l1In_c r.size 1 64 w)
 have HB : Hid (between r.size 1 64 = (decide (((1) : Int) ≤ r.size) && decide (r.size ≤ 64))) := rfl
 rw [← HB.out] at CI
 clear HB
 generalize between r.size 1 64 = q at *
 have hlb := h.lens.1
 unfold vrule vdesc at *
 cases p
 ·go_enter Tryz.func87, Tryz.ntmps87
  go_wp2_with fail
  refine (CP.out _).mono ?_; rintro _ w1 ⟨rfl, he1⟩
  go_wp2
  go_ret
  exact ⟨ret_bool (by simp), eb.trans he1⟩
 go_enter Tryz.func87, Tryz.ntmps87
 go_wp2_with fail
 refine (CP.out _).mono ?_; rintro _ w1 ⟨rfl, he1⟩
 go_wp2_with fail
 refine (CI.out _).mono ?_; rintro _ w2 ⟨rfl, he2⟩
 go_wp2
 go_ret
 exact ⟨ret_bool (by simp), eb.trans (he1.trans he2)⟩
theorem sKind4_c (A : Option Addr) (ds : List DRule) (c : Nat) (r : DRule) (Ab : Option Addr) (cb : Nat) (An : Option Addr) (cn : Nat) (At : Option Addr) (ct : Nat) (Ak : Option Addr) (ck : Nat) (w : World) (hd : RdD w A ds c) (h : RdS w r Ab cb An cn At ct Ak ck) (hs : ShortR r) (hw : WfR r) (hk : r.kind = 4) :
 Gives Tryz.prog 87 #[vdesc (.slice A ds.length c), vrule r (.slice Ab r.bytes.length cb) (.slice An r.names.length cn) (.slice At r.tags.length ct) (.slice Ak r.kids.length ck)] w (.bool ((!r.little || r.kind == 1) && kindOk ds r)) := by
 have eb := Ext_alloc (.cells #[.string r.nm, .int .i64 r.kind, .int .i64 r.size, .bool r.little, .slice Ab r.bytes.length cb, .slice An r.names.length cn, .slice At r.tags.length ct, .slice Ak r.kids.length ck] 51) (Ext_alloc (.cells #[.slice A ds.length c] 26) (Ext.refl w))
 have BX := fun w' (e : Ext ((w.alloc (.cells #[.slice A ds.length c] 26)).alloc (.cells #[.string r.nm, .int .i64 r.kind, .int .i64 r.size, .bool r.little, .slice Ab r.bytes.length cb, .slice An r.names.length cn, .slice At r.tags.length ct, .slice Ak r.kids.length ck] 51)) w') => boxed2 e
 have B0 := fun w' e => (BX w' e).1
 have B1 := fun w' e => (BX w' e).2.1
 clear BX
 have t1 : (r.kind == 1) = false := by rw [hk]; rfl
 have t2 : (r.kind == 2) = false := by rw [hk]; rfl
 have t3 : (r.kind == 3) = false := by rw [hk]; rfl
 have t4 : (r.kind == 4) = true := by rw [hk]; rfl
 have t5 : (r.kind == 5) = false := by rw [hk]; rfl
 have t6 : (r.kind == 6) = false := by rw [hk]; rfl
 have t7 : (r.kind == 7) = false := by rw [hk]; rfl
 have t8 : (r.kind == 8) = false := by rw [hk]; rfl
 have t9 : (r.kind == 9) = false := by rw [hk]; rfl
 have t10 : (r.kind == 10) = false := by rw [hk]; rfl
 have HV : Hid (((!r.little || r.kind == 1) && kindOk ds r) = ((plainB r false false false false 1 && (!r.little || r.kind == 1)) && (decide (0 < limD ds (r.kids.getD 0 0))))) := by
  have : kindOk ds r = (plainB r false false false false 1 && (decide (0 < limD ds (r.kids.getD 0 0)))) := by simp [kindOk, hk, Bool.and_assoc]
  show _ = _; rw [this]; cases (!r.little || r.kind == 1) <;> simp
 rw [HV.out]
 have CP := Lib.hid (fun w => sShape0000_c r Ab cb An cn At ct Ak ck 1 w h.lens)
 have HKL : Hid (plainB r false false false false 1 = true → r.kids.length = 1) := plainB_kids (k := 1)
 have HPP : Hid ((plainB r false false false false 1 && (!r.little || r.kind == 1)) = true → plainB r false false false false 1 = true) := by intro hq; rw [Bool.and_eq_true] at hq; exact hq.1
 have HKK := Lib.hid (fun hq => HKL.out (HPP.out hq)); clear HKL HPP
 generalize (plainB r false false false false 1 && (!r.little || r.kind == 1)) = p at *
 clear HV hk
 have h1 := h.k
 unfold vrule vdesc at *
 cases p
 ·go_enter Tryz.func87, Tryz.ntmps87
  go_wp2_with fail
  refine wp_region_quiet_below (by kernel_rfl) (by kernel_rfl) ?_
  repeat (go_big_quiet_step ((go_at_call 94; exact Calls.regrown_of (CP.out _))))
  refine wpQuiet_nil ?_
  rintro w1 ⟨⟨nq, osq⟩, hq⟩
  have ew1 := ext_of_q hq
  clear hq nq osq
  go_wp2
  go_ret
  exact ⟨ret_bool (by simp), eb.trans ew1⟩
 have hk0 : 0 < r.kids.length := by have := HKK.out rfl; omega
 obtain ⟨bk, ok, rfl, hbk, hck⟩ := h1.at 0 hk0
 have HG : Hid (r.kids.getD 0 0 = r.kids[0]) := by show _ = _; simp [List.getD_eq_getElem?_getD, List.getElem?_eq_getElem hk0]
 rw [HG.out]
 rw [Nat.add_zero] at hck
 generalize r.kids[0] = kid at *
 have CL := Lib.hid (fun w h => sLimit_c A ds c kid w h)
 unfold vdesc at CL
 generalize limD ds kid = lim at *
 have hck' := fun w' (e : Ext _ w') => hck w' (eb.trans e)
 clear hck h1 h HG HKK
 have hbe := Ext_drew (Ext.refl ((w.alloc (.cells #[.slice A ds.length c] 26)).alloc (.cells #[.string r.nm, .int .i64 r.kind, .int .i64 r.size, .bool r.little, .slice Ab r.bytes.length cb, .slice An r.names.length cn, .slice At r.tags.length ct, .slice (some ⟨bk, ok, none⟩) r.kids.length ck] 51)))
 go_enter Tryz.func87, Tryz.ntmps87
 go_wp2_with fail
 refine wp_region_quiet_below (by kernel_rfl) (by kernel_rfl) ?_
 repeat (go_big_quiet_step ((first | (go_at_call 94; exact Calls.regrown_of (CP.out _)) | (go_at_call 93; exact Calls.regrown_of (CL.out _ (hd.ext (eb.trans (by first | assumption | exact Ext_self _ | exact Ext_drew (Ext_self _) | exact Ext_regrown _ _ (Ext_self _)))))))))
 refine wpQuiet_nil ?_
 rintro w1 ⟨⟨nq, osq⟩, hq⟩
 have ew1 := ext_of_q hq
 clear hq nq osq
 go_wp2
 go_ret
 exact ⟨ret_bool (by simp), eb.trans ew1⟩
theorem sKind5_c (A : Option Addr) (ds : List DRule) (c : Nat) (r : DRule) (Ab : Option Addr) (cb : Nat) (An : Option Addr) (cn : Nat) (At : Option Addr) (ct : Nat) (Ak : Option Addr) (ck : Nat) (w : World) (hd : RdD w A ds c) (h : RdS w r Ab cb An cn At ct Ak ck) (hs : ShortR r) (hw : WfR r) (hk : r.kind = 5) :
 Gives Tryz.prog 87 #[vdesc (.slice A ds.length c), vrule r (.slice Ab r.bytes.length cb) (.slice An r.names.length cn) (.slice At r.tags.length ct) (.slice Ak r.kids.length ck)] w (.bool ((!r.little || r.kind == 1) && kindOk ds r)) := by
 have eb := Ext_alloc (.cells #[.string r.nm, .int .i64 r.kind, .int .i64 r.size, .bool r.little, .slice Ab r.bytes.length cb, .slice An r.names.length cn, .slice At r.tags.length ct, .slice Ak r.kids.length ck] 51) (Ext_alloc (.cells #[.slice A ds.length c] 26) (Ext.refl w))
 have BX := fun w' (e : Ext ((w.alloc (.cells #[.slice A ds.length c] 26)).alloc (.cells #[.string r.nm, .int .i64 r.kind, .int .i64 r.size, .bool r.little, .slice Ab r.bytes.length cb, .slice An r.names.length cn, .slice At r.tags.length ct, .slice Ak r.kids.length ck] 51)) w') => boxed2 e
 have B0 := fun w' e => (BX w' e).1
 have B1 := fun w' e => (BX w' e).2.1
 clear BX
 have t1 : (r.kind == 1) = false := by rw [hk]; rfl
 have t2 : (r.kind == 2) = false := by rw [hk]; rfl
 have t3 : (r.kind == 3) = false := by rw [hk]; rfl
 have t4 : (r.kind == 4) = false := by rw [hk]; rfl
 have t5 : (r.kind == 5) = true := by rw [hk]; rfl
 have t6 : (r.kind == 6) = false := by rw [hk]; rfl
 have t7 : (r.kind == 7) = false := by rw [hk]; rfl
 have t8 : (r.kind == 8) = false := by rw [hk]; rfl
 have t9 : (r.kind == 9) = false := by rw [hk]; rfl
 have t10 : (r.kind == 10) = false := by rw [hk]; rfl
 have HV : Hid (((!r.little || r.kind == 1) && kindOk ds r) = ((plainB r false false false false 2 && (!r.little || r.kind == 1)) && (decide (0 < limD ds (r.kids.getD 0 0))))) := by
  have : kindOk ds r = (plainB r false false false false 2 && (decide (0 < limD ds (r.kids.getD 0 0)))) := by simp [kindOk, hk, Bool.and_assoc]
  show _ = _; rw [this]; cases (!r.little || r.kind == 1) <;> simp
 rw [HV.out]
 have CP := Lib.hid (fun w => sShape0000_c r Ab cb An cn At ct Ak ck 2 w h.lens)
 have HKL : Hid (plainB r false false false false 2 = true → r.kids.length = 2) := plainB_kids (k := 2)
 have HPP : Hid ((plainB r false false false false 2 && (!r.little || r.kind == 1)) = true → plainB r false false false false 2 = true) := by intro hq; rw [Bool.and_eq_true] at hq; exact hq.1
 have HKK := Lib.hid (fun hq => HKL.out (HPP.out hq)); clear HKL HPP
 generalize (plainB r false false false false 2 && (!r.little || r.kind == 1)) = p at *
 clear HV hk
 have h1 := h.k
 unfold vrule vdesc at *
 cases p
 ·go_enter Tryz.func87, Tryz.ntmps87
  go_wp2_with fail
  refine wp_region_quiet_below (by kernel_rfl) (by kernel_rfl) ?_
  repeat (go_big_quiet_step ((go_at_call 94; exact Calls.regrown_of (CP.out _))))
  refine wpQuiet_nil ?_
  rintro w1 ⟨⟨nq, osq⟩, hq⟩
  have ew1 := ext_of_q hq
  clear hq nq osq
  go_wp2
  go_ret
  exact ⟨ret_bool (by simp), eb.trans ew1⟩
 have hk0 : 0 < r.kids.length := by have := HKK.out rfl; omega
 obtain ⟨bk, ok, rfl, hbk, hck⟩ := h1.at 0 hk0
 have HG : Hid (r.kids.getD 0 0 = r.kids[0]) := by show _ = _; simp [List.getD_eq_getElem?_getD, List.getElem?_eq_getElem hk0]
 rw [HG.out]
 rw [Nat.add_zero] at hck
 generalize r.kids[0] = kid at *
 have CL := Lib.hid (fun w h => sLimit_c A ds c kid w h)
 unfold vdesc at CL
 generalize limD ds kid = lim at *
 have hck' := fun w' (e : Ext _ w') => hck w' (eb.trans e)
 clear hck h1 h HG HKK
 have hbe := Ext_drew (Ext.refl ((w.alloc (.cells #[.slice A ds.length c] 26)).alloc (.cells #[.string r.nm, .int .i64 r.kind, .int .i64 r.size, .bool r.little, .slice Ab r.bytes.length cb, .slice An r.names.length cn, .slice At r.tags.length ct, .slice (some ⟨bk, ok, none⟩) r.kids.length ck] 51)))
 go_enter Tryz.func87, Tryz.ntmps87
 go_wp2_with fail
 refine wp_region_quiet_below (by kernel_rfl) (by kernel_rfl) ?_
 repeat (go_big_quiet_step ((first | (go_at_call 94; exact Calls.regrown_of (CP.out _)) | (go_at_call 93; exact Calls.regrown_of (CL.out _ (hd.ext (eb.trans (by first | assumption | exact Ext_self _ | exact Ext_drew (Ext_self _) | exact Ext_regrown _ _ (Ext_self _)))))))))
 refine wpQuiet_nil ?_
 rintro w1 ⟨⟨nq, osq⟩, hq⟩
 have ew1 := ext_of_q hq
 clear hq nq osq
 go_wp2
 go_ret
 exact ⟨ret_bool (by simp), eb.trans ew1⟩
theorem seq_eq {ds : List DRule} {r : DRule} (hk : r.kind = 6) : kindOk ds r = (plainB r false false true false (r.names.length : Int) && namesB r.names) := by
 have h1 : kindOk ds r = seqOk r := by simp [kindOk, hk]
 rw [h1]
 unfold seqOk namesB plainB
 simp only [Bool.false_or, Bool.true_or, Bool.and_true]
 by_cases hl : r.kids.length = r.names.length
 ·simp [hl, Bool.and_assoc]
 ·have e1 : decide ((r.kids.length : Int) = (r.names.length : Int)) = false := by simp; omega
  have e2 : decide ((r.names.length : Int) < 0) = false := by simp
  have e3 : (r.kids.length == r.names.length) = false := by simpa using hl
  rw [e1, e2, e3]; simp
theorem sKind6_c (A : Option Addr) (ds : List DRule) (c : Nat) (r : DRule) (Ab : Option Addr) (cb : Nat) (An : Option Addr) (cn : Nat) (At : Option Addr) (ct : Nat) (Ak : Option Addr) (ck : Nat) (w : World) (hd : RdD w A ds c) (h : RdS w r Ab cb An cn At ct Ak ck) (hs : ShortR r) (hw : WfR r) (hk : r.kind = 6) :
 Gives Tryz.prog 87 #[vdesc (.slice A ds.length c), vrule r (.slice Ab r.bytes.length cb) (.slice An r.names.length cn) (.slice At r.tags.length ct) (.slice Ak r.kids.length ck)] w (.bool ((!r.little || r.kind == 1) && kindOk ds r)) := by
 have eb := Ext_alloc (.cells #[.string r.nm, .int .i64 r.kind, .int .i64 r.size, .bool r.little, .slice Ab r.bytes.length cb, .slice An r.names.length cn, .slice At r.tags.length ct, .slice Ak r.kids.length ck] 51) (Ext_alloc (.cells #[.slice A ds.length c] 26) (Ext.refl w))
 have BX := fun w' (e : Ext ((w.alloc (.cells #[.slice A ds.length c] 26)).alloc (.cells #[.string r.nm, .int .i64 r.kind, .int .i64 r.size, .bool r.little, .slice Ab r.bytes.length cb, .slice An r.names.length cn, .slice At r.tags.length ct, .slice Ak r.kids.length ck] 51)) w') => boxed2 e
 have B0 := fun w' e => (BX w' e).1
 have B1 := fun w' e => (BX w' e).2.1
 clear BX
 have t1 : (r.kind == 1) = false := by rw [hk]; rfl
 have t2 : (r.kind == 2) = false := by rw [hk]; rfl
 have t3 : (r.kind == 3) = false := by rw [hk]; rfl
 have t4 : (r.kind == 4) = false := by rw [hk]; rfl
 have t5 : (r.kind == 5) = false := by rw [hk]; rfl
 have t6 : (r.kind == 6) = true := by rw [hk]; rfl
 have t7 : (r.kind == 7) = false := by rw [hk]; rfl
 have t8 : (r.kind == 8) = false := by rw [hk]; rfl
 have t9 : (r.kind == 9) = false := by rw [hk]; rfl
 have t10 : (r.kind == 10) = false := by rw [hk]; rfl
 have HV : Hid (((!r.little || r.kind == 1) && kindOk ds r) = ((plainB r false false true false (r.names.length : Int) && (!r.little || r.kind == 1)) && namesB r.names)) := by show _ = _; rw [seq_eq hk]; cases (!r.little || r.kind == 1) <;> simp
 rw [HV.out]
 have CP := Lib.hid (fun w => sShape0010_c r Ab cb An cn At ct Ak ck (r.names.length : Int) w h.lens)
 generalize (plainB r false false true false (r.names.length : Int) && (!r.little || r.kind == 1)) = p at *
 clear HV hk
 have CN := Lib.hid (fun w h => sNames_c An r.names cn w h hw.names)
 generalize namesB r.names = q at *
 have hln := h.n.len
 unfold vrule vdesc at *
 cases p
 ·go_enter Tryz.func87, Tryz.ntmps87
  go_wp2_with fail
  refine (CP.out _).mono ?_; rintro _ w1 ⟨rfl, he1⟩
  go_wp2
  go_ret
  exact ⟨ret_bool (by simp), eb.trans he1⟩
 go_enter Tryz.func87, Tryz.ntmps87
 go_wp2_with fail
 refine (CP.out _).mono ?_; rintro _ w1 ⟨rfl, he1⟩
 go_wp2_with fail
 refine (CN.out _ (h.n.ext (eb.trans he1))).mono ?_; rintro _ w2 ⟨rfl, he2⟩
 go_wp2
 go_ret
 exact ⟨ret_bool (by simp), eb.trans (he1.trans he2)⟩
theorem cho_eq {ds : List DRule} {r : DRule} (hk : r.kind = 7) : kindOk ds r = (plainB r false false false true (-1) && tagsB ds r) := by
 have h1 : kindOk ds r = choOk ds r := by simp [kindOk, hk]
 rw [h1]
 unfold choOk tagsB plainB
 simp only [Bool.false_or, Bool.true_or, Bool.and_true]
 have e2 : decide ((r.tags.length : Int) + 1 < 0) = false := by simp; omega
 by_cases hl : r.kids.length = r.tags.length + 1
 ·have e1 : decide ((r.kids.length : Int) = (r.tags.length : Int) + 1) = true := by simp; omega
  have e3 : (r.kids.length == r.tags.length + 1) = true := by simpa using hl
  rw [e1, e2, e3]; simp [Bool.and_assoc]
 ·have e1 : decide ((r.kids.length : Int) = (r.tags.length : Int) + 1) = false := by simp; omega
  have e3 : (r.kids.length == r.tags.length + 1) = false := by simpa using hl
  rw [e1, e2, e3]; simp
theorem sKind7_c (A : Option Addr) (ds : List DRule) (c : Nat) (r : DRule) (Ab : Option Addr) (cb : Nat) (An : Option Addr) (cn : Nat) (At : Option Addr) (ct : Nat) (Ak : Option Addr) (ck : Nat) (w : World) (hd : RdD w A ds c) (h : RdS w r Ab cb An cn At ct Ak ck) (hs : ShortR r) (hw : WfR r) (hk : r.kind = 7) :
 Gives Tryz.prog 87 #[vdesc (.slice A ds.length c), vrule r (.slice Ab r.bytes.length cb) (.slice An r.names.length cn) (.slice At r.tags.length ct) (.slice Ak r.kids.length ck)] w (.bool ((!r.little || r.kind == 1) && kindOk ds r)) := by
 have eb := Ext_alloc (.cells #[.string r.nm, .int .i64 r.kind, .int .i64 r.size, .bool r.little, .slice Ab r.bytes.length cb, .slice An r.names.length cn, .slice At r.tags.length ct, .slice Ak r.kids.length ck] 51) (Ext_alloc (.cells #[.slice A ds.length c] 26) (Ext.refl w))
 have BX := fun w' (e : Ext ((w.alloc (.cells #[.slice A ds.length c] 26)).alloc (.cells #[.string r.nm, .int .i64 r.kind, .int .i64 r.size, .bool r.little, .slice Ab r.bytes.length cb, .slice An r.names.length cn, .slice At r.tags.length ct, .slice Ak r.kids.length ck] 51)) w') => boxed2 e
 have B0 := fun w' e => (BX w' e).1
 have B1 := fun w' e => (BX w' e).2.1
 clear BX
 have t1 : (r.kind == 1) = false := by rw [hk]; rfl
 have t2 : (r.kind == 2) = false := by rw [hk]; rfl
 have t3 : (r.kind == 3) = false := by rw [hk]; rfl
 have t4 : (r.kind == 4) = false := by rw [hk]; rfl
 have t5 : (r.kind == 5) = false := by rw [hk]; rfl
 have t6 : (r.kind == 6) = false := by rw [hk]; rfl
 have t7 : (r.kind == 7) = true := by rw [hk]; rfl
 have t8 : (r.kind == 8) = false := by rw [hk]; rfl
 have t9 : (r.kind == 9) = false := by rw [hk]; rfl
 have t10 : (r.kind == 10) = false := by rw [hk]; rfl
 have HV : Hid (((!r.little || r.kind == 1) && kindOk ds r) = ((plainB r false false false true (-1) && (!r.little || r.kind == 1)) && tagsB ds r)) := by show _ = _; rw [cho_eq hk]; cases (!r.little || r.kind == 1) <;> simp
 rw [HV.out]
 have CP := Lib.hid (fun w => sShape0001_c r Ab cb An cn At ct Ak ck (-1) w h.lens)
 generalize (plainB r false false false true (-1) && (!r.little || r.kind == 1)) = p at *
 clear HV hk
 have CN := Lib.hid (fun w hd h => sTags_c A ds c r Ab cb An cn At ct Ak ck w hd h hs)
 generalize tagsB ds r = q at *
 have hln := h.n.len
 unfold vrule vdesc at *
 cases p
 ·go_enter Tryz.func87, Tryz.ntmps87
  go_wp2_with fail
  refine (CP.out _).mono ?_; rintro _ w1 ⟨rfl, he1⟩
  go_wp2
  go_ret
  exact ⟨ret_bool (by simp), eb.trans he1⟩
 go_enter Tryz.func87, Tryz.ntmps87
 go_wp2_with fail
 refine (CP.out _).mono ?_; rintro _ w1 ⟨rfl, he1⟩
 go_wp2_with fail
 refine (CN.out _ (hd.ext (eb.trans he1)) (h.ext (eb.trans he1))).mono ?_; rintro _ w2 ⟨rfl, he2⟩
 go_wp2
 go_ret
 exact ⟨ret_bool (by simp), eb.trans (he1.trans he2)⟩
theorem sKind8_c (A : Option Addr) (ds : List DRule) (c : Nat) (r : DRule) (Ab : Option Addr) (cb : Nat) (An : Option Addr) (cn : Nat) (At : Option Addr) (ct : Nat) (Ak : Option Addr) (ck : Nat) (w : World) (hd : RdD w A ds c) (h : RdS w r Ab cb An cn At ct Ak ck) (hs : ShortR r) (hw : WfR r) (hk : r.kind = 8) :
 Gives Tryz.prog 87 #[vdesc (.slice A ds.length c), vrule r (.slice Ab r.bytes.length cb) (.slice An r.names.length cn) (.slice At r.tags.length ct) (.slice Ak r.kids.length ck)] w (.bool ((!r.little || r.kind == 1) && kindOk ds r)) := by
 have eb := Ext_alloc (.cells #[.string r.nm, .int .i64 r.kind, .int .i64 r.size, .bool r.little, .slice Ab r.bytes.length cb, .slice An r.names.length cn, .slice At r.tags.length ct, .slice Ak r.kids.length ck] 51) (Ext_alloc (.cells #[.slice A ds.length c] 26) (Ext.refl w))
 have BX := fun w' (e : Ext ((w.alloc (.cells #[.slice A ds.length c] 26)).alloc (.cells #[.string r.nm, .int .i64 r.kind, .int .i64 r.size, .bool r.little, .slice Ab r.bytes.length cb, .slice An r.names.length cn, .slice At r.tags.length ct, .slice Ak r.kids.length ck] 51)) w') => boxed2 e
 have B0 := fun w' e => (BX w' e).1
 have B1 := fun w' e => (BX w' e).2.1
 clear BX
 have t1 : (r.kind == 1) = false := by rw [hk]; rfl
 have t2 : (r.kind == 2) = false := by rw [hk]; rfl
 have t3 : (r.kind == 3) = false := by rw [hk]; rfl
 have t4 : (r.kind == 4) = false := by rw [hk]; rfl
 have t5 : (r.kind == 5) = false := by rw [hk]; rfl
 have t6 : (r.kind == 6) = false := by rw [hk]; rfl
 have t7 : (r.kind == 7) = false := by rw [hk]; rfl
 have t8 : (r.kind == 8) = true := by rw [hk]; rfl
 have t9 : (r.kind == 9) = false := by rw [hk]; rfl
 have t10 : (r.kind == 10) = false := by rw [hk]; rfl
 have HV : Hid (((!r.little || r.kind == 1) && kindOk ds r) = (plainB r false false false false 1 && (!r.little || r.kind == 1))) := by show _ = _; simp [kindOk, hk]; rw [Bool.and_comm]
 rw [HV.out]
 have CP := Lib.hid (fun w => sShape0000_c r Ab cb An cn At ct Ak ck 1 w h.lens)
 generalize (plainB r false false false false 1 && (!r.little || r.kind == 1)) = p at *
 clear HV hk
 unfold vrule vdesc at *
 go_enter Tryz.func87, Tryz.ntmps87
 go_wp2_with fail
 refine (CP.out _).mono ?_; rintro _ w1 ⟨rfl, he1⟩
 go_wp2
 go_ret
 exact ⟨rfl, eb.trans he1⟩
theorem sKind9_c (A : Option Addr) (ds : List DRule) (c : Nat) (r : DRule) (Ab : Option Addr) (cb : Nat) (An : Option Addr) (cn : Nat) (At : Option Addr) (ct : Nat) (Ak : Option Addr) (ck : Nat) (w : World) (hd : RdD w A ds c) (h : RdS w r Ab cb An cn At ct Ak ck) (hs : ShortR r) (hw : WfR r) (hk : r.kind = 9) :
 Gives Tryz.prog 87 #[vdesc (.slice A ds.length c), vrule r (.slice Ab r.bytes.length cb) (.slice An r.names.length cn) (.slice At r.tags.length ct) (.slice Ak r.kids.length ck)] w (.bool ((!r.little || r.kind == 1) && kindOk ds r)) := by
 have eb := Ext_alloc (.cells #[.string r.nm, .int .i64 r.kind, .int .i64 r.size, .bool r.little, .slice Ab r.bytes.length cb, .slice An r.names.length cn, .slice At r.tags.length ct, .slice Ak r.kids.length ck] 51) (Ext_alloc (.cells #[.slice A ds.length c] 26) (Ext.refl w))
 have BX := fun w' (e : Ext ((w.alloc (.cells #[.slice A ds.length c] 26)).alloc (.cells #[.string r.nm, .int .i64 r.kind, .int .i64 r.size, .bool r.little, .slice Ab r.bytes.length cb, .slice An r.names.length cn, .slice At r.tags.length ct, .slice Ak r.kids.length ck] 51)) w') => boxed2 e
 have B0 := fun w' e => (BX w' e).1
 have B1 := fun w' e => (BX w' e).2.1
 clear BX
 have t1 : (r.kind == 1) = false := by rw [hk]; rfl
 have t2 : (r.kind == 2) = false := by rw [hk]; rfl
 have t3 : (r.kind == 3) = false := by rw [hk]; rfl
 have t4 : (r.kind == 4) = false := by rw [hk]; rfl
 have t5 : (r.kind == 5) = false := by rw [hk]; rfl
 have t6 : (r.kind == 6) = false := by rw [hk]; rfl
 have t7 : (r.kind == 7) = false := by rw [hk]; rfl
 have t8 : (r.kind == 8) = false := by rw [hk]; rfl
 have t9 : (r.kind == 9) = true := by rw [hk]; rfl
 have t10 : (r.kind == 10) = false := by rw [hk]; rfl
 have HV : Hid (((!r.little || r.kind == 1) && kindOk ds r) = (plainB r false false false false 1 && (!r.little || r.kind == 1))) := by show _ = _; simp [kindOk, hk]; rw [Bool.and_comm]
 rw [HV.out]
 have CP := Lib.hid (fun w => sShape0000_c r Ab cb An cn At ct Ak ck 1 w h.lens)
 generalize (plainB r false false false false 1 && (!r.little || r.kind == 1)) = p at *
 clear HV hk
 unfold vrule vdesc at *
 go_enter Tryz.func87, Tryz.ntmps87
 go_wp2_with fail
 refine (CP.out _).mono ?_; rintro _ w1 ⟨rfl, he1⟩
 go_wp2
 go_ret
 exact ⟨rfl, eb.trans he1⟩
theorem sKind10_c (A : Option Addr) (ds : List DRule) (c : Nat) (r : DRule) (Ab : Option Addr) (cb : Nat) (An : Option Addr) (cn : Nat) (At : Option Addr) (ct : Nat) (Ak : Option Addr) (ck : Nat) (w : World) (hd : RdD w A ds c) (h : RdS w r Ab cb An cn At ct Ak ck) (hs : ShortR r) (hw : WfR r) (hk : r.kind = 10) :
 Gives Tryz.prog 87 #[vdesc (.slice A ds.length c), vrule r (.slice Ab r.bytes.length cb) (.slice An r.names.length cn) (.slice At r.tags.length ct) (.slice Ak r.kids.length ck)] w (.bool ((!r.little || r.kind == 1) && kindOk ds r)) := by
 have eb := Ext_alloc (.cells #[.string r.nm, .int .i64 r.kind, .int .i64 r.size, .bool r.little, .slice Ab r.bytes.length cb, .slice An r.names.length cn, .slice At r.tags.length ct, .slice Ak r.kids.length ck] 51) (Ext_alloc (.cells #[.slice A ds.length c] 26) (Ext.refl w))
 have BX := fun w' (e : Ext ((w.alloc (.cells #[.slice A ds.length c] 26)).alloc (.cells #[.string r.nm, .int .i64 r.kind, .int .i64 r.size, .bool r.little, .slice Ab r.bytes.length cb, .slice An r.names.length cn, .slice At r.tags.length ct, .slice Ak r.kids.length ck] 51)) w') => boxed2 e
 have B0 := fun w' e => (BX w' e).1
 have B1 := fun w' e => (BX w' e).2.1
 clear BX
 have t1 : (r.kind == 1) = false := by rw [hk]; rfl
 have t2 : (r.kind == 2) = false := by rw [hk]; rfl
 have t3 : (r.kind == 3) = false := by rw [hk]; rfl
 have t4 : (r.kind == 4) = false := by rw [hk]; rfl
 have t5 : (r.kind == 5) = false := by rw [hk]; rfl
 have t6 : (r.kind == 6) = false := by rw [hk]; rfl
 have t7 : (r.kind == 7) = false := by rw [hk]; rfl
 have t8 : (r.kind == 8) = false := by rw [hk]; rfl
 have t9 : (r.kind == 9) = false := by rw [hk]; rfl
 have t10 : (r.kind == 10) = true := by rw [hk]; rfl
 have HV : Hid (((!r.little || r.kind == 1) && kindOk ds r) = ((plainB r false true false false 0 && (!r.little || r.kind == 1)) && (r.bytes.length == 1 && !(r.bytes.getD 0 0 == 92)))) := by
  have : kindOk ds r = (plainB r false true false false 0 && (r.bytes.length == 1 && !(r.bytes.getD 0 0 == 92))) := by simp [kindOk, hk, Bool.and_assoc]
  show _ = _; rw [this]; cases (!r.little || r.kind == 1) <;> simp
 rw [HV.out]
 have CP := Lib.hid (fun w => sShape0100_c r Ab cb An cn At ct Ak ck 0 w h.lens)
 generalize (plainB r false true false false 0 && (!r.little || r.kind == 1)) = p at *
 clear HV hk
 have h1 := h.b
 have hlb := h1.len
 unfold vrule vdesc at *
 cases p
 ·go_enter Tryz.func87, Tryz.ntmps87
  go_wp2_with fail
  refine (CP.out _).mono ?_; rintro _ w1 ⟨rfl, he1⟩
  go_wp2
  go_ret
  exact ⟨ret_bool (by simp), eb.trans he1⟩
 by_cases hl : r.bytes.length = 1
 ·have hk0 : 0 < r.bytes.length := by omega
  obtain ⟨bb, ob, rfl, hbb, hcb⟩ := h1.at 0 hk0
  have HG : Hid (r.bytes.getD 0 0 = r.bytes[0]) := by show _ = _; simp [List.getD_eq_getElem?_getD, List.getElem?_eq_getElem hk0]
  rw [HG.out]
  rw [Nat.add_zero] at hcb
  generalize r.bytes[0] = x at *
  have hck' := fun w' (e : Ext _ w') => hcb w' (eb.trans e)
  have l1 : ((r.bytes.length : Int) == 1) = true := by simp [hl]
  have HL : Hid ((r.bytes.length == 1) = true) := by show _ = _; simp [hl]
  rw [HL.out]
  have HX : Hid ((!(x == 92)) = ((x.toNat : Int) != 92)) := by
   show _ = _
   rw [bne]; congr 1
   rw [Bool.eq_iff_iff]; simp only [beq_iff_eq]
   constructor
   ·rintro rfl; rfl
   ·intro hx; exact u8_inj (by simpa using hx)
  rw [HX.out]
  clear hcb h1 h HG hl HL HX
  go_enter Tryz.func87, Tryz.ntmps87
  go_wp2_with fail
  refine (CP.out _).mono ?_; rintro _ w1 ⟨rfl, he1⟩
  go_wp2
  go_ret
  exact ⟨ret_bool (by simp), eb.trans he1⟩
 ·have l1 : ((r.bytes.length : Int) == 1) = false := by simp; omega
  have HL : Hid ((r.bytes.length == 1) = false) := by show _ = _; simpa using hl
  rw [HL.out]
  clear hl HL
  go_enter Tryz.func87, Tryz.ntmps87
  go_wp2_with fail
  refine (CP.out _).mono ?_; rintro _ w1 ⟨rfl, he1⟩
  go_wp2
  go_ret
  exact ⟨ret_bool (by simp), eb.trans he1⟩
theorem sKindX_c (A : Option Addr) (ds : List DRule) (c : Nat) (r : DRule) (Ab : Option Addr) (cb : Nat) (An : Option Addr) (cn : Nat) (At : Option Addr) (ct : Nat) (Ak : Option Addr) (ck : Nat) (w : World) (hd : RdD w A ds c) (h : RdS w r Ab cb An cn At ct Ak ck) (hs : ShortR r) (hw : WfR r) (hk : r.kind < 1 ∨ 10 < r.kind) :
 Gives Tryz.prog 87 #[vdesc (.slice A ds.length c), vrule r (.slice Ab r.bytes.length cb) (.slice An r.names.length cn) (.slice At r.tags.length ct) (.slice Ak r.kids.length ck)] w (.bool ((!r.little || r.kind == 1) && kindOk ds r)) := by
 have eb := Ext_alloc (.cells #[.string r.nm, .int .i64 r.kind, .int .i64 r.size, .bool r.little, .slice Ab r.bytes.length cb, .slice An r.names.length cn, .slice At r.tags.length ct, .slice Ak r.kids.length ck] 51) (Ext_alloc (.cells #[.slice A ds.length c] 26) (Ext.refl w))
 have BX := fun w' (e : Ext ((w.alloc (.cells #[.slice A ds.length c] 26)).alloc (.cells #[.string r.nm, .int .i64 r.kind, .int .i64 r.size, .bool r.little, .slice Ab r.bytes.length cb, .slice An r.names.length cn, .slice At r.tags.length ct, .slice Ak r.kids.length ck] 51)) w') => boxed2 e
 have B0 := fun w' e => (BX w' e).1
 have B1 := fun w' e => (BX w' e).2.1
 clear BX
 have t1 : (r.kind == 1) = false := by simp; omega
 have t2 : (r.kind == 2) = false := by simp; omega
 have t3 : (r.kind == 3) = false := by simp; omega
 have t4 : (r.kind == 4) = false := by simp; omega
 have t5 : (r.kind == 5) = false := by simp; omega
 have t6 : (r.kind == 6) = false := by simp; omega
 have t7 : (r.kind == 7) = false := by simp; omega
 have t8 : (r.kind == 8) = false := by simp; omega
 have t9 : (r.kind == 9) = false := by simp; omega
 have t10 : (r.kind == 10) = false := by simp; omega
 have HV : Hid (((!r.little || r.kind == 1) && kindOk ds r) = false) := by
  show _ = _; unfold kindOk
  rw [if_neg (by omega), if_neg (by omega), if_neg (by omega), if_neg (by omega), if_neg (by omega), if_neg (by omega), if_neg (by omega), if_neg (by omega), if_neg (by omega), if_neg (by omega)]; simp
 rw [HV.out]
 clear HV hk
 unfold vrule vdesc at *
 go_enter Tryz.func87, Tryz.ntmps87
 go_wp2
 go_ret
 exact ⟨rfl, eb⟩
theorem iKind_c (A : Option Addr) (ds : List DRule) (c : Nat) (r : DRule) (Ab : Option Addr) (cb : Nat) (An : Option Addr) (cn : Nat) (At : Option Addr) (ct : Nat) (Ak : Option Addr) (ck : Nat) (w : World) (hd : RdD w A ds c) (h : RdS w r Ab cb An cn At ct Ak ck) (hs : ShortR r) (hw : WfR r) :
 Gives Tryz.prog 80 #[vdesc (.slice A ds.length c), vrule r (.slice Ab r.bytes.length cb) (.slice An r.names.length cn) (.slice At r.tags.length ct) (.slice Ak r.kids.length ck)] w (.bool (kindOk ds r)) := by
 rcases (by omega : r.kind = 1 ∨ r.kind = 2 ∨ r.kind = 3 ∨ r.kind = 4 ∨ r.kind = 5 ∨ r.kind = 6 ∨ r.kind = 7 ∨ r.kind = 8 ∨ r.kind = 9 ∨ r.kind = 10 ∨ (r.kind < 1 ∨ 10 < r.kind)) with hk | hk | hk | hk | hk | hk | hk | hk | hk | hk | hk
 ·exact iKind1_c A ds c r Ab cb An cn At ct Ak ck w hd h hs hw hk
 ·exact iKind2_c A ds c r Ab cb An cn At ct Ak ck w hd h hs hw hk
 ·exact iKind3_c A ds c r Ab cb An cn At ct Ak ck w hd h hs hw hk
 ·exact iKind4_c A ds c r Ab cb An cn At ct Ak ck w hd h hs hw hk
 ·exact iKind5_c A ds c r Ab cb An cn At ct Ak ck w hd h hs hw hk
 ·exact iKind6_c A ds c r Ab cb An cn At ct Ak ck w hd h hs hw hk
 ·exact iKind7_c A ds c r Ab cb An cn At ct Ak ck w hd h hs hw hk
 ·exact iKind8_c A ds c r Ab cb An cn At ct Ak ck w hd h hs hw hk
 ·exact iKind9_c A ds c r Ab cb An cn At ct Ak ck w hd h hs hw hk
 ·exact iKind10_c A ds c r Ab cb An cn At ct Ak ck w hd h hs hw hk
 ·exact iKindX_c A ds c r Ab cb An cn At ct Ak ck w hd h hs hw hk
theorem sKind_c (A : Option Addr) (ds : List DRule) (c : Nat) (r : DRule) (Ab : Option Addr) (cb : Nat) (An : Option Addr) (cn : Nat) (At : Option Addr) (ct : Nat) (Ak : Option Addr) (ck : Nat) (w : World) (hd : RdD w A ds c) (h : RdS w r Ab cb An cn At ct Ak ck) (hs : ShortR r) (hw : WfR r) :
 Gives Tryz.prog 87 #[vdesc (.slice A ds.length c), vrule r (.slice Ab r.bytes.length cb) (.slice An r.names.length cn) (.slice At r.tags.length ct) (.slice Ak r.kids.length ck)] w (.bool ((!r.little || r.kind == 1) && kindOk ds r)) := by
 rcases (by omega : r.kind = 1 ∨ r.kind = 2 ∨ r.kind = 3 ∨ r.kind = 4 ∨ r.kind = 5 ∨ r.kind = 6 ∨ r.kind = 7 ∨ r.kind = 8 ∨ r.kind = 9 ∨ r.kind = 10 ∨ (r.kind < 1 ∨ 10 < r.kind)) with hk | hk | hk | hk | hk | hk | hk | hk | hk | hk | hk
 ·exact sKind1_c A ds c r Ab cb An cn At ct Ak ck w hd h hs hw hk
 ·exact sKind2_c A ds c r Ab cb An cn At ct Ak ck w hd h hs hw hk
 ·exact sKind3_c A ds c r Ab cb An cn At ct Ak ck w hd h hs hw hk
 ·exact sKind4_c A ds c r Ab cb An cn At ct Ak ck w hd h hs hw hk
 ·exact sKind5_c A ds c r Ab cb An cn At ct Ak ck w hd h hs hw hk
 ·exact sKind6_c A ds c r Ab cb An cn At ct Ak ck w hd h hs hw hk
 ·exact sKind7_c A ds c r Ab cb An cn At ct Ak ck w hd h hs hw hk
 ·exact sKind8_c A ds c r Ab cb An cn At ct Ak ck w hd h hs hw hk
 ·exact sKind9_c A ds c r Ab cb An cn At ct Ak ck w hd h hs hw hk
 ·exact sKind10_c A ds c r Ab cb An cn At ct Ak ck w hd h hs hw hk
 ·exact sKindX_c A ds c r Ab cb An cn At ct Ak ck w hd h hs hw hk
theorem freshNm_at {ds : List DRule} {r : DRule} {j : Nat} (h : j < ds.length) : freshNm ds r j = !(ds[j].nm.toList == r.nm.toList) := by unfold freshNm; rw [List.getElem?_eq_getElem h]
theorem kidOk_at {l : List Int} {i j : Nat} (h : j < l.length) : kidOk l i j = between l[j] 0 ((i : Int) - 1) := by unfold kidOk; rw [List.getElem?_eq_getElem h]
theorem ruleOk_at {ds : List DRule} {i : Nat} (h : i < ds.length) : ruleOk ds i = (isName ds[i].nm && (!ds[i].little || ds[i].kind == 1) && allN i (freshNm ds ds[i]) && allN ds[i].kids.length (kidOk ds[i].kids i) && kindOk ds ds[i]) := by unfold ruleOk; rw [List.getElem?_eq_getElem h]
theorem iRule_c (A : Option Addr) (ds : List DRule) (c : Nat) (i : Nat) (w : World) (hd : RdD w A ds c) (hi : i < ds.length) (hs : ShortD ds) (hw : WfD ds) :
 Gives Tryz.prog 61 #[vdesc (.slice A ds.length c), .int .i64 i] w (.bool (ruleOk ds i)) := by
 have hl := hd.len
 have hcap := hd.cap
 have eb := Ext_alloc (.cells #[.slice A ds.length c] 26) (Ext.refl w)
 have BX := fun w' (e : Ext (w.alloc (.cells #[.slice A ds.length c] 26)) w') => boxed e
 rw [ruleOk_at hi]
 obtain ⟨b, off, hA, hb, hall⟩ := hd.cells (by omega)
 have HALL := Lib.hid hall
 obtain ⟨Ab, cb, An, cn, At, ct, Ak, ck, hS, hRA⟩ := hall i hi
 clear hall
 have hsr := hs _ (List.getElem_mem hi); have hwr := hw _ (List.getElem_mem hi)
 have HF : Hid (∀ j (h : j < ds.length), freshNm ds ds[i] j = !(ds[j].nm.toList == ds[i].nm.toList)) := fun j h => freshNm_at h
 generalize ds[i] = r at *
 have HKO : Hid (∀ j (h : j < r.kids.length), kidOk r.kids i j = between r.kids[j] 0 ((i : Int) - 1)) := fun j h => kidOk_at h
 have CK := Lib.hid (fun w h h' => iKind_c A ds c r Ab cb An cn At ct Ak ck w h h' hsr hwr)
 have CN := Lib.hid (fun w => iIsName_c r.nm w hwr.nm)
 have HS := Lib.hid hS
 have hK := hS.k
 have hKl := hK.len
 generalize kindOk ds r = KO at *
 generalize isName r.nm = NM at *
 generalize freshNm ds r = FR at *
 have HSX : Hid (∀ w', Ext w w' → RdS w' r Ab cb An cn At ct Ak ck) := fun w' e => HS.out.ext e
 clear hS hsr hwr HS
 unfold vrule vdesc at *
 have CK' := Lib.hid (fun w' (e : Ext w w') => CK.out w' (hd.ext e) (HSX.out w' e))
 clear CK HSX
 replace hRA := hRA.ext eb
 obtain ⟨nm, kind, size, little, bytes, names, tags, kids⟩ := r
 obtain ⟨k0, k1, k2, k3, k4, k5, k6, k7⟩ := hRA
 dsimp only at *
 have hi1 : (i : Int) < (ds.length : Int) := by omega
 have hi0 : (0 : Int) ≤ (i : Int) := by omega
 have hic : (i : Int) ≤ (c : Int) := by omega
 have CI := Lib.hid (fun w => hasRule_c A ds.length c (i : Int) w hl)
 have HI : Hid ((decide ((0 : Int) ≤ (i : Int)) && decide ((i : Int) < (ds.length : Int))) = true) := by show _ = _; simp; omega
 rw [HI.out] at CI
 unfold vdesc at CI
 clear HI hd
 subst hA
 obtain ⟨kq, hkq⟩ : ∃ kq, (kind == 1) = kq := ⟨_, rfl⟩
 have hkn : (kind != 1) = !kq := by rw [bne, hkq]
 rw [hkq]
 cases NM
 ·clear hkq hkn
  go_enter Tryz.func61, Tryz.ntmps61
  go_wp2_with fail
  refine (CI.out _).mono ?_; rintro _ w1 ⟨rfl, s1⟩
  have x1 := Ext_alloc (.cells #[.string nm, .int .i64 kind, .int .i64 size, .bool little, .slice Ab bytes.length cb, .slice An names.length cn, .slice At tags.length ct, .slice Ak kids.length ck] 51) (Ext.refl w1)
  have BR := fun w' (e : Ext (w1.alloc (.cells #[.string nm, .int .i64 kind, .int .i64 size, .bool little, .slice Ab bytes.length cb, .slice An names.length cn, .slice At tags.length ct, .slice Ak kids.length ck] 51)) w') => boxed e
  have e1 := s1.trans x1
  have eb1 := eb.trans e1
  go_wp2_with fail
  refine (CN.out _).mono ?_; rintro _ w2 ⟨rfl, s2⟩
  go_wp2
  go_ret
  exact ⟨ret_bool (by simp), eb1.trans s2⟩
 cases little
 ·clear hkq hkn
  go_enter Tryz.func61, Tryz.ntmps61
  go_wp2_with fail
  refine (CI.out _).mono ?_; rintro _ w1 ⟨rfl, s1⟩
  have x1 := Ext_alloc (.cells #[.string nm, .int .i64 kind, .int .i64 size, .bool false, .slice Ab bytes.length cb, .slice An names.length cn, .slice At tags.length ct, .slice Ak kids.length ck] 51) (Ext.refl w1)
  have BR := fun w' (e : Ext (w1.alloc (.cells #[.string nm, .int .i64 kind, .int .i64 size, .bool false, .slice Ab bytes.length cb, .slice An names.length cn, .slice At tags.length ct, .slice Ak kids.length ck] 51)) w') => boxed e
  have e1 := s1.trans x1
  have eb1 := eb.trans e1
  go_wp2_with fail
  refine (CN.out _).mono ?_; rintro _ w2 ⟨rfl, s2⟩
  have hx2 := e1.trans s2
  go_wp2
  go_loopw [37] (fun q wr => ∃ k : Nat, k ≤ i ∧ q = .int .i64 k ∧ Hid (∀ j, j < k → FR j = true) ∧ Ext (w1.alloc (.cells #[.string nm, .int .i64 kind, .int .i64 size, .bool false, .slice Ab bytes.length cb, .slice An names.length cn, .slice At tags.length ct, .slice Ak kids.length ck] 51)) wr) (fun q _ => i - (intOf q).toNat)
  case atStart => exact ⟨0, by omega, rfl, (fun j hj => by omega), s2⟩
  case round =>
   clear hx2 s2
   obtain ⟨k, hk, rfl, ht, he⟩ := hrel
   have hx := e1.trans he
   by_cases hlt : k < i
   ·have hkd : k < ds.length := by omega
    obtain ⟨Ab2, cb2, An2, cn2, At2, ct2, Ak2, ck2, _, hR2⟩ := HALL.out k hkd
    have HN := Lib.hid (HF.out k hkd)
    have NO : Hid (FR k = false → allN i FR = false) := fun hf => allN_no hlt hf
    have YES : Hid (FR k = true → ∀ j, j < k + 1 → FR j = true) := upTo ht.out
    generalize ds[k] = p at *
    obtain ⟨m0, m1, m2, m3, m4, m5, m6, m7⟩ := hR2.ext eb
    clear hR2 ht
    have hk1 : (k : Int) < (ds.length : Int) := by omega
    cases hq : (p.nm.toList == nm.toList)
    ·have HE := Lib.hid (YES.out (HN.out.trans (by rw [hq]; rfl))); clear NO YES HN
     go_wp2
     go_roundw
     case rel => exact ⟨k+1, by omega, by go_num, HE.out, Ext_alloc _ he⟩
     case measure => simp [intOf]; omega
    ·have HE := Lib.hid (NO.out (HN.out.trans (by rw [hq]; rfl))); clear NO YES HN
     go_wp2
     go_ret
     exact ⟨ret_bool (by rw [HE.out]; simp), eb1.trans (Ext_alloc _ he)⟩
   ·have HE1 : Hid (allN i FR = true) := allN_yes (fun j hj => ht.out j (by omega))
    obtain ⟨wo, rfl⟩ : ∃ wo : World, wo = wr := ⟨_, rfl⟩
    clear ht HALL HF
    go_wp2
    go_loopw [50] (fun q wr => ∃ k : Nat, k ≤ kids.length ∧ q = .int .i64 k ∧ Hid (∀ j, j < k → kidOk kids i j = true) ∧ Ext (w1.alloc (.cells #[.string nm, .int .i64 kind, .int .i64 size, .bool false, .slice Ab bytes.length cb, .slice An names.length cn, .slice At tags.length ct, .slice Ak kids.length ck] 51)) wr) (fun q _ => kids.length - (intOf q).toNat)
    case atStart => exact ⟨0, by omega, rfl, (fun j hj => by omega), he⟩
    case round =>
     clear he hx
     obtain ⟨k, hk, rfl, ht, he⟩ := hrel
     have hx := e1.trans he
     by_cases hlt : k < kids.length
     ·have HN := Lib.hid (HKO.out k hlt)
      have NO : Hid (kidOk kids i k = false → allN kids.length (kidOk kids i) = false) := fun hf => allN_no hlt hf
      have YES : Hid (kidOk kids i k = true → ∀ j, j < k + 1 → kidOk kids i j = true) := upTo ht.out
      obtain ⟨b2, off2, rfl, hb2, hc2⟩ := hK.at k hlt
      have hc3 := fun w' (e : Ext _ w') => hc2 w' (eb.trans e)
      clear hc2 ht
      generalize kids[k] = kid at *
      cases q1 : decide (kid < 0)
      ·cases q2 : decide ((i : Int) ≤ kid)
       ·have HE := Lib.hid (YES.out (HN.out.trans (by unfold between; simp at q1 q2 ⊢; omega))); clear NO YES HN
        go_wp2
        go_roundw
        case rel => exact ⟨k+1, by omega, by go_num, HE.out, he⟩
        case measure => simp [intOf]; omega
       ·have HE := Lib.hid (NO.out (HN.out.trans (by unfold between; simp at q1 q2 ⊢; omega))); clear NO YES HN
        go_wp2
        go_ret
        exact ⟨ret_bool (by rw [HE.out]; simp), eb1.trans he⟩
      ·have HE := Lib.hid (NO.out (HN.out.trans (by unfold between; simp at q1 ⊢; omega))); clear NO YES HN
       go_wp2
       go_ret
       exact ⟨ret_bool (by rw [HE.out]; simp), eb1.trans he⟩
     ·have HE2 : Hid (allN kids.length (kidOk kids i) = true) := allN_yes (fun j hj => ht.out j (by omega))
      go_wp2_with fail
      refine (CK'.out _ (eb1.trans he)).mono ?_; rintro _ w8 ⟨rfl, s8⟩
      go_wp2
      go_ret
      exact ⟨ret_bool (by rw [HE1.out, HE2.out]; simp), eb1.trans (he.trans s8)⟩
 cases kq
 ·go_enter Tryz.func61, Tryz.ntmps61
  go_wp2_with fail
  refine (CI.out _).mono ?_; rintro _ w1 ⟨rfl, s1⟩
  have x1 := Ext_alloc (.cells #[.string nm, .int .i64 kind, .int .i64 size, .bool true, .slice Ab bytes.length cb, .slice An names.length cn, .slice At tags.length ct, .slice Ak kids.length ck] 51) (Ext.refl w1)
  have BR := fun w' (e : Ext (w1.alloc (.cells #[.string nm, .int .i64 kind, .int .i64 size, .bool true, .slice Ab bytes.length cb, .slice An names.length cn, .slice At tags.length ct, .slice Ak kids.length ck] 51)) w') => boxed e
  have e1 := s1.trans x1
  have eb1 := eb.trans e1
  go_wp2_with fail
  refine (CN.out _).mono ?_; rintro _ w2 ⟨rfl, s2⟩
  go_wp2
  go_ret
  exact ⟨ret_bool (by simp), eb1.trans s2⟩
 go_enter Tryz.func61, Tryz.ntmps61
 go_wp2_with fail
 refine (CI.out _).mono ?_; rintro _ w1 ⟨rfl, s1⟩
 have x1 := Ext_alloc (.cells #[.string nm, .int .i64 kind, .int .i64 size, .bool true, .slice Ab bytes.length cb, .slice An names.length cn, .slice At tags.length ct, .slice Ak kids.length ck] 51) (Ext.refl w1)
 have BR := fun w' (e : Ext (w1.alloc (.cells #[.string nm, .int .i64 kind, .int .i64 size, .bool true, .slice Ab bytes.length cb, .slice An names.length cn, .slice At tags.length ct, .slice Ak kids.length ck] 51)) w') => boxed e
 have e1 := s1.trans x1
 have eb1 := eb.trans e1
 go_wp2_with fail
 refine (CN.out _).mono ?_; rintro _ w2 ⟨rfl, s2⟩
 have hx2 := e1.trans s2
 go_wp2
 go_loopw [37] (fun q wr => ∃ k : Nat, k ≤ i ∧ q = .int .i64 k ∧ Hid (∀ j, j < k → FR j = true) ∧ Ext (w1.alloc (.cells #[.string nm, .int .i64 kind, .int .i64 size, .bool true, .slice Ab bytes.length cb, .slice An names.length cn, .slice At tags.length ct, .slice Ak kids.length ck] 51)) wr) (fun q _ => i - (intOf q).toNat)
 case atStart => exact ⟨0, by omega, rfl, (fun j hj => by omega), s2⟩
 case round =>
  clear hx2 s2
  obtain ⟨k, hk, rfl, ht, he⟩ := hrel
  have hx := e1.trans he
  by_cases hlt : k < i
  ·have hkd : k < ds.length := by omega
   obtain ⟨Ab2, cb2, An2, cn2, At2, ct2, Ak2, ck2, _, hR2⟩ := HALL.out k hkd
   have HN := Lib.hid (HF.out k hkd)
   have NO : Hid (FR k = false → allN i FR = false) := fun hf => allN_no hlt hf
   have YES : Hid (FR k = true → ∀ j, j < k + 1 → FR j = true) := upTo ht.out
   generalize ds[k] = p at *
   obtain ⟨m0, m1, m2, m3, m4, m5, m6, m7⟩ := hR2.ext eb
   clear hR2 ht
   have hk1 : (k : Int) < (ds.length : Int) := by omega
   cases hq : (p.nm.toList == nm.toList)
   ·have HE := Lib.hid (YES.out (HN.out.trans (by rw [hq]; rfl))); clear NO YES HN
    go_wp2
    go_roundw
    case rel => exact ⟨k+1, by omega, by go_num, HE.out, Ext_alloc _ he⟩
    case measure => simp [intOf]; omega
   ·have HE := Lib.hid (NO.out (HN.out.trans (by rw [hq]; rfl))); clear NO YES HN
    go_wp2
    go_ret
    exact ⟨ret_bool (by rw [HE.out]; simp), eb1.trans (Ext_alloc _ he)⟩
  ·have HE1 : Hid (allN i FR = true) := allN_yes (fun j hj => ht.out j (by omega))
   obtain ⟨wo, rfl⟩ : ∃ wo : World, wo = wr := ⟨_, rfl⟩
   clear ht HALL HF
   go_wp2
   go_loopw [50] (fun q wr => ∃ k : Nat, k ≤ kids.length ∧ q = .int .i64 k ∧ Hid (∀ j, j < k → kidOk kids i j = true) ∧ Ext (w1.alloc (.cells #[.string nm, .int .i64 kind, .int .i64 size, .bool true, .slice Ab bytes.length cb, .slice An names.length cn, .slice At tags.length ct, .slice Ak kids.length ck] 51)) wr) (fun q _ => kids.length - (intOf q).toNat)
   case atStart => exact ⟨0, by omega, rfl, (fun j hj => by omega), he⟩
   case round =>
    clear he hx
    obtain ⟨k, hk, rfl, ht, he⟩ := hrel
    have hx := e1.trans he
    by_cases hlt : k < kids.length
    ·have HN := Lib.hid (HKO.out k hlt)
     have NO : Hid (kidOk kids i k = false → allN kids.length (kidOk kids i) = false) := fun hf => allN_no hlt hf
     have YES : Hid (kidOk kids i k = true → ∀ j, j < k + 1 → kidOk kids i j = true) := upTo ht.out
     obtain ⟨b2, off2, rfl, hb2, hc2⟩ := hK.at k hlt
     have hc3 := fun w' (e : Ext _ w') => hc2 w' (eb.trans e)
     clear hc2 ht
     generalize kids[k] = kid at *
     cases q1 : decide (kid < 0)
     ·cases q2 : decide ((i : Int) ≤ kid)
      ·have HE := Lib.hid (YES.out (HN.out.trans (by unfold between; simp at q1 q2 ⊢; omega))); clear NO YES HN
       go_wp2
       go_roundw
       case rel => exact ⟨k+1, by omega, by go_num, HE.out, he⟩
       case measure => simp [intOf]; omega
      ·have HE := Lib.hid (NO.out (HN.out.trans (by unfold between; simp at q1 q2 ⊢; omega))); clear NO YES HN
       go_wp2
       go_ret
       exact ⟨ret_bool (by rw [HE.out]; simp), eb1.trans he⟩
     ·have HE := Lib.hid (NO.out (HN.out.trans (by unfold between; simp at q1 ⊢; omega))); clear NO YES HN
      go_wp2
      go_ret
      exact ⟨ret_bool (by rw [HE.out]; simp), eb1.trans he⟩
    ·have HE2 : Hid (allN kids.length (kidOk kids i) = true) := allN_yes (fun j hj => ht.out j (by omega))
     go_wp2_with fail
     refine (CK'.out _ (eb1.trans he)).mono ?_; rintro _ w8 ⟨rfl, s8⟩
     go_wp2
     go_ret
     exact ⟨ret_bool (by rw [HE1.out, HE2.out]; simp), eb1.trans (he.trans s8)⟩
theorem sRule_c (A : Option Addr) (ds : List DRule) (c : Nat) (i : Nat) (w : World) (hd : RdD w A ds c) (hi : i < ds.length) (hs : ShortD ds) (hw : WfD ds) :
 Gives Tryz.prog 78 #[vdesc (.slice A ds.length c), .int .i64 i] w (.bool (ruleOk ds i)) := by
 have hl := hd.len
 have hcap := hd.cap
 have eb := Ext_alloc (.cells #[.slice A ds.length c] 26) (Ext.refl w)
 have BX := fun w' (e : Ext (w.alloc (.cells #[.slice A ds.length c] 26)) w') => boxed e
 rw [ruleOk_at hi]
 obtain ⟨b, off, hA, hb, hall⟩ := hd.cells (by omega)
 have HALL := Lib.hid hall
 obtain ⟨Ab, cb, An, cn, At, ct, Ak, ck, hS, hRA⟩ := hall i hi
 clear hall
 have hsr := hs _ (List.getElem_mem hi); have hwr := hw _ (List.getElem_mem hi)
 have HF : Hid (∀ j (h : j < ds.length), freshNm ds ds[i] j = !(ds[j].nm.toList == ds[i].nm.toList)) := fun j h => freshNm_at h
 generalize ds[i] = r at *
 have HKO : Hid (∀ j (h : j < r.kids.length), kidOk r.kids i j = between r.kids[j] 0 ((i : Int) - 1)) := fun j h => kidOk_at h
 have CK := Lib.hid (fun w h h' => sKind_c A ds c r Ab cb An cn At ct Ak ck w h h' hsr hwr)
 have CN := Lib.hid (fun w => sIsName_c r.nm w hwr.nm)
 have HS := Lib.hid hS
 have hK := hS.k
 have hKl := hK.len
 generalize kindOk ds r = KO at *
 generalize isName r.nm = NM at *
 generalize freshNm ds r = FR at *
 have HSX : Hid (∀ w', Ext w w' → RdS w' r Ab cb An cn At ct Ak ck) := fun w' e => HS.out.ext e
 clear hS hsr hwr HS
 unfold vrule vdesc at *
 have CK' := Lib.hid (fun w' (e : Ext w w') => CK.out w' (hd.ext e) (HSX.out w' e))
 clear CK HSX
 replace hRA := hRA.ext eb
 obtain ⟨nm, kind, size, little, bytes, names, tags, kids⟩ := r
 obtain ⟨k0, k1, k2, k3, k4, k5, k6, k7⟩ := hRA
 dsimp only at *
 have hi1 : (i : Int) < (ds.length : Int) := by omega
 have hi0 : (0 : Int) ≤ (i : Int) := by omega
 have hic : (i : Int) ≤ (c : Int) := by omega
 have CI := Lib.hid (fun w => l1In_c (i : Int) 0 ((ds.length : Int) - 1) w)
 have HI : Hid ((decide ((0 : Int) ≤ (i : Int)) && decide ((i : Int) ≤ (ds.length : Int) - 1)) = true) := by show _ = _; simp; omega
 rw [HI.out] at CI
 clear HI hd
 subst hA
 go_enter Tryz.func78, Tryz.ntmps78
 go_wp2_with fail
 refine (CI.out _).mono ?_; rintro _ w1 ⟨rfl, s1⟩
 have x1 := Ext_alloc (.cells #[.string nm, .int .i64 kind, .int .i64 size, .bool little, .slice Ab bytes.length cb, .slice An names.length cn, .slice At tags.length ct, .slice Ak kids.length ck] 51) (Ext.refl w1)
 have BR := fun w' (e : Ext (w1.alloc (.cells #[.string nm, .int .i64 kind, .int .i64 size, .bool little, .slice Ab bytes.length cb, .slice An names.length cn, .slice At tags.length ct, .slice Ak kids.length ck] 51)) w') => boxed e
 have e1 := s1.trans x1
 have eb1 := eb.trans e1
 go_wp2
 go_loopw [6] (fun q wr => ∃ k : Nat, k ≤ i ∧ q = .int .i64 k ∧ Hid (∀ j, j < k → FR j = true) ∧ Ext (w1.alloc (.cells #[.string nm, .int .i64 kind, .int .i64 size, .bool little, .slice Ab bytes.length cb, .slice An names.length cn, .slice At tags.length ct, .slice Ak kids.length ck] 51)) wr) (fun q _ => i - (intOf q).toNat)
 case atStart => exact ⟨0, by omega, rfl, (fun j hj => by omega), Ext.refl _⟩
 case round =>
  skip
  obtain ⟨k, hk, rfl, ht, he⟩ := hrel
  have hx := e1.trans he
  by_cases hlt : k < i
  ·have hkd : k < ds.length := by omega
   obtain ⟨Ab2, cb2, An2, cn2, At2, ct2, Ak2, ck2, _, hR2⟩ := HALL.out k hkd
   have HN := Lib.hid (HF.out k hkd)
   have NO : Hid (FR k = false → allN i FR = false) := fun hf => allN_no hlt hf
   have YES : Hid (FR k = true → ∀ j, j < k + 1 → FR j = true) := upTo ht.out
   generalize ds[k] = p at *
   obtain ⟨m0, m1, m2, m3, m4, m5, m6, m7⟩ := hR2.ext eb
   clear hR2 ht
   have hk1 : (k : Int) < (ds.length : Int) := by omega
   cases hq : (p.nm.toList == nm.toList)
   ·have HE := Lib.hid (YES.out (HN.out.trans (by rw [hq]; rfl))); clear NO YES HN
    go_wp2_with fail
    refine wp_region_quiet_below (by kernel_rfl) (by kernel_rfl) ?_
    repeat (go_big_quiet_step (fail))
    refine wpQuiet_nil ?_
    rintro w5 ⟨⟨nq, osq⟩, hq⟩
    have ew5 := ext_of_q hq
    clear hq nq osq
    go_wp2
    go_roundw
    case rel => exact ⟨k+1, by omega, by go_num, HE.out, he.trans ew5⟩
    case measure => simp [intOf]; omega
   ·have HE := Lib.hid (NO.out (HN.out.trans (by rw [hq]; rfl))); clear NO YES HN
    go_wp2_with fail
    refine wp_region_quiet_below (by kernel_rfl) (by kernel_rfl) ?_
    repeat (go_big_quiet_step (fail))
    refine wpQuiet_nil ?_
    rintro w5 ⟨⟨nq, osq⟩, hq⟩
    have ew5 := ext_of_q hq
    clear hq nq osq
    go_wp2
    go_ret
    exact ⟨ret_bool (by rw [HE.out]; simp), eb1.trans (he.trans ew5)⟩
  ·have HE1 : Hid (allN i FR = true) := allN_yes (fun j hj => ht.out j (by omega))
   obtain ⟨wo, rfl⟩ : ∃ wo : World, wo = wr := ⟨_, rfl⟩
   clear ht HALL HF
   go_wp2
   go_loopw [7] (fun q wr => ∃ k : Nat, k ≤ kids.length ∧ q = .int .i64 k ∧ Hid (∀ j, j < k → kidOk kids i j = true) ∧ Ext (w1.alloc (.cells #[.string nm, .int .i64 kind, .int .i64 size, .bool little, .slice Ab bytes.length cb, .slice An names.length cn, .slice At tags.length ct, .slice Ak kids.length ck] 51)) wr) (fun q _ => kids.length - (intOf q).toNat)
   case atStart => exact ⟨0, by omega, rfl, (fun j hj => by omega), he⟩
   case round =>
    clear he hx
    obtain ⟨k, hk, rfl, ht, he⟩ := hrel
    have hx := e1.trans he
    by_cases hlt : k < kids.length
    ·have HN := Lib.hid (HKO.out k hlt)
     have NO : Hid (kidOk kids i k = false → allN kids.length (kidOk kids i) = false) := fun hf => allN_no hlt hf
     have YES : Hid (kidOk kids i k = true → ∀ j, j < k + 1 → kidOk kids i j = true) := upTo ht.out
     obtain ⟨b2, off2, rfl, hb2, hc2⟩ := hK.at k hlt
     have hc3 := fun w' (e : Ext _ w') => hc2 w' (eb.trans e)
     clear hc2 ht
     generalize kids[k] = kid at *
     have CB := Lib.hid (fun w => l1In_c kid 0 ((i : Int) - 1) w)
     have HB : Hid (between kid 0 ((i : Int) - 1) = (decide ((0 : Int) ≤ kid) && decide (kid ≤ (i : Int) - 1))) := rfl
     rw [← HB.out] at CB
     clear HB
     generalize between kid 0 ((i : Int) - 1) = q1 at *
     cases q1
     ·have HE := Lib.hid (NO.out HN.out); clear NO YES HN
      go_wp2_with fail
      refine (CB.out _).mono ?_; rintro _ w6 ⟨rfl, s6⟩
      go_wp2
      go_ret
      exact ⟨ret_bool (by rw [HE.out]; simp), eb1.trans (he.trans s6)⟩
     ·have HE := Lib.hid (YES.out HN.out); clear NO YES HN
      go_wp2_with fail
      refine (CB.out _).mono ?_; rintro _ w6 ⟨rfl, s6⟩
      go_wp2
      go_roundw
      case rel => exact ⟨k+1, by omega, by go_num, HE.out, he.trans s6⟩
      case measure => simp [intOf]; omega
    ·have HE2 : Hid (allN kids.length (kidOk kids i) = true) := allN_yes (fun j hj => ht.out j (by omega))
     cases NM
     ·go_wp2_with fail
      refine (CN.out _).mono ?_; rintro _ w7 ⟨rfl, s7⟩
      go_wp2
      go_ret
      exact ⟨ret_bool (by simp), eb1.trans (he.trans s7)⟩
     ·go_wp2_with fail
      refine (CN.out _).mono ?_; rintro _ w7 ⟨rfl, s7⟩
      have e7 := he.trans s7
      have hx7 := hx.trans s7
      go_wp2_with fail
      refine (CK'.out _ (eb1.trans e7)).mono ?_; rintro _ w8 ⟨rfl, s8⟩
      go_wp2
      go_ret
      exact ⟨ret_bool (by rw [HE1.out, HE2.out]; simp), eb1.trans (e7.trans s8)⟩
theorem iValidDesc_c (A : Option Addr) (ds : List DRule) (c : Nat) (w : World) (hd : RdD w A ds c) (hs : ShortD ds) (hw : WfD ds) :
 Gives Tryz.prog 35 #[vdesc (.slice A ds.length c)] w (.bool (descOk ds)) := by
 have hl := hd.len
 have eb := Ext_alloc (.cells #[.slice A ds.length c] 26) (Ext.refl w)
 have BX := fun w' (e : Ext (w.alloc (.cells #[.slice A ds.length c] 26)) w') => boxed e
 have CI := Lib.hid (fun w => iInRange_c (ds.length : Int) 1 24 w)
 have CR := Lib.hid (fun i w h hi => iRule_c A ds c i w h hi hs hw)
 have HB : Hid (between ds.length 1 24 = (decide ((1 : Int) ≤ (ds.length : Int)) && decide ((ds.length : Int) ≤ 24))) := rfl
 rw [← HB.out] at CI
 unfold descOk
 clear HB
 generalize between ds.length 1 24 = p at *
 unfold vdesc at *
 cases p
 ·go_enter Tryz.func35, Tryz.ntmps35
  go_wp2_with fail
  refine (CI.out _).mono ?_; rintro _ w5 ⟨rfl, s5⟩
  go_wp2
  go_ret
  exact ⟨ret_bool (by simp), eb.trans s5⟩
 ·go_enter Tryz.func35, Tryz.ntmps35
  go_wp2_with fail
  refine (CI.out _).mono ?_; rintro _ w5 ⟨rfl, s5⟩
  go_wp2
  go_loopw [12] (fun q wr => ∃ k : Nat, k ≤ ds.length ∧ q = .int .i64 k ∧ Hid (∀ j, j < k → ruleOk ds j = true) ∧ Ext (w.alloc (.cells #[.slice A ds.length c] 26)) wr) (fun q _ => ds.length - (intOf q).toNat)
  case atStart => exact ⟨0, by omega, rfl, (fun j hj => by omega), s5⟩
  case round =>
   clear s5
   obtain ⟨k, hk, rfl, ht, he⟩ := hrel
   by_cases hlt : k < ds.length
   ·have C := Lib.hid (fun w h => CR.out k w h hlt)
    have NO : Hid (ruleOk ds k = false → allN ds.length (ruleOk ds) = false) := fun hf => allN_no hlt hf
    have YES : Hid (ruleOk ds k = true → ∀ j, j < k + 1 → ruleOk ds j = true) := upTo ht.out
    generalize ruleOk ds k = q at *
    clear ht
    cases q
    ·have HE := Lib.hid (NO.out rfl); clear NO YES
     go_wp2_with fail
     refine (C.out _ (hd.ext (eb.trans he))).mono ?_; rintro _ w4 ⟨rfl, s4⟩
     go_wp2
     go_ret
     exact ⟨ret_bool (by rw [HE.out]; simp), eb.trans (he.trans s4)⟩
    ·have HE := Lib.hid (YES.out rfl); clear NO YES
     go_wp2_with fail
     refine (C.out _ (hd.ext (eb.trans he))).mono ?_; rintro _ w4 ⟨rfl, s4⟩
     go_wp2
     go_roundw
     case rel => exact ⟨k+1, by omega, by go_num, HE.out, he.trans s4⟩
     case measure => simp [intOf]; omega
   ·have HE : Hid (allN ds.length (ruleOk ds) = true) := allN_yes (fun j hj => ht.out j (by omega))
    go_wp2
    go_ret
    exact ⟨ret_bool (by rw [HE.out]; simp), eb.trans he⟩
theorem sValidDesc_c (A : Option Addr) (ds : List DRule) (c : Nat) (w : World) (hd : RdD w A ds c) (hs : ShortD ds) (hw : WfD ds) :
 Gives Tryz.prog 57 #[vdesc (.slice A ds.length c)] w (.bool (descOk ds)) := by
 have hl := hd.len
 have eb := Ext_alloc (.cells #[.slice A ds.length c] 26) (Ext.refl w)
 have BX := fun w' (e : Ext (w.alloc (.cells #[.slice A ds.length c] 26)) w') => boxed e
 have CI := Lib.hid (fun w => l1In_c (ds.length : Int) 1 24 w)
 have CR := Lib.hid (fun i w h hi => sRule_c A ds c i w h hi hs hw)
 have HB : Hid (between ds.length 1 24 = (decide ((1 : Int) ≤ (ds.length : Int)) && decide ((ds.length : Int) ≤ 24))) := rfl
 rw [← HB.out] at CI
 unfold descOk
 clear HB
 generalize between ds.length 1 24 = p at *
 unfold vdesc at *
 go_enter Tryz.func57, Tryz.ntmps57
 go_wp2
 go_loopw [3] (fun q wr => ∃ k : Nat, k ≤ ds.length ∧ q = .int .i64 k ∧ Hid (∀ j, j < k → ruleOk ds j = true) ∧ Ext (w.alloc (.cells #[.slice A ds.length c] 26)) wr) (fun q _ => ds.length - (intOf q).toNat)
 case atStart => exact ⟨0, by omega, rfl, (fun j hj => by omega), Ext.refl _⟩
 case round =>
  obtain ⟨k, hk, rfl, ht, he⟩ := hrel
  by_cases hlt : k < ds.length
  ·have C := Lib.hid (fun w h => CR.out k w h hlt)
   have NO : Hid (ruleOk ds k = false → allN ds.length (ruleOk ds) = false) := fun hf => allN_no hlt hf
   have YES : Hid (ruleOk ds k = true → ∀ j, j < k + 1 → ruleOk ds j = true) := upTo ht.out
   generalize ruleOk ds k = q at *
   clear ht
   cases q
   ·have HE := Lib.hid (NO.out rfl); clear NO YES
    go_wp2_with fail
    refine (C.out _ (hd.ext (eb.trans he))).mono ?_; rintro _ w4 ⟨rfl, s4⟩
    go_wp2
    go_ret
    exact ⟨ret_bool (by rw [HE.out]; simp), eb.trans (he.trans s4)⟩
   ·have HE := Lib.hid (YES.out rfl); clear NO YES
    go_wp2_with fail
    refine (C.out _ (hd.ext (eb.trans he))).mono ?_; rintro _ w4 ⟨rfl, s4⟩
    go_wp2
    go_roundw
    case rel => exact ⟨k+1, by omega, by go_num, HE.out, he.trans s4⟩
    case measure => simp [intOf]; omega
  ·have HE : Hid (allN ds.length (ruleOk ds) = true) := allN_yes (fun j hj => ht.out j (by omega))
   go_wp2_with fail
   refine (CI.out _).mono ?_; rintro _ w5 ⟨rfl, s5⟩
   go_wp2
   go_ret
   exact ⟨ret_bool (by rw [HE.out]; simp), eb.trans (he.trans s5)⟩
def regF (gs : List (List DRule)) (i : Nat) : Bool := match gs[i]? with | some d => descOk d | none => true
def knownB (ds : List DRule) (i : Int) : Bool := descOk ds && (decide (0 ≤ i) && decide (i < ds.length))
theorem iKnown_c (A : Option Addr) (ds : List DRule) (c : Nat) (i : Int) (w : World) (hd : RdD w A ds c) (hs : ShortD ds) (hw : WfD ds) :
 Gives Tryz.prog 31 #[vdesc (.slice A ds.length c), .int .i64 i] w (.bool (knownB ds i)) := by
 have hl := hd.len
 have eb := Ext_alloc (.cells #[.slice A ds.length c] 26) (Ext.refl w)
 have BX := fun w' (e : Ext (w.alloc (.cells #[.slice A ds.length c] 26)) w') => boxed e
 have CV := Lib.hid (fun w h => iValidDesc_c A ds c w h hs hw)
 have CH := Lib.hid (fun w => hasRule_c A ds.length c i w hl)
 unfold knownB
 unfold vdesc at *
 generalize descOk ds = p at *
 generalize (decide (0 ≤ i) && decide (i < (ds.length : Int))) = q at *
 cases p
 ·go_enter Tryz.func31, Tryz.ntmps31
  go_wp2_with fail
  refine (CV.out _ (hd.ext eb)).mono ?_; rintro _ w1 ⟨rfl, e1⟩
  go_wp2
  go_ret
  exact ⟨ret_bool (by simp), eb.trans e1⟩
 ·go_enter Tryz.func31, Tryz.ntmps31
  go_wp2_with fail
  refine (CV.out _ (hd.ext eb)).mono ?_; rintro _ w1 ⟨rfl, e1⟩
  go_wp2_with fail
  refine (CH.out _).mono ?_; rintro _ w2 ⟨rfl, e2⟩
  go_wp2
  go_ret
  exact ⟨ret_bool (by simp), eb.trans (e1.trans e2)⟩
theorem sKnown_c (A : Option Addr) (ds : List DRule) (c : Nat) (i : Int) (w : World) (hd : RdD w A ds c) (hs : ShortD ds) (hw : WfD ds) :
 Gives Tryz.prog 33 #[vdesc (.slice A ds.length c), .int .i64 i] w (.bool (knownB ds i)) := by
 have hl := hd.len
 have eb := Ext_alloc (.cells #[.slice A ds.length c] 26) (Ext.refl w)
 have BX := fun w' (e : Ext (w.alloc (.cells #[.slice A ds.length c] 26)) w') => boxed e
 have CV := Lib.hid (fun w h => sValidDesc_c A ds c w h hs hw)
 have CH := Lib.hid (fun w => l1In_c i 0 ((ds.length : Int) - 1) w)
 have HQ : Hid ((decide (0 ≤ i) && decide (i < (ds.length : Int))) = (decide (0 ≤ i) && decide (i ≤ (ds.length : Int) - 1))) := by
  show _ = _; congr 1; rw [Bool.eq_iff_iff]; simp; omega
 unfold knownB
 rw [HQ.out]
 clear HQ
 unfold vdesc at *
 generalize descOk ds = p at *
 generalize (decide (0 ≤ i) && decide (i ≤ (ds.length : Int) - 1)) = q at *
 cases q
 ·go_enter Tryz.func33, Tryz.ntmps33
  go_wp2_with fail
  refine (CH.out _).mono ?_; rintro _ w1 ⟨rfl, e1⟩
  go_wp2
  go_ret
  exact ⟨ret_bool (by simp), eb.trans e1⟩
 ·go_enter Tryz.func33, Tryz.ntmps33
  go_wp2_with fail
  refine (CH.out _).mono ?_; rintro _ w1 ⟨rfl, e1⟩
  go_wp2_with fail
  refine (CV.out _ (hd.ext (eb.trans e1))).mono ?_; rintro _ w2 ⟨rfl, e2⟩
  go_wp2
  go_ret
  exact ⟨ret_bool (by simp), eb.trans (e1.trans e2)⟩
end Go.Proofs.YtpmcofmdjckijaaGreatDoor
namespace Go.Proofs.YtpmcofmdjckijaaGreatDoor
theorem allN_congr {n : Nat} {f g : Nat → Bool} (h : ∀ k, k < n → f k = g k) : allN n f = allN n g := by
 cases hg : allN n g
 ·cases hf : allN n f
  ·rfl
  ·have : allN n g = true := allN_yes fun j hj => by rw [← h j hj]; exact allN_at hf hj
   rw [hg] at this; cases this
 ·exact allN_yes fun j hj => by rw [h j hj]; exact allN_at hg hj
structure RuleFacts (r : DRule) : Prop where
 kind : 1 ≤ r.kind ∧ r.kind ≤ 10
 plain : r.kind = 1 ∨ r.kind = 2 ∨ r.kind = 3 ∨ r.kind = 10 → r.names = [] ∧ r.kids = []
 parts : r.kind = 4 ∨ r.kind = 5 ∨ r.kind = 6 ∨ r.kind = 7 ∨ r.kind = 8 ∨ r.kind = 9 → r.size = 0 ∧ r.little = false ∧ r.bytes = []
 cho : r.kind = 7 → r.kids.length = r.tags.length + 1 ∧ r.names = []
theorem plainB_facts {r : DRule} {s b n t : Bool} {k : Int} (h : plainB r s b n t k = true) : (s = false → r.size = 0) ∧ (b = false → r.bytes = []) ∧ (n = false → r.names = []) ∧ (0 ≤ k → (r.kids.length : Int) = k) := by
 unfold plainB at h
 simp only [Bool.and_eq_true, Bool.or_eq_true, beq_iff_eq, decide_eq_true_eq, List.length_eq_zero_iff] at h
 obtain ⟨⟨⟨⟨h1, h2⟩, h3⟩, h4⟩, h5⟩ := h
 refine ⟨fun e => ?_, fun e => ?_, fun e => ?_, fun e => by omega⟩
 ·rw [e] at h1; simpa using h1
 ·rw [e] at h2; simpa using h2
 ·rw [e] at h3; simpa using h3
theorem ruleKind {ds : List DRule} (h : descOk ds = true) (i : Nat) (hi : i < ds.length) : kindOk ds ds[i] = true := by
 unfold descOk at h
 rw [Bool.and_eq_true] at h
 have h1 := allN_at h.2 hi
 unfold ruleOk at h1
 rw [List.getElem?_eq_getElem hi] at h1
 simp only [Bool.and_eq_true] at h1
 exact h1.2
theorem ruleFacts {ds : List DRule} (h : descOk ds = true) (i : Nat) (hi : i < ds.length) : RuleFacts ds[i] := by
 unfold descOk at h
 rw [Bool.and_eq_true] at h
 have h1 := allN_at h.2 hi
 unfold ruleOk at h1
 rw [List.getElem?_eq_getElem hi] at h1
 simp only [Bool.and_eq_true] at h1
 have hk := h1.2
 have hlit := h1.1.1.1.2
 generalize ds[i] = r at *
 have hl : r.kind ≠ 1 → r.little = false := by
  intro hne
  cases hq : r.little
  ·rfl
  ·rw [hq] at hlit; simp at hlit; exact absurd hlit hne
 unfold kindOk at hk
 have NO : ∀ {p : Prop} {k k' : Int}, k ≠ k' → r.kind = k → r.kind = k' → p := fun hne e1 e2 => absurd (e1.symm.trans e2) hne
 split at hk
 ·rename_i e
  simp only [Bool.and_eq_true] at hk
  have f := plainB_facts hk.1.1
  exact ⟨by omega, fun _ => ⟨f.2.2.1 rfl, by have := f.2.2.2 (by omega); simpa using this⟩, fun h => by omega, fun h => by omega⟩
 split at hk
 ·rename_i e
  simp only [Bool.and_eq_true] at hk
  have f := plainB_facts hk.1
  exact ⟨by omega, fun _ => ⟨f.2.2.1 rfl, by have := f.2.2.2 (by omega); simpa using this⟩, fun h => by omega, fun h => by omega⟩
 split at hk
 ·rename_i e
  simp only [Bool.and_eq_true] at hk
  have f := plainB_facts hk.1
  exact ⟨by omega, fun _ => ⟨f.2.2.1 rfl, by have := f.2.2.2 (by omega); simpa using this⟩, fun h => by omega, fun h => by omega⟩
 split at hk
 ·rename_i e
  simp only [Bool.and_eq_true] at hk
  have f := plainB_facts hk.1
  exact ⟨by omega, fun h => by omega, fun _ => ⟨f.1 rfl, hl (by omega), f.2.1 rfl⟩, fun h => by omega⟩
 split at hk
 ·rename_i e
  simp only [Bool.and_eq_true] at hk
  have f := plainB_facts hk.1
  exact ⟨by omega, fun h => by omega, fun _ => ⟨f.1 rfl, hl (by omega), f.2.1 rfl⟩, fun h => by omega⟩
 split at hk
 ·rename_i e
  unfold seqOk at hk
  simp only [Bool.and_eq_true] at hk
  have f := plainB_facts hk.1.1.1
  exact ⟨by omega, fun h => by omega, fun _ => ⟨f.1 rfl, hl (by omega), f.2.1 rfl⟩, fun h => by omega⟩
 split at hk
 ·rename_i e
  unfold choOk at hk
  simp only [Bool.and_eq_true] at hk
  have f := plainB_facts hk.1.1
  exact ⟨by omega, fun h => by omega, fun _ => ⟨f.1 rfl, hl (by omega), f.2.1 rfl⟩, fun _ => ⟨by have := f.2.2.2 (by omega); omega, f.2.2.1 rfl⟩⟩
 split at hk
 ·rename_i e
  have f := plainB_facts hk
  exact ⟨by omega, fun h => by omega, fun _ => ⟨f.1 rfl, hl (by omega), f.2.1 rfl⟩, fun h => by omega⟩
 split at hk
 ·rename_i e
  have f := plainB_facts hk
  exact ⟨by omega, fun h => by omega, fun _ => ⟨f.1 rfl, hl (by omega), f.2.1 rfl⟩, fun h => by omega⟩
 split at hk
 ·rename_i e
  simp only [Bool.and_eq_true] at hk
  have f := plainB_facts hk.1.1
  exact ⟨by omega, fun _ => ⟨f.2.2.1 rfl, by have := f.2.2.2 (by omega); simpa using this⟩, fun h => by omega, fun h => by omega⟩
 ·cases hk
def tagN (l : List Int) (t : Int) : Nat := l.findIdx (· == t)
theorem tagN_at {l : List Int} {t : Int} {k : Nat} (hk : k < l.length) (h : l[k] = t) (hn : ∀ j (hj : j < l.length), j < k → l[j] ≠ t) : tagN l t = k := by
 unfold tagN
 rw [List.findIdx_eq hk]
 exact ⟨by simpa using h, fun j hj => by have := hn j (by omega) hj; simpa using this⟩
theorem tagN_none {l : List Int} {t : Int} (hn : ∀ j (hj : j < l.length), l[j] ≠ t) : tagN l t = l.length := by
 unfold tagN
 rw [List.findIdx_eq_length]
 intro x hx
 obtain ⟨k, hk, rfl⟩ := List.getElem_of_mem hx
 simpa using hn k hk
def kd (r : DRule) (t : Nat) : Nat := (r.kids.getD t 0).toNat
theorem kd_at {r : DRule} {t : Nat} (h : t < r.kids.length) : kd r t = r.kids[t].toNat := by unfold kd; simp [h]
theorem kd_lt {ds : List DRule} (h : descOk ds = true) (i : Nat) (hi : i < ds.length) (t : Nat) (ht : t < ds[i].kids.length) : kd ds[i] t < i := by
 rw [kd_at ht]; have := descOk_kid h i hi t ht; omega
theorem kd_int {ds : List DRule} (h : descOk ds = true) (i : Nat) (hi : i < ds.length) (t : Nat) (ht : t < ds[i].kids.length) : ds[i].kids[t] = (kd ds[i] t : Int) := by
 rw [kd_at ht]; have := descOk_kid h i hi t ht; omega
def extHead (x y : DRule) : Bool := x.kind == y.kind && x.size == y.size && x.little == y.little && x.bytes == y.bytes
def extTag (e : Nat → Nat → Bool) (x y : DRule) (t : Nat) : Bool := decide (tagN y.tags (x.tags.getD t 0) < y.tags.length) && e (kd x (t + 1)) (kd y (tagN y.tags (x.tags.getD t 0) + 1))
def extTail (e : Nat → Nat → Bool) (x y : DRule) : Bool :=
 if x.kind = 7 then e (kd x 0) (kd y 0) && allN x.tags.length (extTag e x y)
 else eqNms x.names y.names && x.kids.length == y.kids.length && allN x.kids.length (fun t => e (kd x t) (kd y t))
def extF (a b : List DRule) : Nat → Nat → Nat → Bool
 | 0, _, _ => false
 | n + 1, i, j => match a[i]?, b[j]? with
  | some x, some y => extHead x y && extTail (extF a b n) x y
  | _, _ => false
def ext (a b : List DRule) (i j : Nat) : Bool := extF a b (i + 1) i j
theorem extTail_congr {ds : List DRule} (h : descOk ds = true) (i : Nat) (hi : i < ds.length) (e e' : Nat → Nat → Bool) (y : DRule) (he : ∀ k, k < i → ∀ j, e k j = e' k j) : extTail e ds[i] y = extTail e' ds[i] y := by
 have hk := kd_lt h i hi
 have hf := ruleFacts h i hi
 unfold extTail
 split
 ·rename_i h7
  have hc := (hf.cho h7).1
  rw [he _ (hk 0 (by omega))]
  rw [allN_congr (f := extTag e ds[i] y) (g := extTag e' ds[i] y) (fun t ht => by unfold extTag; rw [he _ (hk (t + 1) (by omega))])]
 ·rw [allN_congr (fun t ht => he _ (hk t ht) _)]
theorem extF_fuel {a : List DRule} (h : descOk a = true) (b : List DRule) : ∀ n m i j, i < n → i < m → extF a b n i j = extF a b m i j := by
 intro n
 induction n with
 | zero => intro m i j hn; omega
 | succ n ih =>
  intro m i j hn hm
  obtain ⟨m', rfl⟩ : ∃ m', m = m' + 1 := ⟨m - 1, by omega⟩
  unfold extF
  rcases Nat.lt_or_ge i a.length with hi | hi
  ·rw [List.getElem?_eq_getElem hi]
   rcases Nat.lt_or_ge j b.length with hj | hj
   ·rw [List.getElem?_eq_getElem hj]
    show (_ && _) = (_ && _)
    rw [extTail_congr h i hi _ (extF a b m') _ (fun k hk j => ih m' k j (by omega) (by omega))]
   ·rw [List.getElem?_eq_none hj]
  ·rw [List.getElem?_eq_none hi]
theorem ext_step {a b : List DRule} (h : descOk a = true) (i j : Nat) (hi : i < a.length) (hj : j < b.length) : ext a b i j = (extHead a[i] b[j] && extTail (ext a b) a[i] b[j]) := by
 unfold ext
 rw [extF, List.getElem?_eq_getElem hi, List.getElem?_eq_getElem hj]
 show (_ && _) = (_ && _)
 rw [extTail_congr h i hi (extF a b i) (fun i j => extF a b (i + 1) i j) b[j] (fun k hk j => extF_fuel h b i (k + 1) k j hk (by omega))]
def extRule (a b : List DRule) (i j : Int) : Bool := knownB a i && (knownB b j && ext a b i.toNat j.toNat)
def extD (a b : List DRule) : Bool := extRule a b ((a.length : Int) - 1) ((b.length : Int) - 1)
def sameF (a b : List DRule) : Bool := extD a b && extD b a
def noRule : DRule := ⟨⟨#[]⟩, 0, 0, false, [], [], [], []⟩
def kidV (r : DRule) (n : Int) (i : Nat) : Nat :=
 if r.kind = 5 then kd r 1 else if r.kind = 6 then kd r i else if r.kind = 7 then kd r (tagN r.tags n + 1) else kd r 0
def ownV (ds : List DRule) (r : DRule) (n : Int) (b m : Nat) : Bool :=
 if r.kind = 1 then decide (0 ≤ n) && decide (n ≤ limR r) && b == 0 && m == 0
 else if r.kind = 2 then n == 0 && b == 0 && m == 0
 else if r.kind = 3 then n == 0 && decide ((b : Int) = r.size) && m == 0
 else if r.kind = 4 then n == 0 && decide ((b : Int) ≤ min 400 (limD ds (r.kids.getD 0 0))) && m == 0
 else if r.kind = 5 then n == 0 && b == 0 && decide ((m : Int) ≤ min 40 (limD ds (r.kids.getD 0 0)))
 else if r.kind = 6 then n == 0 && b == 0 && m == r.kids.length
 else if r.kind = 7 then decide (tagN r.tags n < r.tags.length) && b == 0 && m == 1
 else if r.kind = 8 then n == 0 && b == 0 && decide (m ≤ 1)
 else if r.kind = 9 then n == 0 && b == 0 && m == 1
 else n == 0 && decide (b ≤ 400) && m == 0
mutual
def validV (ds : List DRule) : Nat → DVal → Bool
 | i, .mk n b its => match ds[i]? with
  | some r => ownV ds r n b.length its.length && validVs ds r n 0 its
  | none => false
def validVs (ds : List DRule) (r : DRule) (n : Int) : Nat → List DVal → Bool
 | _, [] => true
 | k, x :: t => validV ds (kidV r n k) x && validVs ds r n (k + 1) t
end
theorem validV_eq (ds : List DRule) (i : Nat) (hi : i < ds.length) (v : DVal) : validV ds i v = (ownV ds ds[i] v.num v.bytes.length v.items.length && validVs ds ds[i] v.num 0 v.items) := by
 cases v; rw [validV, List.getElem?_eq_getElem hi]; rfl
theorem validVs_iff (ds : List DRule) (r : DRule) (n : Int) : ∀ (l : List DVal) (k : Nat), validVs ds r n k l = true ↔ ∀ j (hj : j < l.length), validV ds (kidV r n (k + j)) l[j] = true
 | [], k => by rw [validVs]; simp
 | x :: t, k => by
  rw [validVs, Bool.and_eq_true, validVs_iff ds r n t (k + 1)]
  constructor
  ·rintro ⟨h1, h2⟩ j hj
   cases j with
   | zero => exact h1
   | succ j => have := h2 j (by simpa using hj); rw [show k + 1 + j = k + (j + 1) by omega] at this; simpa using this
  ·intro h
   refine ⟨h 0 (by simp), fun j hj => ?_⟩
   have := h (j + 1) (by simpa using hj); rw [show k + (j + 1) = k + 1 + j by omega] at this; simpa using this
theorem validV_yes {ds : List DRule} {i : Nat} {hi : i < ds.length} {v : DVal} (ho : ownV ds ds[i] v.num v.bytes.length v.items.length = true) (h : ∀ j (hj : j < v.items.length), validV ds (kidV ds[i] v.num j) v.items[j] = true) : validV ds i v = true := by
 rw [validV_eq ds i hi, ho, (validVs_iff _ _ _ _ _).2 (fun j hj => by rw [Nat.zero_add]; exact h j hj)]; rfl
theorem validV_own {ds : List DRule} {i : Nat} {hi : i < ds.length} {v : DVal} (ho : ownV ds ds[i] v.num v.bytes.length v.items.length = false) : validV ds i v = false := by
 rw [validV_eq ds i hi, ho]; rfl
theorem validV_no {ds : List DRule} {i : Nat} {hi : i < ds.length} {v : DVal} {j : Nat} (hj : j < v.items.length) (h : validV ds (kidV ds[i] v.num j) v.items[j] = false) : validV ds i v = false := by
 rw [validV_eq ds i hi, Bool.and_eq_false_iff]; right
 cases hh : validVs ds ds[i] v.num 0 v.items
 ·rfl
 ·have := (validVs_iff _ _ _ _ _).1 hh j hj; rw [Nat.zero_add, h] at this; cases this
theorem validV_lt {ds : List DRule} {i : Nat} {v : DVal} (h : validV ds i v = true) : i < ds.length := by
 cases v; rw [validV] at h
 rcases Nat.lt_or_ge i ds.length with h' | h'
 ·exact h'
 ·rw [List.getElem?_eq_none h'] at h; cases h
theorem validV_item {ds : List DRule} {i : Nat} {v : DVal} (h : validV ds i v = true) (j : Nat) (hj : j < v.items.length) : validV ds (kidV (ds[i]'(validV_lt h)) v.num j) v.items[j] = true := by
 rw [validV_eq ds i (validV_lt h), Bool.and_eq_true] at h
 have := (validVs_iff _ _ _ _ _).1 h.2 j hj; rwa [Nat.zero_add] at this
theorem validV_fits {ds : List DRule} {i : Nat} {v : DVal} (h : validV ds i v = true) : ownV ds (ds[i]'(validV_lt h)) v.num v.bytes.length v.items.length = true := by
 rw [validV_eq ds i (validV_lt h), Bool.and_eq_true] at h; exact h.1
def stepR (r : DRule) (i : Nat) : ByteArray :=
 if r.kind = 5 then itoaB i else if r.kind = 6 then r.names.getD i ⟨#[]⟩ else if r.kind = 7 then ⟨#[42]⟩ else if r.kind = 8 then ⟨#[63]⟩ else ⟨#[43]⟩
def under (p : ByteArray) (r : DRule) (i : Nat) : ByteArray := p ++ ⟨#[47]⟩ ++ stepR r i
noncomputable instance : DecidableEq DVal := fun _ _ => Classical.propDecidable _
noncomputable def eqV (a b : DVal) : Bool := decide (a = b)
theorem eqV_iff {a b : DVal} : eqV a b = true ↔ a = b := by unfold eqV; simp
theorem eqV_refl (a : DVal) : eqV a a = true := eqV_iff.2 rfl
theorem eqV_no {a b : DVal} (h : a ≠ b) : eqV a b = false := by unfold eqV; simp [h]
def alikeV (a b : DVal) : Bool := a.num == b.num && a.bytes == b.bytes && a.items.length == b.items.length && !(a.items.length == 0)
mutual
noncomputable def diffV (ds : List DRule) : Nat → DVal → DVal → ByteArray → List (ByteArray × DVal)
 | i, .mk n b its, v, p => if eqV (.mk n b its) v then [] else if alikeV (.mk n b its) v then diffVs ds (ds.getD i noRule) n 0 its v.items p else [(p, v)]
noncomputable def diffVs (ds : List DRule) (r : DRule) (n : Int) : Nat → List DVal → List DVal → ByteArray → List (ByteArray × DVal)
 | _, [], _, _ => []
 | _, _ :: _, [], _ => []
 | k, x :: t, y :: u, p => diffV ds (kidV r n k) x y (under p r k) ++ diffVs ds r n (k + 1) t u p
end
theorem kids_len {ds : List DRule} (h : descOk ds = true) (i : Nat) (hi : i < ds.length) :
 (ds[i].kind = 4 → ds[i].kids.length = 1 ∧ 0 < limD ds (ds[i].kids.getD 0 0)) ∧ (ds[i].kind = 5 → ds[i].kids.length = 2 ∧ 0 < limD ds (ds[i].kids.getD 0 0)) ∧ (ds[i].kind = 6 → ds[i].names.length = ds[i].kids.length ∧ ∀ s ∈ ds[i].names, s.size ≤ 12) ∧
 (ds[i].kind = 7 → ds[i].kids.length = ds[i].tags.length + 1 ∧ ∀ j (hj : j < ds[i].tags.length), 0 ≤ ds[i].tags[j] ∧ ds[i].tags[j] ≤ limD ds (ds[i].kids.getD 0 0)) ∧ (ds[i].kind = 8 ∨ ds[i].kind = 9 → ds[i].kids.length = 1) ∧ (ds[i].kind = 1 → 1 ≤ ds[i].size ∧ ds[i].size ≤ 4) ∧ (ds[i].kind = 3 → 1 ≤ ds[i].size ∧ ds[i].size ≤ 64) := by
 have hk := ruleKind h i hi
 generalize ds[i] = r at *
 unfold kindOk at hk
 split at hk
 ·rename_i e
  simp only [Bool.and_eq_true, between, decide_eq_true_eq] at hk
  exact ⟨fun e' => by omega, fun e' => by omega, fun e' => by omega, fun e' => by omega, fun e' => by omega, fun _ => hk.1.2, fun e' => by omega⟩
 split at hk
 ·rename_i e
  exact ⟨fun e' => by omega, fun e' => by omega, fun e' => by omega, fun e' => by omega, fun e' => by omega, fun e' => by omega, fun e' => by omega⟩
 split at hk
 ·rename_i e
  simp only [Bool.and_eq_true, between, decide_eq_true_eq] at hk
  exact ⟨fun e' => by omega, fun e' => by omega, fun e' => by omega, fun e' => by omega, fun e' => by omega, fun e' => by omega, fun _ => hk.2⟩
 split at hk
 ·rename_i e
  simp only [Bool.and_eq_true, decide_eq_true_eq] at hk
  have f := (plainB_facts hk.1).2.2.2 (by omega)
  exact ⟨fun _ => ⟨by omega, hk.2⟩, fun e' => by omega, fun e' => by omega, fun e' => by omega, fun e' => by omega, fun e' => by omega, fun e' => by omega⟩
 split at hk
 ·rename_i e
  simp only [Bool.and_eq_true, decide_eq_true_eq] at hk
  have f := (plainB_facts hk.1).2.2.2 (by omega)
  exact ⟨fun e' => by omega, fun _ => ⟨by omega, hk.2⟩, fun e' => by omega, fun e' => by omega, fun e' => by omega, fun e' => by omega, fun e' => by omega⟩
 split at hk
 ·rename_i e
  unfold seqOk at hk
  simp only [Bool.and_eq_true, beq_iff_eq] at hk
  have hn := hk.2
  refine ⟨fun e' => by omega, fun e' => by omega, fun _ => ⟨hk.1.1.2.symm, fun s hs => ?_⟩, fun e' => by omega, fun e' => by omega, fun e' => by omega, fun e' => by omega⟩
  obtain ⟨k, hk', rfl⟩ := List.getElem_of_mem hs
  have := allN_at hn hk'
  unfold nameOk at this
  rw [List.getElem?_eq_getElem hk'] at this
  simp only [Bool.and_eq_true] at this
  have h2 := this.1
  unfold isName at h2
  simp only [Bool.and_eq_true, decide_eq_true_eq] at h2
  exact h2.1.2
 split at hk
 ·rename_i e
  unfold choOk at hk
  simp only [Bool.and_eq_true] at hk
  have f := (plainB_facts hk.1.1).2.2.2 (by omega)
  refine ⟨fun e' => by omega, fun e' => by omega, fun e' => by omega, fun _ => ⟨by omega, fun j hj => ?_⟩, fun e' => by omega, fun e' => by omega, fun e' => by omega⟩
  have := allN_at hk.2 hj
  unfold tagOk at this
  rw [List.getElem?_eq_getElem hj] at this
  simp only [Bool.and_eq_true, between, decide_eq_true_eq] at this
  exact this.1
 split at hk
 ·rename_i e
  have f := (plainB_facts hk).2.2.2 (by omega)
  exact ⟨fun e' => by omega, fun e' => by omega, fun e' => by omega, fun e' => by omega, fun _ => by omega, fun e' => by omega, fun e' => by omega⟩
 split at hk
 ·rename_i e
  have f := (plainB_facts hk).2.2.2 (by omega)
  exact ⟨fun e' => by omega, fun e' => by omega, fun e' => by omega, fun e' => by omega, fun _ => by omega, fun e' => by omega, fun e' => by omega⟩
 split at hk
 ·rename_i e
  exact ⟨fun e' => by omega, fun e' => by omega, fun e' => by omega, fun e' => by omega, fun e' => by omega, fun e' => by omega, fun e' => by omega⟩
 ·cases hk
theorem own_item {ds : List DRule} (h : descOk ds = true) (i : Nat) (hi : i < ds.length) {n : Int} {b m j : Nat} (ho : ownV ds ds[i] n b m = true) (hj : j < m) :
 kidV ds[i] n j < i ∧ ((ds[i].kind = 5 ∧ 1 < ds[i].kids.length) ∨ (ds[i].kind = 6 ∧ j < ds[i].kids.length ∧ j < ds[i].names.length) ∨ (ds[i].kind = 7 ∧ j = 0 ∧ tagN ds[i].tags n < ds[i].tags.length ∧ tagN ds[i].tags n + 1 < ds[i].kids.length) ∨ ((ds[i].kind = 8 ∨ ds[i].kind = 9) ∧ j = 0 ∧ 0 < ds[i].kids.length)) := by
 obtain ⟨k4, k5, k6, k7, k8, _, _⟩ := kids_len h i hi
 have hlt := kd_lt h i hi
 have hkd := (ruleFacts h i hi).kind
 generalize ds[i] = r at *
 unfold ownV at ho
 split at ho
 ·simp only [Bool.and_eq_true, beq_iff_eq] at ho; omega
 split at ho
 ·simp only [Bool.and_eq_true, beq_iff_eq] at ho; omega
 split at ho
 ·simp only [Bool.and_eq_true, beq_iff_eq] at ho; omega
 split at ho
 ·simp only [Bool.and_eq_true, beq_iff_eq] at ho; omega
 split at ho
 ·rename_i e
  have := (k5 e).1
  exact ⟨by unfold kidV; rw [if_pos e]; exact hlt _ (by omega), .inl ⟨e, by omega⟩⟩
 split at ho
 ·rename_i e5 e
  simp only [Bool.and_eq_true, beq_iff_eq] at ho
  have := (k6 e).1
  exact ⟨by unfold kidV; rw [if_neg e5, if_pos e]; exact hlt _ (by omega), .inr (.inl ⟨e, by omega, by omega⟩)⟩
 split at ho
 ·rename_i e5 e6 e
  simp only [Bool.and_eq_true, beq_iff_eq, decide_eq_true_eq] at ho
  have := (k7 e).1
  exact ⟨by unfold kidV; rw [if_neg e5, if_neg e6, if_pos e]; exact hlt _ (by omega), .inr (.inr (.inl ⟨e, by omega, by omega, by omega⟩))⟩
 split at ho
 ·rename_i e5 e6 e7 e
  simp only [Bool.and_eq_true, beq_iff_eq, decide_eq_true_eq] at ho
  have := k8 (.inl e)
  exact ⟨by unfold kidV; rw [if_neg e5, if_neg e6, if_neg e7]; exact hlt _ (by omega), .inr (.inr (.inr ⟨.inl e, by omega, by omega⟩))⟩
 split at ho
 ·rename_i e5 e6 e7 e8 e
  simp only [Bool.and_eq_true, beq_iff_eq, decide_eq_true_eq] at ho
  have := k8 (.inr e)
  exact ⟨by unfold kidV; rw [if_neg e5, if_neg e6, if_neg e7]; exact hlt _ (by omega), .inr (.inr (.inr ⟨.inr e, by omega, by omega⟩))⟩
 ·simp only [Bool.and_eq_true, beq_iff_eq] at ho; omega
end Go.Proofs.YtpmcofmdjckijaaGreatDoor
namespace Go.Proofs.YtpmcofmdjckijaaGreatDoor
open Go.RowKit Go.Sort
def nmR (r : DRule) (t : ByteArray) : DRule := { r with nm := t }
def nmV (p : RV) (t : ByteArray) : RV := { p with r := nmR p.r t }
def setNm (ds : List DRule) (k : Nat) (t : ByteArray) : List DRule := ds.set k (nmR (ds.getD k ⟨⟨#[]⟩, 0, 0, false, [], [], [], []⟩) t)
def setNmV (ps : List RV) (k : Nat) (t : ByteArray) : List RV := ps.set k (nmV (ps.getD k ⟨⟨⟨#[]⟩, 0, 0, false, [], [], [], []⟩, undef, undef, undef, undef⟩) t)
def renOk (ds : List DRule) (f t : ByteArray) : Bool := decide (0 ≤ findR ds f) && descOk (setNm ds (findR ds f).toNat t)
def renD (ds : List DRule) (f t : ByteArray) : List DRule := if renOk ds f t then setNm ds (findR ds f).toNat t else ds
theorem cells_set : ∀ (ps : List RV) (k : Nat) (h : k < ps.length) (t : ByteArray), (ps.flatMap RV.cells).set (k * 8) (.string t) = (ps.set k (nmV ps[k] t)).flatMap RV.cells := by
 intro ps
 induction ps with
 | nil => intro k h; simp at h
 | cons p s ih =>
  intro k h t
  cases k with
  | zero => simp [RV.cells, nmV, nmR, List.flatMap_cons]
  | succ k =>
   have h' : k < s.length := by simpa using h
   rw [List.flatMap_cons, List.set_append_right _ _ (by simp [RV.cells]; omega)]
   rw [show (k + 1) * 8 - p.cells.length = k * 8 by simp [RV.cells]; omega, ih k h' t]
   simp [List.flatMap_cons]
theorem vals_set (ps : List RV) (k : Nat) (h : k < ps.length) (t : ByteArray) : (ps.set k (nmV ps[k] t)).flatMap RV.vals = ps.flatMap RV.vals := by
 induction ps generalizing k with
 | nil => simp at h
 | cons p s ih =>
  cases k with
  | zero => simp [RV.vals, nmV, List.flatMap_cons]
  | succ k => simp only [List.set_cons_succ, List.flatMap_cons, List.getElem_cons_succ]; rw [ih k (by simpa using h)]
theorem setNmV_eq {ps : List RV} {k : Nat} (h : k < ps.length) (t : ByteArray) : setNmV ps k t = ps.set k (nmV ps[k] t) := by unfold setNmV; simp [h]
theorem far_parts' {v : Value} {ps : List RV} (h : Far (v :: ps.flatMap RV.vals)) : (∀ q ∈ ps, ∀ u ∈ q.vals, ∀ g, v.ownBlock = some g → u.ownBlock ≠ some g) ∧ True ∧ True := by
 unfold Far at h
 rw [List.pairwise_cons] at h
 exact ⟨fun q hq u hu g hg => h.1 u (List.mem_flatMap.2 ⟨q, hq, hu⟩) g hg, trivial, trivial⟩
theorem OwnD.setNm {w0 w : World} {g c : Nat} {ps : List RV} (h : OwnD w0 w (.slice (some ⟨g, 0, none⟩) ps.length c) ps) {k : Nat} (hk : k < ps.length) (t : ByteArray) :
 OwnD w0 (w.setCell ⟨g, k * 8, none⟩ (.string t)) (.slice (some ⟨g, 0, none⟩) ps.length c) (setNmV ps k t) := by
 rw [setNmV_eq hk]
 obtain ⟨f1, _, _⟩ := far_parts' h.far
 refine ⟨?_, fun p hp => ?_, ?_⟩
 ·have := (h.row.stored (k * 8) (.string t)).1
  rw [cells_set ps k hk t] at this
  rw [List.length_set]; exact this
 ·have hkeep : ∀ q ∈ ps, RuleOwn w0 (w.setCell ⟨g, k * 8, none⟩ (.string t)) q := fun q hq => (h.each q hq).keep (grown_set w ⟨g, k * 8, none⟩ _) (fun u hu b hb hh => by
   injection hh with hh
   exact f1 q hq u hu g rfl (by rw [hb]; exact congrArg some hh.symm))
  rcases List.mem_or_eq_of_mem_set hp with h1 | rfl
  ·exact hkeep p h1
  ·have := hkeep ps[k] (List.getElem_mem hk)
   exact ⟨this.b, this.n, this.t, this.k⟩
 ·rw [vals_set ps k hk t]; exact h.far
theorem toList_inj {a b : ByteArray} (h : a.toList = b.toList) : a = b := by
 rw [ByteArray.toList_eq, ByteArray.toList_eq] at h
 exact ByteArray.ext (Array.toList_inj.1 h)
def AlikeR (x y : DRule) : Prop := x.kind = y.kind ∧ x.size = y.size ∧ x.little = y.little ∧ x.bytes = y.bytes ∧ x.names = y.names ∧ x.tags = y.tags ∧ x.kids = y.kids
theorem tags_nodup {ds : List DRule} (h : descOk ds = true) (i : Nat) (hi : i < ds.length) (h7 : ds[i].kind = 7) : ∀ k (hk : k < ds[i].tags.length), ∀ j (hj : j < k), ds[i].tags[j] < ds[i].tags[k] := by
 have hk7 := ruleKind h i hi
 unfold kindOk at hk7
 rw [if_neg (by omega), if_neg (by omega), if_neg (by omega), if_neg (by omega), if_neg (by omega), if_neg (by omega), if_pos h7] at hk7
 unfold choOk at hk7
 simp only [Bool.and_eq_true] at hk7
 have hall := hk7.2
 have step : ∀ k (hk : k + 1 < ds[i].tags.length), ds[i].tags[k] < ds[i].tags[k + 1] := by
  intro k hk
  have h1 := allN_at hall hk
  unfold tagOk at h1
  rw [List.getElem?_eq_getElem hk] at h1
  simp only [Bool.and_eq_true, Bool.or_eq_true, beq_iff_eq, decide_eq_true_eq] at h1
  rcases h1.2 with h2 | h2
  ·omega
  ·rw [List.getD_eq_getElem?_getD, Nat.add_sub_cancel, List.getElem?_eq_getElem (by omega)] at h2
   exact h2
 intro k
 induction k with
 | zero => intro hk j hj; omega
 | succ k ih =>
  intro hk j hj
  rcases (by omega : j = k ∨ j < k) with rfl | h1
  ·exact step j hk
  ·exact Int.lt_trans (ih (by omega) j h1) (step k hk)
theorem tagN_self {ds : List DRule} (h : descOk ds = true) (i : Nat) (hi : i < ds.length) (h7 : ds[i].kind = 7) (t : Nat) (ht : t < ds[i].tags.length) : tagN ds[i].tags (ds[i].tags.getD t 0) = t := by
 refine tagN_at ht ?_ (fun j hj hjt => ?_)
 ·rw [List.getD_eq_getElem?_getD, List.getElem?_eq_getElem ht]; rfl
 ·rw [List.getD_eq_getElem?_getD, List.getElem?_eq_getElem ht]
  have := tags_nodup h i hi h7 t ht j hjt
  simp only [Option.getD_some]
  omega
theorem knownB_root {ds : List DRule} (h : descOk ds = true) : knownB ds ((ds.length : Int) - 1) = true := by
 have := descOk_len h
 unfold knownB
 rw [h, decide_eq_true (by omega), decide_eq_true (by omega)]; rfl
theorem AlikeR.symm {x y : DRule} (h : AlikeR x y) : AlikeR y x := by
 obtain ⟨e1, e2, e3, e4, e5, e6, e7⟩ := h
 exact ⟨e1.symm, e2.symm, e3.symm, e4.symm, e5.symm, e6.symm, e7.symm⟩
theorem AlikeR.refl (x : DRule) : AlikeR x x := ⟨rfl, rfl, rfl, rfl, rfl, rfl, rfl⟩
theorem findR_spec {ds : List DRule} {s : ByteArray} (h : 0 ≤ findR ds s) : ∃ h' : (findR ds s).toNat < ds.length, ds[(findR ds s).toNat].nm = s := by
 unfold findR at *
 cases hf : ds.findIdx? (fun r => r.nm.toList == s.toList) with
 | none => rw [hf] at h; simp at h
 | some i =>
  obtain ⟨h1, h2, _⟩ := List.findIdx?_eq_some_iff_getElem.1 hf
  exact ⟨h1, toList_inj (by simpa using h2)⟩
end Go.Proofs.YtpmcofmdjckijaaGreatDoor
namespace Go.Proofs.YtpmcofmdjckijaaGreatDoor
def ofN : Nat → Nat → List UInt8
 | 0, _ => []
 | s + 1, n => ofN s (n / 256) ++ [UInt8.ofNat n]
theorem ofN_len : ∀ s n, (ofN s n).length = s
 | 0, _ => rfl
 | s + 1, n => by rw [ofN, List.length_append, ofN_len s]; rfl
def rdN (l : List UInt8) : Nat := l.foldl (fun a x => a * 256 + x.toNat) 0
theorem rdN_snoc (l : List UInt8) (x : UInt8) : rdN (l ++ [x]) = rdN l * 256 + x.toNat := by unfold rdN; rw [List.foldl_append]; rfl
theorem rdN_ofN : ∀ s n, n < 256 ^ s → rdN (ofN s n) = n
 | 0, n, h => by have : n = 0 := by simpa using h
                 subst this; rfl
 | s + 1, n, h => by
  rw [ofN, rdN_snoc, rdN_ofN s (n / 256) (by rw [Nat.pow_succ] at h; omega), UInt8.toNat_ofNat']
  omega
def encI (r : DRule) (n : Nat) : List UInt8 := if r.little then (ofN r.size.toNat n).reverse else ofN r.size.toNat n
def decI (r : DRule) (l : List UInt8) : Nat := rdN (if r.little then l.reverse else l)
theorem pow256 (n : Nat) : ((256 ^ n : Nat) : Int) = 256 ^ n := Int.natCast_pow 256 n
theorem encI_len (r : DRule) (n : Nat) : (encI r n).length = r.size.toNat := by unfold encI; split <;> simp [ofN_len]
theorem decI_encI (r : DRule) (n : Nat) (h : n < 256 ^ r.size.toNat) : decI r (encI r n) = n := by
 unfold decI encI; split <;> simp [rdN_ofN _ _ h]
def escB (t : UInt8) (l : List UInt8) : List UInt8 := l.flatMap fun x => if x = t ∨ x = 92 then [92, x] else [x]
def wrapV (ds : List DRule) (r : DRule) (n : Int) (b : List UInt8) (m : Nat) (inner : List UInt8) : List UInt8 :=
 if r.kind = 1 then encI r n.toNat
 else if r.kind = 2 then r.bytes
 else if r.kind = 3 then b
 else if r.kind = 4 then encI (ds.getD (kd r 0) noRule) b.length ++ b
 else if r.kind = 5 then encI (ds.getD (kd r 0) noRule) m ++ inner
 else if r.kind = 6 then inner
 else if r.kind = 7 then encI (ds.getD (kd r 0) noRule) n.toNat ++ inner
 else if r.kind = 8 then UInt8.ofNat m :: inner
 else if r.kind = 9 then inner ++ [UInt8.ofNat (sumB inner)]
 else escB (r.bytes.getD 0 0) b ++ [r.bytes.getD 0 0]
mutual
def printV (ds : List DRule) : Nat → DVal → List UInt8
 | i, .mk n b its => wrapV ds (ds.getD i noRule) n b its.length (printVs ds (ds.getD i noRule) n 0 its)
def printVs (ds : List DRule) (r : DRule) (n : Int) : Nat → List DVal → List UInt8
 | _, [] => []
 | k, x :: t => printV ds (kidV r n k) x ++ printVs ds r n (k + 1) t
end
theorem printV_eq (ds : List DRule) (i : Nat) (v : DVal) : printV ds i v = wrapV ds (ds.getD i noRule) v.num v.bytes v.items.length (printVs ds (ds.getD i noRule) v.num 0 v.items) := by cases v; rw [printV]; rfl
structure RR where
 v : DVal
 next : Nat
 code : Nat
def v0 : DVal := .mk 0 [] []
def RR.bad (next code : Nat) : RR := ⟨v0, next, code⟩
def itemsF (rd : Nat → Nat → RR) (r : DRule) (n : Int) : Nat → Nat → Nat → List DVal → RR
 | 0, _, a, acc => ⟨.mk 0 [] acc, a, 0⟩
 | m + 1, k, a, acc => if (rd (kidV r n k) a).code = 0 then itemsF rd r n m (k + 1) (rd (kidV r n k) a).next (acc ++ [(rd (kidV r n k) a).v]) else .bad (rd (kidV r n k) a).next (rd (kidV r n k) a).code
def untilL (t : UInt8) : List UInt8 → Option (List UInt8 × Nat)
 | [] => none
 | [x] => if x = t then some ([], 1) else none
 | x :: y :: l => if x = t then some ([], 1) else if x = 92 then (untilL t l).map fun q => (y :: q.1, q.2 + 2) else (untilL t (y :: l)).map fun q => (x :: q.1, q.2 + 1)
theorem untilL_hit (t : UInt8) (l : List UInt8) : untilL t (t :: l) = some ([], 1) := by
 cases l with
 | nil => rw [untilL, if_pos rfl]
 | cons y l => rw [untilL, if_pos rfl]
theorem untilL_two (t : UInt8) (ht : t ≠ 92) (y : UInt8) (l : List UInt8) : untilL t (92 :: y :: l) = (untilL t l).map fun q => (y :: q.1, q.2 + 2) := by
 rw [untilL, if_neg (fun h => ht h.symm), if_pos rfl]
theorem untilL_one (t x : UInt8) (h1 : x ≠ t) (h2 : x ≠ 92) (l : List UInt8) : untilL t (x :: l) = (untilL t l).map fun q => (x :: q.1, q.2 + 1) := by
 cases l with
 | nil => simp [untilL, h1]
 | cons y l => rw [untilL, if_neg h1, if_neg h2]
theorem untilL_end (t : UInt8) (ht : t ≠ 92) : untilL t [92] = none := by rw [untilL, if_neg (fun h => ht h.symm)]
def constF (b : List UInt8) (a : Nat) : List UInt8 → Nat → RR
 | [], i => ⟨v0, a + i, 0⟩
 | c :: t, i => match b[a + i]? with
  | none => .bad a 1
  | some x => if x = c then constF b a t (i + 1) else .bad (a + i) 2
def bytesF (b : List UInt8) (a n : Nat) : RR := if b.length - a < n then .bad a 1 else ⟨.mk 0 ((b.drop a).take n) [], a + n, 0⟩
def intAt (r : DRule) (b : List UInt8) (a : Nat) : Option Nat := if b.length - a < r.size.toNat then none else some (decI r ((b.drop a).take r.size.toNat))
def choiceF (ds : List DRule) (rd : Nat → Nat → RR) (r : DRule) (b : List UInt8) (a : Nat) : RR :=
 match intAt (ds.getD (kd r 0) noRule) b a with
 | none => .bad a 1
 | some n => if tagN r.tags n < r.tags.length then (if (itemsF rd r n 1 0 (a + (ds.getD (kd r 0) noRule).size.toNat) []).code = 0
  then ⟨.mk n (itemsF rd r n 1 0 (a + (ds.getD (kd r 0) noRule).size.toNat) []).v.bytes (itemsF rd r n 1 0 (a + (ds.getD (kd r 0) noRule).size.toNat) []).v.items, (itemsF rd r n 1 0 (a + (ds.getD (kd r 0) noRule).size.toNat) []).next, 0⟩
  else itemsF rd r n 1 0 (a + (ds.getD (kd r 0) noRule).size.toNat) []) else .bad a 3
def optionF (rd : Nat → Nat → RR) (r : DRule) (b : List UInt8) (a : Nat) : RR :=
 match b[a]? with
 | none => .bad a 1
 | some x => if 1 < x.toNat then .bad a 4 else itemsF rd r 0 x.toNat 0 (a + 1) []
def checkedF (rd : Nat → Nat → RR) (r : DRule) (b : List UInt8) (a : Nat) : RR :=
 if (itemsF rd r 0 1 0 a []).code = 0 then (match b[(itemsF rd r 0 1 0 a []).next]? with
  | none => .bad (itemsF rd r 0 1 0 a []).next 1
  | some x => if x.toNat = sumB ((b.drop a).take ((itemsF rd r 0 1 0 a []).next - a)) % 256 then ⟨(itemsF rd r 0 1 0 a []).v, (itemsF rd r 0 1 0 a []).next + 1, 0⟩ else .bad (itemsF rd r 0 1 0 a []).next 5)
 else itemsF rd r 0 1 0 a []
def readR (ds : List DRule) (rd : Nat → Nat → RR) (r : DRule) (b : List UInt8) (a : Nat) : RR :=
 if r.kind = 1 then (match intAt r b a with | none => .bad a 1 | some n => ⟨.mk n [] [], a + r.size.toNat, 0⟩)
 else if r.kind = 2 then constF b a r.bytes 0
 else if r.kind = 3 then bytesF b a r.size.toNat
 else if r.kind = 10 then (match untilL (r.bytes.getD 0 0) (b.drop a) with | none => .bad a 1 | some q => ⟨.mk 0 q.1 [], a + q.2, 0⟩)
 else if r.kind = 6 then itemsF rd r 0 r.kids.length 0 a []
 else if r.kind = 7 then choiceF ds rd r b a
 else if r.kind = 8 then optionF rd r b a
 else if r.kind = 9 then checkedF rd r b a
 else match intAt (ds.getD (kd r 0) noRule) b a with
  | none => .bad a 1
  | some n => if r.kind = 4 then bytesF b (a + (ds.getD (kd r 0) noRule).size.toNat) n else if 40 < n then .bad a 6 else itemsF rd r 0 n 0 (a + (ds.getD (kd r 0) noRule).size.toNat) []
def rdF (ds : List DRule) (b : List UInt8) : Nat → Nat → Nat → RR
 | 0, _, a => .bad a 0
 | f + 1, i, a => readR ds (rdF ds b f) (ds.getD i noRule) b a
def readV (ds : List DRule) (b : List UInt8) (i a : Nat) : RR := rdF ds b (i + 1) i a
def readFile (ds : List DRule) (b : List UInt8) : RR :=
 if descOk ds = true ∧ b.length ≤ 400 then (if (readV ds b (ds.length - 1) 0).code = 0 ∧ (readV ds b (ds.length - 1) 0).next < b.length then .bad (readV ds b (ds.length - 1) 0).next 7 else readV ds b (ds.length - 1) 0) else .bad 0 8
theorem untilL_esc (t : UInt8) (ht : t ≠ 92) (post : List UInt8) : ∀ l, untilL t (escB t l ++ t :: post) = some (l, (escB t l).length + 1)
 | [] => by
  show untilL t (t :: post) = _
  rw [untilL_hit]; rfl
 | x :: l => by
  have ih := untilL_esc t ht post l
  have e : escB t (x :: l) = (if x = t ∨ x = 92 then [92, x] else [x]) ++ escB t l := rfl
  rw [e]
  by_cases hx : x = t ∨ x = 92
  ·rw [if_pos hx]
   show untilL t (92 :: x :: (escB t l ++ t :: post)) = _
   rw [untilL_two t ht, ih]
   simp
  ·rw [if_neg hx]
   show untilL t (x :: (escB t l ++ t :: post)) = _
   rw [untilL_one t x (fun h => hx (.inl h)) (fun h => hx (.inr h)), ih]
   simp
theorem constF_ok (b pre post : List UInt8) : ∀ (c : List UInt8) (i : Nat) (h : b = pre ++ c ++ post) (a : Nat), pre.length = a + i → constF b a c i = ⟨v0, a + i + c.length, 0⟩ := by
 intro c
 induction c generalizing pre with
 | nil => intro i h a hl; rw [constF]; rfl
 | cons x t ih =>
  intro i h a hl
  rw [constF]
  have hx : b[a + i]? = some x := by rw [h, ← hl]; simp
  rw [hx]
  show (if x = x then _ else _) = _
  rw [if_pos rfl, ih (pre ++ [x]) (i + 1) (by rw [h]; simp) a (by simp; omega)]
  simp; omega
theorem take_mid (pre mid post : List UInt8) : ((pre ++ mid ++ post).drop pre.length).take mid.length = mid := by
 rw [List.append_assoc, List.drop_left, List.take_left]
theorem bytesF_ok (pre c post : List UInt8) : bytesF (pre ++ c ++ post) pre.length c.length = ⟨.mk 0 c [], pre.length + c.length, 0⟩ := by
 unfold bytesF
 rw [if_neg (by simp), take_mid]
def SameI (x y : DRule) : Prop := x.size = y.size ∧ x.little = y.little
theorem intAt_ok {x y : DRule} (h : SameI x y) (n : Nat) (hn : n < 256 ^ x.size.toNat) (pre post : List UInt8) : intAt y (pre ++ encI x n ++ post) pre.length = some n := by
 have hl := encI_len x n
 unfold intAt
 rw [if_neg (by simp [hl, ← h.1]; omega)]
 have e : encI x n = encI y n := by unfold encI; rw [h.1, h.2]
 rw [← h.1, ← hl, take_mid, e, decI_encI y n (by rw [← h.1]; exact hn)]
theorem itemsF_ok {a : List DRule} {x : DRule} {n : Int} (rd : Nat → Nat → RR) (y : DRule) (n' : Int) (post : List UInt8) : ∀ (l : List DVal) (k : Nat) (pre : List UInt8) (acc : List DVal) (b : List UInt8), b = pre ++ printVs a x n k l ++ post →
 (∀ j (hj : j < l.length) (pre' post' : List UInt8), b = pre' ++ printV a (kidV x n (k + j)) l[j] ++ post' → rd (kidV y n' (k + j)) pre'.length = ⟨l[j], pre'.length + (printV a (kidV x n (k + j)) l[j]).length, 0⟩) →
 itemsF rd y n' l.length k pre.length acc = ⟨.mk 0 [] (acc ++ l), pre.length + (printVs a x n k l).length, 0⟩
 | [], k, pre, acc, b, hb, h => by rw [List.length_nil, itemsF, printVs]; simp
 | v :: t, k, pre, acc, b, hb, h => by
  have h0 := h 0 (by simp) pre (printVs a x n (k + 1) t ++ post) (by rw [hb, printVs]; simp)
  rw [Nat.add_zero] at h0
  simp only [List.getElem_cons_zero] at h0
  rw [List.length_cons, itemsF, h0]
  dsimp only
  rw [if_pos rfl]
  have h1 := itemsF_ok (a := a) (x := x) (n := n) rd y n' post t (k + 1) (pre ++ printV a (kidV x n k) v) (acc ++ [v]) b (by rw [hb, printVs]; simp) (fun j hj pre' post' hb' => by
   have := h (j + 1) (by simp; omega) pre' post'
   rw [show k + (j + 1) = k + 1 + j by omega] at this
   simpa using this (by simpa using hb'))
  rw [List.length_append] at h1
  rw [h1, printVs]
  simp; omega
theorem lim_rule {ds : List DRule} {k : Int} (h : limD ds k ≠ -1) : ∃ h0 : k.toNat < ds.length, 0 ≤ k ∧ ds[k.toNat].kind = 1 ∧ 1 ≤ ds[k.toNat].size ∧ ds[k.toNat].size ≤ 4 ∧ limD ds k = 256 ^ ds[k.toNat].size.toNat - 1 := by
 unfold limD at h ⊢
 split at h
 ·rename_i h0
  rw [if_pos h0]
  split at h
  ·rename_i r hr
   obtain ⟨hlt, e⟩ := List.getElem?_eq_some_iff.1 hr
   subst e
   refine ⟨hlt, h0, ?_⟩
   unfold limR at h ⊢
   split at h
   ·rename_i hq
    rw [if_pos hq]
    exact ⟨hq.1, hq.2.1, hq.2.2, rfl⟩
   ·exact absurd rfl h
  ·exact absurd rfl h
 ·exact absurd rfl h
theorem tagN_get {l : List Int} {t : Int} (h : tagN l t < l.length) : l.getD (tagN l t) 0 = t := by
 have h1 : (l[tagN l t] == t) = true := List.findIdx_getElem (p := (· == t)) (w := h)
 rw [List.getD_eq_getElem?_getD, List.getElem?_eq_getElem h]
 simpa using h1
theorem ext_item {a b : List DRule} (ha : descOk a = true) (hb : descOk b = true) {i j : Nat} (hi : i < a.length) (hj : j < b.length) (he : ext a b i j = true) {n : Int} {bl m k : Nat} (ho : ownV a a[i] n bl m = true) (hk : k < m) :
 ext a b (kidV a[i] n k) (kidV b[j] n k) = true ∧ kidV b[j] n k < j ∧ kidV a[i] n k < i := by
 obtain ⟨hlt, hc⟩ := own_item ha i hi ho hk
 rw [ext_step ha i j hi hj] at he
 rw [Bool.and_eq_true] at he
 obtain ⟨h1, h2⟩ := he
 unfold extHead at h1
 simp only [Bool.and_eq_true, beq_iff_eq] at h1
 have hkd := h1.1.1.1
 have hl := kd_lt hb j hj
 unfold extTail at h2
 rcases hc with ⟨e, c1⟩ | ⟨e, c1, c2⟩ | ⟨e, c1, c2, c3⟩ | ⟨e, c1, c2⟩
 ·have e' : b[j].kind = 5 := by omega
  rw [if_neg (by omega)] at h2
  simp only [Bool.and_eq_true, beq_iff_eq] at h2
  have h3 := allN_at h2.2 c1
  unfold kidV at hlt ⊢
  rw [if_pos e] at hlt ⊢; rw [if_pos e']
  exact ⟨h3, hl 1 (by omega), hlt⟩
 ·have e' : b[j].kind = 6 := by omega
  rw [if_neg (by omega)] at h2
  simp only [Bool.and_eq_true, beq_iff_eq] at h2
  have h3 := allN_at h2.2 c1
  unfold kidV at hlt ⊢
  rw [if_neg (by omega), if_pos e] at hlt; rw [if_neg (by omega), if_pos e, if_neg (by omega), if_pos e']
  exact ⟨h3, hl k (by omega), hlt⟩
 ·have e' : b[j].kind = 7 := by omega
  rw [if_pos e] at h2
  simp only [Bool.and_eq_true] at h2
  have h3 := allN_at h2.2 c2
  unfold extTag at h3
  rw [tagN_get c2] at h3
  simp only [Bool.and_eq_true, decide_eq_true_eq] at h3
  have hch := (ruleFacts hb j hj).cho e'
  unfold kidV at hlt ⊢
  rw [if_neg (by omega), if_neg (by omega), if_pos e] at hlt; rw [if_neg (by omega), if_neg (by omega), if_pos e, if_neg (by omega), if_neg (by omega), if_pos e']
  exact ⟨h3.2, hl _ (by omega), hlt⟩
 ·rw [if_neg (by omega)] at h2
  simp only [Bool.and_eq_true, beq_iff_eq] at h2
  have h3 := allN_at h2.2 c2
  unfold kidV at hlt ⊢
  rw [if_neg (by omega), if_neg (by omega), if_neg (by omega)] at hlt; rw [if_neg (by omega), if_neg (by omega), if_neg (by omega), if_neg (by omega), if_neg (by omega), if_neg (by omega)]
  exact ⟨h3, hl 0 (by omega), hlt⟩
theorem kid0 {ds : List DRule} (h : descOk ds = true) (i : Nat) (hi : i < ds.length) (hk : ds[i].kind = 4 ∨ ds[i].kind = 5 ∨ ds[i].kind = 7) :
 ∃ h0 : kd ds[i] 0 < ds.length, kd ds[i] 0 < i ∧ 0 < ds[i].kids.length ∧ ds[kd ds[i] 0].kind = 1 ∧ 1 ≤ ds[kd ds[i] 0].size ∧ ds[kd ds[i] 0].size ≤ 4 ∧ limD ds (ds[i].kids.getD 0 0) = 256 ^ ds[kd ds[i] 0].size.toNat - 1 := by
 obtain ⟨k4, k5, k6, k7, _, _, _⟩ := kids_len h i hi
 have hkk := ruleKind h i hi
 have hl : 0 < ds[i].kids.length ∧ limD ds (ds[i].kids.getD 0 0) ≠ -1 := by
  rcases hk with e | e | e
  ·have := k4 e; exact ⟨by omega, by omega⟩
  ·have := k5 e; exact ⟨by omega, by omega⟩
  ·have := k7 e
   refine ⟨by omega, ?_⟩
   unfold kindOk at hkk
   rw [if_neg (by omega), if_neg (by omega), if_neg (by omega), if_neg (by omega), if_neg (by omega), if_neg (by omega), if_pos e] at hkk
   exact choOk_lim hkk
 obtain ⟨h0, h1, h2, h3, h4, h5⟩ := lim_rule hl.2
 have hlt := kd_lt h i hi 0 hl.1
 have e : kd ds[i] 0 = (ds[i].kids.getD 0 0).toNat := rfl
 simp only [e]
 exact ⟨h0, by omega, hl.1, h2, h3, h4, h5⟩
theorem ext_kid0 {a b : List DRule} (ha : descOk a = true) {i j : Nat} (hi : i < a.length) (hj : j < b.length) (he : ext a b i j = true) (hk : a[i].kind = 4 ∨ a[i].kind = 5 ∨ a[i].kind = 7) :
 SameI (a.getD (kd a[i] 0) noRule) (b.getD (kd b[j] 0) noRule) := by
 obtain ⟨h0, _, hp, _⟩ := kid0 ha i hi hk
 rw [ext_step ha i j hi hj] at he
 rw [Bool.and_eq_true] at he
 obtain ⟨h1, h2⟩ := he
 unfold extTail at h2
 have h3 : ext a b (kd a[i] 0) (kd b[j] 0) = true := by
  split at h2
  ·rw [Bool.and_eq_true] at h2; exact h2.1
  ·simp only [Bool.and_eq_true] at h2; have h3 := allN_at h2.2 hp; exact h3
 have hj0 : kd b[j] 0 < b.length := by
  rcases Nat.lt_or_ge (kd b[j] 0) b.length with h | h
  ·exact h
  ·unfold ext extF at h3
   rw [List.getElem?_eq_getElem h0, List.getElem?_eq_none h] at h3
   cases h3
 rw [ext_step ha _ _ h0 hj0, Bool.and_eq_true] at h3
 have h4 := h3.1
 unfold extHead at h4
 simp only [Bool.and_eq_true, beq_iff_eq] at h4
 have e1 : a.getD (kd a[i] 0) noRule = a[kd a[i] 0] := by simp [h0]
 have e2 : b.getD (kd b[j] 0) noRule = b[kd b[j] 0] := by simp [hj0]
 rw [e1, e2]
 exact ⟨h4.1.1.2, h4.1.2⟩
theorem term_byte {ds : List DRule} (h : descOk ds = true) (i : Nat) (hi : i < ds.length) (hk : ds[i].kind = 10) : ds[i].bytes.getD 0 0 ≠ 92 ∧ ds[i].bytes.length = 1 := by
 have hkk := ruleKind h i hi
 unfold kindOk at hkk
 rw [if_neg (by omega), if_neg (by omega), if_neg (by omega), if_neg (by omega), if_neg (by omega), if_neg (by omega), if_neg (by omega), if_neg (by omega), if_neg (by omega), if_pos hk] at hkk
 simp only [Bool.and_eq_true, beq_iff_eq, Bool.not_eq_true', beq_eq_false_iff_ne] at hkk
 exact ⟨hkk.2, hkk.1.2⟩
theorem read_print {a b : List DRule} (ha : descOk a = true) (hb : descOk b = true) (inp : List UInt8) : ∀ (f i j : Nat) (v : DVal) (pre post : List UInt8), j < f → (hj : j < b.length) → ext a b i j = true → validV a i v = true → inp = pre ++ printV a i v ++ post →
 rdF b inp f j pre.length = ⟨v, pre.length + (printV a i v).length, 0⟩ := by
 intro f
 induction f with
 | zero => intro i j v pre post hf; omega
 | succ f ih =>
  intro i j v pre post hf hj he hv hinp
  have hi := validV_lt hv
  have ho := validV_fits hv
  have hgi : a.getD i noRule = a[i] := by simp [hi]
  have hgj : b.getD j noRule = b[j] := by simp [hj]
  have hit : ∀ k (hk : k < v.items.length) (pre' post' : List UInt8), inp = pre' ++ printV a (kidV a[i] v.num (0 + k)) v.items[k] ++ post' → rdF b inp f (kidV b[j] v.num (0 + k)) pre'.length = ⟨v.items[k], pre'.length + (printV a (kidV a[i] v.num (0 + k)) v.items[k]).length, 0⟩ := by
   intro k hk pre' post' hin
   rw [Nat.zero_add] at hin ⊢
   obtain ⟨h1, h2, h3⟩ := ext_item ha hb hi hj he ho hk
   exact ih _ _ _ _ _ (by omega) (by omega) h1 (validV_item hv k hk) hin
  have hfa := ruleFacts ha i hi
  have he' := he
  rw [ext_step ha i j hi hj, Bool.and_eq_true] at he'
  obtain ⟨h1, h2⟩ := he'
  unfold extHead at h1
  simp only [Bool.and_eq_true, beq_iff_eq] at h1
  obtain ⟨⟨⟨hkd, hsz⟩, hlit⟩, hby⟩ := h1
  have IK := ext_kid0 ha hi hj he
  have K0 := kid0 ha i hi
  have TB := term_byte ha i hi
  obtain ⟨k4, k5, k6, k7, k8, k1, k3⟩ := kids_len ha i hi
  rw [printV_eq, hgi] at hinp ⊢
  rw [rdF, hgj]
  obtain ⟨n, bs, its⟩ := v
  simp only [DVal.num, DVal.bytes, DVal.items] at *
  unfold ownV at ho
  unfold wrapV at hinp ⊢
  unfold readR
  simp only [← hkd]
  have hkind := hfa.kind
  by_cases c1 : a[i].kind = 1
  ·simp only [c1, if_true] at ho hinp ⊢
   simp only [Bool.and_eq_true, beq_iff_eq, decide_eq_true_eq, List.length_eq_zero_iff] at ho
   obtain ⟨⟨⟨o1, o2⟩, rfl⟩, rfl⟩ := ho
   obtain ⟨s1, s2⟩ := k1 c1
   have hlim : limR a[i] = 256 ^ a[i].size.toNat - 1 := by unfold limR; rw [if_pos ⟨c1, s1, s2⟩]
   rw [hlim] at o2
   have hn : n.toNat < 256 ^ a[i].size.toNat := by
    have : ((256 ^ a[i].size.toNat : Nat) : Int) = 256 ^ a[i].size.toNat := pow256 _
    omega
   rw [hinp, intAt_ok ⟨hsz, hlit⟩ n.toNat hn]
   simp only [encI_len]
   rw [Int.toNat_of_nonneg o1, hsz]
  by_cases c2 : a[i].kind = 2
  ·rw [if_neg c1, if_pos c2] at ho hinp ⊢
   rw [if_neg c1, if_pos c2]
   simp only [Bool.and_eq_true, beq_iff_eq, List.length_eq_zero_iff] at ho
   obtain ⟨⟨rfl, rfl⟩, rfl⟩ := ho
   rw [← hby, constF_ok inp pre post a[i].bytes 0 hinp pre.length (by simp)]
   rfl
  by_cases c3 : a[i].kind = 3
  ·rw [if_neg c1, if_neg c2, if_pos c3] at ho hinp ⊢
   rw [if_neg c1, if_neg c2, if_pos c3]
   simp only [Bool.and_eq_true, beq_iff_eq, decide_eq_true_eq, List.length_eq_zero_iff] at ho
   obtain ⟨⟨rfl, o1⟩, rfl⟩ := ho
   have hs : b[j].size.toNat = bs.length := by omega
   rw [hs, hinp, bytesF_ok]
  by_cases c4 : a[i].kind = 4
  ·rw [if_neg c1, if_neg c2, if_neg c3, if_pos c4] at ho hinp ⊢
   rw [if_neg c1, if_neg c2, if_neg c3, if_neg (by omega), if_neg (by omega), if_neg (by omega), if_neg (by omega), if_neg (by omega)]
   simp only [Bool.and_eq_true, beq_iff_eq, decide_eq_true_eq, List.length_eq_zero_iff] at ho
   obtain ⟨⟨rfl, o1⟩, rfl⟩ := ho
   obtain ⟨g0, g1, _, g2, g3, g4, g5⟩ := K0 (.inl c4)
   have ik := IK (.inl c4)
   have hx0 : a.getD (kd a[i] 0) noRule = a[kd a[i] 0] := by simp [g0]
   have hn : bs.length < 256 ^ (a.getD (kd a[i] 0) noRule).size.toNat := by
    rw [hx0]
    have : ((256 ^ a[kd a[i] 0].size.toNat : Nat) : Int) = 256 ^ a[kd a[i] 0].size.toNat := pow256 _
    omega
   rw [show inp = pre ++ encI (a.getD (kd a[i] 0) noRule) bs.length ++ (bs ++ post) by rw [hinp]; simp, intAt_ok ik _ hn]
   simp only [c4, if_true]
   have hle : pre.length + (b.getD (kd b[j] 0) noRule).size.toNat = (pre ++ encI (a.getD (kd a[i] 0) noRule) bs.length).length := by rw [List.length_append, encI_len, ik.1]
   rw [hle, ← List.append_assoc, bytesF_ok]
   simp; omega
  by_cases c5 : a[i].kind = 5
  ·rw [if_neg c1, if_neg c2, if_neg c3, if_neg c4, if_pos c5] at ho hinp ⊢
   rw [if_neg c1, if_neg c2, if_neg c3, if_neg (by omega), if_neg (by omega), if_neg (by omega), if_neg (by omega), if_neg (by omega)]
   simp only [Bool.and_eq_true, beq_iff_eq, decide_eq_true_eq, List.length_eq_zero_iff] at ho
   obtain ⟨⟨rfl, rfl⟩, o1⟩ := ho
   obtain ⟨g0, g1, _, g2, g3, g4, g5⟩ := K0 (.inr (.inl c5))
   have ik := IK (.inr (.inl c5))
   have hx0 : a.getD (kd a[i] 0) noRule = a[kd a[i] 0] := by simp [g0]
   have hn : its.length < 256 ^ (a.getD (kd a[i] 0) noRule).size.toNat := by
    rw [hx0]
    have : ((256 ^ a[kd a[i] 0].size.toNat : Nat) : Int) = 256 ^ a[kd a[i] 0].size.toNat := pow256 _
    omega
   have hin1 : inp = pre ++ encI (a.getD (kd a[i] 0) noRule) its.length ++ (printVs a a[i] 0 0 its ++ post) := by rw [hinp]; simp
   have hI := intAt_ok ik _ hn pre (printVs a a[i] 0 0 its ++ post)
   rw [← hin1] at hI
   rw [hI]
   simp only [if_neg c4]
   rw [if_neg (by omega)]
   have hle : pre.length + (b.getD (kd b[j] 0) noRule).size.toNat = (pre ++ encI (a.getD (kd a[i] 0) noRule) its.length).length := by rw [List.length_append, encI_len, ik.1]
   rw [hle, itemsF_ok (a := a) (x := a[i]) (n := 0) _ b[j] 0 post its 0 _ [] inp (by rw [hinp]; simp) hit]
   simp; omega
  by_cases c6 : a[i].kind = 6
  ·rw [if_neg c1, if_neg c2, if_neg c3, if_neg c4, if_neg c5, if_pos c6] at ho hinp ⊢
   rw [if_neg c1, if_neg c2, if_neg c3, if_neg (by omega), if_pos c6]
   simp only [Bool.and_eq_true, beq_iff_eq, decide_eq_true_eq, List.length_eq_zero_iff] at ho
   obtain ⟨⟨rfl, rfl⟩, o1⟩ := ho
   have hkl : b[j].kids.length = its.length := by
    unfold extTail at h2
    rw [if_neg (by omega)] at h2
    simp only [Bool.and_eq_true, beq_iff_eq] at h2
    omega
   rw [hkl, itemsF_ok (a := a) (x := a[i]) (n := 0) _ b[j] 0 post its 0 pre [] inp hinp hit]
   rfl
  by_cases c7 : a[i].kind = 7
  ·rw [if_neg c1, if_neg c2, if_neg c3, if_neg c4, if_neg c5, if_neg c6, if_pos c7] at ho hinp ⊢
   rw [if_neg c1, if_neg c2, if_neg c3, if_neg (by omega), if_neg (by omega), if_pos c7]
   simp only [Bool.and_eq_true, beq_iff_eq, decide_eq_true_eq, List.length_eq_zero_iff] at ho
   obtain ⟨⟨o1, rfl⟩, o2⟩ := ho
   obtain ⟨g0, g1, _, g2, g3, g4, g5⟩ := K0 (.inr (.inr c7))
   have ik := IK (.inr (.inr c7))
   have hx0 : a.getD (kd a[i] 0) noRule = a[kd a[i] 0] := by simp [g0]
   have htag := (k7 c7).2 _ o1
   have hge := tagN_get o1
   rw [List.getD_eq_getElem?_getD, List.getElem?_eq_getElem o1, Option.getD_some] at hge
   rw [hge] at htag
   have hn : n.toNat < 256 ^ (a.getD (kd a[i] 0) noRule).size.toNat := by
    rw [hx0]
    have : ((256 ^ a[kd a[i] 0].size.toNat : Nat) : Int) = 256 ^ a[kd a[i] 0].size.toNat := pow256 _
    omega
   have hin1 : inp = pre ++ encI (a.getD (kd a[i] 0) noRule) n.toNat ++ (printVs a a[i] n 0 its ++ post) := by rw [hinp]; simp
   have hI := intAt_ok ik _ hn pre (printVs a a[i] n 0 its ++ post)
   rw [← hin1] at hI
   unfold choiceF
   rw [hI]
   have hnn : ((n.toNat : Nat) : Int) = n := Int.toNat_of_nonneg htag.1
   have htb : tagN b[j].tags n < b[j].tags.length := by
    unfold extTail at h2
    rw [if_pos c7, Bool.and_eq_true] at h2
    have h3 := allN_at h2.2 o1
    unfold extTag at h3
    rw [tagN_get o1] at h3
    simp only [Bool.and_eq_true, decide_eq_true_eq] at h3
    exact h3.1
   have hle : pre.length + (b.getD (kd b[j] 0) noRule).size.toNat = (pre ++ encI (a.getD (kd a[i] 0) noRule) n.toNat).length := by rw [List.length_append, encI_len, ik.1]
   have hI2 := itemsF_ok (a := a) (x := a[i]) (n := n) (rdF b inp f) b[j] n post its 0 (pre ++ encI (a.getD (kd a[i] 0) noRule) n.toNat) [] inp (by rw [hinp]; simp) hit
   rw [o2] at hI2
   simp only [hnn, htb, if_true, hle, hI2, DVal.bytes, DVal.items, List.nil_append]
   simp; omega
  by_cases c8 : a[i].kind = 8
  ·rw [if_neg c1, if_neg c2, if_neg c3, if_neg c4, if_neg c5, if_neg c6, if_neg c7, if_pos c8] at ho hinp ⊢
   rw [if_neg c1, if_neg c2, if_neg c3, if_neg (by omega), if_neg (by omega), if_neg (by omega), if_pos c8]
   simp only [Bool.and_eq_true, beq_iff_eq, decide_eq_true_eq, List.length_eq_zero_iff] at ho
   obtain ⟨⟨rfl, rfl⟩, o1⟩ := ho
   have hx : inp[pre.length]? = some (UInt8.ofNat its.length) := by rw [hinp]; simp
   unfold optionF
   rw [hx]
   have hm : (UInt8.ofNat its.length).toNat = its.length := by rw [UInt8.toNat_ofNat']; omega
   have hI2 := itemsF_ok (a := a) (x := a[i]) (n := 0) (rdF b inp f) b[j] 0 post its 0 (pre ++ [UInt8.ofNat its.length]) [] inp (by rw [hinp]; simp) hit
   simp only [List.length_append, List.length_singleton] at hI2
   simp only [hm]
   rw [if_neg (by omega), hI2]
   simp; omega
  by_cases c9 : a[i].kind = 9
  ·rw [if_neg c1, if_neg c2, if_neg c3, if_neg c4, if_neg c5, if_neg c6, if_neg c7, if_neg c8, if_pos c9] at ho hinp ⊢
   rw [if_neg c1, if_neg c2, if_neg c3, if_neg (by omega), if_neg (by omega), if_neg (by omega), if_neg (by omega), if_pos c9]
   simp only [Bool.and_eq_true, beq_iff_eq, decide_eq_true_eq, List.length_eq_zero_iff] at ho
   obtain ⟨⟨rfl, rfl⟩, o1⟩ := ho
   have hI2 := itemsF_ok (a := a) (x := a[i]) (n := 0) (rdF b inp f) b[j] 0 (UInt8.ofNat (sumB (printVs a a[i] 0 0 its)) :: post) its 0 pre [] inp (by rw [hinp]; simp) hit
   rw [o1] at hI2
   have hx : inp[pre.length + (printVs a a[i] 0 0 its).length]? = some (UInt8.ofNat (sumB (printVs a a[i] 0 0 its))) := by rw [hinp, ← List.length_append]; simp
   unfold checkedF
   rw [hI2]
   simp only [hx, if_true, List.nil_append]
   have hm : (inp.drop pre.length).take (pre.length + (printVs a a[i] 0 0 its).length - pre.length) = printVs a a[i] 0 0 its := by
    rw [Nat.add_sub_cancel_left, hinp, List.append_assoc pre, List.append_assoc]
    rw [← List.append_assoc pre, take_mid]
   rw [hm, if_pos (by rw [UInt8.toNat_ofNat'])]
   simp; omega
  ·have c10 : a[i].kind = 10 := by omega
   simp only [if_neg c1, if_neg c2, if_neg c3, if_neg c4, if_neg c5, if_neg c6, if_neg c7, if_neg c8, if_neg c9, if_pos c10] at ho hinp ⊢
   simp only [Bool.and_eq_true, beq_iff_eq, decide_eq_true_eq, List.length_eq_zero_iff] at ho
   obtain ⟨⟨rfl, o1⟩, rfl⟩ := ho
   rw [← hby]
   have hin : inp.drop pre.length = escB (a[i].bytes.getD 0 0) bs ++ a[i].bytes.getD 0 0 :: post := by rw [hinp]; simp
   rw [hin, untilL_esc _ (TB c10).1]
   simp
end Go.Proofs.YtpmcofmdjckijaaGreatDoor
namespace Go.Proofs.YtpmcofmdjckijaaGreatDoor
open Go.RowKit Go.Sort
theorem sItem_c (p : DRule) (Ab : Option Addr) (cb : Nat) (An : Option Addr) (cn : Nat) (At : Option Addr) (ct : Nat) (Ak : Option Addr) (ck : Nat) (t : Int) (w : World) (h : RdS w p Ab cb An cn At ct Ak ck) (hk7 : p.kind = 7) (hl : p.kids.length = p.tags.length + 1) (hkn : ∀ j (hj : j < p.kids.length), p.kids[j] = (kd p j : Int)) :
 Gives Tryz.prog 58 #[vrule p (.slice Ab p.bytes.length cb) (.slice An p.names.length cn) (.slice At p.tags.length ct) (.slice Ak p.kids.length ck), .int .i64 t, .int .i64 0] w (.int .i64 (if tagN p.tags t < p.tags.length then (kd p (tagN p.tags t + 1) : Int) else -1)) := by
 have hlt := h.t.len; have hlk := h.k.len
 have eb := Ext_alloc (.cells #[.string p.nm, .int .i64 p.kind, .int .i64 p.size, .bool p.little, .slice Ab p.bytes.length cb, .slice An p.names.length cn, .slice At p.tags.length ct, .slice Ak p.kids.length ck] 51) (Ext.refl w)
 have BX := fun w' (e : Ext (w.alloc (.cells #[.string p.nm, .int .i64 p.kind, .int .i64 p.size, .bool p.little, .slice Ab p.bytes.length cb, .slice An p.names.length cn, .slice At p.tags.length ct, .slice Ak p.kids.length ck] 51)) w') => boxed e
 have FY : Hid (∀ k (hk : k < p.tags.length), (∀ j (hj : j < p.tags.length), j < k → p.tags[j] ≠ t) → p.tags[k] = t → (if tagN p.tags t < p.tags.length then (kd p (tagN p.tags t + 1) : Int) else -1) = (kd p (k + 1) : Int)) := by
  intro k hk hn he; rw [tagN_at hk he hn, if_pos hk]
 have FN : Hid ((∀ j (hj : j < p.tags.length), p.tags[j] ≠ t) → (if tagN p.tags t < p.tags.length then (kd p (tagN p.tags t + 1) : Int) else -1) = -1) := by
  intro hn; rw [tagN_none hn, if_neg (Nat.lt_irrefl _)]
 generalize (if tagN p.tags t < p.tags.length then (kd p (tagN p.tags t + 1) : Int) else -1) = R at *
 have k5 : (p.kind == 5) = false := by rw [hk7]; rfl
 have k6 : (p.kind == 6) = false := by rw [hk7]; rfl
 have k7 : (p.kind == 7) = true := by rw [hk7]; rfl
 have HKN := Lib.hid hkn; have HL1 := Lib.hid hl
 unfold vrule
 clear hk7 hkn hl
 go_enter Tryz.func58, Tryz.ntmps58
 go_wp2
 go_loopw [7] (fun ix wr => ∃ k : Nat, k ≤ p.tags.length ∧ ix = .int .i64 k ∧ Hid (∀ j (hj : j < p.tags.length), j < k → p.tags[j] ≠ t) ∧ Ext (w.alloc (.cells #[.string p.nm, .int .i64 p.kind, .int .i64 p.size, .bool p.little, .slice Ab p.bytes.length cb, .slice An p.names.length cn, .slice At p.tags.length ct, .slice Ak p.kids.length ck] 51)) wr) (fun ix _ => p.tags.length - (intOf ix).toNat)
 case atStart => exact ⟨0, by omega, rfl, (fun j _ hj => by omega), Ext.refl _⟩
 case round =>
  obtain ⟨k, hk, rfl, hn, he⟩ := hrel
  by_cases hlt : k < p.tags.length
  ·obtain ⟨bt, ot, rfl, hbt, hct⟩ := (h.t.ext eb).at k hlt
   obtain ⟨bk, ok, rfl, hbk, hck⟩ := (h.k.ext eb).at (k + 1) (by have := HL1.out; omega)
   rw [HKN.out (k + 1) (by have := HL1.out; omega)] at hck
   have Y := Lib.hid (FY.out k hlt hn.out)
   have N : Hid (¬ p.tags[k] = t → ∀ j (hj : j < p.tags.length), j < k + 1 → p.tags[j] ≠ t) := fun hne j hj hjk => by
    rcases (by omega : j < k ∨ j = k) with hjk | rfl
    ·exact hn.out j hj hjk
    ·exact hne
   have d1 : decide ((k : Int) < (p.tags.length : Int)) = true := decide_eq_true (by omega)
   generalize p.tags[k] = x at *
   generalize kd p (k + 1) = y at *
   have hkl : k + 1 < p.kids.length := by have := HL1.out; omega
   clear FY FN hn h HKN
   by_cases hx : x = t
   ·have HE := Lib.hid (Y.out hx); clear Y N
    have kx : (x == t) = true := by simpa using hx
    clear hx
    go_wp2
    go_ret
    exact ⟨ret_i64 HE.out.symm, eb.trans he⟩
   ·have HE := Lib.hid (N.out hx); clear Y N
    have kx : (x == t) = false := by simpa using hx
    clear hx
    go_wp2
    go_roundw
    case rel => exact ⟨k + 1, by omega, by go_num, HE, he⟩
    case measure => simp [intOf]; omega
  ·have HE := Lib.hid (FN.out (fun j hj => hn.out j hj (by omega)))
   have d1 : decide ((k : Int) < (p.tags.length : Int)) = false := decide_eq_false (by omega)
   clear FY FN
   go_wp2
   go_ret
   exact ⟨ret_i64 HE.out.symm, eb.trans he⟩
theorem boxed4 {w : World} {c0 c1 c2 c3 : Array Value} {T0 T1 T2 T3 : TypeId} {w' : World} (h : Ext ((((w.alloc (.cells c0 T0)).alloc (.cells c1 T1)).alloc (.cells c2 T2)).alloc (.cells c3 T3)) w') :
 (∀ i, w'.cell? ⟨w.heap.size, i, none⟩ = c0[i]?) ∧ (∀ i, w'.cell? ⟨w.heap.size + 1, i, none⟩ = c1[i]?) ∧ (∀ i, w'.cell? ⟨w.heap.size + 1 + 1, i, none⟩ = c2[i]?) ∧ (∀ i, w'.cell? ⟨w.heap.size + 1 + 1 + 1, i, none⟩ = c3[i]?) := by
 have h1 := boxed2 h
 have h2 := boxed2 ((Ext_alloc _ (Ext_alloc _ (Ext.refl _))).trans h)
 have s1 : ((w.alloc (.cells c0 T0)).alloc (.cells c1 T1)).heap.size = w.heap.size + 1 + 1 := by simp
 rw [s1] at h1
 exact ⟨h2.1, h2.2.1, h1.1, h1.2.1⟩
theorem ext_no {a b : List DRule} (h : descOk a = true) (i j : Nat) (hi : i < a.length) (hj : j < b.length) (hh : extHead a[i] b[j] = false) : ext a b i j = false := by rw [ext_step h i j hi hj, hh]; rfl
theorem ext_yes {a b : List DRule} (h : descOk a = true) (i j : Nat) (hi : i < a.length) (hj : j < b.length) (hh : extHead a[i] b[j] = true) : ext a b i j = extTail (ext a b) a[i] b[j] := by rw [ext_step h i j hi hj, hh]; rfl
theorem sExt_c (A A' : Option Addr) (a b : List DRule) (c c' : Nat) (w0 : World) (ha : RdD w0 A a c) (hb : RdD w0 A' b c') (hva : descOk a = true) (hvb : descOk b = true) (hsa : ShortD a) (hsb : ShortD b) :
 ∀ n i, i < n → i < a.length → ∀ j, j < b.length → ∀ w, Ext w0 w → Gives Tryz.prog 34 #[vdesc (.slice A a.length c), .int .i64 (i : Int), vdesc (.slice A' b.length c'), .int .i64 (j : Int)] w (.bool (ext a b i j)) := by
 intro n
 induction n with
 | zero => intro i hi; omega
 | succ n ih =>
  intro i hin hi j hj w e0
  have hla := ha.len; have hlb := hb.len
  obtain ⟨ba, oa, Ab, cb, An, cn, At, ct, Ak, ck, hA, hba, hSa, hRa⟩ := (ha.ext e0).at i hi
  obtain ⟨bb, ob, Ab', cb', An', cn', At', ct', Ak', ck', hA', hbb, hSb, hRb⟩ := (hb.ext e0).at j hj
  subst hA; subst hA'
  have HNO := Lib.hid (fun h => ext_no hva i j hi hj h)
  have HYES := Lib.hid (fun h => ext_yes hva i j hi hj h)
  have fa := ruleFacts hva i hi; have fb := ruleFacts hvb j hj
  have ka := Lib.hid (kd_int hva i hi); have kb := Lib.hid (kd_int hvb j hj)
  have la := Lib.hid (kd_lt hva i hi); have lb := Lib.hid (kd_lt hvb j hj)
  have sa := hsa _ (List.getElem_mem hi); have sb := hsb _ (List.getElem_mem hj)
  have IH : Hid (∀ t (ht : t < a[i].kids.length) y, y < b.length → ∀ w', Ext w w' → Gives Tryz.prog 34 #[vdesc (.slice (some ⟨ba, oa, none⟩) a.length c), .int .i64 (kd a[i] t : Int), vdesc (.slice (some ⟨bb, ob, none⟩) b.length c'), .int .i64 (y : Int)] w' (.bool (ext a b (kd a[i] t) y))) :=
   fun t ht y hy w' e => ih (kd a[i] t) (by have := la.out t ht; omega) (by have := la.out t ht; omega) y hy w' (e0.trans e)
  clear ih hva hvb hsa hsb
  generalize ext a b i j = Z at *
  generalize a[i] = p at *
  generalize b[j] = q at *
  have HJ : Hid (∀ t, t < q.kids.length → kd q t < b.length) := fun t ht => by have := lb.out t ht; omega
  have eb3 := (Ext_alloc (.cells #[.string p.nm, .int .i64 p.kind, .int .i64 p.size, .bool p.little, .slice Ab p.bytes.length cb, .slice An p.names.length cn, .slice At p.tags.length ct, .slice Ak p.kids.length ck] 51) (Ext_alloc (.cells #[.slice (some ⟨bb, ob, none⟩) b.length c'] 26) (Ext_alloc (.cells #[.slice (some ⟨ba, oa, none⟩) a.length c] 26) (Ext.refl w))))
  have eb := (Ext_alloc (.cells #[.string q.nm, .int .i64 q.kind, .int .i64 q.size, .bool q.little, .slice Ab' q.bytes.length cb', .slice An' q.names.length cn', .slice At' q.tags.length ct', .slice Ak' q.kids.length ck'] 51) (Ext_alloc (.cells #[.string p.nm, .int .i64 p.kind, .int .i64 p.size, .bool p.little, .slice Ab p.bytes.length cb, .slice An p.names.length cn, .slice At p.tags.length ct, .slice Ak p.kids.length ck] 51) (Ext_alloc (.cells #[.slice (some ⟨bb, ob, none⟩) b.length c'] 26) (Ext_alloc (.cells #[.slice (some ⟨ba, oa, none⟩) a.length c] 26) (Ext.refl w)))))
  obtain ⟨W3, hW3⟩ : ∃ W3, W3 = ((((w.alloc (.cells #[.slice (some ⟨ba, oa, none⟩) a.length c] 26)).alloc (.cells #[.slice (some ⟨bb, ob, none⟩) b.length c'] 26)).alloc (.cells #[.string p.nm, .int .i64 p.kind, .int .i64 p.size, .bool p.little, .slice Ab p.bytes.length cb, .slice An p.names.length cn, .slice At p.tags.length ct, .slice Ak p.kids.length ck] 51)).alloc (.cells #[.string q.nm, .int .i64 q.kind, .int .i64 q.size, .bool q.little, .slice Ab' q.bytes.length cb', .slice An' q.names.length cn', .slice At' q.tags.length ct', .slice Ak' q.kids.length ck'] 51)) := ⟨_, rfl⟩
  have BX := fun w' (e : Ext W3 w') => boxed4 (hW3 ▸ e)
  have B0 := fun w' e => (BX w' e).1; have B1 := fun w' e => (BX w' e).2.1; have B2 := fun w' e => (BX w' e).2.2.1; have B3 := fun w' e => (BX w' e).2.2.2
  clear BX
  rw [hW3] at B0 B1 B2 B3
  obtain ⟨m0, m1, m2, m3, m4, m5, m6, m7⟩ := hRa
  obtain ⟨r0, r1, r2, r3, r4, r5, r6, r7⟩ := hRb
  have CB := Lib.hid (fun w' (e : Ext w w') => sEqualBytes_c Ab Ab' p.bytes q.bytes cb cb' w' ⟨hSa.b.ext e, sa.1⟩ ⟨hSb.b.ext e, sb.1⟩)
  have CT := Lib.hid (fun w' (e : Ext w w') => l4Texts_c An An' p.names q.names cn cn' w' (hSa.n.ext e) (hSb.n.ext e))
  have HSA := Lib.hid hSa; have HSB := Lib.hid hSb
  have hpk := hSa.k.len; have hpt := hSa.t.len; have hqk := hSb.k.len
  clear ha hb sa sb lb la
  unfold vdesc at *
  have HW3 := Lib.hid hW3; clear hW3
  unfold extHead at HNO HYES
  generalize p.little = lp at *
  generalize hlq : q.little = lq at *
  have HLQ := Lib.hid hlq; clear hlq
  cases g1 : (p.kind == q.kind)
  ·have HE : Hid (Z = false) := HNO.out (by rw [g1]; rfl)
   have h1 : (p.kind != q.kind) = true := by rw [bne, g1]; rfl
   go_enter Tryz.func34, Tryz.ntmps34
   go_wp2
   go_ret
   exact ⟨ret_bool HE.out.symm, eb⟩
  have h1 : (p.kind != q.kind) = false := by rw [bne, g1]; rfl
  cases g2 : (p.size == q.size)
  ·have HE : Hid (Z = false) := HNO.out (by rw [g1, g2]; rfl)
   have h2 : (p.size != q.size) = true := by rw [bne, g2]; rfl
   go_enter Tryz.func34, Tryz.ntmps34
   go_wp2
   go_ret
   exact ⟨ret_bool HE.out.symm, eb⟩
  have h2 : (p.size != q.size) = false := by rw [bne, g2]; rfl
  cases g3 : (lp == lq)
  ·have HE : Hid (Z = false) := HNO.out (by rw [g1, g2, g3]; rfl)
   have h3 : (lp != lq) = true := by rw [bne, g3]; rfl
   go_enter Tryz.func34, Tryz.ntmps34
   go_wp2
   go_ret
   exact ⟨ret_bool HE.out.symm, eb⟩
  obtain rfl : lp = lq := by simpa using g3
  have h3 : (lp != lp) = false := by simp
  cases g4 : (p.bytes == q.bytes)
  ·have HE : Hid (Z = false) := HNO.out (by rw [g1, g2, g3, g4]; rfl)
   rw [g4] at CB
   go_enter Tryz.func34, Tryz.ntmps34
   go_wp2_with fail
   refine (CB.out _ eb).mono ?_; rintro _ w1 ⟨rfl, s1⟩
   go_wp2
   go_ret
   exact ⟨ret_bool HE.out.symm, eb.trans s1⟩
  have HZ : Hid (Z = extTail (ext a b) p q) := HYES.out (by rw [g1, g2, g3, g4]; rfl)
  rw [g4] at CB
  clear HNO HYES g1 g2 g3 g4
  unfold extTail at HZ
  obtain ⟨_, W4, hW4, s4⟩ : ∃ _ : Unit, ∃ W4 : World, Hid (W4 = W4) ∧ Ext w w := ⟨(), w, rfl, Ext.refl w⟩
  clear hW4 s4
  by_cases h7 : p.kind = 7
  ·rw [if_pos h7] at HZ
   have hq7 : q.kind = 7 := by have := h1; simp at this; omega
   have HC := Lib.hid (fa.cho h7).1; have HC' := Lib.hid (fb.cho hq7).1
   have hp0 : 0 < p.kids.length := by have := HC.out; omega
   have hq0 : 0 < q.kids.length := by have := HC'.out; omega
   have k7 : (p.kind == 7) = true := by simpa using h7
   have I0 := Lib.hid (IH.out 0 hp0 (kd q 0) (HJ.out 0 hq0))
   have CI : Hid (∀ (t : Int) w', Ext w w' → Gives Tryz.prog 58 #[vrule q (.slice Ab' q.bytes.length cb') (.slice An' q.names.length cn') (.slice At' q.tags.length ct') (.slice Ak' q.kids.length ck'), .int .i64 t, .int .i64 0] w' (.int .i64 (if tagN q.tags t < q.tags.length then (kd q (tagN q.tags t + 1) : Int) else -1))) :=
    fun t w' e => sItem_c q Ab' cb' An' cn' At' ct' Ak' ck' t w' (HSB.out.ext e) hq7 HC'.out kb.out
   unfold vrule at CI
   rw [HLQ.out] at CI
   obtain ⟨bk, ok, hAk, hbk, hck⟩ := HSA.out.k.at 0 hp0
   obtain ⟨bk', ok', hAk', hbk', hck'⟩ := HSB.out.k.at 0 hq0
   subst hAk; subst hAk'
   rw [ka.out 0 hp0] at hck
   rw [kb.out 0 hq0] at hck'
   simp only [Nat.add_zero, vint] at hck hck'
   have hz0 := Lib.hid (fun (h : ext a b (kd p 0) (kd q 0) = false) => HZ.out.trans (by rw [h]; rfl : (ext a b (kd p 0) (kd q 0) && allN p.tags.length (extTag (ext a b) p q)) = false))
   have hz1 := Lib.hid (fun (h : ext a b (kd p 0) (kd q 0) = true) => HZ.out.trans (by rw [h]; rfl : (ext a b (kd p 0) (kd q 0) && allN p.tags.length (extTag (ext a b) p q)) = allN p.tags.length (extTag (ext a b) p q)))
   clear HZ h7 hq7 fa fb
   generalize kd p 0 = x0 at *
   generalize kd q 0 = y0 at *
   generalize ext a b x0 y0 = z0 at *
   go_enter Tryz.func34, Tryz.ntmps34
   go_wp2_with fail
   refine (CB.out _ eb).mono ?_; rintro _ w1 ⟨rfl, s1⟩
   replace B0 := fun w' (e : Ext w1 w') => B0 w' (Ext.trans s1 e); replace B1 := fun w' (e : Ext w1 w') => B1 w' (Ext.trans s1 e); replace B2 := fun w' (e : Ext w1 w') => B2 w' (Ext.trans s1 e); replace B3 := fun w' (e : Ext w1 w') => B3 w' (Ext.trans s1 e)
   have e1 := eb.trans s1
   replace hck := fun w' (e : Ext w1 w') => hck w' (Ext.trans e1 e); replace hck' := fun w' (e : Ext w1 w') => hck' w' (Ext.trans e1 e)
   clear s1 eb m0 m1 m2 m3 m4 m5 m6 m7 r0 r1 r2 r3 r4 r5 r6 r7
   go_wp2_with fail
   refine wp_region_quiet_below (by kernel_rfl) (by kernel_rfl) ?_
   repeat (go_big_quiet_step ((go_at_call 34; exact Calls.regrown_of (I0.out _ (e1.trans (by first | exact Ext.refl _ | assumption | exact Ext_regrown _ _ (Ext.refl _)))))))
   refine wpQuiet_nil ?_
   rintro w2 ⟨⟨nq, osq⟩, hq⟩
   have ew2 := ext_of_q hq
   clear hq nq osq
   cases z0
   ·have HE := Lib.hid (hz0.out rfl); clear hz0 hz1
    go_wp2
    go_ret
    exact ⟨ret_bool HE.out.symm, e1.trans ew2⟩
   ·have HE := Lib.hid (hz1.out rfl); clear hz0 hz1
    clear hck hck'
    have e2 := e1.trans ew2
    go_wp2
    go_loopw [11] (fun ix wr => ∃ k : Nat, k ≤ p.tags.length ∧ ix = .int .i64 k ∧ Hid (∀ t, t < k → extTag (ext a b) p q t = true) ∧ Ext w1 wr) (fun ix _ => p.tags.length - (intOf ix).toNat)
    case atStart => exact ⟨0, by omega, rfl, (fun t ht => by omega), ew2⟩
    case round =>
     clear ew2 e2
     obtain ⟨k, hk, rfl, hn, he⟩ := hrel
     by_cases hlt : k < p.tags.length
     ·obtain ⟨bt, ot, hAt, hbt, hct⟩ := HSA.out.t.at k hlt
      subst hAt
      have hkl : k + 1 < p.kids.length := by have := HC.out; omega
      obtain ⟨bk2, ok2, hAk2, hbk2, hck2⟩ := HSA.out.k.at (k + 1) hkl
      injection hAk2 with hAk2; injection hAk2 with q1 q2; subst q1; subst q2
      rw [ka.out (k + 1) hkl] at hck2
      replace hct := fun w' (e : Ext w1 w') => hct w' (Ext.trans e1 e); replace hck2 := fun w' (e : Ext w1 w') => hck2 w' (Ext.trans e1 e)
      have hgt : p.tags.getD k 0 = p.tags[k] := by simp [hlt]
      have HET : Hid (extTag (ext a b) p q k = (decide (tagN q.tags p.tags[k] < q.tags.length) && ext a b (kd p (k + 1)) (kd q (tagN q.tags p.tags[k] + 1)))) := by show _ = _; unfold extTag; rw [hgt]
      have YES : Hid (extTag (ext a b) p q k = true → ∀ t, t < k + 1 → extTag (ext a b) p q t = true) := fun h => upTo hn.out h
      have NO : Hid (extTag (ext a b) p q k = false → Z = false) := fun h => HE.out.trans (allN_no hlt h)
      have C := Lib.hid (CI.out p.tags[k])
      clear hgt hn
      generalize p.tags[k] = x at *
      have d1 : decide ((k : Int) < (p.tags.length : Int)) = true := decide_eq_true (by omega)
      by_cases hT : tagN q.tags x < q.tags.length
      ·rw [decide_eq_true hT, Bool.true_and] at HET
       rw [if_pos hT] at C
       have I1 := Lib.hid (IH.out (k + 1) hkl (kd q (tagN q.tags x + 1)) (HJ.out _ (by have := HC'.out; omega)))
       clear hT
       generalize kd q (tagN q.tags x + 1) = y at *
       generalize kd p (k + 1) = u at *
       rw [HET.out] at YES NO
       generalize ext a b u y = z at *
       clear HET
       go_wp2_with fail
       refine wp_region_quiet_below (by kernel_rfl) (by kernel_rfl) ?_
       repeat (go_big_quiet_step ((go_at_call 58; exact Calls.regrown_of (C.out _ (e1.trans (by first | assumption | exact Ext_regrown _ _ he))))))
       refine wpQuiet_nil ?_
       rintro w3 ⟨⟨nq, osq⟩, hq⟩
       have ew3 := ext_of_q hq
       clear hq nq osq
       have e3 := he.trans ew3
       have dy : decide ((y : Int) < 0) = false := decide_eq_false (by omega)
       go_wp2_with fail
       refine wp_region_quiet_below (by kernel_rfl) (by kernel_rfl) ?_
       repeat (go_big_quiet_step ((go_at_call 34; exact Calls.regrown_of (I1.out _ (e1.trans (by first | assumption | exact Ext_regrown _ _ e3))))))
       refine wpQuiet_nil ?_
       rintro w4 ⟨⟨nq, osq⟩, hq⟩
       have ew4 := ext_of_q hq
       clear hq nq osq
       have e4 := e3.trans ew4
       cases z
       ·have HF := Lib.hid (NO.out rfl); clear YES NO
        go_wp2
        go_ret
        exact ⟨ret_bool HF.out.symm, e1.trans e4⟩
       ·have HF := Lib.hid (YES.out rfl); clear YES NO
        go_wp2
        go_roundw
        case rel =>
         iterate 32 apply Exists.intro
         refine ⟨?_, rfl⟩
         exact ⟨k + 1, by omega, by go_num, HF, e4⟩
        case measure => simp [intOf]; omega
      ·rw [decide_eq_false hT, Bool.false_and] at HET
       rw [if_neg hT] at C
       have HF := Lib.hid (NO.out HET.out)
       clear YES NO HET hT
       go_wp2_with fail
       refine wp_region_quiet_below (by kernel_rfl) (by kernel_rfl) ?_
       repeat (go_big_quiet_step ((go_at_call 58; exact Calls.regrown_of (C.out _ (e1.trans (by first | assumption | exact Ext_regrown _ _ he))))))
       refine wpQuiet_nil ?_
       rintro w3 ⟨⟨nq, osq⟩, hq⟩
       have ew3 := ext_of_q hq
       clear hq nq osq
       have e3 := he.trans ew3
       go_wp2
       refine wp_region_quiet_below (by kernel_rfl) (by kernel_rfl) ?_
       repeat (go_big_quiet_step (fail))
       refine wpQuiet_nil ?_
       rintro w4 ⟨⟨nq, osq⟩, hq⟩
       have ew4 := ext_of_q hq
       clear hq nq osq
       have e4 := e3.trans ew4
       go_wp2
       go_ret
       exact ⟨ret_bool HF.out.symm, e1.trans e4⟩
     ·have HF : Hid (Z = true) := HE.out.trans (allN_yes fun t ht => hn.out t (by omega))
      have d1 : decide ((k : Int) < (p.tags.length : Int)) = false := decide_eq_false (by omega)
      go_wp2
      go_ret
      exact ⟨ret_bool HF.out.symm, e1.trans he⟩
  ·rw [if_neg h7] at HZ
   have k7 : (p.kind == 7) = false := by simpa using h7
   clear h7 fa fb
   cases g5 : eqNms p.names q.names
   ·have HE : Hid (Z = false) := HZ.out.trans (by rw [g5]; rfl)
    rw [g5] at CT
    clear HZ g5
    go_enter Tryz.func34, Tryz.ntmps34
    go_wp2_with fail
    refine (CB.out _ eb).mono ?_; rintro _ w1 ⟨rfl, s1⟩
    have e1 := eb.trans s1
    go_wp2_with fail
    refine (CT.out _ e1).mono ?_; rintro _ w2 ⟨rfl, s2⟩
    go_wp2
    go_ret
    exact ⟨ret_bool HE.out.symm, e1.trans s2⟩
   rw [g5] at CT
   by_cases g6 : p.kids.length = q.kids.length
   ·have HE : Hid (Z = allN p.kids.length (fun t => ext a b (kd p t) (kd q t))) := HZ.out.trans (by rw [g5, g6]; simp)
    have H6 := Lib.hid g6
    clear HZ g5 g6
    go_enter Tryz.func34, Tryz.ntmps34
    go_wp2_with fail
    refine (CB.out _ eb).mono ?_; rintro _ w1 ⟨rfl, s1⟩
    have e1 := eb.trans s1
    go_wp2_with fail
    refine (CT.out _ e1).mono ?_; rintro _ w2 ⟨rfl, s2⟩
    replace B0 := fun w' (e : Ext w2 w') => B0 w' (Ext.trans (s1.trans s2) e); replace B1 := fun w' (e : Ext w2 w') => B1 w' (Ext.trans (s1.trans s2) e); replace B2 := fun w' (e : Ext w2 w') => B2 w' (Ext.trans (s1.trans s2) e); replace B3 := fun w' (e : Ext w2 w') => B3 w' (Ext.trans (s1.trans s2) e)
    have e2 := e1.trans s2
    clear s1 s2 eb e1 m0 m1 m2 m3 m4 m5 m6 m7 r0 r1 r2 r3 r4 r5 r6 r7
    have h6 : ((p.kids.length : Int) != (q.kids.length : Int)) = false := by have := H6.out; simp [this]
    go_wp2
    clear h6
    go_loopw [13] (fun ix wr => ∃ k : Nat, k ≤ p.kids.length ∧ ix = .int .i64 k ∧ Hid (∀ t, t < k → ext a b (kd p t) (kd q t) = true) ∧ Ext w2 wr) (fun ix _ => p.kids.length - (intOf ix).toNat)
    case atStart => exact ⟨0, by omega, rfl, (fun t ht => by omega), Ext.refl _⟩
    case round =>
     obtain ⟨k, hk, rfl, hn, he⟩ := hrel
     by_cases hlt : k < p.kids.length
     ·have hlt' : k < q.kids.length := by have := H6.out; omega
      obtain ⟨bk, ok, hAk, hbk, hck⟩ := HSA.out.k.at k hlt
      obtain ⟨bk', ok', hAk', hbk', hck'⟩ := HSB.out.k.at k hlt'
      subst hAk; subst hAk'
      rw [ka.out k hlt] at hck
      rw [kb.out k hlt'] at hck'
      replace hck := fun w' (e : Ext w2 w') => hck w' (Ext.trans e2 e); replace hck' := fun w' (e : Ext w2 w') => hck' w' (Ext.trans e2 e)
      have YES : Hid (ext a b (kd p k) (kd q k) = true → ∀ t, t < k + 1 → ext a b (kd p t) (kd q t) = true) := fun h => upTo hn.out h
      have NO : Hid (ext a b (kd p k) (kd q k) = false → Z = false) := fun h => HE.out.trans (allN_no (f := fun t => ext a b (kd p t) (kd q t)) hlt h)
      have I1 := Lib.hid (IH.out k hlt (kd q k) (HJ.out _ hlt'))
      have d1 : decide ((k : Int) < (p.kids.length : Int)) = true := decide_eq_true (by omega)
      clear hn
      generalize kd p k = u at *
      generalize kd q k = y at *
      generalize ext a b u y = z at *
      go_wp2_with fail
      refine wp_region_quiet_below (by kernel_rfl) (by kernel_rfl) ?_
      repeat (go_big_quiet_step ((go_at_call 34; exact Calls.regrown_of (I1.out _ (e2.trans (by first | assumption | exact Ext_regrown _ _ he))))))
      refine wpQuiet_nil ?_
      rintro w4 ⟨⟨nq, osq⟩, hq⟩
      have ew4 := ext_of_q hq
      clear hq nq osq
      have e4 := he.trans ew4
      cases z
      ·have HF := Lib.hid (NO.out rfl); clear YES NO
       go_wp2
       go_ret
       exact ⟨ret_bool HF.out.symm, e2.trans e4⟩
      ·have HF := Lib.hid (YES.out rfl); clear YES NO
       go_wp2
       go_roundw
       case rel => exact ⟨k + 1, by omega, by go_num, HF, e4⟩
       case measure => simp [intOf]; omega
     ·have HF : Hid (Z = true) := HE.out.trans (allN_yes fun t ht => hn.out t (by omega))
      have d1 : decide ((k : Int) < (p.kids.length : Int)) = false := decide_eq_false (by omega)
      go_wp2
      go_ret
      exact ⟨ret_bool HF.out.symm, e2.trans he⟩
   ·have HE : Hid (Z = false) := HZ.out.trans (by rw [g5]; simp [g6])
    have h6 : ((p.kids.length : Int) != (q.kids.length : Int)) = true := by simp; omega
    clear HZ g5 g6
    go_enter Tryz.func34, Tryz.ntmps34
    go_wp2_with fail
    refine (CB.out _ eb).mono ?_; rintro _ w1 ⟨rfl, s1⟩
    have e1 := eb.trans s1
    go_wp2_with fail
    refine (CT.out _ e1).mono ?_; rintro _ w2 ⟨rfl, s2⟩
    have e2 := e1.trans s2
    replace B2 := fun w' (e : Ext w2 w') => B2 w' (Ext.trans (s1.trans s2) e); replace B3 := fun w' (e : Ext w2 w') => B3 w' (Ext.trans (s1.trans s2) e)
    go_wp2
    go_ret
    exact ⟨ret_bool HE.out.symm, e2⟩
end Go.Proofs.YtpmcofmdjckijaaGreatDoor
