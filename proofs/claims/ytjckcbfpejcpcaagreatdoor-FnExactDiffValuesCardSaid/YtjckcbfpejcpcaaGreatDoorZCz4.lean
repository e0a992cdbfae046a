/- Kinds of rules, of the program. -/
import Derived.Test.YtjckcbfpejcpcaaGreatDoorZCz3
import Derived.Lib.ItoaNum
import Derived.Lib.AppendIntMem
set_option linter.unusedVariables false
set_option linter.unusedSimpArgs false
namespace Go.Proofs.YtjckcbfpejcpcaaGreatDoor
open Go.RowKit Go.Sort

set_option maxRecDepth 100000 in
set_option maxHeartbeats 4000000 in
theorem iKind1_c (A : Option Addr) (ds : List DRule) (c : Nat) (r : DRule) (Ab : Option Addr) (cb : Nat) (An : Option Addr) (cn : Nat) (At : Option Addr) (ct : Nat) (Ak : Option Addr) (ck : Nat) (w : World) (hd : RdD w A ds c) (h : RdS w r Ab cb An cn At ct Ak ck) (hs : ShortR r) (hw : WfR r) (hk : r.kind = 1) :
    Gives Tryz.prog 138 #[vdesc (.slice A ds.length c), vrule r (.slice Ab r.bytes.length cb) (.slice An r.names.length cn) (.slice At r.tags.length ct) (.slice Ak r.kids.length ck)] w (.bool (kindOk ds r)) := by
  have eb := Ext_alloc (.cells #[.string r.nm, .int .i64 r.kind, .int .i64 r.size, .bool r.little, .slice Ab r.bytes.length cb, .slice An r.names.length cn, .slice At r.tags.length ct, .slice Ak r.kids.length ck] 97) (Ext_alloc (.cells #[.slice A ds.length c] 35) (Ext.refl w))
  have BX := fun w' (e : Ext ((w.alloc (.cells #[.slice A ds.length c] 35)).alloc (.cells #[.string r.nm, .int .i64 r.kind, .int .i64 r.size, .bool r.little, .slice Ab r.bytes.length cb, .slice An r.names.length cn, .slice At r.tags.length ct, .slice Ak r.kids.length ck] 97)) w') => boxed2 e
  have B0 := fun w' e => (BX w' e).1
  have B1 := fun w' e => (BX w' e).2.1
  clear BX
  have t1 : (r.kind == 1) = true := by rw [hk]; rfl
  have t2 : (r.kind == 2) = false := by rw [hk]; rfl
  have t3 : (r.kind == 3) = false := by rw [hk]; rfl
  have t4 : (r.kind == 4) = false := by rw [hk]; rfl
  have t5 : (r.kind == 5) = false := by rw [hk]; rfl
  have t6 : (r.kind == 6) = false := by rw [hk]; rfl
  have t7 : (r.kind == 7) = false := by rw [hk]; rfl
  have t8 : (r.kind == 8) = false := by rw [hk]; rfl
  have t9 : (r.kind == 9) = false := by rw [hk]; rfl
  have t10 : (r.kind == 10) = false := by rw [hk]; rfl
  have HV : Hid ((kindOk ds r) = (plainB r true false false false 0 && (between r.size 1 4 && (!r.little || decide (1 < r.size))))) := by show _ = _; simp [kindOk, hk, Bool.and_assoc]
  rw [HV.out]
  have CP := Lib.hid (fun w => iPlain1000_c r Ab cb An cn At ct Ak ck 0 w h.lens)
  generalize (plainB r true false false false 0) = p at *
  clear HV hk
  have CI := Lib.hid (fun w => iInRange_c r.size 1 4 w)
  have HB : Hid (between r.size 1 4 = (decide (((1) : Int) ≤ r.size) && decide (r.size ≤ 4))) := rfl
  rw [← HB.out] at CI
  clear HB
  generalize between r.size 1 4 = q at *
  unfold vrule vdesc at *
  cases p
  · go_enter Tryz.func138, Tryz.ntmps138
    go_wp2_with fail
    refine (CP.out _).mono ?_; rintro _ w1 ⟨rfl, he1⟩
    go_wp2
    go_ret
    exact ⟨ret_bool (by simp), eb.trans he1⟩
  cases q
  · go_enter Tryz.func138, Tryz.ntmps138
    go_wp2_with fail
    refine (CP.out _).mono ?_; rintro _ w1 ⟨rfl, he1⟩
    go_wp2_with fail
    refine (CI.out _).mono ?_; rintro _ w2 ⟨rfl, he2⟩
    go_wp2
    go_ret
    exact ⟨ret_bool (by simp), eb.trans (he1.trans he2)⟩
  generalize r.little = li at *
  cases li
  all_goals
    cases hz : decide (1 < r.size)
    all_goals
      go_enter Tryz.func138, Tryz.ntmps138
      go_wp2_with fail
      refine (CP.out _).mono ?_; rintro _ w1 ⟨rfl, he1⟩
      go_wp2_with fail
      refine (CI.out _).mono ?_; rintro _ w2 ⟨rfl, he2⟩
      have e2 := he1.trans he2
      go_wp2
      go_ret
      exact ⟨ret_bool (by simp), eb.trans e2⟩
set_option maxRecDepth 100000 in
set_option maxHeartbeats 4000000 in
theorem iKind2_c (A : Option Addr) (ds : List DRule) (c : Nat) (r : DRule) (Ab : Option Addr) (cb : Nat) (An : Option Addr) (cn : Nat) (At : Option Addr) (ct : Nat) (Ak : Option Addr) (ck : Nat) (w : World) (hd : RdD w A ds c) (h : RdS w r Ab cb An cn At ct Ak ck) (hs : ShortR r) (hw : WfR r) (hk : r.kind = 2) :
    Gives Tryz.prog 138 #[vdesc (.slice A ds.length c), vrule r (.slice Ab r.bytes.length cb) (.slice An r.names.length cn) (.slice At r.tags.length ct) (.slice Ak r.kids.length ck)] w (.bool (kindOk ds r)) := by
  have eb := Ext_alloc (.cells #[.string r.nm, .int .i64 r.kind, .int .i64 r.size, .bool r.little, .slice Ab r.bytes.length cb, .slice An r.names.length cn, .slice At r.tags.length ct, .slice Ak r.kids.length ck] 97) (Ext_alloc (.cells #[.slice A ds.length c] 35) (Ext.refl w))
  have BX := fun w' (e : Ext ((w.alloc (.cells #[.slice A ds.length c] 35)).alloc (.cells #[.string r.nm, .int .i64 r.kind, .int .i64 r.size, .bool r.little, .slice Ab r.bytes.length cb, .slice An r.names.length cn, .slice At r.tags.length ct, .slice Ak r.kids.length ck] 97)) w') => boxed2 e
  have B0 := fun w' e => (BX w' e).1
  have B1 := fun w' e => (BX w' e).2.1
  clear BX
  have t1 : (r.kind == 1) = false := by rw [hk]; rfl
  have t2 : (r.kind == 2) = true := by rw [hk]; rfl
  have t3 : (r.kind == 3) = false := by rw [hk]; rfl
  have t4 : (r.kind == 4) = false := by rw [hk]; rfl
  have t5 : (r.kind == 5) = false := by rw [hk]; rfl
  have t6 : (r.kind == 6) = false := by rw [hk]; rfl
  have t7 : (r.kind == 7) = false := by rw [hk]; rfl
  have t8 : (r.kind == 8) = false := by rw [hk]; rfl
  have t9 : (r.kind == 9) = false := by rw [hk]; rfl
  have t10 : (r.kind == 10) = false := by rw [hk]; rfl
  have HV : Hid ((kindOk ds r) = (plainB r false true false false 0 && (between r.bytes.length 1 16))) := by show _ = _; simp [kindOk, hk, Bool.and_assoc]
  rw [HV.out]
  have CP := Lib.hid (fun w => iPlain0100_c r Ab cb An cn At ct Ak ck 0 w h.lens)
  generalize (plainB r false true false false 0) = p at *
  clear HV hk
  have CI := Lib.hid (fun w => iInRange_c (r.bytes.length : Int) 1 16 w)
  have HB : Hid (between r.bytes.length 1 16 = (decide (((1) : Int) ≤ (r.bytes.length : Int)) && decide ((r.bytes.length : Int) ≤ 16))) := rfl
  rw [← HB.out] at CI
  clear HB
  generalize between r.bytes.length 1 16 = q at *
  have hlb := h.lens.1
  unfold vrule vdesc at *
  cases p
  · go_enter Tryz.func138, Tryz.ntmps138
    go_wp2_with fail
    refine (CP.out _).mono ?_; rintro _ w1 ⟨rfl, he1⟩
    go_wp2
    go_ret
    exact ⟨ret_bool (by simp), eb.trans he1⟩
  go_enter Tryz.func138, Tryz.ntmps138
  go_wp2_with fail
  refine (CP.out _).mono ?_; rintro _ w1 ⟨rfl, he1⟩
  go_wp2_with fail
  refine (CI.out _).mono ?_; rintro _ w2 ⟨rfl, he2⟩
  go_wp2
  go_ret
  exact ⟨ret_bool (by simp), eb.trans (he1.trans he2)⟩
set_option maxRecDepth 100000 in
set_option maxHeartbeats 4000000 in
theorem iKind3_c (A : Option Addr) (ds : List DRule) (c : Nat) (r : DRule) (Ab : Option Addr) (cb : Nat) (An : Option Addr) (cn : Nat) (At : Option Addr) (ct : Nat) (Ak : Option Addr) (ck : Nat) (w : World) (hd : RdD w A ds c) (h : RdS w r Ab cb An cn At ct Ak ck) (hs : ShortR r) (hw : WfR r) (hk : r.kind = 3) :
    Gives Tryz.prog 138 #[vdesc (.slice A ds.length c), vrule r (.slice Ab r.bytes.length cb) (.slice An r.names.length cn) (.slice At r.tags.length ct) (.slice Ak r.kids.length ck)] w (.bool (kindOk ds r)) := by
  have eb := Ext_alloc (.cells #[.string r.nm, .int .i64 r.kind, .int .i64 r.size, .bool r.little, .slice Ab r.bytes.length cb, .slice An r.names.length cn, .slice At r.tags.length ct, .slice Ak r.kids.length ck] 97) (Ext_alloc (.cells #[.slice A ds.length c] 35) (Ext.refl w))
  have BX := fun w' (e : Ext ((w.alloc (.cells #[.slice A ds.length c] 35)).alloc (.cells #[.string r.nm, .int .i64 r.kind, .int .i64 r.size, .bool r.little, .slice Ab r.bytes.length cb, .slice An r.names.length cn, .slice At r.tags.length ct, .slice Ak r.kids.length ck] 97)) w') => boxed2 e
  have B0 := fun w' e => (BX w' e).1
  have B1 := fun w' e => (BX w' e).2.1
  clear BX
  have t1 : (r.kind == 1) = false := by rw [hk]; rfl
  have t2 : (r.kind == 2) = false := by rw [hk]; rfl
  have t3 : (r.kind == 3) = true := by rw [hk]; rfl
  have t4 : (r.kind == 4) = false := by rw [hk]; rfl
  have t5 : (r.kind == 5) = false := by rw [hk]; rfl
  have t6 : (r.kind == 6) = false := by rw [hk]; rfl
  have t7 : (r.kind == 7) = false := by rw [hk]; rfl
  have t8 : (r.kind == 8) = false := by rw [hk]; rfl
  have t9 : (r.kind == 9) = false := by rw [hk]; rfl
  have t10 : (r.kind == 10) = false := by rw [hk]; rfl
  have HV : Hid ((kindOk ds r) = (plainB r true false false false 0 && (between r.size 1 64))) := by show _ = _; simp [kindOk, hk, Bool.and_assoc]
  rw [HV.out]
  have CP := Lib.hid (fun w => iPlain1000_c r Ab cb An cn At ct Ak ck 0 w h.lens)
  generalize (plainB r true false false false 0) = p at *
  clear HV hk
  have CI := Lib.hid (fun w => iInRange_c r.size 1 64 w)
  have HB : Hid (between r.size 1 64 = (decide (((1) : Int) ≤ r.size) && decide (r.size ≤ 64))) := rfl
  rw [← HB.out] at CI
  clear HB
  generalize between r.size 1 64 = q at *
  have hlb := h.lens.1
  unfold vrule vdesc at *
  cases p
  · go_enter Tryz.func138, Tryz.ntmps138
    go_wp2_with fail
    refine (CP.out _).mono ?_; rintro _ w1 ⟨rfl, he1⟩
    go_wp2
    go_ret
    exact ⟨ret_bool (by simp), eb.trans he1⟩
  go_enter Tryz.func138, Tryz.ntmps138
  go_wp2_with fail
  refine (CP.out _).mono ?_; rintro _ w1 ⟨rfl, he1⟩
  go_wp2_with fail
  refine (CI.out _).mono ?_; rintro _ w2 ⟨rfl, he2⟩
  go_wp2
  go_ret
  exact ⟨ret_bool (by simp), eb.trans (he1.trans he2)⟩
set_option maxRecDepth 100000 in
set_option maxHeartbeats 4000000 in
theorem iKind4_c (A : Option Addr) (ds : List DRule) (c : Nat) (r : DRule) (Ab : Option Addr) (cb : Nat) (An : Option Addr) (cn : Nat) (At : Option Addr) (ct : Nat) (Ak : Option Addr) (ck : Nat) (w : World) (hd : RdD w A ds c) (h : RdS w r Ab cb An cn At ct Ak ck) (hs : ShortR r) (hw : WfR r) (hk : r.kind = 4) :
    Gives Tryz.prog 138 #[vdesc (.slice A ds.length c), vrule r (.slice Ab r.bytes.length cb) (.slice An r.names.length cn) (.slice At r.tags.length ct) (.slice Ak r.kids.length ck)] w (.bool (kindOk ds r)) := by
  have eb := Ext_alloc (.cells #[.string r.nm, .int .i64 r.kind, .int .i64 r.size, .bool r.little, .slice Ab r.bytes.length cb, .slice An r.names.length cn, .slice At r.tags.length ct, .slice Ak r.kids.length ck] 97) (Ext_alloc (.cells #[.slice A ds.length c] 35) (Ext.refl w))
  have BX := fun w' (e : Ext ((w.alloc (.cells #[.slice A ds.length c] 35)).alloc (.cells #[.string r.nm, .int .i64 r.kind, .int .i64 r.size, .bool r.little, .slice Ab r.bytes.length cb, .slice An r.names.length cn, .slice At r.tags.length ct, .slice Ak r.kids.length ck] 97)) w') => boxed2 e
  have B0 := fun w' e => (BX w' e).1
  have B1 := fun w' e => (BX w' e).2.1
  clear BX
  have t1 : (r.kind == 1) = false := by rw [hk]; rfl
  have t2 : (r.kind == 2) = false := by rw [hk]; rfl
  have t3 : (r.kind == 3) = false := by rw [hk]; rfl
  have t4 : (r.kind == 4) = true := by rw [hk]; rfl
  have t5 : (r.kind == 5) = false := by rw [hk]; rfl
  have t6 : (r.kind == 6) = false := by rw [hk]; rfl
  have t7 : (r.kind == 7) = false := by rw [hk]; rfl
  have t8 : (r.kind == 8) = false := by rw [hk]; rfl
  have t9 : (r.kind == 9) = false := by rw [hk]; rfl
  have t10 : (r.kind == 10) = false := by rw [hk]; rfl
  have HV : Hid ((kindOk ds r) = (plainB r false false false false 1 && (decide (0 < limD ds (r.kids.getD 0 0))))) := by show _ = _; simp [kindOk, hk, Bool.and_assoc]
  rw [HV.out]
  have CP := Lib.hid (fun w => iPlain0000_c r Ab cb An cn At ct Ak ck 1 w h.lens)
  have HKL : Hid (plainB r false false false false 1 = true → r.kids.length = 1) := plainB_kids (k := 1)
  have HPP : Hid ((plainB r false false false false 1) = true → plainB r false false false false 1 = true) := fun hq => hq
  have HKK := Lib.hid (fun hq => HKL.out (HPP.out hq)); clear HKL HPP
  generalize (plainB r false false false false 1) = p at *
  clear HV hk
  have h1 := h.k
  unfold vrule vdesc at *
  cases p
  · go_enter Tryz.func138, Tryz.ntmps138
    go_wp2_with fail
    refine wp_region_quiet_below (by kernel_rfl) (by kernel_rfl) ?_
    repeat (go_big_quiet_step ((go_at_call 150; exact Calls.regrown_of (CP.out _))))
    refine wpQuiet_nil ?_
    rintro w1 ⟨⟨nq, osq⟩, hq⟩
    have ew1 := ext_of_q hq
    clear hq nq osq
    go_wp2
    go_ret
    exact ⟨ret_bool (by simp), eb.trans ew1⟩
  have hk0 : 0 < r.kids.length := by have := HKK.out rfl; omega
  obtain ⟨bk, ok, rfl, hbk, hck⟩ := h1.at 0 hk0
  have HG : Hid (r.kids.getD 0 0 = r.kids[0]) := by show _ = _; simp [List.getD_eq_getElem?_getD, List.getElem?_eq_getElem hk0]
  rw [HG.out]
  rw [Nat.add_zero] at hck
  generalize r.kids[0] = kid at *
  have CL := Lib.hid (fun w h => iLimit_c A ds c kid w h)
  unfold vdesc at CL
  generalize limD ds kid = lim at *
  have hck' := fun w' (e : Ext _ w') => hck w' (eb.trans e)
  clear hck h1 h HG HKK
  have hbe := Ext_drew (Ext.refl ((w.alloc (.cells #[.slice A ds.length c] 35)).alloc (.cells #[.string r.nm, .int .i64 r.kind, .int .i64 r.size, .bool r.little, .slice Ab r.bytes.length cb, .slice An r.names.length cn, .slice At r.tags.length ct, .slice (some ⟨bk, ok, none⟩) r.kids.length ck] 97)))
  go_enter Tryz.func138, Tryz.ntmps138
  go_wp2_with fail
  refine wp_region_quiet_below (by kernel_rfl) (by kernel_rfl) ?_
  repeat (go_big_quiet_step ((first | (go_at_call 150; exact Calls.regrown_of (CP.out _)) | (go_at_call 127; exact Calls.regrown_of (CL.out _ (hd.ext (eb.trans (by first | assumption | exact Ext_self _ | exact Ext_drew (Ext_self _) | exact Ext_regrown _ _ (Ext_self _)))))))))
  refine wpQuiet_nil ?_
  rintro w1 ⟨⟨nq, osq⟩, hq⟩
  have ew1 := ext_of_q hq
  clear hq nq osq
  go_wp2
  go_ret
  exact ⟨ret_bool (by simp), eb.trans ew1⟩
set_option maxRecDepth 100000 in
set_option maxHeartbeats 4000000 in
theorem iKind5_c (A : Option Addr) (ds : List DRule) (c : Nat) (r : DRule) (Ab : Option Addr) (cb : Nat) (An : Option Addr) (cn : Nat) (At : Option Addr) (ct : Nat) (Ak : Option Addr) (ck : Nat) (w : World) (hd : RdD w A ds c) (h : RdS w r Ab cb An cn At ct Ak ck) (hs : ShortR r) (hw : WfR r) (hk : r.kind = 5) :
    Gives Tryz.prog 138 #[vdesc (.slice A ds.length c), vrule r (.slice Ab r.bytes.length cb) (.slice An r.names.length cn) (.slice At r.tags.length ct) (.slice Ak r.kids.length ck)] w (.bool (kindOk ds r)) := by
  have eb := Ext_alloc (.cells #[.string r.nm, .int .i64 r.kind, .int .i64 r.size, .bool r.little, .slice Ab r.bytes.length cb, .slice An r.names.length cn, .slice At r.tags.length ct, .slice Ak r.kids.length ck] 97) (Ext_alloc (.cells #[.slice A ds.length c] 35) (Ext.refl w))
  have BX := fun w' (e : Ext ((w.alloc (.cells #[.slice A ds.length c] 35)).alloc (.cells #[.string r.nm, .int .i64 r.kind, .int .i64 r.size, .bool r.little, .slice Ab r.bytes.length cb, .slice An r.names.length cn, .slice At r.tags.length ct, .slice Ak r.kids.length ck] 97)) w') => boxed2 e
  have B0 := fun w' e => (BX w' e).1
  have B1 := fun w' e => (BX w' e).2.1
  clear BX
  have t1 : (r.kind == 1) = false := by rw [hk]; rfl
  have t2 : (r.kind == 2) = false := by rw [hk]; rfl
  have t3 : (r.kind == 3) = false := by rw [hk]; rfl
  have t4 : (r.kind == 4) = false := by rw [hk]; rfl
  have t5 : (r.kind == 5) = true := by rw [hk]; rfl
  have t6 : (r.kind == 6) = false := by rw [hk]; rfl
  have t7 : (r.kind == 7) = false := by rw [hk]; rfl
  have t8 : (r.kind == 8) = false := by rw [hk]; rfl
  have t9 : (r.kind == 9) = false := by rw [hk]; rfl
  have t10 : (r.kind == 10) = false := by rw [hk]; rfl
  have HV : Hid ((kindOk ds r) = (plainB r false false false false 2 && (decide (0 < limD ds (r.kids.getD 0 0))))) := by show _ = _; simp [kindOk, hk, Bool.and_assoc]
  rw [HV.out]
  have CP := Lib.hid (fun w => iPlain0000_c r Ab cb An cn At ct Ak ck 2 w h.lens)
  have HKL : Hid (plainB r false false false false 2 = true → r.kids.length = 2) := plainB_kids (k := 2)
  have HPP : Hid ((plainB r false false false false 2) = true → plainB r false false false false 2 = true) := fun hq => hq
  have HKK := Lib.hid (fun hq => HKL.out (HPP.out hq)); clear HKL HPP
  generalize (plainB r false false false false 2) = p at *
  clear HV hk
  have h1 := h.k
  unfold vrule vdesc at *
  cases p
  · go_enter Tryz.func138, Tryz.ntmps138
    go_wp2_with fail
    refine wp_region_quiet_below (by kernel_rfl) (by kernel_rfl) ?_
    repeat (go_big_quiet_step ((go_at_call 150; exact Calls.regrown_of (CP.out _))))
    refine wpQuiet_nil ?_
    rintro w1 ⟨⟨nq, osq⟩, hq⟩
    have ew1 := ext_of_q hq
    clear hq nq osq
    go_wp2
    go_ret
    exact ⟨ret_bool (by simp), eb.trans ew1⟩
  have hk0 : 0 < r.kids.length := by have := HKK.out rfl; omega
  obtain ⟨bk, ok, rfl, hbk, hck⟩ := h1.at 0 hk0
  have HG : Hid (r.kids.getD 0 0 = r.kids[0]) := by show _ = _; simp [List.getD_eq_getElem?_getD, List.getElem?_eq_getElem hk0]
  rw [HG.out]
  rw [Nat.add_zero] at hck
  generalize r.kids[0] = kid at *
  have CL := Lib.hid (fun w h => iLimit_c A ds c kid w h)
  unfold vdesc at CL
  generalize limD ds kid = lim at *
  have hck' := fun w' (e : Ext _ w') => hck w' (eb.trans e)
  clear hck h1 h HG HKK
  have hbe := Ext_drew (Ext.refl ((w.alloc (.cells #[.slice A ds.length c] 35)).alloc (.cells #[.string r.nm, .int .i64 r.kind, .int .i64 r.size, .bool r.little, .slice Ab r.bytes.length cb, .slice An r.names.length cn, .slice At r.tags.length ct, .slice (some ⟨bk, ok, none⟩) r.kids.length ck] 97)))
  go_enter Tryz.func138, Tryz.ntmps138
  go_wp2_with fail
  refine wp_region_quiet_below (by kernel_rfl) (by kernel_rfl) ?_
  repeat (go_big_quiet_step ((first | (go_at_call 150; exact Calls.regrown_of (CP.out _)) | (go_at_call 127; exact Calls.regrown_of (CL.out _ (hd.ext (eb.trans (by first | assumption | exact Ext_self _ | exact Ext_drew (Ext_self _) | exact Ext_regrown _ _ (Ext_self _)))))))))
  refine wpQuiet_nil ?_
  rintro w1 ⟨⟨nq, osq⟩, hq⟩
  have ew1 := ext_of_q hq
  clear hq nq osq
  go_wp2
  go_ret
  exact ⟨ret_bool (by simp), eb.trans ew1⟩
set_option maxRecDepth 100000 in
set_option maxHeartbeats 4000000 in
theorem iKind6_c (A : Option Addr) (ds : List DRule) (c : Nat) (r : DRule) (Ab : Option Addr) (cb : Nat) (An : Option Addr) (cn : Nat) (At : Option Addr) (ct : Nat) (Ak : Option Addr) (ck : Nat) (w : World) (hd : RdD w A ds c) (h : RdS w r Ab cb An cn At ct Ak ck) (hs : ShortR r) (hw : WfR r) (hk : r.kind = 6) :
    Gives Tryz.prog 138 #[vdesc (.slice A ds.length c), vrule r (.slice Ab r.bytes.length cb) (.slice An r.names.length cn) (.slice At r.tags.length ct) (.slice Ak r.kids.length ck)] w (.bool (kindOk ds r)) := by
  have eb := Ext_alloc (.cells #[.string r.nm, .int .i64 r.kind, .int .i64 r.size, .bool r.little, .slice Ab r.bytes.length cb, .slice An r.names.length cn, .slice At r.tags.length ct, .slice Ak r.kids.length ck] 97) (Ext_alloc (.cells #[.slice A ds.length c] 35) (Ext.refl w))
  have BX := fun w' (e : Ext ((w.alloc (.cells #[.slice A ds.length c] 35)).alloc (.cells #[.string r.nm, .int .i64 r.kind, .int .i64 r.size, .bool r.little, .slice Ab r.bytes.length cb, .slice An r.names.length cn, .slice At r.tags.length ct, .slice Ak r.kids.length ck] 97)) w') => boxed2 e
  have B0 := fun w' e => (BX w' e).1
  have B1 := fun w' e => (BX w' e).2.1
  clear BX
  have t1 : (r.kind == 1) = false := by rw [hk]; rfl
  have t2 : (r.kind == 2) = false := by rw [hk]; rfl
  have t3 : (r.kind == 3) = false := by rw [hk]; rfl
  have t4 : (r.kind == 4) = false := by rw [hk]; rfl
  have t5 : (r.kind == 5) = false := by rw [hk]; rfl
  have t6 : (r.kind == 6) = true := by rw [hk]; rfl
  have t7 : (r.kind == 7) = false := by rw [hk]; rfl
  have t8 : (r.kind == 8) = false := by rw [hk]; rfl
  have t9 : (r.kind == 9) = false := by rw [hk]; rfl
  have t10 : (r.kind == 10) = false := by rw [hk]; rfl
  have HV : Hid (kindOk ds r = seqOk r) := by show _ = _; simp [kindOk, hk]
  rw [HV.out]
  have C := Lib.hid (fun w h => iSeq_c r Ab cb An cn At ct Ak ck w h hw)
  generalize seqOk r = q at *
  clear HV hk
  unfold vrule vdesc at *
  go_enter Tryz.func138, Tryz.ntmps138
  go_wp2_with fail
  refine (C.out _ (h.ext eb)).mono ?_; rintro _ w1 ⟨rfl, he1⟩
  go_wp2
  go_ret
  exact ⟨rfl, eb.trans he1⟩
set_option maxRecDepth 100000 in
set_option maxHeartbeats 4000000 in
theorem iKind7_c (A : Option Addr) (ds : List DRule) (c : Nat) (r : DRule) (Ab : Option Addr) (cb : Nat) (An : Option Addr) (cn : Nat) (At : Option Addr) (ct : Nat) (Ak : Option Addr) (ck : Nat) (w : World) (hd : RdD w A ds c) (h : RdS w r Ab cb An cn At ct Ak ck) (hs : ShortR r) (hw : WfR r) (hk : r.kind = 7) :
    Gives Tryz.prog 138 #[vdesc (.slice A ds.length c), vrule r (.slice Ab r.bytes.length cb) (.slice An r.names.length cn) (.slice At r.tags.length ct) (.slice Ak r.kids.length ck)] w (.bool (kindOk ds r)) := by
  have eb := Ext_alloc (.cells #[.string r.nm, .int .i64 r.kind, .int .i64 r.size, .bool r.little, .slice Ab r.bytes.length cb, .slice An r.names.length cn, .slice At r.tags.length ct, .slice Ak r.kids.length ck] 97) (Ext_alloc (.cells #[.slice A ds.length c] 35) (Ext.refl w))
  have BX := fun w' (e : Ext ((w.alloc (.cells #[.slice A ds.length c] 35)).alloc (.cells #[.string r.nm, .int .i64 r.kind, .int .i64 r.size, .bool r.little, .slice Ab r.bytes.length cb, .slice An r.names.length cn, .slice At r.tags.length ct, .slice Ak r.kids.length ck] 97)) w') => boxed2 e
  have B0 := fun w' e => (BX w' e).1
  have B1 := fun w' e => (BX w' e).2.1
  clear BX
  have t1 : (r.kind == 1) = false := by rw [hk]; rfl
  have t2 : (r.kind == 2) = false := by rw [hk]; rfl
  have t3 : (r.kind == 3) = false := by rw [hk]; rfl
  have t4 : (r.kind == 4) = false := by rw [hk]; rfl
  have t5 : (r.kind == 5) = false := by rw [hk]; rfl
  have t6 : (r.kind == 6) = false := by rw [hk]; rfl
  have t7 : (r.kind == 7) = true := by rw [hk]; rfl
  have t8 : (r.kind == 8) = false := by rw [hk]; rfl
  have t9 : (r.kind == 9) = false := by rw [hk]; rfl
  have t10 : (r.kind == 10) = false := by rw [hk]; rfl
  have HV : Hid (kindOk ds r = choOk ds r) := by show _ = _; simp [kindOk, hk]
  rw [HV.out]
  have C := Lib.hid (fun w hd h => iChoice_c A ds c r Ab cb An cn At ct Ak ck w hd h hs)
  generalize choOk ds r = q at *
  clear HV hk
  unfold vrule vdesc at *
  go_enter Tryz.func138, Tryz.ntmps138
  go_wp2_with fail
  refine (C.out _ (hd.ext eb) (h.ext eb)).mono ?_; rintro _ w1 ⟨rfl, he1⟩
  go_wp2
  go_ret
  exact ⟨rfl, eb.trans he1⟩
set_option maxRecDepth 100000 in
set_option maxHeartbeats 4000000 in
theorem iKind8_c (A : Option Addr) (ds : List DRule) (c : Nat) (r : DRule) (Ab : Option Addr) (cb : Nat) (An : Option Addr) (cn : Nat) (At : Option Addr) (ct : Nat) (Ak : Option Addr) (ck : Nat) (w : World) (hd : RdD w A ds c) (h : RdS w r Ab cb An cn At ct Ak ck) (hs : ShortR r) (hw : WfR r) (hk : r.kind = 8) :
    Gives Tryz.prog 138 #[vdesc (.slice A ds.length c), vrule r (.slice Ab r.bytes.length cb) (.slice An r.names.length cn) (.slice At r.tags.length ct) (.slice Ak r.kids.length ck)] w (.bool (kindOk ds r)) := by
  have eb := Ext_alloc (.cells #[.string r.nm, .int .i64 r.kind, .int .i64 r.size, .bool r.little, .slice Ab r.bytes.length cb, .slice An r.names.length cn, .slice At r.tags.length ct, .slice Ak r.kids.length ck] 97) (Ext_alloc (.cells #[.slice A ds.length c] 35) (Ext.refl w))
  have BX := fun w' (e : Ext ((w.alloc (.cells #[.slice A ds.length c] 35)).alloc (.cells #[.string r.nm, .int .i64 r.kind, .int .i64 r.size, .bool r.little, .slice Ab r.bytes.length cb, .slice An r.names.length cn, .slice At r.tags.length ct, .slice Ak r.kids.length ck] 97)) w') => boxed2 e
  have B0 := fun w' e => (BX w' e).1
  have B1 := fun w' e => (BX w' e).2.1
  clear BX
  have t1 : (r.kind == 1) = false := by rw [hk]; rfl
  have t2 : (r.kind == 2) = false := by rw [hk]; rfl
  have t3 : (r.kind == 3) = false := by rw [hk]; rfl
  have t4 : (r.kind == 4) = false := by rw [hk]; rfl
  have t5 : (r.kind == 5) = false := by rw [hk]; rfl
  have t6 : (r.kind == 6) = false := by rw [hk]; rfl
  have t7 : (r.kind == 7) = false := by rw [hk]; rfl
  have t8 : (r.kind == 8) = true := by rw [hk]; rfl
  have t9 : (r.kind == 9) = false := by rw [hk]; rfl
  have t10 : (r.kind == 10) = false := by rw [hk]; rfl
  have HV : Hid ((kindOk ds r) = (plainB r false false false false 1)) := by show _ = _; simp [kindOk, hk]
  rw [HV.out]
  have CP := Lib.hid (fun w => iPlain0000_c r Ab cb An cn At ct Ak ck 1 w h.lens)
  generalize (plainB r false false false false 1) = p at *
  clear HV hk
  unfold vrule vdesc at *
  go_enter Tryz.func138, Tryz.ntmps138
  go_wp2_with fail
  refine (CP.out _).mono ?_; rintro _ w1 ⟨rfl, he1⟩
  go_wp2
  go_ret
  exact ⟨rfl, eb.trans he1⟩
set_option maxRecDepth 100000 in
set_option maxHeartbeats 4000000 in
theorem iKind9_c (A : Option Addr) (ds : List DRule) (c : Nat) (r : DRule) (Ab : Option Addr) (cb : Nat) (An : Option Addr) (cn : Nat) (At : Option Addr) (ct : Nat) (Ak : Option Addr) (ck : Nat) (w : World) (hd : RdD w A ds c) (h : RdS w r Ab cb An cn At ct Ak ck) (hs : ShortR r) (hw : WfR r) (hk : r.kind = 9) :
    Gives Tryz.prog 138 #[vdesc (.slice A ds.length c), vrule r (.slice Ab r.bytes.length cb) (.slice An r.names.length cn) (.slice At r.tags.length ct) (.slice Ak r.kids.length ck)] w (.bool (kindOk ds r)) := by
  have eb := Ext_alloc (.cells #[.string r.nm, .int .i64 r.kind, .int .i64 r.size, .bool r.little, .slice Ab r.bytes.length cb, .slice An r.names.length cn, .slice At r.tags.length ct, .slice Ak r.kids.length ck] 97) (Ext_alloc (.cells #[.slice A ds.length c] 35) (Ext.refl w))
  have BX := fun w' (e : Ext ((w.alloc (.cells #[.slice A ds.length c] 35)).alloc (.cells #[.string r.nm, .int .i64 r.kind, .int .i64 r.size, .bool r.little, .slice Ab r.bytes.length cb, .slice An r.names.length cn, .slice At r.tags.length ct, .slice Ak r.kids.length ck] 97)) w') => boxed2 e
  have B0 := fun w' e => (BX w' e).1
  have B1 := fun w' e => (BX w' e).2.1
  clear BX
  have t1 : (r.kind == 1) = false := by rw [hk]; rfl
  have t2 : (r.kind == 2) = false := by rw [hk]; rfl
  have t3 : (r.kind == 3) = false := by rw [hk]; rfl
  have t4 : (r.kind == 4) = false := by rw [hk]; rfl
  have t5 : (r.kind == 5) = false := by rw [hk]; rfl
  have t6 : (r.kind == 6) = false := by rw [hk]; rfl
  have t7 : (r.kind == 7) = false := by rw [hk]; rfl
  have t8 : (r.kind == 8) = false := by rw [hk]; rfl
  have t9 : (r.kind == 9) = true := by rw [hk]; rfl
  have t10 : (r.kind == 10) = false := by rw [hk]; rfl
  have HV : Hid ((kindOk ds r) = (plainB r false false false false 1)) := by show _ = _; simp [kindOk, hk]
  rw [HV.out]
  have CP := Lib.hid (fun w => iPlain0000_c r Ab cb An cn At ct Ak ck 1 w h.lens)
  generalize (plainB r false false false false 1) = p at *
  clear HV hk
  unfold vrule vdesc at *
  go_enter Tryz.func138, Tryz.ntmps138
  go_wp2_with fail
  refine (CP.out _).mono ?_; rintro _ w1 ⟨rfl, he1⟩
  go_wp2
  go_ret
  exact ⟨rfl, eb.trans he1⟩
set_option maxRecDepth 100000 in
set_option maxHeartbeats 4000000 in
theorem iKind10_c (A : Option Addr) (ds : List DRule) (c : Nat) (r : DRule) (Ab : Option Addr) (cb : Nat) (An : Option Addr) (cn : Nat) (At : Option Addr) (ct : Nat) (Ak : Option Addr) (ck : Nat) (w : World) (hd : RdD w A ds c) (h : RdS w r Ab cb An cn At ct Ak ck) (hs : ShortR r) (hw : WfR r) (hk : r.kind = 10) :
    Gives Tryz.prog 138 #[vdesc (.slice A ds.length c), vrule r (.slice Ab r.bytes.length cb) (.slice An r.names.length cn) (.slice At r.tags.length ct) (.slice Ak r.kids.length ck)] w (.bool (kindOk ds r)) := by
  have eb := Ext_alloc (.cells #[.string r.nm, .int .i64 r.kind, .int .i64 r.size, .bool r.little, .slice Ab r.bytes.length cb, .slice An r.names.length cn, .slice At r.tags.length ct, .slice Ak r.kids.length ck] 97) (Ext_alloc (.cells #[.slice A ds.length c] 35) (Ext.refl w))
  have BX := fun w' (e : Ext ((w.alloc (.cells #[.slice A ds.length c] 35)).alloc (.cells #[.string r.nm, .int .i64 r.kind, .int .i64 r.size, .bool r.little, .slice Ab r.bytes.length cb, .slice An r.names.length cn, .slice At r.tags.length ct, .slice Ak r.kids.length ck] 97)) w') => boxed2 e
  have B0 := fun w' e => (BX w' e).1
  have B1 := fun w' e => (BX w' e).2.1
  clear BX
  have t1 : (r.kind == 1) = false := by rw [hk]; rfl
  have t2 : (r.kind == 2) = false := by rw [hk]; rfl
  have t3 : (r.kind == 3) = false := by rw [hk]; rfl
  have t4 : (r.kind == 4) = false := by rw [hk]; rfl
  have t5 : (r.kind == 5) = false := by rw [hk]; rfl
  have t6 : (r.kind == 6) = false := by rw [hk]; rfl
  have t7 : (r.kind == 7) = false := by rw [hk]; rfl
  have t8 : (r.kind == 8) = false := by rw [hk]; rfl
  have t9 : (r.kind == 9) = false := by rw [hk]; rfl
  have t10 : (r.kind == 10) = true := by rw [hk]; rfl
  have HV : Hid ((kindOk ds r) = (plainB r false true false false 0 && (r.bytes.length == 1 && !(r.bytes.getD 0 0 == 92)))) := by show _ = _; simp [kindOk, hk, Bool.and_assoc]
  rw [HV.out]
  have CP := Lib.hid (fun w => iPlain0100_c r Ab cb An cn At ct Ak ck 0 w h.lens)
  generalize (plainB r false true false false 0) = p at *
  clear HV hk
  have h1 := h.b
  have hlb := h1.len
  unfold vrule vdesc at *
  cases p
  · go_enter Tryz.func138, Tryz.ntmps138
    go_wp2_with fail
    refine (CP.out _).mono ?_; rintro _ w1 ⟨rfl, he1⟩
    go_wp2
    go_ret
    exact ⟨ret_bool (by simp), eb.trans he1⟩
  by_cases hl : r.bytes.length = 1
  · have hk0 : 0 < r.bytes.length := by omega
    obtain ⟨bb, ob, rfl, hbb, hcb⟩ := h1.at 0 hk0
    have HG : Hid (r.bytes.getD 0 0 = r.bytes[0]) := by show _ = _; simp [List.getD_eq_getElem?_getD, List.getElem?_eq_getElem hk0]
    rw [HG.out]
    rw [Nat.add_zero] at hcb
    generalize r.bytes[0] = x at *
    have hck' := fun w' (e : Ext _ w') => hcb w' (eb.trans e)
    have l1 : ((r.bytes.length : Int) == 1) = true := by simp [hl]
    have HL : Hid ((r.bytes.length == 1) = true) := by show _ = _; simp [hl]
    rw [HL.out]
    have HX : Hid ((!(x == 92)) = ((x.toNat : Int) != 92)) := by
      show _ = _
      rw [bne]; congr 1
      rw [Bool.eq_iff_iff]; simp only [beq_iff_eq]
      constructor
      · rintro rfl; rfl
      · intro hx; exact u8_inj (by simpa using hx)
    rw [HX.out]
    clear hcb h1 h HG hl HL HX
    go_enter Tryz.func138, Tryz.ntmps138
    go_wp2_with fail
    refine (CP.out _).mono ?_; rintro _ w1 ⟨rfl, he1⟩
    go_wp2
    go_ret
    exact ⟨ret_bool (by simp), eb.trans he1⟩
  · have l1 : ((r.bytes.length : Int) == 1) = false := by simp; omega
    have HL : Hid ((r.bytes.length == 1) = false) := by show _ = _; simpa using hl
    rw [HL.out]
    clear hl HL
    go_enter Tryz.func138, Tryz.ntmps138
    go_wp2_with fail
    refine (CP.out _).mono ?_; rintro _ w1 ⟨rfl, he1⟩
    go_wp2
    go_ret
    exact ⟨ret_bool (by simp), eb.trans he1⟩
set_option maxRecDepth 100000 in
set_option maxHeartbeats 4000000 in
theorem iKindX_c (A : Option Addr) (ds : List DRule) (c : Nat) (r : DRule) (Ab : Option Addr) (cb : Nat) (An : Option Addr) (cn : Nat) (At : Option Addr) (ct : Nat) (Ak : Option Addr) (ck : Nat) (w : World) (hd : RdD w A ds c) (h : RdS w r Ab cb An cn At ct Ak ck) (hs : ShortR r) (hw : WfR r) (hk : r.kind < 1 ∨ 10 < r.kind) :
    Gives Tryz.prog 138 #[vdesc (.slice A ds.length c), vrule r (.slice Ab r.bytes.length cb) (.slice An r.names.length cn) (.slice At r.tags.length ct) (.slice Ak r.kids.length ck)] w (.bool (kindOk ds r)) := by
  have eb := Ext_alloc (.cells #[.string r.nm, .int .i64 r.kind, .int .i64 r.size, .bool r.little, .slice Ab r.bytes.length cb, .slice An r.names.length cn, .slice At r.tags.length ct, .slice Ak r.kids.length ck] 97) (Ext_alloc (.cells #[.slice A ds.length c] 35) (Ext.refl w))
  have BX := fun w' (e : Ext ((w.alloc (.cells #[.slice A ds.length c] 35)).alloc (.cells #[.string r.nm, .int .i64 r.kind, .int .i64 r.size, .bool r.little, .slice Ab r.bytes.length cb, .slice An r.names.length cn, .slice At r.tags.length ct, .slice Ak r.kids.length ck] 97)) w') => boxed2 e
  have B0 := fun w' e => (BX w' e).1
  have B1 := fun w' e => (BX w' e).2.1
  clear BX
  have t1 : (r.kind == 1) = false := by simp; omega
  have t2 : (r.kind == 2) = false := by simp; omega
  have t3 : (r.kind == 3) = false := by simp; omega
  have t4 : (r.kind == 4) = false := by simp; omega
  have t5 : (r.kind == 5) = false := by simp; omega
  have t6 : (r.kind == 6) = false := by simp; omega
  have t7 : (r.kind == 7) = false := by simp; omega
  have t8 : (r.kind == 8) = false := by simp; omega
  have t9 : (r.kind == 9) = false := by simp; omega
  have t10 : (r.kind == 10) = false := by simp; omega
  have HV : Hid ((kindOk ds r) = false) := by
    show _ = _; unfold kindOk
    rw [if_neg (by omega), if_neg (by omega), if_neg (by omega), if_neg (by omega), if_neg (by omega), if_neg (by omega), if_neg (by omega), if_neg (by omega), if_neg (by omega), if_neg (by omega)]
  rw [HV.out]
  clear HV hk
  unfold vrule vdesc at *
  go_enter Tryz.func138, Tryz.ntmps138
  go_wp2
  go_ret
  exact ⟨rfl, eb⟩
end Go.Proofs.YtjckcbfpejcpcaaGreatDoor

/- Kinds of rules, of the reference. -/
namespace Go.Proofs.YtjckcbfpejcpcaaGreatDoor
open Go.RowKit Go.Sort

set_option maxRecDepth 100000 in
set_option maxHeartbeats 4000000 in
theorem sKind1_c (A : Option Addr) (ds : List DRule) (c : Nat) (r : DRule) (Ab : Option Addr) (cb : Nat) (An : Option Addr) (cn : Nat) (At : Option Addr) (ct : Nat) (Ak : Option Addr) (ck : Nat) (w : World) (hd : RdD w A ds c) (h : RdS w r Ab cb An cn At ct Ak ck) (hs : ShortR r) (hw : WfR r) (hk : r.kind = 1) :
    Gives Tryz.prog 131 #[vdesc (.slice A ds.length c), vrule r (.slice Ab r.bytes.length cb) (.slice An r.names.length cn) (.slice At r.tags.length ct) (.slice Ak r.kids.length ck)] w (.bool ((!r.little || r.kind == 1) && kindOk ds r)) := by
  have eb := Ext_alloc (.cells #[.string r.nm, .int .i64 r.kind, .int .i64 r.size, .bool r.little, .slice Ab r.bytes.length cb, .slice An r.names.length cn, .slice At r.tags.length ct, .slice Ak r.kids.length ck] 97) (Ext_alloc (.cells #[.slice A ds.length c] 35) (Ext.refl w))
  have BX := fun w' (e : Ext ((w.alloc (.cells #[.slice A ds.length c] 35)).alloc (.cells #[.string r.nm, .int .i64 r.kind, .int .i64 r.size, .bool r.little, .slice Ab r.bytes.length cb, .slice An r.names.length cn, .slice At r.tags.length ct, .slice Ak r.kids.length ck] 97)) w') => boxed2 e
  have B0 := fun w' e => (BX w' e).1
  have B1 := fun w' e => (BX w' e).2.1
  clear BX
  have t1 : (r.kind == 1) = true := by rw [hk]; rfl
  have t2 : (r.kind == 2) = false := by rw [hk]; rfl
  have t3 : (r.kind == 3) = false := by rw [hk]; rfl
  have t4 : (r.kind == 4) = false := by rw [hk]; rfl
  have t5 : (r.kind == 5) = false := by rw [hk]; rfl
  have t6 : (r.kind == 6) = false := by rw [hk]; rfl
  have t7 : (r.kind == 7) = false := by rw [hk]; rfl
  have t8 : (r.kind == 8) = false := by rw [hk]; rfl
  have t9 : (r.kind == 9) = false := by rw [hk]; rfl
  have t10 : (r.kind == 10) = false := by rw [hk]; rfl
  have HV : Hid (((!r.little || r.kind == 1) && kindOk ds r) = ((plainB r true false false false 0 && (!r.little || r.kind == 1)) && (between r.size 1 4 && (!r.little || decide (1 < r.size))))) := by
    have : kindOk ds r = (plainB r true false false false 0 && (between r.size 1 4 && (!r.little || decide (1 < r.size)))) := by simp [kindOk, hk, Bool.and_assoc]
    show _ = _; rw [this]; cases (!r.little || r.kind == 1) <;> simp
  rw [HV.out]
  have CP := Lib.hid (fun w => sShape1000_c r Ab cb An cn At ct Ak ck 0 w h.lens)
  generalize (plainB r true false false false 0 && (!r.little || r.kind == 1)) = p at *
  clear HV hk
  have CI := Lib.hid (fun w => l1In_c r.size 1 4 w)
  have HB : Hid (between r.size 1 4 = (decide (((1) : Int) ≤ r.size) && decide (r.size ≤ 4))) := rfl
  rw [← HB.out] at CI
  clear HB
  generalize between r.size 1 4 = q at *
  unfold vrule vdesc at *
  cases p
  · go_enter Tryz.func131, Tryz.ntmps131
    go_wp2_with fail
    refine (CP.out _).mono ?_; rintro _ w1 ⟨rfl, he1⟩
    go_wp2
    go_ret
    exact ⟨ret_bool (by simp), eb.trans he1⟩
  cases q
  · go_enter Tryz.func131, Tryz.ntmps131
    go_wp2_with fail
    refine (CP.out _).mono ?_; rintro _ w1 ⟨rfl, he1⟩
    go_wp2_with fail
    refine (CI.out _).mono ?_; rintro _ w2 ⟨rfl, he2⟩
    go_wp2
    go_ret
    exact ⟨ret_bool (by simp), eb.trans (he1.trans he2)⟩
  generalize r.little = li at *
  cases li
  all_goals
    cases hz : decide (1 < r.size)
    all_goals
      go_enter Tryz.func131, Tryz.ntmps131
      go_wp2_with fail
      refine (CP.out _).mono ?_; rintro _ w1 ⟨rfl, he1⟩
      go_wp2_with fail
      refine (CI.out _).mono ?_; rintro _ w2 ⟨rfl, he2⟩
      have e2 := he1.trans he2
      go_wp2
      go_ret
      exact ⟨ret_bool (by simp), eb.trans e2⟩
set_option maxRecDepth 100000 in
set_option maxHeartbeats 4000000 in
theorem sKind2_c (A : Option Addr) (ds : List DRule) (c : Nat) (r : DRule) (Ab : Option Addr) (cb : Nat) (An : Option Addr) (cn : Nat) (At : Option Addr) (ct : Nat) (Ak : Option Addr) (ck : Nat) (w : World) (hd : RdD w A ds c) (h : RdS w r Ab cb An cn At ct Ak ck) (hs : ShortR r) (hw : WfR r) (hk : r.kind = 2) :
    Gives Tryz.prog 131 #[vdesc (.slice A ds.length c), vrule r (.slice Ab r.bytes.length cb) (.slice An r.names.length cn) (.slice At r.tags.length ct) (.slice Ak r.kids.length ck)] w (.bool ((!r.little || r.kind == 1) && kindOk ds r)) := by
  have eb := Ext_alloc (.cells #[.string r.nm, .int .i64 r.kind, .int .i64 r.size, .bool r.little, .slice Ab r.bytes.length cb, .slice An r.names.length cn, .slice At r.tags.length ct, .slice Ak r.kids.length ck] 97) (Ext_alloc (.cells #[.slice A ds.length c] 35) (Ext.refl w))
  have BX := fun w' (e : Ext ((w.alloc (.cells #[.slice A ds.length c] 35)).alloc (.cells #[.string r.nm, .int .i64 r.kind, .int .i64 r.size, .bool r.little, .slice Ab r.bytes.length cb, .slice An r.names.length cn, .slice At r.tags.length ct, .slice Ak r.kids.length ck] 97)) w') => boxed2 e
  have B0 := fun w' e => (BX w' e).1
  have B1 := fun w' e => (BX w' e).2.1
  clear BX
  have t1 : (r.kind == 1) = false := by rw [hk]; rfl
  have t2 : (r.kind == 2) = true := by rw [hk]; rfl
  have t3 : (r.kind == 3) = false := by rw [hk]; rfl
  have t4 : (r.kind == 4) = false := by rw [hk]; rfl
  have t5 : (r.kind == 5) = false := by rw [hk]; rfl
  have t6 : (r.kind == 6) = false := by rw [hk]; rfl
  have t7 : (r.kind == 7) = false := by rw [hk]; rfl
  have t8 : (r.kind == 8) = false := by rw [hk]; rfl
  have t9 : (r.kind == 9) = false := by rw [hk]; rfl
  have t10 : (r.kind == 10) = false := by rw [hk]; rfl
  have HV : Hid (((!r.little || r.kind == 1) && kindOk ds r) = ((plainB r false true false false 0 && (!r.little || r.kind == 1)) && (between r.bytes.length 1 16))) := by
    have : kindOk ds r = (plainB r false true false false 0 && (between r.bytes.length 1 16)) := by simp [kindOk, hk, Bool.and_assoc]
    show _ = _; rw [this]; cases (!r.little || r.kind == 1) <;> simp
  rw [HV.out]
  have CP := Lib.hid (fun w => sShape0100_c r Ab cb An cn At ct Ak ck 0 w h.lens)
  generalize (plainB r false true false false 0 && (!r.little || r.kind == 1)) = p at *
  clear HV hk
  have CI := Lib.hid (fun w => l1In_c (r.bytes.length : Int) 1 16 w)
  have HB : Hid (between r.bytes.length 1 16 = (decide (((1) : Int) ≤ (r.bytes.length : Int)) && decide ((r.bytes.length : Int) ≤ 16))) := rfl
  rw [← HB.out] at CI
  clear HB
  generalize between r.bytes.length 1 16 = q at *
  have hlb := h.lens.1
  unfold vrule vdesc at *
  cases p
  · go_enter Tryz.func131, Tryz.ntmps131
    go_wp2_with fail
    refine (CP.out _).mono ?_; rintro _ w1 ⟨rfl, he1⟩
    go_wp2
    go_ret
    exact ⟨ret_bool (by simp), eb.trans he1⟩
  go_enter Tryz.func131, Tryz.ntmps131
  go_wp2_with fail
  refine (CP.out _).mono ?_; rintro _ w1 ⟨rfl, he1⟩
  go_wp2_with fail
  refine (CI.out _).mono ?_; rintro _ w2 ⟨rfl, he2⟩
  go_wp2
  go_ret
  exact ⟨ret_bool (by simp), eb.trans (he1.trans he2)⟩
set_option maxRecDepth 100000 in
set_option maxHeartbeats 4000000 in
theorem sKind3_c (A : Option Addr) (ds : List DRule) (c : Nat) (r : DRule) (Ab : Option Addr) (cb : Nat) (An : Option Addr) (cn : Nat) (At : Option Addr) (ct : Nat) (Ak : Option Addr) (ck : Nat) (w : World) (hd : RdD w A ds c) (h : RdS w r Ab cb An cn At ct Ak ck) (hs : ShortR r) (hw : WfR r) (hk : r.kind = 3) :
    Gives Tryz.prog 131 #[vdesc (.slice A ds.length c), vrule r (.slice Ab r.bytes.length cb) (.slice An r.names.length cn) (.slice At r.tags.length ct) (.slice Ak r.kids.length ck)] w (.bool ((!r.little || r.kind == 1) && kindOk ds r)) := by
  have eb := Ext_alloc (.cells #[.string r.nm, .int .i64 r.kind, .int .i64 r.size, .bool r.little, .slice Ab r.bytes.length cb, .slice An r.names.length cn, .slice At r.tags.length ct, .slice Ak r.kids.length ck] 97) (Ext_alloc (.cells #[.slice A ds.length c] 35) (Ext.refl w))
  have BX := fun w' (e : Ext ((w.alloc (.cells #[.slice A ds.length c] 35)).alloc (.cells #[.string r.nm, .int .i64 r.kind, .int .i64 r.size, .bool r.little, .slice Ab r.bytes.length cb, .slice An r.names.length cn, .slice At r.tags.length ct, .slice Ak r.kids.length ck] 97)) w') => boxed2 e
  have B0 := fun w' e => (BX w' e).1
  have B1 := fun w' e => (BX w' e).2.1
  clear BX
  have t1 : (r.kind == 1) = false := by rw [hk]; rfl
  have t2 : (r.kind == 2) = false := by rw [hk]; rfl
  have t3 : (r.kind == 3) = true := by rw [hk]; rfl
  have t4 : (r.kind == 4) = false := by rw [hk]; rfl
  have t5 : (r.kind == 5) = false := by rw [hk]; rfl
  have t6 : (r.kind == 6) = false := by rw [hk]; rfl
  have t7 : (r.kind == 7) = false := by rw [hk]; rfl
  have t8 : (r.kind == 8) = false := by rw [hk]; rfl
  have t9 : (r.kind == 9) = false := by rw [hk]; rfl
  have t10 : (r.kind == 10) = false := by rw [hk]; rfl
  have HV : Hid (((!r.little || r.kind == 1) && kindOk ds r) = ((plainB r true false false false 0 && (!r.little || r.kind == 1)) && (between r.size 1 64))) := by
    have : kindOk ds r = (plainB r true false false false 0 && (between r.size 1 64)) := by simp [kindOk, hk, Bool.and_assoc]
    show _ = _; rw [this]; cases (!r.little || r.kind == 1) <;> simp
  rw [HV.out]
  have CP := Lib.hid (fun w => sShape1000_c r Ab cb An cn At ct Ak ck 0 w h.lens)
  generalize (plainB r true false false false 0 && (!r.little || r.kind == 1)) = p at *
  clear HV hk
  have CI := Lib.hid (fun w => l1In_c r.size 1 64 w)
  have HB : Hid (between r.size 1 64 = (decide (((1) : Int) ≤ r.size) && decide (r.size ≤ 64))) := rfl
  rw [← HB.out] at CI
  clear HB
  generalize between r.size 1 64 = q at *
  have hlb := h.lens.1
  unfold vrule vdesc at *
  cases p
  · go_enter Tryz.func131, Tryz.ntmps131
    go_wp2_with fail
    refine (CP.out _).mono ?_; rintro _ w1 ⟨rfl, he1⟩
    go_wp2
    go_ret
    exact ⟨ret_bool (by simp), eb.trans he1⟩
  go_enter Tryz.func131, Tryz.ntmps131
  go_wp2_with fail
  refine (CP.out _).mono ?_; rintro _ w1 ⟨rfl, he1⟩
  go_wp2_with fail
  refine (CI.out _).mono ?_; rintro _ w2 ⟨rfl, he2⟩
  go_wp2
  go_ret
  exact ⟨ret_bool (by simp), eb.trans (he1.trans he2)⟩
set_option maxRecDepth 100000 in
set_option maxHeartbeats 4000000 in
theorem sKind4_c (A : Option Addr) (ds : List DRule) (c : Nat) (r : DRule) (Ab : Option Addr) (cb : Nat) (An : Option Addr) (cn : Nat) (At : Option Addr) (ct : Nat) (Ak : Option Addr) (ck : Nat) (w : World) (hd : RdD w A ds c) (h : RdS w r Ab cb An cn At ct Ak ck) (hs : ShortR r) (hw : WfR r) (hk : r.kind = 4) :
    Gives Tryz.prog 131 #[vdesc (.slice A ds.length c), vrule r (.slice Ab r.bytes.length cb) (.slice An r.names.length cn) (.slice At r.tags.length ct) (.slice Ak r.kids.length ck)] w (.bool ((!r.little || r.kind == 1) && kindOk ds r)) := by
  have eb := Ext_alloc (.cells #[.string r.nm, .int .i64 r.kind, .int .i64 r.size, .bool r.little, .slice Ab r.bytes.length cb, .slice An r.names.length cn, .slice At r.tags.length ct, .slice Ak r.kids.length ck] 97) (Ext_alloc (.cells #[.slice A ds.length c] 35) (Ext.refl w))
  have BX := fun w' (e : Ext ((w.alloc (.cells #[.slice A ds.length c] 35)).alloc (.cells #[.string r.nm, .int .i64 r.kind, .int .i64 r.size, .bool r.little, .slice Ab r.bytes.length cb, .slice An r.names.length cn, .slice At r.tags.length ct, .slice Ak r.kids.length ck] 97)) w') => boxed2 e
  have B0 := fun w' e => (BX w' e).1
  have B1 := fun w' e => (BX w' e).2.1
  clear BX
  have t1 : (r.kind == 1) = false := by rw [hk]; rfl
  have t2 : (r.kind == 2) = false := by rw [hk]; rfl
  have t3 : (r.kind == 3) = false := by rw [hk]; rfl
  have t4 : (r.kind == 4) = true := by rw [hk]; rfl
  have t5 : (r.kind == 5) = false := by rw [hk]; rfl
  have t6 : (r.kind == 6) = false := by rw [hk]; rfl
  have t7 : (r.kind == 7) = false := by rw [hk]; rfl
  have t8 : (r.kind == 8) = false := by rw [hk]; rfl
  have t9 : (r.kind == 9) = false := by rw [hk]; rfl
  have t10 : (r.kind == 10) = false := by rw [hk]; rfl
  have HV : Hid (((!r.little || r.kind == 1) && kindOk ds r) = ((plainB r false false false false 1 && (!r.little || r.kind == 1)) && (decide (0 < limD ds (r.kids.getD 0 0))))) := by
    have : kindOk ds r = (plainB r false false false false 1 && (decide (0 < limD ds (r.kids.getD 0 0)))) := by simp [kindOk, hk, Bool.and_assoc]
    show _ = _; rw [this]; cases (!r.little || r.kind == 1) <;> simp
  rw [HV.out]
  have CP := Lib.hid (fun w => sShape0000_c r Ab cb An cn At ct Ak ck 1 w h.lens)
  have HKL : Hid (plainB r false false false false 1 = true → r.kids.length = 1) := plainB_kids (k := 1)
  have HPP : Hid ((plainB r false false false false 1 && (!r.little || r.kind == 1)) = true → plainB r false false false false 1 = true) := by intro hq; rw [Bool.and_eq_true] at hq; exact hq.1
  have HKK := Lib.hid (fun hq => HKL.out (HPP.out hq)); clear HKL HPP
  generalize (plainB r false false false false 1 && (!r.little || r.kind == 1)) = p at *
  clear HV hk
  have h1 := h.k
  unfold vrule vdesc at *
  cases p
  · go_enter Tryz.func131, Tryz.ntmps131
    go_wp2_with fail
    refine wp_region_quiet_below (by kernel_rfl) (by kernel_rfl) ?_
    repeat (go_big_quiet_step ((go_at_call 142; exact Calls.regrown_of (CP.out _))))
    refine wpQuiet_nil ?_
    rintro w1 ⟨⟨nq, osq⟩, hq⟩
    have ew1 := ext_of_q hq
    clear hq nq osq
    go_wp2
    go_ret
    exact ⟨ret_bool (by simp), eb.trans ew1⟩
  have hk0 : 0 < r.kids.length := by have := HKK.out rfl; omega
  obtain ⟨bk, ok, rfl, hbk, hck⟩ := h1.at 0 hk0
  have HG : Hid (r.kids.getD 0 0 = r.kids[0]) := by show _ = _; simp [List.getD_eq_getElem?_getD, List.getElem?_eq_getElem hk0]
  rw [HG.out]
  rw [Nat.add_zero] at hck
  generalize r.kids[0] = kid at *
  have CL := Lib.hid (fun w h => sLimit_c A ds c kid w h)
  unfold vdesc at CL
  generalize limD ds kid = lim at *
  have hck' := fun w' (e : Ext _ w') => hck w' (eb.trans e)
  clear hck h1 h HG HKK
  have hbe := Ext_drew (Ext.refl ((w.alloc (.cells #[.slice A ds.length c] 35)).alloc (.cells #[.string r.nm, .int .i64 r.kind, .int .i64 r.size, .bool r.little, .slice Ab r.bytes.length cb, .slice An r.names.length cn, .slice At r.tags.length ct, .slice (some ⟨bk, ok, none⟩) r.kids.length ck] 97)))
  go_enter Tryz.func131, Tryz.ntmps131
  go_wp2_with fail
  refine wp_region_quiet_below (by kernel_rfl) (by kernel_rfl) ?_
  repeat (go_big_quiet_step ((first | (go_at_call 142; exact Calls.regrown_of (CP.out _)) | (go_at_call 114; exact Calls.regrown_of (CL.out _ (hd.ext (eb.trans (by first | assumption | exact Ext_self _ | exact Ext_drew (Ext_self _) | exact Ext_regrown _ _ (Ext_self _)))))))))
  refine wpQuiet_nil ?_
  rintro w1 ⟨⟨nq, osq⟩, hq⟩
  have ew1 := ext_of_q hq
  clear hq nq osq
  go_wp2
  go_ret
  exact ⟨ret_bool (by simp), eb.trans ew1⟩
set_option maxRecDepth 100000 in
set_option maxHeartbeats 4000000 in
theorem sKind5_c (A : Option Addr) (ds : List DRule) (c : Nat) (r : DRule) (Ab : Option Addr) (cb : Nat) (An : Option Addr) (cn : Nat) (At : Option Addr) (ct : Nat) (Ak : Option Addr) (ck : Nat) (w : World) (hd : RdD w A ds c) (h : RdS w r Ab cb An cn At ct Ak ck) (hs : ShortR r) (hw : WfR r) (hk : r.kind = 5) :
    Gives Tryz.prog 131 #[vdesc (.slice A ds.length c), vrule r (.slice Ab r.bytes.length cb) (.slice An r.names.length cn) (.slice At r.tags.length ct) (.slice Ak r.kids.length ck)] w (.bool ((!r.little || r.kind == 1) && kindOk ds r)) := by
  have eb := Ext_alloc (.cells #[.string r.nm, .int .i64 r.kind, .int .i64 r.size, .bool r.little, .slice Ab r.bytes.length cb, .slice An r.names.length cn, .slice At r.tags.length ct, .slice Ak r.kids.length ck] 97) (Ext_alloc (.cells #[.slice A ds.length c] 35) (Ext.refl w))
  have BX := fun w' (e : Ext ((w.alloc (.cells #[.slice A ds.length c] 35)).alloc (.cells #[.string r.nm, .int .i64 r.kind, .int .i64 r.size, .bool r.little, .slice Ab r.bytes.length cb, .slice An r.names.length cn, .slice At r.tags.length ct, .slice Ak r.kids.length ck] 97)) w') => boxed2 e
  have B0 := fun w' e => (BX w' e).1
  have B1 := fun w' e => (BX w' e).2.1
  clear BX
  have t1 : (r.kind == 1) = false := by rw [hk]; rfl
  have t2 : (r.kind == 2) = false := by rw [hk]; rfl
  have t3 : (r.kind == 3) = false := by rw [hk]; rfl
  have t4 : (r.kind == 4) = false := by rw [hk]; rfl
  have t5 : (r.kind == 5) = true := by rw [hk]; rfl
  have t6 : (r.kind == 6) = false := by rw [hk]; rfl
  have t7 : (r.kind == 7) = false := by rw [hk]; rfl
  have t8 : (r.kind == 8) = false := by rw [hk]; rfl
  have t9 : (r.kind == 9) = false := by rw [hk]; rfl
  have t10 : (r.kind == 10) = false := by rw [hk]; rfl
  have HV : Hid (((!r.little || r.kind == 1) && kindOk ds r) = ((plainB r false false false false 2 && (!r.little || r.kind == 1)) && (decide (0 < limD ds (r.kids.getD 0 0))))) := by
    have : kindOk ds r = (plainB r false false false false 2 && (decide (0 < limD ds (r.kids.getD 0 0)))) := by simp [kindOk, hk, Bool.and_assoc]
    show _ = _; rw [this]; cases (!r.little || r.kind == 1) <;> simp
  rw [HV.out]
  have CP := Lib.hid (fun w => sShape0000_c r Ab cb An cn At ct Ak ck 2 w h.lens)
  have HKL : Hid (plainB r false false false false 2 = true → r.kids.length = 2) := plainB_kids (k := 2)
  have HPP : Hid ((plainB r false false false false 2 && (!r.little || r.kind == 1)) = true → plainB r false false false false 2 = true) := by intro hq; rw [Bool.and_eq_true] at hq; exact hq.1
  have HKK := Lib.hid (fun hq => HKL.out (HPP.out hq)); clear HKL HPP
  generalize (plainB r false false false false 2 && (!r.little || r.kind == 1)) = p at *
  clear HV hk
  have h1 := h.k
  unfold vrule vdesc at *
  cases p
  · go_enter Tryz.func131, Tryz.ntmps131
    go_wp2_with fail
    refine wp_region_quiet_below (by kernel_rfl) (by kernel_rfl) ?_
    repeat (go_big_quiet_step ((go_at_call 142; exact Calls.regrown_of (CP.out _))))
    refine wpQuiet_nil ?_
    rintro w1 ⟨⟨nq, osq⟩, hq⟩
    have ew1 := ext_of_q hq
    clear hq nq osq
    go_wp2
    go_ret
    exact ⟨ret_bool (by simp), eb.trans ew1⟩
  have hk0 : 0 < r.kids.length := by have := HKK.out rfl; omega
  obtain ⟨bk, ok, rfl, hbk, hck⟩ := h1.at 0 hk0
  have HG : Hid (r.kids.getD 0 0 = r.kids[0]) := by show _ = _; simp [List.getD_eq_getElem?_getD, List.getElem?_eq_getElem hk0]
  rw [HG.out]
  rw [Nat.add_zero] at hck
  generalize r.kids[0] = kid at *
  have CL := Lib.hid (fun w h => sLimit_c A ds c kid w h)
  unfold vdesc at CL
  generalize limD ds kid = lim at *
  have hck' := fun w' (e : Ext _ w') => hck w' (eb.trans e)
  clear hck h1 h HG HKK
  have hbe := Ext_drew (Ext.refl ((w.alloc (.cells #[.slice A ds.length c] 35)).alloc (.cells #[.string r.nm, .int .i64 r.kind, .int .i64 r.size, .bool r.little, .slice Ab r.bytes.length cb, .slice An r.names.length cn, .slice At r.tags.length ct, .slice (some ⟨bk, ok, none⟩) r.kids.length ck] 97)))
  go_enter Tryz.func131, Tryz.ntmps131
  go_wp2_with fail
  refine wp_region_quiet_below (by kernel_rfl) (by kernel_rfl) ?_
  repeat (go_big_quiet_step ((first | (go_at_call 142; exact Calls.regrown_of (CP.out _)) | (go_at_call 114; exact Calls.regrown_of (CL.out _ (hd.ext (eb.trans (by first | assumption | exact Ext_self _ | exact Ext_drew (Ext_self _) | exact Ext_regrown _ _ (Ext_self _)))))))))
  refine wpQuiet_nil ?_
  rintro w1 ⟨⟨nq, osq⟩, hq⟩
  have ew1 := ext_of_q hq
  clear hq nq osq
  go_wp2
  go_ret
  exact ⟨ret_bool (by simp), eb.trans ew1⟩
theorem seq_eq {ds : List DRule} {r : DRule} (hk : r.kind = 6) : kindOk ds r = (plainB r false false true false (r.names.length : Int) && namesB r.names) := by
  have h1 : kindOk ds r = seqOk r := by simp [kindOk, hk]
  rw [h1]
  unfold seqOk namesB plainB
  simp only [Bool.false_or, Bool.true_or, Bool.and_true]
  by_cases hl : r.kids.length = r.names.length
  · simp [hl, Bool.and_assoc]
  · have e1 : decide ((r.kids.length : Int) = (r.names.length : Int)) = false := by simp; omega
    have e2 : decide ((r.names.length : Int) < 0) = false := by simp
    have e3 : (r.kids.length == r.names.length) = false := by simpa using hl
    rw [e1, e2, e3]; simp
set_option maxRecDepth 100000 in
set_option maxHeartbeats 4000000 in
theorem sKind6_c (A : Option Addr) (ds : List DRule) (c : Nat) (r : DRule) (Ab : Option Addr) (cb : Nat) (An : Option Addr) (cn : Nat) (At : Option Addr) (ct : Nat) (Ak : Option Addr) (ck : Nat) (w : World) (hd : RdD w A ds c) (h : RdS w r Ab cb An cn At ct Ak ck) (hs : ShortR r) (hw : WfR r) (hk : r.kind = 6) :
    Gives Tryz.prog 131 #[vdesc (.slice A ds.length c), vrule r (.slice Ab r.bytes.length cb) (.slice An r.names.length cn) (.slice At r.tags.length ct) (.slice Ak r.kids.length ck)] w (.bool ((!r.little || r.kind == 1) && kindOk ds r)) := by
  have eb := Ext_alloc (.cells #[.string r.nm, .int .i64 r.kind, .int .i64 r.size, .bool r.little, .slice Ab r.bytes.length cb, .slice An r.names.length cn, .slice At r.tags.length ct, .slice Ak r.kids.length ck] 97) (Ext_alloc (.cells #[.slice A ds.length c] 35) (Ext.refl w))
  have BX := fun w' (e : Ext ((w.alloc (.cells #[.slice A ds.length c] 35)).alloc (.cells #[.string r.nm, .int .i64 r.kind, .int .i64 r.size, .bool r.little, .slice Ab r.bytes.length cb, .slice An r.names.length cn, .slice At r.tags.length ct, .slice Ak r.kids.length ck] 97)) w') => boxed2 e
  have B0 := fun w' e => (BX w' e).1
  have B1 := fun w' e => (BX w' e).2.1
  clear BX
  have t1 : (r.kind == 1) = false := by rw [hk]; rfl
  have t2 : (r.kind == 2) = false := by rw [hk]; rfl
  have t3 : (r.kind == 3) = false := by rw [hk]; rfl
  have t4 : (r.kind == 4) = false := by rw [hk]; rfl
  have t5 : (r.kind == 5) = false := by rw [hk]; rfl
  have t6 : (r.kind == 6) = true := by rw [hk]; rfl
  have t7 : (r.kind == 7) = false := by rw [hk]; rfl
  have t8 : (r.kind == 8) = false := by rw [hk]; rfl
  have t9 : (r.kind == 9) = false := by rw [hk]; rfl
  have t10 : (r.kind == 10) = false := by rw [hk]; rfl
  have HV : Hid (((!r.little || r.kind == 1) && kindOk ds r) = ((plainB r false false true false (r.names.length : Int) && (!r.little || r.kind == 1)) && namesB r.names)) := by show _ = _; rw [seq_eq hk]; cases (!r.little || r.kind == 1) <;> simp
  rw [HV.out]
  have CP := Lib.hid (fun w => sShape0010_c r Ab cb An cn At ct Ak ck (r.names.length : Int) w h.lens)
  generalize (plainB r false false true false (r.names.length : Int) && (!r.little || r.kind == 1)) = p at *
  clear HV hk
  have CN := Lib.hid (fun w h => sNames_c An r.names cn w h hw.names)
  generalize namesB r.names = q at *
  have hln := h.n.len
  unfold vrule vdesc at *
  cases p
  · go_enter Tryz.func131, Tryz.ntmps131
    go_wp2_with fail
    refine (CP.out _).mono ?_; rintro _ w1 ⟨rfl, he1⟩
    go_wp2
    go_ret
    exact ⟨ret_bool (by simp), eb.trans he1⟩
  go_enter Tryz.func131, Tryz.ntmps131
  go_wp2_with fail
  refine (CP.out _).mono ?_; rintro _ w1 ⟨rfl, he1⟩
  go_wp2_with fail
  refine (CN.out _ (h.n.ext (eb.trans he1))).mono ?_; rintro _ w2 ⟨rfl, he2⟩
  go_wp2
  go_ret
  exact ⟨ret_bool (by simp), eb.trans (he1.trans he2)⟩
theorem cho_eq {ds : List DRule} {r : DRule} (hk : r.kind = 7) : kindOk ds r = (plainB r false false false true (-1) && tagsB ds r) := by
  have h1 : kindOk ds r = choOk ds r := by simp [kindOk, hk]
  rw [h1]
  unfold choOk tagsB plainB
  simp only [Bool.false_or, Bool.true_or, Bool.and_true]
  have e2 : decide ((r.tags.length : Int) + 1 < 0) = false := by simp; omega
  by_cases hl : r.kids.length = r.tags.length + 1
  · have e1 : decide ((r.kids.length : Int) = (r.tags.length : Int) + 1) = true := by simp; omega
    have e3 : (r.kids.length == r.tags.length + 1) = true := by simpa using hl
    rw [e1, e2, e3]; simp [Bool.and_assoc]
  · have e1 : decide ((r.kids.length : Int) = (r.tags.length : Int) + 1) = false := by simp; omega
    have e3 : (r.kids.length == r.tags.length + 1) = false := by simpa using hl
    rw [e1, e2, e3]; simp
set_option maxRecDepth 100000 in
set_option maxHeartbeats 4000000 in
theorem sKind7_c (A : Option Addr) (ds : List DRule) (c : Nat) (r : DRule) (Ab : Option Addr) (cb : Nat) (An : Option Addr) (cn : Nat) (At : Option Addr) (ct : Nat) (Ak : Option Addr) (ck : Nat) (w : World) (hd : RdD w A ds c) (h : RdS w r Ab cb An cn At ct Ak ck) (hs : ShortR r) (hw : WfR r) (hk : r.kind = 7) :
    Gives Tryz.prog 131 #[vdesc (.slice A ds.length c), vrule r (.slice Ab r.bytes.length cb) (.slice An r.names.length cn) (.slice At r.tags.length ct) (.slice Ak r.kids.length ck)] w (.bool ((!r.little || r.kind == 1) && kindOk ds r)) := by
  have eb := Ext_alloc (.cells #[.string r.nm, .int .i64 r.kind, .int .i64 r.size, .bool r.little, .slice Ab r.bytes.length cb, .slice An r.names.length cn, .slice At r.tags.length ct, .slice Ak r.kids.length ck] 97) (Ext_alloc (.cells #[.slice A ds.length c] 35) (Ext.refl w))
  have BX := fun w' (e : Ext ((w.alloc (.cells #[.slice A ds.length c] 35)).alloc (.cells #[.string r.nm, .int .i64 r.kind, .int .i64 r.size, .bool r.little, .slice Ab r.bytes.length cb, .slice An r.names.length cn, .slice At r.tags.length ct, .slice Ak r.kids.length ck] 97)) w') => boxed2 e
  have B0 := fun w' e => (BX w' e).1
  have B1 := fun w' e => (BX w' e).2.1
  clear BX
  have t1 : (r.kind == 1) = false := by rw [hk]; rfl
  have t2 : (r.kind == 2) = false := by rw [hk]; rfl
  have t3 : (r.kind == 3) = false := by rw [hk]; rfl
  have t4 : (r.kind == 4) = false := by rw [hk]; rfl
  have t5 : (r.kind == 5) = false := by rw [hk]; rfl
  have t6 : (r.kind == 6) = false := by rw [hk]; rfl
  have t7 : (r.kind == 7) = true := by rw [hk]; rfl
  have t8 : (r.kind == 8) = false := by rw [hk]; rfl
  have t9 : (r.kind == 9) = false := by rw [hk]; rfl
  have t10 : (r.kind == 10) = false := by rw [hk]; rfl
  have HV : Hid (((!r.little || r.kind == 1) && kindOk ds r) = ((plainB r false false false true (-1) && (!r.little || r.kind == 1)) && tagsB ds r)) := by show _ = _; rw [cho_eq hk]; cases (!r.little || r.kind == 1) <;> simp
  rw [HV.out]
  have CP := Lib.hid (fun w => sShape0001_c r Ab cb An cn At ct Ak ck (-1) w h.lens)
  generalize (plainB r false false false true (-1) && (!r.little || r.kind == 1)) = p at *
  clear HV hk
  have CN := Lib.hid (fun w hd h => sTags_c A ds c r Ab cb An cn At ct Ak ck w hd h hs)
  generalize tagsB ds r = q at *
  have hln := h.n.len
  unfold vrule vdesc at *
  cases p
  · go_enter Tryz.func131, Tryz.ntmps131
    go_wp2_with fail
    refine (CP.out _).mono ?_; rintro _ w1 ⟨rfl, he1⟩
    go_wp2
    go_ret
    exact ⟨ret_bool (by simp), eb.trans he1⟩
  go_enter Tryz.func131, Tryz.ntmps131
  go_wp2_with fail
  refine (CP.out _).mono ?_; rintro _ w1 ⟨rfl, he1⟩
  go_wp2_with fail
  refine (CN.out _ (hd.ext (eb.trans he1)) (h.ext (eb.trans he1))).mono ?_; rintro _ w2 ⟨rfl, he2⟩
  go_wp2
  go_ret
  exact ⟨ret_bool (by simp), eb.trans (he1.trans he2)⟩
set_option maxRecDepth 100000 in
set_option maxHeartbeats 4000000 in
theorem sKind8_c (A : Option Addr) (ds : List DRule) (c : Nat) (r : DRule) (Ab : Option Addr) (cb : Nat) (An : Option Addr) (cn : Nat) (At : Option Addr) (ct : Nat) (Ak : Option Addr) (ck : Nat) (w : World) (hd : RdD w A ds c) (h : RdS w r Ab cb An cn At ct Ak ck) (hs : ShortR r) (hw : WfR r) (hk : r.kind = 8) :
    Gives Tryz.prog 131 #[vdesc (.slice A ds.length c), vrule r (.slice Ab r.bytes.length cb) (.slice An r.names.length cn) (.slice At r.tags.length ct) (.slice Ak r.kids.length ck)] w (.bool ((!r.little || r.kind == 1) && kindOk ds r)) := by
  have eb := Ext_alloc (.cells #[.string r.nm, .int .i64 r.kind, .int .i64 r.size, .bool r.little, .slice Ab r.bytes.length cb, .slice An r.names.length cn, .slice At r.tags.length ct, .slice Ak r.kids.length ck] 97) (Ext_alloc (.cells #[.slice A ds.length c] 35) (Ext.refl w))
  have BX := fun w' (e : Ext ((w.alloc (.cells #[.slice A ds.length c] 35)).alloc (.cells #[.string r.nm, .int .i64 r.kind, .int .i64 r.size, .bool r.little, .slice Ab r.bytes.length cb, .slice An r.names.length cn, .slice At r.tags.length ct, .slice Ak r.kids.length ck] 97)) w') => boxed2 e
  have B0 := fun w' e => (BX w' e).1
  have B1 := fun w' e => (BX w' e).2.1
  clear BX
  have t1 : (r.kind == 1) = false := by rw [hk]; rfl
  have t2 : (r.kind == 2) = false := by rw [hk]; rfl
  have t3 : (r.kind == 3) = false := by rw [hk]; rfl
  have t4 : (r.kind == 4) = false := by rw [hk]; rfl
  have t5 : (r.kind == 5) = false := by rw [hk]; rfl
  have t6 : (r.kind == 6) = false := by rw [hk]; rfl
  have t7 : (r.kind == 7) = false := by rw [hk]; rfl
  have t8 : (r.kind == 8) = true := by rw [hk]; rfl
  have t9 : (r.kind == 9) = false := by rw [hk]; rfl
  have t10 : (r.kind == 10) = false := by rw [hk]; rfl
  have HV : Hid (((!r.little || r.kind == 1) && kindOk ds r) = (plainB r false false false false 1 && (!r.little || r.kind == 1))) := by show _ = _; simp [kindOk, hk]; rw [Bool.and_comm]
  rw [HV.out]
  have CP := Lib.hid (fun w => sShape0000_c r Ab cb An cn At ct Ak ck 1 w h.lens)
  generalize (plainB r false false false false 1 && (!r.little || r.kind == 1)) = p at *
  clear HV hk
  unfold vrule vdesc at *
  go_enter Tryz.func131, Tryz.ntmps131
  go_wp2_with fail
  refine (CP.out _).mono ?_; rintro _ w1 ⟨rfl, he1⟩
  go_wp2
  go_ret
  exact ⟨rfl, eb.trans he1⟩
set_option maxRecDepth 100000 in
set_option maxHeartbeats 4000000 in
theorem sKind9_c (A : Option Addr) (ds : List DRule) (c : Nat) (r : DRule) (Ab : Option Addr) (cb : Nat) (An : Option Addr) (cn : Nat) (At : Option Addr) (ct : Nat) (Ak : Option Addr) (ck : Nat) (w : World) (hd : RdD w A ds c) (h : RdS w r Ab cb An cn At ct Ak ck) (hs : ShortR r) (hw : WfR r) (hk : r.kind = 9) :
    Gives Tryz.prog 131 #[vdesc (.slice A ds.length c), vrule r (.slice Ab r.bytes.length cb) (.slice An r.names.length cn) (.slice At r.tags.length ct) (.slice Ak r.kids.length ck)] w (.bool ((!r.little || r.kind == 1) && kindOk ds r)) := by
  have eb := Ext_alloc (.cells #[.string r.nm, .int .i64 r.kind, .int .i64 r.size, .bool r.little, .slice Ab r.bytes.length cb, .slice An r.names.length cn, .slice At r.tags.length ct, .slice Ak r.kids.length ck] 97) (Ext_alloc (.cells #[.slice A ds.length c] 35) (Ext.refl w))
  have BX := fun w' (e : Ext ((w.alloc (.cells #[.slice A ds.length c] 35)).alloc (.cells #[.string r.nm, .int .i64 r.kind, .int .i64 r.size, .bool r.little, .slice Ab r.bytes.length cb, .slice An r.names.length cn, .slice At r.tags.length ct, .slice Ak r.kids.length ck] 97)) w') => boxed2 e
  have B0 := fun w' e => (BX w' e).1
  have B1 := fun w' e => (BX w' e).2.1
  clear BX
  have t1 : (r.kind == 1) = false := by rw [hk]; rfl
  have t2 : (r.kind == 2) = false := by rw [hk]; rfl
  have t3 : (r.kind == 3) = false := by rw [hk]; rfl
  have t4 : (r.kind == 4) = false := by rw [hk]; rfl
  have t5 : (r.kind == 5) = false := by rw [hk]; rfl
  have t6 : (r.kind == 6) = false := by rw [hk]; rfl
  have t7 : (r.kind == 7) = false := by rw [hk]; rfl
  have t8 : (r.kind == 8) = false := by rw [hk]; rfl
  have t9 : (r.kind == 9) = true := by rw [hk]; rfl
  have t10 : (r.kind == 10) = false := by rw [hk]; rfl
  have HV : Hid (((!r.little || r.kind == 1) && kindOk ds r) = (plainB r false false false false 1 && (!r.little || r.kind == 1))) := by show _ = _; simp [kindOk, hk]; rw [Bool.and_comm]
  rw [HV.out]
  have CP := Lib.hid (fun w => sShape0000_c r Ab cb An cn At ct Ak ck 1 w h.lens)
  generalize (plainB r false false false false 1 && (!r.little || r.kind == 1)) = p at *
  clear HV hk
  unfold vrule vdesc at *
  go_enter Tryz.func131, Tryz.ntmps131
  go_wp2_with fail
  refine (CP.out _).mono ?_; rintro _ w1 ⟨rfl, he1⟩
  go_wp2
  go_ret
  exact ⟨rfl, eb.trans he1⟩
set_option maxRecDepth 100000 in
set_option maxHeartbeats 4000000 in
theorem sKind10_c (A : Option Addr) (ds : List DRule) (c : Nat) (r : DRule) (Ab : Option Addr) (cb : Nat) (An : Option Addr) (cn : Nat) (At : Option Addr) (ct : Nat) (Ak : Option Addr) (ck : Nat) (w : World) (hd : RdD w A ds c) (h : RdS w r Ab cb An cn At ct Ak ck) (hs : ShortR r) (hw : WfR r) (hk : r.kind = 10) :
    Gives Tryz.prog 131 #[vdesc (.slice A ds.length c), vrule r (.slice Ab r.bytes.length cb) (.slice An r.names.length cn) (.slice At r.tags.length ct) (.slice Ak r.kids.length ck)] w (.bool ((!r.little || r.kind == 1) && kindOk ds r)) := by
  have eb := Ext_alloc (.cells #[.string r.nm, .int .i64 r.kind, .int .i64 r.size, .bool r.little, .slice Ab r.bytes.length cb, .slice An r.names.length cn, .slice At r.tags.length ct, .slice Ak r.kids.length ck] 97) (Ext_alloc (.cells #[.slice A ds.length c] 35) (Ext.refl w))
  have BX := fun w' (e : Ext ((w.alloc (.cells #[.slice A ds.length c] 35)).alloc (.cells #[.string r.nm, .int .i64 r.kind, .int .i64 r.size, .bool r.little, .slice Ab r.bytes.length cb, .slice An r.names.length cn, .slice At r.tags.length ct, .slice Ak r.kids.length ck] 97)) w') => boxed2 e
  have B0 := fun w' e => (BX w' e).1
  have B1 := fun w' e => (BX w' e).2.1
  clear BX
  have t1 : (r.kind == 1) = false := by rw [hk]; rfl
  have t2 : (r.kind == 2) = false := by rw [hk]; rfl
  have t3 : (r.kind == 3) = false := by rw [hk]; rfl
  have t4 : (r.kind == 4) = false := by rw [hk]; rfl
  have t5 : (r.kind == 5) = false := by rw [hk]; rfl
  have t6 : (r.kind == 6) = false := by rw [hk]; rfl
  have t7 : (r.kind == 7) = false := by rw [hk]; rfl
  have t8 : (r.kind == 8) = false := by rw [hk]; rfl
  have t9 : (r.kind == 9) = false := by rw [hk]; rfl
  have t10 : (r.kind == 10) = true := by rw [hk]; rfl
  have HV : Hid (((!r.little || r.kind == 1) && kindOk ds r) = ((plainB r false true false false 0 && (!r.little || r.kind == 1)) && (r.bytes.length == 1 && !(r.bytes.getD 0 0 == 92)))) := by
    have : kindOk ds r = (plainB r false true false false 0 && (r.bytes.length == 1 && !(r.bytes.getD 0 0 == 92))) := by simp [kindOk, hk, Bool.and_assoc]
    show _ = _; rw [this]; cases (!r.little || r.kind == 1) <;> simp
  rw [HV.out]
  have CP := Lib.hid (fun w => sShape0100_c r Ab cb An cn At ct Ak ck 0 w h.lens)
  generalize (plainB r false true false false 0 && (!r.little || r.kind == 1)) = p at *
  clear HV hk
  have h1 := h.b
  have hlb := h1.len
  unfold vrule vdesc at *
  cases p
  · go_enter Tryz.func131, Tryz.ntmps131
    go_wp2_with fail
    refine (CP.out _).mono ?_; rintro _ w1 ⟨rfl, he1⟩
    go_wp2
    go_ret
    exact ⟨ret_bool (by simp), eb.trans he1⟩
  by_cases hl : r.bytes.length = 1
  · have hk0 : 0 < r.bytes.length := by omega
    obtain ⟨bb, ob, rfl, hbb, hcb⟩ := h1.at 0 hk0
    have HG : Hid (r.bytes.getD 0 0 = r.bytes[0]) := by show _ = _; simp [List.getD_eq_getElem?_getD, List.getElem?_eq_getElem hk0]
    rw [HG.out]
    rw [Nat.add_zero] at hcb
    generalize r.bytes[0] = x at *
    have hck' := fun w' (e : Ext _ w') => hcb w' (eb.trans e)
    have l1 : ((r.bytes.length : Int) == 1) = true := by simp [hl]
    have HL : Hid ((r.bytes.length == 1) = true) := by show _ = _; simp [hl]
    rw [HL.out]
    have HX : Hid ((!(x == 92)) = ((x.toNat : Int) != 92)) := by
      show _ = _
      rw [bne]; congr 1
      rw [Bool.eq_iff_iff]; simp only [beq_iff_eq]
      constructor
      · rintro rfl; rfl
      · intro hx; exact u8_inj (by simpa using hx)
    rw [HX.out]
    clear hcb h1 h HG hl HL HX
    go_enter Tryz.func131, Tryz.ntmps131
    go_wp2_with fail
    refine (CP.out _).mono ?_; rintro _ w1 ⟨rfl, he1⟩
    go_wp2
    go_ret
    exact ⟨ret_bool (by simp), eb.trans he1⟩
  · have l1 : ((r.bytes.length : Int) == 1) = false := by simp; omega
    have HL : Hid ((r.bytes.length == 1) = false) := by show _ = _; simpa using hl
    rw [HL.out]
    clear hl HL
    go_enter Tryz.func131, Tryz.ntmps131
    go_wp2_with fail
    refine (CP.out _).mono ?_; rintro _ w1 ⟨rfl, he1⟩
    go_wp2
    go_ret
    exact ⟨ret_bool (by simp), eb.trans he1⟩
set_option maxRecDepth 100000 in
set_option maxHeartbeats 4000000 in
theorem sKindX_c (A : Option Addr) (ds : List DRule) (c : Nat) (r : DRule) (Ab : Option Addr) (cb : Nat) (An : Option Addr) (cn : Nat) (At : Option Addr) (ct : Nat) (Ak : Option Addr) (ck : Nat) (w : World) (hd : RdD w A ds c) (h : RdS w r Ab cb An cn At ct Ak ck) (hs : ShortR r) (hw : WfR r) (hk : r.kind < 1 ∨ 10 < r.kind) :
    Gives Tryz.prog 131 #[vdesc (.slice A ds.length c), vrule r (.slice Ab r.bytes.length cb) (.slice An r.names.length cn) (.slice At r.tags.length ct) (.slice Ak r.kids.length ck)] w (.bool ((!r.little || r.kind == 1) && kindOk ds r)) := by
  have eb := Ext_alloc (.cells #[.string r.nm, .int .i64 r.kind, .int .i64 r.size, .bool r.little, .slice Ab r.bytes.length cb, .slice An r.names.length cn, .slice At r.tags.length ct, .slice Ak r.kids.length ck] 97) (Ext_alloc (.cells #[.slice A ds.length c] 35) (Ext.refl w))
  have BX := fun w' (e : Ext ((w.alloc (.cells #[.slice A ds.length c] 35)).alloc (.cells #[.string r.nm, .int .i64 r.kind, .int .i64 r.size, .bool r.little, .slice Ab r.bytes.length cb, .slice An r.names.length cn, .slice At r.tags.length ct, .slice Ak r.kids.length ck] 97)) w') => boxed2 e
  have B0 := fun w' e => (BX w' e).1
  have B1 := fun w' e => (BX w' e).2.1
  clear BX
  have t1 : (r.kind == 1) = false := by simp; omega
  have t2 : (r.kind == 2) = false := by simp; omega
  have t3 : (r.kind == 3) = false := by simp; omega
  have t4 : (r.kind == 4) = false := by simp; omega
  have t5 : (r.kind == 5) = false := by simp; omega
  have t6 : (r.kind == 6) = false := by simp; omega
  have t7 : (r.kind == 7) = false := by simp; omega
  have t8 : (r.kind == 8) = false := by simp; omega
  have t9 : (r.kind == 9) = false := by simp; omega
  have t10 : (r.kind == 10) = false := by simp; omega
  have HV : Hid (((!r.little || r.kind == 1) && kindOk ds r) = false) := by
    show _ = _; unfold kindOk
    rw [if_neg (by omega), if_neg (by omega), if_neg (by omega), if_neg (by omega), if_neg (by omega), if_neg (by omega), if_neg (by omega), if_neg (by omega), if_neg (by omega), if_neg (by omega)]; simp
  rw [HV.out]
  clear HV hk
  unfold vrule vdesc at *
  go_enter Tryz.func131, Tryz.ntmps131
  go_wp2
  go_ret
  exact ⟨rfl, eb⟩
end Go.Proofs.YtjckcbfpejcpcaaGreatDoor

/- Kinds of rules, all together; a valid rule. -/
namespace Go.Proofs.YtjckcbfpejcpcaaGreatDoor
open Go.RowKit Go.Sort

theorem iKind_c (A : Option Addr) (ds : List DRule) (c : Nat) (r : DRule) (Ab : Option Addr) (cb : Nat) (An : Option Addr) (cn : Nat) (At : Option Addr) (ct : Nat) (Ak : Option Addr) (ck : Nat) (w : World) (hd : RdD w A ds c) (h : RdS w r Ab cb An cn At ct Ak ck) (hs : ShortR r) (hw : WfR r) :
    Gives Tryz.prog 138 #[vdesc (.slice A ds.length c), vrule r (.slice Ab r.bytes.length cb) (.slice An r.names.length cn) (.slice At r.tags.length ct) (.slice Ak r.kids.length ck)] w (.bool (kindOk ds r)) := by
  rcases (by omega : r.kind = 1 ∨ r.kind = 2 ∨ r.kind = 3 ∨ r.kind = 4 ∨ r.kind = 5 ∨ r.kind = 6 ∨ r.kind = 7 ∨ r.kind = 8 ∨ r.kind = 9 ∨ r.kind = 10 ∨ (r.kind < 1 ∨ 10 < r.kind)) with hk | hk | hk | hk | hk | hk | hk | hk | hk | hk | hk
  · exact iKind1_c A ds c r Ab cb An cn At ct Ak ck w hd h hs hw hk
  · exact iKind2_c A ds c r Ab cb An cn At ct Ak ck w hd h hs hw hk
  · exact iKind3_c A ds c r Ab cb An cn At ct Ak ck w hd h hs hw hk
  · exact iKind4_c A ds c r Ab cb An cn At ct Ak ck w hd h hs hw hk
  · exact iKind5_c A ds c r Ab cb An cn At ct Ak ck w hd h hs hw hk
  · exact iKind6_c A ds c r Ab cb An cn At ct Ak ck w hd h hs hw hk
  · exact iKind7_c A ds c r Ab cb An cn At ct Ak ck w hd h hs hw hk
  · exact iKind8_c A ds c r Ab cb An cn At ct Ak ck w hd h hs hw hk
  · exact iKind9_c A ds c r Ab cb An cn At ct Ak ck w hd h hs hw hk
  · exact iKind10_c A ds c r Ab cb An cn At ct Ak ck w hd h hs hw hk
  · exact iKindX_c A ds c r Ab cb An cn At ct Ak ck w hd h hs hw hk
theorem sKind_c (A : Option Addr) (ds : List DRule) (c : Nat) (r : DRule) (Ab : Option Addr) (cb : Nat) (An : Option Addr) (cn : Nat) (At : Option Addr) (ct : Nat) (Ak : Option Addr) (ck : Nat) (w : World) (hd : RdD w A ds c) (h : RdS w r Ab cb An cn At ct Ak ck) (hs : ShortR r) (hw : WfR r) :
    Gives Tryz.prog 131 #[vdesc (.slice A ds.length c), vrule r (.slice Ab r.bytes.length cb) (.slice An r.names.length cn) (.slice At r.tags.length ct) (.slice Ak r.kids.length ck)] w (.bool ((!r.little || r.kind == 1) && kindOk ds r)) := by
  rcases (by omega : r.kind = 1 ∨ r.kind = 2 ∨ r.kind = 3 ∨ r.kind = 4 ∨ r.kind = 5 ∨ r.kind = 6 ∨ r.kind = 7 ∨ r.kind = 8 ∨ r.kind = 9 ∨ r.kind = 10 ∨ (r.kind < 1 ∨ 10 < r.kind)) with hk | hk | hk | hk | hk | hk | hk | hk | hk | hk | hk
  · exact sKind1_c A ds c r Ab cb An cn At ct Ak ck w hd h hs hw hk
  · exact sKind2_c A ds c r Ab cb An cn At ct Ak ck w hd h hs hw hk
  · exact sKind3_c A ds c r Ab cb An cn At ct Ak ck w hd h hs hw hk
  · exact sKind4_c A ds c r Ab cb An cn At ct Ak ck w hd h hs hw hk
  · exact sKind5_c A ds c r Ab cb An cn At ct Ak ck w hd h hs hw hk
  · exact sKind6_c A ds c r Ab cb An cn At ct Ak ck w hd h hs hw hk
  · exact sKind7_c A ds c r Ab cb An cn At ct Ak ck w hd h hs hw hk
  · exact sKind8_c A ds c r Ab cb An cn At ct Ak ck w hd h hs hw hk
  · exact sKind9_c A ds c r Ab cb An cn At ct Ak ck w hd h hs hw hk
  · exact sKind10_c A ds c r Ab cb An cn At ct Ak ck w hd h hs hw hk
  · exact sKindX_c A ds c r Ab cb An cn At ct Ak ck w hd h hs hw hk
theorem freshNm_at {ds : List DRule} {r : DRule} {j : Nat} (h : j < ds.length) : freshNm ds r j = !(ds[j].nm.toList == r.nm.toList) := by unfold freshNm; rw [List.getElem?_eq_getElem h]
theorem kidOk_at {l : List Int} {i j : Nat} (h : j < l.length) : kidOk l i j = between l[j] 0 ((i : Int) - 1) := by unfold kidOk; rw [List.getElem?_eq_getElem h]
theorem ruleOk_at {ds : List DRule} {i : Nat} (h : i < ds.length) : ruleOk ds i = (isName ds[i].nm && (!ds[i].little || ds[i].kind == 1) && allN i (freshNm ds ds[i]) && allN ds[i].kids.length (kidOk ds[i].kids i) && kindOk ds ds[i]) := by unfold ruleOk; rw [List.getElem?_eq_getElem h]
end Go.Proofs.YtjckcbfpejcpcaaGreatDoor

/- Valid rules, descriptions and registries. -/
namespace Go.Proofs.YtjckcbfpejcpcaaGreatDoor
open Go.RowKit Go.Sort

set_option maxRecDepth 100000 in
set_option maxHeartbeats 8000000 in
theorem iRule_c (A : Option Addr) (ds : List DRule) (c : Nat) (i : Nat) (w : World) (hd : RdD w A ds c) (hi : i < ds.length) (hs : ShortD ds) (hw : WfD ds) :
    Gives Tryz.prog 126 #[vdesc (.slice A ds.length c), .int .i64 i] w (.bool (ruleOk ds i)) := by
  have hl := hd.len
  have hcap := hd.cap
  have eb := Ext_alloc (.cells #[.slice A ds.length c] 35) (Ext.refl w)
  have BX := fun w' (e : Ext (w.alloc (.cells #[.slice A ds.length c] 35)) w') => boxed e
  rw [ruleOk_at hi]
  obtain ⟨b, off, hA, hb, hall⟩ := hd.cells (by omega)
  have HALL := Lib.hid hall
  obtain ⟨Ab, cb, An, cn, At, ct, Ak, ck, hS, hRA⟩ := hall i hi
  clear hall
  have hsr := hs _ (List.getElem_mem hi); have hwr := hw _ (List.getElem_mem hi)
  have HF : Hid (∀ j (h : j < ds.length), freshNm ds ds[i] j = !(ds[j].nm.toList == ds[i].nm.toList)) := fun j h => freshNm_at h
  generalize ds[i] = r at *
  have HKO : Hid (∀ j (h : j < r.kids.length), kidOk r.kids i j = between r.kids[j] 0 ((i : Int) - 1)) := fun j h => kidOk_at h
  have CK := Lib.hid (fun w h h' => iKind_c A ds c r Ab cb An cn At ct Ak ck w h h' hsr hwr)
  have CN := Lib.hid (fun w => iIsName_c r.nm w hwr.nm)
  have HS := Lib.hid hS
  have hK := hS.k
  have hKl := hK.len
  generalize kindOk ds r = KO at *
  generalize isName r.nm = NM at *
  generalize freshNm ds r = FR at *
  have HSX : Hid (∀ w', Ext w w' → RdS w' r Ab cb An cn At ct Ak ck) := fun w' e => HS.out.ext e
  clear hS hsr hwr HS
  unfold vrule vdesc at *
  have CK' := Lib.hid (fun w' (e : Ext w w') => CK.out w' (hd.ext e) (HSX.out w' e))
  clear CK HSX
  replace hRA := hRA.ext eb
  obtain ⟨nm, kind, size, little, bytes, names, tags, kids⟩ := r
  obtain ⟨k0, k1, k2, k3, k4, k5, k6, k7⟩ := hRA
  dsimp only at *
  have hi1 : (i : Int) < (ds.length : Int) := by omega
  have hi0 : (0 : Int) ≤ (i : Int) := by omega
  have hic : (i : Int) ≤ (c : Int) := by omega
  have CI := Lib.hid (fun w => hasRule_c A ds.length c (i : Int) w hl)
  have HI : Hid ((decide ((0 : Int) ≤ (i : Int)) && decide ((i : Int) < (ds.length : Int))) = true) := by show _ = _; simp; omega
  rw [HI.out] at CI
  unfold vdesc at CI
  clear HI hd
  subst hA
  obtain ⟨kq, hkq⟩ : ∃ kq, (kind == 1) = kq := ⟨_, rfl⟩
  have hkn : (kind != 1) = !kq := by rw [bne, hkq]
  rw [hkq]
  cases NM
  · clear hkq hkn
    go_enter Tryz.func126, Tryz.ntmps126
    go_wp2_with fail
    refine (CI.out _).mono ?_; rintro _ w1 ⟨rfl, s1⟩
    have x1 := Ext_alloc (.cells #[.string nm, .int .i64 kind, .int .i64 size, .bool little, .slice Ab bytes.length cb, .slice An names.length cn, .slice At tags.length ct, .slice Ak kids.length ck] 97) (Ext.refl w1)
    have BR := fun w' (e : Ext (w1.alloc (.cells #[.string nm, .int .i64 kind, .int .i64 size, .bool little, .slice Ab bytes.length cb, .slice An names.length cn, .slice At tags.length ct, .slice Ak kids.length ck] 97)) w') => boxed e
    have e1 := s1.trans x1
    have eb1 := eb.trans e1
    go_wp2_with fail
    refine (CN.out _).mono ?_; rintro _ w2 ⟨rfl, s2⟩
    go_wp2
    go_ret
    exact ⟨ret_bool (by simp), eb1.trans s2⟩
  cases little
  · clear hkq hkn
    go_enter Tryz.func126, Tryz.ntmps126
    go_wp2_with fail
    refine (CI.out _).mono ?_; rintro _ w1 ⟨rfl, s1⟩
    have x1 := Ext_alloc (.cells #[.string nm, .int .i64 kind, .int .i64 size, .bool false, .slice Ab bytes.length cb, .slice An names.length cn, .slice At tags.length ct, .slice Ak kids.length ck] 97) (Ext.refl w1)
    have BR := fun w' (e : Ext (w1.alloc (.cells #[.string nm, .int .i64 kind, .int .i64 size, .bool false, .slice Ab bytes.length cb, .slice An names.length cn, .slice At tags.length ct, .slice Ak kids.length ck] 97)) w') => boxed e
    have e1 := s1.trans x1
    have eb1 := eb.trans e1
    go_wp2_with fail
    refine (CN.out _).mono ?_; rintro _ w2 ⟨rfl, s2⟩
    have hx2 := e1.trans s2
    go_wp2
    go_loopw [37] (fun q wr => ∃ k : Nat, k ≤ i ∧ q = .int .i64 k ∧ Hid (∀ j, j < k → FR j = true) ∧ Ext (w1.alloc (.cells #[.string nm, .int .i64 kind, .int .i64 size, .bool false, .slice Ab bytes.length cb, .slice An names.length cn, .slice At tags.length ct, .slice Ak kids.length ck] 97)) wr) (fun q _ => i - (intOf q).toNat)
    case atStart => exact ⟨0, by omega, rfl, (fun j hj => by omega), s2⟩
    case round =>
      clear hx2 s2
      obtain ⟨k, hk, rfl, ht, he⟩ := hrel
      have hx := e1.trans he
      by_cases hlt : k < i
      · have hkd : k < ds.length := by omega
        obtain ⟨Ab2, cb2, An2, cn2, At2, ct2, Ak2, ck2, _, hR2⟩ := HALL.out k hkd
        have HN := Lib.hid (HF.out k hkd)
        have NO : Hid (FR k = false → allN i FR = false) := fun hf => allN_no hlt hf
        have YES : Hid (FR k = true → ∀ j, j < k + 1 → FR j = true) := upTo ht.out
        generalize ds[k] = p at *
        obtain ⟨m0, m1, m2, m3, m4, m5, m6, m7⟩ := hR2.ext eb
        clear hR2 ht
        have hk1 : (k : Int) < (ds.length : Int) := by omega
        cases hq : (p.nm.toList == nm.toList)
        · have HE := Lib.hid (YES.out (HN.out.trans (by rw [hq]; rfl))); clear NO YES HN
          go_wp2
          go_roundw
          case rel => exact ⟨k+1, by omega, by go_num, HE.out, Ext_alloc _ he⟩
          case measure => simp [intOf]; omega
        · have HE := Lib.hid (NO.out (HN.out.trans (by rw [hq]; rfl))); clear NO YES HN
          go_wp2
          go_ret
          exact ⟨ret_bool (by rw [HE.out]; simp), eb1.trans (Ext_alloc _ he)⟩
      · have HE1 : Hid (allN i FR = true) := allN_yes (fun j hj => ht.out j (by omega))
        obtain ⟨wo, rfl⟩ : ∃ wo : World, wo = wr := ⟨_, rfl⟩
        clear ht HALL HF
        go_wp2
        go_loopw [50] (fun q wr => ∃ k : Nat, k ≤ kids.length ∧ q = .int .i64 k ∧ Hid (∀ j, j < k → kidOk kids i j = true) ∧ Ext (w1.alloc (.cells #[.string nm, .int .i64 kind, .int .i64 size, .bool false, .slice Ab bytes.length cb, .slice An names.length cn, .slice At tags.length ct, .slice Ak kids.length ck] 97)) wr) (fun q _ => kids.length - (intOf q).toNat)
        case atStart => exact ⟨0, by omega, rfl, (fun j hj => by omega), he⟩
        case round =>
          clear he hx
          obtain ⟨k, hk, rfl, ht, he⟩ := hrel
          have hx := e1.trans he
          by_cases hlt : k < kids.length
          · have HN := Lib.hid (HKO.out k hlt)
            have NO : Hid (kidOk kids i k = false → allN kids.length (kidOk kids i) = false) := fun hf => allN_no hlt hf
            have YES : Hid (kidOk kids i k = true → ∀ j, j < k + 1 → kidOk kids i j = true) := upTo ht.out
            obtain ⟨b2, off2, rfl, hb2, hc2⟩ := hK.at k hlt
            have hc3 := fun w' (e : Ext _ w') => hc2 w' (eb.trans e)
            clear hc2 ht
            generalize kids[k] = kid at *
            cases q1 : decide (kid < 0)
            · cases q2 : decide ((i : Int) ≤ kid)
              · have HE := Lib.hid (YES.out (HN.out.trans (by unfold between; simp at q1 q2 ⊢; omega))); clear NO YES HN
                go_wp2
                go_roundw
                case rel => exact ⟨k+1, by omega, by go_num, HE.out, he⟩
                case measure => simp [intOf]; omega
              · have HE := Lib.hid (NO.out (HN.out.trans (by unfold between; simp at q1 q2 ⊢; omega))); clear NO YES HN
                go_wp2
                go_ret
                exact ⟨ret_bool (by rw [HE.out]; simp), eb1.trans he⟩
            · have HE := Lib.hid (NO.out (HN.out.trans (by unfold between; simp at q1 ⊢; omega))); clear NO YES HN
              go_wp2
              go_ret
              exact ⟨ret_bool (by rw [HE.out]; simp), eb1.trans he⟩
          · have HE2 : Hid (allN kids.length (kidOk kids i) = true) := allN_yes (fun j hj => ht.out j (by omega))
            go_wp2_with fail
            refine (CK'.out _ (eb1.trans he)).mono ?_; rintro _ w8 ⟨rfl, s8⟩
            go_wp2
            go_ret
            exact ⟨ret_bool (by rw [HE1.out, HE2.out]; simp), eb1.trans (he.trans s8)⟩

  cases kq
  · go_enter Tryz.func126, Tryz.ntmps126
    go_wp2_with fail
    refine (CI.out _).mono ?_; rintro _ w1 ⟨rfl, s1⟩
    have x1 := Ext_alloc (.cells #[.string nm, .int .i64 kind, .int .i64 size, .bool true, .slice Ab bytes.length cb, .slice An names.length cn, .slice At tags.length ct, .slice Ak kids.length ck] 97) (Ext.refl w1)
    have BR := fun w' (e : Ext (w1.alloc (.cells #[.string nm, .int .i64 kind, .int .i64 size, .bool true, .slice Ab bytes.length cb, .slice An names.length cn, .slice At tags.length ct, .slice Ak kids.length ck] 97)) w') => boxed e
    have e1 := s1.trans x1
    have eb1 := eb.trans e1
    go_wp2_with fail
    refine (CN.out _).mono ?_; rintro _ w2 ⟨rfl, s2⟩
    go_wp2
    go_ret
    exact ⟨ret_bool (by simp), eb1.trans s2⟩
  go_enter Tryz.func126, Tryz.ntmps126
  go_wp2_with fail
  refine (CI.out _).mono ?_; rintro _ w1 ⟨rfl, s1⟩
  have x1 := Ext_alloc (.cells #[.string nm, .int .i64 kind, .int .i64 size, .bool true, .slice Ab bytes.length cb, .slice An names.length cn, .slice At tags.length ct, .slice Ak kids.length ck] 97) (Ext.refl w1)
  have BR := fun w' (e : Ext (w1.alloc (.cells #[.string nm, .int .i64 kind, .int .i64 size, .bool true, .slice Ab bytes.length cb, .slice An names.length cn, .slice At tags.length ct, .slice Ak kids.length ck] 97)) w') => boxed e
  have e1 := s1.trans x1
  have eb1 := eb.trans e1
  go_wp2_with fail
  refine (CN.out _).mono ?_; rintro _ w2 ⟨rfl, s2⟩
  have hx2 := e1.trans s2
  go_wp2
  go_loopw [37] (fun q wr => ∃ k : Nat, k ≤ i ∧ q = .int .i64 k ∧ Hid (∀ j, j < k → FR j = true) ∧ Ext (w1.alloc (.cells #[.string nm, .int .i64 kind, .int .i64 size, .bool true, .slice Ab bytes.length cb, .slice An names.length cn, .slice At tags.length ct, .slice Ak kids.length ck] 97)) wr) (fun q _ => i - (intOf q).toNat)
  case atStart => exact ⟨0, by omega, rfl, (fun j hj => by omega), s2⟩
  case round =>
    clear hx2 s2
    obtain ⟨k, hk, rfl, ht, he⟩ := hrel
    have hx := e1.trans he
    by_cases hlt : k < i
    · have hkd : k < ds.length := by omega
      obtain ⟨Ab2, cb2, An2, cn2, At2, ct2, Ak2, ck2, _, hR2⟩ := HALL.out k hkd
      have HN := Lib.hid (HF.out k hkd)
      have NO : Hid (FR k = false → allN i FR = false) := fun hf => allN_no hlt hf
      have YES : Hid (FR k = true → ∀ j, j < k + 1 → FR j = true) := upTo ht.out
      generalize ds[k] = p at *
      obtain ⟨m0, m1, m2, m3, m4, m5, m6, m7⟩ := hR2.ext eb
      clear hR2 ht
      have hk1 : (k : Int) < (ds.length : Int) := by omega
      cases hq : (p.nm.toList == nm.toList)
      · have HE := Lib.hid (YES.out (HN.out.trans (by rw [hq]; rfl))); clear NO YES HN
        go_wp2
        go_roundw
        case rel => exact ⟨k+1, by omega, by go_num, HE.out, Ext_alloc _ he⟩
        case measure => simp [intOf]; omega
      · have HE := Lib.hid (NO.out (HN.out.trans (by rw [hq]; rfl))); clear NO YES HN
        go_wp2
        go_ret
        exact ⟨ret_bool (by rw [HE.out]; simp), eb1.trans (Ext_alloc _ he)⟩
    · have HE1 : Hid (allN i FR = true) := allN_yes (fun j hj => ht.out j (by omega))
      obtain ⟨wo, rfl⟩ : ∃ wo : World, wo = wr := ⟨_, rfl⟩
      clear ht HALL HF
      go_wp2
      go_loopw [50] (fun q wr => ∃ k : Nat, k ≤ kids.length ∧ q = .int .i64 k ∧ Hid (∀ j, j < k → kidOk kids i j = true) ∧ Ext (w1.alloc (.cells #[.string nm, .int .i64 kind, .int .i64 size, .bool true, .slice Ab bytes.length cb, .slice An names.length cn, .slice At tags.length ct, .slice Ak kids.length ck] 97)) wr) (fun q _ => kids.length - (intOf q).toNat)
      case atStart => exact ⟨0, by omega, rfl, (fun j hj => by omega), he⟩
      case round =>
        clear he hx
        obtain ⟨k, hk, rfl, ht, he⟩ := hrel
        have hx := e1.trans he
        by_cases hlt : k < kids.length
        · have HN := Lib.hid (HKO.out k hlt)
          have NO : Hid (kidOk kids i k = false → allN kids.length (kidOk kids i) = false) := fun hf => allN_no hlt hf
          have YES : Hid (kidOk kids i k = true → ∀ j, j < k + 1 → kidOk kids i j = true) := upTo ht.out
          obtain ⟨b2, off2, rfl, hb2, hc2⟩ := hK.at k hlt
          have hc3 := fun w' (e : Ext _ w') => hc2 w' (eb.trans e)
          clear hc2 ht
          generalize kids[k] = kid at *
          cases q1 : decide (kid < 0)
          · cases q2 : decide ((i : Int) ≤ kid)
            · have HE := Lib.hid (YES.out (HN.out.trans (by unfold between; simp at q1 q2 ⊢; omega))); clear NO YES HN
              go_wp2
              go_roundw
              case rel => exact ⟨k+1, by omega, by go_num, HE.out, he⟩
              case measure => simp [intOf]; omega
            · have HE := Lib.hid (NO.out (HN.out.trans (by unfold between; simp at q1 q2 ⊢; omega))); clear NO YES HN
              go_wp2
              go_ret
              exact ⟨ret_bool (by rw [HE.out]; simp), eb1.trans he⟩
          · have HE := Lib.hid (NO.out (HN.out.trans (by unfold between; simp at q1 ⊢; omega))); clear NO YES HN
            go_wp2
            go_ret
            exact ⟨ret_bool (by rw [HE.out]; simp), eb1.trans he⟩
        · have HE2 : Hid (allN kids.length (kidOk kids i) = true) := allN_yes (fun j hj => ht.out j (by omega))
          go_wp2_with fail
          refine (CK'.out _ (eb1.trans he)).mono ?_; rintro _ w8 ⟨rfl, s8⟩
          go_wp2
          go_ret
          exact ⟨ret_bool (by rw [HE1.out, HE2.out]; simp), eb1.trans (he.trans s8)⟩

set_option maxRecDepth 100000 in
set_option maxHeartbeats 8000000 in
theorem sRule_c (A : Option Addr) (ds : List DRule) (c : Nat) (i : Nat) (w : World) (hd : RdD w A ds c) (hi : i < ds.length) (hs : ShortD ds) (hw : WfD ds) :
    Gives Tryz.prog 113 #[vdesc (.slice A ds.length c), .int .i64 i] w (.bool (ruleOk ds i)) := by
  have hl := hd.len
  have hcap := hd.cap
  have eb := Ext_alloc (.cells #[.slice A ds.length c] 35) (Ext.refl w)
  have BX := fun w' (e : Ext (w.alloc (.cells #[.slice A ds.length c] 35)) w') => boxed e
  rw [ruleOk_at hi]
  obtain ⟨b, off, hA, hb, hall⟩ := hd.cells (by omega)
  have HALL := Lib.hid hall
  obtain ⟨Ab, cb, An, cn, At, ct, Ak, ck, hS, hRA⟩ := hall i hi
  clear hall
  have hsr := hs _ (List.getElem_mem hi); have hwr := hw _ (List.getElem_mem hi)
  have HF : Hid (∀ j (h : j < ds.length), freshNm ds ds[i] j = !(ds[j].nm.toList == ds[i].nm.toList)) := fun j h => freshNm_at h
  generalize ds[i] = r at *
  have HKO : Hid (∀ j (h : j < r.kids.length), kidOk r.kids i j = between r.kids[j] 0 ((i : Int) - 1)) := fun j h => kidOk_at h
  have CK := Lib.hid (fun w h h' => sKind_c A ds c r Ab cb An cn At ct Ak ck w h h' hsr hwr)
  have CN := Lib.hid (fun w => sIsName_c r.nm w hwr.nm)
  have HS := Lib.hid hS
  have hK := hS.k
  have hKl := hK.len
  generalize kindOk ds r = KO at *
  generalize isName r.nm = NM at *
  generalize freshNm ds r = FR at *
  have HSX : Hid (∀ w', Ext w w' → RdS w' r Ab cb An cn At ct Ak ck) := fun w' e => HS.out.ext e
  clear hS hsr hwr HS
  unfold vrule vdesc at *
  have CK' := Lib.hid (fun w' (e : Ext w w') => CK.out w' (hd.ext e) (HSX.out w' e))
  clear CK HSX
  replace hRA := hRA.ext eb
  obtain ⟨nm, kind, size, little, bytes, names, tags, kids⟩ := r
  obtain ⟨k0, k1, k2, k3, k4, k5, k6, k7⟩ := hRA
  dsimp only at *
  have hi1 : (i : Int) < (ds.length : Int) := by omega
  have hi0 : (0 : Int) ≤ (i : Int) := by omega
  have hic : (i : Int) ≤ (c : Int) := by omega
  have CI := Lib.hid (fun w => l1In_c (i : Int) 0 ((ds.length : Int) - 1) w)
  have HI : Hid ((decide ((0 : Int) ≤ (i : Int)) && decide ((i : Int) ≤ (ds.length : Int) - 1)) = true) := by show _ = _; simp; omega
  rw [HI.out] at CI
  clear HI hd
  subst hA
  go_enter Tryz.func113, Tryz.ntmps113
  go_wp2_with fail
  refine (CI.out _).mono ?_; rintro _ w1 ⟨rfl, s1⟩
  have x1 := Ext_alloc (.cells #[.string nm, .int .i64 kind, .int .i64 size, .bool little, .slice Ab bytes.length cb, .slice An names.length cn, .slice At tags.length ct, .slice Ak kids.length ck] 97) (Ext.refl w1)
  have BR := fun w' (e : Ext (w1.alloc (.cells #[.string nm, .int .i64 kind, .int .i64 size, .bool little, .slice Ab bytes.length cb, .slice An names.length cn, .slice At tags.length ct, .slice Ak kids.length ck] 97)) w') => boxed e
  have e1 := s1.trans x1
  have eb1 := eb.trans e1
  go_wp2
  go_loopw [6] (fun q wr => ∃ k : Nat, k ≤ i ∧ q = .int .i64 k ∧ Hid (∀ j, j < k → FR j = true) ∧ Ext (w1.alloc (.cells #[.string nm, .int .i64 kind, .int .i64 size, .bool little, .slice Ab bytes.length cb, .slice An names.length cn, .slice At tags.length ct, .slice Ak kids.length ck] 97)) wr) (fun q _ => i - (intOf q).toNat)
  case atStart => exact ⟨0, by omega, rfl, (fun j hj => by omega), Ext.refl _⟩
  case round =>
    skip
    obtain ⟨k, hk, rfl, ht, he⟩ := hrel
    have hx := e1.trans he
    by_cases hlt : k < i
    · have hkd : k < ds.length := by omega
      obtain ⟨Ab2, cb2, An2, cn2, At2, ct2, Ak2, ck2, _, hR2⟩ := HALL.out k hkd
      have HN := Lib.hid (HF.out k hkd)
      have NO : Hid (FR k = false → allN i FR = false) := fun hf => allN_no hlt hf
      have YES : Hid (FR k = true → ∀ j, j < k + 1 → FR j = true) := upTo ht.out
      generalize ds[k] = p at *
      obtain ⟨m0, m1, m2, m3, m4, m5, m6, m7⟩ := hR2.ext eb
      clear hR2 ht
      have hk1 : (k : Int) < (ds.length : Int) := by omega
      cases hq : (p.nm.toList == nm.toList)
      · have HE := Lib.hid (YES.out (HN.out.trans (by rw [hq]; rfl))); clear NO YES HN
        go_wp2_with fail
        refine wp_region_quiet_below (by kernel_rfl) (by kernel_rfl) ?_
        repeat (go_big_quiet_step (fail))
        refine wpQuiet_nil ?_
        rintro w5 ⟨⟨nq, osq⟩, hq⟩
        have ew5 := ext_of_q hq
        clear hq nq osq
        go_wp2
        go_roundw
        case rel => exact ⟨k+1, by omega, by go_num, HE.out, he.trans ew5⟩
        case measure => simp [intOf]; omega
      · have HE := Lib.hid (NO.out (HN.out.trans (by rw [hq]; rfl))); clear NO YES HN
        go_wp2_with fail
        refine wp_region_quiet_below (by kernel_rfl) (by kernel_rfl) ?_
        repeat (go_big_quiet_step (fail))
        refine wpQuiet_nil ?_
        rintro w5 ⟨⟨nq, osq⟩, hq⟩
        have ew5 := ext_of_q hq
        clear hq nq osq
        go_wp2
        go_ret
        exact ⟨ret_bool (by rw [HE.out]; simp), eb1.trans (he.trans ew5)⟩
    · have HE1 : Hid (allN i FR = true) := allN_yes (fun j hj => ht.out j (by omega))
      obtain ⟨wo, rfl⟩ : ∃ wo : World, wo = wr := ⟨_, rfl⟩
      clear ht HALL HF
      go_wp2
      go_loopw [7] (fun q wr => ∃ k : Nat, k ≤ kids.length ∧ q = .int .i64 k ∧ Hid (∀ j, j < k → kidOk kids i j = true) ∧ Ext (w1.alloc (.cells #[.string nm, .int .i64 kind, .int .i64 size, .bool little, .slice Ab bytes.length cb, .slice An names.length cn, .slice At tags.length ct, .slice Ak kids.length ck] 97)) wr) (fun q _ => kids.length - (intOf q).toNat)
      case atStart => exact ⟨0, by omega, rfl, (fun j hj => by omega), he⟩
      case round =>
        clear he hx
        obtain ⟨k, hk, rfl, ht, he⟩ := hrel
        have hx := e1.trans he
        by_cases hlt : k < kids.length
        · have HN := Lib.hid (HKO.out k hlt)
          have NO : Hid (kidOk kids i k = false → allN kids.length (kidOk kids i) = false) := fun hf => allN_no hlt hf
          have YES : Hid (kidOk kids i k = true → ∀ j, j < k + 1 → kidOk kids i j = true) := upTo ht.out
          obtain ⟨b2, off2, rfl, hb2, hc2⟩ := hK.at k hlt
          have hc3 := fun w' (e : Ext _ w') => hc2 w' (eb.trans e)
          clear hc2 ht
          generalize kids[k] = kid at *
          have CB := Lib.hid (fun w => l1In_c kid 0 ((i : Int) - 1) w)
          have HB : Hid (between kid 0 ((i : Int) - 1) = (decide ((0 : Int) ≤ kid) && decide (kid ≤ (i : Int) - 1))) := rfl
          rw [← HB.out] at CB
          clear HB
          generalize between kid 0 ((i : Int) - 1) = q1 at *
          cases q1
          · have HE := Lib.hid (NO.out HN.out); clear NO YES HN
            go_wp2_with fail
            refine (CB.out _).mono ?_; rintro _ w6 ⟨rfl, s6⟩
            go_wp2
            go_ret
            exact ⟨ret_bool (by rw [HE.out]; simp), eb1.trans (he.trans s6)⟩
          · have HE := Lib.hid (YES.out HN.out); clear NO YES HN
            go_wp2_with fail
            refine (CB.out _).mono ?_; rintro _ w6 ⟨rfl, s6⟩
            go_wp2
            go_roundw
            case rel => exact ⟨k+1, by omega, by go_num, HE.out, he.trans s6⟩
            case measure => simp [intOf]; omega
        · have HE2 : Hid (allN kids.length (kidOk kids i) = true) := allN_yes (fun j hj => ht.out j (by omega))
          cases NM
          · go_wp2_with fail
            refine (CN.out _).mono ?_; rintro _ w7 ⟨rfl, s7⟩
            go_wp2
            go_ret
            exact ⟨ret_bool (by simp), eb1.trans (he.trans s7)⟩
          · go_wp2_with fail
            refine (CN.out _).mono ?_; rintro _ w7 ⟨rfl, s7⟩
            have e7 := he.trans s7
            have hx7 := hx.trans s7
            go_wp2_with fail
            refine (CK'.out _ (eb1.trans e7)).mono ?_; rintro _ w8 ⟨rfl, s8⟩
            go_wp2
            go_ret
            exact ⟨ret_bool (by rw [HE1.out, HE2.out]; simp), eb1.trans (e7.trans s8)⟩

set_option maxRecDepth 100000 in
set_option maxHeartbeats 4000000 in
theorem iValidDesc_c (A : Option Addr) (ds : List DRule) (c : Nat) (w : World) (hd : RdD w A ds c) (hs : ShortD ds) (hw : WfD ds) :
    Gives Tryz.prog 95 #[vdesc (.slice A ds.length c)] w (.bool (descOk ds)) := by
  have hl := hd.len
  have eb := Ext_alloc (.cells #[.slice A ds.length c] 35) (Ext.refl w)
  have BX := fun w' (e : Ext (w.alloc (.cells #[.slice A ds.length c] 35)) w') => boxed e
  have CI := Lib.hid (fun w => iInRange_c (ds.length : Int) 1 24 w)
  have CR := Lib.hid (fun i w h hi => iRule_c A ds c i w h hi hs hw)
  have HB : Hid (between ds.length 1 24 = (decide ((1 : Int) ≤ (ds.length : Int)) && decide ((ds.length : Int) ≤ 24))) := rfl
  rw [← HB.out] at CI
  unfold descOk
  clear HB
  generalize between ds.length 1 24 = p at *
  unfold vdesc at *
  cases p
  · go_enter Tryz.func95, Tryz.ntmps95
    go_wp2_with fail
    refine (CI.out _).mono ?_; rintro _ w5 ⟨rfl, s5⟩
    go_wp2
    go_ret
    exact ⟨ret_bool (by simp), eb.trans s5⟩
  · go_enter Tryz.func95, Tryz.ntmps95
    go_wp2_with fail
    refine (CI.out _).mono ?_; rintro _ w5 ⟨rfl, s5⟩
    go_wp2
    go_loopw [12] (fun q wr => ∃ k : Nat, k ≤ ds.length ∧ q = .int .i64 k ∧ Hid (∀ j, j < k → ruleOk ds j = true) ∧ Ext (w.alloc (.cells #[.slice A ds.length c] 35)) wr) (fun q _ => ds.length - (intOf q).toNat)
    case atStart => exact ⟨0, by omega, rfl, (fun j hj => by omega), s5⟩
    case round =>
      clear s5
      obtain ⟨k, hk, rfl, ht, he⟩ := hrel
      by_cases hlt : k < ds.length
      · have C := Lib.hid (fun w h => CR.out k w h hlt)
        have NO : Hid (ruleOk ds k = false → allN ds.length (ruleOk ds) = false) := fun hf => allN_no hlt hf
        have YES : Hid (ruleOk ds k = true → ∀ j, j < k + 1 → ruleOk ds j = true) := upTo ht.out
        generalize ruleOk ds k = q at *
        clear ht
        cases q
        · have HE := Lib.hid (NO.out rfl); clear NO YES
          go_wp2_with fail
          refine (C.out _ (hd.ext (eb.trans he))).mono ?_; rintro _ w4 ⟨rfl, s4⟩
          go_wp2
          go_ret
          exact ⟨ret_bool (by rw [HE.out]; simp), eb.trans (he.trans s4)⟩
        · have HE := Lib.hid (YES.out rfl); clear NO YES
          go_wp2_with fail
          refine (C.out _ (hd.ext (eb.trans he))).mono ?_; rintro _ w4 ⟨rfl, s4⟩
          go_wp2
          go_roundw
          case rel => exact ⟨k+1, by omega, by go_num, HE.out, he.trans s4⟩
          case measure => simp [intOf]; omega
      · have HE : Hid (allN ds.length (ruleOk ds) = true) := allN_yes (fun j hj => ht.out j (by omega))
        go_wp2
        go_ret
        exact ⟨ret_bool (by rw [HE.out]; simp), eb.trans he⟩
set_option maxRecDepth 100000 in
set_option maxHeartbeats 4000000 in
theorem sValidDesc_c (A : Option Addr) (ds : List DRule) (c : Nat) (w : World) (hd : RdD w A ds c) (hs : ShortD ds) (hw : WfD ds) :
    Gives Tryz.prog 81 #[vdesc (.slice A ds.length c)] w (.bool (descOk ds)) := by
  have hl := hd.len
  have eb := Ext_alloc (.cells #[.slice A ds.length c] 35) (Ext.refl w)
  have BX := fun w' (e : Ext (w.alloc (.cells #[.slice A ds.length c] 35)) w') => boxed e
  have CI := Lib.hid (fun w => l1In_c (ds.length : Int) 1 24 w)
  have CR := Lib.hid (fun i w h hi => sRule_c A ds c i w h hi hs hw)
  have HB : Hid (between ds.length 1 24 = (decide ((1 : Int) ≤ (ds.length : Int)) && decide ((ds.length : Int) ≤ 24))) := rfl
  rw [← HB.out] at CI
  unfold descOk
  clear HB
  generalize between ds.length 1 24 = p at *
  unfold vdesc at *
  go_enter Tryz.func81, Tryz.ntmps81
  go_wp2
  go_loopw [3] (fun q wr => ∃ k : Nat, k ≤ ds.length ∧ q = .int .i64 k ∧ Hid (∀ j, j < k → ruleOk ds j = true) ∧ Ext (w.alloc (.cells #[.slice A ds.length c] 35)) wr) (fun q _ => ds.length - (intOf q).toNat)
  case atStart => exact ⟨0, by omega, rfl, (fun j hj => by omega), Ext.refl _⟩
  case round =>
    obtain ⟨k, hk, rfl, ht, he⟩ := hrel
    by_cases hlt : k < ds.length
    · have C := Lib.hid (fun w h => CR.out k w h hlt)
      have NO : Hid (ruleOk ds k = false → allN ds.length (ruleOk ds) = false) := fun hf => allN_no hlt hf
      have YES : Hid (ruleOk ds k = true → ∀ j, j < k + 1 → ruleOk ds j = true) := upTo ht.out
      generalize ruleOk ds k = q at *
      clear ht
      cases q
      · have HE := Lib.hid (NO.out rfl); clear NO YES
        go_wp2_with fail
        refine (C.out _ (hd.ext (eb.trans he))).mono ?_; rintro _ w4 ⟨rfl, s4⟩
        go_wp2
        go_ret
        exact ⟨ret_bool (by rw [HE.out]; simp), eb.trans (he.trans s4)⟩
      · have HE := Lib.hid (YES.out rfl); clear NO YES
        go_wp2_with fail
        refine (C.out _ (hd.ext (eb.trans he))).mono ?_; rintro _ w4 ⟨rfl, s4⟩
        go_wp2
        go_roundw
        case rel => exact ⟨k+1, by omega, by go_num, HE.out, he.trans s4⟩
        case measure => simp [intOf]; omega
    · have HE : Hid (allN ds.length (ruleOk ds) = true) := allN_yes (fun j hj => ht.out j (by omega))
      go_wp2_with fail
      refine (CI.out _).mono ?_; rintro _ w5 ⟨rfl, s5⟩
      go_wp2
      go_ret
      exact ⟨ret_bool (by rw [HE.out]; simp), eb.trans (he.trans s5)⟩
theorem regOk_at {gs : List (List DRule)} {k : Nat} (h : k < gs.length) : (match gs[k]? with | some d => descOk d | none => true) = descOk gs[k] := by rw [List.getElem?_eq_getElem h]
def regF (gs : List (List DRule)) (i : Nat) : Bool := match gs[i]? with | some d => descOk d | none => true
end Go.Proofs.YtjckcbfpejcpcaaGreatDoor

/- LostNames of the program and of the reference. -/
namespace Go.Proofs.YtjckcbfpejcpcaaGreatDoor
open Go.RowKit Go.Sort

def knownB (ds : List DRule) (i : Int) : Bool := descOk ds && (decide (0 ≤ i) && decide (i < ds.length))
set_option maxHeartbeats 1000000 in
theorem iKnown_c (A : Option Addr) (ds : List DRule) (c : Nat) (i : Int) (w : World) (hd : RdD w A ds c) (hs : ShortD ds) (hw : WfD ds) :
    Gives Tryz.prog 65 #[vdesc (.slice A ds.length c), .int .i64 i] w (.bool (knownB ds i)) := by
  have hl := hd.len
  have eb := Ext_alloc (.cells #[.slice A ds.length c] 35) (Ext.refl w)
  have BX := fun w' (e : Ext (w.alloc (.cells #[.slice A ds.length c] 35)) w') => boxed e
  have CV := Lib.hid (fun w h => iValidDesc_c A ds c w h hs hw)
  have CH := Lib.hid (fun w => hasRule_c A ds.length c i w hl)
  unfold knownB
  unfold vdesc at *
  generalize descOk ds = p at *
  generalize (decide (0 ≤ i) && decide (i < (ds.length : Int))) = q at *
  cases p
  · go_enter Tryz.func65, Tryz.ntmps65
    go_wp2_with fail
    refine (CV.out _ (hd.ext eb)).mono ?_; rintro _ w1 ⟨rfl, e1⟩
    go_wp2
    go_ret
    exact ⟨ret_bool (by simp), eb.trans e1⟩
  · go_enter Tryz.func65, Tryz.ntmps65
    go_wp2_with fail
    refine (CV.out _ (hd.ext eb)).mono ?_; rintro _ w1 ⟨rfl, e1⟩
    go_wp2_with fail
    refine (CH.out _).mono ?_; rintro _ w2 ⟨rfl, e2⟩
    go_wp2
    go_ret
    exact ⟨ret_bool (by simp), eb.trans (e1.trans e2)⟩
set_option maxHeartbeats 1000000 in
theorem sKnown_c (A : Option Addr) (ds : List DRule) (c : Nat) (i : Int) (w : World) (hd : RdD w A ds c) (hs : ShortD ds) (hw : WfD ds) :
    Gives Tryz.prog 50 #[vdesc (.slice A ds.length c), .int .i64 i] w (.bool (knownB ds i)) := by
  have hl := hd.len
  have eb := Ext_alloc (.cells #[.slice A ds.length c] 35) (Ext.refl w)
  have BX := fun w' (e : Ext (w.alloc (.cells #[.slice A ds.length c] 35)) w') => boxed e
  have CV := Lib.hid (fun w h => sValidDesc_c A ds c w h hs hw)
  have CH := Lib.hid (fun w => l1In_c i 0 ((ds.length : Int) - 1) w)
  have HQ : Hid ((decide (0 ≤ i) && decide (i < (ds.length : Int))) = (decide (0 ≤ i) && decide (i ≤ (ds.length : Int) - 1))) := by
    show _ = _; congr 1; rw [Bool.eq_iff_iff]; simp; omega
  unfold knownB
  rw [HQ.out]
  clear HQ
  unfold vdesc at *
  generalize descOk ds = p at *
  generalize (decide (0 ≤ i) && decide (i ≤ (ds.length : Int) - 1)) = q at *
  cases q
  · go_enter Tryz.func50, Tryz.ntmps50
    go_wp2_with fail
    refine (CH.out _).mono ?_; rintro _ w1 ⟨rfl, e1⟩
    go_wp2
    go_ret
    exact ⟨ret_bool (by simp), eb.trans e1⟩
  · go_enter Tryz.func50, Tryz.ntmps50
    go_wp2_with fail
    refine (CH.out _).mono ?_; rintro _ w1 ⟨rfl, e1⟩
    go_wp2_with fail
    refine (CV.out _ (hd.ext (eb.trans e1))).mono ?_; rintro _ w2 ⟨rfl, e2⟩
    go_wp2
    go_ret
    exact ⟨ret_bool (by simp), eb.trans (e1.trans e2)⟩
end Go.Proofs.YtjckcbfpejcpcaaGreatDoor

/- Extension of one description by another one, as a plain function of the rules. -/
namespace Go.Proofs.YtjckcbfpejcpcaaGreatDoor

theorem allN_congr {n : Nat} {f g : Nat → Bool} (h : ∀ k, k < n → f k = g k) : allN n f = allN n g := by
  cases hg : allN n g
  · cases hf : allN n f
    · rfl
    · have : allN n g = true := allN_yes fun j hj => by rw [← h j hj]; exact allN_at hf hj
      rw [hg] at this; cases this
  · exact allN_yes fun j hj => by rw [h j hj]; exact allN_at hg hj
/-- what a valid rule has, by its kind -/
structure RuleFacts (r : DRule) : Prop where
  kind : 1 ≤ r.kind ∧ r.kind ≤ 10
  plain : r.kind = 1 ∨ r.kind = 2 ∨ r.kind = 3 ∨ r.kind = 10 → r.names = [] ∧ r.kids = []
  parts : r.kind = 4 ∨ r.kind = 5 ∨ r.kind = 6 ∨ r.kind = 7 ∨ r.kind = 8 ∨ r.kind = 9 → r.size = 0 ∧ r.little = false ∧ r.bytes = []
  cho : r.kind = 7 → r.kids.length = r.tags.length + 1 ∧ r.names = []
theorem plainB_facts {r : DRule} {s b n t : Bool} {k : Int} (h : plainB r s b n t k = true) : (s = false → r.size = 0) ∧ (b = false → r.bytes = []) ∧ (n = false → r.names = []) ∧ (0 ≤ k → (r.kids.length : Int) = k) := by
  unfold plainB at h
  simp only [Bool.and_eq_true, Bool.or_eq_true, beq_iff_eq, decide_eq_true_eq, List.length_eq_zero_iff] at h
  obtain ⟨⟨⟨⟨h1, h2⟩, h3⟩, h4⟩, h5⟩ := h
  refine ⟨fun e => ?_, fun e => ?_, fun e => ?_, fun e => by omega⟩
  · rw [e] at h1; simpa using h1
  · rw [e] at h2; simpa using h2
  · rw [e] at h3; simpa using h3
theorem ruleKind {ds : List DRule} (h : descOk ds = true) (i : Nat) (hi : i < ds.length) : kindOk ds ds[i] = true := by
  unfold descOk at h
  rw [Bool.and_eq_true] at h
  have h1 := allN_at h.2 hi
  unfold ruleOk at h1
  rw [List.getElem?_eq_getElem hi] at h1
  simp only [Bool.and_eq_true] at h1
  exact h1.2
theorem ruleFacts {ds : List DRule} (h : descOk ds = true) (i : Nat) (hi : i < ds.length) : RuleFacts ds[i] := by
  unfold descOk at h
  rw [Bool.and_eq_true] at h
  have h1 := allN_at h.2 hi
  unfold ruleOk at h1
  rw [List.getElem?_eq_getElem hi] at h1
  simp only [Bool.and_eq_true] at h1
  have hk := h1.2
  have hlit := h1.1.1.1.2
  generalize ds[i] = r at *
  have hl : r.kind ≠ 1 → r.little = false := by
    intro hne
    cases hq : r.little
    · rfl
    · rw [hq] at hlit; simp at hlit; exact absurd hlit hne
  unfold kindOk at hk
  have NO : ∀ {p : Prop} {k k' : Int}, k ≠ k' → r.kind = k → r.kind = k' → p := fun hne e1 e2 => absurd (e1.symm.trans e2) hne
  split at hk
  · rename_i e
    simp only [Bool.and_eq_true] at hk
    have f := plainB_facts hk.1.1
    exact ⟨by omega, fun _ => ⟨f.2.2.1 rfl, by have := f.2.2.2 (by omega); simpa using this⟩, fun h => by omega, fun h => by omega⟩
  split at hk
  · rename_i e
    simp only [Bool.and_eq_true] at hk
    have f := plainB_facts hk.1
    exact ⟨by omega, fun _ => ⟨f.2.2.1 rfl, by have := f.2.2.2 (by omega); simpa using this⟩, fun h => by omega, fun h => by omega⟩
  split at hk
  · rename_i e
    simp only [Bool.and_eq_true] at hk
    have f := plainB_facts hk.1
    exact ⟨by omega, fun _ => ⟨f.2.2.1 rfl, by have := f.2.2.2 (by omega); simpa using this⟩, fun h => by omega, fun h => by omega⟩
  split at hk
  · rename_i e
    simp only [Bool.and_eq_true] at hk
    have f := plainB_facts hk.1
    exact ⟨by omega, fun h => by omega, fun _ => ⟨f.1 rfl, hl (by omega), f.2.1 rfl⟩, fun h => by omega⟩
  split at hk
  · rename_i e
    simp only [Bool.and_eq_true] at hk
    have f := plainB_facts hk.1
    exact ⟨by omega, fun h => by omega, fun _ => ⟨f.1 rfl, hl (by omega), f.2.1 rfl⟩, fun h => by omega⟩
  split at hk
  · rename_i e
    unfold seqOk at hk
    simp only [Bool.and_eq_true] at hk
    have f := plainB_facts hk.1.1.1
    exact ⟨by omega, fun h => by omega, fun _ => ⟨f.1 rfl, hl (by omega), f.2.1 rfl⟩, fun h => by omega⟩
  split at hk
  · rename_i e
    unfold choOk at hk
    simp only [Bool.and_eq_true] at hk
    have f := plainB_facts hk.1.1
    exact ⟨by omega, fun h => by omega, fun _ => ⟨f.1 rfl, hl (by omega), f.2.1 rfl⟩, fun _ => ⟨by have := f.2.2.2 (by omega); omega, f.2.2.1 rfl⟩⟩
  split at hk
  · rename_i e
    have f := plainB_facts hk
    exact ⟨by omega, fun h => by omega, fun _ => ⟨f.1 rfl, hl (by omega), f.2.1 rfl⟩, fun h => by omega⟩
  split at hk
  · rename_i e
    have f := plainB_facts hk
    exact ⟨by omega, fun h => by omega, fun _ => ⟨f.1 rfl, hl (by omega), f.2.1 rfl⟩, fun h => by omega⟩
  split at hk
  · rename_i e
    simp only [Bool.and_eq_true] at hk
    have f := plainB_facts hk.1.1
    exact ⟨by omega, fun _ => ⟨f.2.2.1 rfl, by have := f.2.2.2 (by omega); simpa using this⟩, fun h => by omega, fun h => by omega⟩
  · cases hk

/-- the place of a tag; the length, where there is none -/
def tagN (l : List Int) (t : Int) : Nat := l.findIdx (· == t)
theorem tagN_at {l : List Int} {t : Int} {k : Nat} (hk : k < l.length) (h : l[k] = t) (hn : ∀ j (hj : j < l.length), j < k → l[j] ≠ t) : tagN l t = k := by
  unfold tagN
  rw [List.findIdx_eq hk]
  exact ⟨by simpa using h, fun j hj => by have := hn j (by omega) hj; simpa using this⟩
theorem tagN_none {l : List Int} {t : Int} (hn : ∀ j (hj : j < l.length), l[j] ≠ t) : tagN l t = l.length := by
  unfold tagN
  rw [List.findIdx_eq_length]
  intro x hx
  obtain ⟨k, hk, rfl⟩ := List.getElem_of_mem hx
  simpa using hn k hk
theorem tagN_le (l : List Int) (t : Int) : tagN l t ≤ l.length := List.findIdx_le_length
def kd (r : DRule) (t : Nat) : Nat := (r.kids.getD t 0).toNat
theorem kd_at {r : DRule} {t : Nat} (h : t < r.kids.length) : kd r t = r.kids[t].toNat := by unfold kd; simp [h]
theorem kd_lt {ds : List DRule} (h : descOk ds = true) (i : Nat) (hi : i < ds.length) (t : Nat) (ht : t < ds[i].kids.length) : kd ds[i] t < i := by
  rw [kd_at ht]; have := descOk_kid h i hi t ht; omega
theorem kd_int {ds : List DRule} (h : descOk ds = true) (i : Nat) (hi : i < ds.length) (t : Nat) (ht : t < ds[i].kids.length) : ds[i].kids[t] = (kd ds[i] t : Int) := by
  rw [kd_at ht]; have := descOk_kid h i hi t ht; omega
/-- what two rules say themselves -/
def extHead (x y : DRule) : Bool := x.kind == y.kind && x.size == y.size && x.little == y.little && x.bytes == y.bytes
/-- the alternative with tag number t of x -/
def extTag (e : Nat → Nat → Bool) (x y : DRule) (t : Nat) : Bool := decide (tagN y.tags (x.tags.getD t 0) < y.tags.length) && e (kd x (t + 1)) (kd y (tagN y.tags (x.tags.getD t 0) + 1))
/-- the parts -/
def extTail (e : Nat → Nat → Bool) (x y : DRule) : Bool :=
  if x.kind = 7 then e (kd x 0) (kd y 0) && allN x.tags.length (extTag e x y)
  else eqNms x.names y.names && x.kids.length == y.kids.length && allN x.kids.length (fun t => e (kd x t) (kd y t))
def extF (a b : List DRule) : Nat → Nat → Nat → Bool
  | 0, _, _ => false
  | n + 1, i, j => match a[i]?, b[j]? with
    | some x, some y => extHead x y && extTail (extF a b n) x y
    | _, _ => false
/-- rule j of b extends rule i of a -/
def ext (a b : List DRule) (i j : Nat) : Bool := extF a b (i + 1) i j
theorem extTail_congr {ds : List DRule} (h : descOk ds = true) (i : Nat) (hi : i < ds.length) (e e' : Nat → Nat → Bool) (y : DRule) (he : ∀ k, k < i → ∀ j, e k j = e' k j) : extTail e ds[i] y = extTail e' ds[i] y := by
  have hk := kd_lt h i hi
  have hf := ruleFacts h i hi
  unfold extTail
  split
  · rename_i h7
    have hc := (hf.cho h7).1
    rw [he _ (hk 0 (by omega))]
    rw [allN_congr (f := extTag e ds[i] y) (g := extTag e' ds[i] y) (fun t ht => by unfold extTag; rw [he _ (hk (t + 1) (by omega))])]
  · rw [allN_congr (fun t ht => he _ (hk t ht) _)]
theorem extF_fuel {a : List DRule} (h : descOk a = true) (b : List DRule) : ∀ n m i j, i < n → i < m → extF a b n i j = extF a b m i j := by
  intro n
  induction n with
  | zero => intro m i j hn; omega
  | succ n ih =>
    intro m i j hn hm
    obtain ⟨m', rfl⟩ : ∃ m', m = m' + 1 := ⟨m - 1, by omega⟩
    unfold extF
    rcases Nat.lt_or_ge i a.length with hi | hi
    · rw [List.getElem?_eq_getElem hi]
      rcases Nat.lt_or_ge j b.length with hj | hj
      · rw [List.getElem?_eq_getElem hj]
        show (_ && _) = (_ && _)
        rw [extTail_congr h i hi _ (extF a b m') _ (fun k hk j => ih m' k j (by omega) (by omega))]
      · rw [List.getElem?_eq_none hj]
    · rw [List.getElem?_eq_none hi]
theorem ext_step {a b : List DRule} (h : descOk a = true) (i j : Nat) (hi : i < a.length) (hj : j < b.length) : ext a b i j = (extHead a[i] b[j] && extTail (ext a b) a[i] b[j]) := by
  unfold ext
  rw [extF, List.getElem?_eq_getElem hi, List.getElem?_eq_getElem hj]
  show (_ && _) = (_ && _)
  rw [extTail_congr h i hi (extF a b i) (fun i j => extF a b (i + 1) i j) b[j] (fun k hk j => extF_fuel h b i (k + 1) k j hk (by omega))]
/-- ExtendsRule, Extends, SameFormat -/
def extRule (a b : List DRule) (i j : Int) : Bool := knownB a i && (knownB b j && ext a b i.toNat j.toNat)
def extD (a b : List DRule) : Bool := extRule a b ((a.length : Int) - 1) ((b.length : Int) - 1)
def sameF (a b : List DRule) : Bool := extD a b && extD b a
end Go.Proofs.YtjckcbfpejcpcaaGreatDoor

/- FormatInt of the reference; the length of a number's text. -/
namespace Go.Proofs.YtjckcbfpejcpcaaGreatDoor
open Go.RowKit Go.Sort

/-- the table that strconv reads lies where the program's start lays it -/
def itoaB (n : Int) : ByteArray := ⟨(Lib.itoa n).toArray⟩
theorem nDigits_le {u : Nat} {k : Nat} (hk : 1 ≤ k) (h : u < 10 ^ k) : Lib.nDigits u ≤ k := by
  rcases Nat.lt_or_ge u 10 with hu | hu
  · rw [Lib.nDigits_small hu]; exact hk
  · obtain ⟨j, hj⟩ : ∃ j, Lib.nDigits u = j + 1 := ⟨Lib.nDigits u - 1, by have := Lib.nDigits_pos u; omega⟩
    rw [hj]
    refine Nat.le_of_not_lt fun hlt => ?_
    have h1 : 10 ^ j ≤ u := by
      have := Lib.lt_pow_nDigits (u / 10)
      rw [Lib.nDigits_big (by omega)] at hj
      have hj' : Lib.nDigits (u / 10) = j := by omega
      clear this hlt h hk
      have hmin : ∀ (m v : Nat), Lib.nDigits v = m → 1 ≤ v → 10 ^ (m - 1) ≤ v := by
        intro m
        induction m with
        | zero => intro v hv h1; have := Lib.nDigits_pos v; omega
        | succ m ih =>
          intro v hv h1
          rcases Nat.lt_or_ge v 10 with hv10 | hv10
          · rw [Lib.nDigits_small hv10] at hv; obtain rfl : m = 0 := by omega
            simpa using h1
          · rw [Lib.nDigits_big (by omega)] at hv
            have h2 := ih (v / 10) (by omega) (by omega)
            obtain ⟨m', rfl⟩ : ∃ m', m = m' + 1 := ⟨m - 1, by have := Lib.nDigits_pos (v/10); omega⟩
            simp only [Nat.add_sub_cancel] at h2 ⊢
            rw [Nat.pow_succ]; omega
      have := hmin (j + 1) u (by rw [Lib.nDigits_big (by omega)]; omega) (by omega)
      simpa using this
    have : 10 ^ k ≤ 10 ^ j := Nat.pow_le_pow_right (by omega) (by omega)
    omega
theorem itoa_size (n : Int) (h0 : -9223372036854775808 ≤ n) (h1 : n ≤ 9223372036854775807) : (itoaB n).size ≤ 20 := by
  show (Lib.itoa n).toArray.size ≤ 20
  rw [List.size_toArray]
  unfold Lib.itoa
  split
  · simp only [List.length_cons, Lib.decDigits_length]
    have := nDigits_le (u := n.natAbs) (k := 19) (by omega) (by omega)
    omega
  · rw [Lib.decDigits_length]
    have := nDigits_le (u := n.toNat) (k := 19) (by omega) (by omega)
    omega
theorem mt_dec {n : Nat} (h : 0 < n) (s : ByteArray) : mt n s = ⟨(Lib.decDigits n).toArray⟩ ++ s := by
  induction n using Nat.strongRecOn generalizing s with
  | _ n ih =>
    rw [mt_step h]
    by_cases h10 : n < 10
    · rw [show n / 10 = 0 by omega, mt_zero, Lib.decDigits_one h10]
      show _ = (⟨#[UInt8.ofNat (48 + n)]⟩ : ByteArray) ++ s
      rw [dig8, Nat.mod_eq_of_lt h10]
    · rw [ih (n / 10) (by omega) (by omega)]
      conv => rhs; rw [Lib.decDigits, dif_neg h10]
      apply ByteArray.ext
      simp [ByteArray.data_append, dig8]
theorem itoaB_pos {n : Nat} (h : 0 < n) : itoaB n = mt n ⟨#[]⟩ := by
  rw [mt_dec h]; unfold itoaB Lib.itoa
  rw [if_neg (by omega)]
  apply ByteArray.ext
  simp [ByteArray.data_append]
theorem itoaB_neg {n : Nat} (h : 0 < n) : itoaB (-(n : Int)) = ⟨#[45]⟩ ++ mt n ⟨#[]⟩ := by
  rw [mt_dec h]; unfold itoaB Lib.itoa
  rw [if_pos (by omega)]
  apply ByteArray.ext
  simp [ByteArray.data_append]
theorem itoaB_zero : itoaB 0 = ⟨#[48]⟩ := by
  unfold itoaB Lib.itoa
  rw [if_neg (by omega), show (0 : Int).toNat = 0 from rfl, Lib.decDigits_one (by omega)]; rfl
set_option maxRecDepth 100000 in
set_option maxHeartbeats 400000 in
theorem sFormatInt_pos (k : Nat) (w : World) (hk : 0 < k) (hk2 : k ≤ 9223372036854775807) :
    Gives Tryz.prog 92 #[.int .i64 k] w (.string (mt k ⟨#[]⟩)) := by
  have dk : decide ((k : Int) < 0) = false := decide_eq_false (by omega)
  go_enter Tryz.func92, Tryz.ntmps92
  go_wp2
  go_loopw [4, 3] (fun kk t wr => ∃ (n : Nat) (s : ByteArray), s.size + n ≤ k ∧ kk = .int .i64 n ∧ t = .string s ∧ Hid (mt n s = mt k ⟨#[]⟩) ∧ Ext w wr) (fun kk _ _ => (intOf kk).toNat)
  case atStart => exact ⟨k, ⟨#[]⟩, Nat.le_of_eq (Nat.zero_add k), rfl, rfl, rfl, Ext.refl _⟩
  case round =>
    obtain ⟨n, s, hn, rfl, rfl, hs, he⟩ := hrel
    by_cases h0 : 0 < n
    · have hst := Lib.hid ((mt_step h0 s).symm.trans hs.out)
      have hcv : ∀ w' : World, (convert 25 9 (.slice (some ⟨w'.heap.size, 0, none⟩) 1 1)).run Tryz.prog (w'.alloc (.cells #[.int .u8 (48 + (n : Int) % 10)] 5)) = .ok (.string ⟨#[dig8 n]⟩) (w'.alloc (.cells #[.int .u8 (48 + (n : Int) % 10)] 5)) := by
        intro w'
        have := run_one_byte w' (48 + n % 10)
        rw [show ((48 + n % 10 : Nat) : Int) = 48 + (n : Int) % 10 by omega] at this
        exact this
      have hcvr := hcv wr
      clear hcv
      go_wp2
      go_roundw
      case rel => exact ⟨n / 10, _, by rw [ByteArray.size_append]; show 1 + s.size + n / 10 ≤ k; omega, by go_num, rfl, hst, Ext_alloc _ he⟩
      case measure => simp [intOf]; omega
    · obtain rfl : n = 0 := by omega
      have hs2 := Lib.hid ((mt_zero s).symm.trans hs.out)
      clear hs
      go_wp2
      go_ret
      exact ⟨by rw [hs2.out]; rfl, he⟩
set_option maxRecDepth 100000 in
set_option maxHeartbeats 400000 in
theorem sFormatInt_neg (k : Nat) (w : World) (hk : 0 < k) (hk2 : k ≤ 9223372036854775808) :
    Gives Tryz.prog 92 #[.int .i64 (-(k : Int))] w (.string (⟨#[45]⟩ ++ mt k ⟨#[]⟩)) := by
  have dk : decide (-(k : Int) < 0) = true := decide_eq_true (by omega)
  go_enter Tryz.func92, Tryz.ntmps92
  go_wp2
  go_loopw [4, 3] (fun kk t wr => ∃ (n : Nat) (s : ByteArray), 2 * s.size + n ≤ k + 1 ∧ (0 < n → 2 * s.size + n ≤ k) ∧ kk = .int .i64 (-(n : Int)) ∧ t = .string s ∧ Hid (mt n s = mt k ⟨#[]⟩) ∧ Ext w wr) (fun kk _ _ => (-(intOf kk)).toNat)
  case atStart => exact ⟨k, ⟨#[]⟩, by show 2 * 0 + k ≤ k + 1; omega, fun _ => Nat.le_of_eq (Nat.zero_add k), rfl, rfl, rfl, Ext.refl _⟩
  case round =>
    obtain ⟨n, s, hn, hn2, rfl, rfl, hs, he⟩ := hrel
    by_cases h0 : 0 < n
    · have hn3 := hn2 h0
      have hst := Lib.hid ((mt_step h0 s).symm.trans hs.out)
      have hcv : ∀ w' : World, (convert 25 9 (.slice (some ⟨w'.heap.size, 0, none⟩) 1 1)).run Tryz.prog (w'.alloc (.cells #[.int .u8 (48 + (n : Int) % 10)] 5)) = .ok (.string ⟨#[dig8 n]⟩) (w'.alloc (.cells #[.int .u8 (48 + (n : Int) % 10)] 5)) := by
        intro w'
        have := run_one_byte w' (48 + n % 10)
        rw [show ((48 + n % 10 : Nat) : Int) = 48 + (n : Int) % 10 by omega] at this
        exact this
      have hcvr := hcv wr
      have hmod : (-(n : Int)).tmod 10 = -((n : Int) % 10) := by rw [Int.neg_tmod, Int.tmod_eq_emod_of_nonneg (by omega)]
      have hdiv : (-(n : Int)).tdiv 10 = -((n : Int) / 10) := by rw [Int.neg_tdiv, Int.tdiv_eq_ediv_of_nonneg (by omega)]
      clear hcv
      by_cases hm : (n : Int) % 10 = 0
      · rw [hm, Int.add_zero] at hcvr
        go_wp2
        go_roundw
        case rel => exact ⟨n / 10, _, by rw [ByteArray.size_append]; show 2 * (1 + s.size) + n / 10 ≤ k + 1; omega, fun h => by rw [ByteArray.size_append]; show 2 * (1 + s.size) + n / 10 ≤ k; omega, by go_num, rfl, hst, Ext_alloc _ he⟩
        case measure => simp [intOf]; omega
      · go_wp2
        go_roundw
        case rel => exact ⟨n / 10, _, by rw [ByteArray.size_append]; show 2 * (1 + s.size) + n / 10 ≤ k + 1; omega, fun h => by rw [ByteArray.size_append]; show 2 * (1 + s.size) + n / 10 ≤ k; omega, by go_num, rfl, hst, Ext_alloc _ he⟩
        case measure => simp [intOf]; omega
    · obtain rfl : n = 0 := by omega
      have hsz : s.size ≤ 4611686018427387904 := by omega
      have z0 : (-((0 : Nat) : Int) != 0) = false := by simp
      have hs2 := Lib.hid ((mt_zero s).symm.trans hs.out)
      clear hs
      go_wp2
      all_goals go_ret
      all_goals exact ⟨by rw [hs2.out]; rfl, he⟩
theorem sFormatInt_c (n : Int) (w : World) (h0 : -9223372036854775808 ≤ n) (h1 : n ≤ 9223372036854775807) :
    Gives Tryz.prog 92 #[.int .i64 n] w (.string (itoaB n)) := by
  rcases Int.lt_trichotomy n 0 with h | rfl | h
  · obtain ⟨k, rfl⟩ : ∃ k : Nat, n = -(k : Int) := ⟨n.natAbs, by omega⟩
    rw [itoaB_neg (by omega)]
    exact sFormatInt_neg k w (by omega) (by omega)
  · rw [itoaB_zero]
    go_enter Tryz.func92, Tryz.ntmps92
    go_wp2
    go_ret
    exact ⟨rfl, Ext.refl _⟩
  · obtain ⟨k, rfl⟩ : ∃ k : Nat, n = (k : Int) := ⟨n.toNat, by omega⟩
    rw [itoaB_pos (by omega)]
    exact sFormatInt_pos k w (by omega) (by omega)
end Go.Proofs.YtjckcbfpejcpcaaGreatDoor

/- Valid values, the differences between two values, as plain functions. -/
namespace Go.Proofs.YtjckcbfpejcpcaaGreatDoor

def noRule : DRule := ⟨⟨#[]⟩, 0, 0, false, [], [], [], []⟩
/-- the rule of item i of a value of the number n -/
def kidV (r : DRule) (n : Int) (i : Nat) : Nat :=
  if r.kind = 5 then kd r 1 else if r.kind = 6 then kd r i else if r.kind = 7 then kd r (tagN r.tags n + 1) else kd r 0
/-- do the value's own fields fit the rule: its number, the lengths of its bytes and items -/
def ownV (ds : List DRule) (r : DRule) (n : Int) (b m : Nat) : Bool :=
  if r.kind = 1 then decide (0 ≤ n) && decide (n ≤ limR r) && b == 0 && m == 0
  else if r.kind = 2 then n == 0 && b == 0 && m == 0
  else if r.kind = 3 then n == 0 && decide ((b : Int) = r.size) && m == 0
  else if r.kind = 4 then n == 0 && decide ((b : Int) ≤ min 400 (limD ds (r.kids.getD 0 0))) && m == 0
  else if r.kind = 5 then n == 0 && b == 0 && decide ((m : Int) ≤ min 40 (limD ds (r.kids.getD 0 0)))
  else if r.kind = 6 then n == 0 && b == 0 && m == r.kids.length
  else if r.kind = 7 then decide (tagN r.tags n < r.tags.length) && b == 0 && m == 1
  else if r.kind = 8 then n == 0 && b == 0 && decide (m ≤ 1)
  else if r.kind = 9 then n == 0 && b == 0 && m == 1
  else n == 0 && decide (b ≤ 400) && m == 0
mutual
def validV (ds : List DRule) : Nat → DVal → Bool
  | i, .mk n b its => match ds[i]? with
    | some r => ownV ds r n b.length its.length && validVs ds r n 0 its
    | none => false
def validVs (ds : List DRule) (r : DRule) (n : Int) : Nat → List DVal → Bool
  | _, [] => true
  | k, x :: t => validV ds (kidV r n k) x && validVs ds r n (k + 1) t
end
theorem validV_eq (ds : List DRule) (i : Nat) (hi : i < ds.length) (v : DVal) : validV ds i v = (ownV ds ds[i] v.num v.bytes.length v.items.length && validVs ds ds[i] v.num 0 v.items) := by
  cases v; rw [validV, List.getElem?_eq_getElem hi]; rfl
theorem validVs_iff (ds : List DRule) (r : DRule) (n : Int) : ∀ (l : List DVal) (k : Nat), validVs ds r n k l = true ↔ ∀ j (hj : j < l.length), validV ds (kidV r n (k + j)) l[j] = true
  | [], k => by rw [validVs]; simp
  | x :: t, k => by
    rw [validVs, Bool.and_eq_true, validVs_iff ds r n t (k + 1)]
    constructor
    · rintro ⟨h1, h2⟩ j hj
      cases j with
      | zero => exact h1
      | succ j => have := h2 j (by simpa using hj); rw [show k + 1 + j = k + (j + 1) by omega] at this; simpa using this
    · intro h
      refine ⟨h 0 (by simp), fun j hj => ?_⟩
      have := h (j + 1) (by simpa using hj); rw [show k + (j + 1) = k + 1 + j by omega] at this; simpa using this
theorem validV_yes {ds : List DRule} {i : Nat} {hi : i < ds.length} {v : DVal} (ho : ownV ds ds[i] v.num v.bytes.length v.items.length = true) (h : ∀ j (hj : j < v.items.length), validV ds (kidV ds[i] v.num j) v.items[j] = true) : validV ds i v = true := by
  rw [validV_eq ds i hi, ho, (validVs_iff _ _ _ _ _).2 (fun j hj => by rw [Nat.zero_add]; exact h j hj)]; rfl
theorem validV_own {ds : List DRule} {i : Nat} {hi : i < ds.length} {v : DVal} (ho : ownV ds ds[i] v.num v.bytes.length v.items.length = false) : validV ds i v = false := by
  rw [validV_eq ds i hi, ho]; rfl
theorem validV_no {ds : List DRule} {i : Nat} {hi : i < ds.length} {v : DVal} {j : Nat} (hj : j < v.items.length) (h : validV ds (kidV ds[i] v.num j) v.items[j] = false) : validV ds i v = false := by
  rw [validV_eq ds i hi, Bool.and_eq_false_iff]; right
  cases hh : validVs ds ds[i] v.num 0 v.items
  · rfl
  · have := (validVs_iff _ _ _ _ _).1 hh j hj; rw [Nat.zero_add, h] at this; cases this
theorem validV_lt {ds : List DRule} {i : Nat} {v : DVal} (h : validV ds i v = true) : i < ds.length := by
  cases v; rw [validV] at h
  rcases Nat.lt_or_ge i ds.length with h' | h'
  · exact h'
  · rw [List.getElem?_eq_none h'] at h; cases h
theorem validV_item {ds : List DRule} {i : Nat} {v : DVal} (h : validV ds i v = true) (j : Nat) (hj : j < v.items.length) : validV ds (kidV (ds[i]'(validV_lt h)) v.num j) v.items[j] = true := by
  rw [validV_eq ds i (validV_lt h), Bool.and_eq_true] at h
  have := (validVs_iff _ _ _ _ _).1 h.2 j hj; rwa [Nat.zero_add] at this
theorem validV_fits {ds : List DRule} {i : Nat} {v : DVal} (h : validV ds i v = true) : ownV ds (ds[i]'(validV_lt h)) v.num v.bytes.length v.items.length = true := by
  rw [validV_eq ds i (validV_lt h), Bool.and_eq_true] at h; exact h.1
/-- the step to item i -/
def stepR (r : DRule) (i : Nat) : ByteArray :=
  if r.kind = 5 then itoaB i else if r.kind = 6 then r.names.getD i ⟨#[]⟩ else if r.kind = 7 then ⟨#[42]⟩ else if r.kind = 8 then ⟨#[63]⟩ else ⟨#[43]⟩
def under (p : ByteArray) (r : DRule) (i : Nat) : ByteArray := p ++ ⟨#[47]⟩ ++ stepR r i
noncomputable instance : DecidableEq DVal := fun _ _ => Classical.propDecidable _
/-- are two values one -/
noncomputable def eqV (a b : DVal) : Bool := decide (a = b)
theorem eqV_iff {a b : DVal} : eqV a b = true ↔ a = b := by unfold eqV; simp
theorem eqV_refl (a : DVal) : eqV a a = true := eqV_iff.2 rfl
theorem eqV_no {a b : DVal} (h : a ≠ b) : eqV a b = false := by unfold eqV; simp [h]
/-- may the items be compared one by one -/
def alikeV (a b : DVal) : Bool := a.num == b.num && a.bytes == b.bytes && a.items.length == b.items.length && !(a.items.length == 0)
mutual
noncomputable def diffV (ds : List DRule) : Nat → DVal → DVal → ByteArray → List (ByteArray × DVal)
  | i, .mk n b its, v, p => if eqV (.mk n b its) v then [] else if alikeV (.mk n b its) v then diffVs ds (ds.getD i noRule) n 0 its v.items p else [(p, v)]
noncomputable def diffVs (ds : List DRule) (r : DRule) (n : Int) : Nat → List DVal → List DVal → ByteArray → List (ByteArray × DVal)
  | _, [], _, _ => []
  | _, _ :: _, [], _ => []
  | k, x :: t, y :: u, p => diffV ds (kidV r n k) x y (under p r k) ++ diffVs ds r n (k + 1) t u p
end
theorem diffV_same (ds : List DRule) (i : Nat) (a : DVal) (p : ByteArray) : diffV ds i a a p = [] := by cases a; rw [diffV, if_pos (eqV_refl _)]
theorem diffV_whole {ds : List DRule} {i : Nat} {a b : DVal} {p : ByteArray} (h : eqV a b = false) (h2 : alikeV a b = false) : diffV ds i a b p = [(p, b)] := by
  cases a; rw [diffV, h, if_neg (by simp), h2, if_neg (by simp)]
theorem diffV_items {ds : List DRule} {i : Nat} (hi : i < ds.length) {a b : DVal} {p : ByteArray} (h : eqV a b = false) (h2 : alikeV a b = true) : diffV ds i a b p = diffVs ds ds[i] a.num 0 a.items b.items p := by
  have hg : ds.getD i noRule = ds[i] := by simp [hi]
  cases a; rw [diffV, h, if_neg (by simp), h2, if_pos rfl, hg]; rfl
theorem diffVs_nil (ds : List DRule) (r : DRule) (n : Int) (k : Nat) (u : List DVal) (p : ByteArray) : diffVs ds r n k [] u p = [] := by rw [diffVs]
theorem diffVs_snoc (ds : List DRule) (r : DRule) (n : Int) (p : ByteArray) : ∀ (l m : List DVal) (k : Nat) (x y : DVal), l.length = m.length → diffVs ds r n k (l ++ [x]) (m ++ [y]) p = diffVs ds r n k l m p ++ diffV ds (kidV r n (k + l.length)) x y (under p r (k + l.length))
  | [], [], k, x, y, _ => by
    show diffVs ds r n k [x] [y] p = _
    rw [diffVs, diffVs, diffVs]; simp
  | [], _ :: _, _, _, _, h => by simp at h
  | _ :: _, [], _, _, _, h => by simp at h
  | a :: l, b :: m, k, x, y, h => by
    show diffVs ds r n k (a :: (l ++ [x])) (b :: (m ++ [y])) p = _
    rw [diffVs, diffVs, diffVs_snoc ds r n p l m (k + 1) x y (by simpa using h), List.append_assoc, List.length_cons, show k + 1 + l.length = k + (l.length + 1) by omega]
theorem diffVs_take (ds : List DRule) (r : DRule) (n : Int) (p : ByteArray) (l m : List DVal) (k : Nat) (h1 : k < l.length) (h2 : k < m.length) : diffVs ds r n 0 (l.take (k + 1)) (m.take (k + 1)) p = diffVs ds r n 0 (l.take k) (m.take k) p ++ diffV ds (kidV r n k) l[k] m[k] (under p r k) := by
  rw [List.take_succ_eq_append_getElem h1, List.take_succ_eq_append_getElem h2, diffVs_snoc _ _ _ _ _ _ _ _ _ (by rw [List.length_take, List.length_take]; omega)]
  rw [List.length_take, Nat.min_eq_left (by omega), Nat.zero_add]
/-- how many changes there can be -/
theorem diffV_len (ds : List DRule) : ∀ (a : DVal) (i : Nat) (b : DVal) (p : ByteArray), (diffV ds i a b p).length ≤ szV a + 1 := by
  intro a
  induction a using DVal.ind with
  | h a ih =>
    intro i b p
    have hs : ∀ (l : List DVal) (r : DRule) (n : Int) (k : Nat) (u : List DVal) (p : ByteArray), (∀ x ∈ l, x ∈ a.items) → (diffVs ds r n k l u p).length ≤ szVs l := by
      intro l
      induction l with
      | nil => intro r n k u p _; rw [diffVs_nil]; simp
      | cons x t iht =>
        intro r n k u p hm
        cases u with
        | nil => rw [diffVs]; simp
        | cons y u =>
          rw [diffVs, List.length_append, szVs_cons]
          have h1 := ih x (hm x (List.mem_cons_self ..)) (kidV r n k) y (under p r k)
          have h2 := iht r n (k + 1) u p (fun z hz => hm z (List.mem_cons_of_mem _ hz))
          omega
    cases he : eqV a b
    · cases ha : alikeV a b
      · rw [diffV_whole he ha]; simp
      · rcases Nat.lt_or_ge i ds.length with hi | hi
        · rw [diffV_items hi he ha]
          have := hs a.items ds[i] a.num 0 b.items p (fun _ h => h)
          rw [szV_eq]; omega
        · have := hs a.items (ds.getD i noRule) a.num 0 b.items p (fun _ h => h)
          have e : diffV ds i a b p = diffVs ds (ds.getD i noRule) a.num 0 a.items b.items p := by
            cases a; rw [diffV, he, if_neg (by simp), ha, if_pos rfl]; rfl
          rw [e, szV_eq]; omega
    · obtain rfl := eqV_iff.1 he
      rw [diffV_same]; simp
/-- how many kids a valid rule has, by its kind -/
theorem kids_len {ds : List DRule} (h : descOk ds = true) (i : Nat) (hi : i < ds.length) :
    (ds[i].kind = 4 → ds[i].kids.length = 1 ∧ 0 < limD ds (ds[i].kids.getD 0 0)) ∧ (ds[i].kind = 5 → ds[i].kids.length = 2 ∧ 0 < limD ds (ds[i].kids.getD 0 0)) ∧ (ds[i].kind = 6 → ds[i].names.length = ds[i].kids.length ∧ ∀ s ∈ ds[i].names, s.size ≤ 12) ∧
    (ds[i].kind = 7 → ds[i].kids.length = ds[i].tags.length + 1 ∧ ∀ j (hj : j < ds[i].tags.length), 0 ≤ ds[i].tags[j] ∧ ds[i].tags[j] ≤ limD ds (ds[i].kids.getD 0 0)) ∧ (ds[i].kind = 8 ∨ ds[i].kind = 9 → ds[i].kids.length = 1) ∧ (ds[i].kind = 1 → 1 ≤ ds[i].size ∧ ds[i].size ≤ 4) ∧ (ds[i].kind = 3 → 1 ≤ ds[i].size ∧ ds[i].size ≤ 64) := by
  have hk := ruleKind h i hi
  generalize ds[i] = r at *
  unfold kindOk at hk
  split at hk
  · rename_i e
    simp only [Bool.and_eq_true, between, decide_eq_true_eq] at hk
    exact ⟨fun e' => by omega, fun e' => by omega, fun e' => by omega, fun e' => by omega, fun e' => by omega, fun _ => hk.1.2, fun e' => by omega⟩
  split at hk
  · rename_i e
    exact ⟨fun e' => by omega, fun e' => by omega, fun e' => by omega, fun e' => by omega, fun e' => by omega, fun e' => by omega, fun e' => by omega⟩
  split at hk
  · rename_i e
    simp only [Bool.and_eq_true, between, decide_eq_true_eq] at hk
    exact ⟨fun e' => by omega, fun e' => by omega, fun e' => by omega, fun e' => by omega, fun e' => by omega, fun e' => by omega, fun _ => hk.2⟩
  split at hk
  · rename_i e
    simp only [Bool.and_eq_true, decide_eq_true_eq] at hk
    have f := (plainB_facts hk.1).2.2.2 (by omega)
    exact ⟨fun _ => ⟨by omega, hk.2⟩, fun e' => by omega, fun e' => by omega, fun e' => by omega, fun e' => by omega, fun e' => by omega, fun e' => by omega⟩
  split at hk
  · rename_i e
    simp only [Bool.and_eq_true, decide_eq_true_eq] at hk
    have f := (plainB_facts hk.1).2.2.2 (by omega)
    exact ⟨fun e' => by omega, fun _ => ⟨by omega, hk.2⟩, fun e' => by omega, fun e' => by omega, fun e' => by omega, fun e' => by omega, fun e' => by omega⟩
  split at hk
  · rename_i e
    unfold seqOk at hk
    simp only [Bool.and_eq_true, beq_iff_eq] at hk
    have hn := hk.2
    refine ⟨fun e' => by omega, fun e' => by omega, fun _ => ⟨hk.1.1.2.symm, fun s hs => ?_⟩, fun e' => by omega, fun e' => by omega, fun e' => by omega, fun e' => by omega⟩
    obtain ⟨k, hk', rfl⟩ := List.getElem_of_mem hs
    have := allN_at hn hk'
    unfold nameOk at this
    rw [List.getElem?_eq_getElem hk'] at this
    simp only [Bool.and_eq_true] at this
    have h2 := this.1
    unfold isName at h2
    simp only [Bool.and_eq_true, decide_eq_true_eq] at h2
    exact h2.1.2
  split at hk
  · rename_i e
    unfold choOk at hk
    simp only [Bool.and_eq_true] at hk
    have f := (plainB_facts hk.1.1).2.2.2 (by omega)
    refine ⟨fun e' => by omega, fun e' => by omega, fun e' => by omega, fun _ => ⟨by omega, fun j hj => ?_⟩, fun e' => by omega, fun e' => by omega, fun e' => by omega⟩
    have := allN_at hk.2 hj
    unfold tagOk at this
    rw [List.getElem?_eq_getElem hj] at this
    simp only [Bool.and_eq_true, between, decide_eq_true_eq] at this
    exact this.1
  split at hk
  · rename_i e
    have f := (plainB_facts hk).2.2.2 (by omega)
    exact ⟨fun e' => by omega, fun e' => by omega, fun e' => by omega, fun e' => by omega, fun _ => by omega, fun e' => by omega, fun e' => by omega⟩
  split at hk
  · rename_i e
    have f := (plainB_facts hk).2.2.2 (by omega)
    exact ⟨fun e' => by omega, fun e' => by omega, fun e' => by omega, fun e' => by omega, fun _ => by omega, fun e' => by omega, fun e' => by omega⟩
  split at hk
  · rename_i e
    exact ⟨fun e' => by omega, fun e' => by omega, fun e' => by omega, fun e' => by omega, fun e' => by omega, fun e' => by omega, fun e' => by omega⟩
  · cases hk
/-- where a value has an item -/
theorem own_item {ds : List DRule} (h : descOk ds = true) (i : Nat) (hi : i < ds.length) {n : Int} {b m j : Nat} (ho : ownV ds ds[i] n b m = true) (hj : j < m) :
    kidV ds[i] n j < i ∧ ((ds[i].kind = 5 ∧ 1 < ds[i].kids.length) ∨ (ds[i].kind = 6 ∧ j < ds[i].kids.length ∧ j < ds[i].names.length) ∨ (ds[i].kind = 7 ∧ j = 0 ∧ tagN ds[i].tags n < ds[i].tags.length ∧ tagN ds[i].tags n + 1 < ds[i].kids.length) ∨ ((ds[i].kind = 8 ∨ ds[i].kind = 9) ∧ j = 0 ∧ 0 < ds[i].kids.length)) := by
  obtain ⟨k4, k5, k6, k7, k8, _, _⟩ := kids_len h i hi
  have hlt := kd_lt h i hi
  have hkd := (ruleFacts h i hi).kind
  generalize ds[i] = r at *
  unfold ownV at ho
  split at ho
  · simp only [Bool.and_eq_true, beq_iff_eq] at ho; omega
  split at ho
  · simp only [Bool.and_eq_true, beq_iff_eq] at ho; omega
  split at ho
  · simp only [Bool.and_eq_true, beq_iff_eq] at ho; omega
  split at ho
  · simp only [Bool.and_eq_true, beq_iff_eq] at ho; omega
  split at ho
  · rename_i e
    have := (k5 e).1
    exact ⟨by unfold kidV; rw [if_pos e]; exact hlt _ (by omega), .inl ⟨e, by omega⟩⟩
  split at ho
  · rename_i e5 e
    simp only [Bool.and_eq_true, beq_iff_eq] at ho
    have := (k6 e).1
    exact ⟨by unfold kidV; rw [if_neg e5, if_pos e]; exact hlt _ (by omega), .inr (.inl ⟨e, by omega, by omega⟩)⟩
  split at ho
  · rename_i e5 e6 e
    simp only [Bool.and_eq_true, beq_iff_eq, decide_eq_true_eq] at ho
    have := (k7 e).1
    exact ⟨by unfold kidV; rw [if_neg e5, if_neg e6, if_pos e]; exact hlt _ (by omega), .inr (.inr (.inl ⟨e, by omega, by omega, by omega⟩))⟩
  split at ho
  · rename_i e5 e6 e7 e
    simp only [Bool.and_eq_true, beq_iff_eq, decide_eq_true_eq] at ho
    have := k8 (.inl e)
    exact ⟨by unfold kidV; rw [if_neg e5, if_neg e6, if_neg e7]; exact hlt _ (by omega), .inr (.inr (.inr ⟨.inl e, by omega, by omega⟩))⟩
  split at ho
  · rename_i e5 e6 e7 e8 e
    simp only [Bool.and_eq_true, beq_iff_eq, decide_eq_true_eq] at ho
    have := k8 (.inr e)
    exact ⟨by unfold kidV; rw [if_neg e5, if_neg e6, if_neg e7]; exact hlt _ (by omega), .inr (.inr (.inr ⟨.inr e, by omega, by omega⟩))⟩
  · simp only [Bool.and_eq_true, beq_iff_eq] at ho; omega
end Go.Proofs.YtjckcbfpejcpcaaGreatDoor
