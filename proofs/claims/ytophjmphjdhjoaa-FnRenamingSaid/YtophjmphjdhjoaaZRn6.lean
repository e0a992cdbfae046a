/- Kinds of rules, of the program. -/
import Derived.Test.YtophjmphjdhjoaaZRn5
set_option linter.unusedVariables false
set_option linter.unusedSimpArgs false
namespace Go.Proofs.Ytophjmphjdhjoaa
open Go.RowKit Go.Sort

set_option maxRecDepth 100000 in
set_option maxHeartbeats 4000000 in
theorem iKind1_c (A : Option Addr) (ds : List DRule) (c : Nat) (r : DRule) (Ab : Option Addr) (cb : Nat) (An : Option Addr) (cn : Nat) (At : Option Addr) (ct : Nat) (Ak : Option Addr) (ck : Nat) (w : World) (hd : RdD w A ds c) (h : RdS w r Ab cb An cn At ct Ak ck) (hs : ShortR r) (hw : WfR r) (hk : r.kind = 1) :
    Gives Try.prog 59 #[vdesc (.slice A ds.length c), vrule r (.slice Ab r.bytes.length cb) (.slice An r.names.length cn) (.slice At r.tags.length ct) (.slice Ak r.kids.length ck)] w (.bool (kindOk ds r)) := by
  have eb := Ext_alloc (.cells #[.string r.nm, .int .i64 r.kind, .int .i64 r.size, .bool r.little, .slice Ab r.bytes.length cb, .slice An r.names.length cn, .slice At r.tags.length ct, .slice Ak r.kids.length ck] 35) (Ext_alloc (.cells #[.slice A ds.length c] 26) (Ext.refl w))
  have BX := fun w' (e : Ext ((w.alloc (.cells #[.slice A ds.length c] 26)).alloc (.cells #[.string r.nm, .int .i64 r.kind, .int .i64 r.size, .bool r.little, .slice Ab r.bytes.length cb, .slice An r.names.length cn, .slice At r.tags.length ct, .slice Ak r.kids.length ck] 35)) w') => boxed2 e
  have B0 := fun w' e => (BX w' e).1
  have B1 := fun w' e => (BX w' e).2.1
  clear BX
  have t1 : (r.kind == 1) = true := by rw [hk]; rfl
  have t2 : (r.kind == 2) = false := by rw [hk]; rfl
  have t3 : (r.kind == 3) = false := by rw [hk]; rfl
  have t4 : (r.kind == 4) = false := by rw [hk]; rfl
  have t5 : (r.kind == 5) = false := by rw [hk]; rfl
  have t6 : (r.kind == 6) = false := by rw [hk]; rfl
  have t7 : (r.kind == 7) = false := by rw [hk]; rfl
  have t8 : (r.kind == 8) = false := by rw [hk]; rfl
  have t9 : (r.kind == 9) = false := by rw [hk]; rfl
  have t10 : (r.kind == 10) = false := by rw [hk]; rfl
  have HV : Hid ((kindOk ds r) = (plainB r true false false false 0 && (between r.size 1 4 && (!r.little || decide (1 < r.size))))) := by show _ = _; simp [kindOk, hk, Bool.and_assoc]
  rw [HV.out]
  have CP := Lib.hid (fun w => iPlain1000_c r Ab cb An cn At ct Ak ck 0 w h.lens)
  generalize (plainB r true false false false 0) = p at *
  clear HV hk
  have CI := Lib.hid (fun w => iInRange_c r.size 1 4 w)
  have HB : Hid (between r.size 1 4 = (decide (((1) : Int) ≤ r.size) && decide (r.size ≤ 4))) := rfl
  rw [← HB.out] at CI
  clear HB
  generalize between r.size 1 4 = q at *
  unfold vrule vdesc at *
  cases p
  · go_enter Try.func59, Try.ntmps59
    go_wp2_with fail
    refine (CP.out _).mono ?_; rintro _ w1 ⟨rfl, he1⟩
    go_wp2
    go_ret
    exact ⟨ret_bool (by simp), eb.trans he1⟩
  cases q
  · go_enter Try.func59, Try.ntmps59
    go_wp2_with fail
    refine (CP.out _).mono ?_; rintro _ w1 ⟨rfl, he1⟩
    go_wp2_with fail
    refine (CI.out _).mono ?_; rintro _ w2 ⟨rfl, he2⟩
    go_wp2
    go_ret
    exact ⟨ret_bool (by simp), eb.trans (he1.trans he2)⟩
  generalize r.little = li at *
  cases li
  all_goals
    cases hz : decide (1 < r.size)
    all_goals
      go_enter Try.func59, Try.ntmps59
      go_wp2_with fail
      refine (CP.out _).mono ?_; rintro _ w1 ⟨rfl, he1⟩
      go_wp2_with fail
      refine (CI.out _).mono ?_; rintro _ w2 ⟨rfl, he2⟩
      have e2 := he1.trans he2
      go_wp2
      go_ret
      exact ⟨ret_bool (by simp), eb.trans e2⟩
set_option maxRecDepth 100000 in
set_option maxHeartbeats 4000000 in
theorem iKind2_c (A : Option Addr) (ds : List DRule) (c : Nat) (r : DRule) (Ab : Option Addr) (cb : Nat) (An : Option Addr) (cn : Nat) (At : Option Addr) (ct : Nat) (Ak : Option Addr) (ck : Nat) (w : World) (hd : RdD w A ds c) (h : RdS w r Ab cb An cn At ct Ak ck) (hs : ShortR r) (hw : WfR r) (hk : r.kind = 2) :
    Gives Try.prog 59 #[vdesc (.slice A ds.length c), vrule r (.slice Ab r.bytes.length cb) (.slice An r.names.length cn) (.slice At r.tags.length ct) (.slice Ak r.kids.length ck)] w (.bool (kindOk ds r)) := by
  have eb := Ext_alloc (.cells #[.string r.nm, .int .i64 r.kind, .int .i64 r.size, .bool r.little, .slice Ab r.bytes.length cb, .slice An r.names.length cn, .slice At r.tags.length ct, .slice Ak r.kids.length ck] 35) (Ext_alloc (.cells #[.slice A ds.length c] 26) (Ext.refl w))
  have BX := fun w' (e : Ext ((w.alloc (.cells #[.slice A ds.length c] 26)).alloc (.cells #[.string r.nm, .int .i64 r.kind, .int .i64 r.size, .bool r.little, .slice Ab r.bytes.length cb, .slice An r.names.length cn, .slice At r.tags.length ct, .slice Ak r.kids.length ck] 35)) w') => boxed2 e
  have B0 := fun w' e => (BX w' e).1
  have B1 := fun w' e => (BX w' e).2.1
  clear BX
  have t1 : (r.kind == 1) = false := by rw [hk]; rfl
  have t2 : (r.kind == 2) = true := by rw [hk]; rfl
  have t3 : (r.kind == 3) = false := by rw [hk]; rfl
  have t4 : (r.kind == 4) = false := by rw [hk]; rfl
  have t5 : (r.kind == 5) = false := by rw [hk]; rfl
  have t6 : (r.kind == 6) = false := by rw [hk]; rfl
  have t7 : (r.kind == 7) = false := by rw [hk]; rfl
  have t8 : (r.kind == 8) = false := by rw [hk]; rfl
  have t9 : (r.kind == 9) = false := by rw [hk]; rfl
  have t10 : (r.kind == 10) = false := by rw [hk]; rfl
  have HV : Hid ((kindOk ds r) = (plainB r false true false false 0 && (between r.bytes.length 1 16))) := by show _ = _; simp [kindOk, hk, Bool.and_assoc]
  rw [HV.out]
  have CP := Lib.hid (fun w => iPlain0100_c r Ab cb An cn At ct Ak ck 0 w h.lens)
  generalize (plainB r false true false false 0) = p at *
  clear HV hk
  have CI := Lib.hid (fun w => iInRange_c (r.bytes.length : Int) 1 16 w)
  have HB : Hid (between r.bytes.length 1 16 = (decide (((1) : Int) ≤ (r.bytes.length : Int)) && decide ((r.bytes.length : Int) ≤ 16))) := rfl
  rw [← HB.out] at CI
  clear HB
  generalize between r.bytes.length 1 16 = q at *
  have hlb := h.lens.1
  unfold vrule vdesc at *
  cases p
  · go_enter Try.func59, Try.ntmps59
    go_wp2_with fail
    refine (CP.out _).mono ?_; rintro _ w1 ⟨rfl, he1⟩
    go_wp2
    go_ret
    exact ⟨ret_bool (by simp), eb.trans he1⟩
  go_enter Try.func59, Try.ntmps59
  go_wp2_with fail
  refine (CP.out _).mono ?_; rintro _ w1 ⟨rfl, he1⟩
  go_wp2_with fail
  refine (CI.out _).mono ?_; rintro _ w2 ⟨rfl, he2⟩
  go_wp2
  go_ret
  exact ⟨ret_bool (by simp), eb.trans (he1.trans he2)⟩
set_option maxRecDepth 100000 in
set_option maxHeartbeats 4000000 in
theorem iKind3_c (A : Option Addr) (ds : List DRule) (c : Nat) (r : DRule) (Ab : Option Addr) (cb : Nat) (An : Option Addr) (cn : Nat) (At : Option Addr) (ct : Nat) (Ak : Option Addr) (ck : Nat) (w : World) (hd : RdD w A ds c) (h : RdS w r Ab cb An cn At ct Ak ck) (hs : ShortR r) (hw : WfR r) (hk : r.kind = 3) :
    Gives Try.prog 59 #[vdesc (.slice A ds.length c), vrule r (.slice Ab r.bytes.length cb) (.slice An r.names.length cn) (.slice At r.tags.length ct) (.slice Ak r.kids.length ck)] w (.bool (kindOk ds r)) := by
  have eb := Ext_alloc (.cells #[.string r.nm, .int .i64 r.kind, .int .i64 r.size, .bool r.little, .slice Ab r.bytes.length cb, .slice An r.names.length cn, .slice At r.tags.length ct, .slice Ak r.kids.length ck] 35) (Ext_alloc (.cells #[.slice A ds.length c] 26) (Ext.refl w))
  have BX := fun w' (e : Ext ((w.alloc (.cells #[.slice A ds.length c] 26)).alloc (.cells #[.string r.nm, .int .i64 r.kind, .int .i64 r.size, .bool r.little, .slice Ab r.bytes.length cb, .slice An r.names.length cn, .slice At r.tags.length ct, .slice Ak r.kids.length ck] 35)) w') => boxed2 e
  have B0 := fun w' e => (BX w' e).1
  have B1 := fun w' e => (BX w' e).2.1
  clear BX
  have t1 : (r.kind == 1) = false := by rw [hk]; rfl
  have t2 : (r.kind == 2) = false := by rw [hk]; rfl
  have t3 : (r.kind == 3) = true := by rw [hk]; rfl
  have t4 : (r.kind == 4) = false := by rw [hk]; rfl
  have t5 : (r.kind == 5) = false := by rw [hk]; rfl
  have t6 : (r.kind == 6) = false := by rw [hk]; rfl
  have t7 : (r.kind == 7) = false := by rw [hk]; rfl
  have t8 : (r.kind == 8) = false := by rw [hk]; rfl
  have t9 : (r.kind == 9) = false := by rw [hk]; rfl
  have t10 : (r.kind == 10) = false := by rw [hk]; rfl
  have HV : Hid ((kindOk ds r) = (plainB r true false false false 0 && (between r.size 1 64))) := by show _ = _; simp [kindOk, hk, Bool.and_assoc]
  rw [HV.out]
  have CP := Lib.hid (fun w => iPlain1000_c r Ab cb An cn At ct Ak ck 0 w h.lens)
  generalize (plainB r true false false false 0) = p at *
  clear HV hk
  have CI := Lib.hid (fun w => iInRange_c r.size 1 64 w)
  have HB : Hid (between r.size 1 64 = (decide (((1) : Int) ≤ r.size) && decide (r.size ≤ 64))) := rfl
  rw [← HB.out] at CI
  clear HB
  generalize between r.size 1 64 = q at *
  have hlb := h.lens.1
  unfold vrule vdesc at *
  cases p
  · go_enter Try.func59, Try.ntmps59
    go_wp2_with fail
    refine (CP.out _).mono ?_; rintro _ w1 ⟨rfl, he1⟩
    go_wp2
    go_ret
    exact ⟨ret_bool (by simp), eb.trans he1⟩
  go_enter Try.func59, Try.ntmps59
  go_wp2_with fail
  refine (CP.out _).mono ?_; rintro _ w1 ⟨rfl, he1⟩
  go_wp2_with fail
  refine (CI.out _).mono ?_; rintro _ w2 ⟨rfl, he2⟩
  go_wp2
  go_ret
  exact ⟨ret_bool (by simp), eb.trans (he1.trans he2)⟩
set_option maxRecDepth 100000 in
set_option maxHeartbeats 4000000 in
theorem iKind4_c (A : Option Addr) (ds : List DRule) (c : Nat) (r : DRule) (Ab : Option Addr) (cb : Nat) (An : Option Addr) (cn : Nat) (At : Option Addr) (ct : Nat) (Ak : Option Addr) (ck : Nat) (w : World) (hd : RdD w A ds c) (h : RdS w r Ab cb An cn At ct Ak ck) (hs : ShortR r) (hw : WfR r) (hk : r.kind = 4) :
    Gives Try.prog 59 #[vdesc (.slice A ds.length c), vrule r (.slice Ab r.bytes.length cb) (.slice An r.names.length cn) (.slice At r.tags.length ct) (.slice Ak r.kids.length ck)] w (.bool (kindOk ds r)) := by
  have eb := Ext_alloc (.cells #[.string r.nm, .int .i64 r.kind, .int .i64 r.size, .bool r.little, .slice Ab r.bytes.length cb, .slice An r.names.length cn, .slice At r.tags.length ct, .slice Ak r.kids.length ck] 35) (Ext_alloc (.cells #[.slice A ds.length c] 26) (Ext.refl w))
  have BX := fun w' (e : Ext ((w.alloc (.cells #[.slice A ds.length c] 26)).alloc (.cells #[.string r.nm, .int .i64 r.kind, .int .i64 r.size, .bool r.little, .slice Ab r.bytes.length cb, .slice An r.names.length cn, .slice At r.tags.length ct, .slice Ak r.kids.length ck] 35)) w') => boxed2 e
  have B0 := fun w' e => (BX w' e).1
  have B1 := fun w' e => (BX w' e).2.1
  clear BX
  have t1 : (r.kind == 1) = false := by rw [hk]; rfl
  have t2 : (r.kind == 2) = false := by rw [hk]; rfl
  have t3 : (r.kind == 3) = false := by rw [hk]; rfl
  have t4 : (r.kind == 4) = true := by rw [hk]; rfl
  have t5 : (r.kind == 5) = false := by rw [hk]; rfl
  have t6 : (r.kind == 6) = false := by rw [hk]; rfl
  have t7 : (r.kind == 7) = false := by rw [hk]; rfl
  have t8 : (r.kind == 8) = false := by rw [hk]; rfl
  have t9 : (r.kind == 9) = false := by rw [hk]; rfl
  have t10 : (r.kind == 10) = false := by rw [hk]; rfl
  have HV : Hid ((kindOk ds r) = (plainB r false false false false 1 && (decide (0 < limD ds (r.kids.getD 0 0))))) := by show _ = _; simp [kindOk, hk, Bool.and_assoc]
  rw [HV.out]
  have CP := Lib.hid (fun w => iPlain0000_c r Ab cb An cn At ct Ak ck 1 w h.lens)
  have HKL : Hid (plainB r false false false false 1 = true → r.kids.length = 1) := plainB_kids (k := 1)
  have HPP : Hid ((plainB r false false false false 1) = true → plainB r false false false false 1 = true) := fun hq => hq
  have HKK := Lib.hid (fun hq => HKL.out (HPP.out hq)); clear HKL HPP
  generalize (plainB r false false false false 1) = p at *
  clear HV hk
  have h1 := h.k
  unfold vrule vdesc at *
  cases p
  · go_enter Try.func59, Try.ntmps59
    go_wp2_with fail
    refine wp_region_quiet_below (by kernel_rfl) (by kernel_rfl) ?_
    repeat (go_big_quiet_step ((go_at_call 65; exact Calls.regrown_of (CP.out _))))
    refine wpQuiet_nil ?_
    rintro w1 ⟨⟨nq, osq⟩, hq⟩
    have ew1 := ext_of_q hq
    clear hq nq osq
    go_wp2
    go_ret
    exact ⟨ret_bool (by simp), eb.trans ew1⟩
  have hk0 : 0 < r.kids.length := by have := HKK.out rfl; omega
  obtain ⟨bk, ok, rfl, hbk, hck⟩ := h1.at 0 hk0
  have HG : Hid (r.kids.getD 0 0 = r.kids[0]) := by show _ = _; simp [List.getD_eq_getElem?_getD, List.getElem?_eq_getElem hk0]
  rw [HG.out]
  rw [Nat.add_zero] at hck
  generalize r.kids[0] = kid at *
  have CL := Lib.hid (fun w h => iLimit_c A ds c kid w h)
  unfold vdesc at CL
  generalize limD ds kid = lim at *
  have hck' := fun w' (e : Ext _ w') => hck w' (eb.trans e)
  clear hck h1 h HG HKK
  have hbe := Ext_drew (Ext.refl ((w.alloc (.cells #[.slice A ds.length c] 26)).alloc (.cells #[.string r.nm, .int .i64 r.kind, .int .i64 r.size, .bool r.little, .slice Ab r.bytes.length cb, .slice An r.names.length cn, .slice At r.tags.length ct, .slice (some ⟨bk, ok, none⟩) r.kids.length ck] 35)))
  go_enter Try.func59, Try.ntmps59
  go_wp2_with fail
  refine wp_region_quiet_below (by kernel_rfl) (by kernel_rfl) ?_
  repeat (go_big_quiet_step ((first | (go_at_call 65; exact Calls.regrown_of (CP.out _)) | (go_at_call 66; exact Calls.regrown_of (CL.out _ (hd.ext (eb.trans (by first | assumption | exact Ext_self _ | exact Ext_drew (Ext_self _) | exact Ext_regrown _ _ (Ext_self _)))))))))
  refine wpQuiet_nil ?_
  rintro w1 ⟨⟨nq, osq⟩, hq⟩
  have ew1 := ext_of_q hq
  clear hq nq osq
  go_wp2
  go_ret
  exact ⟨ret_bool (by simp), eb.trans ew1⟩
set_option maxRecDepth 100000 in
set_option maxHeartbeats 4000000 in
theorem iKind5_c (A : Option Addr) (ds : List DRule) (c : Nat) (r : DRule) (Ab : Option Addr) (cb : Nat) (An : Option Addr) (cn : Nat) (At : Option Addr) (ct : Nat) (Ak : Option Addr) (ck : Nat) (w : World) (hd : RdD w A ds c) (h : RdS w r Ab cb An cn At ct Ak ck) (hs : ShortR r) (hw : WfR r) (hk : r.kind = 5) :
    Gives Try.prog 59 #[vdesc (.slice A ds.length c), vrule r (.slice Ab r.bytes.length cb) (.slice An r.names.length cn) (.slice At r.tags.length ct) (.slice Ak r.kids.length ck)] w (.bool (kindOk ds r)) := by
  have eb := Ext_alloc (.cells #[.string r.nm, .int .i64 r.kind, .int .i64 r.size, .bool r.little, .slice Ab r.bytes.length cb, .slice An r.names.length cn, .slice At r.tags.length ct, .slice Ak r.kids.length ck] 35) (Ext_alloc (.cells #[.slice A ds.length c] 26) (Ext.refl w))
  have BX := fun w' (e : Ext ((w.alloc (.cells #[.slice A ds.length c] 26)).alloc (.cells #[.string r.nm, .int .i64 r.kind, .int .i64 r.size, .bool r.little, .slice Ab r.bytes.length cb, .slice An r.names.length cn, .slice At r.tags.length ct, .slice Ak r.kids.length ck] 35)) w') => boxed2 e
  have B0 := fun w' e => (BX w' e).1
  have B1 := fun w' e => (BX w' e).2.1
  clear BX
  have t1 : (r.kind == 1) = false := by rw [hk]; rfl
  have t2 : (r.kind == 2) = false := by rw [hk]; rfl
  have t3 : (r.kind == 3) = false := by rw [hk]; rfl
  have t4 : (r.kind == 4) = false := by rw [hk]; rfl
  have t5 : (r.kind == 5) = true := by rw [hk]; rfl
  have t6 : (r.kind == 6) = false := by rw [hk]; rfl
  have t7 : (r.kind == 7) = false := by rw [hk]; rfl
  have t8 : (r.kind == 8) = false := by rw [hk]; rfl
  have t9 : (r.kind == 9) = false := by rw [hk]; rfl
  have t10 : (r.kind == 10) = false := by rw [hk]; rfl
  have HV : Hid ((kindOk ds r) = (plainB r false false false false 2 && (decide (0 < limD ds (r.kids.getD 0 0))))) := by show _ = _; simp [kindOk, hk, Bool.and_assoc]
  rw [HV.out]
  have CP := Lib.hid (fun w => iPlain0000_c r Ab cb An cn At ct Ak ck 2 w h.lens)
  have HKL : Hid (plainB r false false false false 2 = true → r.kids.length = 2) := plainB_kids (k := 2)
  have HPP : Hid ((plainB r false false false false 2) = true → plainB r false false false false 2 = true) := fun hq => hq
  have HKK := Lib.hid (fun hq => HKL.out (HPP.out hq)); clear HKL HPP
  generalize (plainB r false false false false 2) = p at *
  clear HV hk
  have h1 := h.k
  unfold vrule vdesc at *
  cases p
  · go_enter Try.func59, Try.ntmps59
    go_wp2_with fail
    refine wp_region_quiet_below (by kernel_rfl) (by kernel_rfl) ?_
    repeat (go_big_quiet_step ((go_at_call 65; exact Calls.regrown_of (CP.out _))))
    refine wpQuiet_nil ?_
    rintro w1 ⟨⟨nq, osq⟩, hq⟩
    have ew1 := ext_of_q hq
    clear hq nq osq
    go_wp2
    go_ret
    exact ⟨ret_bool (by simp), eb.trans ew1⟩
  have hk0 : 0 < r.kids.length := by have := HKK.out rfl; omega
  obtain ⟨bk, ok, rfl, hbk, hck⟩ := h1.at 0 hk0
  have HG : Hid (r.kids.getD 0 0 = r.kids[0]) := by show _ = _; simp [List.getD_eq_getElem?_getD, List.getElem?_eq_getElem hk0]
  rw [HG.out]
  rw [Nat.add_zero] at hck
  generalize r.kids[0] = kid at *
  have CL := Lib.hid (fun w h => iLimit_c A ds c kid w h)
  unfold vdesc at CL
  generalize limD ds kid = lim at *
  have hck' := fun w' (e : Ext _ w') => hck w' (eb.trans e)
  clear hck h1 h HG HKK
  have hbe := Ext_drew (Ext.refl ((w.alloc (.cells #[.slice A ds.length c] 26)).alloc (.cells #[.string r.nm, .int .i64 r.kind, .int .i64 r.size, .bool r.little, .slice Ab r.bytes.length cb, .slice An r.names.length cn, .slice At r.tags.length ct, .slice (some ⟨bk, ok, none⟩) r.kids.length ck] 35)))
  go_enter Try.func59, Try.ntmps59
  go_wp2_with fail
  refine wp_region_quiet_below (by kernel_rfl) (by kernel_rfl) ?_
  repeat (go_big_quiet_step ((first | (go_at_call 65; exact Calls.regrown_of (CP.out _)) | (go_at_call 66; exact Calls.regrown_of (CL.out _ (hd.ext (eb.trans (by first | assumption | exact Ext_self _ | exact Ext_drew (Ext_self _) | exact Ext_regrown _ _ (Ext_self _)))))))))
  refine wpQuiet_nil ?_
  rintro w1 ⟨⟨nq, osq⟩, hq⟩
  have ew1 := ext_of_q hq
  clear hq nq osq
  go_wp2
  go_ret
  exact ⟨ret_bool (by simp), eb.trans ew1⟩
set_option maxRecDepth 100000 in
set_option maxHeartbeats 4000000 in
theorem iKind6_c (A : Option Addr) (ds : List DRule) (c : Nat) (r : DRule) (Ab : Option Addr) (cb : Nat) (An : Option Addr) (cn : Nat) (At : Option Addr) (ct : Nat) (Ak : Option Addr) (ck : Nat) (w : World) (hd : RdD w A ds c) (h : RdS w r Ab cb An cn At ct Ak ck) (hs : ShortR r) (hw : WfR r) (hk : r.kind = 6) :
    Gives Try.prog 59 #[vdesc (.slice A ds.length c), vrule r (.slice Ab r.bytes.length cb) (.slice An r.names.length cn) (.slice At r.tags.length ct) (.slice Ak r.kids.length ck)] w (.bool (kindOk ds r)) := by
  have eb := Ext_alloc (.cells #[.string r.nm, .int .i64 r.kind, .int .i64 r.size, .bool r.little, .slice Ab r.bytes.length cb, .slice An r.names.length cn, .slice At r.tags.length ct, .slice Ak r.kids.length ck] 35) (Ext_alloc (.cells #[.slice A ds.length c] 26) (Ext.refl w))
  have BX := fun w' (e : Ext ((w.alloc (.cells #[.slice A ds.length c] 26)).alloc (.cells #[.string r.nm, .int .i64 r.kind, .int .i64 r.size, .bool r.little, .slice Ab r.bytes.length cb, .slice An r.names.length cn, .slice At r.tags.length ct, .slice Ak r.kids.length ck] 35)) w') => boxed2 e
  have B0 := fun w' e => (BX w' e).1
  have B1 := fun w' e => (BX w' e).2.1
  clear BX
  have t1 : (r.kind == 1) = false := by rw [hk]; rfl
  have t2 : (r.kind == 2) = false := by rw [hk]; rfl
  have t3 : (r.kind == 3) = false := by rw [hk]; rfl
  have t4 : (r.kind == 4) = false := by rw [hk]; rfl
  have t5 : (r.kind == 5) = false := by rw [hk]; rfl
  have t6 : (r.kind == 6) = true := by rw [hk]; rfl
  have t7 : (r.kind == 7) = false := by rw [hk]; rfl
  have t8 : (r.kind == 8) = false := by rw [hk]; rfl
  have t9 : (r.kind == 9) = false := by rw [hk]; rfl
  have t10 : (r.kind == 10) = false := by rw [hk]; rfl
  have HV : Hid (kindOk ds r = seqOk r) := by show _ = _; simp [kindOk, hk]
  rw [HV.out]
  have C := Lib.hid (fun w h => iSeq_c r Ab cb An cn At ct Ak ck w h hw)
  generalize seqOk r = q at *
  clear HV hk
  unfold vrule vdesc at *
  go_enter Try.func59, Try.ntmps59
  go_wp2_with fail
  refine (C.out _ (h.ext eb)).mono ?_; rintro _ w1 ⟨rfl, he1⟩
  go_wp2
  go_ret
  exact ⟨rfl, eb.trans he1⟩
set_option maxRecDepth 100000 in
set_option maxHeartbeats 4000000 in
theorem iKind7_c (A : Option Addr) (ds : List DRule) (c : Nat) (r : DRule) (Ab : Option Addr) (cb : Nat) (An : Option Addr) (cn : Nat) (At : Option Addr) (ct : Nat) (Ak : Option Addr) (ck : Nat) (w : World) (hd : RdD w A ds c) (h : RdS w r Ab cb An cn At ct Ak ck) (hs : ShortR r) (hw : WfR r) (hk : r.kind = 7) :
    Gives Try.prog 59 #[vdesc (.slice A ds.length c), vrule r (.slice Ab r.bytes.length cb) (.slice An r.names.length cn) (.slice At r.tags.length ct) (.slice Ak r.kids.length ck)] w (.bool (kindOk ds r)) := by
  have eb := Ext_alloc (.cells #[.string r.nm, .int .i64 r.kind, .int .i64 r.size, .bool r.little, .slice Ab r.bytes.length cb, .slice An r.names.length cn, .slice At r.tags.length ct, .slice Ak r.kids.length ck] 35) (Ext_alloc (.cells #[.slice A ds.length c] 26) (Ext.refl w))
  have BX := fun w' (e : Ext ((w.alloc (.cells #[.slice A ds.length c] 26)).alloc (.cells #[.string r.nm, .int .i64 r.kind, .int .i64 r.size, .bool r.little, .slice Ab r.bytes.length cb, .slice An r.names.length cn, .slice At r.tags.length ct, .slice Ak r.kids.length ck] 35)) w') => boxed2 e
  have B0 := fun w' e => (BX w' e).1
  have B1 := fun w' e => (BX w' e).2.1
  clear BX
  have t1 : (r.kind == 1) = false := by rw [hk]; rfl
  have t2 : (r.kind == 2) = false := by rw [hk]; rfl
  have t3 : (r.kind == 3) = false := by rw [hk]; rfl
  have t4 : (r.kind == 4) = false := by rw [hk]; rfl
  have t5 : (r.kind == 5) = false := by rw [hk]; rfl
  have t6 : (r.kind == 6) = false := by rw [hk]; rfl
  have t7 : (r.kind == 7) = true := by rw [hk]; rfl
  have t8 : (r.kind == 8) = false := by rw [hk]; rfl
  have t9 : (r.kind == 9) = false := by rw [hk]; rfl
  have t10 : (r.kind == 10) = false := by rw [hk]; rfl
  have HV : Hid (kindOk ds r = choOk ds r) := by show _ = _; simp [kindOk, hk]
  rw [HV.out]
  have C := Lib.hid (fun w hd h => iChoice_c A ds c r Ab cb An cn At ct Ak ck w hd h hs)
  generalize choOk ds r = q at *
  clear HV hk
  unfold vrule vdesc at *
  go_enter Try.func59, Try.ntmps59
  go_wp2_with fail
  refine (C.out _ (hd.ext eb) (h.ext eb)).mono ?_; rintro _ w1 ⟨rfl, he1⟩
  go_wp2
  go_ret
  exact ⟨rfl, eb.trans he1⟩
set_option maxRecDepth 100000 in
set_option maxHeartbeats 4000000 in
theorem iKind8_c (A : Option Addr) (ds : List DRule) (c : Nat) (r : DRule) (Ab : Option Addr) (cb : Nat) (An : Option Addr) (cn : Nat) (At : Option Addr) (ct : Nat) (Ak : Option Addr) (ck : Nat) (w : World) (hd : RdD w A ds c) (h : RdS w r Ab cb An cn At ct Ak ck) (hs : ShortR r) (hw : WfR r) (hk : r.kind = 8) :
    Gives Try.prog 59 #[vdesc (.slice A ds.length c), vrule r (.slice Ab r.bytes.length cb) (.slice An r.names.length cn) (.slice At r.tags.length ct) (.slice Ak r.kids.length ck)] w (.bool (kindOk ds r)) := by
  have eb := Ext_alloc (.cells #[.string r.nm, .int .i64 r.kind, .int .i64 r.size, .bool r.little, .slice Ab r.bytes.length cb, .slice An r.names.length cn, .slice At r.tags.length ct, .slice Ak r.kids.length ck] 35) (Ext_alloc (.cells #[.slice A ds.length c] 26) (Ext.refl w))
  have BX := fun w' (e : Ext ((w.alloc (.cells #[.slice A ds.length c] 26)).alloc (.cells #[.string r.nm, .int .i64 r.kind, .int .i64 r.size, .bool r.little, .slice Ab r.bytes.length cb, .slice An r.names.length cn, .slice At r.tags.length ct, .slice Ak r.kids.length ck] 35)) w') => boxed2 e
  have B0 := fun w' e => (BX w' e).1
  have B1 := fun w' e => (BX w' e).2.1
  clear BX
  have t1 : (r.kind == 1) = false := by rw [hk]; rfl
  have t2 : (r.kind == 2) = false := by rw [hk]; rfl
  have t3 : (r.kind == 3) = false := by rw [hk]; rfl
  have t4 : (r.kind == 4) = false := by rw [hk]; rfl
  have t5 : (r.kind == 5) = false := by rw [hk]; rfl
  have t6 : (r.kind == 6) = false := by rw [hk]; rfl
  have t7 : (r.kind == 7) = false := by rw [hk]; rfl
  have t8 : (r.kind == 8) = true := by rw [hk]; rfl
  have t9 : (r.kind == 9) = false := by rw [hk]; rfl
  have t10 : (r.kind == 10) = false := by rw [hk]; rfl
  have HV : Hid ((kindOk ds r) = (plainB r false false false false 1)) := by show _ = _; simp [kindOk, hk]
  rw [HV.out]
  have CP := Lib.hid (fun w => iPlain0000_c r Ab cb An cn At ct Ak ck 1 w h.lens)
  generalize (plainB r false false false false 1) = p at *
  clear HV hk
  unfold vrule vdesc at *
  go_enter Try.func59, Try.ntmps59
  go_wp2_with fail
  refine (CP.out _).mono ?_; rintro _ w1 ⟨rfl, he1⟩
  go_wp2
  go_ret
  exact ⟨rfl, eb.trans he1⟩
set_option maxRecDepth 100000 in
set_option maxHeartbeats 4000000 in
theorem iKind9_c (A : Option Addr) (ds : List DRule) (c : Nat) (r : DRule) (Ab : Option Addr) (cb : Nat) (An : Option Addr) (cn : Nat) (At : Option Addr) (ct : Nat) (Ak : Option Addr) (ck : Nat) (w : World) (hd : RdD w A ds c) (h : RdS w r Ab cb An cn At ct Ak ck) (hs : ShortR r) (hw : WfR r) (hk : r.kind = 9) :
    Gives Try.prog 59 #[vdesc (.slice A ds.length c), vrule r (.slice Ab r.bytes.length cb) (.slice An r.names.length cn) (.slice At r.tags.length ct) (.slice Ak r.kids.length ck)] w (.bool (kindOk ds r)) := by
  have eb := Ext_alloc (.cells #[.string r.nm, .int .i64 r.kind, .int .i64 r.size, .bool r.little, .slice Ab r.bytes.length cb, .slice An r.names.length cn, .slice At r.tags.length ct, .slice Ak r.kids.length ck] 35) (Ext_alloc (.cells #[.slice A ds.length c] 26) (Ext.refl w))
  have BX := fun w' (e : Ext ((w.alloc (.cells #[.slice A ds.length c] 26)).alloc (.cells #[.string r.nm, .int .i64 r.kind, .int .i64 r.size, .bool r.little, .slice Ab r.bytes.length cb, .slice An r.names.length cn, .slice At r.tags.length ct, .slice Ak r.kids.length ck] 35)) w') => boxed2 e
  have B0 := fun w' e => (BX w' e).1
  have B1 := fun w' e => (BX w' e).2.1
  clear BX
  have t1 : (r.kind == 1) = false := by rw [hk]; rfl
  have t2 : (r.kind == 2) = false := by rw [hk]; rfl
  have t3 : (r.kind == 3) = false := by rw [hk]; rfl
  have t4 : (r.kind == 4) = false := by rw [hk]; rfl
  have t5 : (r.kind == 5) = false := by rw [hk]; rfl
  have t6 : (r.kind == 6) = false := by rw [hk]; rfl
  have t7 : (r.kind == 7) = false := by rw [hk]; rfl
  have t8 : (r.kind == 8) = false := by rw [hk]; rfl
  have t9 : (r.kind == 9) = true := by rw [hk]; rfl
  have t10 : (r.kind == 10) = false := by rw [hk]; rfl
  have HV : Hid ((kindOk ds r) = (plainB r false false false false 1)) := by show _ = _; simp [kindOk, hk]
  rw [HV.out]
  have CP := Lib.hid (fun w => iPlain0000_c r Ab cb An cn At ct Ak ck 1 w h.lens)
  generalize (plainB r false false false false 1) = p at *
  clear HV hk
  unfold vrule vdesc at *
  go_enter Try.func59, Try.ntmps59
  go_wp2_with fail
  refine (CP.out _).mono ?_; rintro _ w1 ⟨rfl, he1⟩
  go_wp2
  go_ret
  exact ⟨rfl, eb.trans he1⟩
set_option maxRecDepth 100000 in
set_option maxHeartbeats 4000000 in
theorem iKind10_c (A : Option Addr) (ds : List DRule) (c : Nat) (r : DRule) (Ab : Option Addr) (cb : Nat) (An : Option Addr) (cn : Nat) (At : Option Addr) (ct : Nat) (Ak : Option Addr) (ck : Nat) (w : World) (hd : RdD w A ds c) (h : RdS w r Ab cb An cn At ct Ak ck) (hs : ShortR r) (hw : WfR r) (hk : r.kind = 10) :
    Gives Try.prog 59 #[vdesc (.slice A ds.length c), vrule r (.slice Ab r.bytes.length cb) (.slice An r.names.length cn) (.slice At r.tags.length ct) (.slice Ak r.kids.length ck)] w (.bool (kindOk ds r)) := by
  have eb := Ext_alloc (.cells #[.string r.nm, .int .i64 r.kind, .int .i64 r.size, .bool r.little, .slice Ab r.bytes.length cb, .slice An r.names.length cn, .slice At r.tags.length ct, .slice Ak r.kids.length ck] 35) (Ext_alloc (.cells #[.slice A ds.length c] 26) (Ext.refl w))
  have BX := fun w' (e : Ext ((w.alloc (.cells #[.slice A ds.length c] 26)).alloc (.cells #[.string r.nm, .int .i64 r.kind, .int .i64 r.size, .bool r.little, .slice Ab r.bytes.length cb, .slice An r.names.length cn, .slice At r.tags.length ct, .slice Ak r.kids.length ck] 35)) w') => boxed2 e
  have B0 := fun w' e => (BX w' e).1
  have B1 := fun w' e => (BX w' e).2.1
  clear BX
  have t1 : (r.kind == 1) = false := by rw [hk]; rfl
  have t2 : (r.kind == 2) = false := by rw [hk]; rfl
  have t3 : (r.kind == 3) = false := by rw [hk]; rfl
  have t4 : (r.kind == 4) = false := by rw [hk]; rfl
  have t5 : (r.kind == 5) = false := by rw [hk]; rfl
  have t6 : (r.kind == 6) = false := by rw [hk]; rfl
  have t7 : (r.kind == 7) = false := by rw [hk]; rfl
  have t8 : (r.kind == 8) = false := by rw [hk]; rfl
  have t9 : (r.kind == 9) = false := by rw [hk]; rfl
  have t10 : (r.kind == 10) = true := by rw [hk]; rfl
  have HV : Hid ((kindOk ds r) = (plainB r false true false false 0 && (r.bytes.length == 1 && !(r.bytes.getD 0 0 == 92)))) := by show _ = _; simp [kindOk, hk, Bool.and_assoc]
  rw [HV.out]
  have CP := Lib.hid (fun w => iPlain0100_c r Ab cb An cn At ct Ak ck 0 w h.lens)
  generalize (plainB r false true false false 0) = p at *
  clear HV hk
  have h1 := h.b
  have hlb := h1.len
  unfold vrule vdesc at *
  cases p
  · go_enter Try.func59, Try.ntmps59
    go_wp2_with fail
    refine (CP.out _).mono ?_; rintro _ w1 ⟨rfl, he1⟩
    go_wp2
    go_ret
    exact ⟨ret_bool (by simp), eb.trans he1⟩
  by_cases hl : r.bytes.length = 1
  · have hk0 : 0 < r.bytes.length := by omega
    obtain ⟨bb, ob, rfl, hbb, hcb⟩ := h1.at 0 hk0
    have HG : Hid (r.bytes.getD 0 0 = r.bytes[0]) := by show _ = _; simp [List.getD_eq_getElem?_getD, List.getElem?_eq_getElem hk0]
    rw [HG.out]
    rw [Nat.add_zero] at hcb
    generalize r.bytes[0] = x at *
    have hck' := fun w' (e : Ext _ w') => hcb w' (eb.trans e)
    have l1 : ((r.bytes.length : Int) == 1) = true := by simp [hl]
    have HL : Hid ((r.bytes.length == 1) = true) := by show _ = _; simp [hl]
    rw [HL.out]
    have HX : Hid ((!(x == 92)) = ((x.toNat : Int) != 92)) := by
      show _ = _
      rw [bne]; congr 1
      rw [Bool.eq_iff_iff]; simp only [beq_iff_eq]
      constructor
      · rintro rfl; rfl
      · intro hx; exact u8_inj (by simpa using hx)
    rw [HX.out]
    clear hcb h1 h HG hl HL HX
    go_enter Try.func59, Try.ntmps59
    go_wp2_with fail
    refine (CP.out _).mono ?_; rintro _ w1 ⟨rfl, he1⟩
    go_wp2
    go_ret
    exact ⟨ret_bool (by simp), eb.trans he1⟩
  · have l1 : ((r.bytes.length : Int) == 1) = false := by simp; omega
    have HL : Hid ((r.bytes.length == 1) = false) := by show _ = _; simpa using hl
    rw [HL.out]
    clear hl HL
    go_enter Try.func59, Try.ntmps59
    go_wp2_with fail
    refine (CP.out _).mono ?_; rintro _ w1 ⟨rfl, he1⟩
    go_wp2
    go_ret
    exact ⟨ret_bool (by simp), eb.trans he1⟩
set_option maxRecDepth 100000 in
set_option maxHeartbeats 4000000 in
theorem iKindX_c (A : Option Addr) (ds : List DRule) (c : Nat) (r : DRule) (Ab : Option Addr) (cb : Nat) (An : Option Addr) (cn : Nat) (At : Option Addr) (ct : Nat) (Ak : Option Addr) (ck : Nat) (w : World) (hd : RdD w A ds c) (h : RdS w r Ab cb An cn At ct Ak ck) (hs : ShortR r) (hw : WfR r) (hk : r.kind < 1 ∨ 10 < r.kind) :
    Gives Try.prog 59 #[vdesc (.slice A ds.length c), vrule r (.slice Ab r.bytes.length cb) (.slice An r.names.length cn) (.slice At r.tags.length ct) (.slice Ak r.kids.length ck)] w (.bool (kindOk ds r)) := by
  have eb := Ext_alloc (.cells #[.string r.nm, .int .i64 r.kind, .int .i64 r.size, .bool r.little, .slice Ab r.bytes.length cb, .slice An r.names.length cn, .slice At r.tags.length ct, .slice Ak r.kids.length ck] 35) (Ext_alloc (.cells #[.slice A ds.length c] 26) (Ext.refl w))
  have BX := fun w' (e : Ext ((w.alloc (.cells #[.slice A ds.length c] 26)).alloc (.cells #[.string r.nm, .int .i64 r.kind, .int .i64 r.size, .bool r.little, .slice Ab r.bytes.length cb, .slice An r.names.length cn, .slice At r.tags.length ct, .slice Ak r.kids.length ck] 35)) w') => boxed2 e
  have B0 := fun w' e => (BX w' e).1
  have B1 := fun w' e => (BX w' e).2.1
  clear BX
  have t1 : (r.kind == 1) = false := by simp; omega
  have t2 : (r.kind == 2) = false := by simp; omega
  have t3 : (r.kind == 3) = false := by simp; omega
  have t4 : (r.kind == 4) = false := by simp; omega
  have t5 : (r.kind == 5) = false := by simp; omega
  have t6 : (r.kind == 6) = false := by simp; omega
  have t7 : (r.kind == 7) = false := by simp; omega
  have t8 : (r.kind == 8) = false := by simp; omega
  have t9 : (r.kind == 9) = false := by simp; omega
  have t10 : (r.kind == 10) = false := by simp; omega
  have HV : Hid ((kindOk ds r) = false) := by
    show _ = _; unfold kindOk
    rw [if_neg (by omega), if_neg (by omega), if_neg (by omega), if_neg (by omega), if_neg (by omega), if_neg (by omega), if_neg (by omega), if_neg (by omega), if_neg (by omega), if_neg (by omega)]
  rw [HV.out]
  clear HV hk
  unfold vrule vdesc at *
  go_enter Try.func59, Try.ntmps59
  go_wp2
  go_ret
  exact ⟨rfl, eb⟩
end Go.Proofs.Ytophjmphjdhjoaa

/- Kinds of rules, of the reference. -/
namespace Go.Proofs.Ytophjmphjdhjoaa
open Go.RowKit Go.Sort

set_option maxRecDepth 100000 in
set_option maxHeartbeats 4000000 in
theorem sKind1_c (A : Option Addr) (ds : List DRule) (c : Nat) (r : DRule) (Ab : Option Addr) (cb : Nat) (An : Option Addr) (cn : Nat) (At : Option Addr) (ct : Nat) (Ak : Option Addr) (ck : Nat) (w : World) (hd : RdD w A ds c) (h : RdS w r Ab cb An cn At ct Ak ck) (hs : ShortR r) (hw : WfR r) (hk : r.kind = 1) :
    Gives Try.prog 51 #[vdesc (.slice A ds.length c), vrule r (.slice Ab r.bytes.length cb) (.slice An r.names.length cn) (.slice At r.tags.length ct) (.slice Ak r.kids.length ck)] w (.bool ((!r.little || r.kind == 1) && kindOk ds r)) := by
  have eb := Ext_alloc (.cells #[.string r.nm, .int .i64 r.kind, .int .i64 r.size, .bool r.little, .slice Ab r.bytes.length cb, .slice An r.names.length cn, .slice At r.tags.length ct, .slice Ak r.kids.length ck] 35) (Ext_alloc (.cells #[.slice A ds.length c] 26) (Ext.refl w))
  have BX := fun w' (e : Ext ((w.alloc (.cells #[.slice A ds.length c] 26)).alloc (.cells #[.string r.nm, .int .i64 r.kind, .int .i64 r.size, .bool r.little, .slice Ab r.bytes.length cb, .slice An r.names.length cn, .slice At r.tags.length ct, .slice Ak r.kids.length ck] 35)) w') => boxed2 e
  have B0 := fun w' e => (BX w' e).1
  have B1 := fun w' e => (BX w' e).2.1
  clear BX
  have t1 : (r.kind == 1) = true := by rw [hk]; rfl
  have t2 : (r.kind == 2) = false := by rw [hk]; rfl
  have t3 : (r.kind == 3) = false := by rw [hk]; rfl
  have t4 : (r.kind == 4) = false := by rw [hk]; rfl
  have t5 : (r.kind == 5) = false := by rw [hk]; rfl
  have t6 : (r.kind == 6) = false := by rw [hk]; rfl
  have t7 : (r.kind == 7) = false := by rw [hk]; rfl
  have t8 : (r.kind == 8) = false := by rw [hk]; rfl
  have t9 : (r.kind == 9) = false := by rw [hk]; rfl
  have t10 : (r.kind == 10) = false := by rw [hk]; rfl
  have HV : Hid (((!r.little || r.kind == 1) && kindOk ds r) = ((plainB r true false false false 0 && (!r.little || r.kind == 1)) && (between r.size 1 4 && (!r.little || decide (1 < r.size))))) := by
    have : kindOk ds r = (plainB r true false false false 0 && (between r.size 1 4 && (!r.little || decide (1 < r.size)))) := by simp [kindOk, hk, Bool.and_assoc]
    show _ = _; rw [this]; cases (!r.little || r.kind == 1) <;> simp
  rw [HV.out]
  have CP := Lib.hid (fun w => sShape1000_c r Ab cb An cn At ct Ak ck 0 w h.lens)
  generalize (plainB r true false false false 0 && (!r.little || r.kind == 1)) = p at *
  clear HV hk
  have CI := Lib.hid (fun w => l1In_c r.size 1 4 w)
  have HB : Hid (between r.size 1 4 = (decide (((1) : Int) ≤ r.size) && decide (r.size ≤ 4))) := rfl
  rw [← HB.out] at CI
  clear HB
  generalize between r.size 1 4 = q at *
  unfold vrule vdesc at *
  cases p
  · go_enter Try.func51, Try.ntmps51
    go_wp2_with fail
    refine (CP.out _).mono ?_; rintro _ w1 ⟨rfl, he1⟩
    go_wp2
    go_ret
    exact ⟨ret_bool (by simp), eb.trans he1⟩
  cases q
  · go_enter Try.func51, Try.ntmps51
    go_wp2_with fail
    refine (CP.out _).mono ?_; rintro _ w1 ⟨rfl, he1⟩
    go_wp2_with fail
    refine (CI.out _).mono ?_; rintro _ w2 ⟨rfl, he2⟩
    go_wp2
    go_ret
    exact ⟨ret_bool (by simp), eb.trans (he1.trans he2)⟩
  generalize r.little = li at *
  cases li
  all_goals
    cases hz : decide (1 < r.size)
    all_goals
      go_enter Try.func51, Try.ntmps51
      go_wp2_with fail
      refine (CP.out _).mono ?_; rintro _ w1 ⟨rfl, he1⟩
      go_wp2_with fail
      refine (CI.out _).mono ?_; rintro _ w2 ⟨rfl, he2⟩
      have e2 := he1.trans he2
      go_wp2
      go_ret
      exact ⟨ret_bool (by simp), eb.trans e2⟩
set_option maxRecDepth 100000 in
set_option maxHeartbeats 4000000 in
theorem sKind2_c (A : Option Addr) (ds : List DRule) (c : Nat) (r : DRule) (Ab : Option Addr) (cb : Nat) (An : Option Addr) (cn : Nat) (At : Option Addr) (ct : Nat) (Ak : Option Addr) (ck : Nat) (w : World) (hd : RdD w A ds c) (h : RdS w r Ab cb An cn At ct Ak ck) (hs : ShortR r) (hw : WfR r) (hk : r.kind = 2) :
    Gives Try.prog 51 #[vdesc (.slice A ds.length c), vrule r (.slice Ab r.bytes.length cb) (.slice An r.names.length cn) (.slice At r.tags.length ct) (.slice Ak r.kids.length ck)] w (.bool ((!r.little || r.kind == 1) && kindOk ds r)) := by
  have eb := Ext_alloc (.cells #[.string r.nm, .int .i64 r.kind, .int .i64 r.size, .bool r.little, .slice Ab r.bytes.length cb, .slice An r.names.length cn, .slice At r.tags.length ct, .slice Ak r.kids.length ck] 35) (Ext_alloc (.cells #[.slice A ds.length c] 26) (Ext.refl w))
  have BX := fun w' (e : Ext ((w.alloc (.cells #[.slice A ds.length c] 26)).alloc (.cells #[.string r.nm, .int .i64 r.kind, .int .i64 r.size, .bool r.little, .slice Ab r.bytes.length cb, .slice An r.names.length cn, .slice At r.tags.length ct, .slice Ak r.kids.length ck] 35)) w') => boxed2 e
  have B0 := fun w' e => (BX w' e).1
  have B1 := fun w' e => (BX w' e).2.1
  clear BX
  have t1 : (r.kind == 1) = false := by rw [hk]; rfl
  have t2 : (r.kind == 2) = true := by rw [hk]; rfl
  have t3 : (r.kind == 3) = false := by rw [hk]; rfl
  have t4 : (r.kind == 4) = false := by rw [hk]; rfl
  have t5 : (r.kind == 5) = false := by rw [hk]; rfl
  have t6 : (r.kind == 6) = false := by rw [hk]; rfl
  have t7 : (r.kind == 7) = false := by rw [hk]; rfl
  have t8 : (r.kind == 8) = false := by rw [hk]; rfl
  have t9 : (r.kind == 9) = false := by rw [hk]; rfl
  have t10 : (r.kind == 10) = false := by rw [hk]; rfl
  have HV : Hid (((!r.little || r.kind == 1) && kindOk ds r) = ((plainB r false true false false 0 && (!r.little || r.kind == 1)) && (between r.bytes.length 1 16))) := by
    have : kindOk ds r = (plainB r false true false false 0 && (between r.bytes.length 1 16)) := by simp [kindOk, hk, Bool.and_assoc]
    show _ = _; rw [this]; cases (!r.little || r.kind == 1) <;> simp
  rw [HV.out]
  have CP := Lib.hid (fun w => sShape0100_c r Ab cb An cn At ct Ak ck 0 w h.lens)
  generalize (plainB r false true false false 0 && (!r.little || r.kind == 1)) = p at *
  clear HV hk
  have CI := Lib.hid (fun w => l1In_c (r.bytes.length : Int) 1 16 w)
  have HB : Hid (between r.bytes.length 1 16 = (decide (((1) : Int) ≤ (r.bytes.length : Int)) && decide ((r.bytes.length : Int) ≤ 16))) := rfl
  rw [← HB.out] at CI
  clear HB
  generalize between r.bytes.length 1 16 = q at *
  have hlb := h.lens.1
  unfold vrule vdesc at *
  cases p
  · go_enter Try.func51, Try.ntmps51
    go_wp2_with fail
    refine (CP.out _).mono ?_; rintro _ w1 ⟨rfl, he1⟩
    go_wp2
    go_ret
    exact ⟨ret_bool (by simp), eb.trans he1⟩
  go_enter Try.func51, Try.ntmps51
  go_wp2_with fail
  refine (CP.out _).mono ?_; rintro _ w1 ⟨rfl, he1⟩
  go_wp2_with fail
  refine (CI.out _).mono ?_; rintro _ w2 ⟨rfl, he2⟩
  go_wp2
  go_ret
  exact ⟨ret_bool (by simp), eb.trans (he1.trans he2)⟩
set_option maxRecDepth 100000 in
set_option maxHeartbeats 4000000 in
theorem sKind3_c (A : Option Addr) (ds : List DRule) (c : Nat) (r : DRule) (Ab : Option Addr) (cb : Nat) (An : Option Addr) (cn : Nat) (At : Option Addr) (ct : Nat) (Ak : Option Addr) (ck : Nat) (w : World) (hd : RdD w A ds c) (h : RdS w r Ab cb An cn At ct Ak ck) (hs : ShortR r) (hw : WfR r) (hk : r.kind = 3) :
    Gives Try.prog 51 #[vdesc (.slice A ds.length c), vrule r (.slice Ab r.bytes.length cb) (.slice An r.names.length cn) (.slice At r.tags.length ct) (.slice Ak r.kids.length ck)] w (.bool ((!r.little || r.kind == 1) && kindOk ds r)) := by
  have eb := Ext_alloc (.cells #[.string r.nm, .int .i64 r.kind, .int .i64 r.size, .bool r.little, .slice Ab r.bytes.length cb, .slice An r.names.length cn, .slice At r.tags.length ct, .slice Ak r.kids.length ck] 35) (Ext_alloc (.cells #[.slice A ds.length c] 26) (Ext.refl w))
  have BX := fun w' (e : Ext ((w.alloc (.cells #[.slice A ds.length c] 26)).alloc (.cells #[.string r.nm, .int .i64 r.kind, .int .i64 r.size, .bool r.little, .slice Ab r.bytes.length cb, .slice An r.names.length cn, .slice At r.tags.length ct, .slice Ak r.kids.length ck] 35)) w') => boxed2 e
  have B0 := fun w' e => (BX w' e).1
  have B1 := fun w' e => (BX w' e).2.1
  clear BX
  have t1 : (r.kind == 1) = false := by rw [hk]; rfl
  have t2 : (r.kind == 2) = false := by rw [hk]; rfl
  have t3 : (r.kind == 3) = true := by rw [hk]; rfl
  have t4 : (r.kind == 4) = false := by rw [hk]; rfl
  have t5 : (r.kind == 5) = false := by rw [hk]; rfl
  have t6 : (r.kind == 6) = false := by rw [hk]; rfl
  have t7 : (r.kind == 7) = false := by rw [hk]; rfl
  have t8 : (r.kind == 8) = false := by rw [hk]; rfl
  have t9 : (r.kind == 9) = false := by rw [hk]; rfl
  have t10 : (r.kind == 10) = false := by rw [hk]; rfl
  have HV : Hid (((!r.little || r.kind == 1) && kindOk ds r) = ((plainB r true false false false 0 && (!r.little || r.kind == 1)) && (between r.size 1 64))) := by
    have : kindOk ds r = (plainB r true false false false 0 && (between r.size 1 64)) := by simp [kindOk, hk, Bool.and_assoc]
    show _ = _; rw [this]; cases (!r.little || r.kind == 1) <;> simp
  rw [HV.out]
  have CP := Lib.hid (fun w => sShape1000_c r Ab cb An cn At ct Ak ck 0 w h.lens)
  generalize (plainB r true false false false 0 && (!r.little || r.kind == 1)) = p at *
  clear HV hk
  have CI := Lib.hid (fun w => l1In_c r.size 1 64 w)
  have HB : Hid (between r.size 1 64 = (decide (((1) : Int) ≤ r.size) && decide (r.size ≤ 64))) := rfl
  rw [← HB.out] at CI
  clear HB
  generalize between r.size 1 64 = q at *
  have hlb := h.lens.1
  unfold vrule vdesc at *
  cases p
  · go_enter Try.func51, Try.ntmps51
    go_wp2_with fail
    refine (CP.out _).mono ?_; rintro _ w1 ⟨rfl, he1⟩
    go_wp2
    go_ret
    exact ⟨ret_bool (by simp), eb.trans he1⟩
  go_enter Try.func51, Try.ntmps51
  go_wp2_with fail
  refine (CP.out _).mono ?_; rintro _ w1 ⟨rfl, he1⟩
  go_wp2_with fail
  refine (CI.out _).mono ?_; rintro _ w2 ⟨rfl, he2⟩
  go_wp2
  go_ret
  exact ⟨ret_bool (by simp), eb.trans (he1.trans he2)⟩
set_option maxRecDepth 100000 in
set_option maxHeartbeats 4000000 in
theorem sKind4_c (A : Option Addr) (ds : List DRule) (c : Nat) (r : DRule) (Ab : Option Addr) (cb : Nat) (An : Option Addr) (cn : Nat) (At : Option Addr) (ct : Nat) (Ak : Option Addr) (ck : Nat) (w : World) (hd : RdD w A ds c) (h : RdS w r Ab cb An cn At ct Ak ck) (hs : ShortR r) (hw : WfR r) (hk : r.kind = 4) :
    Gives Try.prog 51 #[vdesc (.slice A ds.length c), vrule r (.slice Ab r.bytes.length cb) (.slice An r.names.length cn) (.slice At r.tags.length ct) (.slice Ak r.kids.length ck)] w (.bool ((!r.little || r.kind == 1) && kindOk ds r)) := by
  have eb := Ext_alloc (.cells #[.string r.nm, .int .i64 r.kind, .int .i64 r.size, .bool r.little, .slice Ab r.bytes.length cb, .slice An r.names.length cn, .slice At r.tags.length ct, .slice Ak r.kids.length ck] 35) (Ext_alloc (.cells #[.slice A ds.length c] 26) (Ext.refl w))
  have BX := fun w' (e : Ext ((w.alloc (.cells #[.slice A ds.length c] 26)).alloc (.cells #[.string r.nm, .int .i64 r.kind, .int .i64 r.size, .bool r.little, .slice Ab r.bytes.length cb, .slice An r.names.length cn, .slice At r.tags.length ct, .slice Ak r.kids.length ck] 35)) w') => boxed2 e
  have B0 := fun w' e => (BX w' e).1
  have B1 := fun w' e => (BX w' e).2.1
  clear BX
  have t1 : (r.kind == 1) = false := by rw [hk]; rfl
  have t2 : (r.kind == 2) = false := by rw [hk]; rfl
  have t3 : (r.kind == 3) = false := by rw [hk]; rfl
  have t4 : (r.kind == 4) = true := by rw [hk]; rfl
  have t5 : (r.kind == 5) = false := by rw [hk]; rfl
  have t6 : (r.kind == 6) = false := by rw [hk]; rfl
  have t7 : (r.kind == 7) = false := by rw [hk]; rfl
  have t8 : (r.kind == 8) = false := by rw [hk]; rfl
  have t9 : (r.kind == 9) = false := by rw [hk]; rfl
  have t10 : (r.kind == 10) = false := by rw [hk]; rfl
  have HV : Hid (((!r.little || r.kind == 1) && kindOk ds r) = ((plainB r false false false false 1 && (!r.little || r.kind == 1)) && (decide (0 < limD ds (r.kids.getD 0 0))))) := by
    have : kindOk ds r = (plainB r false false false false 1 && (decide (0 < limD ds (r.kids.getD 0 0)))) := by simp [kindOk, hk, Bool.and_assoc]
    show _ = _; rw [this]; cases (!r.little || r.kind == 1) <;> simp
  rw [HV.out]
  have CP := Lib.hid (fun w => sShape0000_c r Ab cb An cn At ct Ak ck 1 w h.lens)
  have HKL : Hid (plainB r false false false false 1 = true → r.kids.length = 1) := plainB_kids (k := 1)
  have HPP : Hid ((plainB r false false false false 1 && (!r.little || r.kind == 1)) = true → plainB r false false false false 1 = true) := by intro hq; rw [Bool.and_eq_true] at hq; exact hq.1
  have HKK := Lib.hid (fun hq => HKL.out (HPP.out hq)); clear HKL HPP
  generalize (plainB r false false false false 1 && (!r.little || r.kind == 1)) = p at *
  clear HV hk
  have h1 := h.k
  unfold vrule vdesc at *
  cases p
  · go_enter Try.func51, Try.ntmps51
    go_wp2_with fail
    refine wp_region_quiet_below (by kernel_rfl) (by kernel_rfl) ?_
    repeat (go_big_quiet_step ((go_at_call 60; exact Calls.regrown_of (CP.out _))))
    refine wpQuiet_nil ?_
    rintro w1 ⟨⟨nq, osq⟩, hq⟩
    have ew1 := ext_of_q hq
    clear hq nq osq
    go_wp2
    go_ret
    exact ⟨ret_bool (by simp), eb.trans ew1⟩
  have hk0 : 0 < r.kids.length := by have := HKK.out rfl; omega
  obtain ⟨bk, ok, rfl, hbk, hck⟩ := h1.at 0 hk0
  have HG : Hid (r.kids.getD 0 0 = r.kids[0]) := by show _ = _; simp [List.getD_eq_getElem?_getD, List.getElem?_eq_getElem hk0]
  rw [HG.out]
  rw [Nat.add_zero] at hck
  generalize r.kids[0] = kid at *
  have CL := Lib.hid (fun w h => sLimit_c A ds c kid w h)
  unfold vdesc at CL
  generalize limD ds kid = lim at *
  have hck' := fun w' (e : Ext _ w') => hck w' (eb.trans e)
  clear hck h1 h HG HKK
  have hbe := Ext_drew (Ext.refl ((w.alloc (.cells #[.slice A ds.length c] 26)).alloc (.cells #[.string r.nm, .int .i64 r.kind, .int .i64 r.size, .bool r.little, .slice Ab r.bytes.length cb, .slice An r.names.length cn, .slice At r.tags.length ct, .slice (some ⟨bk, ok, none⟩) r.kids.length ck] 35)))
  go_enter Try.func51, Try.ntmps51
  go_wp2_with fail
  refine wp_region_quiet_below (by kernel_rfl) (by kernel_rfl) ?_
  repeat (go_big_quiet_step ((first | (go_at_call 60; exact Calls.regrown_of (CP.out _)) | (go_at_call 61; exact Calls.regrown_of (CL.out _ (hd.ext (eb.trans (by first | assumption | exact Ext_self _ | exact Ext_drew (Ext_self _) | exact Ext_regrown _ _ (Ext_self _)))))))))
  refine wpQuiet_nil ?_
  rintro w1 ⟨⟨nq, osq⟩, hq⟩
  have ew1 := ext_of_q hq
  clear hq nq osq
  go_wp2
  go_ret
  exact ⟨ret_bool (by simp), eb.trans ew1⟩
set_option maxRecDepth 100000 in
set_option maxHeartbeats 4000000 in
theorem sKind5_c (A : Option Addr) (ds : List DRule) (c : Nat) (r : DRule) (Ab : Option Addr) (cb : Nat) (An : Option Addr) (cn : Nat) (At : Option Addr) (ct : Nat) (Ak : Option Addr) (ck : Nat) (w : World) (hd : RdD w A ds c) (h : RdS w r Ab cb An cn At ct Ak ck) (hs : ShortR r) (hw : WfR r) (hk : r.kind = 5) :
    Gives Try.prog 51 #[vdesc (.slice A ds.length c), vrule r (.slice Ab r.bytes.length cb) (.slice An r.names.length cn) (.slice At r.tags.length ct) (.slice Ak r.kids.length ck)] w (.bool ((!r.little || r.kind == 1) && kindOk ds r)) := by
  have eb := Ext_alloc (.cells #[.string r.nm, .int .i64 r.kind, .int .i64 r.size, .bool r.little, .slice Ab r.bytes.length cb, .slice An r.names.length cn, .slice At r.tags.length ct, .slice Ak r.kids.length ck] 35) (Ext_alloc (.cells #[.slice A ds.length c] 26) (Ext.refl w))
  have BX := fun w' (e : Ext ((w.alloc (.cells #[.slice A ds.length c] 26)).alloc (.cells #[.string r.nm, .int .i64 r.kind, .int .i64 r.size, .bool r.little, .slice Ab r.bytes.length cb, .slice An r.names.length cn, .slice At r.tags.length ct, .slice Ak r.kids.length ck] 35)) w') => boxed2 e
  have B0 := fun w' e => (BX w' e).1
  have B1 := fun w' e => (BX w' e).2.1
  clear BX
  have t1 : (r.kind == 1) = false := by rw [hk]; rfl
  have t2 : (r.kind == 2) = false := by rw [hk]; rfl
  have t3 : (r.kind == 3) = false := by rw [hk]; rfl
  have t4 : (r.kind == 4) = false := by rw [hk]; rfl
  have t5 : (r.kind == 5) = true := by rw [hk]; rfl
  have t6 : (r.kind == 6) = false := by rw [hk]; rfl
  have t7 : (r.kind == 7) = false := by rw [hk]; rfl
  have t8 : (r.kind == 8) = false := by rw [hk]; rfl
  have t9 : (r.kind == 9) = false := by rw [hk]; rfl
  have t10 : (r.kind == 10) = false := by rw [hk]; rfl
  have HV : Hid (((!r.little || r.kind == 1) && kindOk ds r) = ((plainB r false false false false 2 && (!r.little || r.kind == 1)) && (decide (0 < limD ds (r.kids.getD 0 0))))) := by
    have : kindOk ds r = (plainB r false false false false 2 && (decide (0 < limD ds (r.kids.getD 0 0)))) := by simp [kindOk, hk, Bool.and_assoc]
    show _ = _; rw [this]; cases (!r.little || r.kind == 1) <;> simp
  rw [HV.out]
  have CP := Lib.hid (fun w => sShape0000_c r Ab cb An cn At ct Ak ck 2 w h.lens)
  have HKL : Hid (plainB r false false false false 2 = true → r.kids.length = 2) := plainB_kids (k := 2)
  have HPP : Hid ((plainB r false false false false 2 && (!r.little || r.kind == 1)) = true → plainB r false false false false 2 = true) := by intro hq; rw [Bool.and_eq_true] at hq; exact hq.1
  have HKK := Lib.hid (fun hq => HKL.out (HPP.out hq)); clear HKL HPP
  generalize (plainB r false false false false 2 && (!r.little || r.kind == 1)) = p at *
  clear HV hk
  have h1 := h.k
  unfold vrule vdesc at *
  cases p
  · go_enter Try.func51, Try.ntmps51
    go_wp2_with fail
    refine wp_region_quiet_below (by kernel_rfl) (by kernel_rfl) ?_
    repeat (go_big_quiet_step ((go_at_call 60; exact Calls.regrown_of (CP.out _))))
    refine wpQuiet_nil ?_
    rintro w1 ⟨⟨nq, osq⟩, hq⟩
    have ew1 := ext_of_q hq
    clear hq nq osq
    go_wp2
    go_ret
    exact ⟨ret_bool (by simp), eb.trans ew1⟩
  have hk0 : 0 < r.kids.length := by have := HKK.out rfl; omega
  obtain ⟨bk, ok, rfl, hbk, hck⟩ := h1.at 0 hk0
  have HG : Hid (r.kids.getD 0 0 = r.kids[0]) := by show _ = _; simp [List.getD_eq_getElem?_getD, List.getElem?_eq_getElem hk0]
  rw [HG.out]
  rw [Nat.add_zero] at hck
  generalize r.kids[0] = kid at *
  have CL := Lib.hid (fun w h => sLimit_c A ds c kid w h)
  unfold vdesc at CL
  generalize limD ds kid = lim at *
  have hck' := fun w' (e : Ext _ w') => hck w' (eb.trans e)
  clear hck h1 h HG HKK
  have hbe := Ext_drew (Ext.refl ((w.alloc (.cells #[.slice A ds.length c] 26)).alloc (.cells #[.string r.nm, .int .i64 r.kind, .int .i64 r.size, .bool r.little, .slice Ab r.bytes.length cb, .slice An r.names.length cn, .slice At r.tags.length ct, .slice (some ⟨bk, ok, none⟩) r.kids.length ck] 35)))
  go_enter Try.func51, Try.ntmps51
  go_wp2_with fail
  refine wp_region_quiet_below (by kernel_rfl) (by kernel_rfl) ?_
  repeat (go_big_quiet_step ((first | (go_at_call 60; exact Calls.regrown_of (CP.out _)) | (go_at_call 61; exact Calls.regrown_of (CL.out _ (hd.ext (eb.trans (by first | assumption | exact Ext_self _ | exact Ext_drew (Ext_self _) | exact Ext_regrown _ _ (Ext_self _)))))))))
  refine wpQuiet_nil ?_
  rintro w1 ⟨⟨nq, osq⟩, hq⟩
  have ew1 := ext_of_q hq
  clear hq nq osq
  go_wp2
  go_ret
  exact ⟨ret_bool (by simp), eb.trans ew1⟩
theorem seq_eq {ds : List DRule} {r : DRule} (hk : r.kind = 6) : kindOk ds r = (plainB r false false true false (r.names.length : Int) && namesB r.names) := by
  have h1 : kindOk ds r = seqOk r := by simp [kindOk, hk]
  rw [h1]
  unfold seqOk namesB plainB
  simp only [Bool.false_or, Bool.true_or, Bool.and_true]
  by_cases hl : r.kids.length = r.names.length
  · simp [hl, Bool.and_assoc]
  · have e1 : decide ((r.kids.length : Int) = (r.names.length : Int)) = false := by simp; omega
    have e2 : decide ((r.names.length : Int) < 0) = false := by simp
    have e3 : (r.kids.length == r.names.length) = false := by simpa using hl
    rw [e1, e2, e3]; simp
set_option maxRecDepth 100000 in
set_option maxHeartbeats 4000000 in
theorem sKind6_c (A : Option Addr) (ds : List DRule) (c : Nat) (r : DRule) (Ab : Option Addr) (cb : Nat) (An : Option Addr) (cn : Nat) (At : Option Addr) (ct : Nat) (Ak : Option Addr) (ck : Nat) (w : World) (hd : RdD w A ds c) (h : RdS w r Ab cb An cn At ct Ak ck) (hs : ShortR r) (hw : WfR r) (hk : r.kind = 6) :
    Gives Try.prog 51 #[vdesc (.slice A ds.length c), vrule r (.slice Ab r.bytes.length cb) (.slice An r.names.length cn) (.slice At r.tags.length ct) (.slice Ak r.kids.length ck)] w (.bool ((!r.little || r.kind == 1) && kindOk ds r)) := by
  have eb := Ext_alloc (.cells #[.string r.nm, .int .i64 r.kind, .int .i64 r.size, .bool r.little, .slice Ab r.bytes.length cb, .slice An r.names.length cn, .slice At r.tags.length ct, .slice Ak r.kids.length ck] 35) (Ext_alloc (.cells #[.slice A ds.length c] 26) (Ext.refl w))
  have BX := fun w' (e : Ext ((w.alloc (.cells #[.slice A ds.length c] 26)).alloc (.cells #[.string r.nm, .int .i64 r.kind, .int .i64 r.size, .bool r.little, .slice Ab r.bytes.length cb, .slice An r.names.length cn, .slice At r.tags.length ct, .slice Ak r.kids.length ck] 35)) w') => boxed2 e
  have B0 := fun w' e => (BX w' e).1
  have B1 := fun w' e => (BX w' e).2.1
  clear BX
  have t1 : (r.kind == 1) = false := by rw [hk]; rfl
  have t2 : (r.kind == 2) = false := by rw [hk]; rfl
  have t3 : (r.kind == 3) = false := by rw [hk]; rfl
  have t4 : (r.kind == 4) = false := by rw [hk]; rfl
  have t5 : (r.kind == 5) = false := by rw [hk]; rfl
  have t6 : (r.kind == 6) = true := by rw [hk]; rfl
  have t7 : (r.kind == 7) = false := by rw [hk]; rfl
  have t8 : (r.kind == 8) = false := by rw [hk]; rfl
  have t9 : (r.kind == 9) = false := by rw [hk]; rfl
  have t10 : (r.kind == 10) = false := by rw [hk]; rfl
  have HV : Hid (((!r.little || r.kind == 1) && kindOk ds r) = ((plainB r false false true false (r.names.length : Int) && (!r.little || r.kind == 1)) && namesB r.names)) := by show _ = _; rw [seq_eq hk]; cases (!r.little || r.kind == 1) <;> simp
  rw [HV.out]
  have CP := Lib.hid (fun w => sShape0010_c r Ab cb An cn At ct Ak ck (r.names.length : Int) w h.lens)
  generalize (plainB r false false true false (r.names.length : Int) && (!r.little || r.kind == 1)) = p at *
  clear HV hk
  have CN := Lib.hid (fun w h => sNames_c An r.names cn w h hw.names)
  generalize namesB r.names = q at *
  have hln := h.n.len
  unfold vrule vdesc at *
  cases p
  · go_enter Try.func51, Try.ntmps51
    go_wp2_with fail
    refine (CP.out _).mono ?_; rintro _ w1 ⟨rfl, he1⟩
    go_wp2
    go_ret
    exact ⟨ret_bool (by simp), eb.trans he1⟩
  go_enter Try.func51, Try.ntmps51
  go_wp2_with fail
  refine (CP.out _).mono ?_; rintro _ w1 ⟨rfl, he1⟩
  go_wp2_with fail
  refine (CN.out _ (h.n.ext (eb.trans he1))).mono ?_; rintro _ w2 ⟨rfl, he2⟩
  go_wp2
  go_ret
  exact ⟨ret_bool (by simp), eb.trans (he1.trans he2)⟩
theorem cho_eq {ds : List DRule} {r : DRule} (hk : r.kind = 7) : kindOk ds r = (plainB r false false false true (-1) && tagsB ds r) := by
  have h1 : kindOk ds r = choOk ds r := by simp [kindOk, hk]
  rw [h1]
  unfold choOk tagsB plainB
  simp only [Bool.false_or, Bool.true_or, Bool.and_true]
  have e2 : decide ((r.tags.length : Int) + 1 < 0) = false := by simp; omega
  by_cases hl : r.kids.length = r.tags.length + 1
  · have e1 : decide ((r.kids.length : Int) = (r.tags.length : Int) + 1) = true := by simp; omega
    have e3 : (r.kids.length == r.tags.length + 1) = true := by simpa using hl
    rw [e1, e2, e3]; simp [Bool.and_assoc]
  · have e1 : decide ((r.kids.length : Int) = (r.tags.length : Int) + 1) = false := by simp; omega
    have e3 : (r.kids.length == r.tags.length + 1) = false := by simpa using hl
    rw [e1, e2, e3]; simp
set_option maxRecDepth 100000 in
set_option maxHeartbeats 4000000 in
theorem sKind7_c (A : Option Addr) (ds : List DRule) (c : Nat) (r : DRule) (Ab : Option Addr) (cb : Nat) (An : Option Addr) (cn : Nat) (At : Option Addr) (ct : Nat) (Ak : Option Addr) (ck : Nat) (w : World) (hd : RdD w A ds c) (h : RdS w r Ab cb An cn At ct Ak ck) (hs : ShortR r) (hw : WfR r) (hk : r.kind = 7) :
    Gives Try.prog 51 #[vdesc (.slice A ds.length c), vrule r (.slice Ab r.bytes.length cb) (.slice An r.names.length cn) (.slice At r.tags.length ct) (.slice Ak r.kids.length ck)] w (.bool ((!r.little || r.kind == 1) && kindOk ds r)) := by
  have eb := Ext_alloc (.cells #[.string r.nm, .int .i64 r.kind, .int .i64 r.size, .bool r.little, .slice Ab r.bytes.length cb, .slice An r.names.length cn, .slice At r.tags.length ct, .slice Ak r.kids.length ck] 35) (Ext_alloc (.cells #[.slice A ds.length c] 26) (Ext.refl w))
  have BX := fun w' (e : Ext ((w.alloc (.cells #[.slice A ds.length c] 26)).alloc (.cells #[.string r.nm, .int .i64 r.kind, .int .i64 r.size, .bool r.little, .slice Ab r.bytes.length cb, .slice An r.names.length cn, .slice At r.tags.length ct, .slice Ak r.kids.length ck] 35)) w') => boxed2 e
  have B0 := fun w' e => (BX w' e).1
  have B1 := fun w' e => (BX w' e).2.1
  clear BX
  have t1 : (r.kind == 1) = false := by rw [hk]; rfl
  have t2 : (r.kind == 2) = false := by rw [hk]; rfl
  have t3 : (r.kind == 3) = false := by rw [hk]; rfl
  have t4 : (r.kind == 4) = false := by rw [hk]; rfl
  have t5 : (r.kind == 5) = false := by rw [hk]; rfl
  have t6 : (r.kind == 6) = false := by rw [hk]; rfl
  have t7 : (r.kind == 7) = true := by rw [hk]; rfl
  have t8 : (r.kind == 8) = false := by rw [hk]; rfl
  have t9 : (r.kind == 9) = false := by rw [hk]; rfl
  have t10 : (r.kind == 10) = false := by rw [hk]; rfl
  have HV : Hid (((!r.little || r.kind == 1) && kindOk ds r) = ((plainB r false false false true (-1) && (!r.little || r.kind == 1)) && tagsB ds r)) := by show _ = _; rw [cho_eq hk]; cases (!r.little || r.kind == 1) <;> simp
  rw [HV.out]
  have CP := Lib.hid (fun w => sShape0001_c r Ab cb An cn At ct Ak ck (-1) w h.lens)
  generalize (plainB r false false false true (-1) && (!r.little || r.kind == 1)) = p at *
  clear HV hk
  have CN := Lib.hid (fun w hd h => sTags_c A ds c r Ab cb An cn At ct Ak ck w hd h hs)
  generalize tagsB ds r = q at *
  have hln := h.n.len
  unfold vrule vdesc at *
  cases p
  · go_enter Try.func51, Try.ntmps51
    go_wp2_with fail
    refine (CP.out _).mono ?_; rintro _ w1 ⟨rfl, he1⟩
    go_wp2
    go_ret
    exact ⟨ret_bool (by simp), eb.trans he1⟩
  go_enter Try.func51, Try.ntmps51
  go_wp2_with fail
  refine (CP.out _).mono ?_; rintro _ w1 ⟨rfl, he1⟩
  go_wp2_with fail
  refine (CN.out _ (hd.ext (eb.trans he1)) (h.ext (eb.trans he1))).mono ?_; rintro _ w2 ⟨rfl, he2⟩
  go_wp2
  go_ret
  exact ⟨ret_bool (by simp), eb.trans (he1.trans he2)⟩
set_option maxRecDepth 100000 in
set_option maxHeartbeats 4000000 in
theorem sKind8_c (A : Option Addr) (ds : List DRule) (c : Nat) (r : DRule) (Ab : Option Addr) (cb : Nat) (An : Option Addr) (cn : Nat) (At : Option Addr) (ct : Nat) (Ak : Option Addr) (ck : Nat) (w : World) (hd : RdD w A ds c) (h : RdS w r Ab cb An cn At ct Ak ck) (hs : ShortR r) (hw : WfR r) (hk : r.kind = 8) :
    Gives Try.prog 51 #[vdesc (.slice A ds.length c), vrule r (.slice Ab r.bytes.length cb) (.slice An r.names.length cn) (.slice At r.tags.length ct) (.slice Ak r.kids.length ck)] w (.bool ((!r.little || r.kind == 1) && kindOk ds r)) := by
  have eb := Ext_alloc (.cells #[.string r.nm, .int .i64 r.kind, .int .i64 r.size, .bool r.little, .slice Ab r.bytes.length cb, .slice An r.names.length cn, .slice At r.tags.length ct, .slice Ak r.kids.length ck] 35) (Ext_alloc (.cells #[.slice A ds.length c] 26) (Ext.refl w))
  have BX := fun w' (e : Ext ((w.alloc (.cells #[.slice A ds.length c] 26)).alloc (.cells #[.string r.nm, .int .i64 r.kind, .int .i64 r.size, .bool r.little, .slice Ab r.bytes.length cb, .slice An r.names.length cn, .slice At r.tags.length ct, .slice Ak r.kids.length ck] 35)) w') => boxed2 e
  have B0 := fun w' e => (BX w' e).1
  have B1 := fun w' e => (BX w' e).2.1
  clear BX
  have t1 : (r.kind == 1) = false := by rw [hk]; rfl
  have t2 : (r.kind == 2) = false := by rw [hk]; rfl
  have t3 : (r.kind == 3) = false := by rw [hk]; rfl
  have t4 : (r.kind == 4) = false := by rw [hk]; rfl
  have t5 : (r.kind == 5) = false := by rw [hk]; rfl
  have t6 : (r.kind == 6) = false := by rw [hk]; rfl
  have t7 : (r.kind == 7) = false := by rw [hk]; rfl
  have t8 : (r.kind == 8) = true := by rw [hk]; rfl
  have t9 : (r.kind == 9) = false := by rw [hk]; rfl
  have t10 : (r.kind == 10) = false := by rw [hk]; rfl
  have HV : Hid (((!r.little || r.kind == 1) && kindOk ds r) = (plainB r false false false false 1 && (!r.little || r.kind == 1))) := by show _ = _; simp [kindOk, hk]; rw [Bool.and_comm]
  rw [HV.out]
  have CP := Lib.hid (fun w => sShape0000_c r Ab cb An cn At ct Ak ck 1 w h.lens)
  generalize (plainB r false false false false 1 && (!r.little || r.kind == 1)) = p at *
  clear HV hk
  unfold vrule vdesc at *
  go_enter Try.func51, Try.ntmps51
  go_wp2_with fail
  refine (CP.out _).mono ?_; rintro _ w1 ⟨rfl, he1⟩
  go_wp2
  go_ret
  exact ⟨rfl, eb.trans he1⟩
set_option maxRecDepth 100000 in
set_option maxHeartbeats 4000000 in
theorem sKind9_c (A : Option Addr) (ds : List DRule) (c : Nat) (r : DRule) (Ab : Option Addr) (cb : Nat) (An : Option Addr) (cn : Nat) (At : Option Addr) (ct : Nat) (Ak : Option Addr) (ck : Nat) (w : World) (hd : RdD w A ds c) (h : RdS w r Ab cb An cn At ct Ak ck) (hs : ShortR r) (hw : WfR r) (hk : r.kind = 9) :
    Gives Try.prog 51 #[vdesc (.slice A ds.length c), vrule r (.slice Ab r.bytes.length cb) (.slice An r.names.length cn) (.slice At r.tags.length ct) (.slice Ak r.kids.length ck)] w (.bool ((!r.little || r.kind == 1) && kindOk ds r)) := by
  have eb := Ext_alloc (.cells #[.string r.nm, .int .i64 r.kind, .int .i64 r.size, .bool r.little, .slice Ab r.bytes.length cb, .slice An r.names.length cn, .slice At r.tags.length ct, .slice Ak r.kids.length ck] 35) (Ext_alloc (.cells #[.slice A ds.length c] 26) (Ext.refl w))
  have BX := fun w' (e : Ext ((w.alloc (.cells #[.slice A ds.length c] 26)).alloc (.cells #[.string r.nm, .int .i64 r.kind, .int .i64 r.size, .bool r.little, .slice Ab r.bytes.length cb, .slice An r.names.length cn, .slice At r.tags.length ct, .slice Ak r.kids.length ck] 35)) w') => boxed2 e
  have B0 := fun w' e => (BX w' e).1
  have B1 := fun w' e => (BX w' e).2.1
  clear BX
  have t1 : (r.kind == 1) = false := by rw [hk]; rfl
  have t2 : (r.kind == 2) = false := by rw [hk]; rfl
  have t3 : (r.kind == 3) = false := by rw [hk]; rfl
  have t4 : (r.kind == 4) = false := by rw [hk]; rfl
  have t5 : (r.kind == 5) = false := by rw [hk]; rfl
  have t6 : (r.kind == 6) = false := by rw [hk]; rfl
  have t7 : (r.kind == 7) = false := by rw [hk]; rfl
  have t8 : (r.kind == 8) = false := by rw [hk]; rfl
  have t9 : (r.kind == 9) = true := by rw [hk]; rfl
  have t10 : (r.kind == 10) = false := by rw [hk]; rfl
  have HV : Hid (((!r.little || r.kind == 1) && kindOk ds r) = (plainB r false false false false 1 && (!r.little || r.kind == 1))) := by show _ = _; simp [kindOk, hk]; rw [Bool.and_comm]
  rw [HV.out]
  have CP := Lib.hid (fun w => sShape0000_c r Ab cb An cn At ct Ak ck 1 w h.lens)
  generalize (plainB r false false false false 1 && (!r.little || r.kind == 1)) = p at *
  clear HV hk
  unfold vrule vdesc at *
  go_enter Try.func51, Try.ntmps51
  go_wp2_with fail
  refine (CP.out _).mono ?_; rintro _ w1 ⟨rfl, he1⟩
  go_wp2
  go_ret
  exact ⟨rfl, eb.trans he1⟩
set_option maxRecDepth 100000 in
set_option maxHeartbeats 4000000 in
theorem sKind10_c (A : Option Addr) (ds : List DRule) (c : Nat) (r : DRule) (Ab : Option Addr) (cb : Nat) (An : Option Addr) (cn : Nat) (At : Option Addr) (ct : Nat) (Ak : Option Addr) (ck : Nat) (w : World) (hd : RdD w A ds c) (h : RdS w r Ab cb An cn At ct Ak ck) (hs : ShortR r) (hw : WfR r) (hk : r.kind = 10) :
    Gives Try.prog 51 #[vdesc (.slice A ds.length c), vrule r (.slice Ab r.bytes.length cb) (.slice An r.names.length cn) (.slice At r.tags.length ct) (.slice Ak r.kids.length ck)] w (.bool ((!r.little || r.kind == 1) && kindOk ds r)) := by
  have eb := Ext_alloc (.cells #[.string r.nm, .int .i64 r.kind, .int .i64 r.size, .bool r.little, .slice Ab r.bytes.length cb, .slice An r.names.length cn, .slice At r.tags.length ct, .slice Ak r.kids.length ck] 35) (Ext_alloc (.cells #[.slice A ds.length c] 26) (Ext.refl w))
  have BX := fun w' (e : Ext ((w.alloc (.cells #[.slice A ds.length c] 26)).alloc (.cells #[.string r.nm, .int .i64 r.kind, .int .i64 r.size, .bool r.little, .slice Ab r.bytes.length cb, .slice An r.names.length cn, .slice At r.tags.length ct, .slice Ak r.kids.length ck] 35)) w') => boxed2 e
  have B0 := fun w' e => (BX w' e).1
  have B1 := fun w' e => (BX w' e).2.1
  clear BX
  have t1 : (r.kind == 1) = false := by rw [hk]; rfl
  have t2 : (r.kind == 2) = false := by rw [hk]; rfl
  have t3 : (r.kind == 3) = false := by rw [hk]; rfl
  have t4 : (r.kind == 4) = false := by rw [hk]; rfl
  have t5 : (r.kind == 5) = false := by rw [hk]; rfl
  have t6 : (r.kind == 6) = false := by rw [hk]; rfl
  have t7 : (r.kind == 7) = false := by rw [hk]; rfl
  have t8 : (r.kind == 8) = false := by rw [hk]; rfl
  have t9 : (r.kind == 9) = false := by rw [hk]; rfl
  have t10 : (r.kind == 10) = true := by rw [hk]; rfl
  have HV : Hid (((!r.little || r.kind == 1) && kindOk ds r) = ((plainB r false true false false 0 && (!r.little || r.kind == 1)) && (r.bytes.length == 1 && !(r.bytes.getD 0 0 == 92)))) := by
    have : kindOk ds r = (plainB r false true false false 0 && (r.bytes.length == 1 && !(r.bytes.getD 0 0 == 92))) := by simp [kindOk, hk, Bool.and_assoc]
    show _ = _; rw [this]; cases (!r.little || r.kind == 1) <;> simp
  rw [HV.out]
  have CP := Lib.hid (fun w => sShape0100_c r Ab cb An cn At ct Ak ck 0 w h.lens)
  generalize (plainB r false true false false 0 && (!r.little || r.kind == 1)) = p at *
  clear HV hk
  have h1 := h.b
  have hlb := h1.len
  unfold vrule vdesc at *
  cases p
  · go_enter Try.func51, Try.ntmps51
    go_wp2_with fail
    refine (CP.out _).mono ?_; rintro _ w1 ⟨rfl, he1⟩
    go_wp2
    go_ret
    exact ⟨ret_bool (by simp), eb.trans he1⟩
  by_cases hl : r.bytes.length = 1
  · have hk0 : 0 < r.bytes.length := by omega
    obtain ⟨bb, ob, rfl, hbb, hcb⟩ := h1.at 0 hk0
    have HG : Hid (r.bytes.getD 0 0 = r.bytes[0]) := by show _ = _; simp [List.getD_eq_getElem?_getD, List.getElem?_eq_getElem hk0]
    rw [HG.out]
    rw [Nat.add_zero] at hcb
    generalize r.bytes[0] = x at *
    have hck' := fun w' (e : Ext _ w') => hcb w' (eb.trans e)
    have l1 : ((r.bytes.length : Int) == 1) = true := by simp [hl]
    have HL : Hid ((r.bytes.length == 1) = true) := by show _ = _; simp [hl]
    rw [HL.out]
    have HX : Hid ((!(x == 92)) = ((x.toNat : Int) != 92)) := by
      show _ = _
      rw [bne]; congr 1
      rw [Bool.eq_iff_iff]; simp only [beq_iff_eq]
      constructor
      · rintro rfl; rfl
      · intro hx; exact u8_inj (by simpa using hx)
    rw [HX.out]
    clear hcb h1 h HG hl HL HX
    go_enter Try.func51, Try.ntmps51
    go_wp2_with fail
    refine (CP.out _).mono ?_; rintro _ w1 ⟨rfl, he1⟩
    go_wp2
    go_ret
    exact ⟨ret_bool (by simp), eb.trans he1⟩
  · have l1 : ((r.bytes.length : Int) == 1) = false := by simp; omega
    have HL : Hid ((r.bytes.length == 1) = false) := by show _ = _; simpa using hl
    rw [HL.out]
    clear hl HL
    go_enter Try.func51, Try.ntmps51
    go_wp2_with fail
    refine (CP.out _).mono ?_; rintro _ w1 ⟨rfl, he1⟩
    go_wp2
    go_ret
    exact ⟨ret_bool (by simp), eb.trans he1⟩
set_option maxRecDepth 100000 in
set_option maxHeartbeats 4000000 in
theorem sKindX_c (A : Option Addr) (ds : List DRule) (c : Nat) (r : DRule) (Ab : Option Addr) (cb : Nat) (An : Option Addr) (cn : Nat) (At : Option Addr) (ct : Nat) (Ak : Option Addr) (ck : Nat) (w : World) (hd : RdD w A ds c) (h : RdS w r Ab cb An cn At ct Ak ck) (hs : ShortR r) (hw : WfR r) (hk : r.kind < 1 ∨ 10 < r.kind) :
    Gives Try.prog 51 #[vdesc (.slice A ds.length c), vrule r (.slice Ab r.bytes.length cb) (.slice An r.names.length cn) (.slice At r.tags.length ct) (.slice Ak r.kids.length ck)] w (.bool ((!r.little || r.kind == 1) && kindOk ds r)) := by
  have eb := Ext_alloc (.cells #[.string r.nm, .int .i64 r.kind, .int .i64 r.size, .bool r.little, .slice Ab r.bytes.length cb, .slice An r.names.length cn, .slice At r.tags.length ct, .slice Ak r.kids.length ck] 35) (Ext_alloc (.cells #[.slice A ds.length c] 26) (Ext.refl w))
  have BX := fun w' (e : Ext ((w.alloc (.cells #[.slice A ds.length c] 26)).alloc (.cells #[.string r.nm, .int .i64 r.kind, .int .i64 r.size, .bool r.little, .slice Ab r.bytes.length cb, .slice An r.names.length cn, .slice At r.tags.length ct, .slice Ak r.kids.length ck] 35)) w') => boxed2 e
  have B0 := fun w' e => (BX w' e).1
  have B1 := fun w' e => (BX w' e).2.1
  clear BX
  have t1 : (r.kind == 1) = false := by simp; omega
  have t2 : (r.kind == 2) = false := by simp; omega
  have t3 : (r.kind == 3) = false := by simp; omega
  have t4 : (r.kind == 4) = false := by simp; omega
  have t5 : (r.kind == 5) = false := by simp; omega
  have t6 : (r.kind == 6) = false := by simp; omega
  have t7 : (r.kind == 7) = false := by simp; omega
  have t8 : (r.kind == 8) = false := by simp; omega
  have t9 : (r.kind == 9) = false := by simp; omega
  have t10 : (r.kind == 10) = false := by simp; omega
  have HV : Hid (((!r.little || r.kind == 1) && kindOk ds r) = false) := by
    show _ = _; unfold kindOk
    rw [if_neg (by omega), if_neg (by omega), if_neg (by omega), if_neg (by omega), if_neg (by omega), if_neg (by omega), if_neg (by omega), if_neg (by omega), if_neg (by omega), if_neg (by omega)]; simp
  rw [HV.out]
  clear HV hk
  unfold vrule vdesc at *
  go_enter Try.func51, Try.ntmps51
  go_wp2
  go_ret
  exact ⟨rfl, eb⟩
end Go.Proofs.Ytophjmphjdhjoaa

/- Kinds of rules, all together; a valid rule. -/
namespace Go.Proofs.Ytophjmphjdhjoaa
open Go.RowKit Go.Sort

theorem iKind_c (A : Option Addr) (ds : List DRule) (c : Nat) (r : DRule) (Ab : Option Addr) (cb : Nat) (An : Option Addr) (cn : Nat) (At : Option Addr) (ct : Nat) (Ak : Option Addr) (ck : Nat) (w : World) (hd : RdD w A ds c) (h : RdS w r Ab cb An cn At ct Ak ck) (hs : ShortR r) (hw : WfR r) :
    Gives Try.prog 59 #[vdesc (.slice A ds.length c), vrule r (.slice Ab r.bytes.length cb) (.slice An r.names.length cn) (.slice At r.tags.length ct) (.slice Ak r.kids.length ck)] w (.bool (kindOk ds r)) := by
  rcases (by omega : r.kind = 1 ∨ r.kind = 2 ∨ r.kind = 3 ∨ r.kind = 4 ∨ r.kind = 5 ∨ r.kind = 6 ∨ r.kind = 7 ∨ r.kind = 8 ∨ r.kind = 9 ∨ r.kind = 10 ∨ (r.kind < 1 ∨ 10 < r.kind)) with hk | hk | hk | hk | hk | hk | hk | hk | hk | hk | hk
  · exact iKind1_c A ds c r Ab cb An cn At ct Ak ck w hd h hs hw hk
  · exact iKind2_c A ds c r Ab cb An cn At ct Ak ck w hd h hs hw hk
  · exact iKind3_c A ds c r Ab cb An cn At ct Ak ck w hd h hs hw hk
  · exact iKind4_c A ds c r Ab cb An cn At ct Ak ck w hd h hs hw hk
  · exact iKind5_c A ds c r Ab cb An cn At ct Ak ck w hd h hs hw hk
  · exact iKind6_c A ds c r Ab cb An cn At ct Ak ck w hd h hs hw hk
  · exact iKind7_c A ds c r Ab cb An cn At ct Ak ck w hd h hs hw hk
  · exact iKind8_c A ds c r Ab cb An cn At ct Ak ck w hd h hs hw hk
  · exact iKind9_c A ds c r Ab cb An cn At ct Ak ck w hd h hs hw hk
  · exact iKind10_c A ds c r Ab cb An cn At ct Ak ck w hd h hs hw hk
  · exact iKindX_c A ds c r Ab cb An cn At ct Ak ck w hd h hs hw hk
theorem sKind_c (A : Option Addr) (ds : List DRule) (c : Nat) (r : DRule) (Ab : Option Addr) (cb : Nat) (An : Option Addr) (cn : Nat) (At : Option Addr) (ct : Nat) (Ak : Option Addr) (ck : Nat) (w : World) (hd : RdD w A ds c) (h : RdS w r Ab cb An cn At ct Ak ck) (hs : ShortR r) (hw : WfR r) :
    Gives Try.prog 51 #[vdesc (.slice A ds.length c), vrule r (.slice Ab r.bytes.length cb) (.slice An r.names.length cn) (.slice At r.tags.length ct) (.slice Ak r.kids.length ck)] w (.bool ((!r.little || r.kind == 1) && kindOk ds r)) := by
  rcases (by omega : r.kind = 1 ∨ r.kind = 2 ∨ r.kind = 3 ∨ r.kind = 4 ∨ r.kind = 5 ∨ r.kind = 6 ∨ r.kind = 7 ∨ r.kind = 8 ∨ r.kind = 9 ∨ r.kind = 10 ∨ (r.kind < 1 ∨ 10 < r.kind)) with hk | hk | hk | hk | hk | hk | hk | hk | hk | hk | hk
  · exact sKind1_c A ds c r Ab cb An cn At ct Ak ck w hd h hs hw hk
  · exact sKind2_c A ds c r Ab cb An cn At ct Ak ck w hd h hs hw hk
  · exact sKind3_c A ds c r Ab cb An cn At ct Ak ck w hd h hs hw hk
  · exact sKind4_c A ds c r Ab cb An cn At ct Ak ck w hd h hs hw hk
  · exact sKind5_c A ds c r Ab cb An cn At ct Ak ck w hd h hs hw hk
  · exact sKind6_c A ds c r Ab cb An cn At ct Ak ck w hd h hs hw hk
  · exact sKind7_c A ds c r Ab cb An cn At ct Ak ck w hd h hs hw hk
  · exact sKind8_c A ds c r Ab cb An cn At ct Ak ck w hd h hs hw hk
  · exact sKind9_c A ds c r Ab cb An cn At ct Ak ck w hd h hs hw hk
  · exact sKind10_c A ds c r Ab cb An cn At ct Ak ck w hd h hs hw hk
  · exact sKindX_c A ds c r Ab cb An cn At ct Ak ck w hd h hs hw hk
theorem freshNm_at {ds : List DRule} {r : DRule} {j : Nat} (h : j < ds.length) : freshNm ds r j = !(ds[j].nm.toList == r.nm.toList) := by unfold freshNm; rw [List.getElem?_eq_getElem h]
theorem kidOk_at {l : List Int} {i j : Nat} (h : j < l.length) : kidOk l i j = between l[j] 0 ((i : Int) - 1) := by unfold kidOk; rw [List.getElem?_eq_getElem h]
theorem ruleOk_at {ds : List DRule} {i : Nat} (h : i < ds.length) : ruleOk ds i = (isName ds[i].nm && (!ds[i].little || ds[i].kind == 1) && allN i (freshNm ds ds[i]) && allN ds[i].kids.length (kidOk ds[i].kids i) && kindOk ds ds[i]) := by unfold ruleOk; rw [List.getElem?_eq_getElem h]
end Go.Proofs.Ytophjmphjdhjoaa

/- Valid rules, descriptions and registries. -/
namespace Go.Proofs.Ytophjmphjdhjoaa
open Go.RowKit Go.Sort

set_option maxRecDepth 100000 in
set_option maxHeartbeats 8000000 in
theorem iRule_c (A : Option Addr) (ds : List DRule) (c : Nat) (i : Nat) (w : World) (hd : RdD w A ds c) (hi : i < ds.length) (hs : ShortD ds) (hw : WfD ds) :
    Gives Try.prog 45 #[vdesc (.slice A ds.length c), .int .i64 i] w (.bool (ruleOk ds i)) := by
  have hl := hd.len
  have hcap := hd.cap
  have eb := Ext_alloc (.cells #[.slice A ds.length c] 26) (Ext.refl w)
  have BX := fun w' (e : Ext (w.alloc (.cells #[.slice A ds.length c] 26)) w') => boxed e
  rw [ruleOk_at hi]
  obtain ⟨b, off, hA, hb, hall⟩ := hd.cells (by omega)
  have HALL := Lib.hid hall
  obtain ⟨Ab, cb, An, cn, At, ct, Ak, ck, hS, hRA⟩ := hall i hi
  clear hall
  have hsr := hs _ (List.getElem_mem hi); have hwr := hw _ (List.getElem_mem hi)
  have HF : Hid (∀ j (h : j < ds.length), freshNm ds ds[i] j = !(ds[j].nm.toList == ds[i].nm.toList)) := fun j h => freshNm_at h
  generalize ds[i] = r at *
  have HKO : Hid (∀ j (h : j < r.kids.length), kidOk r.kids i j = between r.kids[j] 0 ((i : Int) - 1)) := fun j h => kidOk_at h
  have CK := Lib.hid (fun w h h' => iKind_c A ds c r Ab cb An cn At ct Ak ck w h h' hsr hwr)
  have CN := Lib.hid (fun w => iIsName_c r.nm w hwr.nm)
  have HS := Lib.hid hS
  have hK := hS.k
  have hKl := hK.len
  generalize kindOk ds r = KO at *
  generalize isName r.nm = NM at *
  generalize freshNm ds r = FR at *
  have HSX : Hid (∀ w', Ext w w' → RdS w' r Ab cb An cn At ct Ak ck) := fun w' e => HS.out.ext e
  clear hS hsr hwr HS
  unfold vrule vdesc at *
  have CK' := Lib.hid (fun w' (e : Ext w w') => CK.out w' (hd.ext e) (HSX.out w' e))
  clear CK HSX
  replace hRA := hRA.ext eb
  obtain ⟨nm, kind, size, little, bytes, names, tags, kids⟩ := r
  obtain ⟨k0, k1, k2, k3, k4, k5, k6, k7⟩ := hRA
  dsimp only at *
  have hi1 : (i : Int) < (ds.length : Int) := by omega
  have hi0 : (0 : Int) ≤ (i : Int) := by omega
  have hic : (i : Int) ≤ (c : Int) := by omega
  have CI := Lib.hid (fun w => hasRule_c A ds.length c (i : Int) w hl)
  have HI : Hid ((decide ((0 : Int) ≤ (i : Int)) && decide ((i : Int) < (ds.length : Int))) = true) := by show _ = _; simp; omega
  rw [HI.out] at CI
  unfold vdesc at CI
  clear HI hd
  subst hA
  obtain ⟨kq, hkq⟩ : ∃ kq, (kind == 1) = kq := ⟨_, rfl⟩
  have hkn : (kind != 1) = !kq := by rw [bne, hkq]
  rw [hkq]
  cases NM
  · clear hkq hkn
    go_enter Try.func45, Try.ntmps45
    go_wp2_with fail
    refine (CI.out _).mono ?_; rintro _ w1 ⟨rfl, s1⟩
    have x1 := Ext_alloc (.cells #[.string nm, .int .i64 kind, .int .i64 size, .bool little, .slice Ab bytes.length cb, .slice An names.length cn, .slice At tags.length ct, .slice Ak kids.length ck] 35) (Ext.refl w1)
    have BR := fun w' (e : Ext (w1.alloc (.cells #[.string nm, .int .i64 kind, .int .i64 size, .bool little, .slice Ab bytes.length cb, .slice An names.length cn, .slice At tags.length ct, .slice Ak kids.length ck] 35)) w') => boxed e
    have e1 := s1.trans x1
    have eb1 := eb.trans e1
    go_wp2_with fail
    refine (CN.out _).mono ?_; rintro _ w2 ⟨rfl, s2⟩
    go_wp2
    go_ret
    exact ⟨ret_bool (by simp), eb1.trans s2⟩
  cases little
  · clear hkq hkn
    go_enter Try.func45, Try.ntmps45
    go_wp2_with fail
    refine (CI.out _).mono ?_; rintro _ w1 ⟨rfl, s1⟩
    have x1 := Ext_alloc (.cells #[.string nm, .int .i64 kind, .int .i64 size, .bool false, .slice Ab bytes.length cb, .slice An names.length cn, .slice At tags.length ct, .slice Ak kids.length ck] 35) (Ext.refl w1)
    have BR := fun w' (e : Ext (w1.alloc (.cells #[.string nm, .int .i64 kind, .int .i64 size, .bool false, .slice Ab bytes.length cb, .slice An names.length cn, .slice At tags.length ct, .slice Ak kids.length ck] 35)) w') => boxed e
    have e1 := s1.trans x1
    have eb1 := eb.trans e1
    go_wp2_with fail
    refine (CN.out _).mono ?_; rintro _ w2 ⟨rfl, s2⟩
    have hx2 := e1.trans s2
    go_wp2
    go_loopw [37] (fun q wr => ∃ k : Nat, k ≤ i ∧ q = .int .i64 k ∧ Hid (∀ j, j < k → FR j = true) ∧ Ext (w1.alloc (.cells #[.string nm, .int .i64 kind, .int .i64 size, .bool false, .slice Ab bytes.length cb, .slice An names.length cn, .slice At tags.length ct, .slice Ak kids.length ck] 35)) wr) (fun q _ => i - (intOf q).toNat)
    case atStart => exact ⟨0, by omega, rfl, (fun j hj => by omega), s2⟩
    case round =>
      clear hx2 s2
      obtain ⟨k, hk, rfl, ht, he⟩ := hrel
      have hx := e1.trans he
      by_cases hlt : k < i
      · have hkd : k < ds.length := by omega
        obtain ⟨Ab2, cb2, An2, cn2, At2, ct2, Ak2, ck2, _, hR2⟩ := HALL.out k hkd
        have HN := Lib.hid (HF.out k hkd)
        have NO : Hid (FR k = false → allN i FR = false) := fun hf => allN_no hlt hf
        have YES : Hid (FR k = true → ∀ j, j < k + 1 → FR j = true) := upTo ht.out
        generalize ds[k] = p at *
        obtain ⟨m0, m1, m2, m3, m4, m5, m6, m7⟩ := hR2.ext eb
        clear hR2 ht
        have hk1 : (k : Int) < (ds.length : Int) := by omega
        cases hq : (p.nm.toList == nm.toList)
        · have HE := Lib.hid (YES.out (HN.out.trans (by rw [hq]; rfl))); clear NO YES HN
          go_wp2
          go_roundw
          case rel => exact ⟨k+1, by omega, by go_num, HE.out, Ext_alloc _ he⟩
          case measure => simp [intOf]; omega
        · have HE := Lib.hid (NO.out (HN.out.trans (by rw [hq]; rfl))); clear NO YES HN
          go_wp2
          go_ret
          exact ⟨ret_bool (by rw [HE.out]; simp), eb1.trans (Ext_alloc _ he)⟩
      · have HE1 : Hid (allN i FR = true) := allN_yes (fun j hj => ht.out j (by omega))
        obtain ⟨wo, rfl⟩ : ∃ wo : World, wo = wr := ⟨_, rfl⟩
        clear ht HALL HF
        go_wp2
        go_loopw [50] (fun q wr => ∃ k : Nat, k ≤ kids.length ∧ q = .int .i64 k ∧ Hid (∀ j, j < k → kidOk kids i j = true) ∧ Ext (w1.alloc (.cells #[.string nm, .int .i64 kind, .int .i64 size, .bool false, .slice Ab bytes.length cb, .slice An names.length cn, .slice At tags.length ct, .slice Ak kids.length ck] 35)) wr) (fun q _ => kids.length - (intOf q).toNat)
        case atStart => exact ⟨0, by omega, rfl, (fun j hj => by omega), he⟩
        case round =>
          clear he hx
          obtain ⟨k, hk, rfl, ht, he⟩ := hrel
          have hx := e1.trans he
          by_cases hlt : k < kids.length
          · have HN := Lib.hid (HKO.out k hlt)
            have NO : Hid (kidOk kids i k = false → allN kids.length (kidOk kids i) = false) := fun hf => allN_no hlt hf
            have YES : Hid (kidOk kids i k = true → ∀ j, j < k + 1 → kidOk kids i j = true) := upTo ht.out
            obtain ⟨b2, off2, rfl, hb2, hc2⟩ := hK.at k hlt
            have hc3 := fun w' (e : Ext _ w') => hc2 w' (eb.trans e)
            clear hc2 ht
            generalize kids[k] = kid at *
            cases q1 : decide (kid < 0)
            · cases q2 : decide ((i : Int) ≤ kid)
              · have HE := Lib.hid (YES.out (HN.out.trans (by unfold between; simp at q1 q2 ⊢; omega))); clear NO YES HN
                go_wp2
                go_roundw
                case rel => exact ⟨k+1, by omega, by go_num, HE.out, he⟩
                case measure => simp [intOf]; omega
              · have HE := Lib.hid (NO.out (HN.out.trans (by unfold between; simp at q1 q2 ⊢; omega))); clear NO YES HN
                go_wp2
                go_ret
                exact ⟨ret_bool (by rw [HE.out]; simp), eb1.trans he⟩
            · have HE := Lib.hid (NO.out (HN.out.trans (by unfold between; simp at q1 ⊢; omega))); clear NO YES HN
              go_wp2
              go_ret
              exact ⟨ret_bool (by rw [HE.out]; simp), eb1.trans he⟩
          · have HE2 : Hid (allN kids.length (kidOk kids i) = true) := allN_yes (fun j hj => ht.out j (by omega))
            go_wp2_with fail
            refine (CK'.out _ (eb1.trans he)).mono ?_; rintro _ w8 ⟨rfl, s8⟩
            go_wp2
            go_ret
            exact ⟨ret_bool (by rw [HE1.out, HE2.out]; simp), eb1.trans (he.trans s8)⟩

  cases kq
  · go_enter Try.func45, Try.ntmps45
    go_wp2_with fail
    refine (CI.out _).mono ?_; rintro _ w1 ⟨rfl, s1⟩
    have x1 := Ext_alloc (.cells #[.string nm, .int .i64 kind, .int .i64 size, .bool true, .slice Ab bytes.length cb, .slice An names.length cn, .slice At tags.length ct, .slice Ak kids.length ck] 35) (Ext.refl w1)
    have BR := fun w' (e : Ext (w1.alloc (.cells #[.string nm, .int .i64 kind, .int .i64 size, .bool true, .slice Ab bytes.length cb, .slice An names.length cn, .slice At tags.length ct, .slice Ak kids.length ck] 35)) w') => boxed e
    have e1 := s1.trans x1
    have eb1 := eb.trans e1
    go_wp2_with fail
    refine (CN.out _).mono ?_; rintro _ w2 ⟨rfl, s2⟩
    go_wp2
    go_ret
    exact ⟨ret_bool (by simp), eb1.trans s2⟩
  go_enter Try.func45, Try.ntmps45
  go_wp2_with fail
  refine (CI.out _).mono ?_; rintro _ w1 ⟨rfl, s1⟩
  have x1 := Ext_alloc (.cells #[.string nm, .int .i64 kind, .int .i64 size, .bool true, .slice Ab bytes.length cb, .slice An names.length cn, .slice At tags.length ct, .slice Ak kids.length ck] 35) (Ext.refl w1)
  have BR := fun w' (e : Ext (w1.alloc (.cells #[.string nm, .int .i64 kind, .int .i64 size, .bool true, .slice Ab bytes.length cb, .slice An names.length cn, .slice At tags.length ct, .slice Ak kids.length ck] 35)) w') => boxed e
  have e1 := s1.trans x1
  have eb1 := eb.trans e1
  go_wp2_with fail
  refine (CN.out _).mono ?_; rintro _ w2 ⟨rfl, s2⟩
  have hx2 := e1.trans s2
  go_wp2
  go_loopw [37] (fun q wr => ∃ k : Nat, k ≤ i ∧ q = .int .i64 k ∧ Hid (∀ j, j < k → FR j = true) ∧ Ext (w1.alloc (.cells #[.string nm, .int .i64 kind, .int .i64 size, .bool true, .slice Ab bytes.length cb, .slice An names.length cn, .slice At tags.length ct, .slice Ak kids.length ck] 35)) wr) (fun q _ => i - (intOf q).toNat)
  case atStart => exact ⟨0, by omega, rfl, (fun j hj => by omega), s2⟩
  case round =>
    clear hx2 s2
    obtain ⟨k, hk, rfl, ht, he⟩ := hrel
    have hx := e1.trans he
    by_cases hlt : k < i
    · have hkd : k < ds.length := by omega
      obtain ⟨Ab2, cb2, An2, cn2, At2, ct2, Ak2, ck2, _, hR2⟩ := HALL.out k hkd
      have HN := Lib.hid (HF.out k hkd)
      have NO : Hid (FR k = false → allN i FR = false) := fun hf => allN_no hlt hf
      have YES : Hid (FR k = true → ∀ j, j < k + 1 → FR j = true) := upTo ht.out
      generalize ds[k] = p at *
      obtain ⟨m0, m1, m2, m3, m4, m5, m6, m7⟩ := hR2.ext eb
      clear hR2 ht
      have hk1 : (k : Int) < (ds.length : Int) := by omega
      cases hq : (p.nm.toList == nm.toList)
      · have HE := Lib.hid (YES.out (HN.out.trans (by rw [hq]; rfl))); clear NO YES HN
        go_wp2
        go_roundw
        case rel => exact ⟨k+1, by omega, by go_num, HE.out, Ext_alloc _ he⟩
        case measure => simp [intOf]; omega
      · have HE := Lib.hid (NO.out (HN.out.trans (by rw [hq]; rfl))); clear NO YES HN
        go_wp2
        go_ret
        exact ⟨ret_bool (by rw [HE.out]; simp), eb1.trans (Ext_alloc _ he)⟩
    · have HE1 : Hid (allN i FR = true) := allN_yes (fun j hj => ht.out j (by omega))
      obtain ⟨wo, rfl⟩ : ∃ wo : World, wo = wr := ⟨_, rfl⟩
      clear ht HALL HF
      go_wp2
      go_loopw [50] (fun q wr => ∃ k : Nat, k ≤ kids.length ∧ q = .int .i64 k ∧ Hid (∀ j, j < k → kidOk kids i j = true) ∧ Ext (w1.alloc (.cells #[.string nm, .int .i64 kind, .int .i64 size, .bool true, .slice Ab bytes.length cb, .slice An names.length cn, .slice At tags.length ct, .slice Ak kids.length ck] 35)) wr) (fun q _ => kids.length - (intOf q).toNat)
      case atStart => exact ⟨0, by omega, rfl, (fun j hj => by omega), he⟩
      case round =>
        clear he hx
        obtain ⟨k, hk, rfl, ht, he⟩ := hrel
        have hx := e1.trans he
        by_cases hlt : k < kids.length
        · have HN := Lib.hid (HKO.out k hlt)
          have NO : Hid (kidOk kids i k = false → allN kids.length (kidOk kids i) = false) := fun hf => allN_no hlt hf
          have YES : Hid (kidOk kids i k = true → ∀ j, j < k + 1 → kidOk kids i j = true) := upTo ht.out
          obtain ⟨b2, off2, rfl, hb2, hc2⟩ := hK.at k hlt
          have hc3 := fun w' (e : Ext _ w') => hc2 w' (eb.trans e)
          clear hc2 ht
          generalize kids[k] = kid at *
          cases q1 : decide (kid < 0)
          · cases q2 : decide ((i : Int) ≤ kid)
            · have HE := Lib.hid (YES.out (HN.out.trans (by unfold between; simp at q1 q2 ⊢; omega))); clear NO YES HN
              go_wp2
              go_roundw
              case rel => exact ⟨k+1, by omega, by go_num, HE.out, he⟩
              case measure => simp [intOf]; omega
            · have HE := Lib.hid (NO.out (HN.out.trans (by unfold between; simp at q1 q2 ⊢; omega))); clear NO YES HN
              go_wp2
              go_ret
              exact ⟨ret_bool (by rw [HE.out]; simp), eb1.trans he⟩
          · have HE := Lib.hid (NO.out (HN.out.trans (by unfold between; simp at q1 ⊢; omega))); clear NO YES HN
            go_wp2
            go_ret
            exact ⟨ret_bool (by rw [HE.out]; simp), eb1.trans he⟩
        · have HE2 : Hid (allN kids.length (kidOk kids i) = true) := allN_yes (fun j hj => ht.out j (by omega))
          go_wp2_with fail
          refine (CK'.out _ (eb1.trans he)).mono ?_; rintro _ w8 ⟨rfl, s8⟩
          go_wp2
          go_ret
          exact ⟨ret_bool (by rw [HE1.out, HE2.out]; simp), eb1.trans (he.trans s8)⟩

set_option maxRecDepth 100000 in
set_option maxHeartbeats 8000000 in
theorem sRule_c (A : Option Addr) (ds : List DRule) (c : Nat) (i : Nat) (w : World) (hd : RdD w A ds c) (hi : i < ds.length) (hs : ShortD ds) (hw : WfD ds) :
    Gives Try.prog 33 #[vdesc (.slice A ds.length c), .int .i64 i] w (.bool (ruleOk ds i)) := by
  have hl := hd.len
  have hcap := hd.cap
  have eb := Ext_alloc (.cells #[.slice A ds.length c] 26) (Ext.refl w)
  have BX := fun w' (e : Ext (w.alloc (.cells #[.slice A ds.length c] 26)) w') => boxed e
  rw [ruleOk_at hi]
  obtain ⟨b, off, hA, hb, hall⟩ := hd.cells (by omega)
  have HALL := Lib.hid hall
  obtain ⟨Ab, cb, An, cn, At, ct, Ak, ck, hS, hRA⟩ := hall i hi
  clear hall
  have hsr := hs _ (List.getElem_mem hi); have hwr := hw _ (List.getElem_mem hi)
  have HF : Hid (∀ j (h : j < ds.length), freshNm ds ds[i] j = !(ds[j].nm.toList == ds[i].nm.toList)) := fun j h => freshNm_at h
  generalize ds[i] = r at *
  have HKO : Hid (∀ j (h : j < r.kids.length), kidOk r.kids i j = between r.kids[j] 0 ((i : Int) - 1)) := fun j h => kidOk_at h
  have CK := Lib.hid (fun w h h' => sKind_c A ds c r Ab cb An cn At ct Ak ck w h h' hsr hwr)
  have CN := Lib.hid (fun w => sIsName_c r.nm w hwr.nm)
  have HS := Lib.hid hS
  have hK := hS.k
  have hKl := hK.len
  generalize kindOk ds r = KO at *
  generalize isName r.nm = NM at *
  generalize freshNm ds r = FR at *
  have HSX : Hid (∀ w', Ext w w' → RdS w' r Ab cb An cn At ct Ak ck) := fun w' e => HS.out.ext e
  clear hS hsr hwr HS
  unfold vrule vdesc at *
  have CK' := Lib.hid (fun w' (e : Ext w w') => CK.out w' (hd.ext e) (HSX.out w' e))
  clear CK HSX
  replace hRA := hRA.ext eb
  obtain ⟨nm, kind, size, little, bytes, names, tags, kids⟩ := r
  obtain ⟨k0, k1, k2, k3, k4, k5, k6, k7⟩ := hRA
  dsimp only at *
  have hi1 : (i : Int) < (ds.length : Int) := by omega
  have hi0 : (0 : Int) ≤ (i : Int) := by omega
  have hic : (i : Int) ≤ (c : Int) := by omega
  have CI := Lib.hid (fun w => l1In_c (i : Int) 0 ((ds.length : Int) - 1) w)
  have HI : Hid ((decide ((0 : Int) ≤ (i : Int)) && decide ((i : Int) ≤ (ds.length : Int) - 1)) = true) := by show _ = _; simp; omega
  rw [HI.out] at CI
  clear HI hd
  subst hA
  go_enter Try.func33, Try.ntmps33
  go_wp2_with fail
  refine (CI.out _).mono ?_; rintro _ w1 ⟨rfl, s1⟩
  have x1 := Ext_alloc (.cells #[.string nm, .int .i64 kind, .int .i64 size, .bool little, .slice Ab bytes.length cb, .slice An names.length cn, .slice At tags.length ct, .slice Ak kids.length ck] 35) (Ext.refl w1)
  have BR := fun w' (e : Ext (w1.alloc (.cells #[.string nm, .int .i64 kind, .int .i64 size, .bool little, .slice Ab bytes.length cb, .slice An names.length cn, .slice At tags.length ct, .slice Ak kids.length ck] 35)) w') => boxed e
  have e1 := s1.trans x1
  have eb1 := eb.trans e1
  go_wp2
  go_loopw [6] (fun q wr => ∃ k : Nat, k ≤ i ∧ q = .int .i64 k ∧ Hid (∀ j, j < k → FR j = true) ∧ Ext (w1.alloc (.cells #[.string nm, .int .i64 kind, .int .i64 size, .bool little, .slice Ab bytes.length cb, .slice An names.length cn, .slice At tags.length ct, .slice Ak kids.length ck] 35)) wr) (fun q _ => i - (intOf q).toNat)
  case atStart => exact ⟨0, by omega, rfl, (fun j hj => by omega), Ext.refl _⟩
  case round =>
    skip
    obtain ⟨k, hk, rfl, ht, he⟩ := hrel
    have hx := e1.trans he
    by_cases hlt : k < i
    · have hkd : k < ds.length := by omega
      obtain ⟨Ab2, cb2, An2, cn2, At2, ct2, Ak2, ck2, _, hR2⟩ := HALL.out k hkd
      have HN := Lib.hid (HF.out k hkd)
      have NO : Hid (FR k = false → allN i FR = false) := fun hf => allN_no hlt hf
      have YES : Hid (FR k = true → ∀ j, j < k + 1 → FR j = true) := upTo ht.out
      generalize ds[k] = p at *
      obtain ⟨m0, m1, m2, m3, m4, m5, m6, m7⟩ := hR2.ext eb
      clear hR2 ht
      have hk1 : (k : Int) < (ds.length : Int) := by omega
      cases hq : (p.nm.toList == nm.toList)
      · have HE := Lib.hid (YES.out (HN.out.trans (by rw [hq]; rfl))); clear NO YES HN
        go_wp2_with fail
        refine wp_region_quiet_below (by kernel_rfl) (by kernel_rfl) ?_
        repeat (go_big_quiet_step (fail))
        refine wpQuiet_nil ?_
        rintro w5 ⟨⟨nq, osq⟩, hq⟩
        have ew5 := ext_of_q hq
        clear hq nq osq
        go_wp2
        go_roundw
        case rel => exact ⟨k+1, by omega, by go_num, HE.out, he.trans ew5⟩
        case measure => simp [intOf]; omega
      · have HE := Lib.hid (NO.out (HN.out.trans (by rw [hq]; rfl))); clear NO YES HN
        go_wp2_with fail
        refine wp_region_quiet_below (by kernel_rfl) (by kernel_rfl) ?_
        repeat (go_big_quiet_step (fail))
        refine wpQuiet_nil ?_
        rintro w5 ⟨⟨nq, osq⟩, hq⟩
        have ew5 := ext_of_q hq
        clear hq nq osq
        go_wp2
        go_ret
        exact ⟨ret_bool (by rw [HE.out]; simp), eb1.trans (he.trans ew5)⟩
    · have HE1 : Hid (allN i FR = true) := allN_yes (fun j hj => ht.out j (by omega))
      obtain ⟨wo, rfl⟩ : ∃ wo : World, wo = wr := ⟨_, rfl⟩
      clear ht HALL HF
      go_wp2
      go_loopw [7] (fun q wr => ∃ k : Nat, k ≤ kids.length ∧ q = .int .i64 k ∧ Hid (∀ j, j < k → kidOk kids i j = true) ∧ Ext (w1.alloc (.cells #[.string nm, .int .i64 kind, .int .i64 size, .bool little, .slice Ab bytes.length cb, .slice An names.length cn, .slice At tags.length ct, .slice Ak kids.length ck] 35)) wr) (fun q _ => kids.length - (intOf q).toNat)
      case atStart => exact ⟨0, by omega, rfl, (fun j hj => by omega), he⟩
      case round =>
        clear he hx
        obtain ⟨k, hk, rfl, ht, he⟩ := hrel
        have hx := e1.trans he
        by_cases hlt : k < kids.length
        · have HN := Lib.hid (HKO.out k hlt)
          have NO : Hid (kidOk kids i k = false → allN kids.length (kidOk kids i) = false) := fun hf => allN_no hlt hf
          have YES : Hid (kidOk kids i k = true → ∀ j, j < k + 1 → kidOk kids i j = true) := upTo ht.out
          obtain ⟨b2, off2, rfl, hb2, hc2⟩ := hK.at k hlt
          have hc3 := fun w' (e : Ext _ w') => hc2 w' (eb.trans e)
          clear hc2 ht
          generalize kids[k] = kid at *
          have CB := Lib.hid (fun w => l1In_c kid 0 ((i : Int) - 1) w)
          have HB : Hid (between kid 0 ((i : Int) - 1) = (decide ((0 : Int) ≤ kid) && decide (kid ≤ (i : Int) - 1))) := rfl
          rw [← HB.out] at CB
          clear HB
          generalize between kid 0 ((i : Int) - 1) = q1 at *
          cases q1
          · have HE := Lib.hid (NO.out HN.out); clear NO YES HN
            go_wp2_with fail
            refine (CB.out _).mono ?_; rintro _ w6 ⟨rfl, s6⟩
            go_wp2
            go_ret
            exact ⟨ret_bool (by rw [HE.out]; simp), eb1.trans (he.trans s6)⟩
          · have HE := Lib.hid (YES.out HN.out); clear NO YES HN
            go_wp2_with fail
            refine (CB.out _).mono ?_; rintro _ w6 ⟨rfl, s6⟩
            go_wp2
            go_roundw
            case rel => exact ⟨k+1, by omega, by go_num, HE.out, he.trans s6⟩
            case measure => simp [intOf]; omega
        · have HE2 : Hid (allN kids.length (kidOk kids i) = true) := allN_yes (fun j hj => ht.out j (by omega))
          cases NM
          · go_wp2_with fail
            refine (CN.out _).mono ?_; rintro _ w7 ⟨rfl, s7⟩
            go_wp2
            go_ret
            exact ⟨ret_bool (by simp), eb1.trans (he.trans s7)⟩
          · go_wp2_with fail
            refine (CN.out _).mono ?_; rintro _ w7 ⟨rfl, s7⟩
            have e7 := he.trans s7
            have hx7 := hx.trans s7
            go_wp2_with fail
            refine (CK'.out _ (eb1.trans e7)).mono ?_; rintro _ w8 ⟨rfl, s8⟩
            go_wp2
            go_ret
            exact ⟨ret_bool (by rw [HE1.out, HE2.out]; simp), eb1.trans (e7.trans s8)⟩

set_option maxRecDepth 100000 in
set_option maxHeartbeats 4000000 in
theorem iValidDesc_c (A : Option Addr) (ds : List DRule) (c : Nat) (w : World) (hd : RdD w A ds c) (hs : ShortD ds) (hw : WfD ds) :
    Gives Try.prog 29 #[vdesc (.slice A ds.length c)] w (.bool (descOk ds)) := by
  have hl := hd.len
  have eb := Ext_alloc (.cells #[.slice A ds.length c] 26) (Ext.refl w)
  have BX := fun w' (e : Ext (w.alloc (.cells #[.slice A ds.length c] 26)) w') => boxed e
  have CI := Lib.hid (fun w => iInRange_c (ds.length : Int) 1 24 w)
  have CR := Lib.hid (fun i w h hi => iRule_c A ds c i w h hi hs hw)
  have HB : Hid (between ds.length 1 24 = (decide ((1 : Int) ≤ (ds.length : Int)) && decide ((ds.length : Int) ≤ 24))) := rfl
  rw [← HB.out] at CI
  unfold descOk
  clear HB
  generalize between ds.length 1 24 = p at *
  unfold vdesc at *
  cases p
  · go_enter Try.func29, Try.ntmps29
    go_wp2_with fail
    refine (CI.out _).mono ?_; rintro _ w5 ⟨rfl, s5⟩
    go_wp2
    go_ret
    exact ⟨ret_bool (by simp), eb.trans s5⟩
  · go_enter Try.func29, Try.ntmps29
    go_wp2_with fail
    refine (CI.out _).mono ?_; rintro _ w5 ⟨rfl, s5⟩
    go_wp2
    go_loopw [12] (fun q wr => ∃ k : Nat, k ≤ ds.length ∧ q = .int .i64 k ∧ Hid (∀ j, j < k → ruleOk ds j = true) ∧ Ext (w.alloc (.cells #[.slice A ds.length c] 26)) wr) (fun q _ => ds.length - (intOf q).toNat)
    case atStart => exact ⟨0, by omega, rfl, (fun j hj => by omega), s5⟩
    case round =>
      clear s5
      obtain ⟨k, hk, rfl, ht, he⟩ := hrel
      by_cases hlt : k < ds.length
      · have C := Lib.hid (fun w h => CR.out k w h hlt)
        have NO : Hid (ruleOk ds k = false → allN ds.length (ruleOk ds) = false) := fun hf => allN_no hlt hf
        have YES : Hid (ruleOk ds k = true → ∀ j, j < k + 1 → ruleOk ds j = true) := upTo ht.out
        generalize ruleOk ds k = q at *
        clear ht
        cases q
        · have HE := Lib.hid (NO.out rfl); clear NO YES
          go_wp2_with fail
          refine (C.out _ (hd.ext (eb.trans he))).mono ?_; rintro _ w4 ⟨rfl, s4⟩
          go_wp2
          go_ret
          exact ⟨ret_bool (by rw [HE.out]; simp), eb.trans (he.trans s4)⟩
        · have HE := Lib.hid (YES.out rfl); clear NO YES
          go_wp2_with fail
          refine (C.out _ (hd.ext (eb.trans he))).mono ?_; rintro _ w4 ⟨rfl, s4⟩
          go_wp2
          go_roundw
          case rel => exact ⟨k+1, by omega, by go_num, HE.out, he.trans s4⟩
          case measure => simp [intOf]; omega
      · have HE : Hid (allN ds.length (ruleOk ds) = true) := allN_yes (fun j hj => ht.out j (by omega))
        go_wp2
        go_ret
        exact ⟨ret_bool (by rw [HE.out]; simp), eb.trans he⟩
set_option maxRecDepth 100000 in
set_option maxHeartbeats 4000000 in
theorem sValidDesc_c (A : Option Addr) (ds : List DRule) (c : Nat) (w : World) (hd : RdD w A ds c) (hs : ShortD ds) (hw : WfD ds) :
    Gives Try.prog 16 #[vdesc (.slice A ds.length c)] w (.bool (descOk ds)) := by
  have hl := hd.len
  have eb := Ext_alloc (.cells #[.slice A ds.length c] 26) (Ext.refl w)
  have BX := fun w' (e : Ext (w.alloc (.cells #[.slice A ds.length c] 26)) w') => boxed e
  have CI := Lib.hid (fun w => l1In_c (ds.length : Int) 1 24 w)
  have CR := Lib.hid (fun i w h hi => sRule_c A ds c i w h hi hs hw)
  have HB : Hid (between ds.length 1 24 = (decide ((1 : Int) ≤ (ds.length : Int)) && decide ((ds.length : Int) ≤ 24))) := rfl
  rw [← HB.out] at CI
  unfold descOk
  clear HB
  generalize between ds.length 1 24 = p at *
  unfold vdesc at *
  go_enter Try.func16, Try.ntmps16
  go_wp2
  go_loopw [3] (fun q wr => ∃ k : Nat, k ≤ ds.length ∧ q = .int .i64 k ∧ Hid (∀ j, j < k → ruleOk ds j = true) ∧ Ext (w.alloc (.cells #[.slice A ds.length c] 26)) wr) (fun q _ => ds.length - (intOf q).toNat)
  case atStart => exact ⟨0, by omega, rfl, (fun j hj => by omega), Ext.refl _⟩
  case round =>
    obtain ⟨k, hk, rfl, ht, he⟩ := hrel
    by_cases hlt : k < ds.length
    · have C := Lib.hid (fun w h => CR.out k w h hlt)
      have NO : Hid (ruleOk ds k = false → allN ds.length (ruleOk ds) = false) := fun hf => allN_no hlt hf
      have YES : Hid (ruleOk ds k = true → ∀ j, j < k + 1 → ruleOk ds j = true) := upTo ht.out
      generalize ruleOk ds k = q at *
      clear ht
      cases q
      · have HE := Lib.hid (NO.out rfl); clear NO YES
        go_wp2_with fail
        refine (C.out _ (hd.ext (eb.trans he))).mono ?_; rintro _ w4 ⟨rfl, s4⟩
        go_wp2
        go_ret
        exact ⟨ret_bool (by rw [HE.out]; simp), eb.trans (he.trans s4)⟩
      · have HE := Lib.hid (YES.out rfl); clear NO YES
        go_wp2_with fail
        refine (C.out _ (hd.ext (eb.trans he))).mono ?_; rintro _ w4 ⟨rfl, s4⟩
        go_wp2
        go_roundw
        case rel => exact ⟨k+1, by omega, by go_num, HE.out, he.trans s4⟩
        case measure => simp [intOf]; omega
    · have HE : Hid (allN ds.length (ruleOk ds) = true) := allN_yes (fun j hj => ht.out j (by omega))
      go_wp2_with fail
      refine (CI.out _).mono ?_; rintro _ w5 ⟨rfl, s5⟩
      go_wp2
      go_ret
      exact ⟨ret_bool (by rw [HE.out]; simp), eb.trans (he.trans s5)⟩
theorem regOk_at {gs : List (List DRule)} {k : Nat} (h : k < gs.length) : (match gs[k]? with | some d => descOk d | none => true) = descOk gs[k] := by rw [List.getElem?_eq_getElem h]
def regF (gs : List (List DRule)) (i : Nat) : Bool := match gs[i]? with | some d => descOk d | none => true
end Go.Proofs.Ytophjmphjdhjoaa

/- Names of rules: FindRule, DescriptionNames, SharedNames. -/
namespace Go.Proofs.Ytophjmphjdhjoaa
open Go.RowKit Go.Sort

/-- the first rule with this name, or -1 -/
def findR (ds : List DRule) (s : ByteArray) : Int := match ds.findIdx? (fun r => r.nm.toList == s.toList) with | some i => (i : Int) | none => -1
def nmsOf (ds : List DRule) : List ByteArray := ds.map DRule.nm
theorem findR_at {ds : List DRule} {s : ByteArray} {k : Nat} (hk : k < ds.length) (h : (ds[k].nm.toList == s.toList) = true) (hn : ∀ j (hj : j < ds.length), j < k → (ds[j].nm.toList == s.toList) = false) : findR ds s = (k : Int) := by
  unfold findR
  have : ds.findIdx? (fun r => r.nm.toList == s.toList) = some k := by
    rw [List.findIdx?_eq_some_iff_getElem]
    exact ⟨hk, h, fun j hj => by rw [hn j (by omega) hj]; simp⟩
  rw [this]
theorem findR_none {ds : List DRule} {s : ByteArray} (hn : ∀ j (hj : j < ds.length), (ds[j].nm.toList == s.toList) = false) : findR ds s = -1 := by
  unfold findR
  have : ds.findIdx? (fun r => r.nm.toList == s.toList) = none := by
    rw [List.findIdx?_eq_none_iff]
    intro x hx
    obtain ⟨j, hj, rfl⟩ := List.getElem_of_mem hx
    exact hn j hj
  rw [this]
theorem findR_has (ds : List DRule) (s : ByteArray) : decide (0 ≤ findR ds s) = hasNm (nmsOf ds) s := by
  unfold findR hasNm nmsOf
  cases h : ds.findIdx? (fun r => r.nm.toList == s.toList) with
  | none =>
    rw [List.findIdx?_eq_none_iff] at h
    have : (ds.map DRule.nm).any (fun x => x.toList == s.toList) = false := by
      rw [List.any_map, List.any_eq_false]
      intro x hx
      have := h x hx
      simp only [Function.comp_apply]
      rw [this]; simp
    rw [this]; simp
  | some i =>
    rw [List.findIdx?_eq_some_iff_getElem] at h
    obtain ⟨hi, h1, _⟩ := h
    have : (ds.map DRule.nm).any (fun x => x.toList == s.toList) = true := by
      rw [List.any_map, List.any_eq_true]
      exact ⟨ds[i], List.getElem_mem hi, h1⟩
    rw [this]; simp
theorem findR_lt (ds : List DRule) (s : ByteArray) : -1 ≤ findR ds s ∧ findR ds s < ds.length ∨ findR ds s = -1 := by
  unfold findR
  cases h : ds.findIdx? (fun r => r.nm.toList == s.toList) with
  | none => exact .inr rfl
  | some i =>
    rw [List.findIdx?_eq_some_iff_getElem] at h
    obtain ⟨hi, _, _⟩ := h
    left; simp only; omega
set_option maxRecDepth 100000 in
set_option maxHeartbeats 2000000 in
theorem sFind_c (A : Option Addr) (ds : List DRule) (c : Nat) (s : ByteArray) (w : World) (hd : RdD w A ds c) :
    Gives Try.prog 31 #[vdesc (.slice A ds.length c), .string s] w (.int .i64 (findR ds s)) := by
  have hl := hd.len
  have eb := Ext_alloc (.cells #[.slice A ds.length c] 26) (Ext.refl w)
  have BX := fun w' (e : Ext (w.alloc (.cells #[.slice A ds.length c] 26)) w') => boxed e
  unfold vdesc
  go_enter Try.func31, Try.ntmps31
  go_wp2
  go_loopw [5] (fun q wr => ∃ k : Nat, k ≤ ds.length ∧ q = .int .i64 k ∧ Hid (∀ j (hj : j < ds.length), j < k → (ds[j].nm.toList == s.toList) = false) ∧ Ext (w.alloc (.cells #[.slice A ds.length c] 26)) wr) (fun q _ => ds.length - (intOf q).toNat)
  case atStart => exact ⟨0, by omega, rfl, (fun j _ hj => by omega), Ext.refl _⟩
  case round =>
    obtain ⟨k, hk, rfl, ht, he⟩ := hrel
    by_cases hlt : k < ds.length
    · obtain ⟨b, off, Ab, cb, An, cn, At, ct, Ak, ck, rfl, hb, _, hR⟩ := hd.at k hlt
      have YES : Hid ((ds[k].nm.toList == s.toList) = true → findR ds s = (k : Int)) := fun h => findR_at hlt h ht.out
      have NO : Hid ((ds[k].nm.toList == s.toList) = false → ∀ j (hj : j < ds.length), j < k + 1 → (ds[j].nm.toList == s.toList) = false) := by
        intro hy j hj hjk
        rcases (by omega : j < k ∨ j = k) with hjk | rfl
        · exact ht.out j hj hjk
        · exact hy
      generalize ds[k] = p at *
      obtain ⟨m0, m1, m2, m3, m4, m5, m6, m7⟩ := hR.ext eb
      clear hd hR ht
      cases hq : (p.nm.toList == s.toList)
      · have HE := Lib.hid (NO.out hq); clear YES NO
        go_wp2
        go_roundw
        case rel => exact ⟨k+1, by omega, by go_num, HE.out, he⟩
        case measure => simp [intOf]; omega
      · have HE := Lib.hid (YES.out hq); clear YES NO
        go_wp2
        go_ret
        exact ⟨ret_i64 HE.out.symm, eb.trans he⟩
    · have HE : Hid (findR ds s = -1) := findR_none (fun j hj => ht.out j hj (by omega))
      go_wp2
      go_ret
      exact ⟨ret_i64 HE.out.symm, eb.trans he⟩

set_option maxRecDepth 100000 in
set_option maxHeartbeats 2000000 in
theorem iFind_c (A : Option Addr) (ds : List DRule) (c : Nat) (s : ByteArray) (w : World) (hd : RdD w A ds c) :
    Gives Try.prog 28 #[vdesc (.slice A ds.length c), .string s] w (.int .i64 (findR ds s)) := by
  have hl := hd.len
  have eb := Ext_alloc (.cells #[.slice A ds.length c] 26) (Ext.refl w)
  have BX := fun w' (e : Ext (w.alloc (.cells #[.slice A ds.length c] 26)) w') => boxed e
  unfold vdesc
  go_enter Try.func28, Try.ntmps28
  go_wp2
  go_loopw [10] (fun q wr => ∃ k : Nat, k ≤ ds.length ∧ q = .int .i64 k ∧ Hid (∀ j (hj : j < ds.length), j < k → (ds[j].nm.toList == s.toList) = false) ∧ Ext (w.alloc (.cells #[.slice A ds.length c] 26)) wr) (fun q _ => ds.length - (intOf q).toNat)
  case atStart => exact ⟨0, by omega, rfl, (fun j _ hj => by omega), Ext.refl _⟩
  case round =>
    obtain ⟨k, hk, rfl, ht, he⟩ := hrel
    by_cases hlt : k < ds.length
    · obtain ⟨b, off, Ab, cb, An, cn, At, ct, Ak, ck, rfl, hb, _, hR⟩ := hd.at k hlt
      have YES : Hid ((ds[k].nm.toList == s.toList) = true → findR ds s = (k : Int)) := fun h => findR_at hlt h ht.out
      have NO : Hid ((ds[k].nm.toList == s.toList) = false → ∀ j (hj : j < ds.length), j < k + 1 → (ds[j].nm.toList == s.toList) = false) := by
        intro hy j hj hjk
        rcases (by omega : j < k ∨ j = k) with hjk | rfl
        · exact ht.out j hj hjk
        · exact hy
      generalize ds[k] = p at *
      obtain ⟨m0, m1, m2, m3, m4, m5, m6, m7⟩ := hR.ext eb
      clear hd hR ht
      cases hq : (p.nm.toList == s.toList)
      · have HE := Lib.hid (NO.out hq); clear YES NO
        go_wp2
        go_roundw
        case rel => exact ⟨k+1, by omega, by go_num, HE.out, (Ext_alloc _ he)⟩
        case measure => simp [intOf]; omega
      · have HE := Lib.hid (YES.out hq); clear YES NO
        go_wp2
        go_ret
        exact ⟨ret_i64 HE.out.symm, eb.trans (Ext_alloc _ he)⟩
    · have HE : Hid (findR ds s = -1) := findR_none (fun j hj => ht.out j hj (by omega))
      go_wp2
      go_ret
      exact ⟨ret_i64 HE.out.symm, eb.trans he⟩
section
variable {P : Program} {ops : Array Oper} {rest : List Oper} {o : Oper} {a : Act} {Q : Exit → Act → World → Prop}
/-- append(s, y1, .., ym), with what becomes of the block -/
theorem wpList_appNB (hgd : o.guard = none) (s x : Operand) (t : TypeId) (ho : o.op = .call { callee := .builtin .append, args := #[s, x], argTypes := #[t, t] })
    {e : TypeId} {bytes : Nat} {z : Value} (hE : Elem P t e 1 bytes z) (hby : 1 ≤ bytes) (w0 w : World) {α : Type} (f : α → Value) (hf : ∀ x, (f x).oneCell' = true) (v : Value) (hs : a.eval s = v) (m c g : Nat) (hx : a.eval x = .slice (some ⟨g, 0, none⟩) m c) (hg : g = w.heap.size)
    (l ys : List α) (cs : Array Value) (hcs : cs = (ys.map f).toArray) (hown : OwnL f e w0 w v l) (he : Ext w0 w) (hm : m = ys.length)
    (hb : (l.length + ys.length) * bytes ≤ 140737488355328)
    (h : ∀ v' w', OwnL f e w0 w' v' (l ++ ys) → Ext w0 w' → (v'.ownBlock = v.ownBlock ∨ v'.ownBlock = some (w.alloc (.cells cs e)).heap.size) → (w.alloc (.cells cs e)).grownBy w' v.ownBlock → wpList P ops Q rest (a.put o.dst v') w') :
    wpList P ops Q (o :: rest) a (w.alloc (.cells cs e)) := by
  subst hcs; subst hg
  refine wpList_appL hgd s x t ho hE hby w0 _ f hf v hs (some ⟨w.heap.size, 0, none⟩) m c hx l ys (hown.ext (Ext_alloc _ (Ext.refl w))) (Ext_alloc _ he) hm (fun _ => ⟨_, rfl, fun j u hu => ?_⟩) hb h
  rw [World.cell?_alloc_at']; exact hu
end
theorem take_snoc' {α β : Type} (f : α → β) (l : List α) (k : Nat) (hk : k < l.length) : (l.take k).map f ++ [f l[k]] = (l.take (k+1)).map f := by
  rw [List.take_succ_eq_append_getElem hk, List.map_append]; rfl
/-- the names that both have, in the first one's order -/
def shared (a b : List DRule) : List ByteArray := (nmsOf a).filter (hasNm (nmsOf b))
def shr (a b : List DRule) (k : Nat) : List ByteArray := ((a.take k).map DRule.nm).filter (hasNm (nmsOf b))
theorem shr_yes {a b : List DRule} {k : Nat} (hk : k < a.length) (h : hasNm (nmsOf b) a[k].nm = true) : shr a b k ++ [a[k].nm] = shr a b (k+1) := by
  unfold shr; rw [List.take_succ_eq_append_getElem hk, List.map_append, List.filter_append]; simp [h]
theorem shr_no {a b : List DRule} {k : Nat} (hk : k < a.length) (h : hasNm (nmsOf b) a[k].nm = false) : shr a b k = shr a b (k+1) := by
  unfold shr; rw [List.take_succ_eq_append_getElem hk, List.map_append, List.filter_append]; simp [h]
theorem shr_len (a b : List DRule) (k : Nat) : (shr a b k).length ≤ k := by
  unfold shr; have h1 := List.length_filter_le (hasNm (nmsOf b)) ((a.take k).map DRule.nm); rw [List.length_map, List.length_take] at h1; omega
theorem shared_len {a b : List DRule} {n : Nat} (h : szD a ≤ n) : (shared a b).length ≤ n := by
  unfold shared; have h1 := List.length_filter_le (hasNm (nmsOf b)) (nmsOf a); unfold nmsOf at h1 ⊢; rw [List.length_map] at h1; unfold szD at h; omega
end Go.Proofs.Ytophjmphjdhjoaa

/- RenameRule of the program and of the reference: the walks. -/
namespace Go.Proofs.Ytophjmphjdhjoaa
open Go.RowKit Go.Sort

def nmR (r : DRule) (t : ByteArray) : DRule := { r with nm := t }
def nmV (p : RV) (t : ByteArray) : RV := { p with r := nmR p.r t }
def setNm (ds : List DRule) (k : Nat) (t : ByteArray) : List DRule := ds.set k (nmR (ds.getD k ⟨⟨#[]⟩, 0, 0, false, [], [], [], []⟩) t)
def setNmV (ps : List RV) (k : Nat) (t : ByteArray) : List RV := ps.set k (nmV (ps.getD k ⟨⟨⟨#[]⟩, 0, 0, false, [], [], [], []⟩, undef, undef, undef, undef⟩) t)
def renOk (ds : List DRule) (f t : ByteArray) : Bool := decide (0 ≤ findR ds f) && descOk (setNm ds (findR ds f).toNat t)
def renD (ds : List DRule) (f t : ByteArray) : List DRule := if renOk ds f t then setNm ds (findR ds f).toNat t else ds
theorem cells_set : ∀ (ps : List RV) (k : Nat) (h : k < ps.length) (t : ByteArray), (ps.flatMap RV.cells).set (k * 8) (.string t) = (ps.set k (nmV ps[k] t)).flatMap RV.cells := by
  intro ps
  induction ps with
  | nil => intro k h; simp at h
  | cons p s ih =>
    intro k h t
    cases k with
    | zero => simp [RV.cells, nmV, nmR, List.flatMap_cons]
    | succ k =>
      have h' : k < s.length := by simpa using h
      rw [List.flatMap_cons, List.set_append_right _ _ (by simp [RV.cells]; omega)]
      rw [show (k + 1) * 8 - p.cells.length = k * 8 by simp [RV.cells]; omega, ih k h' t]
      simp [List.flatMap_cons]
theorem vals_set (ps : List RV) (k : Nat) (h : k < ps.length) (t : ByteArray) : (ps.set k (nmV ps[k] t)).flatMap RV.vals = ps.flatMap RV.vals := by
  induction ps generalizing k with
  | nil => simp at h
  | cons p s ih =>
    cases k with
    | zero => simp [RV.vals, nmV, List.flatMap_cons]
    | succ k => simp only [List.set_cons_succ, List.flatMap_cons, List.getElem_cons_succ]; rw [ih k (by simpa using h)]
theorem setNmV_eq {ps : List RV} {k : Nat} (h : k < ps.length) (t : ByteArray) : setNmV ps k t = ps.set k (nmV ps[k] t) := by unfold setNmV; simp [h]
theorem rules_set {ps : List RV} {k : Nat} (h : k < ps.length) (t : ByteArray) : rulesOf (setNmV ps k t) = setNm (rulesOf ps) k t := by
  rw [setNmV_eq h]; unfold setNm rulesOf; rw [List.map_set]; simp [h, nmV]
theorem setNm_len (ds : List DRule) (k : Nat) (t : ByteArray) : (setNm ds k t).length = ds.length := by unfold setNm; simp
theorem mem_setNm {ds : List DRule} {k : Nat} (h : k < ds.length) {t : ByteArray} {q : DRule} (hq : q ∈ setNm ds k t) : q ∈ ds ∨ q = nmR ds[k] t := by
  unfold setNm at hq
  rcases List.mem_or_eq_of_mem_set hq with h1 | h1
  · exact .inl h1
  · right; rw [h1]; simp [h]
theorem short_setNm {ds : List DRule} {k : Nat} (h : k < ds.length) {t : ByteArray} (hs : ShortD ds) : ShortD (setNm ds k t) := fun q hq => by
  rcases mem_setNm h hq with h1 | rfl
  · exact hs q h1
  · exact hs ds[k] (List.getElem_mem h)
theorem wf_setNm {ds : List DRule} {k : Nat} (h : k < ds.length) {t : ByteArray} (ht : t.size ≤ 9223372036854775807) (hs : WfD ds) : WfD (setNm ds k t) := fun q hq => by
  rcases mem_setNm h hq with h1 | rfl
  · exact hs q h1
  · have := hs ds[k] (List.getElem_mem h)
    exact ⟨ht, this.names, this.kind, this.size, this.tags, this.kids⟩
theorem far_parts' {v : Value} {ps : List RV} (h : Far (v :: ps.flatMap RV.vals)) : (∀ q ∈ ps, ∀ u ∈ q.vals, ∀ g, v.ownBlock = some g → u.ownBlock ≠ some g) ∧ True ∧ True := by
  unfold Far at h
  rw [List.pairwise_cons] at h
  exact ⟨fun q hq u hu g hg => h.1 u (List.mem_flatMap.2 ⟨q, hq, hu⟩) g hg, trivial, trivial⟩
theorem OwnD.setNm {w0 w : World} {g c : Nat} {ps : List RV} (h : OwnD w0 w (.slice (some ⟨g, 0, none⟩) ps.length c) ps) {k : Nat} (hk : k < ps.length) (t : ByteArray) :
    OwnD w0 (w.setCell ⟨g, k * 8, none⟩ (.string t)) (.slice (some ⟨g, 0, none⟩) ps.length c) (setNmV ps k t) := by
  rw [setNmV_eq hk]
  obtain ⟨f1, _, _⟩ := far_parts' h.far
  refine ⟨?_, fun p hp => ?_, ?_⟩
  · have := (h.row.stored (k * 8) (.string t)).1
    rw [cells_set ps k hk t] at this
    rw [List.length_set]; exact this
  · have hkeep : ∀ q ∈ ps, RuleOwn w0 (w.setCell ⟨g, k * 8, none⟩ (.string t)) q := fun q hq => (h.each q hq).keep (grown_set w ⟨g, k * 8, none⟩ _) (fun u hu b hb hh => by
      injection hh with hh
      exact f1 q hq u hu g rfl (by rw [hb]; exact congrArg some hh.symm))
    rcases List.mem_or_eq_of_mem_set hp with h1 | rfl
    · exact hkeep p h1
    · have := hkeep ps[k] (List.getElem_mem hk)
      exact ⟨this.b, this.n, this.t, this.k⟩
  · rw [vals_set ps k hk t]; exact h.far
set_option maxRecDepth 100000 in
set_option maxHeartbeats 8000000 in
theorem sRen_c (A : Option Addr) (ds : List DRule) (c : Nat) (f t : ByteArray) (w : World) (h : RdD w A ds c) (hz : szD ds ≤ 1048576) (hw : WfD ds) (ht : t.size ≤ 9223372036854775807) :
    Calls Try.prog 14 #[vdesc (.slice A ds.length c), .string f, .string t] w fun e w' => ∃ v ps, e = .returned (.tuple #[vdesc v, .bool (renOk ds f t)]) ∧ rulesOf ps = renD ds f t ∧ OwnD w w' v ps ∧ Ext w w' := by
  have hn : ds.length ≤ 1048576 := by unfold szD at hz; omega
  obtain ⟨W0, HW0, HP, HR, e0, hsA⟩ := boxes2' w #[.slice A ds.length c] #[.slice none 0 0] 26 26
  have HSA := Lib.hid hsA; clear hsA
  have CC := Lib.hid (fun w h => sCopyD_c A ds c w h hz)
  have CF := Lib.hid (fun w h => sFind_c A ds c f w h)
  have CV := Lib.hid (fun A' ds' c' w' h hs hw => sValidDesc_c A' ds' c' w' h hs hw)
  have HH := Lib.hid h; have HSH := Lib.hid (shortD_of hz); have HWf := Lib.hid hw
  have hfl := findR_lt ds f
  have HOKE := Lib.hid (rfl : renOk ds f t = renOk ds f t)
  unfold vdesc at *
  clear h hw
  have hrb : W0.heap.size = w.heap.size + 2 := HSA.out
  by_cases hfn : findR ds f < 0
  · have HE : Hid (renOk ds f t = false) := by show _ = _; unfold renOk; rw [decide_eq_false (by omega)]; rfl
    have HD : Hid (renD ds f t = ds) := by show _ = _; unfold renD; rw [HE.out]; rfl
    rw [HE.out]
    have dfn : decide (findR ds f < 0) = true := decide_eq_true hfn
    generalize findR ds f = k at *
    go_enter Try.func14, Try.ntmps14
    go_wp2_with fail
    rw [← HW0.out]
    refine (CC.out _ (HH.out.ext e0)).mono ?_; rintro _ w1 ⟨v, ps, rfl, hps, ho, s1⟩
    obtain ⟨A1, c1, hv⟩ := ho.shape
    subst hv
    have x1 := Ext_alloc (.cells #[.slice A1 ps.length c1] 26) (Ext.refl w1)
    have p1 : _ = some (Value.slice A ds.length c) := ((HP.ext s1).ext x1).cell 0
    go_wp2_with fail
    refine (CF.out _ (HH.out.ext ((e0.trans s1).trans x1))).mono ?_; rintro _ w2 ⟨rfl, s2⟩
    have b8 := ((Box.new w1 #[.slice A1 ps.length c1] 26).ext s2).cell 0
    have e2 := ((e0.trans s1).trans x1).trans s2
    have hr2 := ((HR.ext s1).ext x1).ext s2
    have r6 := hr2.cell 0; have f6 := hr2.free 0
    have b8 : _ = some (Value.slice A1 ps.length c1) := b8
    have HO2 := Lib.hid ((ho.ext x1).ext s2)
    have G := grown_set w2 ⟨w.heap.size + 1, 0, none⟩ (.slice A1 ps.length c1)
    have D5 : Hid (OwnD w (w2.setCell ⟨w.heap.size + 1, 0, none⟩ (.slice A1 ps.length c1)) (.slice A1 ps.length c1) ps) := (HO2.out.keep G (fun u hu g hg hh => by have h1 := (HO2.out.block u hu g hg).1; injection hh with hh; simp at hh; omega)).down e0.size
    have E5 : Hid (Ext w (w2.setCell ⟨w.heap.size + 1, 0, none⟩ (.slice A1 ps.length c1))) := e2.setCell (p := ⟨w.heap.size + 1, 0, none⟩) (by show w.heap.size ≤ w.heap.size + 1; omega) _
    have z5 : (w2.setCell ⟨w.heap.size + 1, 0, none⟩ (.slice A1 ps.length c1)).cell? ⟨w.heap.size + 1, 0, none⟩ = some (.slice A1 ps.length c1) := World.cell?_setCell_same _ _ _ r6
    have HN := Lib.hid hps
    clear ho HO2 G
    go_wp2
    exact bodyPost_ret (v := .tuple #[.agg #[.slice A1 ps.length c1], .bool false]) (by simp [results, Try.results14, go_sem, z5]) rfl ⟨_, ps, rfl, by rw [HD.out]; exact HN.out, D5.out, E5.out⟩
  obtain ⟨k, hk⟩ : ∃ k : Nat, findR ds f = (k : Int) := ⟨(findR ds f).toNat, by omega⟩
  have hkn : k < ds.length := by omega
  have HE : Hid (renOk ds f t = descOk (setNm ds k t)) := by show _ = _; unfold renOk; rw [hk, decide_eq_true (by omega)]; rfl
  have HD : Hid (renD ds f t = if descOk (setNm ds k t) = true then setNm ds k t else ds) := by show _ = _; unfold renD; rw [HE.out, hk]; rfl
  have dfn : decide ((k : Int) < 0) = false := decide_eq_false (by omega)
  rw [HE.out]
  have HSN := Lib.hid (short_setNm hkn HSH.out (t := t)); have HWN := Lib.hid (wf_setNm hkn ht HWf.out)
  rw [hk] at CF
  clear hfn hfl HE hk
  have HLN := Lib.hid (setNm_len ds k t)
  obtain ⟨ds2, hds2⟩ : ∃ ds2, setNm ds k t = ds2 := ⟨_, rfl⟩
  rw [hds2] at HD HSN HWN HLN ⊢
  have HD2 := Lib.hid hds2; clear hds2
  generalize hz2 : descOk ds2 = z at *
  have HZ2 := Lib.hid hz2; clear hz2
  go_enter Try.func14, Try.ntmps14
  go_wp2_with fail
  rw [← HW0.out]
  refine (CC.out _ (HH.out.ext e0)).mono ?_; rintro _ w1 ⟨v, ps, rfl, hps, ho, s1⟩
  have hpl : ps.length = ds.length := by rw [← hps]; simp [rulesOf]
  have hkp : k < ps.length := by omega
  obtain ⟨g, c1, hv⟩ : ∃ g c1, v = .slice (some ⟨g, 0, none⟩) ps.length c1 := by
    rcases ho.row.2 with ⟨_, h0⟩ | ⟨g, cap, cur, hv, _⟩
    · omega
    · exact ⟨g, cap, hv⟩
  subst hv
  have hglt := World.ownsRow.lt ho.row g rfl
  have x1 := Ext_alloc (.cells #[.slice (some ⟨g, 0, none⟩) ps.length c1] 26) (Ext.refl w1)
  have p1 : _ = some (Value.slice A ds.length c) := ((HP.ext s1).ext x1).cell 0
  have HPL := Lib.hid hpl; clear hpl
  go_wp2_with fail
  refine (CF.out _ (HH.out.ext ((e0.trans s1).trans x1))).mono ?_; rintro _ w2 ⟨rfl, s2⟩
  have HB8 := (Box.new w1 #[.slice (some ⟨g, 0, none⟩) ps.length c1] 26).ext s2
  have b8 : _ = some (Value.slice (some ⟨g, 0, none⟩) ps.length c1) := HB8.cell 0
  have e2 := ((e0.trans s1).trans x1).trans s2
  have HO2 := (ho.ext x1).ext s2
  have hln : (ps.flatMap RV.cells).length = ps.length * 8 := HO2.row.1
  obtain ⟨⟨u0, hu0⟩, hf0⟩ := HO2.row.slot (k * 8) (by rw [hln]; omega)
  have D3 := HO2.setNm hkp t
  have G3 := grown_set w2 ⟨g, k * 8, none⟩ (.string t)
  have e3 : Ext w (w2.setCell ⟨g, k * 8, none⟩ (.string t)) := e2.setCell (p := ⟨g, k * 8, none⟩) (by show w.heap.size ≤ g; omega) _
  have B83 := HB8.other (g' := g) (by omega) (k * 8) (.string t)
  have P3 := (((HP.ext s1).ext x1).ext s2).other (g' := g) (by omega) (k * 8) (.string t)
  have R3 := (((HR.ext s1).ext x1).ext s2).other (g' := g) (by omega) (k * 8) (.string t)
  have hr2 : rulesOf (setNmV ps k t) = ds2 := by rw [rules_set hkp, hps]; exact HD2.out
  have hb1 : (k : Int) < (ps.length : Int) := by omega
  have HD3 := Lib.hid D3; have HR2 := Lib.hid hr2
  clear D3 HO2 G3 ho HB8 hln hr2 HP HR x1 s1 s2 e2
  have b83 : _ = some (Value.slice (some ⟨g, 0, none⟩) ps.length c1) := B83.cell 0
  go_wp2_with fail
  generalize w2.setCell ⟨g, k * 8, none⟩ (.string t) = w3 at *
  clear hu0 hf0 b8
  have hl2 : ds2.length = ps.length := by have := HLN.out; have := HPL.out; omega
  have RD : Hid (RdD w3 (some ⟨g, 0, none⟩) ds2 c1) := by
    obtain ⟨A', c', hv, hR⟩ := HD3.out.rd (by rw [← HR2.out] at hl2; simp [rulesOf] at hl2; have := HPL.out; omega) (fun p hp => HSN.out p.r (by rw [← HR2.out]; exact List.mem_map_of_mem hp))
    rw [HR2.out] at hR hv
    injection hv with q1 _ q2
    subst q1; subst q2; exact hR
  have C3 := CV.out (some ⟨g, 0, none⟩) ds2 c1 w3 RD.out HSN.out HWN.out
  rw [HZ2.out, hl2] at C3
  refine C3.mono ?_; rintro _ w4 ⟨rfl, s4⟩
  have e4 := e3.trans s4
  have B84 := B83.ext s4; have P4 := P3.ext s4; have R4 := R3.ext s4
  have HD4 := Lib.hid (HD3.out.ext s4)
  have r6 : _ = some (Value.slice none 0 0) := R4.cell 0
  have f6 := R4.free 0
  clear C3 RD hl2 B83 P3 R3 HD3 e3 s4 b83
  cases z
  · have p4 : _ = some (Value.slice A ds.length c) := P4.cell 0
    go_wp2_with fail
    refine (CC.out _ (HH.out.ext e4)).mono ?_; rintro _ w5 ⟨v5, ps5, rfl, hps5, ho5, s5⟩
    obtain ⟨A5, c5, hv5⟩ := ho5.shape
    subst hv5
    have R5 := R4.ext s5
    have r7 : _ = some (Value.slice none 0 0) := R5.cell 0
    have f7 := R5.free 0
    have hr4 := R4.lt
    have G := grown_set w5 ⟨w.heap.size + 1, 0, none⟩ (.slice A5 ps5.length c5)
    have D5 : Hid (OwnD w (w5.setCell ⟨w.heap.size + 1, 0, none⟩ (.slice A5 ps5.length c5)) (.slice A5 ps5.length c5) ps5) := (ho5.keep G (fun u hu g hg hh => by have h1 := (ho5.block u hu g hg).1; injection hh with hh; simp at hh; omega)).down e4.size
    have E5 : Hid (Ext w (w5.setCell ⟨w.heap.size + 1, 0, none⟩ (.slice A5 ps5.length c5))) := (e4.trans s5).setCell (p := ⟨w.heap.size + 1, 0, none⟩) (by show w.heap.size ≤ w.heap.size + 1; omega) _
    have z5 : (w5.setCell ⟨w.heap.size + 1, 0, none⟩ (.slice A5 ps5.length c5)).cell? ⟨w.heap.size + 1, 0, none⟩ = some (.slice A5 ps5.length c5) := World.cell?_setCell_same _ _ _ r7
    have HN : Hid (rulesOf ps5 = renD ds f t) := by show _ = _; rw [HD.out, if_neg (by simp)]; exact hps5
    clear ho5 G r6 f6
    go_wp2
    exact bodyPost_ret (v := .tuple #[.agg #[.slice A5 ps5.length c5], .bool false]) (by simp [results, Try.results14, go_sem, z5]) rfl ⟨_, ps5, rfl, HN.out, D5.out, E5.out⟩
  · have b8 : _ = some (Value.slice (some ⟨g, 0, none⟩) ps.length c1) := B84.cell 0
    have G := grown_set w4 ⟨w.heap.size + 1, 0, none⟩ (.slice (some ⟨g, 0, none⟩) ps.length c1)
    have D5 : Hid (OwnD w (w4.setCell ⟨w.heap.size + 1, 0, none⟩ (.slice (some ⟨g, 0, none⟩) ps.length c1)) (.slice (some ⟨g, 0, none⟩) ps.length c1) (setNmV ps k t)) := (HD4.out.keep G (fun u hu g hg hh => by have h1 := (HD4.out.block u hu g hg).1; injection hh with hh; simp at hh; omega)).down e0.size
    have E5 : Hid (Ext w (w4.setCell ⟨w.heap.size + 1, 0, none⟩ (.slice (some ⟨g, 0, none⟩) ps.length c1))) := e4.setCell (p := ⟨w.heap.size + 1, 0, none⟩) (by show w.heap.size ≤ w.heap.size + 1; omega) _
    have z5 : (w4.setCell ⟨w.heap.size + 1, 0, none⟩ (.slice (some ⟨g, 0, none⟩) ps.length c1)).cell? ⟨w.heap.size + 1, 0, none⟩ = some (.slice (some ⟨g, 0, none⟩) ps.length c1) := World.cell?_setCell_same _ _ _ r6
    have HN : Hid (rulesOf (setNmV ps k t) = renD ds f t) := by show _ = _; rw [HD.out, if_pos rfl]; exact HR2.out
    clear HD4 G
    go_wp2
    exact bodyPost_ret (v := .tuple #[.agg #[.slice (some ⟨g, 0, none⟩) ps.length c1], .bool true]) (by simp [results, Try.results14, go_sem, z5]) rfl ⟨_, setNmV ps k t, rfl, HN.out, D5.out, E5.out⟩
set_option maxRecDepth 100000 in
set_option maxHeartbeats 8000000 in
theorem iRen_c (A : Option Addr) (ds : List DRule) (c : Nat) (f t : ByteArray) (w : World) (h : RdD w A ds c) (hz : szD ds ≤ 1048576) (hw : WfD ds) (ht : t.size ≤ 9223372036854775807) :
    Calls Try.prog 13 #[vdesc (.slice A ds.length c), .string f, .string t] w fun e w' => ∃ v ps, e = .returned (.tuple #[vdesc v, .bool (renOk ds f t)]) ∧ rulesOf ps = renD ds f t ∧ OwnD w w' v ps ∧ Ext w w' := by
  have hn : ds.length ≤ 1048576 := by unfold szD at hz; omega
  obtain ⟨W0, HW0, HP, HR, e0, hsA⟩ := boxes2' w #[.slice A ds.length c] #[.slice none 0 0] 26 26
  have HSA := Lib.hid hsA; clear hsA
  have CC := Lib.hid (fun w h => iCopyD_c A ds c w h hz)
  have CF := Lib.hid (fun w h => iFind_c A ds c f w h)
  have CV := Lib.hid (fun A' ds' c' w' h hs hw => iValidDesc_c A' ds' c' w' h hs hw)
  have HH := Lib.hid h; have HSH := Lib.hid (shortD_of hz); have HWf := Lib.hid hw
  have hfl := findR_lt ds f
  have HOKE := Lib.hid (rfl : renOk ds f t = renOk ds f t)
  unfold vdesc at *
  clear h hw
  have hrb : W0.heap.size = w.heap.size + 2 := HSA.out
  by_cases hfn : findR ds f < 0
  · have HE : Hid (renOk ds f t = false) := by show _ = _; unfold renOk; rw [decide_eq_false (by omega)]; rfl
    have HD : Hid (renD ds f t = ds) := by show _ = _; unfold renD; rw [HE.out]; rfl
    rw [HE.out]
    have dfn : decide (findR ds f < 0) = true := decide_eq_true hfn
    generalize findR ds f = k at *
    go_enter Try.func13, Try.ntmps13
    go_wp2_with fail
    rw [← HW0.out]
    refine (CC.out _ (HH.out.ext e0)).mono ?_; rintro _ w1 ⟨v, ps, rfl, hps, ho, s1⟩
    obtain ⟨A1, c1, hv⟩ := ho.shape
    subst hv
    have x1 := Ext_alloc (.cells #[.slice A1 ps.length c1] 26) (Ext.refl w1)
    have p1 : _ = some (Value.slice A ds.length c) := ((HP.ext s1).ext x1).cell 0
    go_wp2_with fail
    refine (CF.out _ (HH.out.ext ((e0.trans s1).trans x1))).mono ?_; rintro _ w2 ⟨rfl, s2⟩
    have b8 := ((Box.new w1 #[.slice A1 ps.length c1] 26).ext s2).cell 0
    have e2 := ((e0.trans s1).trans x1).trans s2
    have hr2 := ((HR.ext s1).ext x1).ext s2
    have r6 := hr2.cell 0; have f6 := hr2.free 0
    have b8 : _ = some (Value.slice A1 ps.length c1) := b8
    have HO2 := Lib.hid ((ho.ext x1).ext s2)
    have G := grown_set w2 ⟨w.heap.size + 1, 0, none⟩ (.slice A1 ps.length c1)
    have D5 : Hid (OwnD w (w2.setCell ⟨w.heap.size + 1, 0, none⟩ (.slice A1 ps.length c1)) (.slice A1 ps.length c1) ps) := (HO2.out.keep G (fun u hu g hg hh => by have h1 := (HO2.out.block u hu g hg).1; injection hh with hh; simp at hh; omega)).down e0.size
    have E5 : Hid (Ext w (w2.setCell ⟨w.heap.size + 1, 0, none⟩ (.slice A1 ps.length c1))) := e2.setCell (p := ⟨w.heap.size + 1, 0, none⟩) (by show w.heap.size ≤ w.heap.size + 1; omega) _
    have z5 : (w2.setCell ⟨w.heap.size + 1, 0, none⟩ (.slice A1 ps.length c1)).cell? ⟨w.heap.size + 1, 0, none⟩ = some (.slice A1 ps.length c1) := World.cell?_setCell_same _ _ _ r6
    have HN := Lib.hid hps
    clear ho HO2 G
    go_wp2
    exact bodyPost_ret (v := .tuple #[.agg #[.slice A1 ps.length c1], .bool false]) (by simp [results, Try.results13, go_sem, z5]) rfl ⟨_, ps, rfl, by rw [HD.out]; exact HN.out, D5.out, E5.out⟩
  obtain ⟨k, hk⟩ : ∃ k : Nat, findR ds f = (k : Int) := ⟨(findR ds f).toNat, by omega⟩
  have hkn : k < ds.length := by omega
  have HE : Hid (renOk ds f t = descOk (setNm ds k t)) := by show _ = _; unfold renOk; rw [hk, decide_eq_true (by omega)]; rfl
  have HD : Hid (renD ds f t = if descOk (setNm ds k t) = true then setNm ds k t else ds) := by show _ = _; unfold renD; rw [HE.out, hk]; rfl
  have dfn : decide ((k : Int) < 0) = false := decide_eq_false (by omega)
  rw [HE.out]
  have HSN := Lib.hid (short_setNm hkn HSH.out (t := t)); have HWN := Lib.hid (wf_setNm hkn ht HWf.out)
  rw [hk] at CF
  clear hfn hfl HE hk
  have HLN := Lib.hid (setNm_len ds k t)
  obtain ⟨ds2, hds2⟩ : ∃ ds2, setNm ds k t = ds2 := ⟨_, rfl⟩
  rw [hds2] at HD HSN HWN HLN ⊢
  have HD2 := Lib.hid hds2; clear hds2
  generalize hz2 : descOk ds2 = z at *
  have HZ2 := Lib.hid hz2; clear hz2
  go_enter Try.func13, Try.ntmps13
  go_wp2_with fail
  rw [← HW0.out]
  refine (CC.out _ (HH.out.ext e0)).mono ?_; rintro _ w1 ⟨v, ps, rfl, hps, ho, s1⟩
  have hpl : ps.length = ds.length := by rw [← hps]; simp [rulesOf]
  have hkp : k < ps.length := by omega
  obtain ⟨g, c1, hv⟩ : ∃ g c1, v = .slice (some ⟨g, 0, none⟩) ps.length c1 := by
    rcases ho.row.2 with ⟨_, h0⟩ | ⟨g, cap, cur, hv, _⟩
    · omega
    · exact ⟨g, cap, hv⟩
  subst hv
  have hglt := World.ownsRow.lt ho.row g rfl
  have x1 := Ext_alloc (.cells #[.slice (some ⟨g, 0, none⟩) ps.length c1] 26) (Ext.refl w1)
  have p1 : _ = some (Value.slice A ds.length c) := ((HP.ext s1).ext x1).cell 0
  have HPL := Lib.hid hpl; clear hpl
  go_wp2_with fail
  refine (CF.out _ (HH.out.ext ((e0.trans s1).trans x1))).mono ?_; rintro _ w2 ⟨rfl, s2⟩
  have HB8 := (Box.new w1 #[.slice (some ⟨g, 0, none⟩) ps.length c1] 26).ext s2
  have b8 : _ = some (Value.slice (some ⟨g, 0, none⟩) ps.length c1) := HB8.cell 0
  have e2 := ((e0.trans s1).trans x1).trans s2
  have HO2 := (ho.ext x1).ext s2
  have hln : (ps.flatMap RV.cells).length = ps.length * 8 := HO2.row.1
  obtain ⟨⟨u0, hu0⟩, hf0⟩ := HO2.row.slot (k * 8) (by rw [hln]; omega)
  have D3 := HO2.setNm hkp t
  have G3 := grown_set w2 ⟨g, k * 8, none⟩ (.string t)
  have e3 : Ext w (w2.setCell ⟨g, k * 8, none⟩ (.string t)) := e2.setCell (p := ⟨g, k * 8, none⟩) (by show w.heap.size ≤ g; omega) _
  have B83 := HB8.other (g' := g) (by omega) (k * 8) (.string t)
  have P3 := (((HP.ext s1).ext x1).ext s2).other (g' := g) (by omega) (k * 8) (.string t)
  have R3 := (((HR.ext s1).ext x1).ext s2).other (g' := g) (by omega) (k * 8) (.string t)
  have hr2 : rulesOf (setNmV ps k t) = ds2 := by rw [rules_set hkp, hps]; exact HD2.out
  have hb1 : (k : Int) < (ps.length : Int) := by omega
  have HD3 := Lib.hid D3; have HR2 := Lib.hid hr2
  clear D3 HO2 G3 ho HB8 hln hr2 HP HR x1 s1 s2 e2
  have b83 : _ = some (Value.slice (some ⟨g, 0, none⟩) ps.length c1) := B83.cell 0
  go_wp2_with fail
  generalize w2.setCell ⟨g, k * 8, none⟩ (.string t) = w3 at *
  clear hu0 hf0 b8
  have hl2 : ds2.length = ps.length := by have := HLN.out; have := HPL.out; omega
  have RD : Hid (RdD w3 (some ⟨g, 0, none⟩) ds2 c1) := by
    obtain ⟨A', c', hv, hR⟩ := HD3.out.rd (by rw [← HR2.out] at hl2; simp [rulesOf] at hl2; have := HPL.out; omega) (fun p hp => HSN.out p.r (by rw [← HR2.out]; exact List.mem_map_of_mem hp))
    rw [HR2.out] at hR hv
    injection hv with q1 _ q2
    subst q1; subst q2; exact hR
  have C3 := CV.out (some ⟨g, 0, none⟩) ds2 c1 w3 RD.out HSN.out HWN.out
  rw [HZ2.out, hl2] at C3
  refine C3.mono ?_; rintro _ w4 ⟨rfl, s4⟩
  have e4 := e3.trans s4
  have B84 := B83.ext s4; have P4 := P3.ext s4; have R4 := R3.ext s4
  have HD4 := Lib.hid (HD3.out.ext s4)
  have r6 : _ = some (Value.slice none 0 0) := R4.cell 0
  have f6 := R4.free 0
  clear C3 RD hl2 B83 P3 R3 HD3 e3 s4 b83
  cases z
  · have p4 : _ = some (Value.slice A ds.length c) := P4.cell 0
    go_wp2_with fail
    refine (CC.out _ (HH.out.ext e4)).mono ?_; rintro _ w5 ⟨v5, ps5, rfl, hps5, ho5, s5⟩
    obtain ⟨A5, c5, hv5⟩ := ho5.shape
    subst hv5
    have R5 := R4.ext s5
    have r7 : _ = some (Value.slice none 0 0) := R5.cell 0
    have f7 := R5.free 0
    have hr4 := R4.lt
    have G := grown_set w5 ⟨w.heap.size + 1, 0, none⟩ (.slice A5 ps5.length c5)
    have D5 : Hid (OwnD w (w5.setCell ⟨w.heap.size + 1, 0, none⟩ (.slice A5 ps5.length c5)) (.slice A5 ps5.length c5) ps5) := (ho5.keep G (fun u hu g hg hh => by have h1 := (ho5.block u hu g hg).1; injection hh with hh; simp at hh; omega)).down e4.size
    have E5 : Hid (Ext w (w5.setCell ⟨w.heap.size + 1, 0, none⟩ (.slice A5 ps5.length c5))) := (e4.trans s5).setCell (p := ⟨w.heap.size + 1, 0, none⟩) (by show w.heap.size ≤ w.heap.size + 1; omega) _
    have z5 : (w5.setCell ⟨w.heap.size + 1, 0, none⟩ (.slice A5 ps5.length c5)).cell? ⟨w.heap.size + 1, 0, none⟩ = some (.slice A5 ps5.length c5) := World.cell?_setCell_same _ _ _ r7
    have HN : Hid (rulesOf ps5 = renD ds f t) := by show _ = _; rw [HD.out, if_neg (by simp)]; exact hps5
    clear ho5 G r6 f6
    go_wp2
    exact bodyPost_ret (v := .tuple #[.agg #[.slice A5 ps5.length c5], .bool false]) (by simp [results, Try.results13, go_sem, z5]) rfl ⟨_, ps5, rfl, HN.out, D5.out, E5.out⟩
  · have b8 : _ = some (Value.slice (some ⟨g, 0, none⟩) ps.length c1) := B84.cell 0
    have G := grown_set w4 ⟨w.heap.size + 1, 0, none⟩ (.slice (some ⟨g, 0, none⟩) ps.length c1)
    have D5 : Hid (OwnD w (w4.setCell ⟨w.heap.size + 1, 0, none⟩ (.slice (some ⟨g, 0, none⟩) ps.length c1)) (.slice (some ⟨g, 0, none⟩) ps.length c1) (setNmV ps k t)) := (HD4.out.keep G (fun u hu g hg hh => by have h1 := (HD4.out.block u hu g hg).1; injection hh with hh; simp at hh; omega)).down e0.size
    have E5 : Hid (Ext w (w4.setCell ⟨w.heap.size + 1, 0, none⟩ (.slice (some ⟨g, 0, none⟩) ps.length c1))) := e4.setCell (p := ⟨w.heap.size + 1, 0, none⟩) (by show w.heap.size ≤ w.heap.size + 1; omega) _
    have z5 : (w4.setCell ⟨w.heap.size + 1, 0, none⟩ (.slice (some ⟨g, 0, none⟩) ps.length c1)).cell? ⟨w.heap.size + 1, 0, none⟩ = some (.slice (some ⟨g, 0, none⟩) ps.length c1) := World.cell?_setCell_same _ _ _ r6
    have HN : Hid (rulesOf (setNmV ps k t) = renD ds f t) := by show _ = _; rw [HD.out, if_pos rfl]; exact HR2.out
    clear HD4 G
    go_wp2
    exact bodyPost_ret (v := .tuple #[.agg #[.slice (some ⟨g, 0, none⟩) ps.length c1], .bool true]) (by simp [results, Try.results13, go_sem, z5]) rfl ⟨_, setNmV ps k t, rfl, HN.out, D5.out, E5.out⟩
end Go.Proofs.Ytophjmphjdhjoaa

/- Which rules can have an entry, as plain functions. -/
namespace Go.Proofs.Ytophjmphjdhjoaa

/-- the kids that count: without the first one at kinds 4, 5 and 7 -/
def kidsOf (r : DRule) : List Int := if r.kind = 4 ∨ r.kind = 5 ∨ r.kind = 7 then r.kids.drop 1 else r.kids
def setAll (c : List Bool) (l : List Int) : List Bool := l.foldl (fun c k => c.set k.toNat true) c
/-- rule number i hands on that it can have an entry -/
def possAt (ds : List DRule) (c : List Bool) (i : Nat) : List Bool := if c.getD i false then setAll c (kidsOf (ds.getD i ⟨⟨#[]⟩, 0, 0, false, [], [], [], []⟩)) else c
/-- from rule number i - 1 down -/
def possFrom (ds : List DRule) : Nat → List Bool → List Bool
  | 0, c => c
  | i + 1, c => possFrom ds i (possAt ds c i)
def possible (ds : List DRule) : List Bool := possFrom ds ds.length ((List.replicate ds.length false).set (ds.length - 1) true)
theorem setAll_len (c : List Bool) (l : List Int) : (setAll c l).length = c.length := by
  unfold setAll
  induction l generalizing c with
  | nil => rfl
  | cons a t ih => rw [List.foldl_cons, ih]; simp
theorem setAll_append (c : List Bool) (a b : List Int) : setAll c (a ++ b) = setAll (setAll c a) b := by unfold setAll; rw [List.foldl_append]
theorem possAt_len (ds : List DRule) (c : List Bool) (i : Nat) : (possAt ds c i).length = c.length := by
  unfold possAt; split
  · exact setAll_len _ _
  · rfl
theorem possFrom_len (ds : List DRule) (i : Nat) (c : List Bool) : (possFrom ds i c).length = c.length := by
  induction i generalizing c with
  | zero => rfl
  | succ i ih => rw [possFrom, ih, possAt_len]
theorem possible_len (ds : List DRule) : (possible ds).length = ds.length := by unfold possible; rw [possFrom_len]; simp
/-- a padding behind the list does not matter, while the kids lie within -/
theorem set_pad (c p : List Bool) (k : Nat) (h : k < c.length) : (c ++ p).set k true = c.set k true ++ p := by rw [List.set_append_left _ _ h]
theorem setAll_pad (c p : List Bool) (l : List Int) (h : ∀ k ∈ l, 0 ≤ k ∧ k < c.length) : setAll (c ++ p) l = setAll c l ++ p := by
  unfold setAll
  induction l generalizing c with
  | nil => rfl
  | cons a t ih =>
    have ha := h a (by simp)
    rw [List.foldl_cons, List.foldl_cons, set_pad c p _ (by omega)]
    exact ih _ (fun k hk => by have := h k (by simp [hk]); simpa using this)
/-- the rules that can have an entry -/
def entries (ds : List DRule) : List Nat := (List.range ds.length).filter fun i => (possible ds).getD i false
def entriesUpTo (c : List Bool) (n : Nat) : List Nat := (List.range n).filter fun i => c.getD i false
theorem entries_eq (ds : List DRule) : entries ds = entriesUpTo (possible ds) ds.length := rfl
theorem entriesUpTo_succ (c : List Bool) (n : Nat) : entriesUpTo c (n + 1) = if c.getD n false then entriesUpTo c n ++ [n] else entriesUpTo c n := by
  unfold entriesUpTo
  rw [List.range_succ, List.filter_append]
  by_cases h : c.getD n false
  · rw [if_pos h]; simp only [List.filter_cons, h, if_true, List.filter_nil]
  · rw [if_neg h]; simp only [List.filter_cons, h, List.filter_nil]; simp
/-- what a coverage says of an index -/
def covered (ds : List DRule) (cov : List Int) : Nat := ((entries ds).filter fun i => decide (0 < at0 cov i)).length
def percent (ds : List DRule) (cov : List Int) : Int := if descOk ds then (100 * covered ds cov : Nat) / (entries ds).length else 0
def uncovered (ds : List DRule) (cov : List Int) : List ByteArray := if descOk ds then ((entries ds).filter fun i => at0 cov i == 0).map (fun i => (ds.getD i ⟨⟨#[]⟩, 0, 0, false, [], [], [], []⟩).nm) else []
end Go.Proofs.Ytophjmphjdhjoaa
