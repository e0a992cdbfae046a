/- Kinds of rules, of the reference. -/
import Derived.Test.YtlaejcacembjiaaZAv3
import Derived.Laws.BytesArg
namespace Go.Proofs.Ytlaejcacembjiaa
open Go.RowKit Go.Sort

set_option maxRecDepth 100000 in
set_option maxHeartbeats 4000000 in
theorem sKind1_c (A : Option Addr) (ds : List DRule) (c : Nat) (r : DRule) (Ab : Option Addr) (cb : Nat) (An : Option Addr) (cn : Nat) (At : Option Addr) (ct : Nat) (Ak : Option Addr) (ck : Nat) (w : World) (hd : RdD w A ds c) (h : RdS w r Ab cb An cn At ct Ak ck) (hs : ShortR r) (hw : WfR r) (hk : r.kind = 1) :
    Gives Try.prog 142 #[vdesc (.slice A ds.length c), vrule r (.slice Ab r.bytes.length cb) (.slice An r.names.length cn) (.slice At r.tags.length ct) (.slice Ak r.kids.length ck)] w (.bool ((!r.little || r.kind == 1) && kindOk ds r)) := by
  have eb := Ext_alloc (.cells #[.string r.nm, .int .i64 r.kind, .int .i64 r.size, .bool r.little, .slice Ab r.bytes.length cb, .slice An r.names.length cn, .slice At r.tags.length ct, .slice Ak r.kids.length ck] 76) (Ext_alloc (.cells #[.slice A ds.length c] 38) (Ext.refl w))
  have BX := fun w' (e : Ext ((w.alloc (.cells #[.slice A ds.length c] 38)).alloc (.cells #[.string r.nm, .int .i64 r.kind, .int .i64 r.size, .bool r.little, .slice Ab r.bytes.length cb, .slice An r.names.length cn, .slice At r.tags.length ct, .slice Ak r.kids.length ck] 76)) w') => boxed2 e
  have B0 := fun w' e => (BX w' e).1
  have B1 := fun w' e => (BX w' e).2.1
  clear BX
  have t1 : (r.kind == 1) = true := by rw [hk]; rfl
  have t2 : (r.kind == 2) = false := by rw [hk]; rfl
  have t3 : (r.kind == 3) = false := by rw [hk]; rfl
  have t4 : (r.kind == 4) = false := by rw [hk]; rfl
  have t5 : (r.kind == 5) = false := by rw [hk]; rfl
  have t6 : (r.kind == 6) = false := by rw [hk]; rfl
  have t7 : (r.kind == 7) = false := by rw [hk]; rfl
  have t8 : (r.kind == 8) = false := by rw [hk]; rfl
  have t9 : (r.kind == 9) = false := by rw [hk]; rfl
  have t10 : (r.kind == 10) = false := by rw [hk]; rfl
  have HV : Hid (((!r.little || r.kind == 1) && kindOk ds r) = ((plainB r true false false false 0 && (!r.little || r.kind == 1)) && (between r.size 1 4 && (!r.little || decide (1 < r.size))))) := by
    have : kindOk ds r = (plainB r true false false false 0 && (between r.size 1 4 && (!r.little || decide (1 < r.size)))) := by simp [kindOk, hk, Bool.and_assoc]
    show _ = _; rw [this]; cases (!r.little || r.kind == 1) <;> simp
  rw [HV.out]
  have CP := Lib.hid (fun w => sShape1000_c r Ab cb An cn At ct Ak ck 0 w h.lens)
  generalize (plainB r true false false false 0 && (!r.little || r.kind == 1)) = p at *
  clear HV hk
  have CI := Lib.hid (fun w => l1In_c r.size 1 4 w)
  have HB : Hid (between r.size 1 4 = (decide (((1) : Int) ≤ r.size) && decide (r.size ≤ 4))) := rfl
  rw [← HB.out] at CI
  clear HB
  generalize between r.size 1 4 = q at *
  unfold vrule vdesc at *
  cases p
  · go_enter Try.func142, Try.ntmps142
    go_wp2_with fail
    refine (CP.out _).mono ?_; rintro _ w1 ⟨rfl, he1⟩
    go_wp2
    go_ret
    exact ⟨ret_bool (by simp), eb.trans he1⟩
  cases q
  · go_enter Try.func142, Try.ntmps142
    go_wp2_with fail
    refine (CP.out _).mono ?_; rintro _ w1 ⟨rfl, he1⟩
    go_wp2_with fail
    refine (CI.out _).mono ?_; rintro _ w2 ⟨rfl, he2⟩
    go_wp2
    go_ret
    exact ⟨ret_bool (by simp), eb.trans (he1.trans he2)⟩
  generalize r.little = li at *
  cases li
  all_goals
    cases hz : decide (1 < r.size)
    all_goals
      go_enter Try.func142, Try.ntmps142
      go_wp2_with fail
      refine (CP.out _).mono ?_; rintro _ w1 ⟨rfl, he1⟩
      go_wp2_with fail
      refine (CI.out _).mono ?_; rintro _ w2 ⟨rfl, he2⟩
      have e2 := he1.trans he2
      go_wp2
      go_ret
      exact ⟨ret_bool (by simp), eb.trans e2⟩
set_option maxRecDepth 100000 in
set_option maxHeartbeats 4000000 in
theorem sKind2_c (A : Option Addr) (ds : List DRule) (c : Nat) (r : DRule) (Ab : Option Addr) (cb : Nat) (An : Option Addr) (cn : Nat) (At : Option Addr) (ct : Nat) (Ak : Option Addr) (ck : Nat) (w : World) (hd : RdD w A ds c) (h : RdS w r Ab cb An cn At ct Ak ck) (hs : ShortR r) (hw : WfR r) (hk : r.kind = 2) :
    Gives Try.prog 142 #[vdesc (.slice A ds.length c), vrule r (.slice Ab r.bytes.length cb) (.slice An r.names.length cn) (.slice At r.tags.length ct) (.slice Ak r.kids.length ck)] w (.bool ((!r.little || r.kind == 1) && kindOk ds r)) := by
  have eb := Ext_alloc (.cells #[.string r.nm, .int .i64 r.kind, .int .i64 r.size, .bool r.little, .slice Ab r.bytes.length cb, .slice An r.names.length cn, .slice At r.tags.length ct, .slice Ak r.kids.length ck] 76) (Ext_alloc (.cells #[.slice A ds.length c] 38) (Ext.refl w))
  have BX := fun w' (e : Ext ((w.alloc (.cells #[.slice A ds.length c] 38)).alloc (.cells #[.string r.nm, .int .i64 r.kind, .int .i64 r.size, .bool r.little, .slice Ab r.bytes.length cb, .slice An r.names.length cn, .slice At r.tags.length ct, .slice Ak r.kids.length ck] 76)) w') => boxed2 e
  have B0 := fun w' e => (BX w' e).1
  have B1 := fun w' e => (BX w' e).2.1
  clear BX
  have t1 : (r.kind == 1) = false := by rw [hk]; rfl
  have t2 : (r.kind == 2) = true := by rw [hk]; rfl
  have t3 : (r.kind == 3) = false := by rw [hk]; rfl
  have t4 : (r.kind == 4) = false := by rw [hk]; rfl
  have t5 : (r.kind == 5) = false := by rw [hk]; rfl
  have t6 : (r.kind == 6) = false := by rw [hk]; rfl
  have t7 : (r.kind == 7) = false := by rw [hk]; rfl
  have t8 : (r.kind == 8) = false := by rw [hk]; rfl
  have t9 : (r.kind == 9) = false := by rw [hk]; rfl
  have t10 : (r.kind == 10) = false := by rw [hk]; rfl
  have HV : Hid (((!r.little || r.kind == 1) && kindOk ds r) = ((plainB r false true false false 0 && (!r.little || r.kind == 1)) && (between r.bytes.length 1 16))) := by
    have : kindOk ds r = (plainB r false true false false 0 && (between r.bytes.length 1 16)) := by simp [kindOk, hk, Bool.and_assoc]
    show _ = _; rw [this]; cases (!r.little || r.kind == 1) <;> simp
  rw [HV.out]
  have CP := Lib.hid (fun w => sShape0100_c r Ab cb An cn At ct Ak ck 0 w h.lens)
  generalize (plainB r false true false false 0 && (!r.little || r.kind == 1)) = p at *
  clear HV hk
  have CI := Lib.hid (fun w => l1In_c (r.bytes.length : Int) 1 16 w)
  have HB : Hid (between r.bytes.length 1 16 = (decide (((1) : Int) ≤ (r.bytes.length : Int)) && decide ((r.bytes.length : Int) ≤ 16))) := rfl
  rw [← HB.out] at CI
  clear HB
  generalize between r.bytes.length 1 16 = q at *
  have hlb := h.lens.1
  unfold vrule vdesc at *
  cases p
  · go_enter Try.func142, Try.ntmps142
    go_wp2_with fail
    refine (CP.out _).mono ?_; rintro _ w1 ⟨rfl, he1⟩
    go_wp2
    go_ret
    exact ⟨ret_bool (by simp), eb.trans he1⟩
  go_enter Try.func142, Try.ntmps142
  go_wp2_with fail
  refine (CP.out _).mono ?_; rintro _ w1 ⟨rfl, he1⟩
  go_wp2_with fail
  refine (CI.out _).mono ?_; rintro _ w2 ⟨rfl, he2⟩
  go_wp2
  go_ret
  exact ⟨ret_bool (by simp), eb.trans (he1.trans he2)⟩
set_option maxRecDepth 100000 in
set_option maxHeartbeats 4000000 in
theorem sKind3_c (A : Option Addr) (ds : List DRule) (c : Nat) (r : DRule) (Ab : Option Addr) (cb : Nat) (An : Option Addr) (cn : Nat) (At : Option Addr) (ct : Nat) (Ak : Option Addr) (ck : Nat) (w : World) (hd : RdD w A ds c) (h : RdS w r Ab cb An cn At ct Ak ck) (hs : ShortR r) (hw : WfR r) (hk : r.kind = 3) :
    Gives Try.prog 142 #[vdesc (.slice A ds.length c), vrule r (.slice Ab r.bytes.length cb) (.slice An r.names.length cn) (.slice At r.tags.length ct) (.slice Ak r.kids.length ck)] w (.bool ((!r.little || r.kind == 1) && kindOk ds r)) := by
  have eb := Ext_alloc (.cells #[.string r.nm, .int .i64 r.kind, .int .i64 r.size, .bool r.little, .slice Ab r.bytes.length cb, .slice An r.names.length cn, .slice At r.tags.length ct, .slice Ak r.kids.length ck] 76) (Ext_alloc (.cells #[.slice A ds.length c] 38) (Ext.refl w))
  have BX := fun w' (e : Ext ((w.alloc (.cells #[.slice A ds.length c] 38)).alloc (.cells #[.string r.nm, .int .i64 r.kind, .int .i64 r.size, .bool r.little, .slice Ab r.bytes.length cb, .slice An r.names.length cn, .slice At r.tags.length ct, .slice Ak r.kids.length ck] 76)) w') => boxed2 e
  have B0 := fun w' e => (BX w' e).1
  have B1 := fun w' e => (BX w' e).2.1
  clear BX
  have t1 : (r.kind == 1) = false := by rw [hk]; rfl
  have t2 : (r.kind == 2) = false := by rw [hk]; rfl
  have t3 : (r.kind == 3) = true := by rw [hk]; rfl
  have t4 : (r.kind == 4) = false := by rw [hk]; rfl
  have t5 : (r.kind == 5) = false := by rw [hk]; rfl
  have t6 : (r.kind == 6) = false := by rw [hk]; rfl
  have t7 : (r.kind == 7) = false := by rw [hk]; rfl
  have t8 : (r.kind == 8) = false := by rw [hk]; rfl
  have t9 : (r.kind == 9) = false := by rw [hk]; rfl
  have t10 : (r.kind == 10) = false := by rw [hk]; rfl
  have HV : Hid (((!r.little || r.kind == 1) && kindOk ds r) = ((plainB r true false false false 0 && (!r.little || r.kind == 1)) && (between r.size 1 64))) := by
    have : kindOk ds r = (plainB r true false false false 0 && (between r.size 1 64)) := by simp [kindOk, hk, Bool.and_assoc]
    show _ = _; rw [this]; cases (!r.little || r.kind == 1) <;> simp
  rw [HV.out]
  have CP := Lib.hid (fun w => sShape1000_c r Ab cb An cn At ct Ak ck 0 w h.lens)
  generalize (plainB r true false false false 0 && (!r.little || r.kind == 1)) = p at *
  clear HV hk
  have CI := Lib.hid (fun w => l1In_c r.size 1 64 w)
  have HB : Hid (between r.size 1 64 = (decide (((1) : Int) ≤ r.size) && decide (r.size ≤ 64))) := rfl
  rw [← HB.out] at CI
  clear HB
  generalize between r.size 1 64 = q at *
  have hlb := h.lens.1
  unfold vrule vdesc at *
  cases p
  · go_enter Try.func142, Try.ntmps142
    go_wp2_with fail
    refine (CP.out _).mono ?_; rintro _ w1 ⟨rfl, he1⟩
    go_wp2
    go_ret
    exact ⟨ret_bool (by simp), eb.trans he1⟩
  go_enter Try.func142, Try.ntmps142
  go_wp2_with fail
  refine (CP.out _).mono ?_; rintro _ w1 ⟨rfl, he1⟩
  go_wp2_with fail
  refine (CI.out _).mono ?_; rintro _ w2 ⟨rfl, he2⟩
  go_wp2
  go_ret
  exact ⟨ret_bool (by simp), eb.trans (he1.trans he2)⟩
set_option maxRecDepth 100000 in
set_option maxHeartbeats 4000000 in
theorem sKind4_c (A : Option Addr) (ds : List DRule) (c : Nat) (r : DRule) (Ab : Option Addr) (cb : Nat) (An : Option Addr) (cn : Nat) (At : Option Addr) (ct : Nat) (Ak : Option Addr) (ck : Nat) (w : World) (hd : RdD w A ds c) (h : RdS w r Ab cb An cn At ct Ak ck) (hs : ShortR r) (hw : WfR r) (hk : r.kind = 4) :
    Gives Try.prog 142 #[vdesc (.slice A ds.length c), vrule r (.slice Ab r.bytes.length cb) (.slice An r.names.length cn) (.slice At r.tags.length ct) (.slice Ak r.kids.length ck)] w (.bool ((!r.little || r.kind == 1) && kindOk ds r)) := by
  have eb := Ext_alloc (.cells #[.string r.nm, .int .i64 r.kind, .int .i64 r.size, .bool r.little, .slice Ab r.bytes.length cb, .slice An r.names.length cn, .slice At r.tags.length ct, .slice Ak r.kids.length ck] 76) (Ext_alloc (.cells #[.slice A ds.length c] 38) (Ext.refl w))
  have BX := fun w' (e : Ext ((w.alloc (.cells #[.slice A ds.length c] 38)).alloc (.cells #[.string r.nm, .int .i64 r.kind, .int .i64 r.size, .bool r.little, .slice Ab r.bytes.length cb, .slice An r.names.length cn, .slice At r.tags.length ct, .slice Ak r.kids.length ck] 76)) w') => boxed2 e
  have B0 := fun w' e => (BX w' e).1
  have B1 := fun w' e => (BX w' e).2.1
  clear BX
  have t1 : (r.kind == 1) = false := by rw [hk]; rfl
  have t2 : (r.kind == 2) = false := by rw [hk]; rfl
  have t3 : (r.kind == 3) = false := by rw [hk]; rfl
  have t4 : (r.kind == 4) = true := by rw [hk]; rfl
  have t5 : (r.kind == 5) = false := by rw [hk]; rfl
  have t6 : (r.kind == 6) = false := by rw [hk]; rfl
  have t7 : (r.kind == 7) = false := by rw [hk]; rfl
  have t8 : (r.kind == 8) = false := by rw [hk]; rfl
  have t9 : (r.kind == 9) = false := by rw [hk]; rfl
  have t10 : (r.kind == 10) = false := by rw [hk]; rfl
  have HV : Hid (((!r.little || r.kind == 1) && kindOk ds r) = ((plainB r false false false false 1 && (!r.little || r.kind == 1)) && (decide (0 < limD ds (r.kids.getD 0 0))))) := by
    have : kindOk ds r = (plainB r false false false false 1 && (decide (0 < limD ds (r.kids.getD 0 0)))) := by simp [kindOk, hk, Bool.and_assoc]
    show _ = _; rw [this]; cases (!r.little || r.kind == 1) <;> simp
  rw [HV.out]
  have CP := Lib.hid (fun w => sShape0000_c r Ab cb An cn At ct Ak ck 1 w h.lens)
  have HKL : Hid (plainB r false false false false 1 = true → r.kids.length = 1) := plainB_kids (k := 1)
  have HPP : Hid ((plainB r false false false false 1 && (!r.little || r.kind == 1)) = true → plainB r false false false false 1 = true) := by intro hq; rw [Bool.and_eq_true] at hq; exact hq.1
  have HKK := Lib.hid (fun hq => HKL.out (HPP.out hq)); clear HKL HPP
  generalize (plainB r false false false false 1 && (!r.little || r.kind == 1)) = p at *
  clear HV hk
  have h1 := h.k
  unfold vrule vdesc at *
  cases p
  · go_enter Try.func142, Try.ntmps142
    go_wp2_with fail
    refine wp_region_quiet_below (by kernel_rfl) (by kernel_rfl) ?_
    repeat (go_big_quiet_step ((go_at_call 162; exact Calls.regrown_of (CP.out _))))
    refine wpQuiet_nil ?_
    rintro w1 ⟨⟨nq, osq⟩, hq⟩
    have ew1 := ext_of_q hq
    clear hq nq osq
    go_wp2
    go_ret
    exact ⟨ret_bool (by simp), eb.trans ew1⟩
  have hk0 : 0 < r.kids.length := by have := HKK.out rfl; omega
  obtain ⟨bk, ok, rfl, hbk, hck⟩ := h1.at 0 hk0
  have HG : Hid (r.kids.getD 0 0 = r.kids[0]) := by show _ = _; simp [List.getD_eq_getElem?_getD, List.getElem?_eq_getElem hk0]
  rw [HG.out]
  rw [Nat.add_zero] at hck
  generalize r.kids[0] = kid at *
  have CL := Lib.hid (fun w h => sLimit_c A ds c kid w h)
  unfold vdesc at CL
  generalize limD ds kid = lim at *
  have hck' := fun w' (e : Ext _ w') => hck w' (eb.trans e)
  clear hck h1 h HG HKK
  have hbe := Ext_drew (Ext.refl ((w.alloc (.cells #[.slice A ds.length c] 38)).alloc (.cells #[.string r.nm, .int .i64 r.kind, .int .i64 r.size, .bool r.little, .slice Ab r.bytes.length cb, .slice An r.names.length cn, .slice At r.tags.length ct, .slice (some ⟨bk, ok, none⟩) r.kids.length ck] 76)))
  go_enter Try.func142, Try.ntmps142
  go_wp2_with fail
  refine wp_region_quiet_below (by kernel_rfl) (by kernel_rfl) ?_
  repeat (go_big_quiet_step ((first | (go_at_call 162; exact Calls.regrown_of (CP.out _)) | (go_at_call 163; exact Calls.regrown_of (CL.out _ (hd.ext (eb.trans (by first | assumption | exact Ext_self _ | exact Ext_drew (Ext_self _) | exact Ext_regrown _ _ (Ext_self _)))))))))
  refine wpQuiet_nil ?_
  rintro w1 ⟨⟨nq, osq⟩, hq⟩
  have ew1 := ext_of_q hq
  clear hq nq osq
  go_wp2
  go_ret
  exact ⟨ret_bool (by simp), eb.trans ew1⟩
set_option maxRecDepth 100000 in
set_option maxHeartbeats 4000000 in
theorem sKind5_c (A : Option Addr) (ds : List DRule) (c : Nat) (r : DRule) (Ab : Option Addr) (cb : Nat) (An : Option Addr) (cn : Nat) (At : Option Addr) (ct : Nat) (Ak : Option Addr) (ck : Nat) (w : World) (hd : RdD w A ds c) (h : RdS w r Ab cb An cn At ct Ak ck) (hs : ShortR r) (hw : WfR r) (hk : r.kind = 5) :
    Gives Try.prog 142 #[vdesc (.slice A ds.length c), vrule r (.slice Ab r.bytes.length cb) (.slice An r.names.length cn) (.slice At r.tags.length ct) (.slice Ak r.kids.length ck)] w (.bool ((!r.little || r.kind == 1) && kindOk ds r)) := by
  have eb := Ext_alloc (.cells #[.string r.nm, .int .i64 r.kind, .int .i64 r.size, .bool r.little, .slice Ab r.bytes.length cb, .slice An r.names.length cn, .slice At r.tags.length ct, .slice Ak r.kids.length ck] 76) (Ext_alloc (.cells #[.slice A ds.length c] 38) (Ext.refl w))
  have BX := fun w' (e : Ext ((w.alloc (.cells #[.slice A ds.length c] 38)).alloc (.cells #[.string r.nm, .int .i64 r.kind, .int .i64 r.size, .bool r.little, .slice Ab r.bytes.length cb, .slice An r.names.length cn, .slice At r.tags.length ct, .slice Ak r.kids.length ck] 76)) w') => boxed2 e
  have B0 := fun w' e => (BX w' e).1
  have B1 := fun w' e => (BX w' e).2.1
  clear BX
  have t1 : (r.kind == 1) = false := by rw [hk]; rfl
  have t2 : (r.kind == 2) = false := by rw [hk]; rfl
  have t3 : (r.kind == 3) = false := by rw [hk]; rfl
  have t4 : (r.kind == 4) = false := by rw [hk]; rfl
  have t5 : (r.kind == 5) = true := by rw [hk]; rfl
  have t6 : (r.kind == 6) = false := by rw [hk]; rfl
  have t7 : (r.kind == 7) = false := by rw [hk]; rfl
  have t8 : (r.kind == 8) = false := by rw [hk]; rfl
  have t9 : (r.kind == 9) = false := by rw [hk]; rfl
  have t10 : (r.kind == 10) = false := by rw [hk]; rfl
  have HV : Hid (((!r.little || r.kind == 1) && kindOk ds r) = ((plainB r false false false false 2 && (!r.little || r.kind == 1)) && (decide (0 < limD ds (r.kids.getD 0 0))))) := by
    have : kindOk ds r = (plainB r false false false false 2 && (decide (0 < limD ds (r.kids.getD 0 0)))) := by simp [kindOk, hk, Bool.and_assoc]
    show _ = _; rw [this]; cases (!r.little || r.kind == 1) <;> simp
  rw [HV.out]
  have CP := Lib.hid (fun w => sShape0000_c r Ab cb An cn At ct Ak ck 2 w h.lens)
  have HKL : Hid (plainB r false false false false 2 = true → r.kids.length = 2) := plainB_kids (k := 2)
  have HPP : Hid ((plainB r false false false false 2 && (!r.little || r.kind == 1)) = true → plainB r false false false false 2 = true) := by intro hq; rw [Bool.and_eq_true] at hq; exact hq.1
  have HKK := Lib.hid (fun hq => HKL.out (HPP.out hq)); clear HKL HPP
  generalize (plainB r false false false false 2 && (!r.little || r.kind == 1)) = p at *
  clear HV hk
  have h1 := h.k
  unfold vrule vdesc at *
  cases p
  · go_enter Try.func142, Try.ntmps142
    go_wp2_with fail
    refine wp_region_quiet_below (by kernel_rfl) (by kernel_rfl) ?_
    repeat (go_big_quiet_step ((go_at_call 162; exact Calls.regrown_of (CP.out _))))
    refine wpQuiet_nil ?_
    rintro w1 ⟨⟨nq, osq⟩, hq⟩
    have ew1 := ext_of_q hq
    clear hq nq osq
    go_wp2
    go_ret
    exact ⟨ret_bool (by simp), eb.trans ew1⟩
  have hk0 : 0 < r.kids.length := by have := HKK.out rfl; omega
  obtain ⟨bk, ok, rfl, hbk, hck⟩ := h1.at 0 hk0
  have HG : Hid (r.kids.getD 0 0 = r.kids[0]) := by show _ = _; simp [List.getD_eq_getElem?_getD, List.getElem?_eq_getElem hk0]
  rw [HG.out]
  rw [Nat.add_zero] at hck
  generalize r.kids[0] = kid at *
  have CL := Lib.hid (fun w h => sLimit_c A ds c kid w h)
  unfold vdesc at CL
  generalize limD ds kid = lim at *
  have hck' := fun w' (e : Ext _ w') => hck w' (eb.trans e)
  clear hck h1 h HG HKK
  have hbe := Ext_drew (Ext.refl ((w.alloc (.cells #[.slice A ds.length c] 38)).alloc (.cells #[.string r.nm, .int .i64 r.kind, .int .i64 r.size, .bool r.little, .slice Ab r.bytes.length cb, .slice An r.names.length cn, .slice At r.tags.length ct, .slice (some ⟨bk, ok, none⟩) r.kids.length ck] 76)))
  go_enter Try.func142, Try.ntmps142
  go_wp2_with fail
  refine wp_region_quiet_below (by kernel_rfl) (by kernel_rfl) ?_
  repeat (go_big_quiet_step ((first | (go_at_call 162; exact Calls.regrown_of (CP.out _)) | (go_at_call 163; exact Calls.regrown_of (CL.out _ (hd.ext (eb.trans (by first | assumption | exact Ext_self _ | exact Ext_drew (Ext_self _) | exact Ext_regrown _ _ (Ext_self _)))))))))
  refine wpQuiet_nil ?_
  rintro w1 ⟨⟨nq, osq⟩, hq⟩
  have ew1 := ext_of_q hq
  clear hq nq osq
  go_wp2
  go_ret
  exact ⟨ret_bool (by simp), eb.trans ew1⟩
theorem seq_eq {ds : List DRule} {r : DRule} (hk : r.kind = 6) : kindOk ds r = (plainB r false false true false (r.names.length : Int) && namesB r.names) := by
  have h1 : kindOk ds r = seqOk r := by simp [kindOk, hk]
  rw [h1]
  unfold seqOk namesB plainB
  simp only [Bool.false_or, Bool.true_or, Bool.and_true]
  by_cases hl : r.kids.length = r.names.length
  · simp [hl, Bool.and_assoc]
  · have e1 : decide ((r.kids.length : Int) = (r.names.length : Int)) = false := by simp; omega
    have e2 : decide ((r.names.length : Int) < 0) = false := by simp
    have e3 : (r.kids.length == r.names.length) = false := by simpa using hl
    rw [e1, e2, e3]; simp
set_option maxRecDepth 100000 in
set_option maxHeartbeats 4000000 in
theorem sKind6_c (A : Option Addr) (ds : List DRule) (c : Nat) (r : DRule) (Ab : Option Addr) (cb : Nat) (An : Option Addr) (cn : Nat) (At : Option Addr) (ct : Nat) (Ak : Option Addr) (ck : Nat) (w : World) (hd : RdD w A ds c) (h : RdS w r Ab cb An cn At ct Ak ck) (hs : ShortR r) (hw : WfR r) (hk : r.kind = 6) :
    Gives Try.prog 142 #[vdesc (.slice A ds.length c), vrule r (.slice Ab r.bytes.length cb) (.slice An r.names.length cn) (.slice At r.tags.length ct) (.slice Ak r.kids.length ck)] w (.bool ((!r.little || r.kind == 1) && kindOk ds r)) := by
  have eb := Ext_alloc (.cells #[.string r.nm, .int .i64 r.kind, .int .i64 r.size, .bool r.little, .slice Ab r.bytes.length cb, .slice An r.names.length cn, .slice At r.tags.length ct, .slice Ak r.kids.length ck] 76) (Ext_alloc (.cells #[.slice A ds.length c] 38) (Ext.refl w))
  have BX := fun w' (e : Ext ((w.alloc (.cells #[.slice A ds.length c] 38)).alloc (.cells #[.string r.nm, .int .i64 r.kind, .int .i64 r.size, .bool r.little, .slice Ab r.bytes.length cb, .slice An r.names.length cn, .slice At r.tags.length ct, .slice Ak r.kids.length ck] 76)) w') => boxed2 e
  have B0 := fun w' e => (BX w' e).1
  have B1 := fun w' e => (BX w' e).2.1
  clear BX
  have t1 : (r.kind == 1) = false := by rw [hk]; rfl
  have t2 : (r.kind == 2) = false := by rw [hk]; rfl
  have t3 : (r.kind == 3) = false := by rw [hk]; rfl
  have t4 : (r.kind == 4) = false := by rw [hk]; rfl
  have t5 : (r.kind == 5) = false := by rw [hk]; rfl
  have t6 : (r.kind == 6) = true := by rw [hk]; rfl
  have t7 : (r.kind == 7) = false := by rw [hk]; rfl
  have t8 : (r.kind == 8) = false := by rw [hk]; rfl
  have t9 : (r.kind == 9) = false := by rw [hk]; rfl
  have t10 : (r.kind == 10) = false := by rw [hk]; rfl
  have HV : Hid (((!r.little || r.kind == 1) && kindOk ds r) = ((plainB r false false true false (r.names.length : Int) && (!r.little || r.kind == 1)) && namesB r.names)) := by show _ = _; rw [seq_eq hk]; cases (!r.little || r.kind == 1) <;> simp
  rw [HV.out]
  have CP := Lib.hid (fun w => sShape0010_c r Ab cb An cn At ct Ak ck (r.names.length : Int) w h.lens)
  generalize (plainB r false false true false (r.names.length : Int) && (!r.little || r.kind == 1)) = p at *
  clear HV hk
  have CN := Lib.hid (fun w h => sNames_c An r.names cn w h hw.names)
  generalize namesB r.names = q at *
  have hln := h.n.len
  unfold vrule vdesc at *
  cases p
  · go_enter Try.func142, Try.ntmps142
    go_wp2_with fail
    refine (CP.out _).mono ?_; rintro _ w1 ⟨rfl, he1⟩
    go_wp2
    go_ret
    exact ⟨ret_bool (by simp), eb.trans he1⟩
  go_enter Try.func142, Try.ntmps142
  go_wp2_with fail
  refine (CP.out _).mono ?_; rintro _ w1 ⟨rfl, he1⟩
  go_wp2_with fail
  refine (CN.out _ (h.n.ext (eb.trans he1))).mono ?_; rintro _ w2 ⟨rfl, he2⟩
  go_wp2
  go_ret
  exact ⟨ret_bool (by simp), eb.trans (he1.trans he2)⟩
theorem cho_eq {ds : List DRule} {r : DRule} (hk : r.kind = 7) : kindOk ds r = (plainB r false false false true (-1) && tagsB ds r) := by
  have h1 : kindOk ds r = choOk ds r := by simp [kindOk, hk]
  rw [h1]
  unfold choOk tagsB plainB
  simp only [Bool.false_or, Bool.true_or, Bool.and_true]
  have e2 : decide ((r.tags.length : Int) + 1 < 0) = false := by simp; omega
  by_cases hl : r.kids.length = r.tags.length + 1
  · have e1 : decide ((r.kids.length : Int) = (r.tags.length : Int) + 1) = true := by simp; omega
    have e3 : (r.kids.length == r.tags.length + 1) = true := by simpa using hl
    rw [e1, e2, e3]; simp [Bool.and_assoc]
  · have e1 : decide ((r.kids.length : Int) = (r.tags.length : Int) + 1) = false := by simp; omega
    have e3 : (r.kids.length == r.tags.length + 1) = false := by simpa using hl
    rw [e1, e2, e3]; simp
set_option maxRecDepth 100000 in
set_option maxHeartbeats 4000000 in
theorem sKind7_c (A : Option Addr) (ds : List DRule) (c : Nat) (r : DRule) (Ab : Option Addr) (cb : Nat) (An : Option Addr) (cn : Nat) (At : Option Addr) (ct : Nat) (Ak : Option Addr) (ck : Nat) (w : World) (hd : RdD w A ds c) (h : RdS w r Ab cb An cn At ct Ak ck) (hs : ShortR r) (hw : WfR r) (hk : r.kind = 7) :
    Gives Try.prog 142 #[vdesc (.slice A ds.length c), vrule r (.slice Ab r.bytes.length cb) (.slice An r.names.length cn) (.slice At r.tags.length ct) (.slice Ak r.kids.length ck)] w (.bool ((!r.little || r.kind == 1) && kindOk ds r)) := by
  have eb := Ext_alloc (.cells #[.string r.nm, .int .i64 r.kind, .int .i64 r.size, .bool r.little, .slice Ab r.bytes.length cb, .slice An r.names.length cn, .slice At r.tags.length ct, .slice Ak r.kids.length ck] 76) (Ext_alloc (.cells #[.slice A ds.length c] 38) (Ext.refl w))
  have BX := fun w' (e : Ext ((w.alloc (.cells #[.slice A ds.length c] 38)).alloc (.cells #[.string r.nm, .int .i64 r.kind, .int .i64 r.size, .bool r.little, .slice Ab r.bytes.length cb, .slice An r.names.length cn, .slice At r.tags.length ct, .slice Ak r.kids.length ck] 76)) w') => boxed2 e
  have B0 := fun w' e => (BX w' e).1
  have B1 := fun w' e => (BX w' e).2.1
  clear BX
  have t1 : (r.kind == 1) = false := by rw [hk]; rfl
  have t2 : (r.kind == 2) = false := by rw [hk]; rfl
  have t3 : (r.kind == 3) = false := by rw [hk]; rfl
  have t4 : (r.kind == 4) = false := by rw [hk]; rfl
  have t5 : (r.kind == 5) = false := by rw [hk]; rfl
  have t6 : (r.kind == 6) = false := by rw [hk]; rfl
  have t7 : (r.kind == 7) = true := by rw [hk]; rfl
  have t8 : (r.kind == 8) = false := by rw [hk]; rfl
  have t9 : (r.kind == 9) = false := by rw [hk]; rfl
  have t10 : (r.kind == 10) = false := by rw [hk]; rfl
  have HV : Hid (((!r.little || r.kind == 1) && kindOk ds r) = ((plainB r false false false true (-1) && (!r.little || r.kind == 1)) && tagsB ds r)) := by show _ = _; rw [cho_eq hk]; cases (!r.little || r.kind == 1) <;> simp
  rw [HV.out]
  have CP := Lib.hid (fun w => sShape0001_c r Ab cb An cn At ct Ak ck (-1) w h.lens)
  generalize (plainB r false false false true (-1) && (!r.little || r.kind == 1)) = p at *
  clear HV hk
  have CN := Lib.hid (fun w hd h => sTags_c A ds c r Ab cb An cn At ct Ak ck w hd h hs)
  generalize tagsB ds r = q at *
  have hln := h.n.len
  unfold vrule vdesc at *
  cases p
  · go_enter Try.func142, Try.ntmps142
    go_wp2_with fail
    refine (CP.out _).mono ?_; rintro _ w1 ⟨rfl, he1⟩
    go_wp2
    go_ret
    exact ⟨ret_bool (by simp), eb.trans he1⟩
  go_enter Try.func142, Try.ntmps142
  go_wp2_with fail
  refine (CP.out _).mono ?_; rintro _ w1 ⟨rfl, he1⟩
  go_wp2_with fail
  refine (CN.out _ (hd.ext (eb.trans he1)) (h.ext (eb.trans he1))).mono ?_; rintro _ w2 ⟨rfl, he2⟩
  go_wp2
  go_ret
  exact ⟨ret_bool (by simp), eb.trans (he1.trans he2)⟩
set_option maxRecDepth 100000 in
set_option maxHeartbeats 4000000 in
theorem sKind8_c (A : Option Addr) (ds : List DRule) (c : Nat) (r : DRule) (Ab : Option Addr) (cb : Nat) (An : Option Addr) (cn : Nat) (At : Option Addr) (ct : Nat) (Ak : Option Addr) (ck : Nat) (w : World) (hd : RdD w A ds c) (h : RdS w r Ab cb An cn At ct Ak ck) (hs : ShortR r) (hw : WfR r) (hk : r.kind = 8) :
    Gives Try.prog 142 #[vdesc (.slice A ds.length c), vrule r (.slice Ab r.bytes.length cb) (.slice An r.names.length cn) (.slice At r.tags.length ct) (.slice Ak r.kids.length ck)] w (.bool ((!r.little || r.kind == 1) && kindOk ds r)) := by
  have eb := Ext_alloc (.cells #[.string r.nm, .int .i64 r.kind, .int .i64 r.size, .bool r.little, .slice Ab r.bytes.length cb, .slice An r.names.length cn, .slice At r.tags.length ct, .slice Ak r.kids.length ck] 76) (Ext_alloc (.cells #[.slice A ds.length c] 38) (Ext.refl w))
  have BX := fun w' (e : Ext ((w.alloc (.cells #[.slice A ds.length c] 38)).alloc (.cells #[.string r.nm, .int .i64 r.kind, .int .i64 r.size, .bool r.little, .slice Ab r.bytes.length cb, .slice An r.names.length cn, .slice At r.tags.length ct, .slice Ak r.kids.length ck] 76)) w') => boxed2 e
  have B0 := fun w' e => (BX w' e).1
  have B1 := fun w' e => (BX w' e).2.1
  clear BX
  have t1 : (r.kind == 1) = false := by rw [hk]; rfl
  have t2 : (r.kind == 2) = false := by rw [hk]; rfl
  have t3 : (r.kind == 3) = false := by rw [hk]; rfl
  have t4 : (r.kind == 4) = false := by rw [hk]; rfl
  have t5 : (r.kind == 5) = false := by rw [hk]; rfl
  have t6 : (r.kind == 6) = false := by rw [hk]; rfl
  have t7 : (r.kind == 7) = false := by rw [hk]; rfl
  have t8 : (r.kind == 8) = true := by rw [hk]; rfl
  have t9 : (r.kind == 9) = false := by rw [hk]; rfl
  have t10 : (r.kind == 10) = false := by rw [hk]; rfl
  have HV : Hid (((!r.little || r.kind == 1) && kindOk ds r) = (plainB r false false false false 1 && (!r.little || r.kind == 1))) := by show _ = _; simp [kindOk, hk]; rw [Bool.and_comm]
  rw [HV.out]
  have CP := Lib.hid (fun w => sShape0000_c r Ab cb An cn At ct Ak ck 1 w h.lens)
  generalize (plainB r false false false false 1 && (!r.little || r.kind == 1)) = p at *
  clear HV hk
  unfold vrule vdesc at *
  go_enter Try.func142, Try.ntmps142
  go_wp2_with fail
  refine (CP.out _).mono ?_; rintro _ w1 ⟨rfl, he1⟩
  go_wp2
  go_ret
  exact ⟨rfl, eb.trans he1⟩
set_option maxRecDepth 100000 in
set_option maxHeartbeats 4000000 in
theorem sKind9_c (A : Option Addr) (ds : List DRule) (c : Nat) (r : DRule) (Ab : Option Addr) (cb : Nat) (An : Option Addr) (cn : Nat) (At : Option Addr) (ct : Nat) (Ak : Option Addr) (ck : Nat) (w : World) (hd : RdD w A ds c) (h : RdS w r Ab cb An cn At ct Ak ck) (hs : ShortR r) (hw : WfR r) (hk : r.kind = 9) :
    Gives Try.prog 142 #[vdesc (.slice A ds.length c), vrule r (.slice Ab r.bytes.length cb) (.slice An r.names.length cn) (.slice At r.tags.length ct) (.slice Ak r.kids.length ck)] w (.bool ((!r.little || r.kind == 1) && kindOk ds r)) := by
  have eb := Ext_alloc (.cells #[.string r.nm, .int .i64 r.kind, .int .i64 r.size, .bool r.little, .slice Ab r.bytes.length cb, .slice An r.names.length cn, .slice At r.tags.length ct, .slice Ak r.kids.length ck] 76) (Ext_alloc (.cells #[.slice A ds.length c] 38) (Ext.refl w))
  have BX := fun w' (e : Ext ((w.alloc (.cells #[.slice A ds.length c] 38)).alloc (.cells #[.string r.nm, .int .i64 r.kind, .int .i64 r.size, .bool r.little, .slice Ab r.bytes.length cb, .slice An r.names.length cn, .slice At r.tags.length ct, .slice Ak r.kids.length ck] 76)) w') => boxed2 e
  have B0 := fun w' e => (BX w' e).1
  have B1 := fun w' e => (BX w' e).2.1
  clear BX
  have t1 : (r.kind == 1) = false := by rw [hk]; rfl
  have t2 : (r.kind == 2) = false := by rw [hk]; rfl
  have t3 : (r.kind == 3) = false := by rw [hk]; rfl
  have t4 : (r.kind == 4) = false := by rw [hk]; rfl
  have t5 : (r.kind == 5) = false := by rw [hk]; rfl
  have t6 : (r.kind == 6) = false := by rw [hk]; rfl
  have t7 : (r.kind == 7) = false := by rw [hk]; rfl
  have t8 : (r.kind == 8) = false := by rw [hk]; rfl
  have t9 : (r.kind == 9) = true := by rw [hk]; rfl
  have t10 : (r.kind == 10) = false := by rw [hk]; rfl
  have HV : Hid (((!r.little || r.kind == 1) && kindOk ds r) = (plainB r false false false false 1 && (!r.little || r.kind == 1))) := by show _ = _; simp [kindOk, hk]; rw [Bool.and_comm]
  rw [HV.out]
  have CP := Lib.hid (fun w => sShape0000_c r Ab cb An cn At ct Ak ck 1 w h.lens)
  generalize (plainB r false false false false 1 && (!r.little || r.kind == 1)) = p at *
  clear HV hk
  unfold vrule vdesc at *
  go_enter Try.func142, Try.ntmps142
  go_wp2_with fail
  refine (CP.out _).mono ?_; rintro _ w1 ⟨rfl, he1⟩
  go_wp2
  go_ret
  exact ⟨rfl, eb.trans he1⟩
set_option maxRecDepth 100000 in
set_option maxHeartbeats 4000000 in
theorem sKind10_c (A : Option Addr) (ds : List DRule) (c : Nat) (r : DRule) (Ab : Option Addr) (cb : Nat) (An : Option Addr) (cn : Nat) (At : Option Addr) (ct : Nat) (Ak : Option Addr) (ck : Nat) (w : World) (hd : RdD w A ds c) (h : RdS w r Ab cb An cn At ct Ak ck) (hs : ShortR r) (hw : WfR r) (hk : r.kind = 10) :
    Gives Try.prog 142 #[vdesc (.slice A ds.length c), vrule r (.slice Ab r.bytes.length cb) (.slice An r.names.length cn) (.slice At r.tags.length ct) (.slice Ak r.kids.length ck)] w (.bool ((!r.little || r.kind == 1) && kindOk ds r)) := by
  have eb := Ext_alloc (.cells #[.string r.nm, .int .i64 r.kind, .int .i64 r.size, .bool r.little, .slice Ab r.bytes.length cb, .slice An r.names.length cn, .slice At r.tags.length ct, .slice Ak r.kids.length ck] 76) (Ext_alloc (.cells #[.slice A ds.length c] 38) (Ext.refl w))
  have BX := fun w' (e : Ext ((w.alloc (.cells #[.slice A ds.length c] 38)).alloc (.cells #[.string r.nm, .int .i64 r.kind, .int .i64 r.size, .bool r.little, .slice Ab r.bytes.length cb, .slice An r.names.length cn, .slice At r.tags.length ct, .slice Ak r.kids.length ck] 76)) w') => boxed2 e
  have B0 := fun w' e => (BX w' e).1
  have B1 := fun w' e => (BX w' e).2.1
  clear BX
  have t1 : (r.kind == 1) = false := by rw [hk]; rfl
  have t2 : (r.kind == 2) = false := by rw [hk]; rfl
  have t3 : (r.kind == 3) = false := by rw [hk]; rfl
  have t4 : (r.kind == 4) = false := by rw [hk]; rfl
  have t5 : (r.kind == 5) = false := by rw [hk]; rfl
  have t6 : (r.kind == 6) = false := by rw [hk]; rfl
  have t7 : (r.kind == 7) = false := by rw [hk]; rfl
  have t8 : (r.kind == 8) = false := by rw [hk]; rfl
  have t9 : (r.kind == 9) = false := by rw [hk]; rfl
  have t10 : (r.kind == 10) = true := by rw [hk]; rfl
  have HV : Hid (((!r.little || r.kind == 1) && kindOk ds r) = ((plainB r false true false false 0 && (!r.little || r.kind == 1)) && (r.bytes.length == 1 && !(r.bytes.getD 0 0 == 92)))) := by
    have : kindOk ds r = (plainB r false true false false 0 && (r.bytes.length == 1 && !(r.bytes.getD 0 0 == 92))) := by simp [kindOk, hk, Bool.and_assoc]
    show _ = _; rw [this]; cases (!r.little || r.kind == 1) <;> simp
  rw [HV.out]
  have CP := Lib.hid (fun w => sShape0100_c r Ab cb An cn At ct Ak ck 0 w h.lens)
  generalize (plainB r false true false false 0 && (!r.little || r.kind == 1)) = p at *
  clear HV hk
  have h1 := h.b
  have hlb := h1.len
  unfold vrule vdesc at *
  cases p
  · go_enter Try.func142, Try.ntmps142
    go_wp2_with fail
    refine (CP.out _).mono ?_; rintro _ w1 ⟨rfl, he1⟩
    go_wp2
    go_ret
    exact ⟨ret_bool (by simp), eb.trans he1⟩
  by_cases hl : r.bytes.length = 1
  · have hk0 : 0 < r.bytes.length := by omega
    obtain ⟨bb, ob, rfl, hbb, hcb⟩ := h1.at 0 hk0
    have HG : Hid (r.bytes.getD 0 0 = r.bytes[0]) := by show _ = _; simp [List.getD_eq_getElem?_getD, List.getElem?_eq_getElem hk0]
    rw [HG.out]
    rw [Nat.add_zero] at hcb
    generalize r.bytes[0] = x at *
    have hck' := fun w' (e : Ext _ w') => hcb w' (eb.trans e)
    have l1 : ((r.bytes.length : Int) == 1) = true := by simp [hl]
    have HL : Hid ((r.bytes.length == 1) = true) := by show _ = _; simp [hl]
    rw [HL.out]
    have HX : Hid ((!(x == 92)) = ((x.toNat : Int) != 92)) := by
      show _ = _
      rw [bne]; congr 1
      rw [Bool.eq_iff_iff]; simp only [beq_iff_eq]
      constructor
      · rintro rfl; rfl
      · intro hx; exact u8_inj (by simpa using hx)
    rw [HX.out]
    clear hcb h1 h HG hl HL HX
    go_enter Try.func142, Try.ntmps142
    go_wp2_with fail
    refine (CP.out _).mono ?_; rintro _ w1 ⟨rfl, he1⟩
    go_wp2
    go_ret
    exact ⟨ret_bool (by simp), eb.trans he1⟩
  · have l1 : ((r.bytes.length : Int) == 1) = false := by simp; omega
    have HL : Hid ((r.bytes.length == 1) = false) := by show _ = _; simpa using hl
    rw [HL.out]
    clear hl HL
    go_enter Try.func142, Try.ntmps142
    go_wp2_with fail
    refine (CP.out _).mono ?_; rintro _ w1 ⟨rfl, he1⟩
    go_wp2
    go_ret
    exact ⟨ret_bool (by simp), eb.trans he1⟩
set_option maxRecDepth 100000 in
set_option maxHeartbeats 4000000 in
theorem sKindX_c (A : Option Addr) (ds : List DRule) (c : Nat) (r : DRule) (Ab : Option Addr) (cb : Nat) (An : Option Addr) (cn : Nat) (At : Option Addr) (ct : Nat) (Ak : Option Addr) (ck : Nat) (w : World) (hd : RdD w A ds c) (h : RdS w r Ab cb An cn At ct Ak ck) (hs : ShortR r) (hw : WfR r) (hk : r.kind < 1 ∨ 10 < r.kind) :
    Gives Try.prog 142 #[vdesc (.slice A ds.length c), vrule r (.slice Ab r.bytes.length cb) (.slice An r.names.length cn) (.slice At r.tags.length ct) (.slice Ak r.kids.length ck)] w (.bool ((!r.little || r.kind == 1) && kindOk ds r)) := by
  have eb := Ext_alloc (.cells #[.string r.nm, .int .i64 r.kind, .int .i64 r.size, .bool r.little, .slice Ab r.bytes.length cb, .slice An r.names.length cn, .slice At r.tags.length ct, .slice Ak r.kids.length ck] 76) (Ext_alloc (.cells #[.slice A ds.length c] 38) (Ext.refl w))
  have BX := fun w' (e : Ext ((w.alloc (.cells #[.slice A ds.length c] 38)).alloc (.cells #[.string r.nm, .int .i64 r.kind, .int .i64 r.size, .bool r.little, .slice Ab r.bytes.length cb, .slice An r.names.length cn, .slice At r.tags.length ct, .slice Ak r.kids.length ck] 76)) w') => boxed2 e
  have B0 := fun w' e => (BX w' e).1
  have B1 := fun w' e => (BX w' e).2.1
  clear BX
  have t1 : (r.kind == 1) = false := by simp; omega
  have t2 : (r.kind == 2) = false := by simp; omega
  have t3 : (r.kind == 3) = false := by simp; omega
  have t4 : (r.kind == 4) = false := by simp; omega
  have t5 : (r.kind == 5) = false := by simp; omega
  have t6 : (r.kind == 6) = false := by simp; omega
  have t7 : (r.kind == 7) = false := by simp; omega
  have t8 : (r.kind == 8) = false := by simp; omega
  have t9 : (r.kind == 9) = false := by simp; omega
  have t10 : (r.kind == 10) = false := by simp; omega
  have HV : Hid (((!r.little || r.kind == 1) && kindOk ds r) = false) := by
    show _ = _; unfold kindOk
    rw [if_neg (by omega), if_neg (by omega), if_neg (by omega), if_neg (by omega), if_neg (by omega), if_neg (by omega), if_neg (by omega), if_neg (by omega), if_neg (by omega), if_neg (by omega)]; simp
  rw [HV.out]
  clear HV hk
  unfold vrule vdesc at *
  go_enter Try.func142, Try.ntmps142
  go_wp2
  go_ret
  exact ⟨rfl, eb⟩
end Go.Proofs.Ytlaejcacembjiaa

/- Kinds of rules, all together; a valid rule. -/
namespace Go.Proofs.Ytlaejcacembjiaa
open Go.RowKit Go.Sort

theorem iKind_c (A : Option Addr) (ds : List DRule) (c : Nat) (r : DRule) (Ab : Option Addr) (cb : Nat) (An : Option Addr) (cn : Nat) (At : Option Addr) (ct : Nat) (Ak : Option Addr) (ck : Nat) (w : World) (hd : RdD w A ds c) (h : RdS w r Ab cb An cn At ct Ak ck) (hs : ShortR r) (hw : WfR r) :
    Gives Try.prog 150 #[vdesc (.slice A ds.length c), vrule r (.slice Ab r.bytes.length cb) (.slice An r.names.length cn) (.slice At r.tags.length ct) (.slice Ak r.kids.length ck)] w (.bool (kindOk ds r)) := by
  rcases (by omega : r.kind = 1 ∨ r.kind = 2 ∨ r.kind = 3 ∨ r.kind = 4 ∨ r.kind = 5 ∨ r.kind = 6 ∨ r.kind = 7 ∨ r.kind = 8 ∨ r.kind = 9 ∨ r.kind = 10 ∨ (r.kind < 1 ∨ 10 < r.kind)) with hk | hk | hk | hk | hk | hk | hk | hk | hk | hk | hk
  · exact iKind1_c A ds c r Ab cb An cn At ct Ak ck w hd h hs hw hk
  · exact iKind2_c A ds c r Ab cb An cn At ct Ak ck w hd h hs hw hk
  · exact iKind3_c A ds c r Ab cb An cn At ct Ak ck w hd h hs hw hk
  · exact iKind4_c A ds c r Ab cb An cn At ct Ak ck w hd h hs hw hk
  · exact iKind5_c A ds c r Ab cb An cn At ct Ak ck w hd h hs hw hk
  · exact iKind6_c A ds c r Ab cb An cn At ct Ak ck w hd h hs hw hk
  · exact iKind7_c A ds c r Ab cb An cn At ct Ak ck w hd h hs hw hk
  · exact iKind8_c A ds c r Ab cb An cn At ct Ak ck w hd h hs hw hk
  · exact iKind9_c A ds c r Ab cb An cn At ct Ak ck w hd h hs hw hk
  · exact iKind10_c A ds c r Ab cb An cn At ct Ak ck w hd h hs hw hk
  · exact iKindX_c A ds c r Ab cb An cn At ct Ak ck w hd h hs hw hk
theorem sKind_c (A : Option Addr) (ds : List DRule) (c : Nat) (r : DRule) (Ab : Option Addr) (cb : Nat) (An : Option Addr) (cn : Nat) (At : Option Addr) (ct : Nat) (Ak : Option Addr) (ck : Nat) (w : World) (hd : RdD w A ds c) (h : RdS w r Ab cb An cn At ct Ak ck) (hs : ShortR r) (hw : WfR r) :
    Gives Try.prog 142 #[vdesc (.slice A ds.length c), vrule r (.slice Ab r.bytes.length cb) (.slice An r.names.length cn) (.slice At r.tags.length ct) (.slice Ak r.kids.length ck)] w (.bool ((!r.little || r.kind == 1) && kindOk ds r)) := by
  rcases (by omega : r.kind = 1 ∨ r.kind = 2 ∨ r.kind = 3 ∨ r.kind = 4 ∨ r.kind = 5 ∨ r.kind = 6 ∨ r.kind = 7 ∨ r.kind = 8 ∨ r.kind = 9 ∨ r.kind = 10 ∨ (r.kind < 1 ∨ 10 < r.kind)) with hk | hk | hk | hk | hk | hk | hk | hk | hk | hk | hk
  · exact sKind1_c A ds c r Ab cb An cn At ct Ak ck w hd h hs hw hk
  · exact sKind2_c A ds c r Ab cb An cn At ct Ak ck w hd h hs hw hk
  · exact sKind3_c A ds c r Ab cb An cn At ct Ak ck w hd h hs hw hk
  · exact sKind4_c A ds c r Ab cb An cn At ct Ak ck w hd h hs hw hk
  · exact sKind5_c A ds c r Ab cb An cn At ct Ak ck w hd h hs hw hk
  · exact sKind6_c A ds c r Ab cb An cn At ct Ak ck w hd h hs hw hk
  · exact sKind7_c A ds c r Ab cb An cn At ct Ak ck w hd h hs hw hk
  · exact sKind8_c A ds c r Ab cb An cn At ct Ak ck w hd h hs hw hk
  · exact sKind9_c A ds c r Ab cb An cn At ct Ak ck w hd h hs hw hk
  · exact sKind10_c A ds c r Ab cb An cn At ct Ak ck w hd h hs hw hk
  · exact sKindX_c A ds c r Ab cb An cn At ct Ak ck w hd h hs hw hk
theorem freshNm_at {ds : List DRule} {r : DRule} {j : Nat} (h : j < ds.length) : freshNm ds r j = !(ds[j].nm.toList == r.nm.toList) := by unfold freshNm; rw [List.getElem?_eq_getElem h]
theorem kidOk_at {l : List Int} {i j : Nat} (h : j < l.length) : kidOk l i j = between l[j] 0 ((i : Int) - 1) := by unfold kidOk; rw [List.getElem?_eq_getElem h]
theorem ruleOk_at {ds : List DRule} {i : Nat} (h : i < ds.length) : ruleOk ds i = (isName ds[i].nm && (!ds[i].little || ds[i].kind == 1) && allN i (freshNm ds ds[i]) && allN ds[i].kids.length (kidOk ds[i].kids i) && kindOk ds ds[i]) := by unfold ruleOk; rw [List.getElem?_eq_getElem h]
end Go.Proofs.Ytlaejcacembjiaa

/- Valid rules, descriptions and registries. -/
namespace Go.Proofs.Ytlaejcacembjiaa
open Go.RowKit Go.Sort

set_option maxRecDepth 100000 in
set_option maxHeartbeats 8000000 in
theorem iRule_c (A : Option Addr) (ds : List DRule) (c : Nat) (i : Nat) (w : World) (hd : RdD w A ds c) (hi : i < ds.length) (hs : ShortD ds) (hw : WfD ds) :
    Gives Try.prog 110 #[vdesc (.slice A ds.length c), .int .i64 i] w (.bool (ruleOk ds i)) := by
  have hl := hd.len
  have hcap := hd.cap
  have eb := Ext_alloc (.cells #[.slice A ds.length c] 38) (Ext.refl w)
  have BX := fun w' (e : Ext (w.alloc (.cells #[.slice A ds.length c] 38)) w') => boxed e
  rw [ruleOk_at hi]
  obtain ⟨b, off, hA, hb, hall⟩ := hd.cells (by omega)
  have HALL := Lib.hid hall
  obtain ⟨Ab, cb, An, cn, At, ct, Ak, ck, hS, hRA⟩ := hall i hi
  clear hall
  have hsr := hs _ (List.getElem_mem hi); have hwr := hw _ (List.getElem_mem hi)
  have HF : Hid (∀ j (h : j < ds.length), freshNm ds ds[i] j = !(ds[j].nm.toList == ds[i].nm.toList)) := fun j h => freshNm_at h
  generalize ds[i] = r at *
  have HKO : Hid (∀ j (h : j < r.kids.length), kidOk r.kids i j = between r.kids[j] 0 ((i : Int) - 1)) := fun j h => kidOk_at h
  have CK := Lib.hid (fun w h h' => iKind_c A ds c r Ab cb An cn At ct Ak ck w h h' hsr hwr)
  have CN := Lib.hid (fun w => iIsName_c r.nm w hwr.nm)
  have HS := Lib.hid hS
  have hK := hS.k
  have hKl := hK.len
  generalize kindOk ds r = KO at *
  generalize isName r.nm = NM at *
  generalize freshNm ds r = FR at *
  have HSX : Hid (∀ w', Ext w w' → RdS w' r Ab cb An cn At ct Ak ck) := fun w' e => HS.out.ext e
  clear hS hsr hwr HS
  unfold vrule vdesc at *
  have CK' := Lib.hid (fun w' (e : Ext w w') => CK.out w' (hd.ext e) (HSX.out w' e))
  clear CK HSX
  replace hRA := hRA.ext eb
  obtain ⟨nm, kind, size, little, bytes, names, tags, kids⟩ := r
  obtain ⟨k0, k1, k2, k3, k4, k5, k6, k7⟩ := hRA
  dsimp only at *
  have hi1 : (i : Int) < (ds.length : Int) := by omega
  have hi0 : (0 : Int) ≤ (i : Int) := by omega
  have hic : (i : Int) ≤ (c : Int) := by omega
  have CI := Lib.hid (fun w => hasRule_c A ds.length c (i : Int) w hl)
  have HI : Hid ((decide ((0 : Int) ≤ (i : Int)) && decide ((i : Int) < (ds.length : Int))) = true) := by show _ = _; simp; omega
  rw [HI.out] at CI
  unfold vdesc at CI
  clear HI hd
  subst hA
  obtain ⟨kq, hkq⟩ : ∃ kq, (kind == 1) = kq := ⟨_, rfl⟩
  have hkn : (kind != 1) = !kq := by rw [bne, hkq]
  rw [hkq]
  cases NM
  · clear hkq hkn
    go_enter Try.func110, Try.ntmps110
    go_wp2_with fail
    refine (CI.out _).mono ?_; rintro _ w1 ⟨rfl, s1⟩
    have x1 := Ext_alloc (.cells #[.string nm, .int .i64 kind, .int .i64 size, .bool little, .slice Ab bytes.length cb, .slice An names.length cn, .slice At tags.length ct, .slice Ak kids.length ck] 76) (Ext.refl w1)
    have BR := fun w' (e : Ext (w1.alloc (.cells #[.string nm, .int .i64 kind, .int .i64 size, .bool little, .slice Ab bytes.length cb, .slice An names.length cn, .slice At tags.length ct, .slice Ak kids.length ck] 76)) w') => boxed e
    have e1 := s1.trans x1
    have eb1 := eb.trans e1
    go_wp2_with fail
    refine (CN.out _).mono ?_; rintro _ w2 ⟨rfl, s2⟩
    go_wp2
    go_ret
    exact ⟨ret_bool (by simp), eb1.trans s2⟩
  cases little
  · clear hkq hkn
    go_enter Try.func110, Try.ntmps110
    go_wp2_with fail
    refine (CI.out _).mono ?_; rintro _ w1 ⟨rfl, s1⟩
    have x1 := Ext_alloc (.cells #[.string nm, .int .i64 kind, .int .i64 size, .bool false, .slice Ab bytes.length cb, .slice An names.length cn, .slice At tags.length ct, .slice Ak kids.length ck] 76) (Ext.refl w1)
    have BR := fun w' (e : Ext (w1.alloc (.cells #[.string nm, .int .i64 kind, .int .i64 size, .bool false, .slice Ab bytes.length cb, .slice An names.length cn, .slice At tags.length ct, .slice Ak kids.length ck] 76)) w') => boxed e
    have e1 := s1.trans x1
    have eb1 := eb.trans e1
    go_wp2_with fail
    refine (CN.out _).mono ?_; rintro _ w2 ⟨rfl, s2⟩
    have hx2 := e1.trans s2
    go_wp2
    go_loopw [37] (fun q wr => ∃ k : Nat, k ≤ i ∧ q = .int .i64 k ∧ Hid (∀ j, j < k → FR j = true) ∧ Ext (w1.alloc (.cells #[.string nm, .int .i64 kind, .int .i64 size, .bool false, .slice Ab bytes.length cb, .slice An names.length cn, .slice At tags.length ct, .slice Ak kids.length ck] 76)) wr) (fun q _ => i - (intOf q).toNat)
    case atStart => exact ⟨0, by omega, rfl, (fun j hj => by omega), s2⟩
    case round =>
      clear hx2 s2
      obtain ⟨k, hk, rfl, ht, he⟩ := hrel
      have hx := e1.trans he
      by_cases hlt : k < i
      · have hkd : k < ds.length := by omega
        obtain ⟨Ab2, cb2, An2, cn2, At2, ct2, Ak2, ck2, _, hR2⟩ := HALL.out k hkd
        have HN := Lib.hid (HF.out k hkd)
        have NO : Hid (FR k = false → allN i FR = false) := fun hf => allN_no hlt hf
        have YES : Hid (FR k = true → ∀ j, j < k + 1 → FR j = true) := upTo ht.out
        generalize ds[k] = p at *
        obtain ⟨m0, m1, m2, m3, m4, m5, m6, m7⟩ := hR2.ext eb
        clear hR2 ht
        have hk1 : (k : Int) < (ds.length : Int) := by omega
        cases hq : (p.nm.toList == nm.toList)
        · have HE := Lib.hid (YES.out (HN.out.trans (by rw [hq]; rfl))); clear NO YES HN
          go_wp2
          go_roundw
          case rel => exact ⟨k+1, by omega, by go_num, HE.out, Ext_alloc _ he⟩
          case measure => simp [intOf]; omega
        · have HE := Lib.hid (NO.out (HN.out.trans (by rw [hq]; rfl))); clear NO YES HN
          go_wp2
          go_ret
          exact ⟨ret_bool (by rw [HE.out]; simp), eb1.trans (Ext_alloc _ he)⟩
      · have HE1 : Hid (allN i FR = true) := allN_yes (fun j hj => ht.out j (by omega))
        obtain ⟨wo, rfl⟩ : ∃ wo : World, wo = wr := ⟨_, rfl⟩
        clear ht HALL HF
        go_wp2
        go_loopw [50] (fun q wr => ∃ k : Nat, k ≤ kids.length ∧ q = .int .i64 k ∧ Hid (∀ j, j < k → kidOk kids i j = true) ∧ Ext (w1.alloc (.cells #[.string nm, .int .i64 kind, .int .i64 size, .bool false, .slice Ab bytes.length cb, .slice An names.length cn, .slice At tags.length ct, .slice Ak kids.length ck] 76)) wr) (fun q _ => kids.length - (intOf q).toNat)
        case atStart => exact ⟨0, by omega, rfl, (fun j hj => by omega), he⟩
        case round =>
          clear he hx
          obtain ⟨k, hk, rfl, ht, he⟩ := hrel
          have hx := e1.trans he
          by_cases hlt : k < kids.length
          · have HN := Lib.hid (HKO.out k hlt)
            have NO : Hid (kidOk kids i k = false → allN kids.length (kidOk kids i) = false) := fun hf => allN_no hlt hf
            have YES : Hid (kidOk kids i k = true → ∀ j, j < k + 1 → kidOk kids i j = true) := upTo ht.out
            obtain ⟨b2, off2, rfl, hb2, hc2⟩ := hK.at k hlt
            have hc3 := fun w' (e : Ext _ w') => hc2 w' (eb.trans e)
            clear hc2 ht
            generalize kids[k] = kid at *
            cases q1 : decide (kid < 0)
            · cases q2 : decide ((i : Int) ≤ kid)
              · have HE := Lib.hid (YES.out (HN.out.trans (by unfold between; simp at q1 q2 ⊢; omega))); clear NO YES HN
                go_wp2
                go_roundw
                case rel => exact ⟨k+1, by omega, by go_num, HE.out, he⟩
                case measure => simp [intOf]; omega
              · have HE := Lib.hid (NO.out (HN.out.trans (by unfold between; simp at q1 q2 ⊢; omega))); clear NO YES HN
                go_wp2
                go_ret
                exact ⟨ret_bool (by rw [HE.out]; simp), eb1.trans he⟩
            · have HE := Lib.hid (NO.out (HN.out.trans (by unfold between; simp at q1 ⊢; omega))); clear NO YES HN
              go_wp2
              go_ret
              exact ⟨ret_bool (by rw [HE.out]; simp), eb1.trans he⟩
          · have HE2 : Hid (allN kids.length (kidOk kids i) = true) := allN_yes (fun j hj => ht.out j (by omega))
            go_wp2_with fail
            refine (CK'.out _ (eb1.trans he)).mono ?_; rintro _ w8 ⟨rfl, s8⟩
            go_wp2
            go_ret
            exact ⟨ret_bool (by rw [HE1.out, HE2.out]; simp), eb1.trans (he.trans s8)⟩

  cases kq
  · go_enter Try.func110, Try.ntmps110
    go_wp2_with fail
    refine (CI.out _).mono ?_; rintro _ w1 ⟨rfl, s1⟩
    have x1 := Ext_alloc (.cells #[.string nm, .int .i64 kind, .int .i64 size, .bool true, .slice Ab bytes.length cb, .slice An names.length cn, .slice At tags.length ct, .slice Ak kids.length ck] 76) (Ext.refl w1)
    have BR := fun w' (e : Ext (w1.alloc (.cells #[.string nm, .int .i64 kind, .int .i64 size, .bool true, .slice Ab bytes.length cb, .slice An names.length cn, .slice At tags.length ct, .slice Ak kids.length ck] 76)) w') => boxed e
    have e1 := s1.trans x1
    have eb1 := eb.trans e1
    go_wp2_with fail
    refine (CN.out _).mono ?_; rintro _ w2 ⟨rfl, s2⟩
    go_wp2
    go_ret
    exact ⟨ret_bool (by simp), eb1.trans s2⟩
  go_enter Try.func110, Try.ntmps110
  go_wp2_with fail
  refine (CI.out _).mono ?_; rintro _ w1 ⟨rfl, s1⟩
  have x1 := Ext_alloc (.cells #[.string nm, .int .i64 kind, .int .i64 size, .bool true, .slice Ab bytes.length cb, .slice An names.length cn, .slice At tags.length ct, .slice Ak kids.length ck] 76) (Ext.refl w1)
  have BR := fun w' (e : Ext (w1.alloc (.cells #[.string nm, .int .i64 kind, .int .i64 size, .bool true, .slice Ab bytes.length cb, .slice An names.length cn, .slice At tags.length ct, .slice Ak kids.length ck] 76)) w') => boxed e
  have e1 := s1.trans x1
  have eb1 := eb.trans e1
  go_wp2_with fail
  refine (CN.out _).mono ?_; rintro _ w2 ⟨rfl, s2⟩
  have hx2 := e1.trans s2
  go_wp2
  go_loopw [37] (fun q wr => ∃ k : Nat, k ≤ i ∧ q = .int .i64 k ∧ Hid (∀ j, j < k → FR j = true) ∧ Ext (w1.alloc (.cells #[.string nm, .int .i64 kind, .int .i64 size, .bool true, .slice Ab bytes.length cb, .slice An names.length cn, .slice At tags.length ct, .slice Ak kids.length ck] 76)) wr) (fun q _ => i - (intOf q).toNat)
  case atStart => exact ⟨0, by omega, rfl, (fun j hj => by omega), s2⟩
  case round =>
    clear hx2 s2
    obtain ⟨k, hk, rfl, ht, he⟩ := hrel
    have hx := e1.trans he
    by_cases hlt : k < i
    · have hkd : k < ds.length := by omega
      obtain ⟨Ab2, cb2, An2, cn2, At2, ct2, Ak2, ck2, _, hR2⟩ := HALL.out k hkd
      have HN := Lib.hid (HF.out k hkd)
      have NO : Hid (FR k = false → allN i FR = false) := fun hf => allN_no hlt hf
      have YES : Hid (FR k = true → ∀ j, j < k + 1 → FR j = true) := upTo ht.out
      generalize ds[k] = p at *
      obtain ⟨m0, m1, m2, m3, m4, m5, m6, m7⟩ := hR2.ext eb
      clear hR2 ht
      have hk1 : (k : Int) < (ds.length : Int) := by omega
      cases hq : (p.nm.toList == nm.toList)
      · have HE := Lib.hid (YES.out (HN.out.trans (by rw [hq]; rfl))); clear NO YES HN
        go_wp2
        go_roundw
        case rel => exact ⟨k+1, by omega, by go_num, HE.out, Ext_alloc _ he⟩
        case measure => simp [intOf]; omega
      · have HE := Lib.hid (NO.out (HN.out.trans (by rw [hq]; rfl))); clear NO YES HN
        go_wp2
        go_ret
        exact ⟨ret_bool (by rw [HE.out]; simp), eb1.trans (Ext_alloc _ he)⟩
    · have HE1 : Hid (allN i FR = true) := allN_yes (fun j hj => ht.out j (by omega))
      obtain ⟨wo, rfl⟩ : ∃ wo : World, wo = wr := ⟨_, rfl⟩
      clear ht HALL HF
      go_wp2
      go_loopw [50] (fun q wr => ∃ k : Nat, k ≤ kids.length ∧ q = .int .i64 k ∧ Hid (∀ j, j < k → kidOk kids i j = true) ∧ Ext (w1.alloc (.cells #[.string nm, .int .i64 kind, .int .i64 size, .bool true, .slice Ab bytes.length cb, .slice An names.length cn, .slice At tags.length ct, .slice Ak kids.length ck] 76)) wr) (fun q _ => kids.length - (intOf q).toNat)
      case atStart => exact ⟨0, by omega, rfl, (fun j hj => by omega), he⟩
      case round =>
        clear he hx
        obtain ⟨k, hk, rfl, ht, he⟩ := hrel
        have hx := e1.trans he
        by_cases hlt : k < kids.length
        · have HN := Lib.hid (HKO.out k hlt)
          have NO : Hid (kidOk kids i k = false → allN kids.length (kidOk kids i) = false) := fun hf => allN_no hlt hf
          have YES : Hid (kidOk kids i k = true → ∀ j, j < k + 1 → kidOk kids i j = true) := upTo ht.out
          obtain ⟨b2, off2, rfl, hb2, hc2⟩ := hK.at k hlt
          have hc3 := fun w' (e : Ext _ w') => hc2 w' (eb.trans e)
          clear hc2 ht
          generalize kids[k] = kid at *
          cases q1 : decide (kid < 0)
          · cases q2 : decide ((i : Int) ≤ kid)
            · have HE := Lib.hid (YES.out (HN.out.trans (by unfold between; simp at q1 q2 ⊢; omega))); clear NO YES HN
              go_wp2
              go_roundw
              case rel => exact ⟨k+1, by omega, by go_num, HE.out, he⟩
              case measure => simp [intOf]; omega
            · have HE := Lib.hid (NO.out (HN.out.trans (by unfold between; simp at q1 q2 ⊢; omega))); clear NO YES HN
              go_wp2
              go_ret
              exact ⟨ret_bool (by rw [HE.out]; simp), eb1.trans he⟩
          · have HE := Lib.hid (NO.out (HN.out.trans (by unfold between; simp at q1 ⊢; omega))); clear NO YES HN
            go_wp2
            go_ret
            exact ⟨ret_bool (by rw [HE.out]; simp), eb1.trans he⟩
        · have HE2 : Hid (allN kids.length (kidOk kids i) = true) := allN_yes (fun j hj => ht.out j (by omega))
          go_wp2_with fail
          refine (CK'.out _ (eb1.trans he)).mono ?_; rintro _ w8 ⟨rfl, s8⟩
          go_wp2
          go_ret
          exact ⟨ret_bool (by rw [HE1.out, HE2.out]; simp), eb1.trans (he.trans s8)⟩

set_option maxRecDepth 100000 in
set_option maxHeartbeats 8000000 in
theorem sRule_c (A : Option Addr) (ds : List DRule) (c : Nat) (i : Nat) (w : World) (hd : RdD w A ds c) (hi : i < ds.length) (hs : ShortD ds) (hw : WfD ds) :
    Gives Try.prog 103 #[vdesc (.slice A ds.length c), .int .i64 i] w (.bool (ruleOk ds i)) := by
  have hl := hd.len
  have hcap := hd.cap
  have eb := Ext_alloc (.cells #[.slice A ds.length c] 38) (Ext.refl w)
  have BX := fun w' (e : Ext (w.alloc (.cells #[.slice A ds.length c] 38)) w') => boxed e
  rw [ruleOk_at hi]
  obtain ⟨b, off, hA, hb, hall⟩ := hd.cells (by omega)
  have HALL := Lib.hid hall
  obtain ⟨Ab, cb, An, cn, At, ct, Ak, ck, hS, hRA⟩ := hall i hi
  clear hall
  have hsr := hs _ (List.getElem_mem hi); have hwr := hw _ (List.getElem_mem hi)
  have HF : Hid (∀ j (h : j < ds.length), freshNm ds ds[i] j = !(ds[j].nm.toList == ds[i].nm.toList)) := fun j h => freshNm_at h
  generalize ds[i] = r at *
  have HKO : Hid (∀ j (h : j < r.kids.length), kidOk r.kids i j = between r.kids[j] 0 ((i : Int) - 1)) := fun j h => kidOk_at h
  have CK := Lib.hid (fun w h h' => sKind_c A ds c r Ab cb An cn At ct Ak ck w h h' hsr hwr)
  have CN := Lib.hid (fun w => sIsName_c r.nm w hwr.nm)
  have HS := Lib.hid hS
  have hK := hS.k
  have hKl := hK.len
  generalize kindOk ds r = KO at *
  generalize isName r.nm = NM at *
  generalize freshNm ds r = FR at *
  have HSX : Hid (∀ w', Ext w w' → RdS w' r Ab cb An cn At ct Ak ck) := fun w' e => HS.out.ext e
  clear hS hsr hwr HS
  unfold vrule vdesc at *
  have CK' := Lib.hid (fun w' (e : Ext w w') => CK.out w' (hd.ext e) (HSX.out w' e))
  clear CK HSX
  replace hRA := hRA.ext eb
  obtain ⟨nm, kind, size, little, bytes, names, tags, kids⟩ := r
  obtain ⟨k0, k1, k2, k3, k4, k5, k6, k7⟩ := hRA
  dsimp only at *
  have hi1 : (i : Int) < (ds.length : Int) := by omega
  have hi0 : (0 : Int) ≤ (i : Int) := by omega
  have hic : (i : Int) ≤ (c : Int) := by omega
  have CI := Lib.hid (fun w => l1In_c (i : Int) 0 ((ds.length : Int) - 1) w)
  have HI : Hid ((decide ((0 : Int) ≤ (i : Int)) && decide ((i : Int) ≤ (ds.length : Int) - 1)) = true) := by show _ = _; simp; omega
  rw [HI.out] at CI
  clear HI hd
  subst hA
  go_enter Try.func103, Try.ntmps103
  go_wp2_with fail
  refine (CI.out _).mono ?_; rintro _ w1 ⟨rfl, s1⟩
  have x1 := Ext_alloc (.cells #[.string nm, .int .i64 kind, .int .i64 size, .bool little, .slice Ab bytes.length cb, .slice An names.length cn, .slice At tags.length ct, .slice Ak kids.length ck] 76) (Ext.refl w1)
  have BR := fun w' (e : Ext (w1.alloc (.cells #[.string nm, .int .i64 kind, .int .i64 size, .bool little, .slice Ab bytes.length cb, .slice An names.length cn, .slice At tags.length ct, .slice Ak kids.length ck] 76)) w') => boxed e
  have e1 := s1.trans x1
  have eb1 := eb.trans e1
  go_wp2
  go_loopw [6] (fun q wr => ∃ k : Nat, k ≤ i ∧ q = .int .i64 k ∧ Hid (∀ j, j < k → FR j = true) ∧ Ext (w1.alloc (.cells #[.string nm, .int .i64 kind, .int .i64 size, .bool little, .slice Ab bytes.length cb, .slice An names.length cn, .slice At tags.length ct, .slice Ak kids.length ck] 76)) wr) (fun q _ => i - (intOf q).toNat)
  case atStart => exact ⟨0, by omega, rfl, (fun j hj => by omega), Ext.refl _⟩
  case round =>
    skip
    obtain ⟨k, hk, rfl, ht, he⟩ := hrel
    have hx := e1.trans he
    by_cases hlt : k < i
    · have hkd : k < ds.length := by omega
      obtain ⟨Ab2, cb2, An2, cn2, At2, ct2, Ak2, ck2, _, hR2⟩ := HALL.out k hkd
      have HN := Lib.hid (HF.out k hkd)
      have NO : Hid (FR k = false → allN i FR = false) := fun hf => allN_no hlt hf
      have YES : Hid (FR k = true → ∀ j, j < k + 1 → FR j = true) := upTo ht.out
      generalize ds[k] = p at *
      obtain ⟨m0, m1, m2, m3, m4, m5, m6, m7⟩ := hR2.ext eb
      clear hR2 ht
      have hk1 : (k : Int) < (ds.length : Int) := by omega
      cases hq : (p.nm.toList == nm.toList)
      · have HE := Lib.hid (YES.out (HN.out.trans (by rw [hq]; rfl))); clear NO YES HN
        go_wp2_with fail
        refine wp_region_quiet_below (by kernel_rfl) (by kernel_rfl) ?_
        repeat (go_big_quiet_step (fail))
        refine wpQuiet_nil ?_
        rintro w5 ⟨⟨nq, osq⟩, hq⟩
        have ew5 := ext_of_q hq
        clear hq nq osq
        go_wp2
        go_roundw
        case rel => exact ⟨k+1, by omega, by go_num, HE.out, he.trans ew5⟩
        case measure => simp [intOf]; omega
      · have HE := Lib.hid (NO.out (HN.out.trans (by rw [hq]; rfl))); clear NO YES HN
        go_wp2_with fail
        refine wp_region_quiet_below (by kernel_rfl) (by kernel_rfl) ?_
        repeat (go_big_quiet_step (fail))
        refine wpQuiet_nil ?_
        rintro w5 ⟨⟨nq, osq⟩, hq⟩
        have ew5 := ext_of_q hq
        clear hq nq osq
        go_wp2
        go_ret
        exact ⟨ret_bool (by rw [HE.out]; simp), eb1.trans (he.trans ew5)⟩
    · have HE1 : Hid (allN i FR = true) := allN_yes (fun j hj => ht.out j (by omega))
      obtain ⟨wo, rfl⟩ : ∃ wo : World, wo = wr := ⟨_, rfl⟩
      clear ht HALL HF
      go_wp2
      go_loopw [7] (fun q wr => ∃ k : Nat, k ≤ kids.length ∧ q = .int .i64 k ∧ Hid (∀ j, j < k → kidOk kids i j = true) ∧ Ext (w1.alloc (.cells #[.string nm, .int .i64 kind, .int .i64 size, .bool little, .slice Ab bytes.length cb, .slice An names.length cn, .slice At tags.length ct, .slice Ak kids.length ck] 76)) wr) (fun q _ => kids.length - (intOf q).toNat)
      case atStart => exact ⟨0, by omega, rfl, (fun j hj => by omega), he⟩
      case round =>
        clear he hx
        obtain ⟨k, hk, rfl, ht, he⟩ := hrel
        have hx := e1.trans he
        by_cases hlt : k < kids.length
        · have HN := Lib.hid (HKO.out k hlt)
          have NO : Hid (kidOk kids i k = false → allN kids.length (kidOk kids i) = false) := fun hf => allN_no hlt hf
          have YES : Hid (kidOk kids i k = true → ∀ j, j < k + 1 → kidOk kids i j = true) := upTo ht.out
          obtain ⟨b2, off2, rfl, hb2, hc2⟩ := hK.at k hlt
          have hc3 := fun w' (e : Ext _ w') => hc2 w' (eb.trans e)
          clear hc2 ht
          generalize kids[k] = kid at *
          have CB := Lib.hid (fun w => l1In_c kid 0 ((i : Int) - 1) w)
          have HB : Hid (between kid 0 ((i : Int) - 1) = (decide ((0 : Int) ≤ kid) && decide (kid ≤ (i : Int) - 1))) := rfl
          rw [← HB.out] at CB
          clear HB
          generalize between kid 0 ((i : Int) - 1) = q1 at *
          cases q1
          · have HE := Lib.hid (NO.out HN.out); clear NO YES HN
            go_wp2_with fail
            refine (CB.out _).mono ?_; rintro _ w6 ⟨rfl, s6⟩
            go_wp2
            go_ret
            exact ⟨ret_bool (by rw [HE.out]; simp), eb1.trans (he.trans s6)⟩
          · have HE := Lib.hid (YES.out HN.out); clear NO YES HN
            go_wp2_with fail
            refine (CB.out _).mono ?_; rintro _ w6 ⟨rfl, s6⟩
            go_wp2
            go_roundw
            case rel => exact ⟨k+1, by omega, by go_num, HE.out, he.trans s6⟩
            case measure => simp [intOf]; omega
        · have HE2 : Hid (allN kids.length (kidOk kids i) = true) := allN_yes (fun j hj => ht.out j (by omega))
          cases NM
          · go_wp2_with fail
            refine (CN.out _).mono ?_; rintro _ w7 ⟨rfl, s7⟩
            go_wp2
            go_ret
            exact ⟨ret_bool (by simp), eb1.trans (he.trans s7)⟩
          · go_wp2_with fail
            refine (CN.out _).mono ?_; rintro _ w7 ⟨rfl, s7⟩
            have e7 := he.trans s7
            have hx7 := hx.trans s7
            go_wp2_with fail
            refine (CK'.out _ (eb1.trans e7)).mono ?_; rintro _ w8 ⟨rfl, s8⟩
            go_wp2
            go_ret
            exact ⟨ret_bool (by rw [HE1.out, HE2.out]; simp), eb1.trans (e7.trans s8)⟩

set_option maxRecDepth 100000 in
set_option maxHeartbeats 4000000 in
theorem iValidDesc_c (A : Option Addr) (ds : List DRule) (c : Nat) (w : World) (hd : RdD w A ds c) (hs : ShortD ds) (hw : WfD ds) :
    Gives Try.prog 62 #[vdesc (.slice A ds.length c)] w (.bool (descOk ds)) := by
  have hl := hd.len
  have eb := Ext_alloc (.cells #[.slice A ds.length c] 38) (Ext.refl w)
  have BX := fun w' (e : Ext (w.alloc (.cells #[.slice A ds.length c] 38)) w') => boxed e
  have CI := Lib.hid (fun w => iInRange_c (ds.length : Int) 1 24 w)
  have CR := Lib.hid (fun i w h hi => iRule_c A ds c i w h hi hs hw)
  have HB : Hid (between ds.length 1 24 = (decide ((1 : Int) ≤ (ds.length : Int)) && decide ((ds.length : Int) ≤ 24))) := rfl
  rw [← HB.out] at CI
  unfold descOk
  clear HB
  generalize between ds.length 1 24 = p at *
  unfold vdesc at *
  cases p
  · go_enter Try.func62, Try.ntmps62
    go_wp2_with fail
    refine (CI.out _).mono ?_; rintro _ w5 ⟨rfl, s5⟩
    go_wp2
    go_ret
    exact ⟨ret_bool (by simp), eb.trans s5⟩
  · go_enter Try.func62, Try.ntmps62
    go_wp2_with fail
    refine (CI.out _).mono ?_; rintro _ w5 ⟨rfl, s5⟩
    go_wp2
    go_loopw [12] (fun q wr => ∃ k : Nat, k ≤ ds.length ∧ q = .int .i64 k ∧ Hid (∀ j, j < k → ruleOk ds j = true) ∧ Ext (w.alloc (.cells #[.slice A ds.length c] 38)) wr) (fun q _ => ds.length - (intOf q).toNat)
    case atStart => exact ⟨0, by omega, rfl, (fun j hj => by omega), s5⟩
    case round =>
      clear s5
      obtain ⟨k, hk, rfl, ht, he⟩ := hrel
      by_cases hlt : k < ds.length
      · have C := Lib.hid (fun w h => CR.out k w h hlt)
        have NO : Hid (ruleOk ds k = false → allN ds.length (ruleOk ds) = false) := fun hf => allN_no hlt hf
        have YES : Hid (ruleOk ds k = true → ∀ j, j < k + 1 → ruleOk ds j = true) := upTo ht.out
        generalize ruleOk ds k = q at *
        clear ht
        cases q
        · have HE := Lib.hid (NO.out rfl); clear NO YES
          go_wp2_with fail
          refine (C.out _ (hd.ext (eb.trans he))).mono ?_; rintro _ w4 ⟨rfl, s4⟩
          go_wp2
          go_ret
          exact ⟨ret_bool (by rw [HE.out]; simp), eb.trans (he.trans s4)⟩
        · have HE := Lib.hid (YES.out rfl); clear NO YES
          go_wp2_with fail
          refine (C.out _ (hd.ext (eb.trans he))).mono ?_; rintro _ w4 ⟨rfl, s4⟩
          go_wp2
          go_roundw
          case rel => exact ⟨k+1, by omega, by go_num, HE.out, he.trans s4⟩
          case measure => simp [intOf]; omega
      · have HE : Hid (allN ds.length (ruleOk ds) = true) := allN_yes (fun j hj => ht.out j (by omega))
        go_wp2
        go_ret
        exact ⟨ret_bool (by rw [HE.out]; simp), eb.trans he⟩
set_option maxRecDepth 100000 in
set_option maxHeartbeats 4000000 in
theorem sValidDesc_c (A : Option Addr) (ds : List DRule) (c : Nat) (w : World) (hd : RdD w A ds c) (hs : ShortD ds) (hw : WfD ds) :
    Gives Try.prog 51 #[vdesc (.slice A ds.length c)] w (.bool (descOk ds)) := by
  have hl := hd.len
  have eb := Ext_alloc (.cells #[.slice A ds.length c] 38) (Ext.refl w)
  have BX := fun w' (e : Ext (w.alloc (.cells #[.slice A ds.length c] 38)) w') => boxed e
  have CI := Lib.hid (fun w => l1In_c (ds.length : Int) 1 24 w)
  have CR := Lib.hid (fun i w h hi => sRule_c A ds c i w h hi hs hw)
  have HB : Hid (between ds.length 1 24 = (decide ((1 : Int) ≤ (ds.length : Int)) && decide ((ds.length : Int) ≤ 24))) := rfl
  rw [← HB.out] at CI
  unfold descOk
  clear HB
  generalize between ds.length 1 24 = p at *
  unfold vdesc at *
  go_enter Try.func51, Try.ntmps51
  go_wp2
  go_loopw [3] (fun q wr => ∃ k : Nat, k ≤ ds.length ∧ q = .int .i64 k ∧ Hid (∀ j, j < k → ruleOk ds j = true) ∧ Ext (w.alloc (.cells #[.slice A ds.length c] 38)) wr) (fun q _ => ds.length - (intOf q).toNat)
  case atStart => exact ⟨0, by omega, rfl, (fun j hj => by omega), Ext.refl _⟩
  case round =>
    obtain ⟨k, hk, rfl, ht, he⟩ := hrel
    by_cases hlt : k < ds.length
    · have C := Lib.hid (fun w h => CR.out k w h hlt)
      have NO : Hid (ruleOk ds k = false → allN ds.length (ruleOk ds) = false) := fun hf => allN_no hlt hf
      have YES : Hid (ruleOk ds k = true → ∀ j, j < k + 1 → ruleOk ds j = true) := upTo ht.out
      generalize ruleOk ds k = q at *
      clear ht
      cases q
      · have HE := Lib.hid (NO.out rfl); clear NO YES
        go_wp2_with fail
        refine (C.out _ (hd.ext (eb.trans he))).mono ?_; rintro _ w4 ⟨rfl, s4⟩
        go_wp2
        go_ret
        exact ⟨ret_bool (by rw [HE.out]; simp), eb.trans (he.trans s4)⟩
      · have HE := Lib.hid (YES.out rfl); clear NO YES
        go_wp2_with fail
        refine (C.out _ (hd.ext (eb.trans he))).mono ?_; rintro _ w4 ⟨rfl, s4⟩
        go_wp2
        go_roundw
        case rel => exact ⟨k+1, by omega, by go_num, HE.out, he.trans s4⟩
        case measure => simp [intOf]; omega
    · have HE : Hid (allN ds.length (ruleOk ds) = true) := allN_yes (fun j hj => ht.out j (by omega))
      go_wp2_with fail
      refine (CI.out _).mono ?_; rintro _ w5 ⟨rfl, s5⟩
      go_wp2
      go_ret
      exact ⟨ret_bool (by rw [HE.out]; simp), eb.trans (he.trans s5)⟩
theorem regOk_at {gs : List (List DRule)} {k : Nat} (h : k < gs.length) : (match gs[k]? with | some d => descOk d | none => true) = descOk gs[k] := by rw [List.getElem?_eq_getElem h]
def regF (gs : List (List DRule)) (i : Nat) : Bool := match gs[i]? with | some d => descOk d | none => true
set_option maxRecDepth 100000 in
set_option maxHeartbeats 4000000 in
theorem iValidReg_c (A : Option Addr) (gs : List (List DRule)) (c : Nat) (w : World) (hd : RdG w A gs c) (hs : ShortG gs) (hw : WfG gs) :
    Gives Try.prog 61 #[vdesc (.slice A gs.length c)] w (.bool (regOk gs)) := by
  have hl := hd.len
  have eb := Ext_alloc (.cells #[.slice A gs.length c] 32) (Ext.refl w)
  have BX := fun w' (e : Ext (w.alloc (.cells #[.slice A gs.length c] 32)) w') => boxed e
  have HG : Hid (regOk gs = (decide ((gs.length : Int) ≤ 8) && allN gs.length (regF gs))) := by
    show _ = _; unfold regOk; congr 1; simp; omega
  rw [HG.out]
  unfold vdesc at *
  cases p : decide ((8 : Int) < (gs.length : Int))
  · have HP : Hid (decide ((gs.length : Int) ≤ 8) = true) := by show _ = _; simp at p ⊢; omega
    rw [HP.out]
    go_enter Try.func61, Try.ntmps61
    go_wp2
    go_loopw [12] (fun q wr => ∃ k : Nat, k ≤ gs.length ∧ q = .int .i64 k ∧ Hid (∀ j, j < k → regF gs j = true) ∧ Ext (w.alloc (.cells #[.slice A gs.length c] 32)) wr) (fun q _ => gs.length - (intOf q).toNat)
    case atStart => exact ⟨0, by omega, rfl, (fun j hj => by omega), Ext.refl _⟩
    case round =>
      obtain ⟨k, hk, rfl, ht, he⟩ := hrel
      by_cases hlt : k < gs.length
      · obtain ⟨b, off, A1, c1, rfl, hb, hS, k0⟩ := hd.at k hlt
        have HN : Hid (regF gs k = descOk gs[k]) := regOk_at hlt
        have NO : Hid (regF gs k = false → allN gs.length (regF gs) = false) := fun hf => allN_no hlt hf
        have YES : Hid (regF gs k = true → ∀ j, j < k + 1 → regF gs j = true) := upTo ht.out
        have s1 := hs _ (List.getElem_mem hlt); have s2 := hw _ (List.getElem_mem hlt)
        generalize gs[k] = d at *
        have C := Lib.hid (fun w h => iValidDesc_c A1 d c1 w h s1 s2)
        replace k0 := fun w' (e : Ext _ w') => k0 w' (eb.trans e)
        have HS := Lib.hid hS
        unfold vdesc at C
        generalize descOk d = q at *
        clear ht s1 s2 hS hd
        cases q
        · have HE := Lib.hid (NO.out HN.out); clear NO YES
          go_wp2_with fail
          refine (C.out _ (HS.out.ext (eb.trans (by first | assumption | exact Ext_alloc _ he)))).mono ?_; rintro _ w4 ⟨rfl, s4⟩
          go_wp2
          go_ret
          exact ⟨ret_bool (by rw [HE.out]; simp), eb.trans ((Ext_alloc _ he).trans s4)⟩
        · have HE := Lib.hid (YES.out HN.out); clear NO YES
          go_wp2_with fail
          refine (C.out _ (HS.out.ext (eb.trans (by first | assumption | exact Ext_alloc _ he)))).mono ?_; rintro _ w4 ⟨rfl, s4⟩
          go_wp2
          go_roundw
          case rel => exact ⟨k+1, by omega, by go_num, HE.out, (Ext_alloc _ he).trans s4⟩
          case measure => simp [intOf]; omega
      · have HE : Hid (allN gs.length (regF gs) = true) := allN_yes (fun j hj => ht.out j (by omega))
        go_wp2
        go_ret
        exact ⟨ret_bool (by rw [HE.out]; simp), eb.trans he⟩
  · have HP : Hid (decide ((gs.length : Int) ≤ 8) = false) := by show _ = _; simp at p ⊢; omega
    rw [HP.out]
    go_enter Try.func61, Try.ntmps61
    go_wp2
    go_ret
    exact ⟨ret_bool (by simp), eb⟩
set_option maxRecDepth 100000 in
set_option maxHeartbeats 4000000 in
theorem sValidReg_c (A : Option Addr) (gs : List (List DRule)) (c : Nat) (w : World) (hd : RdG w A gs c) (hs : ShortG gs) (hw : WfG gs) :
    Gives Try.prog 57 #[vdesc (.slice A gs.length c)] w (.bool (regOk gs)) := by
  have hl := hd.len
  have eb := Ext_alloc (.cells #[.slice A gs.length c] 32) (Ext.refl w)
  have BX := fun w' (e : Ext (w.alloc (.cells #[.slice A gs.length c] 32)) w') => boxed e
  have HG : Hid (regOk gs = (decide ((gs.length : Int) ≤ 8) && allN gs.length (regF gs))) := by
    show _ = _; unfold regOk; congr 1; simp; omega
  rw [HG.out]
  unfold vdesc at *
  go_enter Try.func57, Try.ntmps57
  go_wp2
  go_loopw [3] (fun q wr => ∃ k : Nat, k ≤ gs.length ∧ q = .int .i64 k ∧ Hid (∀ j, j < k → regF gs j = true) ∧ Ext (w.alloc (.cells #[.slice A gs.length c] 32)) wr) (fun q _ => gs.length - (intOf q).toNat)
  case atStart => exact ⟨0, by omega, rfl, (fun j hj => by omega), Ext.refl _⟩
  case round =>
    obtain ⟨k, hk, rfl, ht, he⟩ := hrel
    by_cases hlt : k < gs.length
    · obtain ⟨b, off, A1, c1, rfl, hb, hS, k0⟩ := hd.at k hlt
      have HN : Hid (regF gs k = descOk gs[k]) := regOk_at hlt
      have NO : Hid (regF gs k = false → allN gs.length (regF gs) = false) := fun hf => allN_no hlt hf
      have YES : Hid (regF gs k = true → ∀ j, j < k + 1 → regF gs j = true) := upTo ht.out
      have s1 := hs _ (List.getElem_mem hlt); have s2 := hw _ (List.getElem_mem hlt)
      generalize gs[k] = d at *
      have C := Lib.hid (fun w h => sValidDesc_c A1 d c1 w h s1 s2)
      replace k0 := fun w' (e : Ext _ w') => k0 w' (eb.trans e)
      have HS := Lib.hid hS
      unfold vdesc at C
      generalize descOk d = q at *
      clear ht s1 s2 hS hd
      cases q
      · have HE := Lib.hid (NO.out HN.out); clear NO YES
        go_wp2_with fail
        refine (C.out _ (HS.out.ext (eb.trans (by first | assumption | exact Ext_alloc _ he)))).mono ?_; rintro _ w4 ⟨rfl, s4⟩
        go_wp2
        go_ret
        exact ⟨ret_bool (by rw [HE.out]; simp), eb.trans (he.trans s4)⟩
      · have HE := Lib.hid (YES.out HN.out); clear NO YES
        go_wp2_with fail
        refine (C.out _ (HS.out.ext (eb.trans (by first | assumption | exact Ext_alloc _ he)))).mono ?_; rintro _ w4 ⟨rfl, s4⟩
        go_wp2
        go_roundw
        case rel => exact ⟨k+1, by omega, by go_num, HE.out, he.trans s4⟩
        case measure => simp [intOf]; omega
    · have HE : Hid (allN gs.length (regF gs) = true) := allN_yes (fun j hj => ht.out j (by omega))
      go_wp2
      go_ret
      exact ⟨ret_bool (by rw [HE.out]; simp), eb.trans he⟩
end Go.Proofs.Ytlaejcacembjiaa

/- The laws' marks as text. -/
namespace Go.Proofs.Ytlaejcacembjiaa
open Go.RowKit Go.Sort

/-- a digit's byte -/
def dig8 (k : Nat) : UInt8 := UInt8.ofNat (48 + k % 10)
def mtF : Nat → Nat → ByteArray → ByteArray
  | 0, _, s => s
  | f + 1, k, s => if k = 0 then s else mtF f (k / 10) (⟨#[dig8 k]⟩ ++ s)
theorem mtF_fuel : ∀ f g k s, k ≤ f → k ≤ g → mtF f k s = mtF g k s := by
  intro f
  induction f with
  | zero =>
    intro g k s h _
    obtain rfl : k = 0 := by omega
    cases g with
    | zero => rfl
    | succ g => rw [mtF, mtF, if_pos rfl]
  | succ f ih =>
    intro g k s h1 h2
    cases g with
    | zero =>
      obtain rfl : k = 0 := by omega
      rw [mtF, mtF, if_pos rfl]
    | succ g =>
      rw [mtF, mtF]
      by_cases hk : k = 0
      · rw [if_pos hk, if_pos hk]
      · rw [if_neg hk, if_neg hk, ih g (k / 10) _ (by omega) (by omega)]
def mt (k : Nat) (s : ByteArray) : ByteArray := mtF k k s
theorem mt_zero (s : ByteArray) : mt 0 s = s := rfl
theorem mt_step {k : Nat} (h : 0 < k) (s : ByteArray) : mt k s = mt (k / 10) (⟨#[dig8 k]⟩ ++ s) := by
  unfold mt
  obtain ⟨f, rfl⟩ : ∃ f, k = f + 1 := ⟨k - 1, by omega⟩
  rw [mtF, if_neg (by omega)]
  exact mtF_fuel _ _ _ _ (by omega) (by omega)
/-- the text of a mark -/
def markT (k : Nat) : ByteArray := ⟨#[109]⟩ ++ mt k ⟨#[]⟩
/-- string([]byte{x}) -/
theorem run_one_byte (w : World) (n : Nat) :
    (convert 45 9 (.slice (some ⟨w.heap.size, 0, none⟩) 1 1)).run Try.prog (w.alloc (.cells #[.int .u8 (n : Int)] 5)) = .ok (.string ⟨#[UInt8.ofNat n]⟩) (w.alloc (.cells #[.int .u8 (n : Int)] 5)) := by
  have h1 := run_convert_bytes_arg (P := Try.prog) (w.alloc (.cells #[.int .u8 (n : Int)] 5)) 45 5 Try.underlying45 Try.underlying5 w.heap.size 0 1 1 [(n : Int)] rfl (fun i hi => by
    obtain rfl : i = 0 := by omega
    simp) 9 Try.underlying9
  rw [h1]
  rfl
set_option maxRecDepth 100000 in
set_option maxHeartbeats 400000 in
theorem markText_c (k : Nat) (w : World) (hk : 0 < k) (hk2 : k ≤ 1099511627776) :
    Gives Try.prog 83 #[.int .i64 k] w (.string (markT k)) := by
  go_enter Try.func83, Try.ntmps83
  go_wp2
  go_loopw [0, 3] (fun kk t wr => ∃ (n : Nat) (s : ByteArray), s.size + n ≤ k ∧ kk = .int .i64 n ∧ t = .string s ∧ Hid (mt n s = mt k ⟨#[]⟩) ∧ Ext w wr) (fun kk _ _ => (intOf kk).toNat)
  case atStart => exact ⟨k, ⟨#[]⟩, Nat.le_of_eq (Nat.zero_add k), rfl, rfl, rfl, Ext.refl _⟩
  case round =>
    obtain ⟨n, s, hn, rfl, rfl, hs, he⟩ := hrel
    by_cases h0 : 0 < n
    · have hst := Lib.hid ((mt_step h0 s).symm.trans hs.out)
      have hcv : ∀ w' : World, (convert 45 9 (.slice (some ⟨w'.heap.size, 0, none⟩) 1 1)).run Try.prog (w'.alloc (.cells #[.int .u8 (48 + (n : Int) % 10)] 5)) = .ok (.string ⟨#[dig8 n]⟩) (w'.alloc (.cells #[.int .u8 (48 + (n : Int) % 10)] 5)) := by
        intro w'
        have := run_one_byte w' (48 + n % 10)
        rw [show ((48 + n % 10 : Nat) : Int) = 48 + (n : Int) % 10 by omega] at this
        exact this
      have hcvr := hcv wr
      clear hcv
      go_wp2
      go_roundw
      case rel => exact ⟨n / 10, _, by rw [ByteArray.size_append]; show 1 + s.size + n / 10 ≤ k; omega, by go_num, rfl, hst, Ext_alloc _ he⟩
      case measure => simp [intOf]; omega
    · obtain rfl : n = 0 := by omega
      have hs2 := Lib.hid ((mt_zero s).symm.trans hs.out)
      clear hs
      go_wp2
      go_ret
      exact ⟨by rw [hs2.out]; rfl, he⟩
end Go.Proofs.Ytlaejcacembjiaa

/- The laws' marks on descriptions and registries: what they leave, and that no other block turns. -/
namespace Go.Proofs.Ytlaejcacembjiaa
open Go.RowKit Go.Sort

def mkT (k : Nat) (i : Nat) : Value := .string (markT (k + i))
set_option maxHeartbeats 1000000 in
theorem markStringS_c (A : Option Addr) (n c : Nat) (k : Nat) (xs : List Value) (w0 w : World) (ho : Own 9 1 w0 w (.slice A n c) n xs) (hk : 0 < k) (hk2 : k + n ≤ 1099511627776) :
    Calls Try.prog 33 #[.slice A n c, .int .i64 k] w fun e w' => e = .returned (.int .i64 ((k + n : Nat) : Int)) ∧ Own 9 1 w0 w' (.slice A n c) n ((List.range n).map (mkT k)) ∧ w.grownBy w' (Value.slice A n c).ownBlock := by
  have hxn : xs.length = n := by have := ho.1; omega
  go_enter Try.func33, Try.ntmps33
  go_wp2
  go_loopw [1, 5] (fun kk i wr => ∃ j : Nat, j ≤ n ∧ i = .int .i64 j ∧ kk = .int .i64 ((k + j : Nat) : Int) ∧ Own 9 1 w0 wr (.slice A n c) n ((List.range j).map (mkT k) ++ xs.drop j) ∧ w.grownBy wr (Value.slice A n c).ownBlock) (fun _ i _ => n - (intOf i).toNat)
  case atStart => exact ⟨0, by omega, rfl, by simp, by simpa using ho, World.grownBy.refl _ _⟩
  case round =>
    clear ho
    obtain ⟨j, hj, rfl, rfl, ho, hg⟩ := hrel
    by_cases hlt : j < n
    · obtain ⟨g, c', hv, hb, hs⟩ := World.ownsRow.form ho (by omega)
      injection hv with hA _ hc
      subst hA; subst hc
      have HO := Lib.hid ho; have HG := Lib.hid hg
      clear ho hg
      go_wp2_with fail
      refine (markText_c (k + j) _ (by omega) (by omega)).mono ?_; rintro _ w1 ⟨rfl, he1⟩
      have ho1 := Own.ext HO.out he1
      obtain ⟨⟨u0, hu⟩, hf⟩ := ho1.slot j (by simp; omega)
      have hg2 := (HG.out.trans (grown_ext he1 _)).trans (ho1.stored j (mkT k j)).2
      have ho' := (ho1.stored j (mkT k j)).1
      rw [mark_step (mkT k) xs j n hxn hlt] at ho'
      have H1 := Lib.hid ho'; have H3 := Lib.hid hg2
      clear ho1 ho' hg2 HO HG
      go_wp2
      go_roundw
      case rel => exact ⟨j+1, by omega, by go_num, by go_num, H1.out, H3.out⟩
      case measure => simp [intOf]; omega
    · obtain rfl : j = n := by omega
      have H1 := Lib.hid ho; have H3 := Lib.hid hg
      clear ho hg
      go_wp2
      go_ret
      exact ⟨rfl, by have := H1.out; rw [List.drop_of_length_le (by omega)] at this; simpa using this, H3.out⟩
/-- how many marks a rule takes -/
def mlen (r : DRule) : Nat := 4 + r.bytes.length + r.names.length + r.tags.length + r.kids.length
def mkCells (m : Nat × RV) : List Value := [.string (markT m.1), .int .i64 ((m.1 : Int) + 1), .int .i64 ((m.1 : Int) + 2), .bool (((m.1 : Int) + 3) % 3 == 0), m.2.vb, m.2.vn, m.2.vt, m.2.vk]
def msR : Nat → List RV → List (Nat × RV)
  | _, [] => []
  | k, p :: t => (k, p) :: msR (k + mlen p.r) t
def kEndR : Nat → List RV → Nat
  | k, [] => k
  | k, p :: t => kEndR (k + mlen p.r) t
theorem msR_append (k : Nat) (a b : List RV) : msR k (a ++ b) = msR k a ++ msR (kEndR k a) b := by
  induction a generalizing k with
  | nil => rfl
  | cons p t ih => simp [msR, kEndR, ih]
theorem kEndR_append (k : Nat) (a b : List RV) : kEndR k (a ++ b) = kEndR (kEndR k a) b := by
  induction a generalizing k with
  | nil => rfl
  | cons p t ih => simp [kEndR, ih]
theorem msR_length (k : Nat) (a : List RV) : (msR k a).length = a.length := by
  induction a generalizing k with
  | nil => rfl
  | cons p t ih => simp [msR, ih]
theorem mkCells_len (ms : List (Nat × RV)) : (ms.flatMap mkCells).length = ms.length * 8 := by
  induction ms with
  | nil => rfl
  | cons p t ih => rw [List.flatMap_cons, List.length_append, ih, List.length_cons]; simp [mkCells]; omega
theorem kEndR_ge (k : Nat) (a : List RV) : k ≤ kEndR k a := by
  induction a generalizing k with
  | nil => simp [kEndR]
  | cons p t ih => have := ih (k + mlen p.r); simp only [kEndR]; omega
theorem kEndR_mono (k : Nat) (a : List RV) (i : Nat) : kEndR k (a.take i) ≤ kEndR k a := by
  conv => rhs; rw [← List.take_append_drop i a, kEndR_append]
  exact kEndR_ge _ _
theorem kEndR_eq (k : Nat) (a : List RV) : kEndR k a = k + (a.map fun p => mlen p.r).sum := by
  induction a generalizing k with
  | nil => simp [kEndR]
  | cons p t ih => rw [kEndR, ih, List.map_cons, List.sum_cons]; omega
theorem mlen_le (r : DRule) : mlen r ≤ 4 + szRl r := by unfold mlen szRl; omega
theorem kEndR_sz (k : Nat) (a : List RV) : kEndR k a ≤ k + 4 * a.length + ((rulesOf a).map szRl).sum := by
  rw [kEndR_eq]
  induction a with
  | nil => simp [rulesOf]
  | cons p t ih => have := mlen_le p.r; simp only [List.map_cons, List.sum_cons, List.length_cons, rulesOf] at *; omega
/-- four cells of a rule are laid -/
theorem mark_rowR (ms : List (Nat × RV)) (p : RV) (rest : List RV) (k i : Nat) (hi : ms.length = i) :
    ((((ms.flatMap mkCells ++ (p :: rest).flatMap RV.cells).set (i * 8) (.string (markT k))).set (i * 8 + 1) (.int .i64 ((k : Int) + 1))).set (i * 8 + 2) (.int .i64 ((k : Int) + 2))).set (i * 8 + 3) (.bool (((k : Int) + 3) % 3 == 0)) = (ms ++ [(k, p)]).flatMap mkCells ++ rest.flatMap RV.cells := by
  have hl : (ms.flatMap mkCells).length = i * 8 := by rw [mkCells_len, hi]
  rw [List.set_append_right _ _ (by omega), List.set_append_right _ _ (by omega), List.set_append_right _ _ (by omega), List.set_append_right _ _ (by omega), hl]
  rw [show i * 8 - i * 8 = 0 by omega, show i * 8 + 1 - i * 8 = 1 by omega, show i * 8 + 2 - i * 8 = 2 by omega, show i * 8 + 3 - i * 8 = 3 by omega]
  simp [RV.cells, mkCells, List.flatMap_cons]
theorem mk_getR (ms : List (Nat × RV)) (k : Nat) (p : RV) (rest : List Value) (i m : Nat) (hi : ms.length = i) (hm : m < 8) :
    ((ms ++ [(k, p)]).flatMap mkCells ++ rest)[i * 8 + m]? = (mkCells (k, p))[m]? := by
  have hl : (ms.flatMap mkCells).length = i * 8 := by rw [mkCells_len, hi]
  rw [List.flatMap_append, List.flatMap_cons, List.flatMap_nil, List.append_nil, List.append_assoc, List.getElem?_append_right (by omega), hl, show i * 8 + m - i * 8 = m by omega, List.getElem?_append_left (by simp [mkCells]; omega)]
/-- a rule's slices, marked from k on -/
structure RuleMarked (w0 w : World) (k : Nat) (p : RV) : Prop where
  b : Own 5 1 w0 w p.vb p.r.bytes.length ((List.range p.r.bytes.length).map (mk8 ((k : Int) + 4)))
  n : Own 9 1 w0 w p.vn p.r.names.length ((List.range p.r.names.length).map (mkT (k + 4 + p.r.bytes.length)))
  t : Own 3 1 w0 w p.vt p.r.tags.length ((List.range p.r.tags.length).map (mkI ((k + 4 + p.r.bytes.length + p.r.names.length : Nat) : Int)))
  k : Own 3 1 w0 w p.vk p.r.kids.length ((List.range p.r.kids.length).map (mkI ((k + 4 + p.r.bytes.length + p.r.names.length + p.r.tags.length : Nat) : Int)))
theorem RuleMarked.keep {w0 w w' : World} {k : Nat} {p : RV} (h : RuleMarked w0 w k p) {row : Option Nat} (hg : w.grownBy w' row) (hne : ∀ v ∈ p.vals, ∀ g, v.ownBlock = some g → row ≠ some g) : RuleMarked w0 w' k p :=
  ⟨h.b.keep hg (hne _ (by simp [RV.vals])), h.n.keep hg (hne _ (by simp [RV.vals])), h.t.keep hg (hne _ (by simp [RV.vals])), h.k.keep hg (hne _ (by simp [RV.vals]))⟩
theorem RuleMarked.ext {w0 w w' : World} {k : Nat} {p : RV} (h : RuleMarked w0 w k p) (e : Ext w w') : RuleMarked w0 w' k p := ⟨h.b.ext e, h.n.ext e, h.t.ext e, h.k.ext e⟩
/-- marked rules that the call since w0 made: the first i of them are marked -/
structure MarkingR (w0 w : World) (g c : Nat) (ps : List RV) (k i : Nat) : Prop where
  row : Own 76 8 w0 w (.slice (some ⟨g, 0, none⟩) ps.length c) ps.length ((msR k (ps.take i)).flatMap mkCells ++ (ps.drop i).flatMap RV.cells)
  done : ∀ j (h : j < ps.length), j < i → RuleMarked w0 w (kEndR k (ps.take j)) ps[j]
  todo : ∀ j (h : j < ps.length), i ≤ j → RuleOwn w0 w ps[j]
theorem far_parts {v : Value} {ps : List RV} (h : Far (v :: ps.flatMap RV.vals)) :
    (∀ j (hj : j < ps.length), ∀ u ∈ ps[j].vals, ∀ g, v.ownBlock = some g → u.ownBlock ≠ some g) ∧ (∀ i j (hi : i < ps.length) (hj : j < ps.length), i ≠ j → ∀ u ∈ ps[i].vals, ∀ x ∈ ps[j].vals, ∀ g, u.ownBlock = some g → x.ownBlock ≠ some g) ∧ (∀ j (hj : j < ps.length), Far ps[j].vals) := by
  unfold Far at h
  rw [List.pairwise_cons] at h
  obtain ⟨h1, h2⟩ := h
  rw [List.pairwise_flatMap] at h2
  refine ⟨fun j hj u hu g hg => h1 u (List.mem_flatMap.2 ⟨_, List.getElem_mem hj, hu⟩) g hg, fun i j hi hj hne u hu x hx g hg hg' => ?_, fun j hj => h2.1 _ (List.getElem_mem hj)⟩
  have hp := List.pairwise_iff_getElem.1 h2.2
  rcases Nat.lt_or_ge i j with hlt | hge
  · exact hp i j hi hj hlt u hu x hx g hg hg'
  · exact hp j i hj hi (by omega) x hx u hu g hg' hg
theorem far4 {p : RV} (h : Far p.vals) : (∀ g, p.vb.ownBlock = some g → p.vn.ownBlock ≠ some g) ∧ (∀ g, p.vb.ownBlock = some g → p.vt.ownBlock ≠ some g) ∧ (∀ g, p.vb.ownBlock = some g → p.vk.ownBlock ≠ some g) ∧
    (∀ g, p.vn.ownBlock = some g → p.vt.ownBlock ≠ some g) ∧ (∀ g, p.vn.ownBlock = some g → p.vk.ownBlock ≠ some g) ∧ (∀ g, p.vt.ownBlock = some g → p.vk.ownBlock ≠ some g) := by
  unfold Far RV.vals at h
  rw [List.pairwise_cons, List.pairwise_cons, List.pairwise_cons] at h
  obtain ⟨h1, h2, h3, _⟩ := h
  exact ⟨fun g hg => h1 _ (by simp) g hg, fun g hg => h1 _ (by simp) g hg, fun g hg => h1 _ (by simp) g hg, fun g hg => h2 _ (by simp) g hg, fun g hg => h2 _ (by simp) g hg, fun g hg => h3 _ (by simp) g hg⟩
theorem len_mlen : ∀ ps : List RV, ps.length ≤ (ps.map fun p => mlen p.r).sum
  | [] => by simp
  | p :: t => by
    have := len_mlen t
    have h : 1 ≤ mlen p.r := by unfold mlen; omega
    simp only [List.map_cons, List.sum_cons, List.length_cons]; omega
theorem cells_getR (ms : List (Nat × RV)) (p : RV) (rest : List RV) (i m : Nat) (hi : ms.length = i) (hm : m < 8) :
    (ms.flatMap mkCells ++ (p :: rest).flatMap RV.cells)[i * 8 + m]? = p.cells[m]? := by
  have hl : (ms.flatMap mkCells).length = i * 8 := by rw [mkCells_len, hi]
  rw [List.getElem?_append_right (by omega), hl, show i * 8 + m - i * 8 = m by omega, List.flatMap_cons, List.getElem?_append_left (by simp [RV.cells]; omega)]
end Go.Proofs.Ytlaejcacembjiaa

/- The laws' marks laid over registries. -/
namespace Go.Proofs.Ytlaejcacembjiaa
open Go.RowKit Go.Sort

/-- w' is w with new blocks, and writes to blocks of B -/
structure WroteB (B : Nat → Prop) (w w' : World) : Prop where
  os : w'.os = w.os
  tape : w'.tape = w.tape
  output : w'.output = w.output
  size : w.heap.size ≤ w'.heap.size
  block : ∀ k, k < w.heap.size → ¬ B k → w'.heap[k]? = w.heap[k]?
theorem WroteB.refl (B : Nat → Prop) (w : World) : WroteB B w w := ⟨rfl, rfl, rfl, Nat.le_refl _, fun _ _ _ => rfl⟩
theorem WroteB.trans {B : Nat → Prop} {a b c : World} (h : WroteB B a b) (k : WroteB B b c) : WroteB B a c :=
  ⟨k.os.trans h.os, k.tape.trans h.tape, k.output.trans h.output, Nat.le_trans h.size k.size, fun i hi hb => (k.block i (Nat.lt_of_lt_of_le hi h.size) hb).trans (h.block i hi hb)⟩
theorem WroteB.mono {B C : Nat → Prop} {a b : World} (h : WroteB B a b) (hC : ∀ k, B k → C k) : WroteB C a b := ⟨h.os, h.tape, h.output, h.size, fun i hi hb => h.block i hi (fun hB => hb (hC i hB))⟩
theorem WroteB.grown {B : Nat → Prop} {w w' : World} {row : Option Nat} (h : w.grownBy w' row) (hr : ∀ g, row = some g → B g) : WroteB B w w' :=
  ⟨h.os, h.tape, h.output, h.size, fun i hi hb => h.block i hi (fun e => hb (hr i e.symm))⟩
theorem WroteB.ext {B : Nat → Prop} {w w' : World} (e : Ext w w') : WroteB B w w' := ⟨e.os, e.tape, e.output, e.size, fun i hi _ => Below.block e i hi⟩
theorem WroteB.wrote {B : Nat → Prop} {lo hi : Nat} {w w' : World} (h : WroteB B w w') (hB : ∀ k, B k → lo ≤ k ∧ k < hi) : Wrote lo hi w w' :=
  ⟨h.os, h.tape, h.output, h.size, fun k hk hn => h.block k hk (fun hb => by have := hB k hb; omega)⟩
theorem Own.wroteB {e : TypeId} {size : Nat} {w0 w w' : World} {v : Value} {n : Nat} {xs : List Value} (h : Own e size w0 w v n xs) {B : Nat → Prop} (hw : WroteB B w w') (hv : ∀ g, v.ownBlock = some g → ¬ B g) : Own e size w0 w' v n xs := by
  refine ⟨h.1, ?_⟩
  rcases h.2 with h0 | ⟨g, cap, cur, rfl, hb, hg, r⟩
  · exact .inl h0
  · exact .inr ⟨g, cap, cur, rfl, hb, (hw.block g (Array.getElem?_eq_some_iff.1 hg).1 (hv g rfl)).trans hg, r⟩
theorem OwnL.wroteB {α : Type} {f : α → Value} {e : TypeId} {w0 w w' : World} {v : Value} {l : List α} (h : OwnL f e w0 w v l) {B : Nat → Prop} (hw : WroteB B w w') (hv : ∀ g, v.ownBlock = some g → ¬ B g) : OwnL f e w0 w' v l := Own.wroteB h hw hv
theorem RuleOwn.wroteB {w0 w w' : World} {p : RV} (h : RuleOwn w0 w p) {B : Nat → Prop} (hw : WroteB B w w') (hv : ∀ v ∈ p.vals, ∀ g, v.ownBlock = some g → ¬ B g) : RuleOwn w0 w' p :=
  ⟨h.b.wroteB hw (hv _ (by simp [RV.vals])), h.n.wroteB hw (hv _ (by simp [RV.vals])), h.t.wroteB hw (hv _ (by simp [RV.vals])), h.k.wroteB hw (hv _ (by simp [RV.vals]))⟩
theorem OwnD.wroteB {w0 w w' : World} {v : Value} {ps : List RV} (h : OwnD w0 w v ps) {B : Nat → Prop} (hw : WroteB B w w') (hv : ∀ u ∈ v :: ps.flatMap RV.vals, ∀ g, u.ownBlock = some g → ¬ B g) : OwnD w0 w' v ps :=
  ⟨h.row.wroteB hw (hv _ (by simp)), fun p hp => (h.each p hp).wroteB hw (fun u hu => hv u (List.mem_cons_of_mem _ (List.mem_flatMap.2 ⟨p, hp, hu⟩))), h.far⟩
set_option maxRecDepth 100000 in
set_option maxHeartbeats 8000000 in
theorem markRuleS_b (g c : Nat) (ps : List RV) (k : Nat) (w0 w : World) (B : Nat → Prop) (h : OwnD w0 w (.slice (some ⟨g, 0, none⟩) ps.length c) ps) (hB : ∀ u ∈ (Value.slice (some ⟨g, 0, none⟩) ps.length c) :: ps.flatMap RV.vals, ∀ b, u.ownBlock = some b → B b) (hk : 0 < k) (hk2 : kEndR k ps ≤ 1099511627776) (hs : ∀ p ∈ ps, ShortR p.r) :
    Calls Try.prog 67 #[.slice (some ⟨g, 0, none⟩) ps.length c, .int .i64 k] w fun e w' => e = .returned (.int .i64 (kEndR k ps : Nat)) ∧ MarkingR w0 w' g c ps k ps.length ∧ WroteB B w w' := by
  obtain ⟨f1, f2, f3⟩ := far_parts h.far
  have HF1 := Lib.hid (fun j hj u hu => f1 j hj u hu g rfl); have HF2 := Lib.hid f2; have HF3 := Lib.hid f3
  have hgB := hB _ (List.mem_cons_self ..) g rfl
  have HB : Hid (∀ p ∈ ps, ∀ v ∈ p.vals, ∀ b, v.ownBlock = some b → B b) := fun p hp v hv b hb => hB v (List.mem_cons_of_mem _ (List.mem_flatMap.2 ⟨p, hp, hv⟩)) b hb
  have HM : Hid (MarkingR w0 w g c ps k 0) := ⟨by simpa [msR] using h.row, fun j _ hj => by omega, fun j hj _ => h.each _ (List.getElem_mem hj)⟩
  have hn : ps.length ≤ 140737488351232 := by
    rw [kEndR_eq] at hk2
    have := len_mlen ps
    omega
  clear h f1 f2 f3 hB
  go_enter Try.func67, Try.ntmps67
  go_wp2
  go_loopw [1, 5] (fun kk i wr => ∃ j : Nat, j ≤ ps.length ∧ i = .int .i64 j ∧ kk = .int .i64 (kEndR k (ps.take j) : Nat) ∧ Hid (MarkingR w0 wr g c ps k j) ∧ WroteB B w wr) (fun _ i _ => ps.length - (intOf i).toNat)
  case atStart => exact ⟨0, by omega, rfl, rfl, HM, WroteB.refl _ _⟩
  case round =>
    clear HM
    obtain ⟨j, hj, rfl, rfl, hm, hw⟩ := hrel
    by_cases hlt : j < ps.length
    · have HKn : Hid (kEndR k (ps.take (j+1)) = kEndR k (ps.take j) + mlen ps[j].r) := by
        show _ = _; rw [List.take_succ_eq_append_getElem hlt, kEndR_append]; rfl
      have hKe := kEndR_mono k ps (j+1)
      rw [HKn.out] at hKe
      have hK0 := kEndR_ge k (ps.take j)
      have hsj := hs _ (List.getElem_mem hlt)
      have hbj := HB.out _ (List.getElem_mem hlt)
      obtain ⟨m1, m2, m3⟩ := hm.out
      have hrj := m3 j hlt (Nat.le_refl _)
      have hdrop : ps.drop j = ps[j] :: ps.drop (j+1) := List.drop_eq_getElem_cons hlt
      rw [hdrop] at m1
      have hml : (msR k (ps.take j)).length = j := by rw [msR_length, List.length_take]; omega
      have hrow := mark_rowR (msR k (ps.take j)) ps[j] (ps.drop (j+1)) (kEndR k (ps.take j)) j hml
      have hnext : msR k (ps.take j) ++ [(kEndR k (ps.take j), ps[j])] = msR k (ps.take (j+1)) := by
        rw [List.take_succ_eq_append_getElem hlt, msR_append]; rfl
      have hget := fun m hm => mk_getR (msR k (ps.take j)) (kEndR k (ps.take j)) ps[j] ((ps.drop (j+1)).flatMap RV.cells) j m hml hm
      have HF1j := Lib.hid (HF1.out j hlt)
      have HF2j : Hid (∀ i (hi : i < ps.length), i ≠ j → ∀ u ∈ ps[i].vals, ∀ x ∈ ps[j].vals, ∀ b, x.ownBlock = some b → u.ownBlock ≠ some b) := fun i hi hne u hu x hx b hb hb' => HF2.out i j hi hlt hne u hu x hx b hb' hb
      have HF3j := Lib.hid (HF3.out j hlt)
      have HNX : Hid (MarkingR w0 wr g c ps k j) := hm
      rw [hnext] at hrow hget
      obtain ⟨K, hK⟩ : ∃ K, kEndR k (ps.take j) = K := ⟨_, rfl⟩
      rw [hK] at hrow hget hKe hK0 HKn
      have HK := Lib.hid hK
      have hgx := cells_getR (msR k (ps.take j)) ps[j] (ps.drop (j+1)) j 4 hml (by omega)
      obtain ⟨xs, hxs⟩ : ∃ xs, (msR k (ps.take j)).flatMap mkCells ++ (ps[j] :: ps.drop (j+1)).flatMap RV.cells = xs := ⟨_, rfl⟩
      rw [hxs] at m1 hrow hgx
      simp only [RV.cells, List.getElem?_cons_succ, List.getElem?_cons_zero] at hgx
      obtain ⟨ys, hys⟩ : ∃ ys, (msR k (ps.take (j+1))).flatMap mkCells ++ (ps.drop (j+1)).flatMap RV.cells = ys := ⟨_, rfl⟩
      have HYS := Lib.hid hys
      rw [hys] at hrow hget
      have hxl : xs.length = ps.length * 8 := m1.1
      obtain ⟨Ab, cb, An, cn, At, ct, Ak, ck, v1, v2, v3, v4, _⟩ := hrj.rd hsj
      have HG4 := hget 4 (by omega); have HG5 := hget 5 (by omega); have HG6 := hget 6 (by omega); have HG7 := hget 7 (by omega)
      simp only [mkCells, List.getElem?_cons_succ, List.getElem?_cons_zero] at HG4 HG5 HG6 HG7
      rw [v1] at hgx
      have HGX := Lib.hid hgx
      rw [v1] at HG4; rw [v2] at HG5; rw [v3] at HG6; rw [v4] at HG7
      have L4 := Lib.hid HG4; have L5 := Lib.hid HG5; have L6 := Lib.hid HG6; have L7 := Lib.hid HG7
      have HR := Lib.hid hrow; have Hm1 := Lib.hid m1; have Hm2 := Lib.hid m2; have Hm3 := Lib.hid m3; have HXL := Lib.hid hxl; have V1 := Lib.hid v1; have V2 := Lib.hid v2; have V3 := Lib.hid v3; have V4 := Lib.hid v4
      have HBJ := Lib.hid hbj; have HRJ := Lib.hid hrj
      have hmlen : mlen ps[j].r = 4 + ps[j].r.bytes.length + ps[j].r.names.length + ps[j].r.tags.length + ps[j].r.kids.length := rfl
      have HML := Lib.hid hmlen
      rw [hmlen] at hKe
      have HSJ := Lib.hid hsj
      have MT : Hid (∀ w, Gives Try.prog 83 #[.int .i64 (K : Int)] w (.string (markT K))) := fun w => markText_c K w (by omega) (by omega)
      rw [hK]
      clear hgx hrow m1 m2 m3 hxs hys hget HG4 HG5 HG6 HG7 v1 v2 v3 v4 hdrop hml hnext hK hxl hbj hrj hmlen hsj hm
      have hr0 := Hm1.out
      have hxl := HXL.out
      go_wp2_with fail
      refine (MT.out _).mono ?_; rintro _ w1 ⟨rfl, he1⟩
      have hr1 := Own.ext Hm1.out he1
      obtain ⟨⟨u0, hu0⟩, hf0⟩ := hr1.slot (j * 8) (by rw [hxl]; omega)
      obtain ⟨⟨u1, hu1⟩, hf1⟩ := hr1.slot (j * 8 + 1) (by rw [hxl]; omega)
      obtain ⟨⟨u2, hu2⟩, hf2⟩ := hr1.slot (j * 8 + 2) (by rw [hxl]; omega)
      obtain ⟨⟨u3, hu3⟩, hf3⟩ := hr1.slot (j * 8 + 3) (by rw [hxl]; omega)
      have hu4 : w1.cell? ⟨g, j * 8 + 4, none⟩ = some (.slice Ab ps[j].r.bytes.length cb) := by rw [hr1.cellAt (j * 8 + 4) (by omega)]; exact HGX.out
      have HO1 : Hid (Own 76 8 w0 ((((w1.setCell ⟨g, j * 8, none⟩ (.string (markT K))).setCell ⟨g, j * 8 + 1, none⟩ (.int .i64 ((K : Int) + 1))).setCell ⟨g, j * 8 + 2, none⟩ (.int .i64 ((K : Int) + 2))).setCell ⟨g, j * 8 + 3, none⟩ (.bool (((K : Int) + 3) % 3 == 0))) (.slice (some ⟨g, 0, none⟩) ps.length c) ps.length ys) := by
        have := (((hr1.stored (j * 8) (.string (markT K))).1.stored (j * 8 + 1) (.int .i64 ((K : Int) + 1))).1.stored (j * 8 + 2) (.int .i64 ((K : Int) + 2))).1.stored (j * 8 + 3) (.bool (((K : Int) + 3) % 3 == 0))
        have := this.1
        rw [HR.out] at this
        exact this
      have G1 : Hid (wr.grownBy ((((w1.setCell ⟨g, j * 8, none⟩ (.string (markT K))).setCell ⟨g, j * 8 + 1, none⟩ (.int .i64 ((K : Int) + 1))).setCell ⟨g, j * 8 + 2, none⟩ (.int .i64 ((K : Int) + 2))).setCell ⟨g, j * 8 + 3, none⟩ (.bool (((K : Int) + 3) % 3 == 0))) (some g)) :=
        ((((grown_ext he1 (some g)).trans (grown_set _ ⟨g, j * 8, none⟩ _)).trans (grown_set _ ⟨g, j * 8 + 1, none⟩ _)).trans (grown_set _ ⟨g, j * 8 + 2, none⟩ _)).trans (grown_set _ ⟨g, j * 8 + 3, none⟩ _)
      clear hr1 hr0
      go_wp2_with fail
      rw [show (K : Int) + 1 + 1 + 1 + 1 = (K : Int) + 4 by omega, show (K : Int) + 1 + 1 + 1 = (K : Int) + 3 by omega, show (K : Int) + 1 + 1 = (K : Int) + 2 by omega]
      generalize ((((w1.setCell ⟨g, j * 8, none⟩ (.string (markT K))).setCell ⟨g, j * 8 + 1, none⟩ (.int .i64 ((K : Int) + 1))).setCell ⟨g, j * 8 + 2, none⟩ (.int .i64 ((K : Int) + 2))).setCell ⟨g, j * 8 + 3, none⟩ (.bool (((K : Int) + 3) % 3 == 0))) = W1 at *
      clear hu0 hu1 hu2 hu3 hf0 hf1 hf2 hf3 hu4
      have R1 := Lib.hid (HRJ.out.keep G1.out (fun v hv b hb he => HF1j.out v hv (hb.trans he.symm)))
      obtain ⟨d1, d2, d3, d4, d5, d6⟩ := far4 HF3j.out
      have D1 := Lib.hid d1; have D2 := Lib.hid d2; have D3 := Lib.hid d3; have D4 := Lib.hid d4; have D5 := Lib.hid d5; have D6 := Lib.hid d6
      clear d1 d2 d3 d4 d5 d6
      have ob := R1.out.b
      rw [V1.out] at ob
      refine (markByteS_c Ab _ cb ((K : Int) + 4) _ w0 _ ob (by omega) (by omega)).mono ?_; rintro _ w2 ⟨rfl, om1, g2⟩
      rw [← V1.out] at om1 g2
      have M1 := Lib.hid om1; have G2 := Lib.hid g2
      have HO2 := Lib.hid (HO1.out.keep g2 (fun b hb he => HF1j.out ps[j].vb (by simp [RV.vals]) (he.trans hb.symm)))
      have c5 : w2.cell? ⟨g, j * 8 + 5, none⟩ = some (.slice An ps[j].r.names.length cn) := by rw [HO2.out.cellAt (j * 8 + 5) (by omega)]; exact L5.out
      clear ob om1 g2
      go_wp2_with fail
      rw [show (K : Int) + 4 + (ps[j].r.bytes.length : Int) = ((K + 4 + ps[j].r.bytes.length : Nat) : Int) by omega]
      have on := R1.out.n.keep G2.out (fun b hb he => D1.out b he hb)
      rw [V2.out] at on
      refine (markStringS_c An _ cn (K + 4 + ps[j].r.bytes.length) _ w0 _ on (by omega) (by omega)).mono ?_; rintro _ w3 ⟨rfl, om2, g3⟩
      rw [← V2.out] at om2 g3
      have M2 := Lib.hid om2; have G3 := Lib.hid g3
      have HO3 := Lib.hid (HO2.out.keep g3 (fun b hb he => HF1j.out ps[j].vn (by simp [RV.vals]) (he.trans hb.symm)))
      have c6 : w3.cell? ⟨g, j * 8 + 6, none⟩ = some (.slice At ps[j].r.tags.length ct) := by rw [HO3.out.cellAt (j * 8 + 6) (by omega)]; exact L6.out
      clear on om2 g3 c5
      go_wp2_with fail
      have ot := (R1.out.t.keep G2.out (fun b hb he => D2.out b he hb)).keep G3.out (fun b hb he => D4.out b he hb)
      rw [V3.out] at ot
      refine (markIntS_c At _ ct ((K + 4 + ps[j].r.bytes.length + ps[j].r.names.length : Nat) : Int) _ w0 _ ot (by omega) (by omega)).mono ?_; rintro _ w4 ⟨rfl, om3, g4⟩
      rw [← V3.out] at om3 g4
      have M3 := Lib.hid om3; have G4 := Lib.hid g4
      have HO4 := Lib.hid (HO3.out.keep g4 (fun b hb he => HF1j.out ps[j].vt (by simp [RV.vals]) (he.trans hb.symm)))
      have c7 : w4.cell? ⟨g, j * 8 + 7, none⟩ = some (.slice Ak ps[j].r.kids.length ck) := by rw [HO4.out.cellAt (j * 8 + 7) (by omega)]; exact L7.out
      clear ot om3 g4 c6
      go_wp2_with fail
      first
        | rw [show ((K + 4 + ps[j].r.bytes.length + ps[j].r.names.length : Nat) : Int) + (ps[j].r.tags.length : Int) = ((K + 4 + ps[j].r.bytes.length + ps[j].r.names.length + ps[j].r.tags.length : Nat) : Int) by omega]
        | rw [show (K : Int) + 4 + (ps[j].r.bytes.length : Int) + (ps[j].r.names.length : Int) + (ps[j].r.tags.length : Int) = ((K + 4 + ps[j].r.bytes.length + ps[j].r.names.length + ps[j].r.tags.length : Nat) : Int) by omega]
        | trace_state
      have okk := ((R1.out.k.keep G2.out (fun b hb he => D3.out b he hb)).keep G3.out (fun b hb he => D5.out b he hb)).keep G4.out (fun b hb he => D6.out b he hb)
      rw [V4.out] at okk
      refine (markIntS_c Ak _ ck ((K + 4 + ps[j].r.bytes.length + ps[j].r.names.length + ps[j].r.tags.length : Nat) : Int) _ w0 _ okk (by omega) (by omega)).mono ?_; rintro _ w5 ⟨rfl, om4, g5⟩
      rw [← V4.out] at om4 g5
      have M4 := Lib.hid om4; have G5 := Lib.hid g5
      have HO5 := Lib.hid (HO4.out.keep g5 (fun b hb he => HF1j.out ps[j].vk (by simp [RV.vals]) (he.trans hb.symm)))
      clear okk om4 g5 c7
      have hfin : MarkingR w0 w5 g c ps k (j + 1) := by
        refine ⟨by rw [HYS.out]; exact HO5.out, fun i hi' hij => ?_, fun i hi' hij => ?_⟩
        · rcases Nat.lt_or_ge i j with hlt' | hge
          · have q := HF2j.out i hi' (by omega)
            exact ((((((Hm2.out i hi' hlt').keep G1.out (fun v hv b hb he => HF1.out i hi' v hv (hb.trans he.symm))).keep G2.out (fun v hv b hb he => q v hv _ (by simp [RV.vals]) b he hb)).keep G3.out (fun v hv b hb he => q v hv ps[j].vn (by simp [RV.vals]) b he hb)).keep G4.out (fun v hv b hb he => q v hv ps[j].vt (by simp [RV.vals]) b he hb)).keep G5.out (fun v hv b hb he => q v hv ps[j].vk (by simp [RV.vals]) b he hb))
          · obtain rfl : i = j := by omega
            rw [HK.out]
            exact ⟨((M1.out.keep G3.out D1.out).keep G4.out D2.out).keep G5.out D3.out, (M2.out.keep G4.out D4.out).keep G5.out D5.out, M3.out.keep G5.out D6.out, M4.out⟩
        · have q := HF2j.out i hi' (by omega)
          exact ((((((Hm3.out i hi' (by omega)).keep G1.out (fun v hv b hb he => HF1.out i hi' v hv (hb.trans he.symm))).keep G2.out (fun v hv b hb he => q v hv _ (by simp [RV.vals]) b he hb)).keep G3.out (fun v hv b hb he => q v hv ps[j].vn (by simp [RV.vals]) b he hb)).keep G4.out (fun v hv b hb he => q v hv ps[j].vt (by simp [RV.vals]) b he hb)).keep G5.out (fun v hv b hb he => q v hv ps[j].vk (by simp [RV.vals]) b he hb))
      have HFIN := Lib.hid hfin
      have HWR : Hid (WroteB B w w5) := (((((hw.trans (WroteB.grown G1.out (fun b hb => by injection hb with hb; subst hb; exact hgB))).trans (WroteB.grown G2.out (fun b hb => HBJ.out _ (by simp [RV.vals]) b hb))).trans (WroteB.grown G3.out (fun b hb => HBJ.out _ (by simp [RV.vals]) b hb))).trans (WroteB.grown G4.out (fun b hb => HBJ.out _ (by simp [RV.vals]) b hb))).trans (WroteB.grown G5.out (fun b hb => HBJ.out _ (by simp [RV.vals]) b hb)))
      clear hfin
      go_wp2
      go_roundw
      case rel => exact ⟨j + 1, by omega, by go_num, by rw [HKn.out, HML.out]; go_num, HFIN, HWR.out⟩
      case measure => simp [intOf]; omega
    · obtain rfl : j = ps.length := by omega
      go_wp2
      go_ret
      rw [List.take_length]
      exact ⟨rfl, hm.out, hw⟩
/-- .. of a nil slice too -/
theorem markRuleS_any (v : Value) (ps : List RV) (k : Nat) (w0 w : World) (B : Nat → Prop) (h : OwnD w0 w v ps) (hB : ∀ u ∈ v :: ps.flatMap RV.vals, ∀ b, u.ownBlock = some b → B b) (hk : 0 < k) (hk2 : kEndR k ps ≤ 1099511627776) (hs : ∀ p ∈ ps, ShortR p.r) :
    Calls Try.prog 67 #[v, .int .i64 k] w fun e w' => e = .returned (.int .i64 (kEndR k ps : Nat)) ∧ WroteB B w w' := by
  rcases h.row.2 with ⟨hv, h0⟩ | ⟨g, cap, cur, hv, _⟩
  · subst hv
    obtain rfl : ps = [] := List.eq_nil_of_length_eq_zero h0
    have hk64 : (k : Int) ≤ 1099511627776 := by unfold kEndR at hk2; omega
    clear h hB hk2 hs h0
    show Calls _ _ _ _ _
    go_enter Try.func67, Try.ntmps67
    go_wp2
    go_loopw [1, 5] (fun kk i wr => i = .int .i64 0 ∧ kk = .int .i64 k ∧ WroteB B w wr) (fun _ _ _ => 0)
    case atStart => exact ⟨rfl, rfl, WroteB.refl _ _⟩
    case round =>
      obtain ⟨rfl, rfl, he'⟩ := hrel
      go_wp2
      go_ret
      exact ⟨rfl, he'⟩
  · subst hv
    exact (markRuleS_b g cap ps k w0 w B h hB hk hk2 hs).mono fun e w' ⟨a, _, b⟩ => ⟨a, b⟩
def kEndG : Nat → List (Value × List RV) → Nat
  | k, [] => k
  | k, q :: t => kEndG (kEndR k q.2) t
theorem kEndG_append (k : Nat) (a b : List (Value × List RV)) : kEndG k (a ++ b) = kEndG (kEndG k a) b := by
  induction a generalizing k with
  | nil => rfl
  | cons p t ih => simp [kEndG, ih]
theorem kEndG_ge (k : Nat) (a : List (Value × List RV)) : k ≤ kEndG k a := by
  induction a generalizing k with
  | nil => simp [kEndG]
  | cons p t ih => have := ih (kEndR k p.2); have := kEndR_ge k p.2; simp only [kEndG]; omega
theorem kEndG_mono (k : Nat) (a : List (Value × List RV)) (i : Nat) : kEndG k (a.take i) ≤ kEndG k a := by
  conv => rhs; rw [← List.take_append_drop i a, kEndG_append]
  exact kEndG_ge _ _
theorem kEndR_le (k : Nat) (ps : List RV) : kEndR k ps ≤ k + 4 * szD (rulesOf ps) := by
  have := kEndR_sz k ps
  unfold szD; rw [rulesOf_len]; omega
theorem kEndG_le (k : Nat) (a : List (Value × List RV)) : kEndG k a ≤ k + 4 * ((descsOf a).map szD).sum := by
  induction a generalizing k with
  | nil => simp [kEndG]
  | cons p t ih => have := ih (kEndR k p.2); have := kEndR_le k p.2; simp only [kEndG, descsOf, List.map_cons, List.sum_cons] at *; omega
/-- a registry copied by a law -/
structure GMade (lo hi : Nat) (w : World) (v : Value) (qs : List (Value × List RV)) : Prop where
  own : ∃ w0 : World, w0.heap.size = lo ∧ OwnG w0 w v qs
  blk : ∀ u ∈ v :: (qs.flatMap fun q => q.1 :: q.2.flatMap RV.vals), ∀ b, u.ownBlock = some b → lo ≤ b ∧ b < hi
theorem GMade.ext {lo hi : Nat} {w w' : World} {v : Value} {qs : List (Value × List RV)} (h : GMade lo hi w v qs) (e : Ext w w') : GMade lo hi w' v qs := ⟨let ⟨w0, h0, h1⟩ := h.own; ⟨w0, h0, h1.ext e⟩, h.blk⟩
theorem toReg_o (A : Option Addr) (ds : List (List DRule)) (c : Nat) (w : World) (h : RdG w A ds c) (hz : szG ds ≤ 1048576) :
    Calls Try.prog 13 #[vdesc (.slice A ds.length c)] w fun e w' => ∃ A1 c1 qs, e = .returned (vdesc (.slice A1 ds.length c1)) ∧ RdG w' A1 ds c1 ∧ descsOf qs = ds ∧ GMade w.heap.size w'.heap.size w' (.slice A1 ds.length c1) qs ∧ Ext w w' := by
  refine (toRegistry_c A ds c w h hz).mono ?_
  rintro e w' ⟨v, qs, he, rfl, ho, hx⟩
  have hq : ∀ q ∈ qs, szD (rulesOf q.2) ≤ 1048576 := fun q hq => szG_mem hz (List.mem_map_of_mem (f := fun q : Value × List RV => rulesOf q.2) hq)
  obtain ⟨A1, c1, rfl, hr⟩ := ho.rd (by unfold szG at hz; simp only [descsOf, List.length_map] at hz; omega) (fun q h => (OwnD.short (hq q h)).1) (fun q h => (OwnD.short (hq q h)).2)
  exact ⟨A1, c1, qs, he, hr, rfl, ⟨⟨w, rfl, ho⟩, ho.block⟩, hx⟩
/-- the blocks of the versions, without the registry's own row -/
def inG (qs : List (Value × List RV)) (b : Nat) : Prop := ∃ q ∈ qs, ∃ u ∈ q.1 :: q.2.flatMap RV.vals, u.ownBlock = some b
theorem farG_parts {v : Value} {qs : List (Value × List RV)} (h : Far (v :: qs.flatMap fun q => q.1 :: q.2.flatMap RV.vals)) :
    (∀ g, v.ownBlock = some g → ¬ inG qs g) ∧ (∀ i j (hi : i < qs.length) (hj : j < qs.length), i ≠ j → ∀ u ∈ qs[i].1 :: qs[i].2.flatMap RV.vals, ∀ x ∈ qs[j].1 :: qs[j].2.flatMap RV.vals, ∀ g, u.ownBlock = some g → x.ownBlock ≠ some g) := by
  unfold Far at h
  rw [List.pairwise_cons] at h
  obtain ⟨h1, h2⟩ := h
  rw [List.pairwise_flatMap] at h2
  refine ⟨fun g hg ⟨q, hq, u, hu, hb⟩ => h1 u (List.mem_flatMap.2 ⟨q, hq, hu⟩) g hg hb, fun i j hi hj hne u hu x hx g hg hg' => ?_⟩
  have hp := List.pairwise_iff_getElem.1 h2.2
  rcases Nat.lt_or_ge i j with hlt | hge
  · exact hp i j hi hj hlt u hu x hx g hg hg'
  · exact hp j i hj hi (by omega) x hx u hu g hg' hg
set_option maxRecDepth 100000 in
set_option maxHeartbeats 4000000 in
theorem markDescS_c (A : Option Addr) (c : Nat) (qs : List (Value × List RV)) (k : Nat) (w0 w : World) (h : OwnG w0 w (.slice A qs.length c) qs) (hz : szG (descsOf qs) ≤ 1048576) (hk : 0 < k) (hk2 : k ≤ 100000000) :
    Calls Try.prog 66 #[.slice A qs.length c, .int .i64 k] w fun e w' => e = .returned (.int .i64 (kEndG k qs : Nat)) ∧ WroteB (inG qs) w w' := by
  obtain ⟨f1, f2⟩ := farG_parts h.far
  have hq : ∀ q ∈ qs, szD (rulesOf q.2) ≤ 1048576 := fun q hq => szG_mem hz (List.mem_map_of_mem (f := fun q : Value × List RV => rulesOf q.2) hq)
  have HQ := Lib.hid hq
  have hkE : kEndG k qs ≤ 200000000 := by have := kEndG_le k qs; unfold szG at hz; omega
  have hn : qs.length ≤ 1048576 := by unfold szG at hz; simp only [descsOf, List.length_map] at hz; omega
  have HK := Lib.hid hkE
  have HF1 := Lib.hid f1; have HF2 := Lib.hid f2
  have HR := Lib.hid h.row
  have HM : Hid (∀ j (hj : j < qs.length), 0 ≤ j → OwnD w0 w qs[j].1 qs[j].2) := fun j hj _ => h.each _ (List.getElem_mem hj)
  clear h f1 f2 hq hz hkE
  go_enter Try.func66, Try.ntmps66
  go_wp2
  go_loopw [1, 5] (fun kk i wr => ∃ j : Nat, j ≤ qs.length ∧ i = .int .i64 j ∧ kk = .int .i64 (kEndG k (qs.take j) : Nat) ∧ Hid (∀ i (hi : i < qs.length), j ≤ i → OwnD w0 wr qs[i].1 qs[i].2) ∧ WroteB (inG qs) w wr) (fun _ i _ => qs.length - (intOf i).toNat)
  case atStart => exact ⟨0, by omega, rfl, rfl, HM, WroteB.refl _ _⟩
  case round =>
    clear HM
    obtain ⟨j, hj, rfl, rfl, hm, hw⟩ := hrel
    by_cases hlt : j < qs.length
    · have HKn : Hid (kEndG k (qs.take (j+1)) = kEndR (kEndG k (qs.take j)) qs[j].2) := by
        show _ = _; rw [List.take_succ_eq_append_getElem hlt, kEndG_append]; rfl
      have hKe := kEndG_mono k qs (j+1)
      rw [HKn.out] at hKe
      have hKe2 := HK.out
      have hK0 := kEndG_ge k (qs.take j)
      have hrow := Own.wroteB HR.out hw (fun g hg => HF1.out g hg)
      obtain ⟨g, cg, hA⟩ : ∃ g cg, (Value.slice A qs.length c) = .slice (some ⟨g, 0, none⟩) qs.length cg := by
        rcases hrow.2 with ⟨hv, h0⟩ | ⟨g, cap, cur, hv, _⟩
        · omega
        · exact ⟨g, cap, hv⟩
      injection hA with q1 _ q2
      subst q1; subst q2
      have hc0 : wr.cell? ⟨g, j, none⟩ = some qs[j].1 := by
        rw [World.ownsRow.cellAt hrow j (by omega), List.getElem?_map, List.getElem?_eq_getElem hlt]; rfl
      obtain ⟨A1, c1, hv1⟩ := (hm.out j hlt (Nat.le_refl _)).shape
      rw [hv1] at hc0
      have C : Hid (Calls Try.prog 67 #[.slice A1 qs[j].2.length c1, .int .i64 (kEndG k (qs.take j) : Nat)] wr fun e w' => e = .returned (.int .i64 (kEndR (kEndG k (qs.take j)) qs[j].2 : Nat)) ∧ WroteB (inG [qs[j]]) wr w') := by
        rw [← hv1]
        exact markRuleS_any _ _ _ w0 wr _ (hm.out j hlt (Nat.le_refl _)) (fun u hu b hb => ⟨qs[j], by simp, u, hu, hb⟩) (by omega) (by omega) (OwnD.short (HQ.out _ (List.getElem_mem hlt))).2
      have NX : Hid (∀ w', WroteB (inG [qs[j]]) wr w' → (∀ i (hi : i < qs.length), j + 1 ≤ i → OwnD w0 w' qs[i].1 qs[i].2) ∧ WroteB (inG qs) w w') := fun w' hw' =>
        ⟨fun i hi hji => (hm.out i hi (by omega)).wroteB hw' (fun u hu b hb ⟨q, hq, x, hx, hxb⟩ => by
          simp only [List.mem_singleton] at hq; subst hq
          exact HF2.out i j hi hlt (by omega) u hu x hx b hb hxb), hw.trans (hw'.mono (fun b ⟨q, hq, r⟩ => ⟨q, by simp only [List.mem_singleton] at hq; subst hq; exact List.getElem_mem hlt, r⟩))⟩
      clear hm hw hrow hv1
      obtain ⟨K, hK⟩ : ∃ K, kEndG k (qs.take j) = K := ⟨_, rfl⟩
      rw [hK] at C HKn hKe hK0 ⊢
      obtain ⟨K', hK'⟩ : ∃ K', kEndR K qs[j].2 = K' := ⟨_, rfl⟩
      rw [hK'] at C HKn hKe
      clear hK hK'
      have b1 : (j : Int) < (qs.length : Int) := by omega
      go_wp2_with fail
      refine C.out.mono ?_; rintro _ w1 ⟨rfl, hw1⟩
      obtain ⟨n1, n2⟩ := NX.out w1 hw1
      have N1 := Lib.hid n1; have N2 := Lib.hid n2
      clear n1 n2 hw1 hc0
      go_wp2
      go_roundw
      case rel => exact ⟨j + 1, by omega, by go_num, by rw [HKn.out], N1, N2.out⟩
      case measure => simp [intOf]; omega
    · obtain rfl : j = qs.length := by omega
      go_wp2
      go_ret
      rw [List.take_length]
      exact ⟨rfl, hw⟩
set_option maxHeartbeats 1000000 in
theorem markReg_c (A : Option Addr) (n c : Nat) (qs : List (Value × List RV)) (k : Nat) (lo hi : Nat) (w : World) (hn : n = qs.length) (h : GMade lo hi w (.slice A n c) qs) (hz : szG (descsOf qs) ≤ 1048576) (hk : 0 < k) (hk2 : k ≤ 100000000) :
    Calls Try.prog 18 #[vdesc (.slice A n c), .int .i64 k] w fun e w' => ∃ k' : Nat, k ≤ k' ∧ k' ≤ k + 6000000 ∧ e = .returned (.int .i64 k') ∧ Wrote lo hi w w' := by
  subst hn
  obtain ⟨⟨w0, h0, h1⟩, hb⟩ := h
  have eb := Ext_alloc (.cells #[.slice A qs.length c] 32) (Ext.refl w)
  have C := Lib.hid (markDescS_c A c qs k w0 _ (h1.ext eb) hz hk hk2)
  have HE : Hid (kEndG k qs ≤ k + 6000000 ∧ k ≤ kEndG k qs) := ⟨by have := kEndG_le k qs; unfold szG at hz; omega, kEndG_ge _ _⟩
  have HB : Hid (∀ w', WroteB (inG qs) (w.alloc (.cells #[.slice A qs.length c] 32)) w' → Wrote lo hi w w') := fun w' hw => ((WroteB.ext (B := inG qs) eb).trans hw).wrote (fun b ⟨q, hq, u, hu, hub⟩ => hb u (List.mem_cons_of_mem _ (List.mem_flatMap.2 ⟨q, hq, hu⟩)) b hub)
  clear h1 hb hz
  unfold vdesc
  generalize kEndG k qs = K at *
  have hK1 : K ≤ 200000000 := by have := HE.out; omega
  go_enter Try.func18, Try.ntmps18
  go_wp2_with fail
  refine C.out.mono ?_; rintro _ w1 ⟨rfl, hw⟩
  have HW := Lib.hid hw; clear hw
  go_wp2
  go_ret
  exact ⟨K, HE.out.2, HE.out.1, rfl, HB.out _ HW.out⟩
end Go.Proofs.Ytlaejcacembjiaa

/- The laws' marks laid over rules. -/
namespace Go.Proofs.Ytlaejcacembjiaa
open Go.RowKit Go.Sort

set_option maxRecDepth 100000 in
set_option maxHeartbeats 8000000 in
theorem markRuleS_c (g c : Nat) (ps : List RV) (k : Nat) (w0 w : World) (hi : Nat) (h : OwnD w0 w (.slice (some ⟨g, 0, none⟩) ps.length c) ps) (hB : ∀ u ∈ (Value.slice (some ⟨g, 0, none⟩) ps.length c) :: ps.flatMap RV.vals, ∀ b, u.ownBlock = some b → w0.heap.size ≤ b ∧ b < hi) (hk : 0 < k) (hk2 : kEndR k ps ≤ 1099511627776) (hs : ∀ p ∈ ps, ShortR p.r) :
    Calls Try.prog 67 #[.slice (some ⟨g, 0, none⟩) ps.length c, .int .i64 k] w fun e w' => e = .returned (.int .i64 (kEndR k ps : Nat)) ∧ MarkingR w0 w' g c ps k ps.length ∧ Wrote w0.heap.size hi w w' := by
  obtain ⟨f1, f2, f3⟩ := far_parts h.far
  have HF1 := Lib.hid (fun j hj u hu => f1 j hj u hu g rfl); have HF2 := Lib.hid f2; have HF3 := Lib.hid f3
  have hgB := hB _ (List.mem_cons_self ..) g rfl
  have HB : Hid (∀ p ∈ ps, ∀ v ∈ p.vals, ∀ b, v.ownBlock = some b → w0.heap.size ≤ b ∧ b < hi) := fun p hp v hv b hb => hB v (List.mem_cons_of_mem _ (List.mem_flatMap.2 ⟨p, hp, hv⟩)) b hb
  have HM : Hid (MarkingR w0 w g c ps k 0) := ⟨by simpa [msR] using h.row, fun j _ hj => by omega, fun j hj _ => h.each _ (List.getElem_mem hj)⟩
  have hn : ps.length ≤ 140737488351232 := by
    rw [kEndR_eq] at hk2
    have := len_mlen ps
    omega
  clear h f1 f2 f3 hB
  go_enter Try.func67, Try.ntmps67
  go_wp2
  go_loopw [1, 5] (fun kk i wr => ∃ j : Nat, j ≤ ps.length ∧ i = .int .i64 j ∧ kk = .int .i64 (kEndR k (ps.take j) : Nat) ∧ Hid (MarkingR w0 wr g c ps k j) ∧ Wrote w0.heap.size hi w wr) (fun _ i _ => ps.length - (intOf i).toNat)
  case atStart => exact ⟨0, by omega, rfl, rfl, HM, Wrote.refl _ _ _⟩
  case round =>
    clear HM
    obtain ⟨j, hj, rfl, rfl, hm, hw⟩ := hrel
    by_cases hlt : j < ps.length
    · have HKn : Hid (kEndR k (ps.take (j+1)) = kEndR k (ps.take j) + mlen ps[j].r) := by
        show _ = _; rw [List.take_succ_eq_append_getElem hlt, kEndR_append]; rfl
      have hKe := kEndR_mono k ps (j+1)
      rw [HKn.out] at hKe
      have hK0 := kEndR_ge k (ps.take j)
      have hsj := hs _ (List.getElem_mem hlt)
      have hbj := HB.out _ (List.getElem_mem hlt)
      obtain ⟨m1, m2, m3⟩ := hm.out
      have hrj := m3 j hlt (Nat.le_refl _)
      have hdrop : ps.drop j = ps[j] :: ps.drop (j+1) := List.drop_eq_getElem_cons hlt
      rw [hdrop] at m1
      have hml : (msR k (ps.take j)).length = j := by rw [msR_length, List.length_take]; omega
      have hrow := mark_rowR (msR k (ps.take j)) ps[j] (ps.drop (j+1)) (kEndR k (ps.take j)) j hml
      have hnext : msR k (ps.take j) ++ [(kEndR k (ps.take j), ps[j])] = msR k (ps.take (j+1)) := by
        rw [List.take_succ_eq_append_getElem hlt, msR_append]; rfl
      have hget := fun m hm => mk_getR (msR k (ps.take j)) (kEndR k (ps.take j)) ps[j] ((ps.drop (j+1)).flatMap RV.cells) j m hml hm
      have HF1j := Lib.hid (HF1.out j hlt)
      have HF2j : Hid (∀ i (hi : i < ps.length), i ≠ j → ∀ u ∈ ps[i].vals, ∀ x ∈ ps[j].vals, ∀ b, x.ownBlock = some b → u.ownBlock ≠ some b) := fun i hi hne u hu x hx b hb hb' => HF2.out i j hi hlt hne u hu x hx b hb' hb
      have HF3j := Lib.hid (HF3.out j hlt)
      have HNX : Hid (MarkingR w0 wr g c ps k j) := hm
      rw [hnext] at hrow hget
      obtain ⟨K, hK⟩ : ∃ K, kEndR k (ps.take j) = K := ⟨_, rfl⟩
      rw [hK] at hrow hget hKe hK0 HKn
      have HK := Lib.hid hK
      have hgx := cells_getR (msR k (ps.take j)) ps[j] (ps.drop (j+1)) j 4 hml (by omega)
      obtain ⟨xs, hxs⟩ : ∃ xs, (msR k (ps.take j)).flatMap mkCells ++ (ps[j] :: ps.drop (j+1)).flatMap RV.cells = xs := ⟨_, rfl⟩
      rw [hxs] at m1 hrow hgx
      simp only [RV.cells, List.getElem?_cons_succ, List.getElem?_cons_zero] at hgx
      obtain ⟨ys, hys⟩ : ∃ ys, (msR k (ps.take (j+1))).flatMap mkCells ++ (ps.drop (j+1)).flatMap RV.cells = ys := ⟨_, rfl⟩
      have HYS := Lib.hid hys
      rw [hys] at hrow hget
      have hxl : xs.length = ps.length * 8 := m1.1
      obtain ⟨Ab, cb, An, cn, At, ct, Ak, ck, v1, v2, v3, v4, _⟩ := hrj.rd hsj
      have HG4 := hget 4 (by omega); have HG5 := hget 5 (by omega); have HG6 := hget 6 (by omega); have HG7 := hget 7 (by omega)
      simp only [mkCells, List.getElem?_cons_succ, List.getElem?_cons_zero] at HG4 HG5 HG6 HG7
      rw [v1] at hgx
      have HGX := Lib.hid hgx
      rw [v1] at HG4; rw [v2] at HG5; rw [v3] at HG6; rw [v4] at HG7
      have L4 := Lib.hid HG4; have L5 := Lib.hid HG5; have L6 := Lib.hid HG6; have L7 := Lib.hid HG7
      have HR := Lib.hid hrow; have Hm1 := Lib.hid m1; have Hm2 := Lib.hid m2; have Hm3 := Lib.hid m3; have HXL := Lib.hid hxl; have V1 := Lib.hid v1; have V2 := Lib.hid v2; have V3 := Lib.hid v3; have V4 := Lib.hid v4
      have HBJ := Lib.hid hbj; have HRJ := Lib.hid hrj
      have hmlen : mlen ps[j].r = 4 + ps[j].r.bytes.length + ps[j].r.names.length + ps[j].r.tags.length + ps[j].r.kids.length := rfl
      have HML := Lib.hid hmlen
      rw [hmlen] at hKe
      have HSJ := Lib.hid hsj
      have MT : Hid (∀ w, Gives Try.prog 83 #[.int .i64 (K : Int)] w (.string (markT K))) := fun w => markText_c K w (by omega) (by omega)
      rw [hK]
      clear hgx hrow m1 m2 m3 hxs hys hget HG4 HG5 HG6 HG7 v1 v2 v3 v4 hdrop hml hnext hK hxl hbj hrj hmlen hsj hm
      have hr0 := Hm1.out
      have hxl := HXL.out
      go_wp2_with fail
      refine (MT.out _).mono ?_; rintro _ w1 ⟨rfl, he1⟩
      have hr1 := Own.ext Hm1.out he1
      obtain ⟨⟨u0, hu0⟩, hf0⟩ := hr1.slot (j * 8) (by rw [hxl]; omega)
      obtain ⟨⟨u1, hu1⟩, hf1⟩ := hr1.slot (j * 8 + 1) (by rw [hxl]; omega)
      obtain ⟨⟨u2, hu2⟩, hf2⟩ := hr1.slot (j * 8 + 2) (by rw [hxl]; omega)
      obtain ⟨⟨u3, hu3⟩, hf3⟩ := hr1.slot (j * 8 + 3) (by rw [hxl]; omega)
      have hu4 : w1.cell? ⟨g, j * 8 + 4, none⟩ = some (.slice Ab ps[j].r.bytes.length cb) := by rw [hr1.cellAt (j * 8 + 4) (by omega)]; exact HGX.out
      have HO1 : Hid (Own 76 8 w0 ((((w1.setCell ⟨g, j * 8, none⟩ (.string (markT K))).setCell ⟨g, j * 8 + 1, none⟩ (.int .i64 ((K : Int) + 1))).setCell ⟨g, j * 8 + 2, none⟩ (.int .i64 ((K : Int) + 2))).setCell ⟨g, j * 8 + 3, none⟩ (.bool (((K : Int) + 3) % 3 == 0))) (.slice (some ⟨g, 0, none⟩) ps.length c) ps.length ys) := by
        have := (((hr1.stored (j * 8) (.string (markT K))).1.stored (j * 8 + 1) (.int .i64 ((K : Int) + 1))).1.stored (j * 8 + 2) (.int .i64 ((K : Int) + 2))).1.stored (j * 8 + 3) (.bool (((K : Int) + 3) % 3 == 0))
        have := this.1
        rw [HR.out] at this
        exact this
      have G1 : Hid (wr.grownBy ((((w1.setCell ⟨g, j * 8, none⟩ (.string (markT K))).setCell ⟨g, j * 8 + 1, none⟩ (.int .i64 ((K : Int) + 1))).setCell ⟨g, j * 8 + 2, none⟩ (.int .i64 ((K : Int) + 2))).setCell ⟨g, j * 8 + 3, none⟩ (.bool (((K : Int) + 3) % 3 == 0))) (some g)) :=
        ((((grown_ext he1 (some g)).trans (grown_set _ ⟨g, j * 8, none⟩ _)).trans (grown_set _ ⟨g, j * 8 + 1, none⟩ _)).trans (grown_set _ ⟨g, j * 8 + 2, none⟩ _)).trans (grown_set _ ⟨g, j * 8 + 3, none⟩ _)
      clear hr1 hr0
      go_wp2_with fail
      rw [show (K : Int) + 1 + 1 + 1 + 1 = (K : Int) + 4 by omega, show (K : Int) + 1 + 1 + 1 = (K : Int) + 3 by omega, show (K : Int) + 1 + 1 = (K : Int) + 2 by omega]
      generalize ((((w1.setCell ⟨g, j * 8, none⟩ (.string (markT K))).setCell ⟨g, j * 8 + 1, none⟩ (.int .i64 ((K : Int) + 1))).setCell ⟨g, j * 8 + 2, none⟩ (.int .i64 ((K : Int) + 2))).setCell ⟨g, j * 8 + 3, none⟩ (.bool (((K : Int) + 3) % 3 == 0))) = W1 at *
      clear hu0 hu1 hu2 hu3 hf0 hf1 hf2 hf3 hu4
      have R1 := Lib.hid (HRJ.out.keep G1.out (fun v hv b hb he => HF1j.out v hv (hb.trans he.symm)))
      obtain ⟨d1, d2, d3, d4, d5, d6⟩ := far4 HF3j.out
      have D1 := Lib.hid d1; have D2 := Lib.hid d2; have D3 := Lib.hid d3; have D4 := Lib.hid d4; have D5 := Lib.hid d5; have D6 := Lib.hid d6
      clear d1 d2 d3 d4 d5 d6
      have ob := R1.out.b
      rw [V1.out] at ob
      refine (markByteS_c Ab _ cb ((K : Int) + 4) _ w0 _ ob (by omega) (by omega)).mono ?_; rintro _ w2 ⟨rfl, om1, g2⟩
      rw [← V1.out] at om1 g2
      have M1 := Lib.hid om1; have G2 := Lib.hid g2
      have HO2 := Lib.hid (HO1.out.keep g2 (fun b hb he => HF1j.out ps[j].vb (by simp [RV.vals]) (he.trans hb.symm)))
      have c5 : w2.cell? ⟨g, j * 8 + 5, none⟩ = some (.slice An ps[j].r.names.length cn) := by rw [HO2.out.cellAt (j * 8 + 5) (by omega)]; exact L5.out
      clear ob om1 g2
      go_wp2_with fail
      rw [show (K : Int) + 4 + (ps[j].r.bytes.length : Int) = ((K + 4 + ps[j].r.bytes.length : Nat) : Int) by omega]
      have on := R1.out.n.keep G2.out (fun b hb he => D1.out b he hb)
      rw [V2.out] at on
      refine (markStringS_c An _ cn (K + 4 + ps[j].r.bytes.length) _ w0 _ on (by omega) (by omega)).mono ?_; rintro _ w3 ⟨rfl, om2, g3⟩
      rw [← V2.out] at om2 g3
      have M2 := Lib.hid om2; have G3 := Lib.hid g3
      have HO3 := Lib.hid (HO2.out.keep g3 (fun b hb he => HF1j.out ps[j].vn (by simp [RV.vals]) (he.trans hb.symm)))
      have c6 : w3.cell? ⟨g, j * 8 + 6, none⟩ = some (.slice At ps[j].r.tags.length ct) := by rw [HO3.out.cellAt (j * 8 + 6) (by omega)]; exact L6.out
      clear on om2 g3 c5
      go_wp2_with fail
      have ot := (R1.out.t.keep G2.out (fun b hb he => D2.out b he hb)).keep G3.out (fun b hb he => D4.out b he hb)
      rw [V3.out] at ot
      refine (markIntS_c At _ ct ((K + 4 + ps[j].r.bytes.length + ps[j].r.names.length : Nat) : Int) _ w0 _ ot (by omega) (by omega)).mono ?_; rintro _ w4 ⟨rfl, om3, g4⟩
      rw [← V3.out] at om3 g4
      have M3 := Lib.hid om3; have G4 := Lib.hid g4
      have HO4 := Lib.hid (HO3.out.keep g4 (fun b hb he => HF1j.out ps[j].vt (by simp [RV.vals]) (he.trans hb.symm)))
      have c7 : w4.cell? ⟨g, j * 8 + 7, none⟩ = some (.slice Ak ps[j].r.kids.length ck) := by rw [HO4.out.cellAt (j * 8 + 7) (by omega)]; exact L7.out
      clear ot om3 g4 c6
      go_wp2_with fail
      first
        | rw [show ((K + 4 + ps[j].r.bytes.length + ps[j].r.names.length : Nat) : Int) + (ps[j].r.tags.length : Int) = ((K + 4 + ps[j].r.bytes.length + ps[j].r.names.length + ps[j].r.tags.length : Nat) : Int) by omega]
        | rw [show (K : Int) + 4 + (ps[j].r.bytes.length : Int) + (ps[j].r.names.length : Int) + (ps[j].r.tags.length : Int) = ((K + 4 + ps[j].r.bytes.length + ps[j].r.names.length + ps[j].r.tags.length : Nat) : Int) by omega]
        | trace_state
      have okk := ((R1.out.k.keep G2.out (fun b hb he => D3.out b he hb)).keep G3.out (fun b hb he => D5.out b he hb)).keep G4.out (fun b hb he => D6.out b he hb)
      rw [V4.out] at okk
      refine (markIntS_c Ak _ ck ((K + 4 + ps[j].r.bytes.length + ps[j].r.names.length + ps[j].r.tags.length : Nat) : Int) _ w0 _ okk (by omega) (by omega)).mono ?_; rintro _ w5 ⟨rfl, om4, g5⟩
      rw [← V4.out] at om4 g5
      have M4 := Lib.hid om4; have G5 := Lib.hid g5
      have HO5 := Lib.hid (HO4.out.keep g5 (fun b hb he => HF1j.out ps[j].vk (by simp [RV.vals]) (he.trans hb.symm)))
      clear okk om4 g5 c7
      have hfin : MarkingR w0 w5 g c ps k (j + 1) := by
        refine ⟨by rw [HYS.out]; exact HO5.out, fun i hi' hij => ?_, fun i hi' hij => ?_⟩
        · rcases Nat.lt_or_ge i j with hlt' | hge
          · have q := HF2j.out i hi' (by omega)
            exact ((((((Hm2.out i hi' hlt').keep G1.out (fun v hv b hb he => HF1.out i hi' v hv (hb.trans he.symm))).keep G2.out (fun v hv b hb he => q v hv _ (by simp [RV.vals]) b he hb)).keep G3.out (fun v hv b hb he => q v hv ps[j].vn (by simp [RV.vals]) b he hb)).keep G4.out (fun v hv b hb he => q v hv ps[j].vt (by simp [RV.vals]) b he hb)).keep G5.out (fun v hv b hb he => q v hv ps[j].vk (by simp [RV.vals]) b he hb))
          · obtain rfl : i = j := by omega
            rw [HK.out]
            exact ⟨((M1.out.keep G3.out D1.out).keep G4.out D2.out).keep G5.out D3.out, (M2.out.keep G4.out D4.out).keep G5.out D5.out, M3.out.keep G5.out D6.out, M4.out⟩
        · have q := HF2j.out i hi' (by omega)
          exact ((((((Hm3.out i hi' (by omega)).keep G1.out (fun v hv b hb he => HF1.out i hi' v hv (hb.trans he.symm))).keep G2.out (fun v hv b hb he => q v hv _ (by simp [RV.vals]) b he hb)).keep G3.out (fun v hv b hb he => q v hv ps[j].vn (by simp [RV.vals]) b he hb)).keep G4.out (fun v hv b hb he => q v hv ps[j].vt (by simp [RV.vals]) b he hb)).keep G5.out (fun v hv b hb he => q v hv ps[j].vk (by simp [RV.vals]) b he hb))
      have HFIN := Lib.hid hfin
      have HWR : Hid (Wrote w0.heap.size hi w w5) := (((((hw.trans (Wrote.grown G1.out (fun b hb => by injection hb with hb; subst hb; exact hgB))).trans (Wrote.grown G2.out (fun b hb => HBJ.out _ (by simp [RV.vals]) b hb))).trans (Wrote.grown G3.out (fun b hb => HBJ.out _ (by simp [RV.vals]) b hb))).trans (Wrote.grown G4.out (fun b hb => HBJ.out _ (by simp [RV.vals]) b hb))).trans (Wrote.grown G5.out (fun b hb => HBJ.out _ (by simp [RV.vals]) b hb)))
      clear hfin
      go_wp2
      go_roundw
      case rel => exact ⟨j + 1, by omega, by go_num, by rw [HKn.out, HML.out]; go_num, HFIN, HWR.out⟩
      case measure => simp [intOf]; omega
    · obtain rfl : j = ps.length := by omega
      go_wp2
      go_ret
      rw [List.take_length]
      exact ⟨rfl, hm.out, hw⟩
end Go.Proofs.Ytlaejcacembjiaa

/- The laws' marks on slices of strings, tested; marks on descriptions, as the laws use them. -/
namespace Go.Proofs.Ytlaejcacembjiaa
open Go.RowKit Go.Sort

set_option maxRecDepth 100000 in
set_option maxHeartbeats 1000000 in
theorem heldStringS_c (A : Option Addr) (n c : Nat) (k : Nat) (w : World) (h : Rd (mkT k) w A (List.range n) c) (hk : 0 < k) (hk2 : k + n ≤ 1099511627776) :
    Gives Try.prog 34 #[.slice A n c, .int .i64 k] w (.int .i64 ((k + n : Nat) : Int)) := by
  go_enter Try.func34, Try.ntmps34
  go_wp2
  go_loopw [1, 5] (fun kk i wr => ∃ j : Nat, j ≤ n ∧ i = .int .i64 j ∧ kk = .int .i64 ((k + j : Nat) : Int) ∧ Ext w wr) (fun _ i _ => n - (intOf i).toNat)
  case atStart => exact ⟨0, by omega, rfl, rfl, Ext.refl _⟩
  case round =>
    obtain ⟨j, hj, rfl, rfl, he⟩ := hrel
    by_cases hlt : j < n
    · obtain ⟨b, off, rfl, hb, hc⟩ := h.at j (by simpa using hlt)
      simp only [List.getElem_range, mkT] at hc
      have MT : Hid (∀ w, Gives Try.prog 83 #[.int .i64 ((k + j : Nat) : Int)] w (.string (markT (k + j)))) := fun w => markText_c (k + j) w (by omega) (by omega)
      obtain ⟨z, hz⟩ : ∃ z, k + j = z := ⟨_, rfl⟩
      have HZ : Hid (k + (j + 1) = z + 1) := by show _ = _; omega
      rw [hz] at hc MT ⊢
      have hzb : z ≤ 1099511627776 := by omega
      generalize markT z = s at *
      clear hz h
      have hs1 : (s.toList != s.toList) = false := by simp
      go_wp2_with fail
      refine wp_region_quiet_below (by kernel_rfl) (by kernel_rfl) ?_
      repeat (go_big_quiet_step ((go_at_call 83; exact Calls.regrown_of (MT.out _))))
      refine wpQuiet_nil ?_
      rintro w1 ⟨⟨nq, osq⟩, hq⟩
      have ew1 := ext_of_q hq
      clear hq nq osq
      go_wp2
      go_roundw
      case rel => exact ⟨j+1, by omega, by go_num, by rw [HZ.out]; go_num, he.trans ew1⟩
      case measure => simp [intOf]; omega
    · obtain rfl : j = n := by omega
      go_wp2
      go_ret
      exact ⟨rfl, he⟩
theorem Box.wrote {w w' : World} {g : Nat} {cs : Array Value} {T : TypeId} (h : Box w g cs T) {lo hi : Nat} (hw : Wrote lo hi w w') (hg : g < lo ∨ hi ≤ g) : Box w' g cs T := (hw.block g h.lt hg).trans h
theorem RuleOwn.wrote {w0 w w' : World} {p : RV} (h : RuleOwn w0 w p) {lo hi : Nat} (hw : Wrote lo hi w w') (hv : ∀ v ∈ p.vals, ∀ g, v.ownBlock = some g → g < lo ∨ hi ≤ g) : RuleOwn w0 w' p :=
  ⟨h.b.wrote hw (hv _ (by simp [RV.vals])), h.n.wrote hw (hv _ (by simp [RV.vals])), h.t.wrote hw (hv _ (by simp [RV.vals])), h.k.wrote hw (hv _ (by simp [RV.vals]))⟩
theorem OwnD.wrote {w0 w w' : World} {v : Value} {ps : List RV} (h : OwnD w0 w v ps) {lo hi : Nat} (hw : Wrote lo hi w w') (hv : ∀ u ∈ v :: ps.flatMap RV.vals, ∀ g, u.ownBlock = some g → g < lo ∨ hi ≤ g) : OwnD w0 w' v ps :=
  ⟨h.row.wrote hw (hv _ (by simp)), fun p hp => (h.each p hp).wrote hw (fun u hu => hv u (List.mem_cons_of_mem _ (List.mem_flatMap.2 ⟨p, hp, hu⟩))), h.far⟩
/-- a description copied by a law: its blocks lie from lo on, below hi -/
structure DMade (lo hi : Nat) (w : World) (v : Value) (ps : List RV) : Prop where
  own : ∃ w0 : World, w0.heap.size = lo ∧ OwnD w0 w v ps
  blk : ∀ u ∈ v :: ps.flatMap RV.vals, ∀ b, u.ownBlock = some b → lo ≤ b ∧ b < hi
theorem DMade.ext {lo hi : Nat} {w w' : World} {v : Value} {ps : List RV} (h : DMade lo hi w v ps) (e : Ext w w') : DMade lo hi w' v ps := ⟨let ⟨w0, h0, h1⟩ := h.own; ⟨w0, h0, h1.ext e⟩, h.blk⟩
theorem DMade.wrote {lo hi lo' hi' : Nat} {w w' : World} {v : Value} {ps : List RV} (h : DMade lo hi w v ps) (hw : Wrote lo' hi' w w') (hd : hi ≤ lo' ∨ hi' ≤ lo) : DMade lo hi w' v ps :=
  ⟨let ⟨w0, h0, h1⟩ := h.own; ⟨w0, h0, h1.wrote hw (fun u hu g hg => by have := h.blk u hu g hg; omega)⟩, h.blk⟩
theorem toDesc_o (A : Option Addr) (ds : List DRule) (c : Nat) (w : World) (h : RdD w A ds c) (hz : szD ds ≤ 1048576) :
    Calls Try.prog 14 #[vdesc (.slice A ds.length c)] w fun e w' => ∃ A1 c1 ps, e = .returned (vdesc (.slice A1 ds.length c1)) ∧ RdD w' A1 ds c1 ∧ rulesOf ps = ds ∧ DMade w.heap.size w'.heap.size w' (.slice A1 ds.length c1) ps ∧ Ext w w' := by
  refine (toDescription_c A ds c w h hz).mono ?_
  rintro e w' ⟨v, ps, he, rfl, ho, hx⟩
  obtain ⟨A1, c1, rfl, hr⟩ := ho.rd (OwnD.short hz).1 (OwnD.short hz).2
  exact ⟨A1, c1, ps, he, hr, rfl, ⟨⟨w, rfl, ho⟩, ho.block⟩, hx⟩
set_option maxHeartbeats 1000000 in
theorem markDesc_c (A : Option Addr) (n c : Nat) (ps : List RV) (k : Nat) (lo hi : Nat) (w : World) (h : DMade lo hi w (.slice A n c) ps) (hz : szD (rulesOf ps) ≤ 1048576) (hk : 0 < k) (hk2 : k ≤ 100000000) :
    Calls Try.prog 19 #[vdesc (.slice A n c), .int .i64 k] w fun e w' => ∃ k' : Nat, k ≤ k' ∧ k' ≤ k + 6000000 ∧ e = .returned (.int .i64 k') ∧ Wrote lo hi w w' := by
  obtain ⟨⟨w0, h0, h1⟩, hb⟩ := h
  subst h0
  have hkE : kEndR k ps ≤ k + 6000000 ∧ k ≤ kEndR k ps := by
    refine ⟨?_, kEndR_ge _ _⟩
    have := kEndR_sz k ps
    unfold szD at hz; rw [rulesOf_len] at hz; omega
  have hsh := (OwnD.short hz).2
  have eb := Ext_alloc (.cells #[.slice A n c] 38) (Ext.refl w)
  have h1' := h1.ext eb
  have C : Hid (Calls Try.prog 67 #[.slice A n c, .int .i64 k] (w.alloc (.cells #[.slice A n c] 38)) fun e w' => e = .returned (.int .i64 (kEndR k ps : Nat)) ∧ Wrote w0.heap.size hi (w.alloc (.cells #[.slice A n c] 38)) w') := by
    obtain ⟨A', c', hv⟩ := h1'.shape
    injection hv with q1 q2 q3
    subst q1; subst q2; subst q3
    rcases h1'.row.2 with ⟨hv, h0⟩ | ⟨g, cap, cur, hv, _⟩
    · injection hv with q1 q2 q3
      subst q1; subst q3
      obtain rfl : ps = [] := List.eq_nil_of_length_eq_zero h0
      have hk64 : (k : Int) ≤ 100000000 := by omega
      clear h1 h1' hb hkE hz hsh h0 eb
      show Calls _ _ _ _ _
      go_enter Try.func67, Try.ntmps67
      go_wp2
      go_loopw [1, 5] (fun kk i wr => i = .int .i64 0 ∧ kk = .int .i64 k ∧ Wrote w0.heap.size hi (w.alloc (.cells #[.slice none 0 0] 38)) wr) (fun _ _ _ => 0)
      case atStart => exact ⟨rfl, rfl, Wrote.refl _ _ _⟩
      case round =>
        obtain ⟨rfl, rfl, he'⟩ := hrel
        go_wp2
        go_ret
        exact ⟨rfl, he'⟩
    · injection hv with q1 q2 q3
      subst q1; subst q3
      exact (markRuleS_c g c ps k w0 _ hi h1' hb hk (by omega) hsh).mono fun e w' ⟨a, _, b⟩ => ⟨a, b⟩
  have HE := Lib.hid hkE
  have W0 : Hid (Wrote w0.heap.size hi w (w.alloc (.cells #[.slice A n c] 38))) := Wrote.ext eb
  clear h1 h1' hb hz hsh hkE
  unfold vdesc
  generalize kEndR k ps = K at *
  have hK1 : K ≤ 200000000 := by have := HE.out; omega
  go_enter Try.func19, Try.ntmps19
  go_wp2_with fail
  refine C.out.mono ?_; rintro _ w1 ⟨rfl, hw⟩
  have HW := Lib.hid hw; clear hw
  go_wp2
  go_ret
  exact ⟨K, HE.out.2, HE.out.1, rfl, W0.out.trans HW.out⟩
end Go.Proofs.Ytlaejcacembjiaa

/- The laws' marks on rules and descriptions, tested. -/
namespace Go.Proofs.Ytlaejcacembjiaa
open Go.RowKit Go.Sort

theorem MarkingR.ext {w0 w w' : World} {g c : Nat} {ps : List RV} {k i : Nat} (h : MarkingR w0 w g c ps k i) (e : Ext w w') : MarkingR w0 w' g c ps k i :=
  ⟨h.row.ext e, fun j a b => (h.done j a b).ext e, fun j a b => (h.todo j a b).ext e⟩
theorem RuleMarked.rd {w0 w : World} {k : Nat} {p : RV} (h : RuleMarked w0 w k p) (hs : ShortR p.r) : ∃ Ab cb An cn At ct Ak ck, p.vb = .slice Ab p.r.bytes.length cb ∧ p.vn = .slice An p.r.names.length cn ∧ p.vt = .slice At p.r.tags.length ct ∧ p.vk = .slice Ak p.r.kids.length ck ∧
    Rd (mk8 ((k : Int) + 4)) w Ab (List.range p.r.bytes.length) cb ∧ Rd (mkT (k + 4 + p.r.bytes.length)) w An (List.range p.r.names.length) cn ∧ Rd (mkI ((k + 4 + p.r.bytes.length + p.r.names.length : Nat) : Int)) w At (List.range p.r.tags.length) ct ∧ Rd (mkI ((k + 4 + p.r.bytes.length + p.r.names.length + p.r.tags.length : Nat) : Int)) w Ak (List.range p.r.kids.length) ck := by
  obtain ⟨s1, s2, s3, s4⟩ := hs
  obtain ⟨Ab, cb, h1, r1⟩ := Own.rd (l := List.range p.r.bytes.length) h.b (by simpa using s1)
  obtain ⟨An, cn, h2, r2⟩ := Own.rd (l := List.range p.r.names.length) h.n (by simpa using s2)
  obtain ⟨At, ct, h3, r3⟩ := Own.rd (l := List.range p.r.tags.length) h.t (by simpa using s3)
  obtain ⟨Ak, ck, h4, r4⟩ := Own.rd (l := List.range p.r.kids.length) h.k (by simpa using s4)
  simp only [List.length_range] at h1 h2 h3 h4
  exact ⟨Ab, cb, An, cn, At, ct, Ak, ck, h1, h2, h3, h4, r1, r2, r3, r4⟩
set_option maxRecDepth 100000 in
set_option maxHeartbeats 8000000 in
theorem heldRuleS_c (g c : Nat) (ps : List RV) (k : Nat) (w0 w : World) (h : MarkingR w0 w g c ps k ps.length) (hk : 0 < k) (hk2 : kEndR k ps ≤ 1099511627776) (hs : ∀ p ∈ ps, ShortR p.r) :
    Gives Try.prog 114 #[.slice (some ⟨g, 0, none⟩) ps.length c, .int .i64 k] w (.int .i64 (kEndR k ps : Nat)) := by
  have hn : ps.length ≤ 140737488351232 := by
    rw [kEndR_eq] at hk2
    have := len_mlen ps
    omega
  have HM := Lib.hid h; clear h
  go_enter Try.func114, Try.ntmps114
  go_wp2
  go_loopw [1, 5] (fun kk i wr => ∃ j : Nat, j ≤ ps.length ∧ i = .int .i64 j ∧ kk = .int .i64 (kEndR k (ps.take j) : Nat) ∧ Ext w wr) (fun _ i _ => ps.length - (intOf i).toNat)
  case atStart => exact ⟨0, by omega, rfl, rfl, Ext.refl _⟩
  case round =>
    obtain ⟨j, hj, rfl, rfl, he⟩ := hrel
    by_cases hlt : j < ps.length
    · have HKn : Hid (kEndR k (ps.take (j+1)) = kEndR k (ps.take j) + mlen ps[j].r) := by
        show _ = _; rw [List.take_succ_eq_append_getElem hlt, kEndR_append]; rfl
      have hKe := kEndR_mono k ps (j+1)
      rw [HKn.out] at hKe
      have hK0 := kEndR_ge k (ps.take j)
      have hsj := hs _ (List.getElem_mem hlt)
      have hrow := HM.out.row
      rw [List.take_length, List.drop_length, List.flatMap_nil, List.append_nil] at hrow
      have hml : (msR k (ps.take j)).length = j := by rw [msR_length, List.length_take]; omega
      have hsp : msR k ps = (msR k (ps.take j) ++ [(kEndR k (ps.take j), ps[j])]) ++ msR (kEndR k (ps.take (j+1))) (ps.drop (j+1)) := by
        conv => lhs; rw [← List.take_append_drop (j+1) ps, msR_append]
        rw [List.take_succ_eq_append_getElem hlt, msR_append, kEndR_append]; rfl
      have hget := fun m hm => mk_getR (msR k (ps.take j)) (kEndR k (ps.take j)) ps[j] ((msR (kEndR k (ps.take (j+1))) (ps.drop (j+1))).flatMap mkCells) j m hml hm
      rw [← List.flatMap_append, ← hsp] at hget
      have hdn := HM.out.done j hlt hlt
      have hxl : ((msR k ps).flatMap mkCells).length = ps.length * 8 := by rw [mkCells_len, msR_length]
      obtain ⟨K, hK⟩ : ∃ K, kEndR k (ps.take j) = K := ⟨_, rfl⟩
      rw [hK] at hget hKe hK0 HKn hdn ⊢
      clear hsp hml hK
      obtain ⟨xs, hxs⟩ : ∃ xs, (msR k ps).flatMap mkCells = xs := ⟨_, rfl⟩
      rw [hxs] at hrow hget hxl
      clear hxs
      have hcell : ∀ m (hm : m < 8) w', Ext w w' → w'.cell? ⟨g, j * 8 + m, none⟩ = (mkCells (K, ps[j]))[m]? := fun m hm w' e => by
        rw [(Own.ext hrow e).cellAt (j * 8 + m) (by omega)]; exact hget m hm
      have hb : g < w.heap.size := (World.ownsRow.lt hrow g rfl).2
      obtain ⟨Ab, cb, An, cn, At, ct, Ak, ck, v1, v2, v3, v4, r1, r2, r3, r4⟩ := hdn.rd hsj
      have q0 := hcell 0 (by omega); have q1 := hcell 1 (by omega); have q2 := hcell 2 (by omega); have q3 := hcell 3 (by omega); have q4 := hcell 4 (by omega); have q5 := hcell 5 (by omega); have q6 := hcell 6 (by omega); have q7 := hcell 7 (by omega)
      simp only [mkCells, List.getElem?_cons_succ, List.getElem?_cons_zero, v1, v2, v3, v4, Nat.add_zero] at q0 q1 q2 q3 q4 q5 q6 q7
      have HKN : Hid (kEndR k (ps.take (j+1)) = K + 4 + ps[j].r.bytes.length + ps[j].r.names.length + ps[j].r.tags.length + ps[j].r.kids.length) := by show _ = _; rw [HKn.out]; unfold mlen; omega
      have hKe' : K + 4 + ps[j].r.bytes.length + ps[j].r.names.length + ps[j].r.tags.length + ps[j].r.kids.length ≤ 1099511627776 := by unfold mlen at hKe; omega
      clear hcell hget hdn hrow v1 v2 v3 v4 hsj HKn hKe hxl
      obtain ⟨s1, s2, s3, s4⟩ := (⟨r1.len, r2.len, r3.len, r4.len⟩ : _ ∧ _ ∧ _ ∧ _)
      simp only [List.length_range] at s1 s2 s3 s4
      generalize ps[j].r.bytes.length = nb at *
      generalize ps[j].r.names.length = nn at *
      generalize ps[j].r.tags.length = nt at *
      generalize ps[j].r.kids.length = nk at *
      have MT : Hid (∀ w, Gives Try.prog 83 #[.int .i64 (K : Int)] w (.string (markT K))) := fun w => markText_c K w (by omega) (by omega)
      have C1 : Hid (∀ w', Ext w w' → Gives Try.prog 90 #[.slice Ab nb cb, .int .i64 ((K : Int) + 4)] w' (.int .i64 ((K : Int) + 4 + nb))) := fun w' e => heldByteS_c Ab nb cb _ w' (r1.ext e) (by omega) (by omega)
      have C2 : Hid (∀ w', Ext w w' → Gives Try.prog 34 #[.slice An nn cn, .int .i64 ((K + 4 + nb : Nat) : Int)] w' (.int .i64 ((K + 4 + nb + nn : Nat) : Int))) := fun w' e => heldStringS_c An nn cn _ w' (r2.ext e) (by omega) (by omega)
      have C3 : Hid (∀ w', Ext w w' → Gives Try.prog 152 #[.slice At nt ct, .int .i64 ((K + 4 + nb + nn : Nat) : Int)] w' (.int .i64 (((K + 4 + nb + nn : Nat) : Int) + nt))) := fun w' e => heldIntS_c At nt ct _ w' (r3.ext e) (by omega) (by omega)
      have C4 : Hid (∀ w', Ext w w' → Gives Try.prog 152 #[.slice Ak nk ck, .int .i64 ((K + 4 + nb + nn + nt : Nat) : Int)] w' (.int .i64 (((K + 4 + nb + nn + nt : Nat) : Int) + nk))) := fun w' e => heldIntS_c Ak nk ck _ w' (r4.ext e) (by omega) (by omega)
      clear r1 r2 r3 r4
      simp only [show (K : Int) + 2 = (K : Int) + 1 + 1 by omega] at q2
      simp only [show (K : Int) + 3 = (K : Int) + 1 + 1 + 1 by omega] at q3
      generalize markT K = s at *
      have hs1 : (s.toList != s.toList) = false := by simp
      have b1 : (j : Int) < (ps.length : Int) := by omega
      go_wp2_with fail
      refine wp_region_quiet_below (by kernel_rfl) (by kernel_rfl) ?_
      repeat (go_big_quiet_step ((go_at_call 83; exact Calls.regrown_of (MT.out _))))
      refine wpQuiet_nil ?_
      rintro w1 ⟨⟨nq, osq⟩, hq⟩
      have ew1 := ext_of_q hq
      clear hq nq osq
      have e1 := he.trans ew1
      go_wp2_with fail
      rw [show (K : Int) + 1 + 1 + 1 + 1 = (K : Int) + 4 by omega]
      refine (C1.out _ e1).mono ?_; rintro _ w2 ⟨rfl, s2⟩
      have e2 := e1.trans s2
      have d1 : decide ((K : Int) + 4 + (nb : Int) < 0) = false := decide_eq_false (by omega)
      go_wp2_with fail
      rw [show (K : Int) + 4 + (nb : Int) = ((K + 4 + nb : Nat) : Int) by omega]
      refine (C2.out _ e2).mono ?_; rintro _ w3 ⟨rfl, s3⟩
      have e3 := e2.trans s3
      generalize hN1 : K + 4 + nb + nn = N1 at *
      have HN1 := Lib.hid hN1; clear hN1
      have d2 : decide ((N1 : Int) < 0) = false := decide_eq_false (by omega)
      go_wp2_with fail
      refine (C3.out _ e3).mono ?_; rintro _ w4 ⟨rfl, s4⟩
      have e4 := e3.trans s4
      have d3 : decide ((N1 : Int) + (nt : Int) < 0) = false := decide_eq_false (by omega)
      go_wp2_with fail
      rw [show (N1 : Int) + (nt : Int) = ((N1 + nt : Nat) : Int) by omega]
      refine (C4.out _ e4).mono ?_; rintro _ w5 ⟨rfl, s5⟩
      have e5 := e4.trans s5
      generalize hN2 : N1 + nt = N2 at *
      have HN2 := Lib.hid hN2; clear hN2
      have d4 : decide ((N2 : Int) + (nk : Int) < 0) = false := decide_eq_false (by omega)
      go_wp2
      go_roundw
      case rel => exact ⟨j + 1, by omega, by go_num, by rw [HKN.out]; have := HN1.out; have := HN2.out; go_num, e5⟩
      case measure => simp [intOf]; omega
    · obtain rfl : j = ps.length := by omega
      go_wp2
      go_ret
      rw [List.take_length]
      exact ⟨rfl, he⟩
/-- a description whose rules are marked from k on -/
structure DMarked (lo hi : Nat) (w : World) (v : Value) (ps : List RV) (k : Nat) : Prop where
  own : ∃ w0 : World, w0.heap.size = lo ∧ (v = .slice none 0 0 ∧ ps = [] ∨ ∃ g c, v = .slice (some ⟨g, 0, none⟩) ps.length c ∧ MarkingR w0 w g c ps k ps.length)
theorem DMarked.ext {lo hi : Nat} {w w' : World} {v : Value} {ps : List RV} {k : Nat} (h : DMarked lo hi w v ps k) (e : Ext w w') : DMarked lo hi w' v ps k := by
  obtain ⟨w0, h0, h1⟩ := h.own
  exact ⟨w0, h0, h1.imp id (fun ⟨g, c, a, b⟩ => ⟨g, c, a, b.ext e⟩)⟩
set_option maxHeartbeats 1000000 in
/-- the marks laid over a description, with what they leave -/
theorem markDescK_c (A : Option Addr) (n c : Nat) (ps : List RV) (k : Nat) (lo hi : Nat) (w : World) (hn : n = ps.length) (h : DMade lo hi w (.slice A n c) ps) (hs : ∀ p ∈ ps, ShortR p.r) (hk : 0 < k) (hk2 : kEndR k ps ≤ 100000000) :
    Calls Try.prog 19 #[vdesc (.slice A n c), .int .i64 k] w fun e w' => e = .returned (.int .i64 (kEndR k ps : Nat)) ∧ DMarked lo hi w' (.slice A n c) ps k ∧ Wrote lo hi w w' := by
  subst hn
  obtain ⟨⟨w0, h0, h1⟩, hb⟩ := h
  subst h0
  have eb := Ext_alloc (.cells #[.slice A ps.length c] 38) (Ext.refl w)
  have h1' := h1.ext eb
  have hkg := kEndR_ge k ps
  have C : Hid (Calls Try.prog 67 #[.slice A ps.length c, .int .i64 k] (w.alloc (.cells #[.slice A ps.length c] 38)) fun e w' => e = .returned (.int .i64 (kEndR k ps : Nat)) ∧ DMarked w0.heap.size hi w' (.slice A ps.length c) ps k ∧ Wrote w0.heap.size hi (w.alloc (.cells #[.slice A ps.length c] 38)) w') := by
    rcases h1'.row.2 with ⟨hv, h0⟩ | ⟨g, cap, cur, hv, _⟩
    · injection hv with q1 q2 q3
      subst q1; subst q3
      obtain rfl : ps = [] := List.eq_nil_of_length_eq_zero h0
      have hk64 : (k : Int) ≤ 100000000 := by simp only [kEndR] at hk2; omega
      have DM : Hid (∀ w', DMarked w0.heap.size hi w' (.slice none 0 0) [] k) := fun w' => ⟨w0, rfl, .inl ⟨rfl, rfl⟩⟩
      clear h1 h1' hb hs hk2 hkg h0
      show Calls _ _ _ _ _
      go_enter Try.func67, Try.ntmps67
      go_wp2
      go_loopw [1, 5] (fun kk i wr => i = .int .i64 0 ∧ kk = .int .i64 k ∧ Wrote w0.heap.size hi (w.alloc (.cells #[.slice none 0 0] 38)) wr) (fun _ _ _ => 0)
      case atStart => exact ⟨rfl, rfl, Wrote.refl _ _ _⟩
      case round =>
        obtain ⟨rfl, rfl, he'⟩ := hrel
        go_wp2
        go_ret
        exact ⟨rfl, DM.out _, he'⟩
    · injection hv with q1 q2 q3
      subst q1; subst q3
      exact (markRuleS_c g c ps k w0 _ hi h1' hb hk (by omega) hs).mono fun e w' ⟨a, m, b⟩ => ⟨a, ⟨w0, rfl, .inr ⟨g, c, rfl, m⟩⟩, b⟩
  have W0 : Hid (Wrote w0.heap.size hi w (w.alloc (.cells #[.slice A ps.length c] 38))) := Wrote.ext eb
  clear h1 h1' hb hs
  unfold vdesc
  generalize kEndR k ps = K at *
  go_enter Try.func19, Try.ntmps19
  go_wp2_with fail
  refine C.out.mono ?_; rintro _ w1 ⟨rfl, hm, hw⟩
  have HW := Lib.hid hw; have HM := Lib.hid hm; clear hw hm
  go_wp2
  go_ret
  exact ⟨rfl, HM.out, W0.out.trans HW.out⟩
end Go.Proofs.Ytlaejcacembjiaa
