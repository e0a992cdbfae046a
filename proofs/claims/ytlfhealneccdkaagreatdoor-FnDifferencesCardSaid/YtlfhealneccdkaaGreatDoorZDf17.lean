/- Texts, laid into one. -/
import Derived.Test.YtlfhealneccdkaaGreatDoorZDf15
set_option linter.unusedVariables false
set_option linter.unusedSimpArgs false
set_option maxRecDepth 100000
set_option maxHeartbeats 16000000
namespace Go.Proofs.YtlfhealneccdkaaGreatDoor
open Go.RowKit Go.Sort
theorem sKind1_c (A:Option Addr) (ds:List DRule) (c:Nat) (r:DRule) (Ab:Option Addr) (cb:Nat) (An:Option Addr) (cn:Nat) (At:Option Addr) (ct:Nat) (Ak:Option Addr) (ck:Nat) (w:World) (hd:RdD w A ds c) (h:RdS w r Ab cb An cn At ct Ak ck) (hs:ShortR r) (hw:WfR r) (hk:r.kind=1) :
 Gives Tryz.prog 90 #[vdesc (.slice A ds.length c),vrule r (.slice Ab r.bytes.length cb) (.slice An r.names.length cn) (.slice At r.tags.length ct) (.slice Ak r.kids.length ck)] w (.bool ((!r.little||r.kind==1)&&kindOk ds r)):=by
 have eb:=Ext_alloc (.cells #[.string r.nm,.int .i64 r.kind,.int .i64 r.size,.bool r.little,.slice Ab r.bytes.length cb,.slice An r.names.length cn,.slice At r.tags.length ct,.slice Ak r.kids.length ck] 67) (Ext_alloc (.cells #[.slice A ds.length c] 26) (Ext.refl w));have BX:=fun w' (e:Ext ((w.alloc (.cells #[.slice A ds.length c] 26)).alloc (.cells #[.string r.nm,.int .i64 r.kind,.int .i64 r.size,.bool r.little,.slice Ab r.bytes.length cb,.slice An r.names.length cn,.slice At r.tags.length ct,.slice Ak r.kids.length ck] 67)) w')=>boxed2 e
 have B0:=fun w' e=>(BX w' e).1
 have B1:=fun w' e=>(BX w' e).2.1
 clear BX;have t1:=kfT hk 1;have t2:=kfF hk 2;have t3:=kfF hk 3;have t4:=kfF hk 4;have t5:=kfF hk 5;have t6:=kfF hk 6;have t7:=kfF hk 7;have t8:=kfF hk 8;have t9:=kfF hk 9;have t10:=kfF hk 10
 have HV:Hid (((!r.little||r.kind==1)&&kindOk ds r)=((plainB r true false false false 0&&(!r.little||r.kind==1))&&(between r.size 1 4&&(!r.little||decide (1<r.size))))):=by
  have:kindOk ds r=(plainB r true false false false 0&&(between r.size 1 4&&(!r.little||decide (1<r.size)))):=by simp [kindOk,hk,Bool.and_assoc]
  show _=_;rw [this];cases (!r.little||r.kind==1)<;>simp
 rw [HV.out];have CP:=lhd (fun w=>sShape1000_c r Ab cb An cn At ct Ak ck 0 w h.lens);generalize (plainB r true false false false 0&&(!r.little||r.kind==1))=p at *;clear HV hk;have CI:=lhd (fun w=>l1In_c r.size 1 4 w);have HB:Hid (between r.size 1 4=(decide (((1):Int)≤r.size)&&decide (r.size≤4))):=rfl
 rw [← HB.out] at CI;clear HB;generalize between r.size 1 4=q at *;unfold vrule vdesc at *;cases p
 ·go_enter Tryz.func90,Tryz.ntmps90
  go_wp2_with fail;refine (CP.out _).mono ?_;rintro _ w1 ⟨rfl,he1⟩;go_wp2;go_ret;exact ⟨ret_bool (by simp),eb.trans he1⟩
 cases q
 ·go_enter Tryz.func90,Tryz.ntmps90
  go_wp2_with fail;refine (CP.out _).mono ?_;rintro _ w1 ⟨rfl,he1⟩;go_wp2_with fail;refine (CI.out _).mono ?_;rintro _ w2 ⟨rfl,he2⟩;go_wp2;go_ret;exact ⟨ret_bool (by simp),eb.trans (he1.trans he2)⟩
 generalize r.little=li at *;cases li
 all_goals
  cases hz:decide (1<r.size)
  all_goals
   go_enter Tryz.func90,Tryz.ntmps90;go_wp2_with fail;refine (CP.out _).mono ?_;rintro _ w1 ⟨rfl,he1⟩;go_wp2_with fail;refine (CI.out _).mono ?_;rintro _ w2 ⟨rfl,he2⟩;have e2:=he1.trans he2;go_wp2;go_ret;exact ⟨ret_bool (by simp),eb.trans e2⟩
theorem sKind2_c (A:Option Addr) (ds:List DRule) (c:Nat) (r:DRule) (Ab:Option Addr) (cb:Nat) (An:Option Addr) (cn:Nat) (At:Option Addr) (ct:Nat) (Ak:Option Addr) (ck:Nat) (w:World) (hd:RdD w A ds c) (h:RdS w r Ab cb An cn At ct Ak ck) (hs:ShortR r) (hw:WfR r) (hk:r.kind=2) :
 Gives Tryz.prog 90 #[vdesc (.slice A ds.length c),vrule r (.slice Ab r.bytes.length cb) (.slice An r.names.length cn) (.slice At r.tags.length ct) (.slice Ak r.kids.length ck)] w (.bool ((!r.little||r.kind==1)&&kindOk ds r)):=by
 have eb:=Ext_alloc (.cells (rcs r Ab cb An cn At ct Ak ck) 67) (Ext_alloc (.cells #[.slice A ds.length c] 26) (Ext.refl w));have BX:=fun w' (e:Ext ((w.alloc (.cells #[.slice A ds.length c] 26)).alloc (.cells (rcs r Ab cb An cn At ct Ak ck) 67)) w')=>boxed2 e
 have B0:=fun w' e=>(BX w' e).1
 have B1:=fun w' e=>(BX w' e).2.1
 clear BX;have t1:=kfF hk 1;have t2:=kfT hk 2;have t3:=kfF hk 3;have t4:=kfF hk 4;have t5:=kfF hk 5;have t6:=kfF hk 6;have t7:=kfF hk 7;have t8:=kfF hk 8;have t9:=kfF hk 9;have t10:=kfF hk 10
 have HV:Hid (((!r.little||r.kind==1)&&kindOk ds r)=((plainB r false true false false 0&&(!r.little||r.kind==1))&&(between r.bytes.length 1 16))):=by
  have:kindOk ds r=(plainB r false true false false 0&&(between r.bytes.length 1 16)):=by simp [kindOk,hk,Bool.and_assoc]
  show _=_;rw [this];cases (!r.little||r.kind==1)<;>simp
 rw [HV.out];have CP:=lhd (fun w=>sShape0100_c r Ab cb An cn At ct Ak ck 0 w h.lens);generalize (plainB r false true false false 0&&(!r.little||r.kind==1))=p at *;clear HV hk;have CI:=lhd (fun w=>l1In_c (r.bytes.length:Int) 1 16 w);have HB:Hid (between r.bytes.length 1 16=(decide (((1):Int)≤(r.bytes.length:Int))&&decide ((r.bytes.length:Int)≤16))):=rfl
 rw [← HB.out] at CI;clear HB;generalize between r.bytes.length 1 16=q at *;have hlb:=h.lens.1;unfold vrule vdesc at *;cases p
 ·go_enter Tryz.func90,Tryz.ntmps90
  go_wp2_with fail;refine (CP.out _).mono ?_;rintro _ w1 ⟨rfl,he1⟩;go_wp2;go_ret;exact ⟨ret_bool (by simp),eb.trans he1⟩
 go_enter Tryz.func90,Tryz.ntmps90;go_wp2_with fail;refine (CP.out _).mono ?_;rintro _ w1 ⟨rfl,he1⟩;go_wp2_with fail;refine (CI.out _).mono ?_;rintro _ w2 ⟨rfl,he2⟩;go_wp2;go_ret;exact ⟨ret_bool (by simp),eb.trans (he1.trans he2)⟩
theorem sKind3_c (A:Option Addr) (ds:List DRule) (c:Nat) (r:DRule) (Ab:Option Addr) (cb:Nat) (An:Option Addr) (cn:Nat) (At:Option Addr) (ct:Nat) (Ak:Option Addr) (ck:Nat) (w:World) (hd:RdD w A ds c) (h:RdS w r Ab cb An cn At ct Ak ck) (hs:ShortR r) (hw:WfR r) (hk:r.kind=3) :
 Gives Tryz.prog 90 #[vdesc (.slice A ds.length c),vrule r (.slice Ab r.bytes.length cb) (.slice An r.names.length cn) (.slice At r.tags.length ct) (.slice Ak r.kids.length ck)] w (.bool ((!r.little||r.kind==1)&&kindOk ds r)):=by
 have eb:=Ext_alloc (.cells (rcs r Ab cb An cn At ct Ak ck) 67) (Ext_alloc (.cells #[.slice A ds.length c] 26) (Ext.refl w));have BX:=fun w' (e:Ext ((w.alloc (.cells #[.slice A ds.length c] 26)).alloc (.cells (rcs r Ab cb An cn At ct Ak ck) 67)) w')=>boxed2 e
 have B0:=fun w' e=>(BX w' e).1
 have B1:=fun w' e=>(BX w' e).2.1
 clear BX;have t1:=kfF hk 1;have t2:=kfF hk 2;have t3:=kfT hk 3;have t4:=kfF hk 4;have t5:=kfF hk 5;have t6:=kfF hk 6;have t7:=kfF hk 7;have t8:=kfF hk 8;have t9:=kfF hk 9;have t10:=kfF hk 10
 have HV:Hid (((!r.little||r.kind==1)&&kindOk ds r)=((plainB r true false false false 0&&(!r.little||r.kind==1))&&(between r.size 1 64))):=by
  have:kindOk ds r=(plainB r true false false false 0&&(between r.size 1 64)):=by simp [kindOk,hk,Bool.and_assoc]
  show _=_;rw [this];cases (!r.little||r.kind==1)<;>simp
 rw [HV.out];have CP:=lhd (fun w=>sShape1000_c r Ab cb An cn At ct Ak ck 0 w h.lens);generalize (plainB r true false false false 0&&(!r.little||r.kind==1))=p at *;clear HV hk;have CI:=lhd (fun w=>l1In_c r.size 1 64 w);have HB:Hid (between r.size 1 64=(decide (((1):Int)≤r.size)&&decide (r.size≤64))):=rfl
 rw [← HB.out] at CI;clear HB;generalize between r.size 1 64=q at *;have hlb:=h.lens.1;unfold vrule vdesc at *;cases p
 ·go_enter Tryz.func90,Tryz.ntmps90
  go_wp2_with fail;refine (CP.out _).mono ?_;rintro _ w1 ⟨rfl,he1⟩;go_wp2;go_ret;exact ⟨ret_bool (by simp),eb.trans he1⟩
 go_enter Tryz.func90,Tryz.ntmps90;go_wp2_with fail;refine (CP.out _).mono ?_;rintro _ w1 ⟨rfl,he1⟩;go_wp2_with fail;refine (CI.out _).mono ?_;rintro _ w2 ⟨rfl,he2⟩;go_wp2;go_ret;exact ⟨ret_bool (by simp),eb.trans (he1.trans he2)⟩
theorem sKind4_c (A:Option Addr) (ds:List DRule) (c:Nat) (r:DRule) (Ab:Option Addr) (cb:Nat) (An:Option Addr) (cn:Nat) (At:Option Addr) (ct:Nat) (Ak:Option Addr) (ck:Nat) (w:World) (hd:RdD w A ds c) (h:RdS w r Ab cb An cn At ct Ak ck) (hs:ShortR r) (hw:WfR r) (hk:r.kind=4) :
 Gives Tryz.prog 90 #[vdesc (.slice A ds.length c),vrule r (.slice Ab r.bytes.length cb) (.slice An r.names.length cn) (.slice At r.tags.length ct) (.slice Ak r.kids.length ck)] w (.bool ((!r.little||r.kind==1)&&kindOk ds r)):=by
 have eb:=Ext_alloc (.cells #[.string r.nm,.int .i64 r.kind,.int .i64 r.size,.bool r.little,.slice Ab r.bytes.length cb,.slice An r.names.length cn,.slice At r.tags.length ct,.slice Ak r.kids.length ck] 67) (Ext_alloc (.cells #[.slice A ds.length c] 26) (Ext.refl w));have BX:=fun w' (e:Ext ((w.alloc (.cells #[.slice A ds.length c] 26)).alloc (.cells #[.string r.nm,.int .i64 r.kind,.int .i64 r.size,.bool r.little,.slice Ab r.bytes.length cb,.slice An r.names.length cn,.slice At r.tags.length ct,.slice Ak r.kids.length ck] 67)) w')=>boxed2 e
 have B0:=fun w' e=>(BX w' e).1
 have B1:=fun w' e=>(BX w' e).2.1
 clear BX;have t1:=kfF hk 1;have t2:=kfF hk 2;have t3:=kfF hk 3;have t4:=kfT hk 4;have t5:=kfF hk 5;have t6:=kfF hk 6;have t7:=kfF hk 7;have t8:=kfF hk 8;have t9:=kfF hk 9;have t10:=kfF hk 10
 have HV:Hid (((!r.little||r.kind==1)&&kindOk ds r)=((plainB r false false false false 1&&(!r.little||r.kind==1))&&(decide (0<limD ds (r.kids.getD 0 0))))):=by
  have:kindOk ds r=(plainB r false false false false 1&&(decide (0<limD ds (r.kids.getD 0 0)))):=by simp [kindOk,hk,Bool.and_assoc]
  show _=_;rw [this];cases (!r.little||r.kind==1)<;>simp
 rw [HV.out];have CP:=lhd (fun w=>sShape0000_c r Ab cb An cn At ct Ak ck 1 w h.lens);have HKL:Hid (plainB r false false false false 1=true→r.kids.length=1):=plainB_kids (k:=1)
 have HPP:Hid ((plainB r false false false false 1&&(!r.little||r.kind==1))=true→plainB r false false false false 1=true):=by intro hq;rw [Bool.and_eq_true] at hq;exact hq.1
 have HKK:=lhd (fun hq=>HKL.out (HPP.out hq));clear HKL HPP;generalize (plainB r false false false false 1&&(!r.little||r.kind==1))=p at *;clear HV hk;have h1:=h.k;unfold vrule vdesc at *;cases p
 ·go_enter Tryz.func90,Tryz.ntmps90
  go_wp2_with fail;refine wp_region_quiet_below (by kernel_rfl) (by kernel_rfl) ?_;repeat (go_big_quiet_step ((go_at_call 101;exact Calls.regrown_of (CP.out _))))
  refine wpQuiet_nil (qnl ?_);intro w1 ew1;go_wp2;go_ret;exact ⟨ret_bool (by simp),eb.trans ew1⟩
 have hk0:0<r.kids.length:=by have:=HKK.out rfl;omega
 obtain ⟨bk,ok,rfl,hbk,hck⟩:=h1.at 0 hk0;have HG:Hid (r.kids.getD 0 0=r.kids[0]):=by show _=_;simp [List.getD_eq_getElem?_getD,List.getElem?_eq_getElem hk0]
 rw [HG.out];rw [Nat.add_zero] at hck;generalize r.kids[0]=kid at *;have CL:=lhd (fun w h=>sLimit_c A ds c kid w h);unfold vdesc at CL;generalize limD ds kid=lim at *;have hck':=fun w' (e:Ext _ w')=>hck w' (eb.trans e)
 clear hck h1 h HG HKK;have hbe:=Ext_drew (Ext.refl ((w.alloc (.cells #[.slice A ds.length c] 26)).alloc (.cells #[.string r.nm,.int .i64 r.kind,.int .i64 r.size,.bool r.little,.slice Ab r.bytes.length cb,.slice An r.names.length cn,.slice At r.tags.length ct,.slice (some ⟨bk,ok,none⟩) r.kids.length ck] 67)));go_enter Tryz.func90,Tryz.ntmps90;go_wp2_with fail;refine wp_region_quiet_below (by kernel_rfl) (by kernel_rfl) ?_;repeat (go_big_quiet_step ((first | (go_at_call 101;exact Calls.regrown_of (CP.out _)) | (go_at_call 72;exact Calls.regrown_of (CL.out _ (hd.ext (eb.trans (by first | assumption | exact Ext_self _ | exact Ext_drew (Ext_self _) | exact Ext_regrown _ _ (Ext_self _)))))))))
 refine wpQuiet_nil (qnl ?_);intro w1 ew1;go_wp2;go_ret;exact ⟨ret_bool (by simp),eb.trans ew1⟩
theorem sKind5_c (A:Option Addr) (ds:List DRule) (c:Nat) (r:DRule) (Ab:Option Addr) (cb:Nat) (An:Option Addr) (cn:Nat) (At:Option Addr) (ct:Nat) (Ak:Option Addr) (ck:Nat) (w:World) (hd:RdD w A ds c) (h:RdS w r Ab cb An cn At ct Ak ck) (hs:ShortR r) (hw:WfR r) (hk:r.kind=5) :
 Gives Tryz.prog 90 #[vdesc (.slice A ds.length c),vrule r (.slice Ab r.bytes.length cb) (.slice An r.names.length cn) (.slice At r.tags.length ct) (.slice Ak r.kids.length ck)] w (.bool ((!r.little||r.kind==1)&&kindOk ds r)):=by
 have eb:=Ext_alloc (.cells #[.string r.nm,.int .i64 r.kind,.int .i64 r.size,.bool r.little,.slice Ab r.bytes.length cb,.slice An r.names.length cn,.slice At r.tags.length ct,.slice Ak r.kids.length ck] 67) (Ext_alloc (.cells #[.slice A ds.length c] 26) (Ext.refl w));have BX:=fun w' (e:Ext ((w.alloc (.cells #[.slice A ds.length c] 26)).alloc (.cells #[.string r.nm,.int .i64 r.kind,.int .i64 r.size,.bool r.little,.slice Ab r.bytes.length cb,.slice An r.names.length cn,.slice At r.tags.length ct,.slice Ak r.kids.length ck] 67)) w')=>boxed2 e
 have B0:=fun w' e=>(BX w' e).1
 have B1:=fun w' e=>(BX w' e).2.1
 clear BX;have t1:=kfF hk 1;have t2:=kfF hk 2;have t3:=kfF hk 3;have t4:=kfF hk 4;have t5:=kfT hk 5;have t6:=kfF hk 6;have t7:=kfF hk 7;have t8:=kfF hk 8;have t9:=kfF hk 9;have t10:=kfF hk 10
 have HV:Hid (((!r.little||r.kind==1)&&kindOk ds r)=((plainB r false false false false 2&&(!r.little||r.kind==1))&&(decide (0<limD ds (r.kids.getD 0 0))))):=by
  have:kindOk ds r=(plainB r false false false false 2&&(decide (0<limD ds (r.kids.getD 0 0)))):=by simp [kindOk,hk,Bool.and_assoc]
  show _=_;rw [this];cases (!r.little||r.kind==1)<;>simp
 rw [HV.out];have CP:=lhd (fun w=>sShape0000_c r Ab cb An cn At ct Ak ck 2 w h.lens);have HKL:Hid (plainB r false false false false 2=true→r.kids.length=2):=plainB_kids (k:=2)
 have HPP:Hid ((plainB r false false false false 2&&(!r.little||r.kind==1))=true→plainB r false false false false 2=true):=by intro hq;rw [Bool.and_eq_true] at hq;exact hq.1
 have HKK:=lhd (fun hq=>HKL.out (HPP.out hq));clear HKL HPP;generalize (plainB r false false false false 2&&(!r.little||r.kind==1))=p at *;clear HV hk;have h1:=h.k;unfold vrule vdesc at *;cases p
 ·go_enter Tryz.func90,Tryz.ntmps90
  go_wp2_with fail;refine wp_region_quiet_below (by kernel_rfl) (by kernel_rfl) ?_;repeat (go_big_quiet_step ((go_at_call 101;exact Calls.regrown_of (CP.out _))))
  refine wpQuiet_nil (qnl ?_);intro w1 ew1;go_wp2;go_ret;exact ⟨ret_bool (by simp),eb.trans ew1⟩
 have hk0:0<r.kids.length:=by have:=HKK.out rfl;omega
 obtain ⟨bk,ok,rfl,hbk,hck⟩:=h1.at 0 hk0;have HG:Hid (r.kids.getD 0 0=r.kids[0]):=by show _=_;simp [List.getD_eq_getElem?_getD,List.getElem?_eq_getElem hk0]
 rw [HG.out];rw [Nat.add_zero] at hck;generalize r.kids[0]=kid at *;have CL:=lhd (fun w h=>sLimit_c A ds c kid w h);unfold vdesc at CL;generalize limD ds kid=lim at *;have hck':=fun w' (e:Ext _ w')=>hck w' (eb.trans e)
 clear hck h1 h HG HKK;have hbe:=Ext_drew (Ext.refl ((w.alloc (.cells #[.slice A ds.length c] 26)).alloc (.cells #[.string r.nm,.int .i64 r.kind,.int .i64 r.size,.bool r.little,.slice Ab r.bytes.length cb,.slice An r.names.length cn,.slice At r.tags.length ct,.slice (some ⟨bk,ok,none⟩) r.kids.length ck] 67)));go_enter Tryz.func90,Tryz.ntmps90;go_wp2_with fail;refine wp_region_quiet_below (by kernel_rfl) (by kernel_rfl) ?_;repeat (go_big_quiet_step ((first | (go_at_call 101;exact Calls.regrown_of (CP.out _)) | (go_at_call 72;exact Calls.regrown_of (CL.out _ (hd.ext (eb.trans (by first | assumption | exact Ext_self _ | exact Ext_drew (Ext_self _) | exact Ext_regrown _ _ (Ext_self _)))))))))
 refine wpQuiet_nil (qnl ?_);intro w1 ew1;go_wp2;go_ret;exact ⟨ret_bool (by simp),eb.trans ew1⟩
theorem seq_eq {ds:List DRule} {r:DRule} (hk:r.kind=6):kindOk ds r=(plainB r false false true false (r.names.length:Int)&&namesB r.names):=by
 have h1:kindOk ds r=seqOk r:=by simp [kindOk,hk]
 rw [h1];unfold seqOk namesB plainB;simp only [Bool.false_or,Bool.true_or,Bool.and_true]
 by_cases hl:r.kids.length=r.names.length
 ·simp [hl,Bool.and_assoc]
 ·have e1:decide ((r.kids.length:Int)=(r.names.length:Int))=false:=by simp;omega
  have e2:decide ((r.names.length:Int)<0)=false:=by simp
  have e3:(r.kids.length==r.names.length)=false:=by simpa using hl
  rw [e1,e2,e3];simp
theorem sKind6_c (A:Option Addr) (ds:List DRule) (c:Nat) (r:DRule) (Ab:Option Addr) (cb:Nat) (An:Option Addr) (cn:Nat) (At:Option Addr) (ct:Nat) (Ak:Option Addr) (ck:Nat) (w:World) (hd:RdD w A ds c) (h:RdS w r Ab cb An cn At ct Ak ck) (hs:ShortR r) (hw:WfR r) (hk:r.kind=6) :
 Gives Tryz.prog 90 #[vdesc (.slice A ds.length c),vrule r (.slice Ab r.bytes.length cb) (.slice An r.names.length cn) (.slice At r.tags.length ct) (.slice Ak r.kids.length ck)] w (.bool ((!r.little||r.kind==1)&&kindOk ds r)):=by
 have eb:=Ext_alloc (.cells (rcs r Ab cb An cn At ct Ak ck) 67) (Ext_alloc (.cells #[.slice A ds.length c] 26) (Ext.refl w));have BX:=fun w' (e:Ext ((w.alloc (.cells #[.slice A ds.length c] 26)).alloc (.cells (rcs r Ab cb An cn At ct Ak ck) 67)) w')=>boxed2 e
 have B0:=fun w' e=>(BX w' e).1
 have B1:=fun w' e=>(BX w' e).2.1
 clear BX;have t1:=kfF hk 1;have t2:=kfF hk 2;have t3:=kfF hk 3;have t4:=kfF hk 4;have t5:=kfF hk 5;have t6:=kfT hk 6;have t7:=kfF hk 7;have t8:=kfF hk 8;have t9:=kfF hk 9;have t10:=kfF hk 10;have HV:Hid (((!r.little||r.kind==1)&&kindOk ds r)=((plainB r false false true false (r.names.length:Int)&&(!r.little||r.kind==1))&&namesB r.names)):=by show _=_;rw [seq_eq hk];cases (!r.little||r.kind==1)<;>simp
 rw [HV.out];have CP:=lhd (fun w=>sShape0010_c r Ab cb An cn At ct Ak ck (r.names.length:Int) w h.lens);generalize (plainB r false false true false (r.names.length:Int)&&(!r.little||r.kind==1))=p at *;clear HV hk;have CN:=lhd (fun w h=>sNames_c An r.names cn w h hw.names);generalize namesB r.names=q at *;have hln:=h.n.len;unfold vrule vdesc at *;cases p
 ·go_enter Tryz.func90,Tryz.ntmps90
  go_wp2_with fail;refine (CP.out _).mono ?_;rintro _ w1 ⟨rfl,he1⟩;go_wp2;go_ret;exact ⟨ret_bool (by simp),eb.trans he1⟩
 go_enter Tryz.func90,Tryz.ntmps90;go_wp2_with fail;refine (CP.out _).mono ?_;rintro _ w1 ⟨rfl,he1⟩;go_wp2_with fail;refine (CN.out _ (h.n.ext (eb.trans he1))).mono ?_;rintro _ w2 ⟨rfl,he2⟩;go_wp2;go_ret;exact ⟨ret_bool (by simp),eb.trans (he1.trans he2)⟩
theorem cho_eq {ds:List DRule} {r:DRule} (hk:r.kind=7):kindOk ds r=(plainB r false false false true (-1)&&tagsB ds r):=by
 have h1:kindOk ds r=choOk ds r:=by simp [kindOk,hk]
 rw [h1];unfold choOk tagsB plainB;simp only [Bool.false_or,Bool.true_or,Bool.and_true];have e2:decide ((r.tags.length:Int)+1<0)=false:=by simp;omega
 by_cases hl:r.kids.length=r.tags.length+1
 ·have e1:decide ((r.kids.length:Int)=(r.tags.length:Int)+1)=true:=by simp;omega
  have e3:(r.kids.length==r.tags.length+1)=true:=by simpa using hl
  rw [e1,e2,e3];simp [Bool.and_assoc]
 ·have e1:decide ((r.kids.length:Int)=(r.tags.length:Int)+1)=false:=by simp;omega
  have e3:(r.kids.length==r.tags.length+1)=false:=by simpa using hl
  rw [e1,e2,e3];simp
theorem sKind7_c (A:Option Addr) (ds:List DRule) (c:Nat) (r:DRule) (Ab:Option Addr) (cb:Nat) (An:Option Addr) (cn:Nat) (At:Option Addr) (ct:Nat) (Ak:Option Addr) (ck:Nat) (w:World) (hd:RdD w A ds c) (h:RdS w r Ab cb An cn At ct Ak ck) (hs:ShortR r) (hw:WfR r) (hk:r.kind=7) :
 Gives Tryz.prog 90 #[vdesc (.slice A ds.length c),vrule r (.slice Ab r.bytes.length cb) (.slice An r.names.length cn) (.slice At r.tags.length ct) (.slice Ak r.kids.length ck)] w (.bool ((!r.little||r.kind==1)&&kindOk ds r)):=by
 have eb:=Ext_alloc (.cells (rcs r Ab cb An cn At ct Ak ck) 67) (Ext_alloc (.cells #[.slice A ds.length c] 26) (Ext.refl w));have BX:=fun w' (e:Ext ((w.alloc (.cells #[.slice A ds.length c] 26)).alloc (.cells (rcs r Ab cb An cn At ct Ak ck) 67)) w')=>boxed2 e
 have B0:=fun w' e=>(BX w' e).1
 have B1:=fun w' e=>(BX w' e).2.1
 clear BX;have t1:=kfF hk 1;have t2:=kfF hk 2;have t3:=kfF hk 3;have t4:=kfF hk 4;have t5:=kfF hk 5;have t6:=kfF hk 6;have t7:=kfT hk 7;have t8:=kfF hk 8;have t9:=kfF hk 9;have t10:=kfF hk 10;have HV:Hid (((!r.little||r.kind==1)&&kindOk ds r)=((plainB r false false false true (-1)&&(!r.little||r.kind==1))&&tagsB ds r)):=by show _=_;rw [cho_eq hk];cases (!r.little||r.kind==1)<;>simp
 rw [HV.out];have CP:=lhd (fun w=>sShape0001_c r Ab cb An cn At ct Ak ck (-1) w h.lens);generalize (plainB r false false false true (-1)&&(!r.little||r.kind==1))=p at *;clear HV hk;have CN:=lhd (fun w hd h=>sTags_c A ds c r Ab cb An cn At ct Ak ck w hd h hs);generalize tagsB ds r=q at *;have hln:=h.n.len;unfold vrule vdesc at *;cases p
 ·go_enter Tryz.func90,Tryz.ntmps90
  go_wp2_with fail;refine (CP.out _).mono ?_;rintro _ w1 ⟨rfl,he1⟩;go_wp2;go_ret;exact ⟨ret_bool (by simp),eb.trans he1⟩
 go_enter Tryz.func90,Tryz.ntmps90;go_wp2_with fail;refine (CP.out _).mono ?_;rintro _ w1 ⟨rfl,he1⟩;go_wp2_with fail;refine (CN.out _ (hd.ext (eb.trans he1)) (h.ext (eb.trans he1))).mono ?_;rintro _ w2 ⟨rfl,he2⟩;go_wp2;go_ret;exact ⟨ret_bool (by simp),eb.trans (he1.trans he2)⟩
theorem sKind8_c (A:Option Addr) (ds:List DRule) (c:Nat) (r:DRule) (Ab:Option Addr) (cb:Nat) (An:Option Addr) (cn:Nat) (At:Option Addr) (ct:Nat) (Ak:Option Addr) (ck:Nat) (w:World) (hd:RdD w A ds c) (h:RdS w r Ab cb An cn At ct Ak ck) (hs:ShortR r) (hw:WfR r) (hk:r.kind=8) :
 Gives Tryz.prog 90 #[vdesc (.slice A ds.length c),vrule r (.slice Ab r.bytes.length cb) (.slice An r.names.length cn) (.slice At r.tags.length ct) (.slice Ak r.kids.length ck)] w (.bool ((!r.little||r.kind==1)&&kindOk ds r)):=by
 have eb:=Ext_alloc (.cells (rcs r Ab cb An cn At ct Ak ck) 67) (Ext_alloc (.cells #[.slice A ds.length c] 26) (Ext.refl w));have BX:=fun w' (e:Ext ((w.alloc (.cells #[.slice A ds.length c] 26)).alloc (.cells (rcs r Ab cb An cn At ct Ak ck) 67)) w')=>boxed2 e
 have B0:=fun w' e=>(BX w' e).1
 have B1:=fun w' e=>(BX w' e).2.1
 clear BX;have t1:=kfF hk 1;have t2:=kfF hk 2;have t3:=kfF hk 3;have t4:=kfF hk 4;have t5:=kfF hk 5;have t6:=kfF hk 6;have t7:=kfF hk 7;have t8:=kfT hk 8;have t9:=kfF hk 9;have t10:=kfF hk 10;have HV:Hid (((!r.little||r.kind==1)&&kindOk ds r)=(plainB r false false false false 1&&(!r.little||r.kind==1))):=by show _=_;simp [kindOk,hk];rw [Bool.and_comm]
 rw [HV.out];have CP:=lhd (fun w=>sShape0000_c r Ab cb An cn At ct Ak ck 1 w h.lens);generalize (plainB r false false false false 1&&(!r.little||r.kind==1))=p at *;clear HV hk;unfold vrule vdesc at *;go_enter Tryz.func90,Tryz.ntmps90;go_wp2_with fail;refine (CP.out _).mono ?_;rintro _ w1 ⟨rfl,he1⟩;go_wp2;go_ret;exact ⟨rfl,eb.trans he1⟩
theorem sKind9_c (A:Option Addr) (ds:List DRule) (c:Nat) (r:DRule) (Ab:Option Addr) (cb:Nat) (An:Option Addr) (cn:Nat) (At:Option Addr) (ct:Nat) (Ak:Option Addr) (ck:Nat) (w:World) (hd:RdD w A ds c) (h:RdS w r Ab cb An cn At ct Ak ck) (hs:ShortR r) (hw:WfR r) (hk:r.kind=9) :
 Gives Tryz.prog 90 #[vdesc (.slice A ds.length c),vrule r (.slice Ab r.bytes.length cb) (.slice An r.names.length cn) (.slice At r.tags.length ct) (.slice Ak r.kids.length ck)] w (.bool ((!r.little||r.kind==1)&&kindOk ds r)):=by
 have eb:=Ext_alloc (.cells (rcs r Ab cb An cn At ct Ak ck) 67) (Ext_alloc (.cells #[.slice A ds.length c] 26) (Ext.refl w));have BX:=fun w' (e:Ext ((w.alloc (.cells #[.slice A ds.length c] 26)).alloc (.cells (rcs r Ab cb An cn At ct Ak ck) 67)) w')=>boxed2 e
 have B0:=fun w' e=>(BX w' e).1
 have B1:=fun w' e=>(BX w' e).2.1
 clear BX;have t1:=kfF hk 1;have t2:=kfF hk 2;have t3:=kfF hk 3;have t4:=kfF hk 4;have t5:=kfF hk 5;have t6:=kfF hk 6;have t7:=kfF hk 7;have t8:=kfF hk 8;have t9:=kfT hk 9;have t10:=kfF hk 10;have HV:Hid (((!r.little||r.kind==1)&&kindOk ds r)=(plainB r false false false false 1&&(!r.little||r.kind==1))):=by show _=_;simp [kindOk,hk];rw [Bool.and_comm]
 rw [HV.out];have CP:=lhd (fun w=>sShape0000_c r Ab cb An cn At ct Ak ck 1 w h.lens);generalize (plainB r false false false false 1&&(!r.little||r.kind==1))=p at *;clear HV hk;unfold vrule vdesc at *;go_enter Tryz.func90,Tryz.ntmps90;go_wp2_with fail;refine (CP.out _).mono ?_;rintro _ w1 ⟨rfl,he1⟩;go_wp2;go_ret;exact ⟨rfl,eb.trans he1⟩
theorem sKind10_c (A:Option Addr) (ds:List DRule) (c:Nat) (r:DRule) (Ab:Option Addr) (cb:Nat) (An:Option Addr) (cn:Nat) (At:Option Addr) (ct:Nat) (Ak:Option Addr) (ck:Nat) (w:World) (hd:RdD w A ds c) (h:RdS w r Ab cb An cn At ct Ak ck) (hs:ShortR r) (hw:WfR r) (hk:r.kind=10) :
 Gives Tryz.prog 90 #[vdesc (.slice A ds.length c),vrule r (.slice Ab r.bytes.length cb) (.slice An r.names.length cn) (.slice At r.tags.length ct) (.slice Ak r.kids.length ck)] w (.bool ((!r.little||r.kind==1)&&kindOk ds r)):=by
 have eb:=Ext_alloc (.cells #[.string r.nm,.int .i64 r.kind,.int .i64 r.size,.bool r.little,.slice Ab r.bytes.length cb,.slice An r.names.length cn,.slice At r.tags.length ct,.slice Ak r.kids.length ck] 67) (Ext_alloc (.cells #[.slice A ds.length c] 26) (Ext.refl w));have BX:=fun w' (e:Ext ((w.alloc (.cells #[.slice A ds.length c] 26)).alloc (.cells #[.string r.nm,.int .i64 r.kind,.int .i64 r.size,.bool r.little,.slice Ab r.bytes.length cb,.slice An r.names.length cn,.slice At r.tags.length ct,.slice Ak r.kids.length ck] 67)) w')=>boxed2 e
 have B0:=fun w' e=>(BX w' e).1
 have B1:=fun w' e=>(BX w' e).2.1
 clear BX;have t1:=kfF hk 1;have t2:=kfF hk 2;have t3:=kfF hk 3;have t4:=kfF hk 4;have t5:=kfF hk 5;have t6:=kfF hk 6;have t7:=kfF hk 7;have t8:=kfF hk 8;have t9:=kfF hk 9;have t10:=kfT hk 10
 have HV:Hid (((!r.little||r.kind==1)&&kindOk ds r)=((plainB r false true false false 0&&(!r.little||r.kind==1))&&(r.bytes.length==1&&!(r.bytes.getD 0 0==92)))):=by
  have:kindOk ds r=(plainB r false true false false 0&&(r.bytes.length==1&&!(r.bytes.getD 0 0==92))):=by simp [kindOk,hk,Bool.and_assoc]
  show _=_;rw [this];cases (!r.little||r.kind==1)<;>simp
 rw [HV.out];have CP:=lhd (fun w=>sShape0100_c r Ab cb An cn At ct Ak ck 0 w h.lens);generalize (plainB r false true false false 0&&(!r.little||r.kind==1))=p at *;clear HV hk;have h1:=h.b;have hlb:=h1.len;unfold vrule vdesc at *;cases p
 ·go_enter Tryz.func90,Tryz.ntmps90
  go_wp2_with fail;refine (CP.out _).mono ?_;rintro _ w1 ⟨rfl,he1⟩;go_wp2;go_ret;exact ⟨ret_bool (by simp),eb.trans he1⟩
 by_cases hl:r.bytes.length=1
 ·have hk0:0<r.bytes.length:=by omega
  obtain ⟨bb,ob,rfl,hbb,hcb⟩:=h1.at 0 hk0;have HG:Hid (r.bytes.getD 0 0=r.bytes[0]):=by show _=_;simp [List.getD_eq_getElem?_getD,List.getElem?_eq_getElem hk0]
  rw [HG.out];rw [Nat.add_zero] at hcb;generalize r.bytes[0]=x at *;have hck':=fun w' (e:Ext _ w')=>hcb w' (eb.trans e)
  have l1:((r.bytes.length:Int)==1)=true:=by simp [hl]
  have HL:Hid ((r.bytes.length==1)=true):=by show _=_;simp [hl]
  rw [HL.out]
  have HX:Hid ((!(x==92))=((x.toNat:Int) !=92)):=by
   show _=_
   rw [bne];congr 1;rw [Bool.eq_iff_iff];simp only [beq_iff_eq]
   constructor
   ·rintro rfl;rfl
   ·intro hx;exact u8_inj (by simpa using hx)
  rw [HX.out];clear hcb h1 h HG hl HL HX;go_enter Tryz.func90,Tryz.ntmps90;go_wp2_with fail;refine (CP.out _).mono ?_;rintro _ w1 ⟨rfl,he1⟩;go_wp2;go_ret;exact ⟨ret_bool (by simp),eb.trans he1⟩
 ·have l1:((r.bytes.length:Int)==1)=false:=by simp;omega
  have HL:Hid ((r.bytes.length==1)=false):=by show _=_;simpa using hl
  rw [HL.out];clear hl HL;go_enter Tryz.func90,Tryz.ntmps90;go_wp2_with fail;refine (CP.out _).mono ?_;rintro _ w1 ⟨rfl,he1⟩;go_wp2;go_ret;exact ⟨ret_bool (by simp),eb.trans he1⟩
theorem sKindX_c (A:Option Addr) (ds:List DRule) (c:Nat) (r:DRule) (Ab:Option Addr) (cb:Nat) (An:Option Addr) (cn:Nat) (At:Option Addr) (ct:Nat) (Ak:Option Addr) (ck:Nat) (w:World) (hd:RdD w A ds c) (h:RdS w r Ab cb An cn At ct Ak ck) (hs:ShortR r) (hw:WfR r) (hk:r.kind<1∨10<r.kind) :
 Gives Tryz.prog 90 #[vdesc (.slice A ds.length c),vrule r (.slice Ab r.bytes.length cb) (.slice An r.names.length cn) (.slice At r.tags.length ct) (.slice Ak r.kids.length ck)] w (.bool ((!r.little||r.kind==1)&&kindOk ds r)):=by
 have eb:=Ext_alloc (.cells (rcs r Ab cb An cn At ct Ak ck) 67) (Ext_alloc (.cells #[.slice A ds.length c] 26) (Ext.refl w));have BX:=fun w' (e:Ext ((w.alloc (.cells #[.slice A ds.length c] 26)).alloc (.cells (rcs r Ab cb An cn At ct Ak ck) 67)) w')=>boxed2 e
 have B0:=fun w' e=>(BX w' e).1
 have B1:=fun w' e=>(BX w' e).2.1
 clear BX;have t1:(r.kind==1)=false:=by simp;omega
 have t2:(r.kind==2)=false:=by simp;omega
 have t3:(r.kind==3)=false:=by simp;omega
 have t4:(r.kind==4)=false:=by simp;omega
 have t5:(r.kind==5)=false:=by simp;omega
 have t6:(r.kind==6)=false:=by simp;omega
 have t7:(r.kind==7)=false:=by simp;omega
 have t8:(r.kind==8)=false:=by simp;omega
 have t9:(r.kind==9)=false:=by simp;omega
 have t10:(r.kind==10)=false:=by simp;omega
 have HV:Hid (((!r.little||r.kind==1)&&kindOk ds r)=false):=by
  show _=_;unfold kindOk
  rw [if_neg (by omega),if_neg (by omega),if_neg (by omega),if_neg (by omega),if_neg (by omega),if_neg (by omega),if_neg (by omega),if_neg (by omega),if_neg (by omega),if_neg (by omega)];simp
 rw [HV.out];clear HV hk;unfold vrule vdesc at *;go_enter Tryz.func90,Tryz.ntmps90;go_wp2;go_ret;exact ⟨rfl,eb⟩
end Go.Proofs.YtlfhealneccdkaaGreatDoor
