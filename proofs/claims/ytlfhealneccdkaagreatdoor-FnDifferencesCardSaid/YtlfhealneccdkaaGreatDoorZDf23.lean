/- Texts, laid into one. -/
import Derived.Test.YtlfhealneccdkaaGreatDoorZDf20
set_option linter.unusedVariables false
set_option linter.unusedSimpArgs false
set_option maxRecDepth 100000
set_option maxHeartbeats 16000000
namespace Go.Proofs.YtlfhealneccdkaaGreatDoor
open Go.RowKit Go.Sort
theorem beq0 (b:Nat):((b:Int)==0)=(b==0):=by
 by_cases h:b=0
 ·subst h;rfl
 ·rw [beq_eq_false_iff_ne.2 h,beq_eq_false_iff_ne];omega
theorem beq1 (b:Nat):((b:Int)==1)=(b==1):=by
 by_cases h:b=1
 ·simp [h]
 ·rw [beq_eq_false_iff_ne.2 h,beq_eq_false_iff_ne];omega
theorem beqN (b c:Nat):((b:Int)==(c:Int))=(b==c):=by
 by_cases h:b=c
 ·simp [h]
 ·rw [beq_eq_false_iff_ne.2 h,beq_eq_false_iff_ne];omega
theorem minI (a b:Int):(if a<b then a else b)=min b a:=by split<;>omega
theorem dec_le (b c:Nat):decide ((b:Int)≤(c:Int))=decide (b≤c):=by by_cases h:b≤c<;>simp [h]
theorem own_1 (ds:List DRule) (r:DRule) (v:DVal) (hk:r.kind=1):ownV ds r v.num v.bytes.length v.items.length=((decide ((0:Int)≤v.num)&&decide (v.num≤limR r))&&((v.bytes.length:Int)==0)&&((v.items.length:Int)==0)):=by
 unfold ownV;rw [if_pos hk];rw [beq0,beq0]
theorem own_2 (ds:List DRule) (r:DRule) (v:DVal) (hk:r.kind=2):ownV ds r v.num v.bytes.length v.items.length=((v.num==0)&&((v.bytes.length:Int)==0)&&((v.items.length:Int)==0)):=by
 unfold ownV;rw [if_neg (show ¬ r.kind=1 by omega),if_pos hk];rw [beq0,beq0]
theorem own_3 (ds:List DRule) (r:DRule) (v:DVal) (hk:r.kind=3):ownV ds r v.num v.bytes.length v.items.length=((v.num==0)&&((v.bytes.length:Int)==r.size)&&((v.items.length:Int)==0)):=by
 unfold ownV;rw [if_neg (show ¬ r.kind=1 by omega),if_neg (show ¬ r.kind=2 by omega),if_pos hk];rw [beq0];congr 2
theorem own_4 (ds:List DRule) (r:DRule) (v:DVal) (hk:r.kind=4):ownV ds r v.num v.bytes.length v.items.length=((v.num==0)&&decide ((v.bytes.length:Int)≤(if limD ds (r.kids.getD 0 0)<400 then limD ds (r.kids.getD 0 0) else 400))&&((v.items.length:Int)==0)):=by
 unfold ownV;rw [if_neg (show ¬ r.kind=1 by omega),if_neg (show ¬ r.kind=2 by omega),if_neg (show ¬ r.kind=3 by omega),if_pos hk];rw [minI,beq0]
theorem own_10 (ds:List DRule) (r:DRule) (v:DVal) (hk:r.kind=10):ownV ds r v.num v.bytes.length v.items.length=((v.num==0)&&decide ((v.bytes.length:Int)≤400)&&((v.items.length:Int)==0)):=by
 unfold ownV;rw [if_neg (show ¬ r.kind=1 by omega),if_neg (show ¬ r.kind=2 by omega),if_neg (show ¬ r.kind=3 by omega),if_neg (show ¬ r.kind=4 by omega),if_neg (show ¬ r.kind=5 by omega),if_neg (show ¬ r.kind=6 by omega),if_neg (show ¬ r.kind=7 by omega),if_neg (show ¬ r.kind=8 by omega),if_neg (show ¬ r.kind=9 by omega)];rw [beq0];congr 2;exact (dec_le _ 400).symm
theorem own_5 (ds:List DRule) (r:DRule) (v:DVal) (hk:r.kind=5):ownV ds r v.num v.bytes.length v.items.length=((v.num==0)&&((v.bytes.length:Int)==0)&&decide ((v.items.length:Int)≤(if limD ds (r.kids.getD 0 0)<40 then limD ds (r.kids.getD 0 0) else 40))):=by
 unfold ownV;rw [if_neg (show ¬ r.kind=1 by omega),if_neg (show ¬ r.kind=2 by omega),if_neg (show ¬ r.kind=3 by omega),if_neg (show ¬ r.kind=4 by omega),if_pos hk];rw [minI,beq0]
theorem own_6 (ds:List DRule) (r:DRule) (v:DVal) (hk:r.kind=6):ownV ds r v.num v.bytes.length v.items.length=((v.num==0)&&((v.bytes.length:Int)==0)&&((v.items.length:Int)==(r.kids.length:Int))):=by
 unfold ownV;rw [if_neg (show ¬ r.kind=1 by omega),if_neg (show ¬ r.kind=2 by omega),if_neg (show ¬ r.kind=3 by omega),if_neg (show ¬ r.kind=4 by omega),if_neg (show ¬ r.kind=5 by omega),if_pos hk];rw [beq0,beqN]
theorem own_7 (ds:List DRule) (r:DRule) (v:DVal) (hk:r.kind=7):ownV ds r v.num v.bytes.length v.items.length=(((v.bytes.length:Int)==0)&&((v.items.length:Int)==1)&&decide (tagN r.tags v.num<r.tags.length)):=by
 unfold ownV;rw [if_neg (show ¬ r.kind=1 by omega),if_neg (show ¬ r.kind=2 by omega),if_neg (show ¬ r.kind=3 by omega),if_neg (show ¬ r.kind=4 by omega),if_neg (show ¬ r.kind=5 by omega),if_neg (show ¬ r.kind=6 by omega),if_pos hk];rw [beq0,beq1];cases decide (tagN r.tags v.num<r.tags.length)<;>cases (v.bytes.length==0)<;>cases (v.items.length==1)<;>rfl
theorem own_8 (ds:List DRule) (r:DRule) (v:DVal) (hk:r.kind=8):ownV ds r v.num v.bytes.length v.items.length=((v.num==0)&&((v.bytes.length:Int)==0)&&decide ((v.items.length:Int)≤1)):=by
 unfold ownV;rw [if_neg (show ¬ r.kind=1 by omega),if_neg (show ¬ r.kind=2 by omega),if_neg (show ¬ r.kind=3 by omega),if_neg (show ¬ r.kind=4 by omega),if_neg (show ¬ r.kind=5 by omega),if_neg (show ¬ r.kind=6 by omega),if_neg (show ¬ r.kind=7 by omega),if_pos hk];rw [beq0];congr 1;exact (dec_le _ 1).symm
theorem own_9 (ds:List DRule) (r:DRule) (v:DVal) (hk:r.kind=9):ownV ds r v.num v.bytes.length v.items.length=((v.num==0)&&((v.bytes.length:Int)==0)&&((v.items.length:Int)==1)):=by
 unfold ownV;rw [if_neg (show ¬ r.kind=1 by omega),if_neg (show ¬ r.kind=2 by omega),if_neg (show ¬ r.kind=3 by omega),if_neg (show ¬ r.kind=4 by omega),if_neg (show ¬ r.kind=5 by omega),if_neg (show ¬ r.kind=6 by omega),if_neg (show ¬ r.kind=7 by omega),if_neg (show ¬ r.kind=8 by omega),if_pos hk];rw [beq0,beq1]
theorem sOwn_1 (A:Option Addr) (ds:List DRule) (c:Nat) (r:DRule) (Ab:Option Addr) (cb:Nat) (An:Option Addr) (cn:Nat) (At:Option Addr) (ct:Nat) (Ak:Option Addr) (ck:Nat) (v:DVal) (Vb:Option Addr) (vb:Nat) (Vi:Option Addr) (vi:Nat) (w:World) (hd:RdD w A ds c) (h:RdS w r Ab cb An cn At ct Ak ck) (hb:v.bytes.length≤9223372036854775807) (hi:v.items.length≤9223372036854775807) (hk:r.kind=1) (hsz:1≤r.size∧r.size≤4) :
 Gives Tryz.prog 46 #[vdesc (.slice A ds.length c),vrule r (.slice Ab r.bytes.length cb) (.slice An r.names.length cn) (.slice At r.tags.length ct) (.slice Ak r.kids.length ck),vval v (.slice Vb v.bytes.length vb) (.slice Vi v.items.length vi)] w (.bool (ownV ds r v.num v.bytes.length v.items.length)):=by
 have HE:=lhd (own_1 ds r v hk);rw [HE.out];clear HE;have hlt:=h.t.len;have hlk:=h.k.len;have eb:=Ext_alloc (.cells #[.int .i64 v.num,.slice Vb v.bytes.length vb,.slice Vi v.items.length vi] 29) (Ext_alloc (.cells (rcs r Ab cb An cn At ct Ak ck) 67) (Ext_alloc (.cells #[.slice A ds.length c] 26) (Ext.refl w)));have BX:=fun w' (e:Ext (((w.alloc (.cells #[.slice A ds.length c] 26)).alloc (.cells (rcs r Ab cb An cn At ct Ak ck) 67)).alloc (.cells #[.int .i64 v.num,.slice Vb v.bytes.length vb,.slice Vi v.items.length vi] 29)) w')=>boxed3 e
 have B0:=fun w' e=>(BX w' e).1 0;have B1:=fun w' e=>(BX w' e).2.1;have B2:=fun w' e=>(BX w' e).2.2.1
 simp only [List.getElem?_toArray,List.getElem?_cons_zero] at B0;clear BX;have q1:(r.kind==1)=true:=by rw [hk];rfl
 have q2:(r.kind==2)=false:=by rw [hk];rfl
 have q3:(r.kind==3)=false:=by rw [hk];rfl
 have q4:(r.kind==4)=false:=by rw [hk];rfl
 have q10:(r.kind==10)=false:=by rw [hk];rfl
 have q5:(r.kind==5)=false:=by rw [hk];rfl
 have q6:(r.kind==6)=false:=by rw [hk];rfl
 have q7:(r.kind==7)=false:=by rw [hk];rfl
 have q8:(r.kind==8)=false:=by rw [hk];rfl
 have q9:(r.kind==9)=false:=by rw [hk];rfl
 obtain ⟨s,hs⟩:=Int.eq_ofNat_of_zero_le (show 0≤r.size by omega);have hlim:limR r=256^s-1:=limR_yes hk s (by omega) (by omega) hs
 have CP:Hid (∀ w,Gives Tryz.prog 61 #[.int .i64 r.size] w (.int .i64 (256^s))):=fun w=>by rw [hs];exact l2PowerN_c s w (by omega) (by omega)
 have CI:=lhd (fun w=>l1In_c v.num 0 ((256^s:Int)-1) w);rw [← hlim] at CI;have hlim2:(256^s:Int)-1=limR r:=hlim.symm
 have hpw:(256^s:Int)=256∨(256^s:Int)=65536∨(256^s:Int)=16777216∨(256^s:Int)=4294967296:=by rcases (by omega:s=1∨s=2∨s=3∨s=4) with rfl | rfl | rfl | rfl<;>simp
 have hwr:IntKind.i64.wrap ((256^s:Int)-1)=limR r:=by rw [← hlim2];rcases hpw with e | e | e | e<;>rw [e]<;>rfl
 have hwr2:wrap64 ((256^s:Int)-1)=limR r:=by rw [← hlim2];rcases hpw with e | e | e | e<;>rw [e]<;>first | (simp [wrap64];done) | (unfold wrap64;omega) | rfl
 generalize (256^s:Int)=pw at *;clear hlim hlim2 hpw hsz hs;clear h hk hd;unfold vdesc vrule vval;cases z0:(decide ((0:Int)≤v.num)&&decide (v.num≤limR r))
 ·rw [z0] at CI
  go_enter Tryz.func46,Tryz.ntmps46;go_wp2_with fail;refine wp_region_quiet_below (by kernel_rfl) (by kernel_rfl) ?_;repeat (go_big_quiet_step ((first | (go_at_call 61;exact Calls.regrown_of (CP.out _)) | (go_at_call 44;exact Calls.regrown_of (CI.out _)))))
  refine wpQuiet_nil (qnl ?_);intro w1 ew1;go_wp2;go_ret;exact ⟨ret_bool (by first | rfl | (simp;done) | (simp only [z0,Bool.false_and,Bool.and_false];rfl)),eb.trans ew1⟩
 ·rw [z0] at CI
  cases z1:((v.bytes.length:Int)==0)
  ·skip
   go_enter Tryz.func46,Tryz.ntmps46;go_wp2_with fail;refine wp_region_quiet_below (by kernel_rfl) (by kernel_rfl) ?_;repeat (go_big_quiet_step ((first | (go_at_call 61;exact Calls.regrown_of (CP.out _)) | (go_at_call 44;exact Calls.regrown_of (CI.out _)))))
   refine wpQuiet_nil (qnl ?_);intro w1 ew1;go_wp2;go_ret;exact ⟨ret_bool (by first | rfl | (simp;done) | (simp only [z0,z1,Bool.false_and,Bool.and_false];rfl)),eb.trans ew1⟩
  ·skip
   cases z2:((v.items.length:Int)==0)
   ·skip
    go_enter Tryz.func46,Tryz.ntmps46;go_wp2_with fail;refine wp_region_quiet_below (by kernel_rfl) (by kernel_rfl) ?_;repeat (go_big_quiet_step ((first | (go_at_call 61;exact Calls.regrown_of (CP.out _)) | (go_at_call 44;exact Calls.regrown_of (CI.out _)))))
    refine wpQuiet_nil (qnl ?_);intro w1 ew1;go_wp2;go_ret;exact ⟨ret_bool (by first | rfl | (simp;done) | (simp only [z0,z1,z2,Bool.false_and,Bool.and_false];rfl)),eb.trans ew1⟩
   ·skip
    go_enter Tryz.func46,Tryz.ntmps46;go_wp2_with fail;refine wp_region_quiet_below (by kernel_rfl) (by kernel_rfl) ?_;repeat (go_big_quiet_step ((first | (go_at_call 61;exact Calls.regrown_of (CP.out _)) | (go_at_call 44;exact Calls.regrown_of (CI.out _)))))
    refine wpQuiet_nil (qnl ?_);intro w1 ew1;go_wp2;go_ret;exact ⟨ret_bool (by first | rfl | (simp;done) | (simp only [z0,z1,z2];rfl)),eb.trans ew1⟩
theorem sOwn_2 (A:Option Addr) (ds:List DRule) (c:Nat) (r:DRule) (Ab:Option Addr) (cb:Nat) (An:Option Addr) (cn:Nat) (At:Option Addr) (ct:Nat) (Ak:Option Addr) (ck:Nat) (v:DVal) (Vb:Option Addr) (vb:Nat) (Vi:Option Addr) (vi:Nat) (w:World) (hd:RdD w A ds c) (h:RdS w r Ab cb An cn At ct Ak ck) (hb:v.bytes.length≤9223372036854775807) (hi:v.items.length≤9223372036854775807) (hk:r.kind=2) :
 Gives Tryz.prog 46 #[vdesc (.slice A ds.length c),vrule r (.slice Ab r.bytes.length cb) (.slice An r.names.length cn) (.slice At r.tags.length ct) (.slice Ak r.kids.length ck),vval v (.slice Vb v.bytes.length vb) (.slice Vi v.items.length vi)] w (.bool (ownV ds r v.num v.bytes.length v.items.length)):=by
 have HE:=lhd (own_2 ds r v hk);rw [HE.out];clear HE;have hlt:=h.t.len;have hlk:=h.k.len;have eb:=Ext_alloc (.cells #[.int .i64 v.num,.slice Vb v.bytes.length vb,.slice Vi v.items.length vi] 29) (Ext_alloc (.cells (rcs r Ab cb An cn At ct Ak ck) 67) (Ext_alloc (.cells #[.slice A ds.length c] 26) (Ext.refl w)));have BX:=fun w' (e:Ext (((w.alloc (.cells #[.slice A ds.length c] 26)).alloc (.cells (rcs r Ab cb An cn At ct Ak ck) 67)).alloc (.cells #[.int .i64 v.num,.slice Vb v.bytes.length vb,.slice Vi v.items.length vi] 29)) w')=>boxed3 e
 have B0:=fun w' e=>(BX w' e).1 0;have B1:=fun w' e=>(BX w' e).2.1;have B2:=fun w' e=>(BX w' e).2.2.1
 simp only [List.getElem?_toArray,List.getElem?_cons_zero] at B0;clear BX;have q1:(r.kind==1)=false:=by rw [hk];rfl
 have q2:(r.kind==2)=true:=by rw [hk];rfl
 have q3:(r.kind==3)=false:=by rw [hk];rfl
 have q4:(r.kind==4)=false:=by rw [hk];rfl
 have q10:(r.kind==10)=false:=by rw [hk];rfl
 have q5:(r.kind==5)=false:=by rw [hk];rfl
 have q6:(r.kind==6)=false:=by rw [hk];rfl
 have q7:(r.kind==7)=false:=by rw [hk];rfl
 have q8:(r.kind==8)=false:=by rw [hk];rfl
 have q9:(r.kind==9)=false:=by rw [hk];rfl
 clear h hk;unfold vdesc vrule vval;cases z0:(v.num==0)
 ·skip
  go_enter Tryz.func46,Tryz.ntmps46;go_wp2;go_ret;exact ⟨ret_bool (by first | rfl | (simp;done) | (simp only [z0,Bool.false_and,Bool.and_false];rfl)),eb⟩
 ·skip
  cases z1:((v.bytes.length:Int)==0)
  ·skip
   go_enter Tryz.func46,Tryz.ntmps46;go_wp2;go_ret;exact ⟨ret_bool (by first | rfl | (simp;done) | (simp only [z0,z1,Bool.false_and,Bool.and_false];rfl)),eb⟩
  ·skip
   cases z2:((v.items.length:Int)==0)
   ·skip
    go_enter Tryz.func46,Tryz.ntmps46;go_wp2;go_ret;exact ⟨ret_bool (by first | rfl | (simp;done) | (simp only [z0,z1,z2,Bool.false_and,Bool.and_false];rfl)),eb⟩
   ·skip
    go_enter Tryz.func46,Tryz.ntmps46;go_wp2;go_ret;exact ⟨ret_bool (by first | rfl | (simp;done) | (simp only [z0,z1,z2];rfl)),eb⟩
theorem sOwn_3 (A:Option Addr) (ds:List DRule) (c:Nat) (r:DRule) (Ab:Option Addr) (cb:Nat) (An:Option Addr) (cn:Nat) (At:Option Addr) (ct:Nat) (Ak:Option Addr) (ck:Nat) (v:DVal) (Vb:Option Addr) (vb:Nat) (Vi:Option Addr) (vi:Nat) (w:World) (hd:RdD w A ds c) (h:RdS w r Ab cb An cn At ct Ak ck) (hb:v.bytes.length≤9223372036854775807) (hi:v.items.length≤9223372036854775807) (hk:r.kind=3) :
 Gives Tryz.prog 46 #[vdesc (.slice A ds.length c),vrule r (.slice Ab r.bytes.length cb) (.slice An r.names.length cn) (.slice At r.tags.length ct) (.slice Ak r.kids.length ck),vval v (.slice Vb v.bytes.length vb) (.slice Vi v.items.length vi)] w (.bool (ownV ds r v.num v.bytes.length v.items.length)):=by
 have HE:=lhd (own_3 ds r v hk);rw [HE.out];clear HE;have hlt:=h.t.len;have hlk:=h.k.len;have eb:=Ext_alloc (.cells #[.int .i64 v.num,.slice Vb v.bytes.length vb,.slice Vi v.items.length vi] 29) (Ext_alloc (.cells (rcs r Ab cb An cn At ct Ak ck) 67) (Ext_alloc (.cells #[.slice A ds.length c] 26) (Ext.refl w)));have BX:=fun w' (e:Ext (((w.alloc (.cells #[.slice A ds.length c] 26)).alloc (.cells (rcs r Ab cb An cn At ct Ak ck) 67)).alloc (.cells #[.int .i64 v.num,.slice Vb v.bytes.length vb,.slice Vi v.items.length vi] 29)) w')=>boxed3 e
 have B0:=fun w' e=>(BX w' e).1 0;have B1:=fun w' e=>(BX w' e).2.1;have B2:=fun w' e=>(BX w' e).2.2.1
 simp only [List.getElem?_toArray,List.getElem?_cons_zero] at B0;clear BX;have q1:(r.kind==1)=false:=by rw [hk];rfl
 have q2:(r.kind==2)=false:=by rw [hk];rfl
 have q3:(r.kind==3)=true:=by rw [hk];rfl
 have q4:(r.kind==4)=false:=by rw [hk];rfl
 have q10:(r.kind==10)=false:=by rw [hk];rfl
 have q5:(r.kind==5)=false:=by rw [hk];rfl
 have q6:(r.kind==6)=false:=by rw [hk];rfl
 have q7:(r.kind==7)=false:=by rw [hk];rfl
 have q8:(r.kind==8)=false:=by rw [hk];rfl
 have q9:(r.kind==9)=false:=by rw [hk];rfl
 clear h hk;unfold vdesc vrule vval;cases z0:(v.num==0)
 ·skip
  go_enter Tryz.func46,Tryz.ntmps46;go_wp2;go_ret;exact ⟨ret_bool (by first | rfl | (simp;done) | (simp only [z0,Bool.false_and,Bool.and_false];rfl)),eb⟩
 ·skip
  cases z1:((v.bytes.length:Int)==r.size)
  ·skip
   go_enter Tryz.func46,Tryz.ntmps46;go_wp2;go_ret;exact ⟨ret_bool (by first | rfl | (simp;done) | (simp only [z0,z1,Bool.false_and,Bool.and_false];rfl)),eb⟩
  ·skip
   cases z2:((v.items.length:Int)==0)
   ·skip
    go_enter Tryz.func46,Tryz.ntmps46;go_wp2;go_ret;exact ⟨ret_bool (by first | rfl | (simp;done) | (simp only [z0,z1,z2,Bool.false_and,Bool.and_false];rfl)),eb⟩
   ·skip
    go_enter Tryz.func46,Tryz.ntmps46;go_wp2;go_ret;exact ⟨ret_bool (by first | rfl | (simp;done) | (simp only [z0,z1,z2];rfl)),eb⟩
theorem sOwn_4 (A:Option Addr) (ds:List DRule) (c:Nat) (r:DRule) (Ab:Option Addr) (cb:Nat) (An:Option Addr) (cn:Nat) (At:Option Addr) (ct:Nat) (Ak:Option Addr) (ck:Nat) (v:DVal) (Vb:Option Addr) (vb:Nat) (Vi:Option Addr) (vi:Nat) (w:World) (hd:RdD w A ds c) (h:RdS w r Ab cb An cn At ct Ak ck) (hb:v.bytes.length≤9223372036854775807) (hi:v.items.length≤9223372036854775807) (hk:r.kind=4) (hkl:0<r.kids.length) :
 Gives Tryz.prog 46 #[vdesc (.slice A ds.length c),vrule r (.slice Ab r.bytes.length cb) (.slice An r.names.length cn) (.slice At r.tags.length ct) (.slice Ak r.kids.length ck),vval v (.slice Vb v.bytes.length vb) (.slice Vi v.items.length vi)] w (.bool (ownV ds r v.num v.bytes.length v.items.length)):=by
 have HE:=lhd (own_4 ds r v hk);rw [HE.out];clear HE;obtain ⟨bk,ok,hAk,hbk,hck⟩:=h.k.at 0 hkl;subst hAk;have hlt:=h.t.len;have hlk:=h.k.len;have eb:=Ext_alloc (.cells #[.int .i64 v.num,.slice Vb v.bytes.length vb,.slice Vi v.items.length vi] 29) (Ext_alloc (.cells #[.string r.nm,.int .i64 r.kind,.int .i64 r.size,.bool r.little,.slice Ab r.bytes.length cb,.slice An r.names.length cn,.slice At r.tags.length ct,.slice (some ⟨bk,ok,none⟩) r.kids.length ck] 67) (Ext_alloc (.cells #[.slice A ds.length c] 26) (Ext.refl w)));have BX:=fun w' (e:Ext (((w.alloc (.cells #[.slice A ds.length c] 26)).alloc (.cells #[.string r.nm,.int .i64 r.kind,.int .i64 r.size,.bool r.little,.slice Ab r.bytes.length cb,.slice An r.names.length cn,.slice At r.tags.length ct,.slice (some ⟨bk,ok,none⟩) r.kids.length ck] 67)).alloc (.cells #[.int .i64 v.num,.slice Vb v.bytes.length vb,.slice Vi v.items.length vi] 29)) w')=>boxed3 e
 have B0:=fun w' e=>(BX w' e).1 0;have B1:=fun w' e=>(BX w' e).2.1;have B2:=fun w' e=>(BX w' e).2.2.1
 simp only [List.getElem?_toArray,List.getElem?_cons_zero] at B0;clear BX;have q1:(r.kind==1)=false:=by rw [hk];rfl
 have q2:(r.kind==2)=false:=by rw [hk];rfl
 have q3:(r.kind==3)=false:=by rw [hk];rfl
 have q4:(r.kind==4)=true:=by rw [hk];rfl
 have q10:(r.kind==10)=false:=by rw [hk];rfl
 have q5:(r.kind==5)=false:=by rw [hk];rfl
 have q6:(r.kind==6)=false:=by rw [hk];rfl
 have q7:(r.kind==7)=false:=by rw [hk];rfl
 have q8:(r.kind==8)=false:=by rw [hk];rfl
 have q9:(r.kind==9)=false:=by rw [hk];rfl
 simp only [Nat.add_zero] at hck;replace hck:=fun w' (e:Ext (((w.alloc (.cells #[.slice A ds.length c] 26)).alloc (.cells #[.string r.nm,.int .i64 r.kind,.int .i64 r.size,.bool r.little,.slice Ab r.bytes.length cb,.slice An r.names.length cn,.slice At r.tags.length ct,.slice (some ⟨bk,ok,none⟩) r.kids.length ck] 67)).alloc (.cells #[.int .i64 v.num,.slice Vb v.bytes.length vb,.slice Vi v.items.length vi] 29)) w')=>hck w' (eb.trans e)
 have hg0:r.kids.getD 0 0=r.kids[0]:=by simp [hkl]
 rw [hg0];generalize r.kids[0]=kz at *;have CL:=lhd (fun w h=>sLimit_c A ds c kz w h);have HD:=lhd hd;have hkl2:(0:Int)<(r.kids.length:Int):=by omega
 generalize limD ds kz=L at *;have CM:=lhd (fun w=>sMin_c 400 L w);generalize (if L<400 then L else 400)=M at *;clear h hk hd;unfold vdesc vrule vval at *;cases z0:(v.num==0)
 ·skip
  go_enter Tryz.func46,Tryz.ntmps46;go_wp2_with fail;refine wp_region_quiet_below (by kernel_rfl) (by kernel_rfl) ?_;repeat (go_big_quiet_step ((first | (go_at_call 72;exact Calls.regrown_of (CL.out _ (HD.out.ext (eb.trans (by first | assumption | exact Ext_regrown _ _ (Ext.refl _)))))) | (go_at_call 60;exact Calls.regrown_of (CM.out _)))))
  refine wpQuiet_nil (qnl ?_);intro w1 ew1;go_wp2;go_ret;exact ⟨ret_bool (by first | rfl | (simp;done) | (simp only [z0,Bool.false_and,Bool.and_false];rfl)),eb.trans ew1⟩
 ·skip
  cases z1:decide ((v.bytes.length:Int)≤M)
  ·skip
   go_enter Tryz.func46,Tryz.ntmps46;go_wp2_with fail;refine wp_region_quiet_below (by kernel_rfl) (by kernel_rfl) ?_;repeat (go_big_quiet_step ((first | (go_at_call 72;exact Calls.regrown_of (CL.out _ (HD.out.ext (eb.trans (by first | assumption | exact Ext_regrown _ _ (Ext.refl _)))))) | (go_at_call 60;exact Calls.regrown_of (CM.out _)))))
   refine wpQuiet_nil (qnl ?_);intro w1 ew1;go_wp2;go_ret;exact ⟨ret_bool (by first | rfl | (simp;done) | (simp only [z0,z1,Bool.false_and,Bool.and_false];rfl)),eb.trans ew1⟩
  ·skip
   cases z2:((v.items.length:Int)==0)
   ·skip
    go_enter Tryz.func46,Tryz.ntmps46;go_wp2_with fail;refine wp_region_quiet_below (by kernel_rfl) (by kernel_rfl) ?_;repeat (go_big_quiet_step ((first | (go_at_call 72;exact Calls.regrown_of (CL.out _ (HD.out.ext (eb.trans (by first | assumption | exact Ext_regrown _ _ (Ext.refl _)))))) | (go_at_call 60;exact Calls.regrown_of (CM.out _)))))
    refine wpQuiet_nil (qnl ?_);intro w1 ew1;go_wp2;go_ret;exact ⟨ret_bool (by first | rfl | (simp;done) | (simp only [z0,z1,z2,Bool.false_and,Bool.and_false];rfl)),eb.trans ew1⟩
   ·skip
    go_enter Tryz.func46,Tryz.ntmps46;go_wp2_with fail;refine wp_region_quiet_below (by kernel_rfl) (by kernel_rfl) ?_;repeat (go_big_quiet_step ((first | (go_at_call 72;exact Calls.regrown_of (CL.out _ (HD.out.ext (eb.trans (by first | assumption | exact Ext_regrown _ _ (Ext.refl _)))))) | (go_at_call 60;exact Calls.regrown_of (CM.out _)))))
    refine wpQuiet_nil (qnl ?_);intro w1 ew1;go_wp2;go_ret;exact ⟨ret_bool (by first | rfl | (simp;done) | (simp only [z0,z1,z2];rfl)),eb.trans ew1⟩
theorem sOwn_10 (A:Option Addr) (ds:List DRule) (c:Nat) (r:DRule) (Ab:Option Addr) (cb:Nat) (An:Option Addr) (cn:Nat) (At:Option Addr) (ct:Nat) (Ak:Option Addr) (ck:Nat) (v:DVal) (Vb:Option Addr) (vb:Nat) (Vi:Option Addr) (vi:Nat) (w:World) (hd:RdD w A ds c) (h:RdS w r Ab cb An cn At ct Ak ck) (hb:v.bytes.length≤9223372036854775807) (hi:v.items.length≤9223372036854775807) (hk:r.kind=10) :
 Gives Tryz.prog 46 #[vdesc (.slice A ds.length c),vrule r (.slice Ab r.bytes.length cb) (.slice An r.names.length cn) (.slice At r.tags.length ct) (.slice Ak r.kids.length ck),vval v (.slice Vb v.bytes.length vb) (.slice Vi v.items.length vi)] w (.bool (ownV ds r v.num v.bytes.length v.items.length)):=by
 have HE:=lhd (own_10 ds r v hk);rw [HE.out];clear HE;have hlt:=h.t.len;have hlk:=h.k.len;have eb:=Ext_alloc (.cells #[.int .i64 v.num,.slice Vb v.bytes.length vb,.slice Vi v.items.length vi] 29) (Ext_alloc (.cells (rcs r Ab cb An cn At ct Ak ck) 67) (Ext_alloc (.cells #[.slice A ds.length c] 26) (Ext.refl w)));have BX:=fun w' (e:Ext (((w.alloc (.cells #[.slice A ds.length c] 26)).alloc (.cells (rcs r Ab cb An cn At ct Ak ck) 67)).alloc (.cells #[.int .i64 v.num,.slice Vb v.bytes.length vb,.slice Vi v.items.length vi] 29)) w')=>boxed3 e
 have B0:=fun w' e=>(BX w' e).1 0;have B1:=fun w' e=>(BX w' e).2.1;have B2:=fun w' e=>(BX w' e).2.2.1
 simp only [List.getElem?_toArray,List.getElem?_cons_zero] at B0;clear BX;have q1:(r.kind==1)=false:=by rw [hk];rfl
 have q2:(r.kind==2)=false:=by rw [hk];rfl
 have q3:(r.kind==3)=false:=by rw [hk];rfl
 have q4:(r.kind==4)=false:=by rw [hk];rfl
 have q10:(r.kind==10)=true:=by rw [hk];rfl
 have q5:(r.kind==5)=false:=by rw [hk];rfl
 have q6:(r.kind==6)=false:=by rw [hk];rfl
 have q7:(r.kind==7)=false:=by rw [hk];rfl
 have q8:(r.kind==8)=false:=by rw [hk];rfl
 have q9:(r.kind==9)=false:=by rw [hk];rfl
 clear h hk;unfold vdesc vrule vval;cases z0:(v.num==0)
 ·skip
  go_enter Tryz.func46,Tryz.ntmps46;go_wp2;go_ret;exact ⟨ret_bool (by first | rfl | (simp;done) | (simp only [z0,Bool.false_and,Bool.and_false];rfl)),eb⟩
 ·skip
  cases z1:decide ((v.bytes.length:Int)≤400)
  ·have x1:decide (v.bytes.length≤400)=false:=by rw [← z1];first | exact (dec_le _ _).symm | exact (beqN _ _).symm
   go_enter Tryz.func46,Tryz.ntmps46;go_wp2;go_ret;exact ⟨ret_bool (by first | rfl | (simp;done) | (simp only [z0,z1,Bool.false_and,Bool.and_false];rfl)),eb⟩
  ·have x1:decide (v.bytes.length≤400)=true:=by rw [← z1];first | exact (dec_le _ _).symm | exact (beqN _ _).symm
   cases z2:((v.items.length:Int)==0)
   ·skip
    go_enter Tryz.func46,Tryz.ntmps46;go_wp2;go_ret;exact ⟨ret_bool (by first | rfl | (simp;done) | (simp only [z0,z1,z2,Bool.false_and,Bool.and_false];rfl)),eb⟩
   ·skip
    go_enter Tryz.func46,Tryz.ntmps46;go_wp2;go_ret;exact ⟨ret_bool (by first | rfl | (simp;done) | (simp only [z0,z1,z2];rfl)),eb⟩
theorem sOwn_5 (A:Option Addr) (ds:List DRule) (c:Nat) (r:DRule) (Ab:Option Addr) (cb:Nat) (An:Option Addr) (cn:Nat) (At:Option Addr) (ct:Nat) (Ak:Option Addr) (ck:Nat) (v:DVal) (Vb:Option Addr) (vb:Nat) (Vi:Option Addr) (vi:Nat) (w:World) (hd:RdD w A ds c) (h:RdS w r Ab cb An cn At ct Ak ck) (hb:v.bytes.length≤9223372036854775807) (hi:v.items.length≤9223372036854775807) (hk:r.kind=5) (hkl:0<r.kids.length) :
 Gives Tryz.prog 46 #[vdesc (.slice A ds.length c),vrule r (.slice Ab r.bytes.length cb) (.slice An r.names.length cn) (.slice At r.tags.length ct) (.slice Ak r.kids.length ck),vval v (.slice Vb v.bytes.length vb) (.slice Vi v.items.length vi)] w (.bool (ownV ds r v.num v.bytes.length v.items.length)):=by
 have HE:=lhd (own_5 ds r v hk);rw [HE.out];clear HE;obtain ⟨bk,ok,hAk,hbk,hck⟩:=h.k.at 0 hkl;subst hAk;have hlt:=h.t.len;have hlk:=h.k.len;have eb:=Ext_alloc (.cells #[.int .i64 v.num,.slice Vb v.bytes.length vb,.slice Vi v.items.length vi] 29) (Ext_alloc (.cells #[.string r.nm,.int .i64 r.kind,.int .i64 r.size,.bool r.little,.slice Ab r.bytes.length cb,.slice An r.names.length cn,.slice At r.tags.length ct,.slice (some ⟨bk,ok,none⟩) r.kids.length ck] 67) (Ext_alloc (.cells #[.slice A ds.length c] 26) (Ext.refl w)));have BX:=fun w' (e:Ext (((w.alloc (.cells #[.slice A ds.length c] 26)).alloc (.cells #[.string r.nm,.int .i64 r.kind,.int .i64 r.size,.bool r.little,.slice Ab r.bytes.length cb,.slice An r.names.length cn,.slice At r.tags.length ct,.slice (some ⟨bk,ok,none⟩) r.kids.length ck] 67)).alloc (.cells #[.int .i64 v.num,.slice Vb v.bytes.length vb,.slice Vi v.items.length vi] 29)) w')=>boxed3 e
 have B0:=fun w' e=>(BX w' e).1 0;have B1:=fun w' e=>(BX w' e).2.1;have B2:=fun w' e=>(BX w' e).2.2.1
 simp only [List.getElem?_toArray,List.getElem?_cons_zero] at B0;clear BX;have q1:(r.kind==1)=false:=by rw [hk];rfl
 have q2:(r.kind==2)=false:=by rw [hk];rfl
 have q3:(r.kind==3)=false:=by rw [hk];rfl
 have q4:(r.kind==4)=false:=by rw [hk];rfl
 have q10:(r.kind==10)=false:=by rw [hk];rfl
 have q5:(r.kind==5)=true:=by rw [hk];rfl
 have q6:(r.kind==6)=false:=by rw [hk];rfl
 have q7:(r.kind==7)=false:=by rw [hk];rfl
 have q8:(r.kind==8)=false:=by rw [hk];rfl
 have q9:(r.kind==9)=false:=by rw [hk];rfl
 simp only [Nat.add_zero] at hck;replace hck:=fun w' (e:Ext (((w.alloc (.cells #[.slice A ds.length c] 26)).alloc (.cells #[.string r.nm,.int .i64 r.kind,.int .i64 r.size,.bool r.little,.slice Ab r.bytes.length cb,.slice An r.names.length cn,.slice At r.tags.length ct,.slice (some ⟨bk,ok,none⟩) r.kids.length ck] 67)).alloc (.cells #[.int .i64 v.num,.slice Vb v.bytes.length vb,.slice Vi v.items.length vi] 29)) w')=>hck w' (eb.trans e)
 have hg0:r.kids.getD 0 0=r.kids[0]:=by simp [hkl]
 rw [hg0];generalize r.kids[0]=kz at *;have CL:=lhd (fun w h=>sLimit_c A ds c kz w h);have HD:=lhd hd;have hkl2:(0:Int)<(r.kids.length:Int):=by omega
 generalize limD ds kz=L at *;have CM:=lhd (fun w=>sMin_c 40 L w);generalize (if L<40 then L else 40)=M at *;clear h hk hd;unfold vdesc vrule vval at *;cases z0:(v.num==0)
 ·skip
  go_enter Tryz.func46,Tryz.ntmps46;go_wp2_with fail;refine wp_region_quiet_below (by kernel_rfl) (by kernel_rfl) ?_;repeat (go_big_quiet_step ((first | (go_at_call 72;exact Calls.regrown_of (CL.out _ (HD.out.ext (eb.trans (by first | assumption | exact Ext_regrown _ _ (Ext.refl _)))))) | (go_at_call 60;exact Calls.regrown_of (CM.out _)))))
  refine wpQuiet_nil (qnl ?_);intro w1 ew1;go_wp2;go_ret;exact ⟨ret_bool (by first | rfl | (simp;done) | (simp only [z0,Bool.false_and,Bool.and_false];rfl)),eb.trans ew1⟩
 ·skip
  cases z1:((v.bytes.length:Int)==0)
  ·skip
   go_enter Tryz.func46,Tryz.ntmps46;go_wp2_with fail;refine wp_region_quiet_below (by kernel_rfl) (by kernel_rfl) ?_;repeat (go_big_quiet_step ((first | (go_at_call 72;exact Calls.regrown_of (CL.out _ (HD.out.ext (eb.trans (by first | assumption | exact Ext_regrown _ _ (Ext.refl _)))))) | (go_at_call 60;exact Calls.regrown_of (CM.out _)))))
   refine wpQuiet_nil (qnl ?_);intro w1 ew1;go_wp2;go_ret;exact ⟨ret_bool (by first | rfl | (simp;done) | (simp only [z0,z1,Bool.false_and,Bool.and_false];rfl)),eb.trans ew1⟩
  ·skip
   cases z2:decide ((v.items.length:Int)≤M)
   ·skip
    go_enter Tryz.func46,Tryz.ntmps46;go_wp2_with fail;refine wp_region_quiet_below (by kernel_rfl) (by kernel_rfl) ?_;repeat (go_big_quiet_step ((first | (go_at_call 72;exact Calls.regrown_of (CL.out _ (HD.out.ext (eb.trans (by first | assumption | exact Ext_regrown _ _ (Ext.refl _)))))) | (go_at_call 60;exact Calls.regrown_of (CM.out _)))))
    refine wpQuiet_nil (qnl ?_);intro w1 ew1;go_wp2;go_ret;exact ⟨ret_bool (by first | rfl | (simp;done) | (simp only [z0,z1,z2,Bool.false_and,Bool.and_false];rfl)),eb.trans ew1⟩
   ·skip
    go_enter Tryz.func46,Tryz.ntmps46;go_wp2_with fail;refine wp_region_quiet_below (by kernel_rfl) (by kernel_rfl) ?_;repeat (go_big_quiet_step ((first | (go_at_call 72;exact Calls.regrown_of (CL.out _ (HD.out.ext (eb.trans (by first | assumption | exact Ext_regrown _ _ (Ext.refl _)))))) | (go_at_call 60;exact Calls.regrown_of (CM.out _)))))
    refine wpQuiet_nil (qnl ?_);intro w1 ew1;go_wp2;go_ret;exact ⟨ret_bool (by first | rfl | (simp;done) | (simp only [z0,z1,z2];rfl)),eb.trans ew1⟩
theorem sOwn_6 (A:Option Addr) (ds:List DRule) (c:Nat) (r:DRule) (Ab:Option Addr) (cb:Nat) (An:Option Addr) (cn:Nat) (At:Option Addr) (ct:Nat) (Ak:Option Addr) (ck:Nat) (v:DVal) (Vb:Option Addr) (vb:Nat) (Vi:Option Addr) (vi:Nat) (w:World) (hd:RdD w A ds c) (h:RdS w r Ab cb An cn At ct Ak ck) (hb:v.bytes.length≤9223372036854775807) (hi:v.items.length≤9223372036854775807) (hk:r.kind=6) :
 Gives Tryz.prog 46 #[vdesc (.slice A ds.length c),vrule r (.slice Ab r.bytes.length cb) (.slice An r.names.length cn) (.slice At r.tags.length ct) (.slice Ak r.kids.length ck),vval v (.slice Vb v.bytes.length vb) (.slice Vi v.items.length vi)] w (.bool (ownV ds r v.num v.bytes.length v.items.length)):=by
 have HE:=lhd (own_6 ds r v hk);rw [HE.out];clear HE;have hlt:=h.t.len;have hlk:=h.k.len;have eb:=Ext_alloc (.cells #[.int .i64 v.num,.slice Vb v.bytes.length vb,.slice Vi v.items.length vi] 29) (Ext_alloc (.cells (rcs r Ab cb An cn At ct Ak ck) 67) (Ext_alloc (.cells #[.slice A ds.length c] 26) (Ext.refl w)));have BX:=fun w' (e:Ext (((w.alloc (.cells #[.slice A ds.length c] 26)).alloc (.cells (rcs r Ab cb An cn At ct Ak ck) 67)).alloc (.cells #[.int .i64 v.num,.slice Vb v.bytes.length vb,.slice Vi v.items.length vi] 29)) w')=>boxed3 e
 have B0:=fun w' e=>(BX w' e).1 0;have B1:=fun w' e=>(BX w' e).2.1;have B2:=fun w' e=>(BX w' e).2.2.1
 simp only [List.getElem?_toArray,List.getElem?_cons_zero] at B0;clear BX;have q1:(r.kind==1)=false:=by rw [hk];rfl
 have q2:(r.kind==2)=false:=by rw [hk];rfl
 have q3:(r.kind==3)=false:=by rw [hk];rfl
 have q4:(r.kind==4)=false:=by rw [hk];rfl
 have q10:(r.kind==10)=false:=by rw [hk];rfl
 have q5:(r.kind==5)=false:=by rw [hk];rfl
 have q6:(r.kind==6)=true:=by rw [hk];rfl
 have q7:(r.kind==7)=false:=by rw [hk];rfl
 have q8:(r.kind==8)=false:=by rw [hk];rfl
 have q9:(r.kind==9)=false:=by rw [hk];rfl
 clear h hk;unfold vdesc vrule vval;cases z0:(v.num==0)
 ·skip
  go_enter Tryz.func46,Tryz.ntmps46;go_wp2;go_ret;exact ⟨ret_bool (by first | rfl | (simp;done) | (simp only [z0,Bool.false_and,Bool.and_false];rfl)),eb⟩
 ·skip
  cases z1:((v.bytes.length:Int)==0)
  ·skip
   go_enter Tryz.func46,Tryz.ntmps46;go_wp2;go_ret;exact ⟨ret_bool (by first | rfl | (simp;done) | (simp only [z0,z1,Bool.false_and,Bool.and_false];rfl)),eb⟩
  ·skip
   cases z2:((v.items.length:Int)==(r.kids.length:Int))
   ·have x2:(v.items.length==r.kids.length)=false:=by rw [← z2];first | exact (dec_le _ _).symm | exact (beqN _ _).symm
    go_enter Tryz.func46,Tryz.ntmps46;go_wp2;go_ret;exact ⟨ret_bool (by first | rfl | (simp;done) | (simp only [z0,z1,z2,Bool.false_and,Bool.and_false];rfl)),eb⟩
   ·have x2:(v.items.length==r.kids.length)=true:=by rw [← z2];first | exact (dec_le _ _).symm | exact (beqN _ _).symm
    go_enter Tryz.func46,Tryz.ntmps46;go_wp2;go_ret;exact ⟨ret_bool (by first | rfl | (simp;done) | (simp only [z0,z1,z2];rfl)),eb⟩
theorem sOwn_7 (A:Option Addr) (ds:List DRule) (c:Nat) (r:DRule) (Ab:Option Addr) (cb:Nat) (An:Option Addr) (cn:Nat) (At:Option Addr) (ct:Nat) (Ak:Option Addr) (ck:Nat) (v:DVal) (Vb:Option Addr) (vb:Nat) (Vi:Option Addr) (vi:Nat) (w:World) (hd:RdD w A ds c) (h:RdS w r Ab cb An cn At ct Ak ck) (hb:v.bytes.length≤9223372036854775807) (hi:v.items.length≤9223372036854775807) (hk:r.kind=7) (hl:r.kids.length=r.tags.length+1) (hkn:∀ j (hj:j<r.kids.length),r.kids[j]=(kd r j:Int)) :
 Gives Tryz.prog 46 #[vdesc (.slice A ds.length c),vrule r (.slice Ab r.bytes.length cb) (.slice An r.names.length cn) (.slice At r.tags.length ct) (.slice Ak r.kids.length ck),vval v (.slice Vb v.bytes.length vb) (.slice Vi v.items.length vi)] w (.bool (ownV ds r v.num v.bytes.length v.items.length)):=by
 have HE:=lhd (own_7 ds r v hk);rw [HE.out];clear HE;have hlt:=h.t.len;have hlk:=h.k.len;have eb:=Ext_alloc (.cells #[.int .i64 v.num,.slice Vb v.bytes.length vb,.slice Vi v.items.length vi] 29) (Ext_alloc (.cells (rcs r Ab cb An cn At ct Ak ck) 67) (Ext_alloc (.cells #[.slice A ds.length c] 26) (Ext.refl w)));have BX:=fun w' (e:Ext (((w.alloc (.cells #[.slice A ds.length c] 26)).alloc (.cells (rcs r Ab cb An cn At ct Ak ck) 67)).alloc (.cells #[.int .i64 v.num,.slice Vb v.bytes.length vb,.slice Vi v.items.length vi] 29)) w')=>boxed3 e
 have B0:=fun w' e=>(BX w' e).1 0;have B1:=fun w' e=>(BX w' e).2.1;have B2:=fun w' e=>(BX w' e).2.2.1
 simp only [List.getElem?_toArray,List.getElem?_cons_zero] at B0;clear BX;have q1:(r.kind==1)=false:=by rw [hk];rfl
 have q2:(r.kind==2)=false:=by rw [hk];rfl
 have q3:(r.kind==3)=false:=by rw [hk];rfl
 have q4:(r.kind==4)=false:=by rw [hk];rfl
 have q10:(r.kind==10)=false:=by rw [hk];rfl
 have q5:(r.kind==5)=false:=by rw [hk];rfl
 have q6:(r.kind==6)=false:=by rw [hk];rfl
 have q7:(r.kind==7)=true:=by rw [hk];rfl
 have q8:(r.kind==8)=false:=by rw [hk];rfl
 have q9:(r.kind==9)=false:=by rw [hk];rfl
 have CI:=lhd (fun t w h=>sItem_c r Ab cb An cn At ct Ak ck t w h hk hl hkn);have HS:=lhd h;clear hl hkn;clear h hk;unfold vdesc vrule vval at *;have F3:Hid (tagN r.tags v.num<r.tags.length→(if tagN r.tags v.num<r.tags.length then (kd r (tagN r.tags v.num+1):Int) else -1)=(kd r (tagN r.tags v.num+1):Int)):=fun hh=>if_pos hh
 have G3:Hid (¬ tagN r.tags v.num<r.tags.length→(if tagN r.tags v.num<r.tags.length then (kd r (tagN r.tags v.num+1):Int) else -1) = -1):=fun hh=>if_neg hh
 cases z0:((v.bytes.length:Int)==0)
 ·clear CI
  go_enter Tryz.func46,Tryz.ntmps46;go_wp2;go_ret;exact ⟨ret_bool (by first | rfl | (simp;done) | (simp only [z0,Bool.false_and,Bool.and_false];rfl)),eb⟩
 ·cases z1:((v.items.length:Int)==1)
  ·clear CI
   go_enter Tryz.func46,Tryz.ntmps46;go_wp2;go_ret;exact ⟨ret_bool (by first | rfl | (simp;done) | (simp only [z0,z1,Bool.false_and,Bool.and_false];rfl)),eb⟩
  ·have CX:=lhd (fun w h=>CI.out v.num w h)
   clear CI
   by_cases hin:tagN r.tags v.num<r.tags.length
   ·have z2:decide (tagN r.tags v.num<r.tags.length)=true:=by simpa using hin
    have HR:=lhd (F3.out hin);rw [HR.out] at CX;generalize kd r (tagN r.tags v.num+1)=y at *;clear hin F3 G3 HR;go_enter Tryz.func46,Tryz.ntmps46;go_wp2_with fail;refine (CX.out _ (HS.out.ext eb)).mono ?_;rintro _ w1 ⟨rfl,he1⟩;go_wp2;go_ret;exact ⟨ret_bool (by rw [z2];first | rfl | (simp;done) | (simp;omega)),eb.trans he1⟩
   ·have z2:decide (tagN r.tags v.num<r.tags.length)=false:=by simpa using hin
    have HR:=lhd (G3.out hin);rw [HR.out] at CX;clear hin F3 G3 HR;go_enter Tryz.func46,Tryz.ntmps46;go_wp2_with fail;refine (CX.out _ (HS.out.ext eb)).mono ?_;rintro _ w1 ⟨rfl,he1⟩;go_wp2;go_ret;exact ⟨ret_bool (by rw [z2];first | rfl | (simp;done) | (simp;omega)),eb.trans he1⟩
theorem sOwn_8 (A:Option Addr) (ds:List DRule) (c:Nat) (r:DRule) (Ab:Option Addr) (cb:Nat) (An:Option Addr) (cn:Nat) (At:Option Addr) (ct:Nat) (Ak:Option Addr) (ck:Nat) (v:DVal) (Vb:Option Addr) (vb:Nat) (Vi:Option Addr) (vi:Nat) (w:World) (hd:RdD w A ds c) (h:RdS w r Ab cb An cn At ct Ak ck) (hb:v.bytes.length≤9223372036854775807) (hi:v.items.length≤9223372036854775807) (hk:r.kind=8) :
 Gives Tryz.prog 46 #[vdesc (.slice A ds.length c),vrule r (.slice Ab r.bytes.length cb) (.slice An r.names.length cn) (.slice At r.tags.length ct) (.slice Ak r.kids.length ck),vval v (.slice Vb v.bytes.length vb) (.slice Vi v.items.length vi)] w (.bool (ownV ds r v.num v.bytes.length v.items.length)):=by
 have HE:=lhd (own_8 ds r v hk);rw [HE.out];clear HE;have hlt:=h.t.len;have hlk:=h.k.len;have eb:=Ext_alloc (.cells #[.int .i64 v.num,.slice Vb v.bytes.length vb,.slice Vi v.items.length vi] 29) (Ext_alloc (.cells (rcs r Ab cb An cn At ct Ak ck) 67) (Ext_alloc (.cells #[.slice A ds.length c] 26) (Ext.refl w)));have BX:=fun w' (e:Ext (((w.alloc (.cells #[.slice A ds.length c] 26)).alloc (.cells (rcs r Ab cb An cn At ct Ak ck) 67)).alloc (.cells #[.int .i64 v.num,.slice Vb v.bytes.length vb,.slice Vi v.items.length vi] 29)) w')=>boxed3 e
 have B0:=fun w' e=>(BX w' e).1 0;have B1:=fun w' e=>(BX w' e).2.1;have B2:=fun w' e=>(BX w' e).2.2.1
 simp only [List.getElem?_toArray,List.getElem?_cons_zero] at B0;clear BX;have q1:(r.kind==1)=false:=by rw [hk];rfl
 have q2:(r.kind==2)=false:=by rw [hk];rfl
 have q3:(r.kind==3)=false:=by rw [hk];rfl
 have q4:(r.kind==4)=false:=by rw [hk];rfl
 have q10:(r.kind==10)=false:=by rw [hk];rfl
 have q5:(r.kind==5)=false:=by rw [hk];rfl
 have q6:(r.kind==6)=false:=by rw [hk];rfl
 have q7:(r.kind==7)=false:=by rw [hk];rfl
 have q8:(r.kind==8)=true:=by rw [hk];rfl
 have q9:(r.kind==9)=false:=by rw [hk];rfl
 clear h hk;unfold vdesc vrule vval;cases z0:(v.num==0)
 ·skip
  go_enter Tryz.func46,Tryz.ntmps46;go_wp2;go_ret;exact ⟨ret_bool (by first | rfl | (simp;done) | (simp only [z0,Bool.false_and,Bool.and_false];rfl)),eb⟩
 ·skip
  cases z1:((v.bytes.length:Int)==0)
  ·skip
   go_enter Tryz.func46,Tryz.ntmps46;go_wp2;go_ret;exact ⟨ret_bool (by first | rfl | (simp;done) | (simp only [z0,z1,Bool.false_and,Bool.and_false];rfl)),eb⟩
  ·skip
   cases z2:decide ((v.items.length:Int)≤1)
   ·have x2:decide (v.items.length≤1)=false:=by rw [← z2];first | exact (dec_le _ _).symm | exact (beqN _ _).symm
    go_enter Tryz.func46,Tryz.ntmps46;go_wp2;go_ret;exact ⟨ret_bool (by first | rfl | (simp;done) | (simp only [z0,z1,z2,Bool.false_and,Bool.and_false];rfl)),eb⟩
   ·have x2:decide (v.items.length≤1)=true:=by rw [← z2];first | exact (dec_le _ _).symm | exact (beqN _ _).symm
    go_enter Tryz.func46,Tryz.ntmps46;go_wp2;go_ret;exact ⟨ret_bool (by first | rfl | (simp;done) | (simp only [z0,z1,z2];rfl)),eb⟩
theorem sOwn_9 (A:Option Addr) (ds:List DRule) (c:Nat) (r:DRule) (Ab:Option Addr) (cb:Nat) (An:Option Addr) (cn:Nat) (At:Option Addr) (ct:Nat) (Ak:Option Addr) (ck:Nat) (v:DVal) (Vb:Option Addr) (vb:Nat) (Vi:Option Addr) (vi:Nat) (w:World) (hd:RdD w A ds c) (h:RdS w r Ab cb An cn At ct Ak ck) (hb:v.bytes.length≤9223372036854775807) (hi:v.items.length≤9223372036854775807) (hk:r.kind=9) :
 Gives Tryz.prog 46 #[vdesc (.slice A ds.length c),vrule r (.slice Ab r.bytes.length cb) (.slice An r.names.length cn) (.slice At r.tags.length ct) (.slice Ak r.kids.length ck),vval v (.slice Vb v.bytes.length vb) (.slice Vi v.items.length vi)] w (.bool (ownV ds r v.num v.bytes.length v.items.length)):=by
 have HE:=lhd (own_9 ds r v hk);rw [HE.out];clear HE;have hlt:=h.t.len;have hlk:=h.k.len;have eb:=Ext_alloc (.cells #[.int .i64 v.num,.slice Vb v.bytes.length vb,.slice Vi v.items.length vi] 29) (Ext_alloc (.cells (rcs r Ab cb An cn At ct Ak ck) 67) (Ext_alloc (.cells #[.slice A ds.length c] 26) (Ext.refl w)));have BX:=fun w' (e:Ext (((w.alloc (.cells #[.slice A ds.length c] 26)).alloc (.cells (rcs r Ab cb An cn At ct Ak ck) 67)).alloc (.cells #[.int .i64 v.num,.slice Vb v.bytes.length vb,.slice Vi v.items.length vi] 29)) w')=>boxed3 e
 have B0:=fun w' e=>(BX w' e).1 0;have B1:=fun w' e=>(BX w' e).2.1;have B2:=fun w' e=>(BX w' e).2.2.1
 simp only [List.getElem?_toArray,List.getElem?_cons_zero] at B0;clear BX;have q1:(r.kind==1)=false:=by rw [hk];rfl
 have q2:(r.kind==2)=false:=by rw [hk];rfl
 have q3:(r.kind==3)=false:=by rw [hk];rfl
 have q4:(r.kind==4)=false:=by rw [hk];rfl
 have q10:(r.kind==10)=false:=by rw [hk];rfl
 have q5:(r.kind==5)=false:=by rw [hk];rfl
 have q6:(r.kind==6)=false:=by rw [hk];rfl
 have q7:(r.kind==7)=false:=by rw [hk];rfl
 have q8:(r.kind==8)=false:=by rw [hk];rfl
 have q9:(r.kind==9)=true:=by rw [hk];rfl
 clear h hk;unfold vdesc vrule vval;cases z0:(v.num==0)
 ·skip
  go_enter Tryz.func46,Tryz.ntmps46;go_wp2;go_ret;exact ⟨ret_bool (by first | rfl | (simp;done) | (simp only [z0,Bool.false_and,Bool.and_false];rfl)),eb⟩
 ·skip
  cases z1:((v.bytes.length:Int)==0)
  ·skip
   go_enter Tryz.func46,Tryz.ntmps46;go_wp2;go_ret;exact ⟨ret_bool (by first | rfl | (simp;done) | (simp only [z0,z1,Bool.false_and,Bool.and_false];rfl)),eb⟩
  ·skip
   cases z2:((v.items.length:Int)==1)
   ·skip
    go_enter Tryz.func46,Tryz.ntmps46;go_wp2;go_ret;exact ⟨ret_bool (by first | rfl | (simp;done) | (simp only [z0,z1,z2,Bool.false_and,Bool.and_false];rfl)),eb⟩
   ·skip
    go_enter Tryz.func46,Tryz.ntmps46;go_wp2;go_ret;exact ⟨ret_bool (by first | rfl | (simp;done) | (simp only [z0,z1,z2];rfl)),eb⟩
def fitV (ds:List DRule) (r:DRule) (n:Int) (b m:Nat):Bool :=
 if r.kind=7 then (decide (0≤n)&&decide (n≤limD ds (r.kids.getD 0 0)))&&(decide ((b:Int)≤0)&&decide ((m:Int)=1)) else ownV ds r n b m
theorem fit_1 (ds:List DRule) (i:Nat) (hi:i<ds.length) (v:DVal) (hk:ds[i].kind=1):fitV ds ds[i] v.num v.bytes.length v.items.length=((decide ((0:Int)≤v.num)&&decide (v.num≤limR ds[i]))&&(decide ((v.bytes.length:Int)≤0)&&decide ((v.items.length:Int)≤0))):=by
 unfold fitV;rw [if_neg (by omega),own_1 ds ds[i] v hk,Bool.eq_iff_iff];simp only [Bool.and_eq_true,beq_iff_eq,decide_eq_true_eq,Bool.not_eq_true',bne_eq_false_iff_eq]
 omega
theorem fit_2 (ds:List DRule) (i:Nat) (hi:i<ds.length) (v:DVal) (hk:ds[i].kind=2):fitV ds ds[i] v.num v.bytes.length v.items.length=((decide ((0:Int)≤v.num)&&decide (v.num≤0))&&(decide ((v.bytes.length:Int)≤0)&&decide ((v.items.length:Int)≤0))):=by
 unfold fitV;rw [if_neg (by omega),own_2 ds ds[i] v hk,Bool.eq_iff_iff];simp only [Bool.and_eq_true,beq_iff_eq,decide_eq_true_eq,Bool.not_eq_true',bne_eq_false_iff_eq]
 omega
theorem fit_3 (ds:List DRule) (i:Nat) (hi:i<ds.length) (v:DVal) (hk:ds[i].kind=3):fitV ds ds[i] v.num v.bytes.length v.items.length=(!((v.bytes.length:Int) !=ds[i].size)&&((decide ((0:Int)≤v.num)&&decide (v.num≤0))&&(decide ((v.bytes.length:Int)≤ds[i].size)&&decide ((v.items.length:Int)≤0)))):=by
 unfold fitV;rw [if_neg (by omega),own_3 ds ds[i] v hk,Bool.eq_iff_iff];simp only [Bool.and_eq_true,beq_iff_eq,decide_eq_true_eq,Bool.not_eq_true',bne_eq_false_iff_eq]
 omega
theorem fit_4 (ds:List DRule) (i:Nat) (hi:i<ds.length) (v:DVal) (hk:ds[i].kind=4):fitV ds ds[i] v.num v.bytes.length v.items.length=((decide ((0:Int)≤v.num)&&decide (v.num≤0))&&(decide ((v.bytes.length:Int)≤(if limD ds (ds[i].kids.getD 0 0)<400 then limD ds (ds[i].kids.getD 0 0) else 400))&&decide ((v.items.length:Int)≤0))):=by
 unfold fitV;rw [if_neg (by omega),own_4 ds ds[i] v hk,Bool.eq_iff_iff];simp only [Bool.and_eq_true,beq_iff_eq,decide_eq_true_eq,Bool.not_eq_true',bne_eq_false_iff_eq]
 omega
theorem fit_10 (ds:List DRule) (i:Nat) (hi:i<ds.length) (v:DVal) (hk:ds[i].kind=10):fitV ds ds[i] v.num v.bytes.length v.items.length=((decide ((0:Int)≤v.num)&&decide (v.num≤0))&&(decide ((v.bytes.length:Int)≤400)&&decide ((v.items.length:Int)≤0))):=by
 unfold fitV;rw [if_neg (by omega),own_10 ds ds[i] v hk,Bool.eq_iff_iff];simp only [Bool.and_eq_true,beq_iff_eq,decide_eq_true_eq,Bool.not_eq_true',bne_eq_false_iff_eq]
 omega
theorem fit_5 (ds:List DRule) (i:Nat) (hi:i<ds.length) (v:DVal) (hk:ds[i].kind=5):fitV ds ds[i] v.num v.bytes.length v.items.length=((decide ((0:Int)≤v.num)&&decide (v.num≤0))&&(decide ((v.bytes.length:Int)≤0)&&decide ((v.items.length:Int)≤(if limD ds (ds[i].kids.getD 0 0)<40 then limD ds (ds[i].kids.getD 0 0) else 40)))):=by
 unfold fitV;rw [if_neg (by omega),own_5 ds ds[i] v hk,Bool.eq_iff_iff];simp only [Bool.and_eq_true,beq_iff_eq,decide_eq_true_eq,Bool.not_eq_true',bne_eq_false_iff_eq]
 omega
theorem fit_6 (ds:List DRule) (i:Nat) (hi:i<ds.length) (v:DVal) (hk:ds[i].kind=6):fitV ds ds[i] v.num v.bytes.length v.items.length=(!((v.items.length:Int) !=(ds[i].kids.length:Int))&&((decide ((0:Int)≤v.num)&&decide (v.num≤0))&&(decide ((v.bytes.length:Int)≤0)&&decide ((v.items.length:Int)≤(ds[i].kids.length:Int))))):=by
 unfold fitV;rw [if_neg (by omega),own_6 ds ds[i] v hk,Bool.eq_iff_iff];simp only [Bool.and_eq_true,beq_iff_eq,decide_eq_true_eq,Bool.not_eq_true',bne_eq_false_iff_eq]
 omega
theorem fit_7 (ds:List DRule) (i:Nat) (hi:i<ds.length) (v:DVal) (hk:ds[i].kind=7):fitV ds ds[i] v.num v.bytes.length v.items.length=(!((v.items.length:Int) !=1)&&((decide ((0:Int)≤v.num)&&decide (v.num≤limD ds (ds[i].kids.getD 0 0)))&&(decide ((v.bytes.length:Int)≤0)&&decide ((v.items.length:Int)≤1)))):=by
 unfold fitV;rw [if_pos hk,Bool.eq_iff_iff];simp only [Bool.and_eq_true,beq_iff_eq,decide_eq_true_eq,Bool.not_eq_true',bne_eq_false_iff_eq]
 omega
theorem fit_8 (ds:List DRule) (i:Nat) (hi:i<ds.length) (v:DVal) (hk:ds[i].kind=8):fitV ds ds[i] v.num v.bytes.length v.items.length=((decide ((0:Int)≤v.num)&&decide (v.num≤0))&&(decide ((v.bytes.length:Int)≤0)&&decide ((v.items.length:Int)≤1))):=by
 unfold fitV;rw [if_neg (by omega),own_8 ds ds[i] v hk,Bool.eq_iff_iff];simp only [Bool.and_eq_true,beq_iff_eq,decide_eq_true_eq,Bool.not_eq_true',bne_eq_false_iff_eq]
 omega
theorem fit_9 (ds:List DRule) (i:Nat) (hi:i<ds.length) (v:DVal) (hk:ds[i].kind=9):fitV ds ds[i] v.num v.bytes.length v.items.length=(!((v.items.length:Int) !=1)&&((decide ((0:Int)≤v.num)&&decide (v.num≤0))&&(decide ((v.bytes.length:Int)≤0)&&decide ((v.items.length:Int)≤1)))):=by
 unfold fitV;rw [if_neg (by omega),own_9 ds ds[i] v hk,Bool.eq_iff_iff];simp only [Bool.and_eq_true,beq_iff_eq,decide_eq_true_eq,Bool.not_eq_true',bne_eq_false_iff_eq]
 omega
theorem iFit_1 (A:Option Addr) (ds:List DRule) (c:Nat) (i:Nat) (hi:i<ds.length) (v:DVal) (Vb:Option Addr) (vb:Nat) (Vi:Option Addr) (vi:Nat) (g off:Nat) (w:World) (hd:RdD w A ds c) (hv:ValAt w g off v (.slice Vb v.bytes.length vb) (.slice Vi v.items.length vi)) (hb:v.bytes.length≤9223372036854775807) (hm:v.items.length≤9223372036854775807) (hk:ds[i].kind=1) (hsz:1≤ds[i].size∧ds[i].size≤4) :
 Gives Tryz.prog 68 #[vdesc (.slice A ds.length c),.int .i64 (i:Int),.pointer (some ⟨g,off,none⟩)] w (.bool (fitV ds ds[i] v.num v.bytes.length v.items.length)):=by
 have HE:=lhd (fit_1 ds i hi v hk);rw [HE.out];clear HE;have hl:=hd.len;have HD:=lhd hd;obtain ⟨b,ro,Ab,cb,An,cn,At,ct,Ak,ck,hA,hbb,hS,hR⟩:=hd.at i hi;subst hA;have eb:=Ext_alloc (.cells #[.slice (some ⟨b,ro,none⟩) ds.length c] 26) (Ext.refl w);have BX:=fun w' (e:Ext (w.alloc (.cells #[.slice (some ⟨b,ro,none⟩) ds.length c] 26)) w')=>boxed e 0
 simp only [List.getElem?_toArray,List.getElem?_cons_zero] at BX;have hlk:=hS.k.len;have CL:=lhd (fun w h=>iLimit_c (some ⟨b,ro,none⟩) ds c (i:Int) w h);rw [limD_in hi] at CL;obtain ⟨k0,k1,k2,k3,k4,k5,k6,k7⟩:=hR;replace k0:=fun w' (e:Ext (w.alloc (.cells #[.slice (some ⟨b,ro,none⟩) ds.length c] 26)) w')=>k0 w' (eb.trans e)
 replace k1:=fun w' (e:Ext (w.alloc (.cells #[.slice (some ⟨b,ro,none⟩) ds.length c] 26)) w')=>k1 w' (eb.trans e)
 replace k2:=fun w' (e:Ext (w.alloc (.cells #[.slice (some ⟨b,ro,none⟩) ds.length c] 26)) w')=>k2 w' (eb.trans e)
 replace k3:=fun w' (e:Ext (w.alloc (.cells #[.slice (some ⟨b,ro,none⟩) ds.length c] 26)) w')=>k3 w' (eb.trans e)
 replace k4:=fun w' (e:Ext (w.alloc (.cells #[.slice (some ⟨b,ro,none⟩) ds.length c] 26)) w')=>k4 w' (eb.trans e)
 replace k5:=fun w' (e:Ext (w.alloc (.cells #[.slice (some ⟨b,ro,none⟩) ds.length c] 26)) w')=>k5 w' (eb.trans e)
 replace k6:=fun w' (e:Ext (w.alloc (.cells #[.slice (some ⟨b,ro,none⟩) ds.length c] 26)) w')=>k6 w' (eb.trans e)
 replace k7:=fun w' (e:Ext (w.alloc (.cells #[.slice (some ⟨b,ro,none⟩) ds.length c] 26)) w')=>k7 w' (eb.trans e)
 obtain ⟨v0,v1,v2⟩:=hv;replace v0:=fun w' (e:Ext (w.alloc (.cells #[.slice (some ⟨b,ro,none⟩) ds.length c] 26)) w')=>v0 w' (eb.trans e)
 replace v1:=fun w' (e:Ext (w.alloc (.cells #[.slice (some ⟨b,ro,none⟩) ds.length c] 26)) w')=>v1 w' (eb.trans e)
 replace v2:=fun w' (e:Ext (w.alloc (.cells #[.slice (some ⟨b,ro,none⟩) ds.length c] 26)) w')=>v2 w' (eb.trans e)
 have hlim : -1≤limR ds[i]∧limR ds[i]≤4294967295:=by rcases limR_cases ds[i] with e | e | e | e | e<;>rw [e]<;>omega
 generalize ds[i]=r at *;have q1:(r.kind==1)=true:=by rw [hk];rfl
 have q3:(r.kind==3)=false:=by rw [hk];rfl
 have q4:(r.kind==4)=false:=by rw [hk];rfl
 have q10:(r.kind==10)=false:=by rw [hk];rfl
 have q5:(r.kind==5)=false:=by rw [hk];rfl
 have q6:(r.kind==6)=false:=by rw [hk];rfl
 have q7:(r.kind==7)=false:=by rw [hk];rfl
 have q8:(r.kind==8)=false:=by rw [hk];rfl
 have q9:(r.kind==9)=false:=by rw [hk];rfl
 clear hk hd hS hsz;generalize limR r=L at *;have CI:=lhd (fun w=>iInRange_c v.num 0 L w);unfold vdesc at *;generalize v.bytes.length=nb at *;generalize v.items.length=nm at *;generalize v.num=num at *;cases z1:(decide ((0:Int)≤num)&&decide (num≤L))
 ·rw [z1] at CI
  go_enter Tryz.func68,Tryz.ntmps68;go_wp2_with fail;refine (CL.out _ (HD.out.ext eb)).mono ?_;rintro _ w1 ⟨rfl,ew1⟩;go_wp2_with fail;refine (CI.out _).mono ?_;rintro _ w2 ⟨rfl,ew2⟩;have ew3:=ew1.trans ew2;go_wp2;go_ret;exact ⟨ret_bool (by first | rfl | (simp;done) | (simp [*];done) | (simp;omega)),eb.trans ew3⟩
 ·rw [z1] at CI
  by_cases hnb:nb=0
  ·subst hnb
   by_cases hnm:nm=0
   ·subst hnm
    go_enter Tryz.func68,Tryz.ntmps68;go_wp2_with fail;refine (CL.out _ (HD.out.ext eb)).mono ?_;rintro _ w1 ⟨rfl,ew1⟩;go_wp2_with fail;refine (CI.out _).mono ?_;rintro _ w2 ⟨rfl,ew2⟩;have ew3:=ew1.trans ew2;go_wp2;go_ret;exact ⟨ret_bool (by first | rfl | (simp;done) | (simp [*];done) | (simp;omega)),eb.trans ew3⟩
   ·have dnm:decide ((nm:Int)≤0)=false:=decide_eq_false (by omega)
    go_enter Tryz.func68,Tryz.ntmps68;go_wp2_with fail;refine (CL.out _ (HD.out.ext eb)).mono ?_;rintro _ w1 ⟨rfl,ew1⟩;go_wp2_with fail;refine (CI.out _).mono ?_;rintro _ w2 ⟨rfl,ew2⟩;have ew3:=ew1.trans ew2;go_wp2;go_ret;exact ⟨ret_bool (by first | rfl | (simp;done) | (simp [*];done) | (simp;omega)),eb.trans ew3⟩
  ·have dnb:decide ((nb:Int)≤0)=false:=decide_eq_false (by omega)
   go_enter Tryz.func68,Tryz.ntmps68;go_wp2_with fail;refine (CL.out _ (HD.out.ext eb)).mono ?_;rintro _ w1 ⟨rfl,ew1⟩;go_wp2_with fail;refine (CI.out _).mono ?_;rintro _ w2 ⟨rfl,ew2⟩;have ew3:=ew1.trans ew2;go_wp2;go_ret;exact ⟨ret_bool (by first | rfl | (simp;done) | (simp [*];done) | (simp;omega)),eb.trans ew3⟩
theorem iFit_2 (A:Option Addr) (ds:List DRule) (c:Nat) (i:Nat) (hi:i<ds.length) (v:DVal) (Vb:Option Addr) (vb:Nat) (Vi:Option Addr) (vi:Nat) (g off:Nat) (w:World) (hd:RdD w A ds c) (hv:ValAt w g off v (.slice Vb v.bytes.length vb) (.slice Vi v.items.length vi)) (hb:v.bytes.length≤9223372036854775807) (hm:v.items.length≤9223372036854775807) (hk:ds[i].kind=2) :
 Gives Tryz.prog 68 #[vdesc (.slice A ds.length c),.int .i64 (i:Int),.pointer (some ⟨g,off,none⟩)] w (.bool (fitV ds ds[i] v.num v.bytes.length v.items.length)):=by
 have HE:=lhd (fit_2 ds i hi v hk);rw [HE.out];clear HE;have hl:=hd.len;have HD:=lhd hd;obtain ⟨b,ro,Ab,cb,An,cn,At,ct,Ak,ck,hA,hbb,hS,hR⟩:=hd.at i hi;subst hA;have eb:=Ext_alloc (.cells #[.slice (some ⟨b,ro,none⟩) ds.length c] 26) (Ext.refl w);have BX:=fun w' (e:Ext (w.alloc (.cells #[.slice (some ⟨b,ro,none⟩) ds.length c] 26)) w')=>boxed e 0
 simp only [List.getElem?_toArray,List.getElem?_cons_zero] at BX;have hlk:=hS.k.len;obtain ⟨k0,k1,k2,k3,k4,k5,k6,k7⟩:=hR;replace k0:=fun w' (e:Ext (w.alloc (.cells #[.slice (some ⟨b,ro,none⟩) ds.length c] 26)) w')=>k0 w' (eb.trans e)
 replace k1:=fun w' (e:Ext (w.alloc (.cells #[.slice (some ⟨b,ro,none⟩) ds.length c] 26)) w')=>k1 w' (eb.trans e)
 replace k2:=fun w' (e:Ext (w.alloc (.cells #[.slice (some ⟨b,ro,none⟩) ds.length c] 26)) w')=>k2 w' (eb.trans e)
 replace k3:=fun w' (e:Ext (w.alloc (.cells #[.slice (some ⟨b,ro,none⟩) ds.length c] 26)) w')=>k3 w' (eb.trans e)
 replace k4:=fun w' (e:Ext (w.alloc (.cells #[.slice (some ⟨b,ro,none⟩) ds.length c] 26)) w')=>k4 w' (eb.trans e)
 replace k5:=fun w' (e:Ext (w.alloc (.cells #[.slice (some ⟨b,ro,none⟩) ds.length c] 26)) w')=>k5 w' (eb.trans e)
 replace k6:=fun w' (e:Ext (w.alloc (.cells #[.slice (some ⟨b,ro,none⟩) ds.length c] 26)) w')=>k6 w' (eb.trans e)
 replace k7:=fun w' (e:Ext (w.alloc (.cells #[.slice (some ⟨b,ro,none⟩) ds.length c] 26)) w')=>k7 w' (eb.trans e)
 obtain ⟨v0,v1,v2⟩:=hv;replace v0:=fun w' (e:Ext (w.alloc (.cells #[.slice (some ⟨b,ro,none⟩) ds.length c] 26)) w')=>v0 w' (eb.trans e)
 replace v1:=fun w' (e:Ext (w.alloc (.cells #[.slice (some ⟨b,ro,none⟩) ds.length c] 26)) w')=>v1 w' (eb.trans e)
 replace v2:=fun w' (e:Ext (w.alloc (.cells #[.slice (some ⟨b,ro,none⟩) ds.length c] 26)) w')=>v2 w' (eb.trans e)
 generalize ds[i]=r at *;have q1:(r.kind==1)=false:=by rw [hk];rfl
 have q3:(r.kind==3)=false:=by rw [hk];rfl
 have q4:(r.kind==4)=false:=by rw [hk];rfl
 have q10:(r.kind==10)=false:=by rw [hk];rfl
 have q5:(r.kind==5)=false:=by rw [hk];rfl
 have q6:(r.kind==6)=false:=by rw [hk];rfl
 have q7:(r.kind==7)=false:=by rw [hk];rfl
 have q8:(r.kind==8)=false:=by rw [hk];rfl
 have q9:(r.kind==9)=false:=by rw [hk];rfl
 clear hk hd hS;have CI:=lhd (fun w=>iInRange_c v.num 0 0 w);unfold vdesc at *;generalize v.bytes.length=nb at *;generalize v.items.length=nm at *;generalize v.num=num at *;cases z1:(decide ((0:Int)≤num)&&decide (num≤0))
 ·rw [z1] at CI
  go_enter Tryz.func68,Tryz.ntmps68;go_wp2_with fail;refine (CI.out _).mono ?_;rintro _ w2 ⟨rfl,ew2⟩;go_wp2;go_ret;exact ⟨ret_bool (by first | rfl | (simp;done) | (simp [*];done) | (simp;omega)),eb.trans ew2⟩
 ·rw [z1] at CI
  by_cases hnb:nb=0
  ·subst hnb
   by_cases hnm:nm=0
   ·subst hnm
    go_enter Tryz.func68,Tryz.ntmps68;go_wp2_with fail;refine (CI.out _).mono ?_;rintro _ w2 ⟨rfl,ew2⟩;go_wp2;go_ret;exact ⟨ret_bool (by first | rfl | (simp;done) | (simp [*];done) | (simp;omega)),eb.trans ew2⟩
   ·have dnm:decide ((nm:Int)≤0)=false:=decide_eq_false (by omega)
    go_enter Tryz.func68,Tryz.ntmps68;go_wp2_with fail;refine (CI.out _).mono ?_;rintro _ w2 ⟨rfl,ew2⟩;go_wp2;go_ret;exact ⟨ret_bool (by first | rfl | (simp;done) | (simp [*];done) | (simp;omega)),eb.trans ew2⟩
  ·have dnb:decide ((nb:Int)≤0)=false:=decide_eq_false (by omega)
   go_enter Tryz.func68,Tryz.ntmps68;go_wp2_with fail;refine (CI.out _).mono ?_;rintro _ w2 ⟨rfl,ew2⟩;go_wp2;go_ret;exact ⟨ret_bool (by first | rfl | (simp;done) | (simp [*];done) | (simp;omega)),eb.trans ew2⟩
theorem iFit_3 (A:Option Addr) (ds:List DRule) (c:Nat) (i:Nat) (hi:i<ds.length) (v:DVal) (Vb:Option Addr) (vb:Nat) (Vi:Option Addr) (vi:Nat) (g off:Nat) (w:World) (hd:RdD w A ds c) (hv:ValAt w g off v (.slice Vb v.bytes.length vb) (.slice Vi v.items.length vi)) (hb:v.bytes.length≤9223372036854775807) (hm:v.items.length≤9223372036854775807) (hk:ds[i].kind=3) :
 Gives Tryz.prog 68 #[vdesc (.slice A ds.length c),.int .i64 (i:Int),.pointer (some ⟨g,off,none⟩)] w (.bool (fitV ds ds[i] v.num v.bytes.length v.items.length)):=by
 have HE:=lhd (fit_3 ds i hi v hk);rw [HE.out];clear HE;have hl:=hd.len;have HD:=lhd hd;obtain ⟨b,ro,Ab,cb,An,cn,At,ct,Ak,ck,hA,hbb,hS,hR⟩:=hd.at i hi;subst hA;have eb:=Ext_alloc (.cells #[.slice (some ⟨b,ro,none⟩) ds.length c] 26) (Ext.refl w);have BX:=fun w' (e:Ext (w.alloc (.cells #[.slice (some ⟨b,ro,none⟩) ds.length c] 26)) w')=>boxed e 0
 simp only [List.getElem?_toArray,List.getElem?_cons_zero] at BX;have hlk:=hS.k.len;obtain ⟨k0,k1,k2,k3,k4,k5,k6,k7⟩:=hR;replace k0:=fun w' (e:Ext (w.alloc (.cells #[.slice (some ⟨b,ro,none⟩) ds.length c] 26)) w')=>k0 w' (eb.trans e)
 replace k1:=fun w' (e:Ext (w.alloc (.cells #[.slice (some ⟨b,ro,none⟩) ds.length c] 26)) w')=>k1 w' (eb.trans e)
 replace k2:=fun w' (e:Ext (w.alloc (.cells #[.slice (some ⟨b,ro,none⟩) ds.length c] 26)) w')=>k2 w' (eb.trans e)
 replace k3:=fun w' (e:Ext (w.alloc (.cells #[.slice (some ⟨b,ro,none⟩) ds.length c] 26)) w')=>k3 w' (eb.trans e)
 replace k4:=fun w' (e:Ext (w.alloc (.cells #[.slice (some ⟨b,ro,none⟩) ds.length c] 26)) w')=>k4 w' (eb.trans e)
 replace k5:=fun w' (e:Ext (w.alloc (.cells #[.slice (some ⟨b,ro,none⟩) ds.length c] 26)) w')=>k5 w' (eb.trans e)
 replace k6:=fun w' (e:Ext (w.alloc (.cells #[.slice (some ⟨b,ro,none⟩) ds.length c] 26)) w')=>k6 w' (eb.trans e)
 replace k7:=fun w' (e:Ext (w.alloc (.cells #[.slice (some ⟨b,ro,none⟩) ds.length c] 26)) w')=>k7 w' (eb.trans e)
 obtain ⟨v0,v1,v2⟩:=hv;replace v0:=fun w' (e:Ext (w.alloc (.cells #[.slice (some ⟨b,ro,none⟩) ds.length c] 26)) w')=>v0 w' (eb.trans e)
 replace v1:=fun w' (e:Ext (w.alloc (.cells #[.slice (some ⟨b,ro,none⟩) ds.length c] 26)) w')=>v1 w' (eb.trans e)
 replace v2:=fun w' (e:Ext (w.alloc (.cells #[.slice (some ⟨b,ro,none⟩) ds.length c] 26)) w')=>v2 w' (eb.trans e)
 generalize ds[i]=r at *;have q1:(r.kind==1)=false:=by rw [hk];rfl
 have q3:(r.kind==3)=true:=by rw [hk];rfl
 have q4:(r.kind==4)=false:=by rw [hk];rfl
 have q10:(r.kind==10)=false:=by rw [hk];rfl
 have q5:(r.kind==5)=false:=by rw [hk];rfl
 have q6:(r.kind==6)=false:=by rw [hk];rfl
 have q7:(r.kind==7)=false:=by rw [hk];rfl
 have q8:(r.kind==8)=false:=by rw [hk];rfl
 have q9:(r.kind==9)=false:=by rw [hk];rfl
 clear hk hd hS;have CI:=lhd (fun w=>iInRange_c v.num 0 0 w);unfold vdesc at *;generalize v.bytes.length=nb at *;generalize v.items.length=nm at *;generalize v.num=num at *;cases z0:((nb:Int) !=r.size)
 ·skip
  cases z1:(decide ((0:Int)≤num)&&decide (num≤0))
  ·rw [z1] at CI
   go_enter Tryz.func68,Tryz.ntmps68;go_wp2_with fail;refine wp_region_quiet_below (by kernel_rfl) (by kernel_rfl) ?_;repeat (go_big_quiet_step (fail))
   refine wpQuiet_nil (qnl ?_);intro w1 ew1;go_wp2_with fail;refine (CI.out _).mono ?_;rintro _ w2 ⟨rfl,ew2⟩;have ew3:=ew1.trans ew2;go_wp2;go_ret;exact ⟨ret_bool (by first | rfl | (simp;done) | (simp [*];done) | (simp;omega)),eb.trans ew3⟩
  ·rw [z1] at CI
   cases ynb:decide ((nb:Int)≤r.size)
   ·skip
    go_enter Tryz.func68,Tryz.ntmps68;go_wp2_with fail;refine wp_region_quiet_below (by kernel_rfl) (by kernel_rfl) ?_;repeat (go_big_quiet_step (fail))
    refine wpQuiet_nil (qnl ?_);intro w1 ew1;go_wp2_with fail;refine (CI.out _).mono ?_;rintro _ w2 ⟨rfl,ew2⟩;have ew3:=ew1.trans ew2;go_wp2;go_ret;exact ⟨ret_bool (by first | rfl | (simp;done) | (simp [*];done) | (simp;omega)),eb.trans ew3⟩
   ·skip
    by_cases hnm:nm=0
    ·subst hnm
     go_enter Tryz.func68,Tryz.ntmps68;go_wp2_with fail;refine wp_region_quiet_below (by kernel_rfl) (by kernel_rfl) ?_;repeat (go_big_quiet_step (fail))
     refine wpQuiet_nil (qnl ?_);intro w1 ew1;go_wp2_with fail;refine (CI.out _).mono ?_;rintro _ w2 ⟨rfl,ew2⟩;have ew3:=ew1.trans ew2;go_wp2;go_ret;exact ⟨ret_bool (by first | rfl | (simp;done) | (simp [*];done) | (simp;omega)),eb.trans ew3⟩
    ·have dnm:decide ((nm:Int)≤0)=false:=decide_eq_false (by omega)
     go_enter Tryz.func68,Tryz.ntmps68;go_wp2_with fail;refine wp_region_quiet_below (by kernel_rfl) (by kernel_rfl) ?_;repeat (go_big_quiet_step (fail))
     refine wpQuiet_nil (qnl ?_);intro w1 ew1;go_wp2_with fail;refine (CI.out _).mono ?_;rintro _ w2 ⟨rfl,ew2⟩;have ew3:=ew1.trans ew2;go_wp2;go_ret;exact ⟨ret_bool (by first | rfl | (simp;done) | (simp [*];done) | (simp;omega)),eb.trans ew3⟩
 ·skip
  go_enter Tryz.func68,Tryz.ntmps68;go_wp2_with fail;refine wp_region_quiet_below (by kernel_rfl) (by kernel_rfl) ?_;repeat (go_big_quiet_step (fail))
  refine wpQuiet_nil (qnl ?_);intro w1 ew1;go_wp2;go_ret;exact ⟨ret_bool (by first | rfl | (simp;done) | (simp [*];done) | (simp;omega)),(eb.trans ew1)⟩
theorem iFit_4 (A:Option Addr) (ds:List DRule) (c:Nat) (i:Nat) (hi:i<ds.length) (v:DVal) (Vb:Option Addr) (vb:Nat) (Vi:Option Addr) (vi:Nat) (g off:Nat) (w:World) (hd:RdD w A ds c) (hv:ValAt w g off v (.slice Vb v.bytes.length vb) (.slice Vi v.items.length vi)) (hb:v.bytes.length≤9223372036854775807) (hm:v.items.length≤9223372036854775807) (hk:ds[i].kind=4) (hkl:0<ds[i].kids.length) :
 Gives Tryz.prog 68 #[vdesc (.slice A ds.length c),.int .i64 (i:Int),.pointer (some ⟨g,off,none⟩)] w (.bool (fitV ds ds[i] v.num v.bytes.length v.items.length)):=by
 have HE:=lhd (fit_4 ds i hi v hk);rw [HE.out];clear HE;have hl:=hd.len;have HD:=lhd hd;obtain ⟨b,ro,Ab,cb,An,cn,At,ct,Ak,ck,hA,hbb,hS,hR⟩:=hd.at i hi;subst hA;have eb:=Ext_alloc (.cells #[.slice (some ⟨b,ro,none⟩) ds.length c] 26) (Ext.refl w);have BX:=fun w' (e:Ext (w.alloc (.cells #[.slice (some ⟨b,ro,none⟩) ds.length c] 26)) w')=>boxed e 0
 simp only [List.getElem?_toArray,List.getElem?_cons_zero] at BX;have hlk:=hS.k.len;obtain ⟨bk,ok,hAk,hbk,hck⟩:=hS.k.at 0 hkl;subst hAk;simp only [Nat.add_zero] at hck;replace hck:=fun w' (e:Ext (w.alloc (.cells #[.slice (some ⟨b,ro,none⟩) ds.length c] 26)) w')=>hck w' (eb.trans e)
 have hg0:ds[i].kids.getD 0 0=ds[i].kids[0]:=by simp [hkl]
 rw [hg0];generalize ds[i].kids[0]=kz at *;have CL:=lhd (fun w h=>iLimit_c (some ⟨b,ro,none⟩) ds c kz w h);have hkl2:(0:Int)<(ds[i].kids.length:Int):=by omega
 generalize limD ds kz=L at *;have CM:=lhd (fun w=>iMin_c 400 L w);generalize (if L<400 then L else 400)=M at *;obtain ⟨k0,k1,k2,k3,k4,k5,k6,k7⟩:=hR;replace k0:=fun w' (e:Ext (w.alloc (.cells #[.slice (some ⟨b,ro,none⟩) ds.length c] 26)) w')=>k0 w' (eb.trans e)
 replace k1:=fun w' (e:Ext (w.alloc (.cells #[.slice (some ⟨b,ro,none⟩) ds.length c] 26)) w')=>k1 w' (eb.trans e)
 replace k2:=fun w' (e:Ext (w.alloc (.cells #[.slice (some ⟨b,ro,none⟩) ds.length c] 26)) w')=>k2 w' (eb.trans e)
 replace k3:=fun w' (e:Ext (w.alloc (.cells #[.slice (some ⟨b,ro,none⟩) ds.length c] 26)) w')=>k3 w' (eb.trans e)
 replace k4:=fun w' (e:Ext (w.alloc (.cells #[.slice (some ⟨b,ro,none⟩) ds.length c] 26)) w')=>k4 w' (eb.trans e)
 replace k5:=fun w' (e:Ext (w.alloc (.cells #[.slice (some ⟨b,ro,none⟩) ds.length c] 26)) w')=>k5 w' (eb.trans e)
 replace k6:=fun w' (e:Ext (w.alloc (.cells #[.slice (some ⟨b,ro,none⟩) ds.length c] 26)) w')=>k6 w' (eb.trans e)
 replace k7:=fun w' (e:Ext (w.alloc (.cells #[.slice (some ⟨b,ro,none⟩) ds.length c] 26)) w')=>k7 w' (eb.trans e)
 obtain ⟨v0,v1,v2⟩:=hv;replace v0:=fun w' (e:Ext (w.alloc (.cells #[.slice (some ⟨b,ro,none⟩) ds.length c] 26)) w')=>v0 w' (eb.trans e)
 replace v1:=fun w' (e:Ext (w.alloc (.cells #[.slice (some ⟨b,ro,none⟩) ds.length c] 26)) w')=>v1 w' (eb.trans e)
 replace v2:=fun w' (e:Ext (w.alloc (.cells #[.slice (some ⟨b,ro,none⟩) ds.length c] 26)) w')=>v2 w' (eb.trans e)
 generalize ds[i]=r at *;have q1:(r.kind==1)=false:=by rw [hk];rfl
 have q3:(r.kind==3)=false:=by rw [hk];rfl
 have q4:(r.kind==4)=true:=by rw [hk];rfl
 have q10:(r.kind==10)=false:=by rw [hk];rfl
 have q5:(r.kind==5)=false:=by rw [hk];rfl
 have q6:(r.kind==6)=false:=by rw [hk];rfl
 have q7:(r.kind==7)=false:=by rw [hk];rfl
 have q8:(r.kind==8)=false:=by rw [hk];rfl
 have q9:(r.kind==9)=false:=by rw [hk];rfl
 clear hk hd hS;have CI:=lhd (fun w=>iInRange_c v.num 0 0 w);unfold vdesc at *;generalize v.bytes.length=nb at *;generalize v.items.length=nm at *;generalize v.num=num at *;cases z1:(decide ((0:Int)≤num)&&decide (num≤0))
 ·rw [z1] at CI
  go_enter Tryz.func68,Tryz.ntmps68;go_wp2_with fail;refine wp_region_quiet_below (by kernel_rfl) (by kernel_rfl) ?_;repeat (go_big_quiet_step ((first | (go_at_call 87;exact Calls.regrown_of (CL.out _ (HD.out.ext (eb.trans (by first | assumption | exact Ext_regrown _ _ (Ext.refl _)))))) | (go_at_call 88;exact Calls.regrown_of (CM.out _)))))
  refine wpQuiet_nil (qnl ?_);intro w1 ew1;go_wp2_with fail;refine (CI.out _).mono ?_;rintro _ w2 ⟨rfl,ew2⟩;have ew3:=ew1.trans ew2;go_wp2;go_ret;exact ⟨ret_bool (by first | rfl | (simp;done) | (simp [*];done) | (simp;omega)),eb.trans ew3⟩
 ·rw [z1] at CI
  cases ynb:decide ((nb:Int)≤M)
  ·skip
   go_enter Tryz.func68,Tryz.ntmps68;go_wp2_with fail;refine wp_region_quiet_below (by kernel_rfl) (by kernel_rfl) ?_;repeat (go_big_quiet_step ((first | (go_at_call 87;exact Calls.regrown_of (CL.out _ (HD.out.ext (eb.trans (by first | assumption | exact Ext_regrown _ _ (Ext.refl _)))))) | (go_at_call 88;exact Calls.regrown_of (CM.out _)))))
   refine wpQuiet_nil (qnl ?_);intro w1 ew1;go_wp2_with fail;refine (CI.out _).mono ?_;rintro _ w2 ⟨rfl,ew2⟩;have ew3:=ew1.trans ew2;go_wp2;go_ret;exact ⟨ret_bool (by first | rfl | (simp;done) | (simp [*];done) | (simp;omega)),eb.trans ew3⟩
  ·skip
   by_cases hnm:nm=0
   ·subst hnm
    go_enter Tryz.func68,Tryz.ntmps68;go_wp2_with fail;refine wp_region_quiet_below (by kernel_rfl) (by kernel_rfl) ?_;repeat (go_big_quiet_step ((first | (go_at_call 87;exact Calls.regrown_of (CL.out _ (HD.out.ext (eb.trans (by first | assumption | exact Ext_regrown _ _ (Ext.refl _)))))) | (go_at_call 88;exact Calls.regrown_of (CM.out _)))))
    refine wpQuiet_nil (qnl ?_);intro w1 ew1;go_wp2_with fail;refine (CI.out _).mono ?_;rintro _ w2 ⟨rfl,ew2⟩;have ew3:=ew1.trans ew2;go_wp2;go_ret;exact ⟨ret_bool (by first | rfl | (simp;done) | (simp [*];done) | (simp;omega)),eb.trans ew3⟩
   ·have dnm:decide ((nm:Int)≤0)=false:=decide_eq_false (by omega)
    go_enter Tryz.func68,Tryz.ntmps68;go_wp2_with fail;refine wp_region_quiet_below (by kernel_rfl) (by kernel_rfl) ?_;repeat (go_big_quiet_step ((first | (go_at_call 87;exact Calls.regrown_of (CL.out _ (HD.out.ext (eb.trans (by first | assumption | exact Ext_regrown _ _ (Ext.refl _)))))) | (go_at_call 88;exact Calls.regrown_of (CM.out _)))))
    refine wpQuiet_nil (qnl ?_);intro w1 ew1;go_wp2_with fail;refine (CI.out _).mono ?_;rintro _ w2 ⟨rfl,ew2⟩;have ew3:=ew1.trans ew2;go_wp2;go_ret;exact ⟨ret_bool (by first | rfl | (simp;done) | (simp [*];done) | (simp;omega)),eb.trans ew3⟩
theorem iFit_10 (A:Option Addr) (ds:List DRule) (c:Nat) (i:Nat) (hi:i<ds.length) (v:DVal) (Vb:Option Addr) (vb:Nat) (Vi:Option Addr) (vi:Nat) (g off:Nat) (w:World) (hd:RdD w A ds c) (hv:ValAt w g off v (.slice Vb v.bytes.length vb) (.slice Vi v.items.length vi)) (hb:v.bytes.length≤9223372036854775807) (hm:v.items.length≤9223372036854775807) (hk:ds[i].kind=10) :
 Gives Tryz.prog 68 #[vdesc (.slice A ds.length c),.int .i64 (i:Int),.pointer (some ⟨g,off,none⟩)] w (.bool (fitV ds ds[i] v.num v.bytes.length v.items.length)):=by
 have HE:=lhd (fit_10 ds i hi v hk);rw [HE.out];clear HE;have hl:=hd.len;have HD:=lhd hd;obtain ⟨b,ro,Ab,cb,An,cn,At,ct,Ak,ck,hA,hbb,hS,hR⟩:=hd.at i hi;subst hA;have eb:=Ext_alloc (.cells #[.slice (some ⟨b,ro,none⟩) ds.length c] 26) (Ext.refl w);have BX:=fun w' (e:Ext (w.alloc (.cells #[.slice (some ⟨b,ro,none⟩) ds.length c] 26)) w')=>boxed e 0
 simp only [List.getElem?_toArray,List.getElem?_cons_zero] at BX;have hlk:=hS.k.len;obtain ⟨k0,k1,k2,k3,k4,k5,k6,k7⟩:=hR;replace k0:=fun w' (e:Ext (w.alloc (.cells #[.slice (some ⟨b,ro,none⟩) ds.length c] 26)) w')=>k0 w' (eb.trans e)
 replace k1:=fun w' (e:Ext (w.alloc (.cells #[.slice (some ⟨b,ro,none⟩) ds.length c] 26)) w')=>k1 w' (eb.trans e)
 replace k2:=fun w' (e:Ext (w.alloc (.cells #[.slice (some ⟨b,ro,none⟩) ds.length c] 26)) w')=>k2 w' (eb.trans e)
 replace k3:=fun w' (e:Ext (w.alloc (.cells #[.slice (some ⟨b,ro,none⟩) ds.length c] 26)) w')=>k3 w' (eb.trans e)
 replace k4:=fun w' (e:Ext (w.alloc (.cells #[.slice (some ⟨b,ro,none⟩) ds.length c] 26)) w')=>k4 w' (eb.trans e)
 replace k5:=fun w' (e:Ext (w.alloc (.cells #[.slice (some ⟨b,ro,none⟩) ds.length c] 26)) w')=>k5 w' (eb.trans e)
 replace k6:=fun w' (e:Ext (w.alloc (.cells #[.slice (some ⟨b,ro,none⟩) ds.length c] 26)) w')=>k6 w' (eb.trans e)
 replace k7:=fun w' (e:Ext (w.alloc (.cells #[.slice (some ⟨b,ro,none⟩) ds.length c] 26)) w')=>k7 w' (eb.trans e)
 obtain ⟨v0,v1,v2⟩:=hv;replace v0:=fun w' (e:Ext (w.alloc (.cells #[.slice (some ⟨b,ro,none⟩) ds.length c] 26)) w')=>v0 w' (eb.trans e)
 replace v1:=fun w' (e:Ext (w.alloc (.cells #[.slice (some ⟨b,ro,none⟩) ds.length c] 26)) w')=>v1 w' (eb.trans e)
 replace v2:=fun w' (e:Ext (w.alloc (.cells #[.slice (some ⟨b,ro,none⟩) ds.length c] 26)) w')=>v2 w' (eb.trans e)
 generalize ds[i]=r at *;have q1:(r.kind==1)=false:=by rw [hk];rfl
 have q3:(r.kind==3)=false:=by rw [hk];rfl
 have q4:(r.kind==4)=false:=by rw [hk];rfl
 have q10:(r.kind==10)=true:=by rw [hk];rfl
 have q5:(r.kind==5)=false:=by rw [hk];rfl
 have q6:(r.kind==6)=false:=by rw [hk];rfl
 have q7:(r.kind==7)=false:=by rw [hk];rfl
 have q8:(r.kind==8)=false:=by rw [hk];rfl
 have q9:(r.kind==9)=false:=by rw [hk];rfl
 clear hk hd hS;have CI:=lhd (fun w=>iInRange_c v.num 0 0 w);unfold vdesc at *;generalize v.bytes.length=nb at *;generalize v.items.length=nm at *;generalize v.num=num at *;cases z1:(decide ((0:Int)≤num)&&decide (num≤0))
 ·rw [z1] at CI
  go_enter Tryz.func68,Tryz.ntmps68;go_wp2_with fail;refine (CI.out _).mono ?_;rintro _ w2 ⟨rfl,ew2⟩;go_wp2;go_ret;exact ⟨ret_bool (by first | rfl | (simp;done) | (simp [*];done) | (simp;omega)),eb.trans ew2⟩
 ·rw [z1] at CI
  cases ynb:decide ((nb:Int)≤400)
  ·have xynb:decide (nb≤400)=false:=by rw [← ynb];exact (dec_le _ _).symm
   go_enter Tryz.func68,Tryz.ntmps68;go_wp2_with fail;refine (CI.out _).mono ?_;rintro _ w2 ⟨rfl,ew2⟩;go_wp2;go_ret;exact ⟨ret_bool (by first | rfl | (simp;done) | (simp [*];done) | (simp;omega)),eb.trans ew2⟩
  ·have xynb:decide (nb≤400)=true:=by rw [← ynb];exact (dec_le _ _).symm
   by_cases hnm:nm=0
   ·subst hnm
    go_enter Tryz.func68,Tryz.ntmps68;go_wp2_with fail;refine (CI.out _).mono ?_;rintro _ w2 ⟨rfl,ew2⟩;go_wp2;go_ret;exact ⟨ret_bool (by first | rfl | (simp;done) | (simp [*];done) | (simp;omega)),eb.trans ew2⟩
   ·have dnm:decide ((nm:Int)≤0)=false:=decide_eq_false (by omega)
    go_enter Tryz.func68,Tryz.ntmps68;go_wp2_with fail;refine (CI.out _).mono ?_;rintro _ w2 ⟨rfl,ew2⟩;go_wp2;go_ret;exact ⟨ret_bool (by first | rfl | (simp;done) | (simp [*];done) | (simp;omega)),eb.trans ew2⟩
theorem iFit_5 (A:Option Addr) (ds:List DRule) (c:Nat) (i:Nat) (hi:i<ds.length) (v:DVal) (Vb:Option Addr) (vb:Nat) (Vi:Option Addr) (vi:Nat) (g off:Nat) (w:World) (hd:RdD w A ds c) (hv:ValAt w g off v (.slice Vb v.bytes.length vb) (.slice Vi v.items.length vi)) (hb:v.bytes.length≤9223372036854775807) (hm:v.items.length≤9223372036854775807) (hk:ds[i].kind=5) (hkl:0<ds[i].kids.length) :
 Gives Tryz.prog 68 #[vdesc (.slice A ds.length c),.int .i64 (i:Int),.pointer (some ⟨g,off,none⟩)] w (.bool (fitV ds ds[i] v.num v.bytes.length v.items.length)):=by
 have HE:=lhd (fit_5 ds i hi v hk);rw [HE.out];clear HE;have hl:=hd.len;have HD:=lhd hd;obtain ⟨b,ro,Ab,cb,An,cn,At,ct,Ak,ck,hA,hbb,hS,hR⟩:=hd.at i hi;subst hA;have eb:=Ext_alloc (.cells #[.slice (some ⟨b,ro,none⟩) ds.length c] 26) (Ext.refl w);have BX:=fun w' (e:Ext (w.alloc (.cells #[.slice (some ⟨b,ro,none⟩) ds.length c] 26)) w')=>boxed e 0
 simp only [List.getElem?_toArray,List.getElem?_cons_zero] at BX;have hlk:=hS.k.len;obtain ⟨bk,ok,hAk,hbk,hck⟩:=hS.k.at 0 hkl;subst hAk;simp only [Nat.add_zero] at hck;replace hck:=fun w' (e:Ext (w.alloc (.cells #[.slice (some ⟨b,ro,none⟩) ds.length c] 26)) w')=>hck w' (eb.trans e)
 have hg0:ds[i].kids.getD 0 0=ds[i].kids[0]:=by simp [hkl]
 rw [hg0];generalize ds[i].kids[0]=kz at *;have CL:=lhd (fun w h=>iLimit_c (some ⟨b,ro,none⟩) ds c kz w h);have hkl2:(0:Int)<(ds[i].kids.length:Int):=by omega
 generalize limD ds kz=L at *;have CM:=lhd (fun w=>iMin_c 40 L w);generalize (if L<40 then L else 40)=M at *;obtain ⟨k0,k1,k2,k3,k4,k5,k6,k7⟩:=hR;replace k0:=fun w' (e:Ext (w.alloc (.cells #[.slice (some ⟨b,ro,none⟩) ds.length c] 26)) w')=>k0 w' (eb.trans e)
 replace k1:=fun w' (e:Ext (w.alloc (.cells #[.slice (some ⟨b,ro,none⟩) ds.length c] 26)) w')=>k1 w' (eb.trans e)
 replace k2:=fun w' (e:Ext (w.alloc (.cells #[.slice (some ⟨b,ro,none⟩) ds.length c] 26)) w')=>k2 w' (eb.trans e)
 replace k3:=fun w' (e:Ext (w.alloc (.cells #[.slice (some ⟨b,ro,none⟩) ds.length c] 26)) w')=>k3 w' (eb.trans e)
 replace k4:=fun w' (e:Ext (w.alloc (.cells #[.slice (some ⟨b,ro,none⟩) ds.length c] 26)) w')=>k4 w' (eb.trans e)
 replace k5:=fun w' (e:Ext (w.alloc (.cells #[.slice (some ⟨b,ro,none⟩) ds.length c] 26)) w')=>k5 w' (eb.trans e)
 replace k6:=fun w' (e:Ext (w.alloc (.cells #[.slice (some ⟨b,ro,none⟩) ds.length c] 26)) w')=>k6 w' (eb.trans e)
 replace k7:=fun w' (e:Ext (w.alloc (.cells #[.slice (some ⟨b,ro,none⟩) ds.length c] 26)) w')=>k7 w' (eb.trans e)
 obtain ⟨v0,v1,v2⟩:=hv;replace v0:=fun w' (e:Ext (w.alloc (.cells #[.slice (some ⟨b,ro,none⟩) ds.length c] 26)) w')=>v0 w' (eb.trans e)
 replace v1:=fun w' (e:Ext (w.alloc (.cells #[.slice (some ⟨b,ro,none⟩) ds.length c] 26)) w')=>v1 w' (eb.trans e)
 replace v2:=fun w' (e:Ext (w.alloc (.cells #[.slice (some ⟨b,ro,none⟩) ds.length c] 26)) w')=>v2 w' (eb.trans e)
 generalize ds[i]=r at *;have q1:(r.kind==1)=false:=by rw [hk];rfl
 have q3:(r.kind==3)=false:=by rw [hk];rfl
 have q4:(r.kind==4)=false:=by rw [hk];rfl
 have q10:(r.kind==10)=false:=by rw [hk];rfl
 have q5:(r.kind==5)=true:=by rw [hk];rfl
 have q6:(r.kind==6)=false:=by rw [hk];rfl
 have q7:(r.kind==7)=false:=by rw [hk];rfl
 have q8:(r.kind==8)=false:=by rw [hk];rfl
 have q9:(r.kind==9)=false:=by rw [hk];rfl
 clear hk hd hS;have CI:=lhd (fun w=>iInRange_c v.num 0 0 w);unfold vdesc at *;generalize v.bytes.length=nb at *;generalize v.items.length=nm at *;generalize v.num=num at *;cases z1:(decide ((0:Int)≤num)&&decide (num≤0))
 ·rw [z1] at CI
  go_enter Tryz.func68,Tryz.ntmps68;go_wp2_with fail;refine wp_region_quiet_below (by kernel_rfl) (by kernel_rfl) ?_;repeat (go_big_quiet_step ((first | (go_at_call 87;exact Calls.regrown_of (CL.out _ (HD.out.ext (eb.trans (by first | assumption | exact Ext_regrown _ _ (Ext.refl _)))))) | (go_at_call 88;exact Calls.regrown_of (CM.out _)))))
  refine wpQuiet_nil (qnl ?_);intro w1 ew1;go_wp2_with fail;refine (CI.out _).mono ?_;rintro _ w2 ⟨rfl,ew2⟩;have ew3:=ew1.trans ew2;go_wp2;go_ret;exact ⟨ret_bool (by first | rfl | (simp;done) | (simp [*];done) | (simp;omega)),eb.trans ew3⟩
 ·rw [z1] at CI
  by_cases hnb:nb=0
  ·subst hnb
   cases ynm:decide ((nm:Int)≤M)
   ·skip
    go_enter Tryz.func68,Tryz.ntmps68;go_wp2_with fail;refine wp_region_quiet_below (by kernel_rfl) (by kernel_rfl) ?_;repeat (go_big_quiet_step ((first | (go_at_call 87;exact Calls.regrown_of (CL.out _ (HD.out.ext (eb.trans (by first | assumption | exact Ext_regrown _ _ (Ext.refl _)))))) | (go_at_call 88;exact Calls.regrown_of (CM.out _)))))
    refine wpQuiet_nil (qnl ?_);intro w1 ew1;go_wp2_with fail;refine (CI.out _).mono ?_;rintro _ w2 ⟨rfl,ew2⟩;have ew3:=ew1.trans ew2;go_wp2;go_ret;exact ⟨ret_bool (by first | rfl | (simp;done) | (simp [*];done) | (simp;omega)),eb.trans ew3⟩
   ·skip
    go_enter Tryz.func68,Tryz.ntmps68;go_wp2_with fail;refine wp_region_quiet_below (by kernel_rfl) (by kernel_rfl) ?_;repeat (go_big_quiet_step ((first | (go_at_call 87;exact Calls.regrown_of (CL.out _ (HD.out.ext (eb.trans (by first | assumption | exact Ext_regrown _ _ (Ext.refl _)))))) | (go_at_call 88;exact Calls.regrown_of (CM.out _)))))
    refine wpQuiet_nil (qnl ?_);intro w1 ew1;go_wp2_with fail;refine (CI.out _).mono ?_;rintro _ w2 ⟨rfl,ew2⟩;have ew3:=ew1.trans ew2;go_wp2;go_ret;exact ⟨ret_bool (by first | rfl | (simp;done) | (simp [*];done) | (simp;omega)),eb.trans ew3⟩
  ·have dnb:decide ((nb:Int)≤0)=false:=decide_eq_false (by omega)
   go_enter Tryz.func68,Tryz.ntmps68;go_wp2_with fail;refine wp_region_quiet_below (by kernel_rfl) (by kernel_rfl) ?_;repeat (go_big_quiet_step ((first | (go_at_call 87;exact Calls.regrown_of (CL.out _ (HD.out.ext (eb.trans (by first | assumption | exact Ext_regrown _ _ (Ext.refl _)))))) | (go_at_call 88;exact Calls.regrown_of (CM.out _)))))
   refine wpQuiet_nil (qnl ?_);intro w1 ew1;go_wp2_with fail;refine (CI.out _).mono ?_;rintro _ w2 ⟨rfl,ew2⟩;have ew3:=ew1.trans ew2;go_wp2;go_ret;exact ⟨ret_bool (by first | rfl | (simp;done) | (simp [*];done) | (simp;omega)),eb.trans ew3⟩
theorem iFit_6 (A:Option Addr) (ds:List DRule) (c:Nat) (i:Nat) (hi:i<ds.length) (v:DVal) (Vb:Option Addr) (vb:Nat) (Vi:Option Addr) (vi:Nat) (g off:Nat) (w:World) (hd:RdD w A ds c) (hv:ValAt w g off v (.slice Vb v.bytes.length vb) (.slice Vi v.items.length vi)) (hb:v.bytes.length≤9223372036854775807) (hm:v.items.length≤9223372036854775807) (hk:ds[i].kind=6) :
 Gives Tryz.prog 68 #[vdesc (.slice A ds.length c),.int .i64 (i:Int),.pointer (some ⟨g,off,none⟩)] w (.bool (fitV ds ds[i] v.num v.bytes.length v.items.length)):=by
 have HE:=lhd (fit_6 ds i hi v hk);rw [HE.out];clear HE;have hl:=hd.len;have HD:=lhd hd;obtain ⟨b,ro,Ab,cb,An,cn,At,ct,Ak,ck,hA,hbb,hS,hR⟩:=hd.at i hi;subst hA;have eb:=Ext_alloc (.cells #[.slice (some ⟨b,ro,none⟩) ds.length c] 26) (Ext.refl w);have BX:=fun w' (e:Ext (w.alloc (.cells #[.slice (some ⟨b,ro,none⟩) ds.length c] 26)) w')=>boxed e 0
 simp only [List.getElem?_toArray,List.getElem?_cons_zero] at BX;have hlk:=hS.k.len;obtain ⟨k0,k1,k2,k3,k4,k5,k6,k7⟩:=hR;replace k0:=fun w' (e:Ext (w.alloc (.cells #[.slice (some ⟨b,ro,none⟩) ds.length c] 26)) w')=>k0 w' (eb.trans e)
 replace k1:=fun w' (e:Ext (w.alloc (.cells #[.slice (some ⟨b,ro,none⟩) ds.length c] 26)) w')=>k1 w' (eb.trans e)
 replace k2:=fun w' (e:Ext (w.alloc (.cells #[.slice (some ⟨b,ro,none⟩) ds.length c] 26)) w')=>k2 w' (eb.trans e)
 replace k3:=fun w' (e:Ext (w.alloc (.cells #[.slice (some ⟨b,ro,none⟩) ds.length c] 26)) w')=>k3 w' (eb.trans e)
 replace k4:=fun w' (e:Ext (w.alloc (.cells #[.slice (some ⟨b,ro,none⟩) ds.length c] 26)) w')=>k4 w' (eb.trans e)
 replace k5:=fun w' (e:Ext (w.alloc (.cells #[.slice (some ⟨b,ro,none⟩) ds.length c] 26)) w')=>k5 w' (eb.trans e)
 replace k6:=fun w' (e:Ext (w.alloc (.cells #[.slice (some ⟨b,ro,none⟩) ds.length c] 26)) w')=>k6 w' (eb.trans e)
 replace k7:=fun w' (e:Ext (w.alloc (.cells #[.slice (some ⟨b,ro,none⟩) ds.length c] 26)) w')=>k7 w' (eb.trans e)
 obtain ⟨v0,v1,v2⟩:=hv;replace v0:=fun w' (e:Ext (w.alloc (.cells #[.slice (some ⟨b,ro,none⟩) ds.length c] 26)) w')=>v0 w' (eb.trans e)
 replace v1:=fun w' (e:Ext (w.alloc (.cells #[.slice (some ⟨b,ro,none⟩) ds.length c] 26)) w')=>v1 w' (eb.trans e)
 replace v2:=fun w' (e:Ext (w.alloc (.cells #[.slice (some ⟨b,ro,none⟩) ds.length c] 26)) w')=>v2 w' (eb.trans e)
 generalize ds[i]=r at *;have q1:(r.kind==1)=false:=by rw [hk];rfl
 have q3:(r.kind==3)=false:=by rw [hk];rfl
 have q4:(r.kind==4)=false:=by rw [hk];rfl
 have q10:(r.kind==10)=false:=by rw [hk];rfl
 have q5:(r.kind==5)=false:=by rw [hk];rfl
 have q6:(r.kind==6)=true:=by rw [hk];rfl
 have q7:(r.kind==7)=false:=by rw [hk];rfl
 have q8:(r.kind==8)=false:=by rw [hk];rfl
 have q9:(r.kind==9)=false:=by rw [hk];rfl
 clear hk hd hS;have CI:=lhd (fun w=>iInRange_c v.num 0 0 w);unfold vdesc at *;generalize v.bytes.length=nb at *;generalize v.items.length=nm at *;generalize v.num=num at *;cases z0:((nm:Int) !=(r.kids.length:Int))
 ·skip
  cases z1:(decide ((0:Int)≤num)&&decide (num≤0))
  ·rw [z1] at CI
   go_enter Tryz.func68,Tryz.ntmps68;go_wp2_with fail;refine (CI.out _).mono ?_;rintro _ w2 ⟨rfl,ew2⟩;go_wp2;go_ret;exact ⟨ret_bool (by first | rfl | (simp;done) | (simp [*];done) | (simp;omega)),eb.trans ew2⟩
  ·rw [z1] at CI
   by_cases hnb:nb=0
   ·subst hnb
    cases ynm:decide ((nm:Int)≤(r.kids.length:Int))
    ·have xynm:decide (nm≤r.kids.length)=false:=by rw [← ynm];exact (dec_le _ _).symm
     go_enter Tryz.func68,Tryz.ntmps68;go_wp2_with fail;refine (CI.out _).mono ?_;rintro _ w2 ⟨rfl,ew2⟩;go_wp2;go_ret;exact ⟨ret_bool (by first | rfl | (simp;done) | (simp [*];done) | (simp;omega)),eb.trans ew2⟩
    ·have xynm:decide (nm≤r.kids.length)=true:=by rw [← ynm];exact (dec_le _ _).symm
     go_enter Tryz.func68,Tryz.ntmps68;go_wp2_with fail;refine (CI.out _).mono ?_;rintro _ w2 ⟨rfl,ew2⟩;go_wp2;go_ret;exact ⟨ret_bool (by first | rfl | (simp;done) | (simp [*];done) | (simp;omega)),eb.trans ew2⟩
   ·have dnb:decide ((nb:Int)≤0)=false:=decide_eq_false (by omega)
    go_enter Tryz.func68,Tryz.ntmps68;go_wp2_with fail;refine (CI.out _).mono ?_;rintro _ w2 ⟨rfl,ew2⟩;go_wp2;go_ret;exact ⟨ret_bool (by first | rfl | (simp;done) | (simp [*];done) | (simp;omega)),eb.trans ew2⟩
 ·skip
  go_enter Tryz.func68,Tryz.ntmps68;go_wp2_with fail;go_wp2;go_ret;exact ⟨ret_bool (by first | rfl | (simp;done) | (simp [*];done) | (simp;omega)),eb⟩
theorem iFit_7 (A:Option Addr) (ds:List DRule) (c:Nat) (i:Nat) (hi:i<ds.length) (v:DVal) (Vb:Option Addr) (vb:Nat) (Vi:Option Addr) (vi:Nat) (g off:Nat) (w:World) (hd:RdD w A ds c) (hv:ValAt w g off v (.slice Vb v.bytes.length vb) (.slice Vi v.items.length vi)) (hb:v.bytes.length≤9223372036854775807) (hm:v.items.length≤9223372036854775807) (hk:ds[i].kind=7) (hkl:0<ds[i].kids.length) :
 Gives Tryz.prog 68 #[vdesc (.slice A ds.length c),.int .i64 (i:Int),.pointer (some ⟨g,off,none⟩)] w (.bool (fitV ds ds[i] v.num v.bytes.length v.items.length)):=by
 have HE:=lhd (fit_7 ds i hi v hk);rw [HE.out];clear HE;have hl:=hd.len;have HD:=lhd hd;obtain ⟨b,ro,Ab,cb,An,cn,At,ct,Ak,ck,hA,hbb,hS,hR⟩:=hd.at i hi;subst hA;have eb:=Ext_alloc (.cells #[.slice (some ⟨b,ro,none⟩) ds.length c] 26) (Ext.refl w);have BX:=fun w' (e:Ext (w.alloc (.cells #[.slice (some ⟨b,ro,none⟩) ds.length c] 26)) w')=>boxed e 0
 simp only [List.getElem?_toArray,List.getElem?_cons_zero] at BX;have hlk:=hS.k.len;obtain ⟨bk,ok,hAk,hbk,hck⟩:=hS.k.at 0 hkl;subst hAk;simp only [Nat.add_zero] at hck;replace hck:=fun w' (e:Ext (w.alloc (.cells #[.slice (some ⟨b,ro,none⟩) ds.length c] 26)) w')=>hck w' (eb.trans e)
 have hg0:ds[i].kids.getD 0 0=ds[i].kids[0]:=by simp [hkl]
 rw [hg0];generalize ds[i].kids[0]=kz at *;have CL:=lhd (fun w h=>iLimit_c (some ⟨b,ro,none⟩) ds c kz w h);have hkl2:(0:Int)<(ds[i].kids.length:Int):=by omega
 generalize limD ds kz=L at *;obtain ⟨k0,k1,k2,k3,k4,k5,k6,k7⟩:=hR;replace k0:=fun w' (e:Ext (w.alloc (.cells #[.slice (some ⟨b,ro,none⟩) ds.length c] 26)) w')=>k0 w' (eb.trans e)
 replace k1:=fun w' (e:Ext (w.alloc (.cells #[.slice (some ⟨b,ro,none⟩) ds.length c] 26)) w')=>k1 w' (eb.trans e)
 replace k2:=fun w' (e:Ext (w.alloc (.cells #[.slice (some ⟨b,ro,none⟩) ds.length c] 26)) w')=>k2 w' (eb.trans e)
 replace k3:=fun w' (e:Ext (w.alloc (.cells #[.slice (some ⟨b,ro,none⟩) ds.length c] 26)) w')=>k3 w' (eb.trans e)
 replace k4:=fun w' (e:Ext (w.alloc (.cells #[.slice (some ⟨b,ro,none⟩) ds.length c] 26)) w')=>k4 w' (eb.trans e)
 replace k5:=fun w' (e:Ext (w.alloc (.cells #[.slice (some ⟨b,ro,none⟩) ds.length c] 26)) w')=>k5 w' (eb.trans e)
 replace k6:=fun w' (e:Ext (w.alloc (.cells #[.slice (some ⟨b,ro,none⟩) ds.length c] 26)) w')=>k6 w' (eb.trans e)
 replace k7:=fun w' (e:Ext (w.alloc (.cells #[.slice (some ⟨b,ro,none⟩) ds.length c] 26)) w')=>k7 w' (eb.trans e)
 obtain ⟨v0,v1,v2⟩:=hv;replace v0:=fun w' (e:Ext (w.alloc (.cells #[.slice (some ⟨b,ro,none⟩) ds.length c] 26)) w')=>v0 w' (eb.trans e)
 replace v1:=fun w' (e:Ext (w.alloc (.cells #[.slice (some ⟨b,ro,none⟩) ds.length c] 26)) w')=>v1 w' (eb.trans e)
 replace v2:=fun w' (e:Ext (w.alloc (.cells #[.slice (some ⟨b,ro,none⟩) ds.length c] 26)) w')=>v2 w' (eb.trans e)
 generalize ds[i]=r at *;have q1:(r.kind==1)=false:=by rw [hk];rfl
 have q3:(r.kind==3)=false:=by rw [hk];rfl
 have q4:(r.kind==4)=false:=by rw [hk];rfl
 have q10:(r.kind==10)=false:=by rw [hk];rfl
 have q5:(r.kind==5)=false:=by rw [hk];rfl
 have q6:(r.kind==6)=false:=by rw [hk];rfl
 have q7:(r.kind==7)=true:=by rw [hk];rfl
 have q8:(r.kind==8)=false:=by rw [hk];rfl
 have q9:(r.kind==9)=false:=by rw [hk];rfl
 clear hk hd hS;have CI:=lhd (fun w=>iInRange_c v.num 0 L w);unfold vdesc at *;generalize v.bytes.length=nb at *;generalize v.items.length=nm at *;generalize v.num=num at *
 by_cases h0:nm=1
 ·subst h0
  cases z1:(decide ((0:Int)≤num)&&decide (num≤L))
  ·rw [z1] at CI
   go_enter Tryz.func68,Tryz.ntmps68;go_wp2_with fail;refine wp_region_quiet_below (by kernel_rfl) (by kernel_rfl) ?_;repeat (go_big_quiet_step ((go_at_call 87;exact Calls.regrown_of (CL.out _ (HD.out.ext (eb.trans (by first | assumption | exact Ext_regrown _ _ (Ext.refl _))))))))
   refine wpQuiet_nil (qnl ?_);intro w1 ew1;go_wp2_with fail;refine (CI.out _).mono ?_;rintro _ w2 ⟨rfl,ew2⟩;have ew3:=ew1.trans ew2;go_wp2;go_ret;exact ⟨ret_bool (by first | rfl | (simp;done) | (simp [*];done) | (simp;omega)),eb.trans ew3⟩
  ·rw [z1] at CI
   by_cases hnb:nb=0
   ·subst hnb
    go_enter Tryz.func68,Tryz.ntmps68;go_wp2_with fail;refine wp_region_quiet_below (by kernel_rfl) (by kernel_rfl) ?_;repeat (go_big_quiet_step ((go_at_call 87;exact Calls.regrown_of (CL.out _ (HD.out.ext (eb.trans (by first | assumption | exact Ext_regrown _ _ (Ext.refl _))))))))
    refine wpQuiet_nil (qnl ?_);intro w1 ew1;go_wp2_with fail;refine (CI.out _).mono ?_;rintro _ w2 ⟨rfl,ew2⟩;have ew3:=ew1.trans ew2;go_wp2;go_ret;exact ⟨ret_bool (by first | rfl | (simp;done) | (simp [*];done) | (simp;omega)),eb.trans ew3⟩
   ·have dnb:decide ((nb:Int)≤0)=false:=decide_eq_false (by omega)
    go_enter Tryz.func68,Tryz.ntmps68;go_wp2_with fail;refine wp_region_quiet_below (by kernel_rfl) (by kernel_rfl) ?_;repeat (go_big_quiet_step ((go_at_call 87;exact Calls.regrown_of (CL.out _ (HD.out.ext (eb.trans (by first | assumption | exact Ext_regrown _ _ (Ext.refl _))))))))
    refine wpQuiet_nil (qnl ?_);intro w1 ew1;go_wp2_with fail;refine (CI.out _).mono ?_;rintro _ w2 ⟨rfl,ew2⟩;have ew3:=ew1.trans ew2;go_wp2;go_ret;exact ⟨ret_bool (by first | rfl | (simp;done) | (simp [*];done) | (simp;omega)),eb.trans ew3⟩
 ·have hne:((nm:Int) !=1)=true:=by simp;omega
  go_enter Tryz.func68,Tryz.ntmps68;go_wp2_with fail;refine wp_region_quiet_below (by kernel_rfl) (by kernel_rfl) ?_;repeat (go_big_quiet_step ((go_at_call 87;exact Calls.regrown_of (CL.out _ (HD.out.ext (eb.trans (by first | assumption | exact Ext_regrown _ _ (Ext.refl _))))))))
  refine wpQuiet_nil (qnl ?_);intro w1 ew1;go_wp2;go_ret;exact ⟨ret_bool (by first | rfl | (simp;done) | (simp [*];done) | (simp;omega)),(eb.trans ew1)⟩
theorem iFit_8 (A:Option Addr) (ds:List DRule) (c:Nat) (i:Nat) (hi:i<ds.length) (v:DVal) (Vb:Option Addr) (vb:Nat) (Vi:Option Addr) (vi:Nat) (g off:Nat) (w:World) (hd:RdD w A ds c) (hv:ValAt w g off v (.slice Vb v.bytes.length vb) (.slice Vi v.items.length vi)) (hb:v.bytes.length≤9223372036854775807) (hm:v.items.length≤9223372036854775807) (hk:ds[i].kind=8) :
 Gives Tryz.prog 68 #[vdesc (.slice A ds.length c),.int .i64 (i:Int),.pointer (some ⟨g,off,none⟩)] w (.bool (fitV ds ds[i] v.num v.bytes.length v.items.length)):=by
 have HE:=lhd (fit_8 ds i hi v hk);rw [HE.out];clear HE;have hl:=hd.len;have HD:=lhd hd;obtain ⟨b,ro,Ab,cb,An,cn,At,ct,Ak,ck,hA,hbb,hS,hR⟩:=hd.at i hi;subst hA;have eb:=Ext_alloc (.cells #[.slice (some ⟨b,ro,none⟩) ds.length c] 26) (Ext.refl w);have BX:=fun w' (e:Ext (w.alloc (.cells #[.slice (some ⟨b,ro,none⟩) ds.length c] 26)) w')=>boxed e 0
 simp only [List.getElem?_toArray,List.getElem?_cons_zero] at BX;have hlk:=hS.k.len;obtain ⟨k0,k1,k2,k3,k4,k5,k6,k7⟩:=hR;replace k0:=fun w' (e:Ext (w.alloc (.cells #[.slice (some ⟨b,ro,none⟩) ds.length c] 26)) w')=>k0 w' (eb.trans e)
 replace k1:=fun w' (e:Ext (w.alloc (.cells #[.slice (some ⟨b,ro,none⟩) ds.length c] 26)) w')=>k1 w' (eb.trans e)
 replace k2:=fun w' (e:Ext (w.alloc (.cells #[.slice (some ⟨b,ro,none⟩) ds.length c] 26)) w')=>k2 w' (eb.trans e)
 replace k3:=fun w' (e:Ext (w.alloc (.cells #[.slice (some ⟨b,ro,none⟩) ds.length c] 26)) w')=>k3 w' (eb.trans e)
 replace k4:=fun w' (e:Ext (w.alloc (.cells #[.slice (some ⟨b,ro,none⟩) ds.length c] 26)) w')=>k4 w' (eb.trans e)
 replace k5:=fun w' (e:Ext (w.alloc (.cells #[.slice (some ⟨b,ro,none⟩) ds.length c] 26)) w')=>k5 w' (eb.trans e)
 replace k6:=fun w' (e:Ext (w.alloc (.cells #[.slice (some ⟨b,ro,none⟩) ds.length c] 26)) w')=>k6 w' (eb.trans e)
 replace k7:=fun w' (e:Ext (w.alloc (.cells #[.slice (some ⟨b,ro,none⟩) ds.length c] 26)) w')=>k7 w' (eb.trans e)
 obtain ⟨v0,v1,v2⟩:=hv;replace v0:=fun w' (e:Ext (w.alloc (.cells #[.slice (some ⟨b,ro,none⟩) ds.length c] 26)) w')=>v0 w' (eb.trans e)
 replace v1:=fun w' (e:Ext (w.alloc (.cells #[.slice (some ⟨b,ro,none⟩) ds.length c] 26)) w')=>v1 w' (eb.trans e)
 replace v2:=fun w' (e:Ext (w.alloc (.cells #[.slice (some ⟨b,ro,none⟩) ds.length c] 26)) w')=>v2 w' (eb.trans e)
 generalize ds[i]=r at *;have q1:(r.kind==1)=false:=by rw [hk];rfl
 have q3:(r.kind==3)=false:=by rw [hk];rfl
 have q4:(r.kind==4)=false:=by rw [hk];rfl
 have q10:(r.kind==10)=false:=by rw [hk];rfl
 have q5:(r.kind==5)=false:=by rw [hk];rfl
 have q6:(r.kind==6)=false:=by rw [hk];rfl
 have q7:(r.kind==7)=false:=by rw [hk];rfl
 have q8:(r.kind==8)=true:=by rw [hk];rfl
 have q9:(r.kind==9)=false:=by rw [hk];rfl
 clear hk hd hS;have CI:=lhd (fun w=>iInRange_c v.num 0 0 w);unfold vdesc at *;generalize v.bytes.length=nb at *;generalize v.items.length=nm at *;generalize v.num=num at *;cases z1:(decide ((0:Int)≤num)&&decide (num≤0))
 ·rw [z1] at CI
  go_enter Tryz.func68,Tryz.ntmps68;go_wp2_with fail;refine (CI.out _).mono ?_;rintro _ w2 ⟨rfl,ew2⟩;go_wp2;go_ret;exact ⟨ret_bool (by first | rfl | (simp;done) | (simp [*];done) | (simp;omega)),eb.trans ew2⟩
 ·rw [z1] at CI
  by_cases hnb:nb=0
  ·subst hnb
   cases ynm:decide ((nm:Int)≤1)
   ·have xynm:decide (nm≤1)=false:=by rw [← ynm];exact (dec_le _ _).symm
    go_enter Tryz.func68,Tryz.ntmps68;go_wp2_with fail;refine (CI.out _).mono ?_;rintro _ w2 ⟨rfl,ew2⟩;go_wp2;go_ret;exact ⟨ret_bool (by first | rfl | (simp;done) | (simp [*];done) | (simp;omega)),eb.trans ew2⟩
   ·have xynm:decide (nm≤1)=true:=by rw [← ynm];exact (dec_le _ _).symm
    go_enter Tryz.func68,Tryz.ntmps68;go_wp2_with fail;refine (CI.out _).mono ?_;rintro _ w2 ⟨rfl,ew2⟩;go_wp2;go_ret;exact ⟨ret_bool (by first | rfl | (simp;done) | (simp [*];done) | (simp;omega)),eb.trans ew2⟩
  ·have dnb:decide ((nb:Int)≤0)=false:=decide_eq_false (by omega)
   go_enter Tryz.func68,Tryz.ntmps68;go_wp2_with fail;refine (CI.out _).mono ?_;rintro _ w2 ⟨rfl,ew2⟩;go_wp2;go_ret;exact ⟨ret_bool (by first | rfl | (simp;done) | (simp [*];done) | (simp;omega)),eb.trans ew2⟩
theorem iFit_9 (A:Option Addr) (ds:List DRule) (c:Nat) (i:Nat) (hi:i<ds.length) (v:DVal) (Vb:Option Addr) (vb:Nat) (Vi:Option Addr) (vi:Nat) (g off:Nat) (w:World) (hd:RdD w A ds c) (hv:ValAt w g off v (.slice Vb v.bytes.length vb) (.slice Vi v.items.length vi)) (hb:v.bytes.length≤9223372036854775807) (hm:v.items.length≤9223372036854775807) (hk:ds[i].kind=9) :
 Gives Tryz.prog 68 #[vdesc (.slice A ds.length c),.int .i64 (i:Int),.pointer (some ⟨g,off,none⟩)] w (.bool (fitV ds ds[i] v.num v.bytes.length v.items.length)):=by
 have HE:=lhd (fit_9 ds i hi v hk);rw [HE.out];clear HE;have hl:=hd.len;have HD:=lhd hd;obtain ⟨b,ro,Ab,cb,An,cn,At,ct,Ak,ck,hA,hbb,hS,hR⟩:=hd.at i hi;subst hA;have eb:=Ext_alloc (.cells #[.slice (some ⟨b,ro,none⟩) ds.length c] 26) (Ext.refl w);have BX:=fun w' (e:Ext (w.alloc (.cells #[.slice (some ⟨b,ro,none⟩) ds.length c] 26)) w')=>boxed e 0
 simp only [List.getElem?_toArray,List.getElem?_cons_zero] at BX;have hlk:=hS.k.len;obtain ⟨k0,k1,k2,k3,k4,k5,k6,k7⟩:=hR;replace k0:=fun w' (e:Ext (w.alloc (.cells #[.slice (some ⟨b,ro,none⟩) ds.length c] 26)) w')=>k0 w' (eb.trans e)
 replace k1:=fun w' (e:Ext (w.alloc (.cells #[.slice (some ⟨b,ro,none⟩) ds.length c] 26)) w')=>k1 w' (eb.trans e)
 replace k2:=fun w' (e:Ext (w.alloc (.cells #[.slice (some ⟨b,ro,none⟩) ds.length c] 26)) w')=>k2 w' (eb.trans e)
 replace k3:=fun w' (e:Ext (w.alloc (.cells #[.slice (some ⟨b,ro,none⟩) ds.length c] 26)) w')=>k3 w' (eb.trans e)
 replace k4:=fun w' (e:Ext (w.alloc (.cells #[.slice (some ⟨b,ro,none⟩) ds.length c] 26)) w')=>k4 w' (eb.trans e)
 replace k5:=fun w' (e:Ext (w.alloc (.cells #[.slice (some ⟨b,ro,none⟩) ds.length c] 26)) w')=>k5 w' (eb.trans e)
 replace k6:=fun w' (e:Ext (w.alloc (.cells #[.slice (some ⟨b,ro,none⟩) ds.length c] 26)) w')=>k6 w' (eb.trans e)
 replace k7:=fun w' (e:Ext (w.alloc (.cells #[.slice (some ⟨b,ro,none⟩) ds.length c] 26)) w')=>k7 w' (eb.trans e)
 obtain ⟨v0,v1,v2⟩:=hv;replace v0:=fun w' (e:Ext (w.alloc (.cells #[.slice (some ⟨b,ro,none⟩) ds.length c] 26)) w')=>v0 w' (eb.trans e)
 replace v1:=fun w' (e:Ext (w.alloc (.cells #[.slice (some ⟨b,ro,none⟩) ds.length c] 26)) w')=>v1 w' (eb.trans e)
 replace v2:=fun w' (e:Ext (w.alloc (.cells #[.slice (some ⟨b,ro,none⟩) ds.length c] 26)) w')=>v2 w' (eb.trans e)
 generalize ds[i]=r at *;have q1:(r.kind==1)=false:=by rw [hk];rfl
 have q3:(r.kind==3)=false:=by rw [hk];rfl
 have q4:(r.kind==4)=false:=by rw [hk];rfl
 have q10:(r.kind==10)=false:=by rw [hk];rfl
 have q5:(r.kind==5)=false:=by rw [hk];rfl
 have q6:(r.kind==6)=false:=by rw [hk];rfl
 have q7:(r.kind==7)=false:=by rw [hk];rfl
 have q8:(r.kind==8)=false:=by rw [hk];rfl
 have q9:(r.kind==9)=true:=by rw [hk];rfl
 clear hk hd hS;have CI:=lhd (fun w=>iInRange_c v.num 0 0 w);unfold vdesc at *;generalize v.bytes.length=nb at *;generalize v.items.length=nm at *;generalize v.num=num at *
 by_cases h0:nm=1
 ·subst h0
  cases z1:(decide ((0:Int)≤num)&&decide (num≤0))
  ·rw [z1] at CI
   go_enter Tryz.func68,Tryz.ntmps68;go_wp2_with fail;refine (CI.out _).mono ?_;rintro _ w2 ⟨rfl,ew2⟩;go_wp2;go_ret;exact ⟨ret_bool (by first | rfl | (simp;done) | (simp [*];done) | (simp;omega)),eb.trans ew2⟩
  ·rw [z1] at CI
   by_cases hnb:nb=0
   ·subst hnb
    go_enter Tryz.func68,Tryz.ntmps68;go_wp2_with fail;refine (CI.out _).mono ?_;rintro _ w2 ⟨rfl,ew2⟩;go_wp2;go_ret;exact ⟨ret_bool (by first | rfl | (simp;done) | (simp [*];done) | (simp;omega)),eb.trans ew2⟩
   ·have dnb:decide ((nb:Int)≤0)=false:=decide_eq_false (by omega)
    go_enter Tryz.func68,Tryz.ntmps68;go_wp2_with fail;refine (CI.out _).mono ?_;rintro _ w2 ⟨rfl,ew2⟩;go_wp2;go_ret;exact ⟨ret_bool (by first | rfl | (simp;done) | (simp [*];done) | (simp;omega)),eb.trans ew2⟩
 ·have hne:((nm:Int) !=1)=true:=by simp;omega
  go_enter Tryz.func68,Tryz.ntmps68;go_wp2_with fail;go_wp2;go_ret;exact ⟨ret_bool (by first | rfl | (simp;done) | (simp [*];done) | (simp;omega)),eb⟩
theorem kidV5 {r:DRule} (h:r.kind=5) (n:Int) (j:Nat):kidV r n j=kd r 1:=by unfold kidV;rw [if_pos h]
theorem kidV6 {r:DRule} (h:r.kind=6) (n:Int) (j:Nat):kidV r n j=kd r j:=by unfold kidV;rw [if_neg (by omega),if_pos h]
theorem kidV7 {r:DRule} (h:r.kind=7) (n:Int) (j:Nat):kidV r n j=kd r (tagN r.tags n+1):=by unfold kidV;rw [if_neg (by omega),if_neg (by omega),if_pos h]
theorem kidV8 {r:DRule} (h:r.kind=8∨r.kind=9) (n:Int) (j:Nat):kidV r n j=kd r 0:=by unfold kidV;rw [if_neg (by omega),if_neg (by omega),if_neg (by omega)]
def ItemAt (r:DRule) (n:Int) (j:Nat):Prop :=
 (r.kind=5∧1<r.kids.length)∨(r.kind=6∧j<r.kids.length∧j<r.names.length)∨(r.kind=7∧j=0∧tagN r.tags n<r.tags.length∧tagN r.tags n+1<r.kids.length)∨((r.kind=8∨r.kind=9)∧j=0∧0<r.kids.length)
theorem sItemV_c (r:DRule) (Ab:Option Addr) (cb:Nat) (An:Option Addr) (cn:Nat) (At:Option Addr) (ct:Nat) (Ak:Option Addr) (ck:Nat) (n:Int) (j:Nat) (w:World) (h:RdS w r Ab cb An cn At ct Ak ck) (hj:j≤9223372036854775807) (hat:ItemAt r n j) (h7:r.kind=7→r.kids.length=r.tags.length+1) (hkn:∀ j (hj:j<r.kids.length),r.kids[j]=(kd r j:Int)) :
 Gives Tryz.prog 27 #[vrule r (.slice Ab r.bytes.length cb) (.slice An r.names.length cn) (.slice At r.tags.length ct) (.slice Ak r.kids.length ck),.int .i64 n,.int .i64 (j:Int)] w (.int .i64 (kidV r n j:Nat)):=by
 have hlk:=h.k.len
 have go:∀ t (ht:t<r.kids.length),∃ bk ok,Ak=some ⟨bk,ok,none⟩∧∀ (w':World),Ext w w'→w'.cell? ⟨bk,ok+t,none⟩=some (.int .i64 (kd r t:Int)):=fun t ht=>by
  obtain ⟨bk,ok,hA,_,hc⟩:=h.k.at t ht;rw [hkn t ht] at hc;exact ⟨bk,ok,hA,hc⟩
 rcases hat with ⟨hk,hl⟩ | ⟨hk,hl,_⟩ | ⟨hk,rfl,hl,_⟩ | ⟨hk,rfl,hl⟩
 ·rw [kidV5 hk]
  obtain ⟨bk,ok,rfl,hc⟩:=go 1 hl;have q5:(r.kind==5)=true:=by rw [hk];rfl
  have eb:=Ext_alloc (.cells (rcs r Ab cb An cn At ct (some ⟨bk,ok,none⟩) ck) 67) (Ext.refl w);have hl2:(1:Int)<(r.kids.length:Int):=by omega
  generalize kd r 1=y at *;clear go hkn h7 h hk;unfold vrule;go_enter Tryz.func27,Tryz.ntmps27;go_wp2;go_ret;exact ⟨rfl,eb⟩
 ·rw [kidV6 hk]
  obtain ⟨bk,ok,rfl,hc⟩:=go j hl;have q5:(r.kind==5)=false:=by rw [hk];rfl
  have q6:(r.kind==6)=true:=by rw [hk];rfl
  have eb:=Ext_alloc (.cells (rcs r Ab cb An cn At ct (some ⟨bk,ok,none⟩) ck) 67) (Ext.refl w);have d1:decide ((j:Int)<(r.kids.length:Int))=true:=decide_eq_true (by omega)
  have hl2:(j:Int)<(r.kids.length:Int):=by omega
  generalize kd r j=y at *;clear go hkn h7 h hk;unfold vrule;go_enter Tryz.func27,Tryz.ntmps27;go_wp2;go_ret;exact ⟨rfl,eb⟩
 ·have C:=sItem_c r Ab cb An cn At ct Ak ck n w h hk (h7 hk) hkn
  rw [if_pos hl] at C;rw [kidV7 hk];exact C
 ·rw [kidV8 hk]
  obtain ⟨bk,ok,rfl,hc⟩:=go 0 hl;have q5:(r.kind==5)=false:=by rcases hk with hk | hk<;>rw [hk]<;>rfl
  have q6:(r.kind==6)=false:=by rcases hk with hk | hk<;>rw [hk]<;>rfl
  have q7:(r.kind==7)=false:=by rcases hk with hk | hk<;>rw [hk]<;>rfl
  have eb:=Ext_alloc (.cells (rcs r Ab cb An cn At ct (some ⟨bk,ok,none⟩) ck) 67) (Ext.refl w);have hl2:(0:Int)<(r.kids.length:Int):=by omega
  simp only [Nat.add_zero] at hc;generalize kd r 0=y at *;clear go hkn h7 h;unfold vrule;rcases hk with hk | hk
  ·have q8:(r.kind==8)=true:=by rw [hk];rfl
   clear hk;go_enter Tryz.func27,Tryz.ntmps27;go_wp2;go_ret;exact ⟨rfl,eb⟩
  ·have q8:(r.kind==8)=false:=by rw [hk];rfl
   have q9:(r.kind==9)=true:=by rw [hk];rfl
   clear hk;go_enter Tryz.func27,Tryz.ntmps27;go_wp2;go_ret;exact ⟨rfl,eb⟩
def kidI (r:DRule) (n:Int) (j:Nat):Int:=if r.kind=7 then (if tagN r.tags n<r.tags.length then (kd r (tagN r.tags n+1):Int) else -1) else (kidV r n j:Int)
def ItemAtI (r:DRule) (j:Nat):Prop :=
 (r.kind=5∧1<r.kids.length)∨(r.kind=6∧j<r.kids.length)∨(r.kind=7∧r.kids.length=r.tags.length+1)∨((r.kind=8∨r.kind=9)∧0<r.kids.length)
theorem iChild_c (A:Option Addr) (ds:List DRule) (c:Nat) (i:Nat) (hi:i<ds.length) (n:Int) (g off j:Nat) (w:World) (hd:RdD w A ds c) (hv:∀ (w':World),Ext w w'→w'.cell? ⟨g,off,none⟩=some (.int .i64 n)) (hj:j≤9223372036854775807) (hat:ItemAtI ds[i] j) (hkn:∀ j (hj:j<ds[i].kids.length),ds[i].kids[j]=(kd ds[i] j:Int)) :
 Gives Tryz.prog 42 #[vdesc (.slice A ds.length c),.int .i64 (i:Int),.pointer (some ⟨g,off,none⟩),.int .i64 (j:Int)] w (.int .i64 (kidI ds[i] n j)):=by
 have hl:=hd.len;obtain ⟨b,ro,Ab,cb,An,cn,At,ct,Ak,ck,hA,hbb,hS,hR⟩:=hd.at i hi;subst hA;have eb:=Ext_alloc (.cells #[.slice (some ⟨b,ro,none⟩) ds.length c] 26) (Ext.refl w);have BX:=fun w' (e:Ext (w.alloc (.cells #[.slice (some ⟨b,ro,none⟩) ds.length c] 26)) w')=>boxed e 0
 simp only [List.getElem?_toArray,List.getElem?_cons_zero] at BX;have hlk:=hS.k.len;have hlt:=hS.t.len;generalize ds[i]=r at *
 have go:∀ t (ht:t<r.kids.length),∃ bk ok,Ak=some ⟨bk,ok,none⟩∧∀ (w':World),Ext (w.alloc (.cells #[.slice (some ⟨b,ro,none⟩) ds.length c] 26)) w'→w'.cell? ⟨bk,ok+t,none⟩=some (.int .i64 (kd r t:Int)):=fun t ht=>by
  obtain ⟨bk,ok,hA,_,hc⟩:=hS.k.at t ht;rw [hkn t ht] at hc;exact ⟨bk,ok,hA,fun w' e=>hc w' (eb.trans e)⟩
 obtain ⟨k0,k1,k2,k3,k4,k5,k6,k7⟩:=hR;replace k1:=fun w' (e:Ext (w.alloc (.cells #[.slice (some ⟨b,ro,none⟩) ds.length c] 26)) w')=>k1 w' (eb.trans e)
 replace k6:=fun w' (e:Ext (w.alloc (.cells #[.slice (some ⟨b,ro,none⟩) ds.length c] 26)) w')=>k6 w' (eb.trans e)
 replace k7:=fun w' (e:Ext (w.alloc (.cells #[.slice (some ⟨b,ro,none⟩) ds.length c] 26)) w')=>k7 w' (eb.trans e)
 replace hv:=fun w' (e:Ext (w.alloc (.cells #[.slice (some ⟨b,ro,none⟩) ds.length c] 26)) w')=>hv w' (eb.trans e)
 clear k0 k2 k3 k4 k5 hd;unfold vdesc;rcases hat with ⟨hk,hl'⟩ | ⟨hk,hl'⟩ | ⟨hk,hl'⟩ | ⟨hk,hl'⟩
 ·have HE:Hid (kidI r n j=(kd r 1:Int)):=by show _=_;unfold kidI;rw [if_neg (by omega),kidV5 hk]
  rw [HE.out];obtain ⟨bk,ok,rfl,hc⟩:=go 1 hl';have q5:(r.kind==5)=true:=by rw [hk];rfl
  have hl2:(1:Int)<(r.kids.length:Int):=by omega
  generalize kd r 1=y at *;clear go hkn hS hk HE;go_enter Tryz.func42,Tryz.ntmps42;go_wp2;go_ret;exact ⟨rfl,eb⟩
 ·have HE:Hid (kidI r n j=(kd r j:Int)):=by show _=_;unfold kidI;rw [if_neg (by omega),kidV6 hk]
  rw [HE.out];obtain ⟨bk,ok,rfl,hc⟩:=go j hl';have q5:(r.kind==5)=false:=by rw [hk];rfl
  have q6:(r.kind==6)=true:=by rw [hk];rfl
  have d1:decide ((j:Int)<(r.kids.length:Int))=true:=decide_eq_true (by omega)
  have hl2:(j:Int)<(r.kids.length:Int):=by omega
  generalize kd r j=y at *;clear go hkn hS hk HE;go_enter Tryz.func42,Tryz.ntmps42;go_wp2;go_ret;exact ⟨rfl,eb⟩
 ·have FY:Hid (∀ k (hk:k<r.tags.length),(∀ j (hj:j<r.tags.length),j<k→r.tags[j]≠n)→r.tags[k]=n→kidI r n j=(kd r (k+1):Int)):=by
   intro k hk' hn he;unfold kidI;rw [if_pos hk,tagN_at hk' he hn,if_pos hk']
  have FN:Hid ((∀ j (hj:j<r.tags.length),r.tags[j]≠n)→kidI r n j = -1):=by
   intro hn;unfold kidI;rw [if_pos hk,tagN_none hn,if_neg (Nat.lt_irrefl _)]
  generalize kidI r n j=R at *;have q5:(r.kind==5)=false:=by rw [hk];rfl
  have q6:(r.kind==6)=false:=by rw [hk];rfl
  have q7:(r.kind==7)=true:=by rw [hk];rfl
  have HL1:=lhd hl';have HT:=lhd (hS.t.ext eb);have HG:=lhd go;clear hk hkn hl' hS go;go_enter Tryz.func42,Tryz.ntmps42;go_wp2;go_loopw [51] (fun ix wr=>∃ k:Nat,k≤r.tags.length∧ix=.int .i64 k∧Hid (∀ j (hj:j<r.tags.length),j<k→r.tags[j]≠n)∧Ext (w.alloc (.cells #[.slice (some ⟨b,ro,none⟩) ds.length c] 26)) wr) (fun ix _=>r.tags.length-(intOf ix).toNat)
  case atStart=>exact ⟨0,by omega,rfl,(fun j _ hj=>by omega),Ext.refl _⟩
  case round =>
   obtain ⟨k,hk,rfl,hn,he⟩:=hrel
   by_cases hlt:k<r.tags.length
   ·obtain ⟨bt,ot,rfl,hbt,hct⟩:=HT.out.at k hlt
    obtain ⟨bk,ok,rfl,hck⟩:=HG.out (k+1) (by have:=HL1.out;omega);have Y:=lhd (FY.out k hlt hn.out)
    have N:Hid (¬ r.tags[k]=n→∀ j (hj:j<r.tags.length),j<k+1→r.tags[j]≠n):=fun hne j hj hjk=>by
     rcases (by omega:j<k∨j=k) with hjk | rfl
     ·exact hn.out j hj hjk
     ·exact hne
    have d1:decide ((k:Int)<(r.tags.length:Int))=true:=decide_eq_true (by omega)
    generalize r.tags[k]=x at *;generalize kd r (k+1)=y at *;have hkl:k+1<r.kids.length:=by have:=HL1.out;omega
    clear FY FN hn HT HG
    by_cases hx:x=n
    ·have HE:=lhd (Y.out hx);clear Y N
     have kx:(x==n)=true:=by simpa using hx
     clear hx;go_wp2;go_ret;exact ⟨ret_i64 HE.out.symm,eb.trans he⟩
    ·have HE:=lhd (N.out hx);clear Y N
     have kx:(x==n)=false:=by simpa using hx
     clear hx;go_wp2;go_roundw
     case rel=>exact ⟨k+1,by omega,by go_num,HE,he⟩
     case measure=>simp [intOf];omega
   ·have HE:=lhd (FN.out (fun j hj=>hn.out j hj (by omega)))
    have d1:decide ((k:Int)<(r.tags.length:Int))=false:=decide_eq_false (by omega)
    clear FY FN;go_wp2;go_ret;exact ⟨ret_i64 HE.out.symm,eb.trans he⟩
 ·have HE:Hid (kidI r n j=(kd r 0:Int)):=by show _=_;unfold kidI;rw [if_neg (by omega),kidV8 hk]
  rw [HE.out];obtain ⟨bk,ok,rfl,hc⟩:=go 0 hl';have q5:(r.kind==5)=false:=by rcases hk with hk | hk<;>rw [hk]<;>rfl
  have q6:(r.kind==6)=false:=by rcases hk with hk | hk<;>rw [hk]<;>rfl
  have q7:(r.kind==7)=false:=by rcases hk with hk | hk<;>rw [hk]<;>rfl
  have hl2:(0:Int)<(r.kids.length:Int):=by omega
  simp only [Nat.add_zero] at hc;generalize kd r 0=y at *;clear go hkn hS HE;rcases hk with hk | hk
  ·have q8:(r.kind==8)=true:=by rw [hk];rfl
   clear hk;go_enter Tryz.func42,Tryz.ntmps42;go_wp2;go_ret;exact ⟨rfl,eb⟩
  ·have q8:(r.kind==8)=false:=by rw [hk];rfl
   have q9:(r.kind==9)=true:=by rw [hk];rfl
   clear hk;go_enter Tryz.func42,Tryz.ntmps42;go_wp2;go_ret;exact ⟨rfl,eb⟩
end Go.Proofs.YtlfhealneccdkaaGreatDoor
