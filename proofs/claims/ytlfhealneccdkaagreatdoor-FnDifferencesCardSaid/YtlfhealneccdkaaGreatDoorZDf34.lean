/- Texts, laid into one. -/
import Derived.Test.YtlfhealneccdkaaGreatDoorZDf29
import Derived.Test.YtlfhealneccdkaaGreatDoorZDf21
set_option linter.unusedVariables false
set_option linter.unusedSimpArgs false
set_option maxRecDepth 100000
set_option maxHeartbeats 16000000
namespace Go.Proofs.YtlfhealneccdkaaGreatDoor
open Go.RowKit Go.Sort
theorem iNumT_c (n:Int) (a b c:ByteArray) (w:World) (hT:Tab w) (h0 : -9223372036854775808≤n) (h9:n≤9223372036854775807) (ha:a.size≤100) (hb:b.size≤140737488350000) (hc:c.size≤100) :
 Gives Tryz.prog 82 #[.int .i64 n,.string a,.string b,.string c] w (.string (itoaB n++a++b++c)):=by
 have CF:=lhd (iFormatInt_c n w hT h0 h9);have hz:=itoa_size n h0 h9;clear hT;go_enter Tryz.func82,Tryz.ntmps82;go_wp2_with (go_at_call 70;refine CF.out.mono ?_;rintro _ w1 ⟨rfl,e1⟩)
 go_ret;exact ⟨rfl,e1⟩
theorem iVTxt1_c (A:Option Addr) (ds:List DRule) (c:Nat) (hok:descOk ds=true) (i:Nat) (hi:i<ds.length) (v:DVal) (Vb:Option Addr) (vb:Nat) (Vi:Option Addr) (vi:Nat) (g o:Nat) (w:World) (hd:RdD w A ds c) (hv:RdV w v Vb vb Vi vi) (hat:ValAt w g o v (.slice Vb v.bytes.length vb) (.slice Vi v.items.length vi)) (hT:Tab w) (hval:validV ds i v=true) (S:Nat→ByteArray) (HS:∀ j (hj:j<v.items.length),TxtG A ds c (kidV ds[i] v.num j) v.items[j] (S j)) (hk:ds[i].kind=1) (h0 : -9223372036854775808≤v.num) (h9:v.num≤9223372036854775807) :
 Gives Tryz.prog 54 #[.agg #[.slice A ds.length c],.int .i64 (i:Int),.pointer (some ⟨g,o,none⟩)] w (.string (itoaB v.num)):=by
 have hil:=hd.len;obtain ⟨W0,HW0,BA,BI,BP,eA,hsA⟩:=boxes3' w #[.slice A ds.length c] #[.int .i64 (i:Int)] #[.pointer (some ⟨g,o,none⟩)] 26 3 54
 have CI:Hid (∀ (k:Nat) (hk:k<v.items.length) w',Ext W0 w'→Gives Tryz.prog 79 #[.int .i64 (k:Int),.pointer (some ⟨w.heap.size,0,none⟩),.pointer (some ⟨w.heap.size+1,0,none⟩),.pointer (some ⟨w.heap.size+1+1,0,none⟩)] w' (.string (S k))):=fun k hk w' e =>
  iItemT_c A ds c hok i hi v Vb vb Vi vi g o w.heap.size (w.heap.size+1) (w.heap.size+1+1) k (S k) w' (hd.ext (eA.trans e)) (hv.ext (eA.trans e)) ⟨fun w2 e2=>hat.c0 w2 ((eA.trans e).trans e2),fun w2 e2=>hat.c1 w2 ((eA.trans e).trans e2),fun w2 e2=>hat.c2 w2 ((eA.trans e).trans e2)⟩ (hT.ext (eA.trans e)) hval hk (HS k hk) (BA.ext e |>.at 0) (BI.ext e |>.at 0) (BP.ext e |>.at 0)
 obtain ⟨bR,oR,Rb,rb,Rn,rn,Rt,rt,Rk,rk,hAR,_,hSR,hRR⟩:=hd.at i hi;subst hAR;have CSH:=lhd (fun w'=>iShape1_c ds[i].nm ds[i].kind ds[i].size ds[i].little Rb ds[i].bytes.length rb Rn ds[i].names.length rn Rt ds[i].tags.length rt Rk ds[i].kids.length rk w' hk);obtain ⟨q0,q1,q2,q3,q4,q5,q6,q7⟩:=hRR;replace q0:=kx q0 eA;replace q1:=kx q1 eA;replace q2:=kx q2 eA;replace q3:=kx q3 eA;replace q4:=kx q4 eA;replace q5:=kx q5 eA;replace q6:=kx q6 eA;replace q7:=kx q7 eA;have a0:∀ w',Ext W0 w'→w'.cell? ⟨w.heap.size,0,none⟩=some (.slice (some ⟨bR,oR,none⟩) ds.length c):=BA.at 0
 have i0:∀ w',Ext W0 w'→w'.cell? ⟨w.heap.size+1,0,none⟩=some (.int .i64 (i:Int)):=BI.at 0
 have p0:∀ w',Ext W0 w'→w'.cell? ⟨w.heap.size+1+1,0,none⟩=some (.pointer (some ⟨g,o,none⟩)):=BP.at 0
 have v0:∀ w',Ext W0 w'→w'.cell? ⟨g,o,none⟩=some (.int .i64 v.num):=fun w' e=>hat.c0 w' (eA.trans e)
 have v1:∀ w',Ext W0 w'→w'.cell? ⟨g,o+1,none⟩=some (.slice Vb v.bytes.length vb):=fun w' e=>hat.c1 w' (eA.trans e)
 have v2:∀ w',Ext W0 w'→w'.cell? ⟨g,o+2,none⟩=some (.slice Vi v.items.length vi):=fun w' e=>hat.c2 w' (eA.trans e)
 have hii:(i:Int)<(ds.length:Int):=by omega
 have EA:=lhd eA;have CF:=lhd (fun w' (e:Ext W0 w')=>iFormatInt_c v.num w' (hT.ext (EA.out.trans e)) h0 h9);generalize ds[i]=rr at *;rw [hk] at CSH;clear hd hv hat hT hval HS hok hSR BA BI BP eA hsA;have ta1:=fun w=>ta_hit (P:=Tryz.prog) w 112 20 _ (.agg #[]) Tryz.underlying112
 go_enter Tryz.func54,Tryz.ntmps54;go_upto_region 2 with (fail);rw [← HW0.out];go_wp2_with fail;refine (CSH.out _).mono ?_;rintro _ w1 ⟨rfl,e1⟩;go_wp2_with (go_at_call 70;refine (CF.out _ (by first | assumption | exact Ext_alloc _ e1)).mono ?_;rintro _ w2 ⟨rfl,e2⟩)
 go_ret;exact ⟨rfl,EA.out.trans ((Ext_alloc _ e1).trans e2)⟩
theorem iVTxt2_c (A:Option Addr) (ds:List DRule) (c:Nat) (hok:descOk ds=true) (i:Nat) (hi:i<ds.length) (v:DVal) (Vb:Option Addr) (vb:Nat) (Vi:Option Addr) (vi:Nat) (g o:Nat) (w:World) (hd:RdD w A ds c) (hv:RdV w v Vb vb Vi vi) (hat:ValAt w g o v (.slice Vb v.bytes.length vb) (.slice Vi v.items.length vi)) (hT:Tab w) (hval:validV ds i v=true) (S:Nat→ByteArray) (HS:∀ j (hj:j<v.items.length),TxtG A ds c (kidV ds[i] v.num j) v.items[j] (S j)) (hk:ds[i].kind=2) :
 Gives Tryz.prog 54 #[.agg #[.slice A ds.length c],.int .i64 (i:Int),.pointer (some ⟨g,o,none⟩)] w (.string ⟨#[33]⟩):=by
 have hil:=hd.len;obtain ⟨W0,HW0,BA,BI,BP,eA,hsA⟩:=boxes3' w #[.slice A ds.length c] #[.int .i64 (i:Int)] #[.pointer (some ⟨g,o,none⟩)] 26 3 54
 have CI:Hid (∀ (k:Nat) (hk:k<v.items.length) w',Ext W0 w'→Gives Tryz.prog 79 #[.int .i64 (k:Int),.pointer (some ⟨w.heap.size,0,none⟩),.pointer (some ⟨w.heap.size+1,0,none⟩),.pointer (some ⟨w.heap.size+1+1,0,none⟩)] w' (.string (S k))):=fun k hk w' e =>
  iItemT_c A ds c hok i hi v Vb vb Vi vi g o w.heap.size (w.heap.size+1) (w.heap.size+1+1) k (S k) w' (hd.ext (eA.trans e)) (hv.ext (eA.trans e)) ⟨fun w2 e2=>hat.c0 w2 ((eA.trans e).trans e2),fun w2 e2=>hat.c1 w2 ((eA.trans e).trans e2),fun w2 e2=>hat.c2 w2 ((eA.trans e).trans e2)⟩ (hT.ext (eA.trans e)) hval hk (HS k hk) (BA.ext e |>.at 0) (BI.ext e |>.at 0) (BP.ext e |>.at 0)
 obtain ⟨bR,oR,Rb,rb,Rn,rn,Rt,rt,Rk,rk,hAR,_,hSR,hRR⟩:=hd.at i hi;subst hAR;have CSH:=lhd (fun w'=>iShape2_c ds[i].nm ds[i].kind ds[i].size ds[i].little Rb ds[i].bytes.length rb Rn ds[i].names.length rn Rt ds[i].tags.length rt Rk ds[i].kids.length rk w' hk);obtain ⟨q0,q1,q2,q3,q4,q5,q6,q7⟩:=hRR;replace q0:=kx q0 eA;replace q1:=kx q1 eA;replace q2:=kx q2 eA;replace q3:=kx q3 eA;replace q4:=kx q4 eA;replace q5:=kx q5 eA;replace q6:=kx q6 eA;replace q7:=kx q7 eA;have a0:∀ w',Ext W0 w'→w'.cell? ⟨w.heap.size,0,none⟩=some (.slice (some ⟨bR,oR,none⟩) ds.length c):=BA.at 0
 have i0:∀ w',Ext W0 w'→w'.cell? ⟨w.heap.size+1,0,none⟩=some (.int .i64 (i:Int)):=BI.at 0
 have p0:∀ w',Ext W0 w'→w'.cell? ⟨w.heap.size+1+1,0,none⟩=some (.pointer (some ⟨g,o,none⟩)):=BP.at 0
 have v0:∀ w',Ext W0 w'→w'.cell? ⟨g,o,none⟩=some (.int .i64 v.num):=fun w' e=>hat.c0 w' (eA.trans e)
 have v1:∀ w',Ext W0 w'→w'.cell? ⟨g,o+1,none⟩=some (.slice Vb v.bytes.length vb):=fun w' e=>hat.c1 w' (eA.trans e)
 have v2:∀ w',Ext W0 w'→w'.cell? ⟨g,o+2,none⟩=some (.slice Vi v.items.length vi):=fun w' e=>hat.c2 w' (eA.trans e)
 have hii:(i:Int)<(ds.length:Int):=by omega
 have EA:=lhd eA;generalize ds[i]=rr at *;rw [hk] at CSH;clear hd hv hat hT hval HS hok hSR BA BI BP eA hsA;have ta1:=fun w=>ta_miss (P:=Tryz.prog) w 112 113 20 _ (.agg #[]) (.agg #[]) (by decide) Tryz.underlying112 (by kernel_rfl)
 have ta2:=fun w=>ta_hit (P:=Tryz.prog) w 113 20 _ (.agg #[]) Tryz.underlying113
 go_enter Tryz.func54,Tryz.ntmps54;go_upto_region 2 with (fail);rw [← HW0.out];go_wp2_with fail;refine (CSH.out _).mono ?_;rintro _ w1 ⟨rfl,e1⟩;go_wp2;go_ret;exact ⟨rfl,EA.out.trans (Ext_alloc _ e1)⟩
theorem iVTxt9_c (A:Option Addr) (ds:List DRule) (c:Nat) (hok:descOk ds=true) (i:Nat) (hi:i<ds.length) (v:DVal) (Vb:Option Addr) (vb:Nat) (Vi:Option Addr) (vi:Nat) (g o:Nat) (w:World) (hd:RdD w A ds c) (hv:RdV w v Vb vb Vi vi) (hat:ValAt w g o v (.slice Vb v.bytes.length vb) (.slice Vi v.items.length vi)) (hT:Tab w) (hval:validV ds i v=true) (S:Nat→ByteArray) (HS:∀ j (hj:j<v.items.length),TxtG A ds c (kidV ds[i] v.num j) v.items[j] (S j)) (hk:ds[i].kind=9) (hm:0<v.items.length) (hS0:(S 0).size≤140737488350000) :
 Gives Tryz.prog 54 #[.agg #[.slice A ds.length c],.int .i64 (i:Int),.pointer (some ⟨g,o,none⟩)] w (.string (⟨#[40]⟩++S 0++⟨#[41]⟩)):=by
 have hil:=hd.len;obtain ⟨W0,HW0,BA,BI,BP,eA,hsA⟩:=boxes3' w #[.slice A ds.length c] #[.int .i64 (i:Int)] #[.pointer (some ⟨g,o,none⟩)] 26 3 54
 have CI:Hid (∀ (k:Nat) (hk:k<v.items.length) w',Ext W0 w'→Gives Tryz.prog 79 #[.int .i64 (k:Int),.pointer (some ⟨w.heap.size,0,none⟩),.pointer (some ⟨w.heap.size+1,0,none⟩),.pointer (some ⟨w.heap.size+1+1,0,none⟩)] w' (.string (S k))):=fun k hk w' e =>
  iItemT_c A ds c hok i hi v Vb vb Vi vi g o w.heap.size (w.heap.size+1) (w.heap.size+1+1) k (S k) w' (hd.ext (eA.trans e)) (hv.ext (eA.trans e)) ⟨fun w2 e2=>hat.c0 w2 ((eA.trans e).trans e2),fun w2 e2=>hat.c1 w2 ((eA.trans e).trans e2),fun w2 e2=>hat.c2 w2 ((eA.trans e).trans e2)⟩ (hT.ext (eA.trans e)) hval hk (HS k hk) (BA.ext e |>.at 0) (BI.ext e |>.at 0) (BP.ext e |>.at 0)
 obtain ⟨bR,oR,Rb,rb,Rn,rn,Rt,rt,Rk,rk,hAR,_,hSR,hRR⟩:=hd.at i hi;subst hAR;have CSH:=lhd (fun w'=>iShape9_c ds[i].nm ds[i].kind ds[i].size ds[i].little Rb ds[i].bytes.length rb Rn ds[i].names.length rn Rt ds[i].tags.length rt Rk ds[i].kids.length rk w' hk);obtain ⟨q0,q1,q2,q3,q4,q5,q6,q7⟩:=hRR;replace q0:=kx q0 eA;replace q1:=kx q1 eA;replace q2:=kx q2 eA;replace q3:=kx q3 eA;replace q4:=kx q4 eA;replace q5:=kx q5 eA;replace q6:=kx q6 eA;replace q7:=kx q7 eA;have a0:∀ w',Ext W0 w'→w'.cell? ⟨w.heap.size,0,none⟩=some (.slice (some ⟨bR,oR,none⟩) ds.length c):=BA.at 0
 have i0:∀ w',Ext W0 w'→w'.cell? ⟨w.heap.size+1,0,none⟩=some (.int .i64 (i:Int)):=BI.at 0
 have p0:∀ w',Ext W0 w'→w'.cell? ⟨w.heap.size+1+1,0,none⟩=some (.pointer (some ⟨g,o,none⟩)):=BP.at 0
 have v0:∀ w',Ext W0 w'→w'.cell? ⟨g,o,none⟩=some (.int .i64 v.num):=fun w' e=>hat.c0 w' (eA.trans e)
 have v1:∀ w',Ext W0 w'→w'.cell? ⟨g,o+1,none⟩=some (.slice Vb v.bytes.length vb):=fun w' e=>hat.c1 w' (eA.trans e)
 have v2:∀ w',Ext W0 w'→w'.cell? ⟨g,o+2,none⟩=some (.slice Vi v.items.length vi):=fun w' e=>hat.c2 w' (eA.trans e)
 have hii:(i:Int)<(ds.length:Int):=by omega
 have EA:=lhd eA;have CI0:=lhd (fun w' (e:Ext W0 w')=>CI.out 0 hm w' e);generalize S 0=s0 at *;generalize ds[i]=rr at *;rw [hk] at CSH;clear hd hv hat hT hval HS hok hSR BA BI BP eA hsA;have ta1:=fun w=>ta_miss (P:=Tryz.prog) w 112 121 20 _ (.agg #[]) (.agg #[]) (by decide) Tryz.underlying112 (by kernel_rfl)
 have ta2:=fun w=>ta_miss (P:=Tryz.prog) w 113 121 20 _ (.agg #[]) (.agg #[]) (by decide) Tryz.underlying113 (by kernel_rfl)
 have ta5:=fun w=>ta_miss (P:=Tryz.prog) w 114 121 20 _ (.agg #[]) (.agg #[]) (by decide) Tryz.underlying114 (by kernel_rfl)
 have ta6:=fun w=>ta_miss (P:=Tryz.prog) w 117 121 20 _ (.agg #[]) (.agg #[.slice none 0 0]) (by decide) Tryz.underlying117 (by kernel_rfl)
 have ta7:=fun w=>ta_miss (P:=Tryz.prog) w 118 121 20 _ (.agg #[]) (.agg #[]) (by decide) Tryz.underlying118 (by kernel_rfl)
 have ta8:=fun w=>ta_miss (P:=Tryz.prog) w 120 121 20 _ (.agg #[]) (.agg #[]) (by decide) Tryz.underlying120 (by kernel_rfl)
 have ta9:=fun w=>ta_hit (P:=Tryz.prog) w 121 20 _ (.agg #[]) Tryz.underlying121
 go_enter Tryz.func54,Tryz.ntmps54;go_upto_region 2 with (fail);rw [← HW0.out];go_wp2_with fail;refine (CSH.out _).mono ?_;rintro _ w1 ⟨rfl,e1⟩;go_wp2_with (go_at_call 79;refine (CI0.out _ (by first | assumption | exact Ext_alloc _ e1)).mono ?_;rintro _ w2 ⟨rfl,e2⟩)
 go_ret;exact ⟨rfl,EA.out.trans ((Ext_alloc _ e1).trans e2)⟩
theorem iVTxt8a_c (A:Option Addr) (ds:List DRule) (c:Nat) (hok:descOk ds=true) (i:Nat) (hi:i<ds.length) (v:DVal) (Vb:Option Addr) (vb:Nat) (Vi:Option Addr) (vi:Nat) (g o:Nat) (w:World) (hd:RdD w A ds c) (hv:RdV w v Vb vb Vi vi) (hat:ValAt w g o v (.slice Vb v.bytes.length vb) (.slice Vi v.items.length vi)) (hT:Tab w) (hval:validV ds i v=true) (S:Nat→ByteArray) (HS:∀ j (hj:j<v.items.length),TxtG A ds c (kidV ds[i] v.num j) v.items[j] (S j)) (hk:ds[i].kind=8) (hm:v.items=[]) :
 Gives Tryz.prog 54 #[.agg #[.slice A ds.length c],.int .i64 (i:Int),.pointer (some ⟨g,o,none⟩)] w (.string ⟨#[45]⟩):=by
 have hil:=hd.len;obtain ⟨W0,HW0,BA,BI,BP,eA,hsA⟩:=boxes3' w #[.slice A ds.length c] #[.int .i64 (i:Int)] #[.pointer (some ⟨g,o,none⟩)] 26 3 54
 have CI:Hid (∀ (k:Nat) (hk:k<v.items.length) w',Ext W0 w'→Gives Tryz.prog 79 #[.int .i64 (k:Int),.pointer (some ⟨w.heap.size,0,none⟩),.pointer (some ⟨w.heap.size+1,0,none⟩),.pointer (some ⟨w.heap.size+1+1,0,none⟩)] w' (.string (S k))):=fun k hk w' e =>
  iItemT_c A ds c hok i hi v Vb vb Vi vi g o w.heap.size (w.heap.size+1) (w.heap.size+1+1) k (S k) w' (hd.ext (eA.trans e)) (hv.ext (eA.trans e)) ⟨fun w2 e2=>hat.c0 w2 ((eA.trans e).trans e2),fun w2 e2=>hat.c1 w2 ((eA.trans e).trans e2),fun w2 e2=>hat.c2 w2 ((eA.trans e).trans e2)⟩ (hT.ext (eA.trans e)) hval hk (HS k hk) (BA.ext e |>.at 0) (BI.ext e |>.at 0) (BP.ext e |>.at 0)
 obtain ⟨bR,oR,Rb,rb,Rn,rn,Rt,rt,Rk,rk,hAR,_,hSR,hRR⟩:=hd.at i hi;subst hAR;have CSH:=lhd (fun w'=>iShape8_c ds[i].nm ds[i].kind ds[i].size ds[i].little Rb ds[i].bytes.length rb Rn ds[i].names.length rn Rt ds[i].tags.length rt Rk ds[i].kids.length rk w' hk);obtain ⟨q0,q1,q2,q3,q4,q5,q6,q7⟩:=hRR;replace q0:=kx q0 eA;replace q1:=kx q1 eA;replace q2:=kx q2 eA;replace q3:=kx q3 eA;replace q4:=kx q4 eA;replace q5:=kx q5 eA;replace q6:=kx q6 eA;replace q7:=kx q7 eA;have a0:∀ w',Ext W0 w'→w'.cell? ⟨w.heap.size,0,none⟩=some (.slice (some ⟨bR,oR,none⟩) ds.length c):=BA.at 0
 have i0:∀ w',Ext W0 w'→w'.cell? ⟨w.heap.size+1,0,none⟩=some (.int .i64 (i:Int)):=BI.at 0
 have p0:∀ w',Ext W0 w'→w'.cell? ⟨w.heap.size+1+1,0,none⟩=some (.pointer (some ⟨g,o,none⟩)):=BP.at 0
 have v0:∀ w',Ext W0 w'→w'.cell? ⟨g,o,none⟩=some (.int .i64 v.num):=fun w' e=>hat.c0 w' (eA.trans e)
 have v1:∀ w',Ext W0 w'→w'.cell? ⟨g,o+1,none⟩=some (.slice Vb v.bytes.length vb):=fun w' e=>hat.c1 w' (eA.trans e)
 have v2:∀ w',Ext W0 w'→w'.cell? ⟨g,o+2,none⟩=some (.slice Vi v.items.length vi):=fun w' e=>hat.c2 w' (eA.trans e)
 have hii:(i:Int)<(ds.length:Int):=by omega
 have EA:=lhd eA;have hm1:((v.items.length:Int)==0)=true:=by rw [hm];rfl
 generalize ds[i]=rr at *;rw [hk] at CSH;clear hd hv hat hT hval HS hok hSR BA BI BP eA hsA;have ta1:=fun w=>ta_miss (P:=Tryz.prog) w 112 120 20 _ (.agg #[]) (.agg #[]) (by decide) Tryz.underlying112 (by kernel_rfl)
 have ta2:=fun w=>ta_miss (P:=Tryz.prog) w 113 120 20 _ (.agg #[]) (.agg #[]) (by decide) Tryz.underlying113 (by kernel_rfl)
 have ta5:=fun w=>ta_miss (P:=Tryz.prog) w 114 120 20 _ (.agg #[]) (.agg #[]) (by decide) Tryz.underlying114 (by kernel_rfl)
 have ta6:=fun w=>ta_miss (P:=Tryz.prog) w 117 120 20 _ (.agg #[]) (.agg #[.slice none 0 0]) (by decide) Tryz.underlying117 (by kernel_rfl)
 have ta7:=fun w=>ta_miss (P:=Tryz.prog) w 118 120 20 _ (.agg #[]) (.agg #[]) (by decide) Tryz.underlying118 (by kernel_rfl)
 have ta8:=fun w=>ta_hit (P:=Tryz.prog) w 120 20 _ (.agg #[]) Tryz.underlying120
 go_enter Tryz.func54,Tryz.ntmps54;go_upto_region 2 with (fail);rw [← HW0.out];go_wp2_with fail;refine (CSH.out _).mono ?_;rintro _ w1 ⟨rfl,e1⟩;go_wp2;go_ret;exact ⟨rfl,EA.out.trans (Ext_alloc _ e1)⟩
theorem iVTxt8b_c (A:Option Addr) (ds:List DRule) (c:Nat) (hok:descOk ds=true) (i:Nat) (hi:i<ds.length) (v:DVal) (Vb:Option Addr) (vb:Nat) (Vi:Option Addr) (vi:Nat) (g o:Nat) (w:World) (hd:RdD w A ds c) (hv:RdV w v Vb vb Vi vi) (hat:ValAt w g o v (.slice Vb v.bytes.length vb) (.slice Vi v.items.length vi)) (hT:Tab w) (hval:validV ds i v=true) (S:Nat→ByteArray) (HS:∀ j (hj:j<v.items.length),TxtG A ds c (kidV ds[i] v.num j) v.items[j] (S j)) (hk:ds[i].kind=8) (hm:0<v.items.length) (hS0:(S 0).size≤140737488350000) :
 Gives Tryz.prog 54 #[.agg #[.slice A ds.length c],.int .i64 (i:Int),.pointer (some ⟨g,o,none⟩)] w (.string (⟨#[63]⟩++S 0)):=by
 have hil:=hd.len;obtain ⟨W0,HW0,BA,BI,BP,eA,hsA⟩:=boxes3' w #[.slice A ds.length c] #[.int .i64 (i:Int)] #[.pointer (some ⟨g,o,none⟩)] 26 3 54
 have CI:Hid (∀ (k:Nat) (hk:k<v.items.length) w',Ext W0 w'→Gives Tryz.prog 79 #[.int .i64 (k:Int),.pointer (some ⟨w.heap.size,0,none⟩),.pointer (some ⟨w.heap.size+1,0,none⟩),.pointer (some ⟨w.heap.size+1+1,0,none⟩)] w' (.string (S k))):=fun k hk w' e =>
  iItemT_c A ds c hok i hi v Vb vb Vi vi g o w.heap.size (w.heap.size+1) (w.heap.size+1+1) k (S k) w' (hd.ext (eA.trans e)) (hv.ext (eA.trans e)) ⟨fun w2 e2=>hat.c0 w2 ((eA.trans e).trans e2),fun w2 e2=>hat.c1 w2 ((eA.trans e).trans e2),fun w2 e2=>hat.c2 w2 ((eA.trans e).trans e2)⟩ (hT.ext (eA.trans e)) hval hk (HS k hk) (BA.ext e |>.at 0) (BI.ext e |>.at 0) (BP.ext e |>.at 0)
 obtain ⟨bR,oR,Rb,rb,Rn,rn,Rt,rt,Rk,rk,hAR,_,hSR,hRR⟩:=hd.at i hi;subst hAR;have CSH:=lhd (fun w'=>iShape8_c ds[i].nm ds[i].kind ds[i].size ds[i].little Rb ds[i].bytes.length rb Rn ds[i].names.length rn Rt ds[i].tags.length rt Rk ds[i].kids.length rk w' hk);obtain ⟨q0,q1,q2,q3,q4,q5,q6,q7⟩:=hRR;replace q0:=kx q0 eA;replace q1:=kx q1 eA;replace q2:=kx q2 eA;replace q3:=kx q3 eA;replace q4:=kx q4 eA;replace q5:=kx q5 eA;replace q6:=kx q6 eA;replace q7:=kx q7 eA;have a0:∀ w',Ext W0 w'→w'.cell? ⟨w.heap.size,0,none⟩=some (.slice (some ⟨bR,oR,none⟩) ds.length c):=BA.at 0
 have i0:∀ w',Ext W0 w'→w'.cell? ⟨w.heap.size+1,0,none⟩=some (.int .i64 (i:Int)):=BI.at 0
 have p0:∀ w',Ext W0 w'→w'.cell? ⟨w.heap.size+1+1,0,none⟩=some (.pointer (some ⟨g,o,none⟩)):=BP.at 0
 have v0:∀ w',Ext W0 w'→w'.cell? ⟨g,o,none⟩=some (.int .i64 v.num):=fun w' e=>hat.c0 w' (eA.trans e)
 have v1:∀ w',Ext W0 w'→w'.cell? ⟨g,o+1,none⟩=some (.slice Vb v.bytes.length vb):=fun w' e=>hat.c1 w' (eA.trans e)
 have v2:∀ w',Ext W0 w'→w'.cell? ⟨g,o+2,none⟩=some (.slice Vi v.items.length vi):=fun w' e=>hat.c2 w' (eA.trans e)
 have hii:(i:Int)<(ds.length:Int):=by omega
 have EA:=lhd eA;have hm1:((v.items.length:Int)==0)=false:=by simp only [beq_eq_false_iff_ne,ne_eq];omega
 have hm2:¬ v.items=[]:=fun e=>by rw [e] at hm;simp at hm
 have CI0:=lhd (fun w' (e:Ext W0 w')=>CI.out 0 hm w' e);generalize S 0=s0 at *;generalize ds[i]=rr at *;rw [hk] at CSH;clear hd hv hat hT hval HS hok hSR BA BI BP eA hsA;have ta1:=fun w=>ta_miss (P:=Tryz.prog) w 112 120 20 _ (.agg #[]) (.agg #[]) (by decide) Tryz.underlying112 (by kernel_rfl)
 have ta2:=fun w=>ta_miss (P:=Tryz.prog) w 113 120 20 _ (.agg #[]) (.agg #[]) (by decide) Tryz.underlying113 (by kernel_rfl)
 have ta5:=fun w=>ta_miss (P:=Tryz.prog) w 114 120 20 _ (.agg #[]) (.agg #[]) (by decide) Tryz.underlying114 (by kernel_rfl)
 have ta6:=fun w=>ta_miss (P:=Tryz.prog) w 117 120 20 _ (.agg #[]) (.agg #[.slice none 0 0]) (by decide) Tryz.underlying117 (by kernel_rfl)
 have ta7:=fun w=>ta_miss (P:=Tryz.prog) w 118 120 20 _ (.agg #[]) (.agg #[]) (by decide) Tryz.underlying118 (by kernel_rfl)
 have ta8:=fun w=>ta_hit (P:=Tryz.prog) w 120 20 _ (.agg #[]) Tryz.underlying120
 go_enter Tryz.func54,Tryz.ntmps54;go_upto_region 2 with (fail);rw [← HW0.out];go_wp2_with fail;refine (CSH.out _).mono ?_;rintro _ w1 ⟨rfl,e1⟩;go_wp2_with (go_at_call 79;refine (CI0.out _ (by first | assumption | exact Ext_alloc _ e1)).mono ?_;rintro _ w2 ⟨rfl,e2⟩)
 go_ret;exact ⟨rfl,EA.out.trans ((Ext_alloc _ e1).trans e2)⟩
theorem iVTxt7_c (A:Option Addr) (ds:List DRule) (c:Nat) (hok:descOk ds=true) (i:Nat) (hi:i<ds.length) (v:DVal) (Vb:Option Addr) (vb:Nat) (Vi:Option Addr) (vi:Nat) (g o:Nat) (w:World) (hd:RdD w A ds c) (hv:RdV w v Vb vb Vi vi) (hat:ValAt w g o v (.slice Vb v.bytes.length vb) (.slice Vi v.items.length vi)) (hT:Tab w) (hval:validV ds i v=true) (S:Nat→ByteArray) (HS:∀ j (hj:j<v.items.length),TxtG A ds c (kidV ds[i] v.num j) v.items[j] (S j)) (hk:ds[i].kind=7) (hm:0<v.items.length) (hS0:(S 0).size≤140737488350000) (h0 : -9223372036854775808≤v.num) (h9:v.num≤9223372036854775807) :
 Gives Tryz.prog 54 #[.agg #[.slice A ds.length c],.int .i64 (i:Int),.pointer (some ⟨g,o,none⟩)] w (.string (itoaB v.num++⟨#[60]⟩++S 0++⟨#[62]⟩)):=by
 have hil:=hd.len;obtain ⟨W0,HW0,BA,BI,BP,eA,hsA⟩:=boxes3' w #[.slice A ds.length c] #[.int .i64 (i:Int)] #[.pointer (some ⟨g,o,none⟩)] 26 3 54
 have CI:Hid (∀ (k:Nat) (hk:k<v.items.length) w',Ext W0 w'→Gives Tryz.prog 79 #[.int .i64 (k:Int),.pointer (some ⟨w.heap.size,0,none⟩),.pointer (some ⟨w.heap.size+1,0,none⟩),.pointer (some ⟨w.heap.size+1+1,0,none⟩)] w' (.string (S k))):=fun k hk w' e =>
  iItemT_c A ds c hok i hi v Vb vb Vi vi g o w.heap.size (w.heap.size+1) (w.heap.size+1+1) k (S k) w' (hd.ext (eA.trans e)) (hv.ext (eA.trans e)) ⟨fun w2 e2=>hat.c0 w2 ((eA.trans e).trans e2),fun w2 e2=>hat.c1 w2 ((eA.trans e).trans e2),fun w2 e2=>hat.c2 w2 ((eA.trans e).trans e2)⟩ (hT.ext (eA.trans e)) hval hk (HS k hk) (BA.ext e |>.at 0) (BI.ext e |>.at 0) (BP.ext e |>.at 0)
 obtain ⟨bR,oR,Rb,rb,Rn,rn,Rt,rt,Rk,rk,hAR,_,hSR,hRR⟩:=hd.at i hi;subst hAR;have CSH:=lhd (fun w'=>iShape7_c ds[i].nm ds[i].kind ds[i].size ds[i].little Rb ds[i].bytes.length rb Rn ds[i].names.length rn Rt ds[i].tags.length rt Rk ds[i].kids.length rk w' hk);obtain ⟨q0,q1,q2,q3,q4,q5,q6,q7⟩:=hRR;replace q0:=kx q0 eA;replace q1:=kx q1 eA;replace q2:=kx q2 eA;replace q3:=kx q3 eA;replace q4:=kx q4 eA;replace q5:=kx q5 eA;replace q6:=kx q6 eA;replace q7:=kx q7 eA;have a0:∀ w',Ext W0 w'→w'.cell? ⟨w.heap.size,0,none⟩=some (.slice (some ⟨bR,oR,none⟩) ds.length c):=BA.at 0
 have i0:∀ w',Ext W0 w'→w'.cell? ⟨w.heap.size+1,0,none⟩=some (.int .i64 (i:Int)):=BI.at 0
 have p0:∀ w',Ext W0 w'→w'.cell? ⟨w.heap.size+1+1,0,none⟩=some (.pointer (some ⟨g,o,none⟩)):=BP.at 0
 have v0:∀ w',Ext W0 w'→w'.cell? ⟨g,o,none⟩=some (.int .i64 v.num):=fun w' e=>hat.c0 w' (eA.trans e)
 have v1:∀ w',Ext W0 w'→w'.cell? ⟨g,o+1,none⟩=some (.slice Vb v.bytes.length vb):=fun w' e=>hat.c1 w' (eA.trans e)
 have v2:∀ w',Ext W0 w'→w'.cell? ⟨g,o+2,none⟩=some (.slice Vi v.items.length vi):=fun w' e=>hat.c2 w' (eA.trans e)
 have hii:(i:Int)<(ds.length:Int):=by omega
 have EA:=lhd eA;have CF:=lhd (fun w' (e:Ext W0 w')=>iNumT_c v.num ⟨#[60]⟩ (S 0) ⟨#[62]⟩ w' (hT.ext (EA.out.trans e)) h0 h9 (by decide) hS0 (by decide));have CI0:=lhd (fun w' (e:Ext W0 w')=>CI.out 0 hm w' e);generalize S 0=s0 at *;generalize ds[i]=rr at *;rw [hk] at CSH;clear hd hv hat hT hval HS hok hSR BA BI BP eA hsA;have ta1:=fun w=>ta_miss (P:=Tryz.prog) w 112 118 20 _ (.agg #[]) (.agg #[]) (by decide) Tryz.underlying112 (by kernel_rfl)
 have ta2:=fun w=>ta_miss (P:=Tryz.prog) w 113 118 20 _ (.agg #[]) (.agg #[]) (by decide) Tryz.underlying113 (by kernel_rfl)
 have ta5:=fun w=>ta_miss (P:=Tryz.prog) w 114 118 20 _ (.agg #[]) (.agg #[]) (by decide) Tryz.underlying114 (by kernel_rfl)
 have ta6:=fun w=>ta_miss (P:=Tryz.prog) w 117 118 20 _ (.agg #[]) (.agg #[.slice none 0 0]) (by decide) Tryz.underlying117 (by kernel_rfl)
 have ta7:=fun w=>ta_hit (P:=Tryz.prog) w 118 20 _ (.agg #[]) Tryz.underlying118
 go_enter Tryz.func54,Tryz.ntmps54;go_upto_region 2 with (fail);rw [← HW0.out];go_wp2_with fail;refine (CSH.out _).mono ?_;rintro _ w1 ⟨rfl,e1⟩;obtain ⟨W2,hW2⟩:∃ W2,W2=w1.alloc (.cells #[] 118):=⟨_,rfl⟩;have E2:Hid (Ext W0 W2):=by rw [hW2];exact Ext_alloc _ e1
 have p1:=p0 W2 E2.out;have u0:=v0 W2 E2.out;go_upto_region 29 with (fail);rw [← hW2];clear hW2;have X2:=E2.out;replace p0:=kx p0 X2;replace v0:=kx v0 X2;replace CI0:=lhd (fun w' (e:Ext W2 w')=>CI0.out w' (X2.trans e));replace CF:=lhd (fun w' (e:Ext W2 w')=>CF.out w' (X2.trans e));have XX:=lhd (EA.out.trans X2);clear q0 q1 q2 q3 q4 q5 q6 q7 a0 i0 v1 v2 X2 E2 CI EA p1 u0
 go_region_with (first
  | (go_simp;go_at_call 79;refine (CI0.out _ (by repeat' (first | assumption | (with_reducible refine Ext_drew ?_) | exact Ext.refl _))).mono ?_;rintro _ w6 ⟨rfl,e6⟩;have x6:Ext W2 w6:=Ext.trans (by repeat' (first | assumption | (with_reducible refine Ext_drew ?_) | exact Ext.refl _)) e6;clear e6)
  | (go_simp;go_at_call 82;refine (CF.out _ (by repeat' (first | assumption | (with_reducible refine Ext_drew ?_) | exact Ext.refl _))).mono ?_;rintro _ w7 ⟨rfl,e7⟩;have x7:Ext W2 w7:=Ext.trans (by repeat' (first | assumption | (with_reducible refine Ext_drew ?_) | exact Ext.refl _)) e7;clear e7))
 all_goals
  go_wp2;go_ret;exact ⟨rfl,XX.out.trans (by repeat' (first | assumption | (with_reducible refine Ext_drew ?_) | exact Ext.refl _))⟩
theorem iVTxt0_c (A:Option Addr) (ds:List DRule) (c:Nat) (hok:descOk ds=true) (i:Nat) (hi:i<ds.length) (v:DVal) (Vb:Option Addr) (vb:Nat) (Vi:Option Addr) (vi:Nat) (g o:Nat) (w:World) (hd:RdD w A ds c) (hv:RdV w v Vb vb Vi vi) (hat:ValAt w g o v (.slice Vb v.bytes.length vb) (.slice Vi v.items.length vi)) (hT:Tab w) (hval:validV ds i v=true) (S:Nat→ByteArray) (HS:∀ j (hj:j<v.items.length),TxtG A ds c (kidV ds[i] v.num j) v.items[j] (S j)) (h1:ds[i].kind≠1) (h2:ds[i].kind≠2) (h5:ds[i].kind≠5) (h6:ds[i].kind≠6) (h7:ds[i].kind≠7) (h8:ds[i].kind≠8) (h9:ds[i].kind≠9) (hb:v.bytes.length≤1048576) :
 Gives Tryz.prog 54 #[.agg #[.slice A ds.length c],.int .i64 (i:Int),.pointer (some ⟨g,o,none⟩)] w (.string (⟨#[120]⟩++hxB v.bytes)):=by
 have hil:=hd.len;obtain ⟨W0,HW0,BA,BI,BP,eA,hsA⟩:=boxes3' w #[.slice A ds.length c] #[.int .i64 (i:Int)] #[.pointer (some ⟨g,o,none⟩)] 26 3 54
 have CI:Hid (∀ (k:Nat) (hk:k<v.items.length) w',Ext W0 w'→Gives Tryz.prog 79 #[.int .i64 (k:Int),.pointer (some ⟨w.heap.size,0,none⟩),.pointer (some ⟨w.heap.size+1,0,none⟩),.pointer (some ⟨w.heap.size+1+1,0,none⟩)] w' (.string (S k))):=fun k hk w' e =>
  iItemT_c A ds c hok i hi v Vb vb Vi vi g o w.heap.size (w.heap.size+1) (w.heap.size+1+1) k (S k) w' (hd.ext (eA.trans e)) (hv.ext (eA.trans e)) ⟨fun w2 e2=>hat.c0 w2 ((eA.trans e).trans e2),fun w2 e2=>hat.c1 w2 ((eA.trans e).trans e2),fun w2 e2=>hat.c2 w2 ((eA.trans e).trans e2)⟩ (hT.ext (eA.trans e)) hval hk (HS k hk) (BA.ext e |>.at 0) (BI.ext e |>.at 0) (BP.ext e |>.at 0)
 obtain ⟨bR,oR,Rb,rb,Rn,rn,Rt,rt,Rk,rk,hAR,_,hSR,hRR⟩:=hd.at i hi;subst hAR;have CSH:=lhd (fun w'=>iShape0_c ds[i].nm ds[i].kind ds[i].size ds[i].little Rb ds[i].bytes.length rb Rn ds[i].names.length rn Rt ds[i].tags.length rt Rk ds[i].kids.length rk w' h1 h2 h5 h6 h7 h8 h9);obtain ⟨q0,q1,q2,q3,q4,q5,q6,q7⟩:=hRR;replace q0:=kx q0 eA;replace q1:=kx q1 eA;replace q2:=kx q2 eA;replace q3:=kx q3 eA;replace q4:=kx q4 eA;replace q5:=kx q5 eA;replace q6:=kx q6 eA;replace q7:=kx q7 eA;have a0:∀ w',Ext W0 w'→w'.cell? ⟨w.heap.size,0,none⟩=some (.slice (some ⟨bR,oR,none⟩) ds.length c):=BA.at 0
 have i0:∀ w',Ext W0 w'→w'.cell? ⟨w.heap.size+1,0,none⟩=some (.int .i64 (i:Int)):=BI.at 0
 have p0:∀ w',Ext W0 w'→w'.cell? ⟨w.heap.size+1+1,0,none⟩=some (.pointer (some ⟨g,o,none⟩)):=BP.at 0
 have v0:∀ w',Ext W0 w'→w'.cell? ⟨g,o,none⟩=some (.int .i64 v.num):=fun w' e=>hat.c0 w' (eA.trans e)
 have v1:∀ w',Ext W0 w'→w'.cell? ⟨g,o+1,none⟩=some (.slice Vb v.bytes.length vb):=fun w' e=>hat.c1 w' (eA.trans e)
 have v2:∀ w',Ext W0 w'→w'.cell? ⟨g,o+2,none⟩=some (.slice Vi v.items.length vi):=fun w' e=>hat.c2 w' (eA.trans e)
 have hii:(i:Int)<(ds.length:Int):=by omega
 have EA:=lhd eA;have CF:=lhd (fun w' (e:Ext W0 w')=>iFormatHex_c Vb v.bytes vb w' ⟨hv.b.ext (EA.out.trans e),by omega⟩ (by omega));have hxs:(hxB v.bytes).size=2*v.bytes.length:=hxB_size _
 generalize ds[i]=rr at *;clear hd hv hat hT hval HS hok hSR BA BI BP eA hsA;have ta1:=fun w=>ta_miss (P:=Tryz.prog) w 112 130 20 _ (.agg #[]) (.agg #[]) (by decide) Tryz.underlying112 (by kernel_rfl)
 have ta2:=fun w=>ta_miss (P:=Tryz.prog) w 113 130 20 _ (.agg #[]) (.agg #[]) (by decide) Tryz.underlying113 (by kernel_rfl)
 have ta5:=fun w=>ta_miss (P:=Tryz.prog) w 114 130 20 _ (.agg #[]) (.agg #[]) (by decide) Tryz.underlying114 (by kernel_rfl)
 have ta6:=fun w=>ta_miss (P:=Tryz.prog) w 117 130 20 _ (.agg #[]) (.agg #[.slice none 0 0]) (by decide) Tryz.underlying117 (by kernel_rfl)
 have ta7:=fun w=>ta_miss (P:=Tryz.prog) w 118 130 20 _ (.agg #[]) (.agg #[]) (by decide) Tryz.underlying118 (by kernel_rfl)
 have ta8:=fun w=>ta_miss (P:=Tryz.prog) w 120 130 20 _ (.agg #[]) (.agg #[]) (by decide) Tryz.underlying120 (by kernel_rfl)
 have ta9:=fun w=>ta_miss (P:=Tryz.prog) w 121 130 20 _ (.agg #[]) (.agg #[]) (by decide) Tryz.underlying121 (by kernel_rfl)
 go_enter Tryz.func54,Tryz.ntmps54;go_upto_region 2 with (fail);rw [← HW0.out];go_wp2_with fail;refine (CSH.out _).mono ?_;rintro _ w1 ⟨rfl,e1⟩;go_wp2_with (go_at_call 83;refine (CF.out _ (by first | assumption | exact e1)).mono ?_;rintro _ w2 ⟨rfl,e2⟩)
 go_ret;exact ⟨rfl,EA.out.trans (e1.trans e2)⟩
theorem iVTxt5_c (A:Option Addr) (ds:List DRule) (c:Nat) (hok:descOk ds=true) (i:Nat) (hi:i<ds.length) (v:DVal) (Vb:Option Addr) (vb:Nat) (Vi:Option Addr) (vi:Nat) (g o:Nat) (w:World) (hd:RdD w A ds c) (hv:RdV w v Vb vb Vi vi) (hat:ValAt w g o v (.slice Vb v.bytes.length vb) (.slice Vi v.items.length vi)) (hT:Tab w) (hval:validV ds i v=true) (S:Nat→ByteArray) (HS:∀ j (hj:j<v.items.length),TxtG A ds c (kidV ds[i] v.num j) v.items[j] (S j)) (hk:ds[i].kind=5) (hm:v.items.length≤1000) (hz:(jn ((List.range v.items.length).map S)).size≤140737488350000) :
 Gives Tryz.prog 54 #[.agg #[.slice A ds.length c],.int .i64 (i:Int),.pointer (some ⟨g,o,none⟩)] w (.string (⟨#[91]⟩++jn ((List.range v.items.length).map S)++⟨#[93]⟩)):=by
 have hil:=hd.len;obtain ⟨W0,HW0,BA,BI,BP,eA,hsA⟩:=boxes3' w #[.slice A ds.length c] #[.int .i64 (i:Int)] #[.pointer (some ⟨g,o,none⟩)] 26 3 54
 have CI:Hid (∀ (k:Nat) (hk:k<v.items.length) w',Ext W0 w'→Gives Tryz.prog 79 #[.int .i64 (k:Int),.pointer (some ⟨w.heap.size,0,none⟩),.pointer (some ⟨w.heap.size+1,0,none⟩),.pointer (some ⟨w.heap.size+1+1,0,none⟩)] w' (.string (S k))):=fun k hk w' e =>
  iItemT_c A ds c hok i hi v Vb vb Vi vi g o w.heap.size (w.heap.size+1) (w.heap.size+1+1) k (S k) w' (hd.ext (eA.trans e)) (hv.ext (eA.trans e)) ⟨fun w2 e2=>hat.c0 w2 ((eA.trans e).trans e2),fun w2 e2=>hat.c1 w2 ((eA.trans e).trans e2),fun w2 e2=>hat.c2 w2 ((eA.trans e).trans e2)⟩ (hT.ext (eA.trans e)) hval hk (HS k hk) (BA.ext e |>.at 0) (BI.ext e |>.at 0) (BP.ext e |>.at 0)
 obtain ⟨bR,oR,Rb,rb,Rn,rn,Rt,rt,Rk,rk,hAR,_,hSR,hRR⟩:=hd.at i hi;subst hAR;have CSH:=lhd (fun w'=>iShape5_c ds[i].nm ds[i].kind ds[i].size ds[i].little Rb ds[i].bytes.length rb Rn ds[i].names.length rn Rt ds[i].tags.length rt Rk ds[i].kids.length rk w' hk);obtain ⟨q0,q1,q2,q3,q4,q5,q6,q7⟩:=hRR;replace q0:=kx q0 eA;replace q1:=kx q1 eA;replace q2:=kx q2 eA;replace q3:=kx q3 eA;replace q4:=kx q4 eA;replace q5:=kx q5 eA;replace q6:=kx q6 eA;replace q7:=kx q7 eA;have a0:∀ w',Ext W0 w'→w'.cell? ⟨w.heap.size,0,none⟩=some (.slice (some ⟨bR,oR,none⟩) ds.length c):=BA.at 0
 have i0:∀ w',Ext W0 w'→w'.cell? ⟨w.heap.size+1,0,none⟩=some (.int .i64 (i:Int)):=BI.at 0
 have p0:∀ w',Ext W0 w'→w'.cell? ⟨w.heap.size+1+1,0,none⟩=some (.pointer (some ⟨g,o,none⟩)):=BP.at 0
 have v0:∀ w',Ext W0 w'→w'.cell? ⟨g,o,none⟩=some (.int .i64 v.num):=fun w' e=>hat.c0 w' (eA.trans e)
 have v1:∀ w',Ext W0 w'→w'.cell? ⟨g,o+1,none⟩=some (.slice Vb v.bytes.length vb):=fun w' e=>hat.c1 w' (eA.trans e)
 have v2:∀ w',Ext W0 w'→w'.cell? ⟨g,o+2,none⟩=some (.slice Vi v.items.length vi):=fun w' e=>hat.c2 w' (eA.trans e)
 have hii:(i:Int)<(ds.length:Int):=by omega
 have EA:=lhd eA;have HM:Hid (v.items.length≤1000):=hm
 generalize ds[i]=rr at *;rw [hk] at CSH;clear hd hv hat hT hval HS hok hSR BA BI BP eA hsA;have ta1:=fun w=>ta_miss (P:=Tryz.prog) w 112 114 20 _ (.agg #[]) (.agg #[]) (by decide) Tryz.underlying112 (by kernel_rfl)
 have ta2:=fun w=>ta_miss (P:=Tryz.prog) w 113 114 20 _ (.agg #[]) (.agg #[]) (by decide) Tryz.underlying113 (by kernel_rfl)
 have ta5:=fun w=>ta_hit (P:=Tryz.prog) w 114 20 _ (.agg #[]) Tryz.underlying114
 go_enter Tryz.func54,Tryz.ntmps54;go_upto_region 2 with (fail);rw [← HW0.out];go_wp2_with fail;refine (CSH.out _).mono ?_;rintro _ w1 ⟨rfl,e1⟩;have x2:=Ext_alloc (.cells #[] 9) (Ext_alloc (.cells #[] 114) e1);have p1:=p0 _ x2;have u2:=v2 _ x2
 have O0:OwnL vstr 9 W0 ((w1.alloc (.cells #[] 114)).alloc (.cells #[] 9)) (.slice (some ⟨w1.heap.size+1,0,none⟩) 0 0) []:=by
  have h:=Own.empty (e:=9) (size:=1) (Ext_alloc (.cells #[] 114) e1);rw [World.size_alloc] at h;exact h
 go_wp2_with fail;obtain ⟨W2,hW2⟩:∃ W2,W2=(w1.alloc (.cells #[] 114)).alloc (.cells #[] 9):=⟨_,rfl⟩;rw [← hW2] at x2 O0;rw [← hW2];clear hW2 p1 u2 q0 q1 q2 q3 q4 q5 q6 q7;have HO0:=lhd O0;clear O0;go_loopw [11,47] (fun u ix wr=>∃ k:Nat,k≤v.items.length∧ix=.int .i64 k∧Hid (OwnL vstr 9 W0 wr u ((List.range k).map S))∧Ext W0 wr) (fun _ ix _=>v.items.length-(intOf ix).toNat)
 case atStart=>exact ⟨0,by omega,by simp,HO0.out,x2⟩
 case round =>
  clear HO0 x2;obtain ⟨k,hk,rfl,ho,he⟩:=hrel
  by_cases hlt:k<v.items.length
  ·have hki:(k:Int)<(v.items.length:Int):=by omega
   have C1:=lhd (fun w' (e:Ext W0 w')=>CI.out k hlt w' e);have HS:Hid ((List.range (k+1)).map S=(List.range k).map S++[S k]):=by show _=_;rw [List.range_succ,List.map_append];rfl
   have HB:Hid ((((List.range k).map S).length+[S k].length)*16≤140737488355328):=by have:=HM.out;show _≤_;rw [List.length_map,List.length_range];simp only [List.length_cons,List.length_nil];omega
   generalize S k=sk at *;generalize (List.range k).map S=L at *;obtain ⟨L',hL'⟩:∃ L',(List.range (k+1)).map S=L':=⟨_,rfl⟩;rw [hL'] at HS;have HL:=lhd hL';clear hL' hz CI
   go_wp2_with (first
    | (go_at_call 79;refine (C1.out _ (by first | assumption | exact he)).mono ?_;rintro _ w6 ⟨rfl,e6⟩;have HO:=lhd (OwnL.ext ho.out e6);have x6:=he.trans e6)
    | (at_builtin;go_must (refine wpList_appN rfl (.tmp 50) (.tmp 54) _ rfl E_str (by omega) W0 _ vstr (fun _=>rfl) _ rfl _ _ rfl L [sk] _ rfl HO.out x6 rfl HB.out ?_);intro v1 w7 ho1 he1;rw [← HS.out] at ho1))
   have H1:=lhd ho1;clear ho1;rw [← HL.out] at H1;go_roundw
   case rel=>exact ⟨k+1,by omega,by go_num,H1,he1⟩
   case measure=>simp [intOf];omega
  ·have hk':k=v.items.length:=by omega
   subst hk';obtain ⟨A5,c5,hu,hr5⟩:=OwnL.rd ho.out (by rw [List.length_map,List.length_range];omega);have hLL:((List.range v.items.length).map S).length=v.items.length:=by rw [List.length_map,List.length_range]
   have CJ:=lhd (iJoinL_c A5 _ c5 wr hr5 (by omega));rw [hLL] at hu CJ;subst hu;clear hLL;obtain ⟨L,hLe⟩:∃ L,L=(List.range v.items.length).map S:=⟨_,rfl⟩;rw [← hLe] at CJ hz;have HLE:=lhd hLe;clear hr5 ho CI hLe;go_wp2_with (go_at_call 81;go_loud (refine CJ.out.mono ?_);rintro _ w6 ⟨rfl,e6⟩)
   go_ret;have hLe:=HLE.out;subst hLe;exact ⟨rfl,EA.out.trans (he.trans e6)⟩
theorem iVTxt6_c (A:Option Addr) (ds:List DRule) (c:Nat) (hok:descOk ds=true) (i:Nat) (hi:i<ds.length) (v:DVal) (Vb:Option Addr) (vb:Nat) (Vi:Option Addr) (vi:Nat) (g o:Nat) (w:World) (hd:RdD w A ds c) (hv:RdV w v Vb vb Vi vi) (hat:ValAt w g o v (.slice Vb v.bytes.length vb) (.slice Vi v.items.length vi)) (hT:Tab w) (hval:validV ds i v=true) (S:Nat→ByteArray) (HS:∀ j (hj:j<v.items.length),TxtG A ds c (kidV ds[i] v.num j) v.items[j] (S j)) (Nm:Nat→ByteArray) (hNm:∀ k (h:k<ds[i].names.length),ds[i].names[k]=Nm k) (hk:ds[i].kind=6) (hnl:ds[i].names.length=v.items.length) (hm:v.items.length≤1000) (hsz:∀ k,k<v.items.length→(Nm k).size≤1000000∧(S k).size≤1000000000) (hz:(jn ((List.range v.items.length).map fun k=>Nm k++⟨#[58]⟩++S k)).size≤140737488350000) :
 Gives Tryz.prog 54 #[.agg #[.slice A ds.length c],.int .i64 (i:Int),.pointer (some ⟨g,o,none⟩)] w (.string (⟨#[123]⟩++jn ((List.range v.items.length).map fun k=>Nm k++⟨#[58]⟩++S k)++⟨#[125]⟩)):=by
 have hil:=hd.len;obtain ⟨W0,HW0,BA,BI,BP,eA,hsA⟩:=boxes3' w #[.slice A ds.length c] #[.int .i64 (i:Int)] #[.pointer (some ⟨g,o,none⟩)] 26 3 54
 have CI:Hid (∀ (k:Nat) (hk:k<v.items.length) w',Ext W0 w'→Gives Tryz.prog 79 #[.int .i64 (k:Int),.pointer (some ⟨w.heap.size,0,none⟩),.pointer (some ⟨w.heap.size+1,0,none⟩),.pointer (some ⟨w.heap.size+1+1,0,none⟩)] w' (.string (S k))):=fun k hk w' e =>
  iItemT_c A ds c hok i hi v Vb vb Vi vi g o w.heap.size (w.heap.size+1) (w.heap.size+1+1) k (S k) w' (hd.ext (eA.trans e)) (hv.ext (eA.trans e)) ⟨fun w2 e2=>hat.c0 w2 ((eA.trans e).trans e2),fun w2 e2=>hat.c1 w2 ((eA.trans e).trans e2),fun w2 e2=>hat.c2 w2 ((eA.trans e).trans e2)⟩ (hT.ext (eA.trans e)) hval hk (HS k hk) (BA.ext e |>.at 0) (BI.ext e |>.at 0) (BP.ext e |>.at 0)
 obtain ⟨bR,oR,Rb,rb,Rn,rn,Rt,rt,Rk,rk,hAR,_,hSR,hRR⟩:=hd.at i hi;subst hAR;have CSH:=lhd (fun w'=>iShape6_c ds[i].nm ds[i].kind ds[i].size ds[i].little Rb ds[i].bytes.length rb Rn ds[i].names.length rn Rt ds[i].tags.length rt Rk ds[i].kids.length rk w' hk);obtain ⟨q0,q1,q2,q3,q4,q5,q6,q7⟩:=hRR;replace q0:=kx q0 eA;replace q1:=kx q1 eA;replace q2:=kx q2 eA;replace q3:=kx q3 eA;replace q4:=kx q4 eA;replace q5:=kx q5 eA;replace q6:=kx q6 eA;replace q7:=kx q7 eA;have a0:∀ w',Ext W0 w'→w'.cell? ⟨w.heap.size,0,none⟩=some (.slice (some ⟨bR,oR,none⟩) ds.length c):=BA.at 0
 have i0:∀ w',Ext W0 w'→w'.cell? ⟨w.heap.size+1,0,none⟩=some (.int .i64 (i:Int)):=BI.at 0
 have p0:∀ w',Ext W0 w'→w'.cell? ⟨w.heap.size+1+1,0,none⟩=some (.pointer (some ⟨g,o,none⟩)):=BP.at 0
 have v0:∀ w',Ext W0 w'→w'.cell? ⟨g,o,none⟩=some (.int .i64 v.num):=fun w' e=>hat.c0 w' (eA.trans e)
 have v1:∀ w',Ext W0 w'→w'.cell? ⟨g,o+1,none⟩=some (.slice Vb v.bytes.length vb):=fun w' e=>hat.c1 w' (eA.trans e)
 have v2:∀ w',Ext W0 w'→w'.cell? ⟨g,o+2,none⟩=some (.slice Vi v.items.length vi):=fun w' e=>hat.c2 w' (eA.trans e)
 have hii:(i:Int)<(ds.length:Int):=by omega
 have EA:=lhd eA;have HM:Hid (v.items.length≤1000):=hm
 have HNR:=lhd hSR.n;have HNM:=lhd hNm;have HSZ:=lhd hsz;clear hNm hsz;generalize ds[i]=rr at *;rw [hk] at CSH;rw [hnl] at CSH;clear hd hv hat hT hval HS hok hSR BA BI BP eA hsA;have ta1:=fun w=>ta_miss (P:=Tryz.prog) w 112 117 20 _ (.agg #[.slice Rn v.items.length rn]) (.agg #[]) (by decide) Tryz.underlying112 (by kernel_rfl)
 have ta2:=fun w=>ta_miss (P:=Tryz.prog) w 113 117 20 _ (.agg #[.slice Rn v.items.length rn]) (.agg #[]) (by decide) Tryz.underlying113 (by kernel_rfl)
 have ta5:=fun w=>ta_miss (P:=Tryz.prog) w 114 117 20 _ (.agg #[.slice Rn v.items.length rn]) (.agg #[]) (by decide) Tryz.underlying114 (by kernel_rfl)
 have ta6:=fun w=>ta_hit (P:=Tryz.prog) w 117 20 _ (.agg #[.slice Rn v.items.length rn]) Tryz.underlying117
 go_enter Tryz.func54,Tryz.ntmps54;go_upto_region 2 with (fail);rw [← HW0.out];go_wp2_with fail;refine (CSH.out _).mono ?_;rintro _ w1 ⟨rfl,e1⟩;have x2:=Ext_alloc (.cells #[] 9) (Ext_alloc (.cells #[.slice Rn v.items.length rn] 117) e1);have n1:((w1.alloc (.cells #[.slice Rn v.items.length rn] 117)).alloc (.cells #[] 9)).cell? ⟨w1.heap.size,0,none⟩=some (.slice Rn v.items.length rn):=((Box.new w1 #[.slice Rn v.items.length rn] 117).ext (Ext_alloc _ (Ext.refl _))).cell 0
 have O0:OwnL vstr 9 W0 ((w1.alloc (.cells #[.slice Rn v.items.length rn] 117)).alloc (.cells #[] 9)) (.slice (some ⟨w1.heap.size+1,0,none⟩) 0 0) []:=by
  have h:=Own.empty (e:=9) (size:=1) (Ext_alloc (.cells #[.slice Rn v.items.length rn] 117) e1);rw [World.size_alloc] at h;exact h
 go_wp2_with fail;obtain ⟨W2,hW2⟩:∃ W2,W2=(w1.alloc (.cells #[.slice Rn v.items.length rn] 117)).alloc (.cells #[] 9):=⟨_,rfl⟩;rw [← hW2] at x2 O0;rw [← hW2];clear hW2 n1 q0 q1 q2 q3 q4 q5 q6 q7;have HO0:=lhd O0;clear O0;go_loopw [14,68] (fun u ix wr=>∃ k:Nat,k≤v.items.length∧ix=.int .i64 k∧Hid (OwnL vstr 9 W0 wr u ((List.range k).map fun k=>Nm k++⟨#[58]⟩++S k))∧Ext W0 wr) (fun _ ix _=>v.items.length-(intOf ix).toNat)
 case atStart=>exact ⟨0,by omega,by simp,HO0.out,x2⟩
 case round =>
  clear HO0 x2;obtain ⟨k,hk,rfl,ho,he⟩:=hrel
  by_cases hlt:k<v.items.length
  ·have hki:(k:Int)<(v.items.length:Int):=by omega
   have C1:=lhd (fun w' (e:Ext W0 w')=>CI.out k hlt w' e);have HS:Hid (((List.range (k+1)).map fun k=>Nm k++⟨#[58]⟩++S k)=((List.range k).map fun k=>Nm k++⟨#[58]⟩++S k)++[Nm k++⟨#[58]⟩++S k]):=by show _=_;rw [List.range_succ,List.map_append];rfl
   have HB:Hid ((((List.range k).map fun k=>Nm k++⟨#[58]⟩++S k).length+[Nm k++⟨#[58]⟩++S k].length)*16≤140737488355328):=by have:=HM.out;show _≤_;rw [List.length_map,List.length_range];simp only [List.length_cons,List.length_nil];omega
   obtain ⟨hs1,hs2⟩:=HSZ.out k hlt;obtain ⟨bN,oN,hRn,_,hNc⟩:=HNR.out.at k (by omega);rw [HNM.out k (by omega)] at hNc;subst hRn;unfold vstr at hNc;replace hNc:=fun w' (e:Ext W0 w')=>hNc w' (EA.out.trans e)
   generalize S k=sk at *;generalize Nm k=nk at *;generalize ((List.range k).map fun k=>Nm k++⟨#[58]⟩++S k)=L at *;obtain ⟨L',hL'⟩:∃ L',((List.range (k+1)).map fun k=>Nm k++⟨#[58]⟩++S k)=L':=⟨_,rfl⟩;rw [hL'] at HS;have HL:=lhd hL';clear hL' hz CI
   go_wp2_with (first
    | (go_at_call 79;refine (C1.out _ (by first | assumption | exact he)).mono ?_;rintro _ w6 ⟨rfl,e6⟩;have HO:=lhd (OwnL.ext ho.out e6);have x6:=he.trans e6)
    | (at_builtin;go_must (refine wpList_appN rfl (.tmp 73) (.tmp 80) _ rfl E_str (by omega) W0 _ vstr (fun _=>rfl) _ rfl _ _ rfl L [nk++⟨#[58]⟩++sk] _ rfl HO.out x6 rfl HB.out ?_);intro v1 w7 ho1 he1;rw [← HS.out] at ho1))
   have H1:=lhd ho1;clear ho1;rw [← HL.out] at H1;go_roundw
   case rel=>exact ⟨k+1,by omega,by go_num,H1,he1⟩
   case measure=>simp [intOf];omega
  ·have hk':k=v.items.length:=by omega
   subst hk';obtain ⟨A5,c5,hu,hr5⟩:=OwnL.rd ho.out (by rw [List.length_map,List.length_range];omega);have hLL:((List.range v.items.length).map fun k=>Nm k++⟨#[58]⟩++S k).length=v.items.length:=by rw [List.length_map,List.length_range]
   have CJ:=lhd (iJoinL_c A5 _ c5 wr hr5 (by omega));rw [hLL] at hu CJ;subst hu;clear hLL;obtain ⟨L,hLe⟩:∃ L,L=((List.range v.items.length).map fun k=>Nm k++⟨#[58]⟩++S k):=⟨_,rfl⟩;rw [← hLe] at CJ hz;have HLE:=lhd hLe;clear hr5 ho CI hLe;go_wp2_with (go_at_call 81;go_loud (refine CJ.out.mono ?_);rintro _ w6 ⟨rfl,e6⟩)
   go_ret;have hLe:=HLE.out;subst hLe;exact ⟨rfl,EA.out.trans (he.trans e6)⟩
theorem iFmt_c (A:Option Addr) (ds:List DRule) (c:Nat) (hok:descOk ds=true) (hs:ShortD ds) (hw:WfD ds) (i:Nat) (v:DVal) (Vb:Option Addr) (vb:Nat) (Vi:Option Addr) (vi:Nat) (s:ByteArray) (w:World) (hd:RdD w A ds c) (hv:RdV w v Vb vb Vi vi) (hT:Tab w) (hval:validV ds i v=true) (ht:TxtG A ds c i v s) :
 Gives Tryz.prog 31 #[.agg #[.slice A ds.length c],.int .i64 (i:Int),.agg #[.int .i64 v.num,.slice Vb v.bytes.length vb,.slice Vi v.items.length vi]] w (.string s):=by
 have hil:=validV_lt hval;have hkn:knownB ds (i:Int)=true:=by unfold knownB;simp [hok];omega
 obtain ⟨W0,HW0,BA,BV,eA,hsA⟩:=boxes2' w #[.slice A ds.length c] #[.int .i64 v.num,.slice Vb v.bytes.length vb,.slice Vi v.items.length vi] 26 29
 have CV:Hid (∀ w',Ext W0 w'→Gives Tryz.prog 17 #[.agg #[.slice A ds.length c],.int .i64 (i:Int),.agg #[.int .i64 v.num,.slice Vb v.bytes.length vb,.slice Vi v.items.length vi]] w' (.bool true)):=fun w' e=>by
  have h:=iValid_c A ds c (i:Int) v Vb vb Vi vi w' (hd.ext (eA.trans e)) hs hw (hv.ext (eA.trans e));rw [validB_yes hkn v,hval] at h;exact h
 have CT:Hid (∀ w',Ext W0 w'→Gives Tryz.prog 54 #[.agg #[.slice A ds.length c],.int .i64 (i:Int),.pointer (some ⟨w.heap.size+1,0,none⟩)] w' (.string s)):=fun w' e =>
  ht (w.heap.size+1) 0 Vb vb Vi vi w' (hd.ext (eA.trans e)) (hv.ext (eA.trans e)) ⟨(BV.ext e).at 0,(BV.ext e).at 1,(BV.ext e).at 2⟩ (hT.ext (eA.trans e))
 have a0:∀ w',Ext W0 w'→w'.cell? ⟨w.heap.size,0,none⟩=some (.slice A ds.length c):=BA.at 0
 have v0:∀ w',Ext W0 w'→w'.cell? ⟨w.heap.size+1,0,none⟩=some (.int .i64 v.num):=BV.at 0
 have v1:∀ w',Ext W0 w'→w'.cell? ⟨w.heap.size+1,1,none⟩=some (.slice Vb v.bytes.length vb):=BV.at 1
 have v2:∀ w',Ext W0 w'→w'.cell? ⟨w.heap.size+1,2,none⟩=some (.slice Vi v.items.length vi):=BV.at 2
 have EA:=lhd eA;clear hd hv hT hval ht hok BA BV eA hsA hkn;go_enter Tryz.func31,Tryz.ntmps31;go_wp2_with fail;rw [← HW0.out];refine (CV.out _ (Ext.refl _)).mono ?_;rintro _ w1 ⟨rfl,e1⟩;go_wp2_with fail;refine (CT.out _ e1).mono ?_;rintro _ w2 ⟨rfl,e2⟩;go_wp2;go_ret;exact ⟨rfl,EA.out.trans (e1.trans e2)⟩
def pathT (p:ByteArray):ByteArray:=if p.toList=[] then ⟨#[46]⟩ else p
theorem iPathText_c (p:ByteArray) (w:World):Gives Tryz.prog 30 #[.string p] w (.string (pathT p)):=by
 by_cases h:p.toList=[]
 ·have e:pathT p=⟨#[46]⟩:=if_pos h
  rw [e];have hb:(p.toList==[])=true:=by simpa using h
  clear e;go_enter Tryz.func30,Tryz.ntmps30;go_wp2;go_ret;exact ⟨rfl,Ext.refl _⟩
 ·have e:pathT p=p:=if_neg h
  rw [e];have hb:(p.toList==[])=false:=by simpa using h
  clear e;go_enter Tryz.func30,Tryz.ntmps30;go_wp2;go_ret;exact ⟨rfl,Ext.refl _⟩
theorem sum_range_le (l:List DVal) (f:Nat→Nat) (H:∀ j (hj:j<l.length),f j≤107+128*szV l[j]):∀ k,k≤l.length→((List.range k).map f).sum≤107*k+128*((l.take k).map szV).sum
 | 0,_=>by simp
 | k+1,hk=>by
  have ih:=sum_range_le l f H k (by omega);have h:=H k (by omega);rw [List.range_succ,List.map_append,List.sum_append,List.take_succ_eq_append_getElem (by omega),List.map_append,List.sum_append];simp only [List.map_cons,List.map_nil,List.sum_cons,List.sum_nil]
  omega
theorem sum_range_all (v:DVal) (f:Nat→Nat) (H:∀ j (hj:j<v.items.length),f j≤107+128*szV v.items[j]):((List.range v.items.length).map f).sum≤128*szV v:=by
 have h:=sum_range_le v.items f H v.items.length (Nat.le_refl _);rw [List.take_length] at h;rw [szV_eq,szVs_sum]
 omega
theorem txt_ok (A:Option Addr) (ds:List DRule) (c:Nat) (hok:descOk ds=true) (hsm:SmallD ds):∀ (v:DVal) (i:Nat),validV ds i v=true→szV v≤1048576→∃ s:ByteArray,s.size≤64+128*szV v∧TxtG A ds c i v s:=by
 intro v
 induction v using DVal.ind with
 | h v ih =>
 intro i hval hz;have hi:=validV_lt hval
 have HI:∀ j,∃ s:ByteArray,∀ hj:j<v.items.length,s.size≤64+128*szV v.items[j]∧TxtG A ds c (kidV ds[i] v.num j) v.items[j] s:=fun j=>by
  by_cases hj:j<v.items.length
  ·have hs:=szV_item (List.getElem_mem hj)
   obtain ⟨s,h1,h2⟩:=ih v.items[j] (List.getElem_mem hj) (kidV ds[i] v.num j) (validV_item hval j hj) (by omega);exact ⟨s,fun _=>⟨h1,h2⟩⟩
  ·exact ⟨⟨#[]⟩,fun h=>absurd h hj⟩
 obtain ⟨S,hS⟩:∃ S:Nat→ByteArray,∀ j (hj:j<v.items.length),(S j).size≤64+128*szV v.items[j]∧TxtG A ds c (kidV ds[i] v.num j) v.items[j] (S j):=⟨fun j=>Classical.choose (HI j),fun j hj=>Classical.choose_spec (HI j) hj⟩;have HS:=fun j hj=>(hS j hj).2
 have hown:=validV_fits hval;have hsz:∀ j (hj:j<v.items.length),(S j).size+128≤64+128*szV v:=fun j hj=>by have h1:=(hS j hj).1;have h2:=szV_item (List.getElem_mem hj);omega
 have hR:=hsm.2 ds[i] (List.getElem_mem hi)
 by_cases k1:ds[i].kind=1
 ·have hn:0≤v.num∧v.num≤4294967295:=by
   unfold ownV at hown;rw [if_pos k1] at hown;simp only [Bool.and_eq_true,decide_eq_true_eq] at hown
   have:=limR_cases ds[i]
   omega
  have h20:=itoa_size v.num (by omega) (by omega);exact ⟨itoaB v.num,by omega,fun g o Vb vb Vi vi w hd hv hat hT=>iVTxt1_c A ds c hok i hi v Vb vb Vi vi g o w hd hv hat hT hval S HS k1 (by omega) (by omega)⟩
 by_cases k2:ds[i].kind=2
 ·exact ⟨⟨#[33]⟩,by have:(⟨#[33]⟩:ByteArray).size=1:=rfl;omega,fun g o Vb vb Vi vi w hd hv hat hT=>iVTxt2_c A ds c hok i hi v Vb vb Vi vi g o w hd hv hat hT hval S HS k2⟩
 have sz1:∀ b:UInt8,(⟨#[b]⟩:ByteArray).size=1:=fun _=>rfl
 by_cases k5:ds[i].kind=5
 ·have hm:v.items.length≤40:=by
   unfold ownV at hown;rw [if_neg (by omega),if_neg (by omega),if_neg (by omega),if_neg (by omega),if_pos k5] at hown;simp only [Bool.and_eq_true,decide_eq_true_eq] at hown
   omega
  have hj:=jn_size ((List.range v.items.length).map S);rw [List.map_map] at hj;have hj2:=sum_range_all v (fun k=>(S k).size+1) (fun j hj=>by have:=(hS j hj).1;omega);have hj3:(jn ((List.range v.items.length).map S)).size≤128*szV v:=Nat.le_trans hj hj2
  exact ⟨⟨#[91]⟩++jn ((List.range v.items.length).map S)++⟨#[93]⟩,by rw [ByteArray.size_append,ByteArray.size_append,sz1,sz1];omega,fun g o Vb vb Vi vi w hd hv hat hT=>iVTxt5_c A ds c hok i hi v Vb vb Vi vi g o w hd hv hat hT hval S HS k5 (by omega) (by omega)⟩
 by_cases k6:ds[i].kind=6
 ·have hnl:ds[i].names.length=v.items.length:=by
   have h1:=((kids_len hok i hi).2.2.1 k6).1;unfold ownV at hown;rw [if_neg (by omega),if_neg (by omega),if_neg (by omega),if_neg (by omega),if_neg (by omega),if_pos k6] at hown;simp only [Bool.and_eq_true,beq_iff_eq] at hown
   omega
  have hnm:∀ k,k<v.items.length→(ds[i].names.getD k ⟨#[]⟩).size≤40:=fun k hk=>by
   have:ds[i].names.getD k ⟨#[]⟩=ds[i].names[k]'(by omega):=by simp [show k<ds[i].names.length by omega]
   rw [this];exact hR.nms _ (List.getElem_mem _)
  have hj:=jn_size ((List.range v.items.length).map fun k=>ds[i].names.getD k ⟨#[]⟩++⟨#[58]⟩++S k);rw [List.map_map] at hj
  have hj2:=sum_range_all v (fun k=>(ds[i].names.getD k ⟨#[]⟩++⟨#[58]⟩++S k).size+1) (fun j hj=>by
   have h1:=(hS j hj).1;have h2:=hnm j hj;show (ds[i].names.getD j ⟨#[]⟩++⟨#[58]⟩++S j).size+1≤_
   rw [ByteArray.size_append,ByteArray.size_append,sz1];omega)
  have hj3:(jn ((List.range v.items.length).map fun k=>ds[i].names.getD k ⟨#[]⟩++⟨#[58]⟩++S k)).size≤128*szV v:=Nat.le_trans hj hj2
  have hl3:=hR.lens.2.1;exact ⟨⟨#[123]⟩++jn ((List.range v.items.length).map fun k=>ds[i].names.getD k ⟨#[]⟩++⟨#[58]⟩++S k)++⟨#[125]⟩,by rw [ByteArray.size_append,ByteArray.size_append,sz1,sz1];omega,fun g o Vb vb Vi vi w hd hv hat hT=>iVTxt6_c A ds c hok i hi v Vb vb Vi vi g o w hd hv hat hT hval S HS (fun k=>ds[i].names.getD k ⟨#[]⟩) (fun k h=>by simp [h]) k6 hnl (by omega) (fun k hk=>⟨by have:=hnm k hk;show (ds[i].names.getD k ⟨#[]⟩).size≤_;omega,by have:=hsz k hk;omega⟩) (by show (jn ((List.range v.items.length).map fun k=>ds[i].names.getD k ⟨#[]⟩++⟨#[58]⟩++S k)).size≤_;omega)⟩
 by_cases k7:ds[i].kind=7
 ·have hm:tagN ds[i].tags v.num<ds[i].tags.length∧v.items.length=1:=by
   unfold ownV at hown;rw [if_neg (by omega),if_neg (by omega),if_neg (by omega),if_neg (by omega),if_neg (by omega),if_neg (by omega),if_pos k7] at hown;simp only [Bool.and_eq_true,decide_eq_true_eq,beq_iff_eq] at hown
   omega
  have hn : -100000≤v.num∧v.num≤100:=by
   have h1:=tagN_get hm.1;have h2:=hR.ints.2.1 (ds[i].tags[tagN ds[i].tags v.num]'hm.1) (List.getElem_mem _);have h3:ds[i].tags.getD (tagN ds[i].tags v.num) 0=ds[i].tags[tagN ds[i].tags v.num]'hm.1:=by simp [hm.1]
   omega
  have h20:=itoa_size v.num (by omega) (by omega);have h0:=hsz 0 (by omega);exact ⟨itoaB v.num++⟨#[60]⟩++S 0++⟨#[62]⟩,by rw [ByteArray.size_append,ByteArray.size_append,ByteArray.size_append,sz1,sz1];omega,fun g o Vb vb Vi vi w hd hv hat hT=>iVTxt7_c A ds c hok i hi v Vb vb Vi vi g o w hd hv hat hT hval S HS k7 (by omega) (by omega) (by omega) (by omega)⟩
 by_cases k8:ds[i].kind=8
 ·by_cases hm:v.items=[]
  ·exact ⟨⟨#[45]⟩,by rw [sz1];omega,fun g o Vb vb Vi vi w hd hv hat hT=>iVTxt8a_c A ds c hok i hi v Vb vb Vi vi g o w hd hv hat hT hval S HS k8 hm⟩
  ·have hp:0<v.items.length:=List.length_pos_iff.2 hm
   have h0:=hsz 0 hp;exact ⟨⟨#[63]⟩++S 0,by rw [ByteArray.size_append,sz1];omega,fun g o Vb vb Vi vi w hd hv hat hT=>iVTxt8b_c A ds c hok i hi v Vb vb Vi vi g o w hd hv hat hT hval S HS k8 hp (by omega)⟩
 by_cases k9:ds[i].kind=9
 ·have hm:v.items.length=1:=by
   unfold ownV at hown;rw [if_neg (by omega),if_neg (by omega),if_neg (by omega),if_neg (by omega),if_neg (by omega),if_neg (by omega),if_neg (by omega),if_neg (by omega),if_pos k9] at hown;simp only [Bool.and_eq_true,beq_iff_eq] at hown
   omega
  have h0:=hsz 0 (by omega);exact ⟨⟨#[40]⟩++S 0++⟨#[41]⟩,by rw [ByteArray.size_append,ByteArray.size_append,sz1,sz1];omega,fun g o Vb vb Vi vi w hd hv hat hT=>iVTxt9_c A ds c hok i hi v Vb vb Vi vi g o w hd hv hat hT hval S HS k9 (by omega) (by omega)⟩
 ·have hb:=bytes_le v
  exact ⟨⟨#[120]⟩++hxB v.bytes,by rw [ByteArray.size_append,sz1,hxB_size];omega,fun g o Vb vb Vi vi w hd hv hat hT=>iVTxt0_c A ds c hok i hi v Vb vb Vi vi g o w hd hv hat hT hval S HS k1 k2 k5 k6 k7 k8 k9 (by omega)⟩
end Go.Proofs.YtlfhealneccdkaaGreatDoor
