/- Texts, laid into one. -/
import Derived.Test.YtlfhealneccdkaaGreatDoorZDf39
set_option linter.unusedVariables false
set_option linter.unusedSimpArgs false
set_option maxRecDepth 100000
set_option maxHeartbeats 16000000
namespace Go.Proofs.YtlfhealneccdkaaGreatDoor
open Go.RowKit Go.Sort
theorem lawDiffer_c (A:Option Addr) (l:List UInt8) (c:Nat) (w:World) (h:Rd0 vu8 w A l c) (hT:Tab w) :
 Gives Tryz.prog 3 #[.slice A l.length c] w (.bool true):=by
 have hl:=h.len
 by_cases hL:(1048576:Int)<(l.length:Int)
 ·have HD:Hid (decide ((1048576:Int)<(l.length:Int))=true):=by show _=_;simpa using hL
  go_enter Tryz.func3,Tryz.ntmps3;go_wp2_with fail;refine (big_c _ _ _ _ h).mono ?_;rintro _ w1 ⟨rfl,he1⟩;rw [HD.out];go_wp2;go_ret;exact ⟨rfl,he1⟩
 have HD:Hid (decide ((1048576:Int)<(l.length:Int))=false):=by show _=_;simpa using hL
 have hA:Bs w A l c:=⟨h,by omega⟩
 clear hL;have HT:=lhd hT;clear hT;have CD:=lhd (fun w hA=>drawDiff_c A l c w hA);go_enter Tryz.func3,Tryz.ntmps3;go_wp2_with fail;refine (big_c _ _ _ _ h).mono ?_;rintro _ w1 ⟨rfl,he1⟩;rw [HD.out];go_wp2_with fail;refine (CD.out _ (hA.ext he1)).mono ?_;rintro _ w2 ⟨A1,c1,ds,a,A2,c2,A3,c3,b,A4,c4,A5,c5,rfl,hMS,r1,r2,r3,hsz,he2⟩;have e2:=he1.trans he2;obtain ⟨⟨hMa,hSa⟩,ha0,ha6⟩:=hMS.out;have HOK:=lhd (hMa.valid ha0 (by omega));have HSM:=lhd (smd_of hMa hSa);have HSD:=lhd hSa;have HWF:=lhd HSM.out.wfS;obtain ⟨W3,hW3,BA,BB,BC,e3,_⟩:=boxes3' w2 #[.slice A1 ds.length c1] #[.int .i64 a.num,.slice A2 a.bytes.length c2,.slice A3 a.items.length c3] #[.int .i64 b.num,.slice A4 b.bytes.length c4,.slice A5 b.items.length c5] 26 29 29;have R1:=lhd (r1.out.ext e3);have R2:=lhd (r2.out.ext e3);have R3:=lhd (r3.out.ext e3);have q0:∀ w',Ext W3 w'→w'.cell? ⟨w2.heap.size,0,none⟩=some (Value.slice A1 ds.length c1):=BA.at 0
 have q1:∀ w',Ext W3 w'→w'.cell? ⟨w2.heap.size+1,0,none⟩=some (Value.int .i64 a.num):=BB.at 0
 have q2:∀ w',Ext W3 w'→w'.cell? ⟨w2.heap.size+1,1,none⟩=some (Value.slice A2 a.bytes.length c2):=BB.at 1
 have q3:∀ w',Ext W3 w'→w'.cell? ⟨w2.heap.size+1,2,none⟩=some (Value.slice A3 a.items.length c3):=BB.at 2
 have q4:∀ w',Ext W3 w'→w'.cell? ⟨w2.heap.size+1+1,0,none⟩=some (Value.int .i64 b.num):=BC.at 0
 have q5:∀ w',Ext W3 w'→w'.cell? ⟨w2.heap.size+1+1,1,none⟩=some (Value.slice A4 b.bytes.length c4):=BC.at 1
 have q6:∀ w',Ext W3 w'→w'.cell? ⟨w2.heap.size+1+1,2,none⟩=some (Value.slice A5 b.items.length c5):=BC.at 2
 have E3:=lhd (e2.trans e3);have HT3:Hid (∀ w',Ext W3 w'→Tab w'):=fun w' e=>HT.out.ext (E3.out.trans e)
 have HSZ:Hid (szV a≤102401∧szV b≤307201):=hsz
 have CDI:Hid (∀ w',Ext W3 w'→Calls Tryz.prog 6 #[.agg #[.slice A1 ds.length c1],.agg #[.int .i64 a.num,.slice A2 a.bytes.length c2,.slice A3 a.items.length c3],.agg #[.int .i64 b.num,.slice A4 b.bytes.length c4,.slice A5 b.items.length c5]] w' (InvOut (diffD ds a b) w')):=fun w' e=>(iDiffD_c A1 ds c1 a b A2 c2 A3 c3 A4 c4 A5 c5 w' (R1.out.ext e) HWF.out.2 HWF.out.1 (R2.out.ext e) (R3.out.ext e) (by have:=HSZ.out;omega) (by have:=HSZ.out;omega) (HT3.out w' e)).mono fun _ _ h=>diff_inv (by have:=diff_sz (ds:=ds) (a:=a) (b:=b) (by have:=HSZ.out;omega);omega) h
 have CDB:Hid (∀ w',Ext W3 w'→Calls Tryz.prog 6 #[.agg #[.slice A1 ds.length c1],.agg #[.int .i64 b.num,.slice A4 b.bytes.length c4,.slice A5 b.items.length c5],.agg #[.int .i64 b.num,.slice A4 b.bytes.length c4,.slice A5 b.items.length c5]] w' (InvOut (diffD ds b b) w')):=fun w' e=>(iDiffD_c A1 ds c1 b b A4 c4 A5 c5 A4 c4 A5 c5 w' (R1.out.ext e) HWF.out.2 HWF.out.1 (R3.out.ext e) (R3.out.ext e) (by have:=HSZ.out;omega) (by have:=HSZ.out;omega) (HT3.out w' e)).mono fun _ _ h=>diff_inv (by have:=diff_sz (ds:=ds) (a:=b) (b:=b) (by have:=HSZ.out;omega);omega) h
 have CCO:Hid (∀ w',Ext W3 w'→Gives Tryz.prog 13 #[.agg #[.slice A1 ds.length c1],.agg #[.int .i64 a.num,.slice A2 a.bytes.length c2,.slice A3 a.items.length c3],.agg #[.int .i64 b.num,.slice A4 b.bytes.length c4,.slice A5 b.items.length c5]] w' (.int .i64 ((diffD ds a b).length:Nat))):=fun w' e=>iCount_c A1 ds c1 a b A2 c2 A3 c3 A4 c4 A5 c5 w' (R1.out.ext e) HWF.out.2 HWF.out.1 (R2.out.ext e) (R3.out.ext e) (by have:=HSZ.out;omega) (by have:=HSZ.out;omega) (HT3.out w' e)
 have CVA:Hid (∀ w',Ext W3 w'→Gives Tryz.prog 7 #[.agg #[.slice A1 ds.length c1],.int .i64 ((ds.length:Int)-1),.agg #[.int .i64 a.num,.slice A2 a.bytes.length c2,.slice A3 a.items.length c3]] w' (.bool (validB ds ((ds.length:Int)-1) a))):=fun w' e=>sValid_c A1 ds c1 _ a A2 c2 A3 c3 w' (R1.out.ext e) HWF.out.2 HWF.out.1 (R2.out.ext e)
 have CVB:Hid (∀ w',Ext W3 w'→Gives Tryz.prog 7 #[.agg #[.slice A1 ds.length c1],.int .i64 ((ds.length:Int)-1),.agg #[.int .i64 b.num,.slice A4 b.bytes.length c4,.slice A5 b.items.length c5]] w' (.bool (validB ds ((ds.length:Int)-1) b))):=fun w' e=>sValid_c A1 ds c1 _ b A4 c4 A5 c5 w' (R1.out.ext e) HWF.out.2 HWF.out.1 (R3.out.ext e)
 have hlI:(1:Int)≤(ds.length:Int):=by omega
 have hl6:(ds.length:Int)≤6:=by omega
 have dq0:=q0 _ (Ext.refl _);have dq1:=q1 _ (Ext.refl _);have dq2:=q2 _ (Ext.refl _);have dq3:=q3 _ (Ext.refl _);have dq4:=q4 _ (Ext.refl _);have dq5:=q5 _ (Ext.refl _);have dq6:=q6 _ (Ext.refl _);rw [hW3.out] at dq0 dq1 dq2 dq3 dq4 dq5 dq6;clear CD BA BB BC hA h r1 r2 r3 he1 he2 e2 e3 hMS hsz
 by_cases hv:validB ds ((ds.length:Int)-1) a=true∧validB ds ((ds.length:Int)-1) b=true
 case neg =>
  have hR:=differ_no hv;rw [hR] at CDI;have CDI:Hid (∀ w',Ext W3 w'→Calls Tryz.prog 6 #[.agg #[.slice A1 ds.length c1],.agg #[.int .i64 a.num,.slice A2 a.bytes.length c2,.slice A3 a.items.length c3],.agg #[.int .i64 b.num,.slice A4 b.bytes.length c4,.slice A5 b.items.length c5]] w' fun e w''=>∃ A c,e=.returned (.slice A 0 c)∧Ext w' w''):=fun w' e=>(CDI.out w' e).mono fun _ _ ⟨A,c,h1,_,h3⟩=>⟨A,c,h1,h3⟩
  generalize validB ds ((ds.length:Int)-1) a=va at *;generalize validB ds ((ds.length:Int)-1) b=vb at *;clear hR CDB CCO;go_wp2_with fail;rw [← hW3.out];refine (CDI.out _ (Ext.refl _)).mono ?_;rintro _ w4 ⟨A6,c6,rfl,e4⟩;clear dq0 dq1 dq2 dq3 dq4 dq5 dq6 CDI;have dq0:=q0 _ e4;have dq1:=q1 _ e4;have dq2:=q2 _ e4;have dq3:=q3 _ e4;have dq4:=q4 _ e4;have dq5:=q5 _ e4;have dq6:=q6 _ e4;go_wp2_with fail;refine (CVA.out _ e4).mono ?_;rintro _ w5 ⟨rfl,e5⟩;have e35:=e4.trans e5;clear dq0 dq1 dq2 dq3 dq4 dq5 dq6;have dq0:=q0 _ e35;have dq1:=q1 _ e35;have dq2:=q2 _ e35;have dq3:=q3 _ e35;have dq4:=q4 _ e35;have dq5:=q5 _ e35;have dq6:=q6 _ e35;cases va
  ·go_wp2
   go_ret;exact ⟨rfl,E3.out.trans e35⟩
  ·have hvb:vb=false:=by cases vb<;>simp at hv ⊢
   subst hvb;go_wp2_with fail;refine (CVB.out _ e35).mono ?_;rintro _ w6 ⟨rfl,e6⟩;go_wp2;go_ret;exact ⟨rfl,E3.out.trans (e35.trans e6)⟩
 case pos =>
  obtain ⟨cs,inv,hR,hB,hN2,hil,hinv,hva,hvb,ha1,ha2,hg1,hg2,hz1,hz2,hor,hsay⟩:=differ_facts ha6 hv.1 hv.2 HSZ.out.1 HSZ.out.2;rw [hR] at CDI CCO;rw [hB] at CDB;rw [hv.1] at CVA;rw [hv.2] at CVB;rw [joinC_len] at CCO;have CDB:Hid (∀ w',Ext W3 w'→Calls Tryz.prog 6 #[.agg #[.slice A1 ds.length c1],.agg #[.int .i64 b.num,.slice A4 b.bytes.length c4,.slice A5 b.items.length c5],.agg #[.int .i64 b.num,.slice A4 b.bytes.length c4,.slice A5 b.items.length c5]] w' fun e w''=>∃ A c,e=.returned (.slice A 0 c)∧Ext w' w''):=fun w' e=>(CDB.out w' e).mono fun _ _ ⟨A,c,h1,_,h3⟩=>⟨A,c,h1,h3⟩
  have CEA:Hid (∀ (X1:Option Addr) (x1:Nat) (X2:Option Addr) (x2:Nat) w',Ext W3 w'→RdV w' b X1 x1 X2 x2→Gives Tryz.prog 11 #[.agg #[.int .i64 b.num,.slice X1 b.bytes.length x1,.slice X2 b.items.length x2],.agg #[.int .i64 b.num,.slice A4 b.bytes.length c4,.slice A5 b.items.length c5]] w' (.bool true)):=fun X1 x1 X2 x2 w' e hx=>by
   have h:=sEqV_all b b X1 x1 X2 x2 A4 c4 A5 c5 w' hx (R3.out.ext e) (by have:=HSZ.out;omega) (by have:=HSZ.out;omega)
   rwa [eqV_refl] at h
  have CEB:Hid (∀ (X1:Option Addr) (x1:Nat) (X2:Option Addr) (x2:Nat) w',Ext W3 w'→RdV w' a X1 x1 X2 x2→Gives Tryz.prog 11 #[.agg #[.int .i64 a.num,.slice X1 a.bytes.length x1,.slice X2 a.items.length x2],.agg #[.int .i64 a.num,.slice A2 a.bytes.length c2,.slice A3 a.items.length c3]] w' (.bool true)):=fun X1 x1 X2 x2 w' e hx=>by
   have h:=sEqV_all a a X1 x1 X2 x2 A2 c2 A3 c3 w' hx (R2.out.ext e) (by have:=HSZ.out;omega) (by have:=HSZ.out;omega)
   rwa [eqV_refl] at h
  have CEC:Hid (∀ w',Ext W3 w'→Gives Tryz.prog 11 #[.agg #[.int .i64 a.num,.slice A2 a.bytes.length c2,.slice A3 a.items.length c3],.agg #[.int .i64 b.num,.slice A4 b.bytes.length c4,.slice A5 b.items.length c5]] w' (.bool (eqV a b))):=fun w' e=>sEqV_all a b A2 c2 A3 c3 A4 c4 A5 c5 w' (R2.out.ext e) (R3.out.ext e) (by have:=HSZ.out;omega) (by have:=HSZ.out;omega)
  have HRO:Hid (∀ ch∈cs,RoundOk W3 (.agg #[.slice A1 ds.length c1]) (.agg #[.int .i64 a.num,.slice A2 a.bytes.length c2,.slice A3 a.items.length c3]) ch.1 ch.2):=fun ch hc=>roundOk A1 ds c1 a A2 c2 A3 c3 W3 HOK.out HSD.out HWF.out.2 HWF.out.1 R1.out R2.out (by have:=HSZ.out;omega) hva HT3.out ch.1 ch.2 (hg1 ch hc).1 (hg1 ch hc).2 (hsay ch hc)
  have CDI:Hid (∀ w',Ext W3 w'→Calls Tryz.prog 6 #[.agg #[.slice A1 ds.length c1],.agg #[.int .i64 a.num,.slice A2 a.bytes.length c2,.slice A3 a.items.length c3],.agg #[.int .i64 b.num,.slice A4 b.bytes.length c4,.slice A5 b.items.length c5]] w' (RowOut cs.length cs w')):=fun w' e=>(CDI.out w' e).mono fun _ _ h=>h.row rfl
  have CA1:Hid (∀ (C:Option Addr) (cc:Nat) w',Ext W3 w'→RdC w' C (joinC cs) cc→Calls Tryz.prog 8 #[.agg #[.slice A1 ds.length c1],.agg #[.int .i64 a.num,.slice A2 a.bytes.length c2,.slice A3 a.items.length c3],.slice C cs.length cc] w' (ReplOut w' b)):=fun C cc w' e hc=>iApply_c A1 ds c1 HOK.out HWF.out.2 HWF.out.1 a b A2 c2 A3 c3 cs C cc w' (R1.out.ext e) (R2.out.ext e) hc hz1 hva ha1 hg1 (HT3.out w' e)
  have CIN:Hid (∀ (C:Option Addr) (cc:Nat) w',Ext W3 w'→RdC w' C (joinC cs) cc→Calls Tryz.prog 9 #[.agg #[.slice A1 ds.length c1],.agg #[.int .i64 a.num,.slice A2 a.bytes.length c2,.slice A3 a.items.length c3],.slice C cs.length cc] w' (RowOut cs.length inv w')):=fun C cc w' e hc=>by
   have h:=iInvert_c A1 ds c1 HOK.out HWF.out.2 HWF.out.1 a b A2 c2 A3 c3 cs C cc w' (R1.out.ext e) (R2.out.ext e) hc hz1 (by omega) hva ha1 hg1 (HT3.out w' e);rw [← hinv] at h;exact h.mono fun _ _ h=>h.row hil
  have CA2:Hid (∀ (X1:Option Addr) (x1:Nat) (X2:Option Addr) (x2:Nat) (C:Option Addr) (cc:Nat) w',Ext W3 w'→RdV w' b X1 x1 X2 x2→RdC w' C (joinC inv) cc→Calls Tryz.prog 8 #[.agg #[.slice A1 ds.length c1],.agg #[.int .i64 b.num,.slice X1 b.bytes.length x1,.slice X2 b.items.length x2],.slice C cs.length cc] w' (ReplOut w' a)):=fun X1 x1 X2 x2 C cc w' e hx hc=>by
   have h:=iApply_c A1 ds c1 HOK.out HWF.out.2 HWF.out.1 b a X1 x1 X2 x2 inv C cc w' (R1.out.ext e) hx hc hz2 hvb ha2 hg2 (HT3.out w' e)
   rwa [hil] at h
  obtain ⟨N,hN⟩:∃ N,N=cs.length:=⟨_,rfl⟩;have HN:=lhd hN;rw [← hN] at CDI CA1 CIN CA2 CCO hor hN2;have HOR:=lhd hor;have hNI:(N:Int)≤102402:=by omega
  clear hsay hor hva hvb ha1 ha2 hg1 hg2 hz1 hz2 hil hinv hR hB hv hN HOK HSM HSD HWF R1;go_wp2_with fail;rw [← hW3.out];refine (CDI.out _ (Ext.refl _)).mono ?_;rintro _ w4 ⟨A6,c6,rfl,rl,e4⟩;clear dq0 dq1 dq2 dq3 dq4 dq5 dq6 CDI;have dq0:=q0 _ e4;have dq1:=q1 _ e4;have dq2:=q2 _ e4;have dq3:=q3 _ e4;have dq4:=q4 _ e4;have dq5:=q5 _ e4;have dq6:=q6 _ e4;go_wp2_with fail;refine (CVA.out _ e4).mono ?_;rintro _ w5 ⟨rfl,e5⟩;have e35:=e4.trans e5;clear dq0 dq1 dq2 dq3 dq4 dq5 dq6 CVA;have dq0:=q0 _ e35;have dq1:=q1 _ e35;have dq2:=q2 _ e35;have dq3:=q3 _ e35;have dq4:=q4 _ e35;have dq5:=q5 _ e35;have dq6:=q6 _ e35;go_wp2_with fail;refine (CVB.out _ e35).mono ?_;rintro _ w6 ⟨rfl,e6⟩;have e36:=e35.trans e6;clear dq0 dq1 dq2 dq3 dq4 dq5 dq6 CVB;have dq0:=q0 _ e36;have dq1:=q1 _ e36;have dq2:=q2 _ e36;have dq3:=q3 _ e36;have dq4:=q4 _ e36;have dq5:=q5 _ e36;have dq6:=q6 _ e36;have rl6:=rl.ext (e5.trans e6);go_wp2_with fail;refine (CA1.out _ _ _ e36 rl6).mono ?_;rintro _ w7 ⟨t7,X1,n7,x1,X2,n8,x2,rfl,hsh7,hgt7,e7⟩;obtain ⟨q1',q2',rx⟩:=hgt7.rdAt hsh7 (by have:=HSZ.out;omega);subst q1';subst q2';obtain ⟨W8,hW8⟩:=nmw (w7.alloc (.cells #[.int .i64 b.num,.slice X1 b.bytes.length x1,.slice X2 b.items.length x2] 29));have e78:Ext w7 W8:=ka hW8
  have BX:Box W8 w7.heap.size #[.int .i64 b.num,.slice X1 b.bytes.length x1,.slice X2 b.items.length x2] 29:=kb hW8
  have x0:∀ w',Ext W8 w'→w'.cell? ⟨w7.heap.size,0,none⟩=some (Value.int .i64 b.num):=BX.at 0
  have xx1:∀ w',Ext W8 w'→w'.cell? ⟨w7.heap.size,1,none⟩=some (Value.slice X1 b.bytes.length x1):=BX.at 1
  have xx2:∀ w',Ext W8 w'→w'.cell? ⟨w7.heap.size,2,none⟩=some (Value.slice X2 b.items.length x2):=BX.at 2
  have E38:=lhd ((e36.trans e7).trans e78);have RX:=lhd (rx.ext e78);have RL:=lhd (rl6.ext (e7.trans e78));clear dq0 dq1 dq2 dq3 dq4 dq5 dq6 CA1 rl rl6 rx hgt7 hsh7 BX e4 e5 e6 e7 e35 e36 e78;replace q0:=fun w' (e':Ext W8 w')=>q0 w' (E38.out.trans e')
  replace q1:=fun w' (e':Ext W8 w')=>q1 w' (E38.out.trans e')
  replace q2:=fun w' (e':Ext W8 w')=>q2 w' (E38.out.trans e')
  replace q3:=fun w' (e':Ext W8 w')=>q3 w' (E38.out.trans e')
  replace q4:=fun w' (e':Ext W8 w')=>q4 w' (E38.out.trans e')
  replace q5:=fun w' (e':Ext W8 w')=>q5 w' (E38.out.trans e')
  replace q6:=fun w' (e':Ext W8 w')=>q6 w' (E38.out.trans e')
  go_upto_region 9 with (fail);rw [← hW8.out];clear hW8 hW3;go_cut [10,11] (fun s10 s11 wx=>∃ g X3 x3 X4 x4,s10=.pointer (some ⟨g,0,none⟩)∧s11=.bool true∧Hid (Box wx g #[.int .i64 a.num,.slice X3 a.bytes.length x3,.slice X4 a.items.length x4] 29)∧Hid (RdV wx a X3 x3 X4 x4)∧Ext W8 wx)
  case first =>
   have HZY:Hid (szV a≤1048576):=by have:=HSZ.out;show _≤_;omega
   clear CDB CCO CEA CEB CEC HRO HOR hlI hl6 hNI HT3;have eS:Ext W8 W8.drew:=Ext_drew (Ext.refl W8)
   refine wp_region_HD (S:=fun w'=>Ext W8 w') (ofB 13 0) (by kernel_rfl) (by kernel_rfl) ?_;generalize W8.drew=wd at *;refine tkI (i:=0) (some 55) (v:=?_) (ofB 13 1) rfl rfl eS ?_ ?_;rotate_left
   ·(intro w' hSw;have hf0:=q0 w' hSw;clear hSw;go_simp;try with_reducible rfl)
   try simp only [Act.put,lpa,lpz,lps]
   refine tkI (i:=1) (some 56) (v:=?_) (ofB 13 3) rfl rfl eS ?_ ?_;rotate_left
   ·(intro w' hSw;have hf0:=x0 w' hSw;have hf1:=xx1 w' hSw;have hf2:=xx2 w' hSw;clear hSw;go_simp;try with_reducible rfl)
   try simp only [Act.put,lpa,lpz,lps]
   refine tkI (i:=2) (some 57) (v:=?_) (ofB 13 7) rfl rfl eS ?_ ?_;rotate_left
   ·(intro w' hSw;have hf0:=q0 w' hSw;clear hSw;go_simp;try with_reducible rfl)
   try simp only [Act.put,lpa,lpz,lps]
   refine tkI (i:=3) (some 58) (v:=?_) (ofB 13 15) rfl rfl eS ?_ ?_;rotate_left
   ·(intro w' hSw;have hf0:=q1 w' hSw;have hf1:=q2 w' hSw;have hf2:=q3 w' hSw;clear hSw;go_simp;try with_reducible rfl)
   try simp only [Act.put,lpa,lpz,lps]
   refine tkI (i:=4) (some 59) (v:=?_) (ofB 13 31) rfl rfl eS ?_ ?_;rotate_left
   ·(intro w' hSw;clear hSw;go_simp;try with_reducible rfl)
   try simp only [Act.put,lpa,lpz,lps]
   refine twoH (i:=5) (j:=10) (some 60) (some 10) (ofB 13 63) (ofB 13 1055) (by kernel_rfl) rfl rfl (by kernel_rfl) rfl rfl (by kernel_rfl) (fun K hK=>?_) (fun K hK=>?_)
   ·go_simp
    go_at_call 9;refine (CIN.out _ _ _ (E38.out.trans eS) (RL.out.ext eS)).mono ?_;rintro _ wi ⟨Ai,ci,rfl,ri',ei⟩;have ri:=lhd ri';replace eS:=eS.trans ei;clear ri' ei;refine Shut.out hK _ _ eS ?_;(try simp only [Act.put,lpa,lpz,lps]);refine twoH (i:=6) (j:=10) (some 61) (some 10) (ofB 13 127) (ofB 13 1087) (by kernel_rfl) rfl rfl (by kernel_rfl) rfl rfl (by kernel_rfl) (fun K hK=>?_) (fun K hK=>?_)
    ·go_simp
     go_at_call 8;refine (CA2.out _ _ _ _ _ _ _ (E38.out.trans eS) (RX.out.ext eS) ri.out).mono ?_;rintro _ wa ⟨t9,X3,n9,x3,X4,n10,x4,rfl,hsh9,hgt9',ea⟩;obtain ⟨q1,q2,ra'⟩:=hgt9'.rdAt hsh9 (by have:=HZY.out;omega);subst q1;subst q2;have ra:=lhd ra';have hgt9:=lhd hgt9';replace eS:=eS.trans ea;clear ra' hgt9' ea;refine Shut.out hK _ _ eS ?_;(try simp only [Act.put,lpa,lpz,lps]);refine tkI (i:=7) (some 54) (v:=?_) (ofB 13 255) rfl rfl eS ?_ ?_;rotate_left
     ·(intro w' hSw;clear hSw;go_simp;try with_reducible rfl)
     try simp only [Act.put,lpa,lpz,lps]
     refine tkI (i:=8) (some 62) (v:=?_) (ofB 13 511) rfl rfl eS ?_ ?_;rotate_left
     ·(intro w' hSw;clear hSw;go_simp;try with_reducible rfl)
     try simp only [Act.put,lpa,lpz,lps]
     refine tkI (i:=9) (some 63) (v:=?_) (ofB 13 1023) rfl rfl eS ?_ ?_;rotate_left
     ·(intro w' hSw;clear hSw;go_simp;try with_reducible rfl)
     try simp only [Act.put,lpa,lpz,lps]
     refine oneH (i:=10) (some 10) (ofB 13 2047) (by kernel_rfl) rfl rfl (by kernel_rfl) (fun K hK=>?_);have ea0:=lhd (Ext_alloc (.cells #[.int .i64 0,.slice none 0 0,.slice none 0 0] 29) (Ext.refl wa));have tt:=(Box.new wa #[.int .i64 0,.slice none 0 0,.slice none 0 0] 29).cell;have tf:=(Box.new wa #[.int .i64 0,.slice none 0 0,.slice none 0 0] 29).free;have eSg:=lhd eS;go_simp;replace eS:=eS.trans ea0.out;clear ea0;refine Shut.out hK _ _ eS ?_;(try simp only [Act.put,lpa,lpz,lps]);refine oneH (i:=11) (none) (ofB 13 4095) (by kernel_rfl) rfl rfl (by kernel_rfl) (fun K hK=>?_);have ez:=lhd (Ext_alloc (.cells #[.int .i64 a.num,.slice X3 a.bytes.length x3,.slice X4 a.items.length x4] 29) (Ext.refl wa));have qB:=lhd (Box.new wa #[.int .i64 a.num,.slice X3 a.bytes.length x3,.slice X4 a.items.length x4] 29);have qR:=lhd (ra.out.ext ez.out);go_simp;replace eS:=eSg.out.trans ez.out;clear tt tf eSg ez;refine Shut.out hK _ _ eS ?_;(try simp only [Act.put,lpa,lpz,lps]);refine tkI (i:=12) (some 11) (v:=?_) (ofB 13 8191) rfl rfl eS ?_ ?_;rotate_left
     ·(intro w' hSw;clear hSw;go_simp;try with_reducible rfl)
     try simp only [Act.put,lpa,lpz,lps]
     refine wpAnyH_done (by kernel_rfl) ?_ _;obtain ⟨wz,hwz⟩:=nmw ((wa.alloc (.cells #[.int .i64 a.num,.slice X3 a.bytes.length x3,.slice X4 a.items.length x4] 29)));have zB:=qB.out;have zR:=qR.out;rw [← hwz.out] at zB zR eS;rw [← hwz.out];clear hwz qB qR;have qB:=lhd zB;have qR:=lhd zR;clear zB zR;go_wp2_with fail;go_meet;exact ⟨_,_,_,_,_,rfl,rfl,qB,qR,eS⟩
    ·have ea0:=lhd (Ext_alloc (.cells #[.int .i64 0,.slice none 0 0,.slice none 0 0] 29) (Ext.refl wi))
     have BG:=lhd (Box.new wi #[.int .i64 0,.slice none 0 0,.slice none 0 0] 29);have HGS:Hid (W8.heap.size≤wi.heap.size):=eS.size
     replace ri:=lhd (ri.out.ext ea0.out);go_simp;replace eS:=eS.trans ea0.out;clear ea0;refine Shut.out hK _ _ eS ?_;(try simp only [Act.put,lpa,lpz,lps]);refine oneH (i:=6) (some 61) (ofB 13 1151) (by kernel_rfl) rfl rfl (by kernel_rfl) (fun K hK=>?_);go_simp;go_at_call 8;have hgb:=lhd BG.out.lt;refine (CA2.out _ _ _ _ _ _ _ (E38.out.trans eS) (RX.out.ext eS) ri.out).mono ?_;rintro _ wa ⟨t9,X3,n9,x3,X4,n10,x4,rfl,hsh9,hgt9',ea⟩;obtain ⟨q1,q2,ra'⟩:=hgt9'.rdAt hsh9 (by have:=HZY.out;omega);subst q1;subst q2;have ra:=lhd ra';have hgt9:=lhd hgt9';have LT9:Hid (∀ u∈t9.vals,∀ b,u.ownBlock=some b→b≠wi.heap.size):=fun u hu b hb=>by have h1:=(hgt9'.own.block u hu b hb).1;have h2:=hgb.out;omega
     replace eS:=eS.trans ea;replace BG:=lhd (BG.out.ext ea);clear hgb;clear ra' hgt9' ea;refine Shut.out hK _ _ eS ?_;(try simp only [Act.put,lpa,lpz,lps]);refine tkI (i:=7) (some 54) (v:=?_) (ofB 13 1279) rfl rfl eS ?_ ?_;rotate_left
     ·(intro w' hSw;clear hSw;go_simp;try with_reducible rfl)
     try simp only [Act.put,lpa,lpz,lps]
     refine tkI (i:=8) (some 62) (v:=?_) (ofB 13 1535) rfl rfl eS ?_ ?_;rotate_left
     ·(intro w' hSw;clear hSw;go_simp;try with_reducible rfl)
     try simp only [Act.put,lpa,lpz,lps]
     refine tkI (i:=9) (some 63) (v:=?_) (ofB 13 2047) rfl rfl eS ?_ ?_;rotate_left
     ·(intro w' hSw;clear hSw;go_simp;try with_reducible rfl)
     try simp only [Act.put,lpa,lpz,lps]
     refine oneH (i:=11) (none) (ofB 13 4095) (by kernel_rfl) rfl rfl (by kernel_rfl) (fun K hK=>?_);have tt:=BG.out.cell;have tf:=BG.out.free;have G:Hid (wa.grownBy (((wa.setCell ⟨wi.heap.size,0,none⟩ (.int .i64 a.num)).setCell ⟨wi.heap.size,1,none⟩ (.slice X3 a.bytes.length x3)).setCell ⟨wi.heap.size,2,none⟩ (.slice X4 a.items.length x4)) (some wi.heap.size)):=((grown_set wa ⟨wi.heap.size,0,none⟩ (.int .i64 a.num)).trans (grown_set _ ⟨wi.heap.size,1,none⟩ (.slice X3 a.bytes.length x3))).trans (grown_set _ ⟨wi.heap.size,2,none⟩ (.slice X4 a.items.length x4))
     have qB:Hid (Box (((wa.setCell ⟨wi.heap.size,0,none⟩ (.int .i64 a.num)).setCell ⟨wi.heap.size,1,none⟩ (.slice X3 a.bytes.length x3)).setCell ⟨wi.heap.size,2,none⟩ (.slice X4 a.items.length x4)) wi.heap.size #[.int .i64 a.num,.slice X3 a.bytes.length x3,.slice X4 a.items.length x4] 29):=((BG.out.set 0 (.int .i64 a.num)).set 1 (.slice X3 a.bytes.length x3)).set 2 (.slice X4 a.items.length x4)
     have qR:Hid (RdV (((wa.setCell ⟨wi.heap.size,0,none⟩ (.int .i64 a.num)).setCell ⟨wi.heap.size,1,none⟩ (.slice X3 a.bytes.length x3)).setCell ⟨wi.heap.size,2,none⟩ (.slice X4 a.items.length x4)) a X3 x3 X4 x4):=(GotV.rdAt (w:=(((wa.setCell ⟨wi.heap.size,0,none⟩ (.int .i64 a.num)).setCell ⟨wi.heap.size,1,none⟩ (.slice X3 a.bytes.length x3)).setCell ⟨wi.heap.size,2,none⟩ (.slice X4 a.items.length x4))) (t:=t9) ⟨hgt9.out.val,hgt9.out.own.keep G.out (fun u hu b hb hh=>by injection hh with hh;exact LT9.out u hu b hb hh.symm),hgt9.out.far⟩ hsh9 (by have:=HZY.out;omega)).2.2
     have qS:Hid (Ext W8 (((wa.setCell ⟨wi.heap.size,0,none⟩ (.int .i64 a.num)).setCell ⟨wi.heap.size,1,none⟩ (.slice X3 a.bytes.length x3)).setCell ⟨wi.heap.size,2,none⟩ (.slice X4 a.items.length x4))):=lhd (((eS.setCell (p:=⟨wi.heap.size,0,none⟩) HGS.out (.int .i64 a.num)).setCell (p:=⟨wi.heap.size,1,none⟩) HGS.out (.slice X3 a.bytes.length x3)).setCell (p:=⟨wi.heap.size,2,none⟩) HGS.out (.slice X4 a.items.length x4))
     go_simp;replace eS:=qS.out;clear tt tf G qS;refine Shut.out hK _ _ eS ?_;(try simp only [Act.put,lpa,lpz,lps]);refine tkI (i:=12) (some 11) (v:=?_) (ofB 13 8191) rfl rfl eS ?_ ?_;rotate_left
     ·(intro w' hSw;clear hSw;go_simp;try with_reducible rfl)
     try simp only [Act.put,lpa,lpz,lps]
     refine wpAnyH_done (by kernel_rfl) ?_ _;obtain ⟨wz,hwz⟩:=nmw ((((wa.setCell ⟨wi.heap.size,0,none⟩ (.int .i64 a.num)).setCell ⟨wi.heap.size,1,none⟩ (.slice X3 a.bytes.length x3)).setCell ⟨wi.heap.size,2,none⟩ (.slice X4 a.items.length x4)));have zB:=qB.out;have zR:=qR.out;rw [← hwz.out] at zB zR eS;rw [← hwz.out];clear hwz qB qR;have qB:=lhd zB;have qR:=lhd zR;clear zB zR;go_wp2_with fail;go_meet;exact ⟨_,_,_,_,_,rfl,rfl,qB,qR,eS⟩
   ·have ea0:=lhd (Ext_alloc (.cells #[.int .i64 0,.slice none 0 0,.slice none 0 0] 29) (Ext.refl wd))
    have BG:=lhd (Box.new wd #[.int .i64 0,.slice none 0 0,.slice none 0 0] 29);have HGS:Hid (W8.heap.size≤wd.heap.size):=eS.size
    go_simp;replace eS:=eS.trans ea0.out;clear ea0;refine Shut.out hK _ _ eS ?_;(try simp only [Act.put,lpa,lpz,lps]);refine oneH (i:=5) (some 60) (ofB 13 1087) (by kernel_rfl) rfl rfl (by kernel_rfl) (fun K hK=>?_);go_simp;go_at_call 9;refine (CIN.out _ _ _ (E38.out.trans eS) (RL.out.ext eS)).mono ?_;rintro _ wi ⟨Ai,ci,rfl,ri',ei⟩;have ri:=lhd ri';replace eS:=eS.trans ei;replace BG:=lhd (BG.out.ext ei);clear ri' ei;refine Shut.out hK _ _ eS ?_;(try simp only [Act.put,lpa,lpz,lps]);refine oneH (i:=6) (some 61) (ofB 13 1151) (by kernel_rfl) rfl rfl (by kernel_rfl) (fun K hK=>?_);go_simp;go_at_call 8;have hgb:=lhd BG.out.lt;refine (CA2.out _ _ _ _ _ _ _ (E38.out.trans eS) (RX.out.ext eS) ri.out).mono ?_;rintro _ wa ⟨t9,X3,n9,x3,X4,n10,x4,rfl,hsh9,hgt9',ea⟩;obtain ⟨q1,q2,ra'⟩:=hgt9'.rdAt hsh9 (by have:=HZY.out;omega);subst q1;subst q2;have ra:=lhd ra';have hgt9:=lhd hgt9';have LT9:Hid (∀ u∈t9.vals,∀ b,u.ownBlock=some b→b≠wd.heap.size):=fun u hu b hb=>by have h1:=(hgt9'.own.block u hu b hb).1;have h2:=hgb.out;omega
    replace eS:=eS.trans ea;replace BG:=lhd (BG.out.ext ea);clear hgb;clear ra' hgt9' ea;refine Shut.out hK _ _ eS ?_;(try simp only [Act.put,lpa,lpz,lps]);refine tkI (i:=7) (some 54) (v:=?_) (ofB 13 1279) rfl rfl eS ?_ ?_;rotate_left
    ·(intro w' hSw;clear hSw;go_simp;try with_reducible rfl)
    try simp only [Act.put,lpa,lpz,lps]
    refine tkI (i:=8) (some 62) (v:=?_) (ofB 13 1535) rfl rfl eS ?_ ?_;rotate_left
    ·(intro w' hSw;clear hSw;go_simp;try with_reducible rfl)
    try simp only [Act.put,lpa,lpz,lps]
    refine tkI (i:=9) (some 63) (v:=?_) (ofB 13 2047) rfl rfl eS ?_ ?_;rotate_left
    ·(intro w' hSw;clear hSw;go_simp;try with_reducible rfl)
    try simp only [Act.put,lpa,lpz,lps]
    refine oneH (i:=11) (none) (ofB 13 4095) (by kernel_rfl) rfl rfl (by kernel_rfl) (fun K hK=>?_);have tt:=BG.out.cell;have tf:=BG.out.free;have G:Hid (wa.grownBy (((wa.setCell ⟨wd.heap.size,0,none⟩ (.int .i64 a.num)).setCell ⟨wd.heap.size,1,none⟩ (.slice X3 a.bytes.length x3)).setCell ⟨wd.heap.size,2,none⟩ (.slice X4 a.items.length x4)) (some wd.heap.size)):=((grown_set wa ⟨wd.heap.size,0,none⟩ (.int .i64 a.num)).trans (grown_set _ ⟨wd.heap.size,1,none⟩ (.slice X3 a.bytes.length x3))).trans (grown_set _ ⟨wd.heap.size,2,none⟩ (.slice X4 a.items.length x4))
    have qB:Hid (Box (((wa.setCell ⟨wd.heap.size,0,none⟩ (.int .i64 a.num)).setCell ⟨wd.heap.size,1,none⟩ (.slice X3 a.bytes.length x3)).setCell ⟨wd.heap.size,2,none⟩ (.slice X4 a.items.length x4)) wd.heap.size #[.int .i64 a.num,.slice X3 a.bytes.length x3,.slice X4 a.items.length x4] 29):=((BG.out.set 0 (.int .i64 a.num)).set 1 (.slice X3 a.bytes.length x3)).set 2 (.slice X4 a.items.length x4)
    have qR:Hid (RdV (((wa.setCell ⟨wd.heap.size,0,none⟩ (.int .i64 a.num)).setCell ⟨wd.heap.size,1,none⟩ (.slice X3 a.bytes.length x3)).setCell ⟨wd.heap.size,2,none⟩ (.slice X4 a.items.length x4)) a X3 x3 X4 x4):=(GotV.rdAt (w:=(((wa.setCell ⟨wd.heap.size,0,none⟩ (.int .i64 a.num)).setCell ⟨wd.heap.size,1,none⟩ (.slice X3 a.bytes.length x3)).setCell ⟨wd.heap.size,2,none⟩ (.slice X4 a.items.length x4))) (t:=t9) ⟨hgt9.out.val,hgt9.out.own.keep G.out (fun u hu b hb hh=>by injection hh with hh;exact LT9.out u hu b hb hh.symm),hgt9.out.far⟩ hsh9 (by have:=HZY.out;omega)).2.2
    have qS:Hid (Ext W8 (((wa.setCell ⟨wd.heap.size,0,none⟩ (.int .i64 a.num)).setCell ⟨wd.heap.size,1,none⟩ (.slice X3 a.bytes.length x3)).setCell ⟨wd.heap.size,2,none⟩ (.slice X4 a.items.length x4))):=lhd (((eS.setCell (p:=⟨wd.heap.size,0,none⟩) HGS.out (.int .i64 a.num)).setCell (p:=⟨wd.heap.size,1,none⟩) HGS.out (.slice X3 a.bytes.length x3)).setCell (p:=⟨wd.heap.size,2,none⟩) HGS.out (.slice X4 a.items.length x4))
    go_simp;replace eS:=qS.out;clear tt tf G qS;refine Shut.out hK _ _ eS ?_;(try simp only [Act.put,lpa,lpz,lps]);refine tkI (i:=12) (some 11) (v:=?_) (ofB 13 8191) rfl rfl eS ?_ ?_;rotate_left
    ·(intro w' hSw;clear hSw;go_simp;try with_reducible rfl)
    try simp only [Act.put,lpa,lpz,lps]
    refine wpAnyH_done (by kernel_rfl) ?_ _;obtain ⟨wz,hwz⟩:=nmw ((((wa.setCell ⟨wd.heap.size,0,none⟩ (.int .i64 a.num)).setCell ⟨wd.heap.size,1,none⟩ (.slice X3 a.bytes.length x3)).setCell ⟨wd.heap.size,2,none⟩ (.slice X4 a.items.length x4)));have zB:=qB.out;have zR:=qR.out;rw [← hwz.out] at zB zR eS;rw [← hwz.out];clear hwz qB qR;have qB:=lhd zB;have qR:=lhd zR;clear zB zR;go_wp2_with fail;go_meet;exact ⟨_,_,_,_,_,rfl,rfl,qB,qR,eS⟩
  case rest =>
   obtain ⟨g,X3,x3,X4,x4,rfl,rfl,hbx,hry,ew⟩:=hcut;have E3c:=lhd (E38.out.trans ew);have RL:=lhd (RL.out.ext ew);have RX:=lhd (RX.out.ext ew);replace q0:=fun w' (e':Ext wc w')=>q0 w' (ew.trans e')
   replace q1:=fun w' (e':Ext wc w')=>q1 w' (ew.trans e')
   replace q2:=fun w' (e':Ext wc w')=>q2 w' (ew.trans e')
   replace q3:=fun w' (e':Ext wc w')=>q3 w' (ew.trans e')
   replace q4:=fun w' (e':Ext wc w')=>q4 w' (ew.trans e')
   replace q5:=fun w' (e':Ext wc w')=>q5 w' (ew.trans e')
   replace q6:=fun w' (e':Ext wc w')=>q6 w' (ew.trans e')
   replace x0:=fun w' (e':Ext wc w')=>x0 w' (ew.trans e')
   replace xx1:=fun w' (e':Ext wc w')=>xx1 w' (ew.trans e')
   replace xx2:=fun w' (e':Ext wc w')=>xx2 w' (ew.trans e')
   have y0:∀ w',Ext wc w'→w'.cell? ⟨g,0,none⟩=some (Value.int .i64 a.num):=hbx.out.at 0
   have y1:∀ w',Ext wc w'→w'.cell? ⟨g,1,none⟩=some (Value.slice X3 a.bytes.length x3):=hbx.out.at 1
   have y2:∀ w',Ext wc w'→w'.cell? ⟨g,2,none⟩=some (Value.slice X4 a.items.length x4):=hbx.out.at 2
   have EC:=lhd (E3.out.trans E3c.out);generalize wc=Wc at *;clear CIN CA2 hbx ew E38;go_wp2;go_loopw [12] (fun t wr=>∃ k:Nat,k≤N∧t=.int .i64 k∧Ext Wc wr) (fun t _=>N-(intOf t).toNat)
   case atStart=>exact ⟨0,by omega,rfl,Ext.refl _⟩
   case round =>
    obtain ⟨k,hk,rfl,e⟩:=hrel
    by_cases hlt:k<N
    ·have hkc:k<cs.length:=by have:=HN.out;omega
     have HK2:Hid (N-(k+1)<N-k):=by show _<_;omega
     have hltI:(k:Int)<(N:Int):=by omega
     obtain ⟨b0,off,Xb,xb,Xi,xi,hC,_,hxr,hxc⟩:=RL.out.get k (by rw [joinC_len];exact hkc);have hjk:(joinC cs)[k]'(by rw [joinC_len];exact hkc)=(joinB cs[k].1,cs[k].2):=by simp [joinC]
     rw [hjk] at hxr hxc;dsimp only at hxr hxc;subst hC;obtain ⟨r,y,tx,z1,z2,z3,z4,z5,z6⟩:=HRO.out cs[k] (List.getElem_mem hkc);generalize cs[k]=ch at *;obtain ⟨ss,x⟩:=ch;dsimp only at *;have E3r:=lhd (E3c.out.trans e);have p0:∀ w',Ext wr w'→w'.cell? ⟨b0,off+k*4,none⟩=some (.string (joinB ss)):=fun w' e'=>hxc w' (e.trans e') 0 (by omega)
     have p1:∀ w',Ext wr w'→w'.cell? ⟨b0,off+k*4+1,none⟩=some (.int .i64 x.num):=fun w' e'=>hxc w' (e.trans e') 1 (by omega)
     have p2:∀ w',Ext wr w'→w'.cell? ⟨b0,off+k*4+2,none⟩=some (.slice Xb x.bytes.length xb):=fun w' e'=>hxc w' (e.trans e') 2 (by omega)
     have p3:∀ w',Ext wr w'→w'.cell? ⟨b0,off+k*4+3,none⟩=some (.slice Xi x.items.length xi):=fun w' e'=>hxc w' (e.trans e') 3 (by omega)
     have CFP:Hid (∀ w',Ext wr w'→Calls Tryz.prog 10 #[.agg #[.slice A1 ds.length c1],.agg #[.int .i64 a.num,.slice A2 a.bytes.length c2,.slice A3 a.items.length c3],.string (joinB ss)] w' (FoundV r y w')):=fun w' e'=>z5 w' (E3r.out.trans e')
     have CCT0:Hid (∀ w',Ext wr w'→Gives Tryz.prog 12 #[.agg #[.slice A1 ds.length c1],.agg #[.int .i64 a.num,.slice A2 a.bytes.length c2,.slice A3 a.items.length c3],.agg #[.string (joinB ss),.int .i64 x.num,.slice Xb x.bytes.length xb,.slice Xi x.items.length xi]] w' (.string tx)):=fun w' e'=>z6 Xb xb Xi xi w' (E3r.out.trans e') (hxr.ext (e.trans e'))
     have CEQ0:Hid (∀ (Y1:Option Addr) (y1:Nat) (Y2:Option Addr) (y2:Nat) w',Ext wr w'→RdV w' y Y1 y1 Y2 y2→Gives Tryz.prog 11 #[.agg #[.int .i64 y.num,.slice Y1 y.bytes.length y1,.slice Y2 y.items.length y2],.agg #[.int .i64 x.num,.slice Xb x.bytes.length xb,.slice Xi x.items.length xi]] w' (.bool false)):=fun Y1 y1 Y2 y2 w' e' hy=>by
      have h:=sEqV_all y x Y1 y1 Y2 y2 Xb xb Xi xi w' hy (hxr.ext (e.trans e')) (by omega) (by omega)
      rwa [z1] at h
     have HZY:=lhd z2;have hTL:¬ tx.toList=[]:=fun e=>z4 (baInj (by rw [e,ByteArray.toList_eq]))
     have hTX:(tx.toList==[])=false:=by simpa using hTL
     clear hjk z1 z2 z3 z4 z5 z6 hxr hxc HRO CDB CCO CEA CEB CEC HOR;clear y0 y1 y2 x0 xx1 xx2 q4 q5 q6;replace q0:=fun w' (e':Ext wr w')=>q0 w' (e.trans e')
     replace q1:=fun w' (e':Ext wr w')=>q1 w' (e.trans e')
     replace q2:=fun w' (e':Ext wr w')=>q2 w' (e.trans e')
     replace q3:=fun w' (e':Ext wr w')=>q3 w' (e.trans e')
     generalize joinB ss=pp at *;go_upto_region 13 with (fail);go_cut [13,15] from 64 to 102 (fun s13 s15 wx=>∃ g X3 x3 X4 x4,s13=.pointer (some ⟨g,0,none⟩)∧s15=.bool true∧Hid (Box wx g #[.int .i64 y.num,.slice X3 y.bytes.length x3,.slice X4 y.items.length x4] 29)∧Hid (RdV wx y X3 x3 X4 x4)∧Ext wr wx)
     case first =>
      have eS:Ext wr wr.drew:=Ext_drew (Ext.refl wr)
      refine wp_region_HD (S:=fun w'=>Ext wr w') (ofB 16 0) (by kernel_rfl) (by kernel_rfl) ?_;generalize wr.drew=wd at *;refine tkI (i:=0) (some 71) (v:=?_) (ofB 16 1) rfl rfl eS ?_ ?_;rotate_left
      ·(intro w' hSw;have hf0:=q0 w' hSw;clear hSw;go_simp;try with_reducible rfl)
      try simp only [Act.put,lpa,lpz,lps]
      refine tkI (i:=1) (some 72) (v:=?_) (ofB 16 3) rfl rfl eS ?_ ?_;rotate_left
      ·(intro w' hSw;have hf0:=q1 w' hSw;have hf1:=q2 w' hSw;have hf2:=q3 w' hSw;clear hSw;go_simp;try with_reducible rfl)
      try simp only [Act.put,lpa,lpz,lps]
      refine tkI (i:=2) (some 73) (v:=?_) (ofB 16 7) rfl rfl eS ?_ ?_;rotate_left
      ·(intro w' hSw;clear hSw;go_simp;try with_reducible rfl)
      try simp only [Act.put,lpa,lpz,lps]
      refine tkI (i:=3) (some 74) (v:=?_) (ofB 16 15) rfl rfl eS ?_ ?_;rotate_left
      ·(intro w' hSw;clear hSw;go_simp;try with_reducible rfl)
      try simp only [Act.put,lpa,lpz,lps]
      refine tkI (i:=4) (some 75) (v:=?_) (ofB 16 31) rfl rfl eS ?_ ?_;rotate_left
      ·(intro w' hSw;clear hSw;go_simp;try with_reducible rfl)
      try simp only [Act.put,lpa,lpz,lps]
      refine tkI (i:=5) (some 76) (v:=?_) (ofB 16 63) rfl rfl eS ?_ ?_;rotate_left
      ·(intro w' hSw;clear hSw;go_simp;try with_reducible rfl)
      try simp only [Act.put,lpa,lpz,lps]
      refine tkI (i:=6) (some 77) (v:=?_) (ofB 16 127) rfl rfl eS ?_ ?_;rotate_left
      ·(intro w' hSw;have hf0:=p0 w' hSw;clear hSw;go_simp;try with_reducible rfl)
      try simp only [Act.put,lpa,lpz,lps]
      refine twoH (i:=7) (j:=12) (some 78) (some 13) (ofB 16 255) (ofB 16 4223) (by kernel_rfl) rfl rfl (by kernel_rfl) rfl rfl (by kernel_rfl) (fun K hK=>?_) (fun K hK=>?_)
      ·go_simp
       go_at_call 10;refine (CFP.out _ eS).mono ?_;rintro _ wa ⟨t9,X3,n9,x3,X4,n10,x4,rfl,hsh9,hgt9',ea⟩;obtain ⟨q1,q2,ra'⟩:=hgt9'.rdAt hsh9 (by have:=HZY.out;omega);subst q1;subst q2;have ra:=lhd ra';have hgt9:=lhd hgt9';replace eS:=eS.trans ea;clear ra' hgt9' ea;refine Shut.out hK _ _ eS ?_;(try simp only [Act.put,lpa,lpz,lps]);refine tkI (i:=8) (some 70) (v:=?_) (ofB 16 511) rfl rfl eS ?_ ?_;rotate_left
       ·(intro w' hSw;clear hSw;go_simp;try with_reducible rfl)
       try simp only [Act.put,lpa,lpz,lps]
       refine tkI (i:=9) (some 79) (v:=?_) (ofB 16 1023) rfl rfl eS ?_ ?_;rotate_left
       ·(intro w' hSw;clear hSw;go_simp;try with_reducible rfl)
       try simp only [Act.put,lpa,lpz,lps]
       refine tkI (i:=10) (some 80) (v:=?_) (ofB 16 2047) rfl rfl eS ?_ ?_;rotate_left
       ·(intro w' hSw;clear hSw;go_simp;try with_reducible rfl)
       try simp only [Act.put,lpa,lpz,lps]
       refine tkI (i:=11) (some 81) (v:=?_) (ofB 16 4095) rfl rfl eS ?_ ?_;rotate_left
       ·(intro w' hSw;clear hSw;go_simp;try with_reducible rfl)
       try simp only [Act.put,lpa,lpz,lps]
       refine oneH (i:=12) (some 13) (ofB 16 8191) (by kernel_rfl) rfl rfl (by kernel_rfl) (fun K hK=>?_);have ea0:=lhd (Ext_alloc (.cells #[.int .i64 0,.slice none 0 0,.slice none 0 0] 29) (Ext.refl wa));have tt:=(Box.new wa #[.int .i64 0,.slice none 0 0,.slice none 0 0] 29).cell;have tf:=(Box.new wa #[.int .i64 0,.slice none 0 0,.slice none 0 0] 29).free;have eSg:=lhd eS;go_simp;replace eS:=eS.trans ea0.out;clear ea0;refine Shut.out hK _ _ eS ?_;(try simp only [Act.put,lpa,lpz,lps]);refine oneH (i:=13) (none) (ofB 16 16383) (by kernel_rfl) rfl rfl (by kernel_rfl) (fun K hK=>?_);have ez:=lhd (Ext_alloc (.cells #[.int .i64 y.num,.slice X3 y.bytes.length x3,.slice X4 y.items.length x4] 29) (Ext.refl wa));have qB:=lhd (Box.new wa #[.int .i64 y.num,.slice X3 y.bytes.length x3,.slice X4 y.items.length x4] 29);have qR:=lhd (ra.out.ext ez.out);go_simp;replace eS:=eSg.out.trans ez.out;clear tt tf eSg ez;refine Shut.out hK _ _ eS ?_;(try simp only [Act.put,lpa,lpz,lps]);refine tkI (i:=14) (some 14) (v:=?_) (ofB 16 32767) rfl rfl eS ?_ ?_;rotate_left
       ·(intro w' hSw;clear hSw;go_simp;try with_reducible rfl)
       try simp only [Act.put,lpa,lpz,lps]
       refine tkI (i:=15) (some 15) (v:=?_) (ofB 16 65535) rfl rfl eS ?_ ?_;rotate_left
       ·(intro w' hSw;clear hSw;go_simp;try with_reducible rfl)
       try simp only [Act.put,lpa,lpz,lps]
       refine wpAnyH_done (by kernel_rfl) ?_ _;obtain ⟨wz,hwz⟩:=nmw ((wa.alloc (.cells #[.int .i64 y.num,.slice X3 y.bytes.length x3,.slice X4 y.items.length x4] 29)));have zB:=qB.out;have zR:=qR.out;rw [← hwz.out] at zB zR eS;rw [← hwz.out];clear hwz qB qR;have qB:=lhd zB;have qR:=lhd zR;clear zB zR;go_wp2_with fail;go_meet;exact ⟨_,_,_,_,_,rfl,rfl,qB,qR,eS⟩
      ·have ea0:=lhd (Ext_alloc (.cells #[.int .i64 0,.slice none 0 0,.slice none 0 0] 29) (Ext.refl wd))
       have BG:=lhd (Box.new wd #[.int .i64 0,.slice none 0 0,.slice none 0 0] 29);have HGS:Hid (wr.heap.size≤wd.heap.size):=eS.size
       go_simp;replace eS:=eS.trans ea0.out;clear ea0;refine Shut.out hK _ _ eS ?_;(try simp only [Act.put,lpa,lpz,lps]);refine oneH (i:=7) (some 78) (ofB 16 4351) (by kernel_rfl) rfl rfl (by kernel_rfl) (fun K hK=>?_);go_simp;go_at_call 10;have hgb:=lhd BG.out.lt;refine (CFP.out _ eS).mono ?_;rintro _ wa ⟨t9,X3,n9,x3,X4,n10,x4,rfl,hsh9,hgt9',ea⟩;obtain ⟨q1,q2,ra'⟩:=hgt9'.rdAt hsh9 (by have:=HZY.out;omega);subst q1;subst q2;have ra:=lhd ra';have hgt9:=lhd hgt9';have LT9:Hid (∀ u∈t9.vals,∀ b,u.ownBlock=some b→b≠wd.heap.size):=fun u hu b hb=>by have h1:=(hgt9'.own.block u hu b hb).1;have h2:=hgb.out;omega
       replace eS:=eS.trans ea;replace BG:=lhd (BG.out.ext ea);clear hgb;clear ra' hgt9' ea;refine Shut.out hK _ _ eS ?_;(try simp only [Act.put,lpa,lpz,lps]);refine tkI (i:=8) (some 70) (v:=?_) (ofB 16 4607) rfl rfl eS ?_ ?_;rotate_left
       ·(intro w' hSw;clear hSw;go_simp;try with_reducible rfl)
       try simp only [Act.put,lpa,lpz,lps]
       refine tkI (i:=9) (some 79) (v:=?_) (ofB 16 5119) rfl rfl eS ?_ ?_;rotate_left
       ·(intro w' hSw;clear hSw;go_simp;try with_reducible rfl)
       try simp only [Act.put,lpa,lpz,lps]
       refine tkI (i:=10) (some 80) (v:=?_) (ofB 16 6143) rfl rfl eS ?_ ?_;rotate_left
       ·(intro w' hSw;clear hSw;go_simp;try with_reducible rfl)
       try simp only [Act.put,lpa,lpz,lps]
       refine tkI (i:=11) (some 81) (v:=?_) (ofB 16 8191) rfl rfl eS ?_ ?_;rotate_left
       ·(intro w' hSw;clear hSw;go_simp;try with_reducible rfl)
       try simp only [Act.put,lpa,lpz,lps]
       refine oneH (i:=13) (none) (ofB 16 16383) (by kernel_rfl) rfl rfl (by kernel_rfl) (fun K hK=>?_);have tt:=BG.out.cell;have tf:=BG.out.free;have G:Hid (wa.grownBy (((wa.setCell ⟨wd.heap.size,0,none⟩ (.int .i64 y.num)).setCell ⟨wd.heap.size,1,none⟩ (.slice X3 y.bytes.length x3)).setCell ⟨wd.heap.size,2,none⟩ (.slice X4 y.items.length x4)) (some wd.heap.size)):=((grown_set wa ⟨wd.heap.size,0,none⟩ (.int .i64 y.num)).trans (grown_set _ ⟨wd.heap.size,1,none⟩ (.slice X3 y.bytes.length x3))).trans (grown_set _ ⟨wd.heap.size,2,none⟩ (.slice X4 y.items.length x4))
       have qB:Hid (Box (((wa.setCell ⟨wd.heap.size,0,none⟩ (.int .i64 y.num)).setCell ⟨wd.heap.size,1,none⟩ (.slice X3 y.bytes.length x3)).setCell ⟨wd.heap.size,2,none⟩ (.slice X4 y.items.length x4)) wd.heap.size #[.int .i64 y.num,.slice X3 y.bytes.length x3,.slice X4 y.items.length x4] 29):=((BG.out.set 0 (.int .i64 y.num)).set 1 (.slice X3 y.bytes.length x3)).set 2 (.slice X4 y.items.length x4)
       have qR:Hid (RdV (((wa.setCell ⟨wd.heap.size,0,none⟩ (.int .i64 y.num)).setCell ⟨wd.heap.size,1,none⟩ (.slice X3 y.bytes.length x3)).setCell ⟨wd.heap.size,2,none⟩ (.slice X4 y.items.length x4)) y X3 x3 X4 x4):=(GotV.rdAt (w:=(((wa.setCell ⟨wd.heap.size,0,none⟩ (.int .i64 y.num)).setCell ⟨wd.heap.size,1,none⟩ (.slice X3 y.bytes.length x3)).setCell ⟨wd.heap.size,2,none⟩ (.slice X4 y.items.length x4))) (t:=t9) ⟨hgt9.out.val,hgt9.out.own.keep G.out (fun u hu b hb hh=>by injection hh with hh;exact LT9.out u hu b hb hh.symm),hgt9.out.far⟩ hsh9 (by have:=HZY.out;omega)).2.2
       have qS:Hid (Ext wr (((wa.setCell ⟨wd.heap.size,0,none⟩ (.int .i64 y.num)).setCell ⟨wd.heap.size,1,none⟩ (.slice X3 y.bytes.length x3)).setCell ⟨wd.heap.size,2,none⟩ (.slice X4 y.items.length x4))):=lhd (((eS.setCell (p:=⟨wd.heap.size,0,none⟩) HGS.out (.int .i64 y.num)).setCell (p:=⟨wd.heap.size,1,none⟩) HGS.out (.slice X3 y.bytes.length x3)).setCell (p:=⟨wd.heap.size,2,none⟩) HGS.out (.slice X4 y.items.length x4))
       go_simp;replace eS:=qS.out;clear tt tf G qS;refine Shut.out hK _ _ eS ?_;(try simp only [Act.put,lpa,lpz,lps]);refine tkI (i:=14) (some 14) (v:=?_) (ofB 16 32767) rfl rfl eS ?_ ?_;rotate_left
       ·(intro w' hSw;clear hSw;go_simp;try with_reducible rfl)
       try simp only [Act.put,lpa,lpz,lps]
       refine tkI (i:=15) (some 15) (v:=?_) (ofB 16 65535) rfl rfl eS ?_ ?_;rotate_left
       ·(intro w' hSw;clear hSw;go_simp;try with_reducible rfl)
       try simp only [Act.put,lpa,lpz,lps]
       refine wpAnyH_done (by kernel_rfl) ?_ _;obtain ⟨wz,hwz⟩:=nmw ((((wa.setCell ⟨wd.heap.size,0,none⟩ (.int .i64 y.num)).setCell ⟨wd.heap.size,1,none⟩ (.slice X3 y.bytes.length x3)).setCell ⟨wd.heap.size,2,none⟩ (.slice X4 y.items.length x4)));have zB:=qB.out;have zR:=qR.out;rw [← hwz.out] at zB zR eS;rw [← hwz.out];clear hwz qB qR;have qB:=lhd zB;have qR:=lhd zR;clear zB zR;go_wp2_with fail;go_meet;exact ⟨_,_,_,_,_,rfl,rfl,qB,qR,eS⟩
     case rest =>
      obtain ⟨g2,Y1,z1,Y2,z2,rfl,rfl,hbx,hry2,ew⟩:=hcut;have CEQ:=lhd (fun w' (e':Ext wc w')=>CEQ0.out Y1 z1 Y2 z2 w' (ew.trans e') (hry2.out.ext e'));have CCT:=lhd (fun w' (e':Ext wc w')=>CCT0.out w' (ew.trans e'));replace q0:=fun w' (e':Ext wc w')=>q0 w' (ew.trans e')
      replace q1:=fun w' (e':Ext wc w')=>q1 w' (ew.trans e')
      replace q2:=fun w' (e':Ext wc w')=>q2 w' (ew.trans e')
      replace q3:=fun w' (e':Ext wc w')=>q3 w' (ew.trans e')
      replace p0:=fun w' (e':Ext wc w')=>p0 w' (ew.trans e')
      replace p1:=fun w' (e':Ext wc w')=>p1 w' (ew.trans e')
      replace p2:=fun w' (e':Ext wc w')=>p2 w' (ew.trans e')
      replace p3:=fun w' (e':Ext wc w')=>p3 w' (ew.trans e')
      have y0:∀ w',Ext wc w'→w'.cell? ⟨g2,0,none⟩=some (Value.int .i64 y.num):=hbx.out.at 0
      have y1:∀ w',Ext wc w'→w'.cell? ⟨g2,1,none⟩=some (Value.slice Y1 y.bytes.length z1):=hbx.out.at 1
      have y2:∀ w',Ext wc w'→w'.cell? ⟨g2,2,none⟩=some (Value.slice Y2 y.items.length z2):=hbx.out.at 2
      have eS:Ext wc wc.drew:=Ext_drew (Ext.refl wc)
      go_wp2_with fail;refine wp_region_HD (S:=fun w'=>Ext wc w') (ofB 21 0) (by kernel_rfl) (by kernel_rfl) ?_;refine tkI (i:=0) (some 82) (v:=?_) (ofB 21 1) rfl rfl eS ?_ ?_;rotate_left
      ·(intro w' hSw;clear hSw;go_simp;try with_reducible rfl)
      try simp only [Act.put,lpa,lpz,lps]
      refine tkI (i:=1) (some 83) (v:=?_) (ofB 21 3) rfl rfl eS ?_ ?_;rotate_left
      ·(intro w' hSw;clear hSw;go_simp;try with_reducible rfl)
      try simp only [Act.put,lpa,lpz,lps]
      refine tkI (i:=2) (some 84) (v:=?_) (ofB 21 7) rfl rfl eS ?_ ?_;rotate_left
      ·(intro w' hSw;clear hSw;go_simp;try with_reducible rfl)
      try simp only [Act.put,lpa,lpz,lps]
      refine tkI (i:=3) (some 85) (v:=?_) (ofB 21 15) rfl rfl eS ?_ ?_;rotate_left
      ·(intro w' hSw;have hf0:=y0 w' hSw;have hf1:=y1 w' hSw;have hf2:=y2 w' hSw;clear hSw;go_simp;try with_reducible rfl)
      try simp only [Act.put,lpa,lpz,lps]
      refine tkI (i:=4) (some 86) (v:=?_) (ofB 21 31) rfl rfl eS ?_ ?_;rotate_left
      ·(intro w' hSw;clear hSw;go_simp;try with_reducible rfl)
      try simp only [Act.put,lpa,lpz,lps]
      refine tkI (i:=5) (some 87) (v:=?_) (ofB 21 63) rfl rfl eS ?_ ?_;rotate_left
      ·(intro w' hSw;clear hSw;go_simp;try with_reducible rfl)
      try simp only [Act.put,lpa,lpz,lps]
      refine tkI (i:=6) (some 88) (v:=?_) (ofB 21 127) rfl rfl eS ?_ ?_;rotate_left
      ·(intro w' hSw;clear hSw;go_simp;try with_reducible rfl)
      try simp only [Act.put,lpa,lpz,lps]
      refine tkI (i:=7) (some 89) (v:=?_) (ofB 21 255) rfl rfl eS ?_ ?_;rotate_left
      ·(intro w' hSw;clear hSw;go_simp;try with_reducible rfl)
      try simp only [Act.put,lpa,lpz,lps]
      refine tkI (i:=8) (some 90) (v:=?_) (ofB 21 511) rfl rfl eS ?_ ?_;rotate_left
      ·(intro w' hSw;have hf0:=p1 w' hSw;have hf1:=p2 w' hSw;have hf2:=p3 w' hSw;clear hSw;go_simp;try with_reducible rfl)
      try simp only [Act.put,lpa,lpz,lps]
      refine oneH (i:=9) (some 91) (ofB 21 1023) (by kernel_rfl) rfl rfl (by kernel_rfl) (fun K hK=>?_);go_simp;go_at_call 11;refine (CEQ.out _ eS).mono ?_;rintro _ we ⟨rfl,ee⟩;replace eS:=eS.trans ee;refine Shut.out hK _ _ eS ?_;(try simp only [Act.put,lpa,lpz,lps]);refine tkI (i:=10) (some 92) (v:=?_) (ofB 21 2047) rfl rfl eS ?_ ?_;rotate_left
      ·(intro w' hSw;clear hSw;go_simp;try with_reducible rfl)
      try simp only [Act.put,lpa,lpz,lps]
      refine tkI (i:=11) (some 93) (v:=?_) (ofB 21 4095) rfl rfl eS ?_ ?_;rotate_left
      ·(intro w' hSw;clear hSw;go_simp;try with_reducible rfl)
      try simp only [Act.put,lpa,lpz,lps]
      refine tkI (i:=12) (some 94) (v:=?_) (ofB 21 8191) rfl rfl eS ?_ ?_;rotate_left
      ·(intro w' hSw;have hf0:=q0 w' hSw;clear hSw;go_simp;try with_reducible rfl)
      try simp only [Act.put,lpa,lpz,lps]
      refine tkI (i:=13) (some 95) (v:=?_) (ofB 21 16383) rfl rfl eS ?_ ?_;rotate_left
      ·(intro w' hSw;have hf0:=q1 w' hSw;have hf1:=q2 w' hSw;have hf2:=q3 w' hSw;clear hSw;go_simp;try with_reducible rfl)
      try simp only [Act.put,lpa,lpz,lps]
      refine tkI (i:=14) (some 96) (v:=?_) (ofB 21 32767) rfl rfl eS ?_ ?_;rotate_left
      ·(intro w' hSw;clear hSw;go_simp;try with_reducible rfl)
      try simp only [Act.put,lpa,lpz,lps]
      refine tkI (i:=15) (some 97) (v:=?_) (ofB 21 65535) rfl rfl eS ?_ ?_;rotate_left
      ·(intro w' hSw;clear hSw;go_simp;try with_reducible rfl)
      try simp only [Act.put,lpa,lpz,lps]
      refine tkI (i:=16) (some 98) (v:=?_) (ofB 21 131071) rfl rfl eS ?_ ?_;rotate_left
      ·(intro w' hSw;clear hSw;go_simp;try with_reducible rfl)
      try simp only [Act.put,lpa,lpz,lps]
      refine tkI (i:=17) (some 99) (v:=?_) (ofB 21 262143) rfl rfl eS ?_ ?_;rotate_left
      ·(intro w' hSw;have hf0:=p0 w' hSw;have hf1:=p1 w' hSw;have hf2:=p2 w' hSw;have hf3:=p3 w' hSw;clear hSw;go_simp;try with_reducible rfl)
      try simp only [Act.put,lpa,lpz,lps]
      refine oneH (i:=18) (some 100) (ofB 21 524287) (by kernel_rfl) rfl rfl (by kernel_rfl) (fun K hK=>?_);go_simp;go_at_call 12;refine (CCT.out _ eS).mono ?_;rintro _ wt ⟨rfl,et⟩;replace eS:=eS.trans et;refine Shut.out hK _ _ eS ?_;(try simp only [Act.put,lpa,lpz,lps]);refine tkI (i:=19) (some 101) (v:=?_) (ofB 21 1048575) rfl rfl eS ?_ ?_;rotate_left
      ·(intro w' hSw;clear hSw;go_simp;try with_reducible rfl)
      try simp only [Act.put,lpa,lpz,lps]
      refine tkI (i:=20) (some 102) (v:=?_) (ofB 21 2097151) rfl rfl eS ?_ ?_;rotate_left
      ·(intro w' hSw;clear hSw;go_simp;try with_reducible rfl)
      try simp only [Act.put,lpa,lpz,lps]
      refine wpAnyH_done (by kernel_rfl) ?_ _;go_wp2;go_roundw
      case rel=>exact ⟨k+1,by omega,by go_num,e.trans (ew.trans eS)⟩
      case measure=>have:=HK2.out;simp [intOf];omega
    ·obtain rfl:k=N:=by omega
     have E3r:=lhd (E3c.out.trans e);have EE:=lhd (EC.out.trans e);have RXr:=lhd (RX.out.ext e);have RYr:=lhd (hry.out.ext e);replace q0:=fun w' (e':Ext wr w')=>q0 w' (e.trans e')
     replace q1:=fun w' (e':Ext wr w')=>q1 w' (e.trans e')
     replace q2:=fun w' (e':Ext wr w')=>q2 w' (e.trans e')
     replace q3:=fun w' (e':Ext wr w')=>q3 w' (e.trans e')
     replace q4:=fun w' (e':Ext wr w')=>q4 w' (e.trans e')
     replace q5:=fun w' (e':Ext wr w')=>q5 w' (e.trans e')
     replace q6:=fun w' (e':Ext wr w')=>q6 w' (e.trans e')
     replace x0:=fun w' (e':Ext wr w')=>x0 w' (e.trans e')
     replace xx1:=fun w' (e':Ext wr w')=>xx1 w' (e.trans e')
     replace xx2:=fun w' (e':Ext wr w')=>xx2 w' (e.trans e')
     replace y0:=fun w' (e':Ext wr w')=>y0 w' (e.trans e')
     replace y1:=fun w' (e':Ext wr w')=>y1 w' (e.trans e')
     replace y2:=fun w' (e':Ext wr w')=>y2 w' (e.trans e')
     rcases HOR.out with ⟨h1,h2⟩ | ⟨h1,h2⟩
     ·subst h1
      rw [h2] at CEC;clear hlt hk hNI hlI hl6 HOR h2 HN RL RX hry e HT3 HRO;go_wp2_with fail;refine (CEA.out X1 x1 X2 x2 wr E3r.out RXr.out).mono ?_;rintro _ u1 ⟨rfl,f1⟩;have dq0:=q0 _ f1;have dq1:=q1 _ f1;have dq2:=q2 _ f1;have dq3:=q3 _ f1;have dq4:=q4 _ f1;have dq5:=q5 _ f1;have dq6:=q6 _ f1;have dx0:=x0 _ f1;have dxx1:=xx1 _ f1;have dxx2:=xx2 _ f1;have dy0:=y0 _ f1;have dy1:=y1 _ f1;have dy2:=y2 _ f1;go_wp2_with fail;refine (CEB.out X3 x3 X4 x4 u1 (E3r.out.trans f1) (RYr.out.ext f1)).mono ?_;rintro _ u2 ⟨rfl,f2⟩;have f12:=f1.trans f2;clear dq0 dq1 dq2 dq3 dq4 dq5 dq6 dx0 dxx1 dxx2 dy0 dy1 dy2;have dq0:=q0 _ f12;have dq1:=q1 _ f12;have dq2:=q2 _ f12;have dq3:=q3 _ f12;have dq4:=q4 _ f12;have dq5:=q5 _ f12;have dq6:=q6 _ f12;have dx0:=x0 _ f12;have dxx1:=xx1 _ f12;have dxx2:=xx2 _ f12;have dy0:=y0 _ f12;have dy1:=y1 _ f12;have dy2:=y2 _ f12;go_wp2_with fail;refine (CEC.out u2 (E3r.out.trans f12)).mono ?_;rintro _ u3 ⟨rfl,f3⟩;have f13:=f12.trans f3;clear dq0 dq1 dq2 dq3 dq4 dq5 dq6 dx0 dxx1 dxx2 dy0 dy1 dy2;have dq0:=q0 _ f13;have dq1:=q1 _ f13;have dq2:=q2 _ f13;have dq3:=q3 _ f13;have dq4:=q4 _ f13;have dq5:=q5 _ f13;have dq6:=q6 _ f13;have dx0:=x0 _ f13;have dxx1:=xx1 _ f13;have dxx2:=xx2 _ f13;have dy0:=y0 _ f13;have dy1:=y1 _ f13;have dy2:=y2 _ f13;go_wp2_with fail;refine (CCO.out u3 (E3r.out.trans f13)).mono ?_;rintro _ u4 ⟨rfl,f4⟩;have f14:=f13.trans f4;clear dq0 dq1 dq2 dq3 dq4 dq5 dq6 dx0 dxx1 dxx2 dy0 dy1 dy2;have dq0:=q0 _ f14;have dq1:=q1 _ f14;have dq2:=q2 _ f14;have dq3:=q3 _ f14;have dq4:=q4 _ f14;have dq5:=q5 _ f14;have dq6:=q6 _ f14;have dx0:=x0 _ f14;have dxx1:=xx1 _ f14;have dxx2:=xx2 _ f14;have dy0:=y0 _ f14;have dy1:=y1 _ f14;have dy2:=y2 _ f14;go_wp2_with fail;refine (CDB.out u4 (E3r.out.trans f14)).mono ?_;rintro _ u5 ⟨A7,c7,rfl,f5⟩;go_wp2;go_ret;exact ⟨rfl,EE.out.trans (f14.trans f5)⟩
     ·have hk1:((k:Int)==0)=false:=by simp;omega
      rw [h2] at CEC;clear hlt hk hlI hl6 HOR h1 h2 HN RL RX hry e HT3 HRO;go_wp2_with fail;refine (CEA.out X1 x1 X2 x2 wr E3r.out RXr.out).mono ?_;rintro _ u1 ⟨rfl,f1⟩;have dq0:=q0 _ f1;have dq1:=q1 _ f1;have dq2:=q2 _ f1;have dq3:=q3 _ f1;have dq4:=q4 _ f1;have dq5:=q5 _ f1;have dq6:=q6 _ f1;have dx0:=x0 _ f1;have dxx1:=xx1 _ f1;have dxx2:=xx2 _ f1;have dy0:=y0 _ f1;have dy1:=y1 _ f1;have dy2:=y2 _ f1;go_wp2_with fail;refine (CEB.out X3 x3 X4 x4 u1 (E3r.out.trans f1) (RYr.out.ext f1)).mono ?_;rintro _ u2 ⟨rfl,f2⟩;have f12:=f1.trans f2;clear dq0 dq1 dq2 dq3 dq4 dq5 dq6 dx0 dxx1 dxx2 dy0 dy1 dy2;have dq0:=q0 _ f12;have dq1:=q1 _ f12;have dq2:=q2 _ f12;have dq3:=q3 _ f12;have dq4:=q4 _ f12;have dq5:=q5 _ f12;have dq6:=q6 _ f12;have dx0:=x0 _ f12;have dxx1:=xx1 _ f12;have dxx2:=xx2 _ f12;have dy0:=y0 _ f12;have dy1:=y1 _ f12;have dy2:=y2 _ f12;go_wp2_with fail;refine (CEC.out u2 (E3r.out.trans f12)).mono ?_;rintro _ u3 ⟨rfl,f3⟩;have f13:=f12.trans f3;clear dq0 dq1 dq2 dq3 dq4 dq5 dq6 dx0 dxx1 dxx2 dy0 dy1 dy2;have dq0:=q0 _ f13;have dq1:=q1 _ f13;have dq2:=q2 _ f13;have dq3:=q3 _ f13;have dq4:=q4 _ f13;have dq5:=q5 _ f13;have dq6:=q6 _ f13;have dx0:=x0 _ f13;have dxx1:=xx1 _ f13;have dxx2:=xx2 _ f13;have dy0:=y0 _ f13;have dy1:=y1 _ f13;have dy2:=y2 _ f13;go_wp2_with fail;refine (CCO.out u3 (E3r.out.trans f13)).mono ?_;rintro _ u4 ⟨rfl,f4⟩;have f14:=f13.trans f4;clear dq0 dq1 dq2 dq3 dq4 dq5 dq6 dx0 dxx1 dxx2 dy0 dy1 dy2;have dq0:=q0 _ f14;have dq1:=q1 _ f14;have dq2:=q2 _ f14;have dq3:=q3 _ f14;have dq4:=q4 _ f14;have dq5:=q5 _ f14;have dq6:=q6 _ f14;have dx0:=x0 _ f14;have dxx1:=xx1 _ f14;have dxx2:=xx2 _ f14;have dy0:=y0 _ f14;have dy1:=y1 _ f14;have dy2:=y2 _ f14;go_wp2_with fail;refine (CDB.out u4 (E3r.out.trans f14)).mono ?_;rintro _ u5 ⟨A7,c7,rfl,f5⟩;go_wp2;go_ret;exact ⟨rfl,EE.out.trans (f14.trans f5)⟩
end Go.Proofs.YtlfhealneccdkaaGreatDoor
