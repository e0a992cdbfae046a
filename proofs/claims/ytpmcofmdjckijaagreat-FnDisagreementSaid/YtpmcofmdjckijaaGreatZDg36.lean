/- Texts, laid into one. -/
import Derived.Test.YtpmcofmdjckijaaGreatZDg35
import Derived.Test.YtpmcofmdjckijaaGreatZDg33
set_option linter.unusedVariables false
set_option linter.unusedSimpArgs false
set_option maxRecDepth 100000
set_option maxHeartbeats 16000000
namespace Go.Proofs.YtpmcofmdjckijaaGreat
open Go.RowKit Go.Sort
theorem lawDisagree_c (A:Option Addr) (l:List UInt8) (c:Nat) (w:World) (h:Rd0 vu8 w A l c) :
 Gives Tryz.prog 3 #[.slice A l.length c] w (.bool true):=by
 have hl:=h.len
 by_cases hL:(1048576:Int)<(l.length:Int)
 ·have HD:Hid (decide ((1048576:Int)<(l.length:Int))=true):=by show _=_;simpa using hL
  go_enter Tryz.func3,Tryz.ntmps3;go_wp2_with fail;refine (big_c _ _ _ _ h).mono ?_;rintro _ w1 ⟨rfl,he1⟩;rw [HD.out];go_wp2;go_ret;exact ⟨rfl,he1⟩
 have HD:Hid (decide ((1048576:Int)<(l.length:Int))=false):=by show _=_;simpa using hL
 have hA:Bs w A l c:=⟨h,by omega⟩
 obtain ⟨k,hk,hk2⟩:∃ k:Nat,atV l 0=(k:Int)∧k<256:=⟨(atV l 0).toNat,by have:=atV_nn l 0;omega,by have:=atV_lt l 0;have:=atV_nn l 0;omega⟩;have CA:=lhd (fun w' (e:Ext w w')=>at_c A l c 0 w' (hA.ext e) (by omega) (by omega));rw [hk] at CA;clear hL hk;have CD:=lhd (fun w' (e:Ext w w')=>drawJudgeFile_c A l c w' (hA.ext e));have CV:=lhd (fun (a b c:Int) (d e:Bool) w'=>iVerdictsAgree_c ⟨a,b,c,d,e⟩ w');unfold JF at CD;unfold VerdictD.val VerdictD.agree at CV;dsimp only at CV;go_enter Tryz.func3,Tryz.ntmps3;go_wp2_with fail;refine (big_c _ _ _ _ h).mono ?_;rintro _ w1 ⟨rfl,e1⟩;rw [HD.out];clear h hA;go_wp2_with fail;refine (CD.out _ e1).mono ?_;rintro _ w2 ⟨v,ps,vb,q,rfl,hO,hSM,hp6,hQ,hq,e2⟩;obtain ⟨A1,c1,hv1,r1⟩:=hO.out.rd (by omega) (fun r hr=>(hSM.2 _ (List.mem_map_of_mem hr)).short);obtain ⟨A2,c2,hv2,r2⟩:=OwnL.rd hQ.out (by omega);subst hv1;subst hv2;have CJ:=lhd (fun w' (e:Ext w2 w')=>sJudge_c A1 (rulesOf ps) c1 A2 q c2 w' (r1.ext e) hSM.short hSM.wf (r2.ext e) (by omega) (by simp [rulesOf];omega));have h8:=readFile_c8 (rulesOf ps) q;unfold jval vdesc at CJ;generalize (readFile (rulesOf ps) q).code=p at *;generalize (rulesOf ps).length=n1 at *;generalize q.length=n2 at *;generalize hi:decide (p=0)=i at *;clear hO hSM hp6 hQ hq r1 r2 CD;have E2:=e1.trans e2;obtain ⟨W3,hW3⟩:=nmw (w2.alloc (.cells #[.slice A1 n1 c1] 26));have x3:Ext w2 W3:=ka hW3
 clear e1 e2;go_wp2_with fail;rw [← hW3.out];refine (CJ.out _ x3).mono ?_;rintro _ w4 ⟨rfl,e4⟩;have E4:=(E2.trans x3).trans e4;clear E2 x3 e4 hW3 CJ;go_upto_region 12 with (fail);obtain ⟨W9,hW9⟩:=nmw (((((w4.alloc (.cells #[.int .i64 (p:Int),.int .i64 (p:Int),.int .i64 (p:Int),.bool (i),.bool (i)] 30)).alloc (.cells #[.int .i64 (p:Int),.int .i64 (p:Int),.int .i64 (((p:Int)+1)%9),.bool (i),.bool (i)] 30)).alloc (.cells #[.int .i64 (p:Int),.int .i64 (p:Int),.int .i64 (p:Int),.bool (!i),.bool (i)] 30)).alloc (.cells #[.int .i64 (p:Int),.int .i64 (p:Int),.int .i64 (p:Int),.bool (i),.bool (!i)] 30)).alloc (.cells #[.int .i64 (p:Int),.int .i64 (p:Int),.int .i64 (p:Int),.bool (i),.bool (i)] 30));have y5:=Box.new w4 #[.int .i64 (p:Int),.int .i64 (p:Int),.int .i64 (p:Int),.bool (i),.bool (i)] 30;have y6:=Box.new (w4.alloc (.cells #[.int .i64 (p:Int),.int .i64 (p:Int),.int .i64 (p:Int),.bool (i),.bool (i)] 30)) #[.int .i64 (p:Int),.int .i64 (p:Int),.int .i64 (((p:Int)+1)%9),.bool (i),.bool (i)] 30;have y7:=Box.new ((w4.alloc (.cells #[.int .i64 (p:Int),.int .i64 (p:Int),.int .i64 (p:Int),.bool (i),.bool (i)] 30)).alloc (.cells #[.int .i64 (p:Int),.int .i64 (p:Int),.int .i64 (((p:Int)+1)%9),.bool (i),.bool (i)] 30)) #[.int .i64 (p:Int),.int .i64 (p:Int),.int .i64 (p:Int),.bool (!i),.bool (i)] 30;have y8:=Box.new (((w4.alloc (.cells #[.int .i64 (p:Int),.int .i64 (p:Int),.int .i64 (p:Int),.bool (i),.bool (i)] 30)).alloc (.cells #[.int .i64 (p:Int),.int .i64 (p:Int),.int .i64 (((p:Int)+1)%9),.bool (i),.bool (i)] 30)).alloc (.cells #[.int .i64 (p:Int),.int .i64 (p:Int),.int .i64 (p:Int),.bool (!i),.bool (i)] 30)) #[.int .i64 (p:Int),.int .i64 (p:Int),.int .i64 (p:Int),.bool (i),.bool (!i)] 30;have y9:=Box.new ((((w4.alloc (.cells #[.int .i64 (p:Int),.int .i64 (p:Int),.int .i64 (p:Int),.bool (i),.bool (i)] 30)).alloc (.cells #[.int .i64 (p:Int),.int .i64 (p:Int),.int .i64 (((p:Int)+1)%9),.bool (i),.bool (i)] 30)).alloc (.cells #[.int .i64 (p:Int),.int .i64 (p:Int),.int .i64 (p:Int),.bool (!i),.bool (i)] 30)).alloc (.cells #[.int .i64 (p:Int),.int .i64 (p:Int),.int .i64 (p:Int),.bool (i),.bool (!i)] 30)) #[.int .i64 (p:Int),.int .i64 (p:Int),.int .i64 (p:Int),.bool (i),.bool (i)] 30;simp only [World.size_alloc] at y6 y7 y8 y9;have HB5:Hid (Box W9 (w4.heap.size) #[.int .i64 (p:Int),.int .i64 (p:Int),.int .i64 (p:Int),.bool (i),.bool (i)] 30):=by rw [hW9.out];exact y5.ext (Ext_alloc _ (Ext_alloc _ (Ext_alloc _ (Ext_alloc _ (Ext.refl _)))))
 have HB6:Hid (Box W9 (w4.heap.size+1) #[.int .i64 (p:Int),.int .i64 (p:Int),.int .i64 (((p:Int)+1)%9),.bool (i),.bool (i)] 30):=by rw [hW9.out];exact y6.ext (Ext_alloc _ (Ext_alloc _ (Ext_alloc _ (Ext.refl _))))
 have HB7:Hid (Box W9 (w4.heap.size+1+1) #[.int .i64 (p:Int),.int .i64 (p:Int),.int .i64 (p:Int),.bool (!i),.bool (i)] 30):=by rw [hW9.out];exact y7.ext (Ext_alloc _ (Ext_alloc _ (Ext.refl _)))
 have HB8:Hid (Box W9 (w4.heap.size+1+1+1) #[.int .i64 (p:Int),.int .i64 (p:Int),.int .i64 (p:Int),.bool (i),.bool (!i)] 30):=by rw [hW9.out];exact y8.ext (Ext_alloc _ (Ext.refl _))
 have HB9:Hid (Box W9 (w4.heap.size+1+1+1+1) #[.int .i64 (p:Int),.int .i64 (p:Int),.int .i64 (p:Int),.bool (i),.bool (i)] 30):=by rw [hW9.out];exact y9
 have E9:Ext w W9:=by rw [hW9.out];exact Ext_alloc _ (Ext_alloc _ (Ext_alloc _ (Ext_alloc _ (Ext_alloc _ E4))))
 rw [← hW9.out];clear hW9 y5 y6 y7 y8 y9;have hz4:w.heap.size≤w4.heap.size:=E4.size
 have eX:=lhd (Ext_drew (Ext.refl W9));have eS:=HB5.out.ext eX.out;refine wp_region_HD (S:=fun w'=>Box w' (w4.heap.size) #[.int .i64 (p:Int),.int .i64 (p:Int),.int .i64 (p:Int),.bool (i),.bool (i)] 30) (ofB 10 0) (by kernel_rfl) (by kernel_rfl) ?_;generalize W9.drew=wd at *;refine tkI (i:=0) (some 37) (v:=?_) (ofB 10 1) rfl rfl eS ?_ ?_;rotate_left
 ·(intro w' hSw;clear hSw;go_simp;try with_reducible rfl)
 try simp only [Act.put,lpa,lpz,lps]
 refine tkI (i:=1) (some 38) (v:=?_) (ofB 10 3) rfl rfl eS ?_ ?_;rotate_left
 ·(intro w' hSw;have hf0:=hSw.cell 1;clear hSw;go_simp;try with_reducible rfl)
 try simp only [Act.put,lpa,lpz,lps]
 refine tkI (i:=2) (some 39) (v:=?_) (ofB 10 7) rfl rfl eS ?_ ?_;rotate_left
 ·(intro w' hSw;clear hSw;go_simp;try with_reducible rfl)
 try simp only [Act.put,lpa,lpz,lps]
 refine tkI (i:=3) (some 40) (v:=?_) (ofB 10 15) rfl rfl eS ?_ ?_;rotate_left
 ·(intro w' hSw;clear hSw;go_simp;try with_reducible rfl)
 try simp only [Act.put,lpa,lpz,lps]
 refine oneH (i:=4) (some 41) (ofB 10 31) (by kernel_rfl) rfl rfl (by kernel_rfl) (fun K hK=>?_);go_simp;go_at_call 8;refine (CA.out _ (E9.trans eX.out)).mono ?_;rintro _ w10 ⟨rfl,e10⟩;replace eX:=lhd (eX.out.trans e10);replace eS:=eS.ext e10;refine Shut.out hK _ _ eS ?_;try simp only [Act.put,lpa,lpz,lps]
 refine tkI (i:=5) (some 42) (v:=?_) (ofB 10 63) rfl rfl eS ?_ ?_;rotate_left
 ·(intro w' hSw;clear hSw;go_simp;try with_reducible rfl)
 try simp only [Act.put,lpa,lpz,lps]
 refine tkI (i:=6) (some 43) (v:=?_) (ofB 10 127) rfl rfl eS ?_ ?_;rotate_left
 ·(intro w' hSw;clear hSw;go_simp;try with_reducible rfl)
 try simp only [Act.put,lpa,lpz,lps]
 refine tkI (i:=7) (some 44) (v:=?_) (ofB 10 255) rfl rfl eS ?_ ?_;rotate_left
 ·(intro w' hSw;clear hSw;go_simp;try with_reducible rfl)
 try simp only [Act.put,lpa,lpz,lps]
 refine tkI (i:=8) (some 45) (v:=?_) (ofB 10 511) rfl rfl eS ?_ ?_;rotate_left
 ·(intro w' hSw;clear hSw;go_simp;try with_reducible rfl)
 try simp only [Act.put,lpa,lpz,lps]
 refine oneH (i:=9) (none) (ofB 10 1023) (by kernel_rfl) rfl rfl (by kernel_rfl) (fun K hK=>?_);have b9:=(HB9.out.ext eX.out);have tt:=b9.cell;have tf:=b9.free;have qB:=lhd (eS.other (g':=w4.heap.size+1+1+1+1) (by omega) 1 (.int .i64 (Int.tmod (IntKind.i64.wrap (IntKind.i64.wrap ((p:Int)+1)+Int.tmod (k:Int) 8)) 9)));go_simp;replace eS:=qB.out;clear tt tf qB b9;refine Shut.out hK _ _ eS ?_;try simp only [Act.put,lpa,lpz,lps]
 refine wpAnyH_done (by kernel_rfl) ?_ _;have b5:=eS;have b6:=(HB6.out.ext eX.out).other (g':=w4.heap.size+1+1+1+1) (by omega) 1 (.int .i64 (Int.tmod (IntKind.i64.wrap (IntKind.i64.wrap ((p:Int)+1)+Int.tmod (k:Int) 8)) 9));have b7:=(HB7.out.ext eX.out).other (g':=w4.heap.size+1+1+1+1) (by omega) 1 (.int .i64 (Int.tmod (IntKind.i64.wrap (IntKind.i64.wrap ((p:Int)+1)+Int.tmod (k:Int) 8)) 9));have b8:=(HB8.out.ext eX.out).other (g':=w4.heap.size+1+1+1+1) (by omega) 1 (.int .i64 (Int.tmod (IntKind.i64.wrap (IntKind.i64.wrap ((p:Int)+1)+Int.tmod (k:Int) 8)) 9));have b9:Box _ (w4.heap.size+1+1+1+1) #[.int .i64 (p:Int),.int .i64 (Int.tmod (IntKind.i64.wrap (IntKind.i64.wrap ((p:Int)+1)+Int.tmod (k:Int) 8)) 9),.int .i64 (p:Int),.bool (i),.bool (i)] 30:=(HB9.out.ext eX.out).set 1 (.int .i64 (Int.tmod (IntKind.i64.wrap (IntKind.i64.wrap ((p:Int)+1)+Int.tmod (k:Int) 8)) 9))
 have eF:=(E9.trans eX.out).setCell (p:=⟨w4.heap.size+1+1+1+1,1,none⟩) (by show w.heap.size≤w4.heap.size+1+1+1+1;omega) (.int .i64 (Int.tmod (IntKind.i64.wrap (IntKind.i64.wrap ((p:Int)+1)+Int.tmod (k:Int) 8)) 9));obtain ⟨WX,hWX⟩:=nmw (w10.setCell ⟨w4.heap.size+1+1+1+1,1,none⟩ (.int .i64 (Int.tmod (IntKind.i64.wrap (IntKind.i64.wrap ((p:Int)+1)+Int.tmod (k:Int) 8)) 9)));rw [← hWX.out] at b5 b6 b7 b8 b9 eF;rw [← hWX.out];clear hWX HB5 HB6 HB7 HB8 HB9 E9 eX eS;have f50:∀ w',Ext WX w'→w'.cell? ⟨w4.heap.size,0,none⟩=some (.int .i64 (p:Int)):=fun w' e=>(b5.ext e).cell 0
 have f51:∀ w',Ext WX w'→w'.cell? ⟨w4.heap.size,1,none⟩=some (.int .i64 (p:Int)):=fun w' e=>(b5.ext e).cell 1
 have f52:∀ w',Ext WX w'→w'.cell? ⟨w4.heap.size,2,none⟩=some (.int .i64 (p:Int)):=fun w' e=>(b5.ext e).cell 2
 have f53:∀ w',Ext WX w'→w'.cell? ⟨w4.heap.size,3,none⟩=some (.bool (i)):=fun w' e=>(b5.ext e).cell 3
 have f54:∀ w',Ext WX w'→w'.cell? ⟨w4.heap.size,4,none⟩=some (.bool (i)):=fun w' e=>(b5.ext e).cell 4
 have f60:∀ w',Ext WX w'→w'.cell? ⟨w4.heap.size+1,0,none⟩=some (.int .i64 (p:Int)):=fun w' e=>(b6.ext e).cell 0
 have f61:∀ w',Ext WX w'→w'.cell? ⟨w4.heap.size+1,1,none⟩=some (.int .i64 (p:Int)):=fun w' e=>(b6.ext e).cell 1
 have f62:∀ w',Ext WX w'→w'.cell? ⟨w4.heap.size+1,2,none⟩=some (.int .i64 (((p:Int)+1)%9)):=fun w' e=>(b6.ext e).cell 2
 have f63:∀ w',Ext WX w'→w'.cell? ⟨w4.heap.size+1,3,none⟩=some (.bool (i)):=fun w' e=>(b6.ext e).cell 3
 have f64:∀ w',Ext WX w'→w'.cell? ⟨w4.heap.size+1,4,none⟩=some (.bool (i)):=fun w' e=>(b6.ext e).cell 4
 have f70:∀ w',Ext WX w'→w'.cell? ⟨w4.heap.size+1+1,0,none⟩=some (.int .i64 (p:Int)):=fun w' e=>(b7.ext e).cell 0
 have f71:∀ w',Ext WX w'→w'.cell? ⟨w4.heap.size+1+1,1,none⟩=some (.int .i64 (p:Int)):=fun w' e=>(b7.ext e).cell 1
 have f72:∀ w',Ext WX w'→w'.cell? ⟨w4.heap.size+1+1,2,none⟩=some (.int .i64 (p:Int)):=fun w' e=>(b7.ext e).cell 2
 have f73:∀ w',Ext WX w'→w'.cell? ⟨w4.heap.size+1+1,3,none⟩=some (.bool (!i)):=fun w' e=>(b7.ext e).cell 3
 have f74:∀ w',Ext WX w'→w'.cell? ⟨w4.heap.size+1+1,4,none⟩=some (.bool (i)):=fun w' e=>(b7.ext e).cell 4
 have f80:∀ w',Ext WX w'→w'.cell? ⟨w4.heap.size+1+1+1,0,none⟩=some (.int .i64 (p:Int)):=fun w' e=>(b8.ext e).cell 0
 have f81:∀ w',Ext WX w'→w'.cell? ⟨w4.heap.size+1+1+1,1,none⟩=some (.int .i64 (p:Int)):=fun w' e=>(b8.ext e).cell 1
 have f82:∀ w',Ext WX w'→w'.cell? ⟨w4.heap.size+1+1+1,2,none⟩=some (.int .i64 (p:Int)):=fun w' e=>(b8.ext e).cell 2
 have f83:∀ w',Ext WX w'→w'.cell? ⟨w4.heap.size+1+1+1,3,none⟩=some (.bool (i)):=fun w' e=>(b8.ext e).cell 3
 have f84:∀ w',Ext WX w'→w'.cell? ⟨w4.heap.size+1+1+1,4,none⟩=some (.bool (!i)):=fun w' e=>(b8.ext e).cell 4
 have f90:∀ w',Ext WX w'→w'.cell? ⟨w4.heap.size+1+1+1+1,0,none⟩=some (.int .i64 (p:Int)):=fun w' e=>(b9.ext e).cell 0
 have f91:∀ w',Ext WX w'→w'.cell? ⟨w4.heap.size+1+1+1+1,1,none⟩=some (.int .i64 (Int.tmod (IntKind.i64.wrap (IntKind.i64.wrap ((p:Int)+1)+Int.tmod (k:Int) 8)) 9)):=fun w' e=>(b9.ext e).cell 1
 have f92:∀ w',Ext WX w'→w'.cell? ⟨w4.heap.size+1+1+1+1,2,none⟩=some (.int .i64 (p:Int)):=fun w' e=>(b9.ext e).cell 2
 have f93:∀ w',Ext WX w'→w'.cell? ⟨w4.heap.size+1+1+1+1,3,none⟩=some (.bool (i)):=fun w' e=>(b9.ext e).cell 3
 have f94:∀ w',Ext WX w'→w'.cell? ⟨w4.heap.size+1+1+1+1,4,none⟩=some (.bool (i)):=fun w' e=>(b9.ext e).cell 4
 have hz6:((p:Int)+1)%9≠(p:Int):=by omega
 have hz9:(Int.tmod (IntKind.i64.wrap (IntKind.i64.wrap ((p:Int)+1)+Int.tmod (k:Int) 8)) 9)≠(p:Int):=by
  have t1:Int.tmod (k:Int) 8=((k%8:Nat):Int):=(Int.ofNat_tmod k 8).symm
  rw [t1,IntWalk.i64_in ((p:Int)+1) (by omega),IntWalk.i64_in _ (by omega)]
  have t2:Int.tmod ((p:Int)+1+((k%8:Nat):Int)) 9=(((p+1+k%8)%9:Nat):Int):=by
   rw [show (p:Int)+1+((k%8:Nat):Int)=((p+1+k%8:Nat):Int) by omega];exact (Int.ofNat_tmod _ 9).symm
  rw [t2];omega
 generalize ((p:Int)+1)%9=z6 at *;generalize (Int.tmod (IntKind.i64.wrap (IntKind.i64.wrap ((p:Int)+1)+Int.tmod (k:Int) 8)) 9)=z9 at *;have hpi:((p:Int)==0)=i:=by rw [← hi,Bool.eq_iff_iff];simp
 have C5:=lhd (fun w'=>CV.out p p p i i w');have C6:=lhd (fun w'=>CV.out p p z6 i i w');have C7:=lhd (fun w'=>CV.out p p p (!i) i w');have C8:=lhd (fun w'=>CV.out p p p i (!i) w');have C9:=lhd (fun w'=>CV.out p z9 p i i w');rw [hpi] at C5 C6 C7 C8 C9;rw [show ((p:Int)==(p:Int)&&(p:Int)==(p:Int)&&i==i&&i==i)=true by simp] at C5;rw [show ((p:Int)==(p:Int)&&(p:Int)==z6&&i==i&&i==i)=false by simp;omega] at C6;rw [show ((p:Int)==(p:Int)&&(p:Int)==(p:Int)&&(!i)==i&&i==(!i))=false by cases i<;>simp] at C7;rw [show ((p:Int)==(p:Int)&&(p:Int)==(p:Int)&&i==i&&(!i)==i)=false by cases i<;>simp] at C8;rw [show ((p:Int)==z9&&(p:Int)==(p:Int)&&i==i&&i==i)=false by simp;omega] at C9;clear hz6 hz9 hpi hi CV b5 b6 b7 b8 b9 h8 hk2;go_wp2_with fail;refine (C5.out _).mono ?_;rintro _ wa ⟨rfl,ea⟩;go_wp2_with fail;refine (C6.out _).mono ?_;rintro _ wb ⟨rfl,eb⟩;have eab:=ea.trans eb;go_wp2_with fail;refine (C7.out _).mono ?_;rintro _ wc ⟨rfl,ec⟩;have eac:=eab.trans ec;go_wp2_with fail;refine (C8.out _).mono ?_;rintro _ wd2 ⟨rfl,ed⟩;have ead:=eac.trans ed;go_wp2_with fail;refine (C9.out _).mono ?_;rintro _ we ⟨rfl,ee⟩;go_wp2;go_ret;exact ⟨rfl,eF.trans (ead.trans ee)⟩
end Go.Proofs.YtpmcofmdjckijaaGreat
