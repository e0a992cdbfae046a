/- Texts, laid into one. -/
import Derived.Test.YtlfhealneccdkaaGreatDoorZDf16
set_option linter.unusedVariables false
set_option linter.unusedSimpArgs false
set_option maxRecDepth 100000
set_option maxHeartbeats 16000000
namespace Go.Proofs.YtlfhealneccdkaaGreatDoor
open Go.RowKit Go.Sort
theorem l4Make1_c (Ad:Option Addr) (ds:List DRule) (cd:Nat) (kind:Int) (hkind:1≤kind∧kind≤10∧kind≠6∧kind≠7) (hDn:ds.length≤64) (hki:kind=1∨∃ i,∃ h:i<ds.length,ds[i].kind=1) (hMD:MadeD ds)
 (wb w:World) (p:Nat) (A:Option Addr) (l:List UInt8) (c:Nat) (hA:Bs wb A l c) (hC:Cur wb w p A l c) (hD:∀ w',w.grownBy w' (some p)→RdD w' Ad ds cd) :
 Calls Tryz.prog 56 #[.pointer (some ⟨p,0,none⟩),vdesc (.slice Ad ds.length cd),.int .i64 kind] w fun e w'=>∃ q:RV,e=.returned (vrule q.r q.vb q.vn q.vt q.vk)∧SmallR q.r∧q.r.kind=kind∧MadeR ds q.r∧RuleOwn wb w' q∧Far q.vals∧(∀ u∈q.vals,∀ b,u.ownBlock=some b→w.heap.size≤b)∧Cur wb w' p A l c∧w.grownBy w' (some p):=by
 have hplt:=hC.lt;have hbw:=hC.2.1.size;have CBe:=lhd (fun n w h hn=>l1Below_c n wb w p A l c hA h hn);have COn:=lhd (fun n w h hn=>l1Once_c n wb w p A l c hA h hn);have CS:=lhd (fun w h=>l1StrLit_c [⟨#[97]⟩,⟨#[105,116,101,109]⟩,⟨#[98]⟩,⟨#[104,101,97,100]⟩,⟨#[120]⟩] (by simp) (by simp) 5 rfl #[.string ⟨#[97]⟩,.string ⟨#[105,116,101,109]⟩,.string ⟨#[98]⟩,.string ⟨#[104,101,97,100]⟩,.string ⟨#[120]⟩] rfl wb w p A l c hA h);have CF:=lhd (fun w=>sFormatInt_c (ds.length:Int) w (by omega) (by omega));have hit:=itoa_size (ds.length:Int) (by omega) (by omega);obtain ⟨it,hit0⟩:∃ it,itoaB (ds.length:Int)=it:=⟨_,rfl⟩;rw [hit0] at hit CF;have HIT:=lhd hit0;clear hit0;have HD:=lhd hD;have hki:=lhd hki;have hMD:=lhd hMD;clear hD;obtain ⟨W0,hW0,HP,HR,e0,hsA⟩:=boxes2' w #[.slice Ad ds.length cd] #[.string ⟨#[]⟩,.int .i64 0,.int .i64 0,.bool false,.slice none 0 0,.slice none 0 0,.slice none 0 0,.slice none 0 0] 26 67;unfold vdesc;go_enter Tryz.func56,Tryz.ntmps56;go_wp2_with fail;rw [← hW0.out];have C1:=CS.out W0 (hC.ext e0);rw [hsA] at C1;have C1:=lhd C1;refine C1.out.mono ?_;rintro _ w1 ⟨nm0,hnm0,rfl,hC1,hg1⟩;have HNM:Hid (∃ s∈heads,nm0++it=s++itoaB (ds.length:Int)):=⟨nm0,hnm0,by rw [HIT.out]⟩
 have hnm:nm0.size≤4:=by simp at hnm0;rcases hnm0 with rfl | rfl | rfl | rfl | rfl<;>decide
 have G1:=(grown_ext e0 (some p)).trans hg1;have HP1:=lhd (HP.moved hg1 (some_ne (by omega)));have HR1:=lhd (HR.moved hg1 (some_ne (by omega)));clear hnm0 hg1 C1 CS HP HR e0;go_wp2_with fail;refine (CF.out _).mono ?_;rintro _ w2 ⟨rfl,s2⟩;have G2:=lhd (G1.trans (grown_ext s2 _));have HP2:=lhd (HP1.out.ext s2);have HR2:=lhd (HR1.out.ext s2);have hC2:=hC1.ext s2;clear G1 HP1 HR1 hC1 s2;have hnl:(nm0++it).size≤24:=by have:=ByteArray.size_append (a:=nm0) (b:=it);omega
 have x3:=Ext_alloc (.cells #[.string (nm0++it),.int .i64 kind,.int .i64 0,.bool false,.slice none 0 0,.slice none 0 0,.slice none 0 0,.slice none 0 0] 67) (Ext.refl w2);have hgs:=G2.out.size
 have M0:Hid (Mk wb w (w2.alloc (.cells #[.string (nm0++it),.int .i64 kind,.int .i64 0,.bool false,.slice none 0 0,.slice none 0 0,.slice none 0 0,.slice none 0 0] 67)) p A l c w2.heap.size ⟨⟨nm0++it,kind,0,false,[],[],[],[]⟩,.slice none 0 0,.slice none 0 0,.slice none 0 0,.slice none 0 0⟩) :=
  ⟨Box.new w2 _ _,⟨OwnL.nil _ _,OwnL.nil _ _,OwnL.nil _ _,OwnL.nil _ _⟩,by simp [Far,RV.vals,Value.ownBlock],by simp [RV.vals,Value.ownBlock],hC2.ext x3,G2.out.trans (grown_ext x3 _),hgs,by omega,by omega⟩
 have HP3:=lhd (HP2.out.ext x3);have HR3:=lhd (HR2.out.ext x3);have hlt2:w.heap.size+1<w2.heap.size:=HR2.out.lt
 clear HP2 HR2 hC2 G2 x3 CF;obtain ⟨W3,hW3⟩:∃ W3,W3=w2.alloc (.cells #[.string (nm0++it),.int .i64 kind,.int .i64 0,.bool false,.slice none 0 0,.slice none 0 0,.slice none 0 0,.slice none 0 0] 67):=⟨_,rfl⟩;rw [← hW3] at M0 HP3 HR3;have HW3:=lhd hW3;clear hW3;have HCB:=lhd CBe.out;rcases (by omega:kind=8∨kind=9∨kind=3∨kind=1∨kind=10∨kind=2∨kind=4∨kind=5) with rfl | rfl | rfl | rfl | rfl | rfl | rfl | rfl
 ·have hds0:0<ds.length:=by obtain ⟨i,hi,_⟩:=hki.out.resolve_left (by omega);omega
  go_wp2_with fail;rw [← HW3.out];refine (CBe.out ds.length _ M0.out.cur (by omega)).mono ?_;rintro _ w4 ⟨y,hy,rfl,hC4,hg4⟩;have HYL:Hid (y<ds.length):=by show _<_;unfold below at hy;rw [if_neg (by omega)] at hy;omega
  have hyn:y≤64:=by have:=HYL.out;omega
  have M4:=M0.out.moved hC4 hg4;have HR4:=lhd (HR3.out.moved hg4 (some_ne (by omega)));have x5:=Ext_alloc (.cells #[.int .i64 y] 3) (Ext.refl w4);have ho5:=OwnL.lit (f:=vint) (e:=3) hC4.2.1 [(y:Int)] #[.int .i64 y] rfl 1 rfl (by omega);have M5:=M4.ext x5;have z7:_=some (Value.slice none 0 0):=M5.box.cell 7
  have y7:=M5.box.free 7;have hgl4:=M4.box.lt;have hpl4:=hC4.lt;have M6:=lhd (M5.fresh_k ho5 (n0:=w4.heap.size) (fun b hb=>by injection hb with hb;simp at hb;omega) (by simp [RV.vals,Value.ownBlock]) (by omega) (by omega) (by have:=M4.grow.size;omega));have HR6:=lhd ((HR4.out.ext x5).other (g':=w2.heap.size) (by omega) 7 (.slice (some ⟨w4.heap.size,0,none⟩) 1 1));have hcm:=World.setCell_alloc_past (w:=w4) (.cells #[.int .i64 y] 3) w2.heap.size 7 (.slice (some ⟨w4.heap.size,0,none⟩) 1 1) (by omega);rw [hcm] at M6 HR6;clear M4 M5 ho5 x5 hC4 hg4 HR4 hcm;obtain ⟨⟨a0,a1,a2,a3⟩,a4,a5,a6,a7⟩:=cells8 M6.out.box;obtain ⟨⟨b0,b1,b2,b3⟩,b4,b5,b6,b7⟩:=cells8 (q:=⟨⟨⟨#[]⟩,0,0,false,[],[],[],[]⟩,.slice none 0 0,.slice none 0 0,.slice none 0 0,.slice none 0 0⟩) HR6.out;obtain ⟨⟨d0,d1,d2,d3⟩,d4,d5,d6,d7⟩:=frees8 HR6.out;dsimp only at a0 a1 a2 a3 a4 a5 a6 a7 b0 b1 b2 b3 b4 b5 b6 b7
  have hR2:∀ u∈RV.vals ⟨⟨nm0++it,8,0,false,[],[],[],[(y:Int)]⟩,.slice none 0 0,.slice none 0 0,.slice none 0 0,.slice (some ⟨w4.heap.size,0,none⟩) 1 1⟩,∀ b,u.ownBlock=some b→b≠w.heap.size+1:=by
   intro u hu b hb;simp only [RV.vals,List.mem_cons,List.not_mem_nil,or_false] at hu;rcases hu with rfl | rfl | rfl | rfl
   ·cases hb
   ·cases hb
   ·cases hb
   ·(have:some w4.heap.size=some b:=hb);injection this;omega
  have HOUT:=lhd (M6.out.out HR6.out (by omega) (by omega) (by omega) hR2);dsimp only at HOUT;have hnew:=fun u hu b hb=>(M6.out.new u hu b hb).1
  have hfar:=M6.out.far;go_wp2_with fail;obtain ⟨hB,hO,hCc,hG⟩:=HOUT.out;obtain ⟨⟨e0,e1,e2,e3⟩,e4,e5,e6,e7⟩:=cells8 (q:=⟨⟨nm0++it,8,0,false,[],[],[],[(y:Int)]⟩,.slice none 0 0,.slice none 0 0,.slice none 0 0,.slice (some ⟨w4.heap.size,0,none⟩) 1 1⟩) hB;dsimp only at e0 e1 e2 e3 e4 e5 e6 e7;refine bodyPost_ret (v:=vrule ⟨nm0++it,8,0,false,[],[],[],[(y:Int)]⟩ (.slice none 0 0) (.slice none 0 0) (.slice none 0 0) (.slice (some ⟨w4.heap.size,0,none⟩) 1 1)) (by simp [results,Tryz.results56,go_sem,e0,e1,e2,e3,e4,e5,e6,e7,vrule]) rfl ?_;exact ⟨_,rfl,⟨by show (nm0++it).size≤40;omega,by simp,by simp,by simp;omega⟩,rfl,made_opt HNM.out HYL.out,hO,hfar,hnew,hCc,hG⟩
 ·have hds0:0<ds.length:=by obtain ⟨i,hi,_⟩:=hki.out.resolve_left (by omega);omega
  go_wp2_with fail;rw [← HW3.out];refine (CBe.out ds.length _ M0.out.cur (by omega)).mono ?_;rintro _ w4 ⟨y,hy,rfl,hC4,hg4⟩;have HYL:Hid (y<ds.length):=by show _<_;unfold below at hy;rw [if_neg (by omega)] at hy;omega
  have hyn:y≤64:=by have:=HYL.out;omega
  have M4:=M0.out.moved hC4 hg4;have HR4:=lhd (HR3.out.moved hg4 (some_ne (by omega)));have x5:=Ext_alloc (.cells #[.int .i64 y] 3) (Ext.refl w4);have ho5:=OwnL.lit (f:=vint) (e:=3) hC4.2.1 [(y:Int)] #[.int .i64 y] rfl 1 rfl (by omega);have M5:=M4.ext x5;have z7:_=some (Value.slice none 0 0):=M5.box.cell 7
  have y7:=M5.box.free 7;have hgl4:=M4.box.lt;have hpl4:=hC4.lt;have M6:=lhd (M5.fresh_k ho5 (n0:=w4.heap.size) (fun b hb=>by injection hb with hb;simp at hb;omega) (by simp [RV.vals,Value.ownBlock]) (by omega) (by omega) (by have:=M4.grow.size;omega));have HR6:=lhd ((HR4.out.ext x5).other (g':=w2.heap.size) (by omega) 7 (.slice (some ⟨w4.heap.size,0,none⟩) 1 1));have hcm:=World.setCell_alloc_past (w:=w4) (.cells #[.int .i64 y] 3) w2.heap.size 7 (.slice (some ⟨w4.heap.size,0,none⟩) 1 1) (by omega);rw [hcm] at M6 HR6;clear M4 M5 ho5 x5 hC4 hg4 HR4 hcm;obtain ⟨⟨a0,a1,a2,a3⟩,a4,a5,a6,a7⟩:=cells8 M6.out.box;obtain ⟨⟨b0,b1,b2,b3⟩,b4,b5,b6,b7⟩:=cells8 (q:=⟨⟨⟨#[]⟩,0,0,false,[],[],[],[]⟩,.slice none 0 0,.slice none 0 0,.slice none 0 0,.slice none 0 0⟩) HR6.out;obtain ⟨⟨d0,d1,d2,d3⟩,d4,d5,d6,d7⟩:=frees8 HR6.out;dsimp only at a0 a1 a2 a3 a4 a5 a6 a7 b0 b1 b2 b3 b4 b5 b6 b7
  have hR2:∀ u∈RV.vals ⟨⟨nm0++it,9,0,false,[],[],[],[(y:Int)]⟩,.slice none 0 0,.slice none 0 0,.slice none 0 0,.slice (some ⟨w4.heap.size,0,none⟩) 1 1⟩,∀ b,u.ownBlock=some b→b≠w.heap.size+1:=by
   intro u hu b hb;simp only [RV.vals,List.mem_cons,List.not_mem_nil,or_false] at hu;rcases hu with rfl | rfl | rfl | rfl
   ·cases hb
   ·cases hb
   ·cases hb
   ·(have:some w4.heap.size=some b:=hb);injection this;omega
  have HOUT:=lhd (M6.out.out HR6.out (by omega) (by omega) (by omega) hR2);dsimp only at HOUT;have hnew:=fun u hu b hb=>(M6.out.new u hu b hb).1
  have hfar:=M6.out.far;go_wp2_with fail;obtain ⟨hB,hO,hCc,hG⟩:=HOUT.out;obtain ⟨⟨e0,e1,e2,e3⟩,e4,e5,e6,e7⟩:=cells8 (q:=⟨⟨nm0++it,9,0,false,[],[],[],[(y:Int)]⟩,.slice none 0 0,.slice none 0 0,.slice none 0 0,.slice (some ⟨w4.heap.size,0,none⟩) 1 1⟩) hB;dsimp only at e0 e1 e2 e3 e4 e5 e6 e7;refine bodyPost_ret (v:=vrule ⟨nm0++it,9,0,false,[],[],[],[(y:Int)]⟩ (.slice none 0 0) (.slice none 0 0) (.slice none 0 0) (.slice (some ⟨w4.heap.size,0,none⟩) 1 1)) (by simp [results,Tryz.results56,go_sem,e0,e1,e2,e3,e4,e5,e6,e7,vrule]) rfl ?_;exact ⟨_,rfl,⟨by show (nm0++it).size≤40;omega,by simp,by simp,by simp;omega⟩,rfl,made_checked HNM.out HYL.out,hO,hfar,hnew,hCc,hG⟩
 ·go_wp2_with fail
  rw [← HW3.out];refine (CBe.out 4 _ M0.out.cur (by omega)).mono ?_;rintro _ w4 ⟨y,hy,rfl,hC4,hg4⟩;have hyn:y<4:=by unfold below at hy;rw [if_neg (by omega)] at hy;omega
  have M4:=M0.out.moved hC4 hg4;have HR4:=lhd (HR3.out.moved hg4 (some_ne (by omega)));have z2:_=some (Value.int .i64 0):=M4.box.cell 2
  have y2:=M4.box.free 2;have M6:=lhd (M4.put (q':=⟨⟨nm0++it,3,1+(y:Int),false,[],[],[],[]⟩,.slice none 0 0,.slice none 0 0,.slice none 0 0,.slice none 0 0⟩) 2 (.int .i64 (1+(y:Int))) (by simp [RV.cells]) rfl ⟨rfl,rfl,rfl,rfl⟩);have HR6:=lhd (HR4.out.other (g':=w2.heap.size) (by omega) 2 (.int .i64 (1+(y:Int))));clear M4 hC4 hg4 HR4;obtain ⟨⟨a0,a1,a2,a3⟩,a4,a5,a6,a7⟩:=cells8 M6.out.box;obtain ⟨⟨b0,b1,b2,b3⟩,b4,b5,b6,b7⟩:=cells8 (q:=⟨⟨⟨#[]⟩,0,0,false,[],[],[],[]⟩,.slice none 0 0,.slice none 0 0,.slice none 0 0,.slice none 0 0⟩) HR6.out;obtain ⟨⟨d0,d1,d2,d3⟩,d4,d5,d6,d7⟩:=frees8 HR6.out;dsimp only at a0 a1 a2 a3 a4 a5 a6 a7 b0 b1 b2 b3 b4 b5 b6 b7
  have hR2:∀ u∈RV.vals ⟨⟨nm0++it,3,1+(y:Int),false,[],[],[],[]⟩,.slice none 0 0,.slice none 0 0,.slice none 0 0,.slice none 0 0⟩,∀ b,u.ownBlock=some b→b≠w.heap.size+1:=by
   intro u hu b hb;simp only [RV.vals,List.mem_cons,List.not_mem_nil,or_false] at hu;rcases hu with rfl | rfl | rfl | rfl
   ·cases hb
   ·cases hb
   ·cases hb
   ·cases hb
  have HOUT:=lhd (M6.out.out HR6.out (by omega) (by omega) (by omega) hR2);dsimp only at HOUT;have hnew:=fun u hu b hb=>(M6.out.new u hu b hb).1
  have hfar:=M6.out.far;go_wp2_with fail;obtain ⟨hB,hO,hCc,hG⟩:=HOUT.out;obtain ⟨⟨e0,e1,e2,e3⟩,e4,e5,e6,e7⟩:=cells8 (q:=⟨⟨nm0++it,3,1+(y:Int),false,[],[],[],[]⟩,.slice none 0 0,.slice none 0 0,.slice none 0 0,.slice none 0 0⟩) hB;dsimp only at e0 e1 e2 e3 e4 e5 e6 e7;refine bodyPost_ret (v:=vrule ⟨nm0++it,3,1+(y:Int),false,[],[],[],[]⟩ (.slice none 0 0) (.slice none 0 0) (.slice none 0 0) (.slice none 0 0)) (by simp [results,Tryz.results56,go_sem,e0,e1,e2,e3,e4,e5,e6,e7,vrule]) rfl ?_;exact ⟨_,rfl,⟨by show (nm0++it).size≤40;omega,by simp,by simp,by simp;omega⟩,rfl,made_fixed HNM.out (by omega),hO,hfar,hnew,hCc,hG⟩
 ·go_wp2_with fail
  rw [← HW3.out];refine (CBe.out 3 _ M0.out.cur (by omega)).mono ?_;rintro _ w4 ⟨y,hy,rfl,hC4,hg4⟩;have hyn:y<3:=by unfold below at hy;rw [if_neg (by omega)] at hy;omega
  have M4:=M0.out.moved hC4 hg4;have HR4:=lhd (HR3.out.moved hg4 (some_ne (by omega)));have z2:_=some (Value.int .i64 0):=M4.box.cell 2
  have y2:=M4.box.free 2;have M5:=lhd (M4.put (q':=⟨⟨nm0++it,1,1+(y:Int),false,[],[],[],[]⟩,.slice none 0 0,.slice none 0 0,.slice none 0 0,.slice none 0 0⟩) 2 (.int .i64 (1+(y:Int))) (by simp [RV.cells]) rfl ⟨rfl,rfl,rfl,rfl⟩);have HR5:=lhd (HR4.out.other (g':=w2.heap.size) (by omega) 2 (.int .i64 (1+(y:Int))));clear M4 hC4 hg4 HR4;have z5:_=some (Value.int .i64 (1+(y:Int))):=M5.out.box.cell 2
  by_cases hy0:y=0
  ·have hd:decide ((1:Int)<1+(y:Int))=false:=by rw [decide_eq_false_iff_not];omega
   have hd1:decide ((0:Int)<(y:Int))=false:=by rw [decide_eq_false_iff_not];omega
   have hd2:decide (0<y)=false:=by rw [decide_eq_false_iff_not];omega
   have hd3:¬ (1:Int)<1+(y:Int):=by omega
   clear hy0;have z3:_=some (Value.bool false):=M5.out.box.cell 3
   have y3:=M5.out.box.free 3;have M6:=lhd (M5.out.put (q':=⟨⟨nm0++it,1,1+(y:Int),false,[],[],[],[]⟩,.slice none 0 0,.slice none 0 0,.slice none 0 0,.slice none 0 0⟩) 3 (.bool false) (by simp [RV.cells]) rfl ⟨rfl,rfl,rfl,rfl⟩);have HR6:=lhd (HR5.out.other (g':=w2.heap.size) (by omega) 3 (.bool false));clear M5 HR5;obtain ⟨⟨a0,a1,a2,a3⟩,a4,a5,a6,a7⟩:=cells8 M6.out.box;obtain ⟨⟨b0,b1,b2,b3⟩,b4,b5,b6,b7⟩:=cells8 (q:=⟨⟨⟨#[]⟩,0,0,false,[],[],[],[]⟩,.slice none 0 0,.slice none 0 0,.slice none 0 0,.slice none 0 0⟩) HR6.out;obtain ⟨⟨d0,d1,d2,d3⟩,d4,d5,d6,d7⟩:=frees8 HR6.out;dsimp only at a0 a1 a2 a3 a4 a5 a6 a7 b0 b1 b2 b3 b4 b5 b6 b7
   have hR2:∀ u∈RV.vals ⟨⟨nm0++it,1,1+(y:Int),false,[],[],[],[]⟩,.slice none 0 0,.slice none 0 0,.slice none 0 0,.slice none 0 0⟩,∀ b,u.ownBlock=some b→b≠w.heap.size+1:=by
    intro u hu b hb;simp only [RV.vals,List.mem_cons,List.not_mem_nil,or_false] at hu;rcases hu with rfl | rfl | rfl | rfl
    ·cases hb
    ·cases hb
    ·cases hb
    ·cases hb
   have HOUT:=lhd (M6.out.out HR6.out (by omega) (by omega) (by omega) hR2);dsimp only at HOUT;have hnew:=fun u hu b hb=>(M6.out.new u hu b hb).1
   have hfar:=M6.out.far;go_wp2_with fail;obtain ⟨hB,hO,hCc,hG⟩:=HOUT.out;obtain ⟨⟨e0,e1,e2,e3⟩,e4,e5,e6,e7⟩:=cells8 (q:=⟨⟨nm0++it,1,1+(y:Int),false,[],[],[],[]⟩,.slice none 0 0,.slice none 0 0,.slice none 0 0,.slice none 0 0⟩) hB;dsimp only at e0 e1 e2 e3 e4 e5 e6 e7;refine bodyPost_ret (v:=vrule ⟨nm0++it,1,1+(y:Int),false,[],[],[],[]⟩ (.slice none 0 0) (.slice none 0 0) (.slice none 0 0) (.slice none 0 0)) (by simp [results,Tryz.results56,go_sem,e0,e1,e2,e3,e4,e5,e6,e7,vrule]) rfl ?_;exact ⟨_,rfl,⟨by show (nm0++it).size≤40;omega,by simp,by simp,by simp;omega⟩,rfl,made_int HNM.out (by omega) (fun h=>by first | omega | cases h),hO,hfar,hnew,hCc,hG⟩
  ·have hd:decide ((1:Int)<1+(y:Int))=true:=by rw [decide_eq_true_eq];omega
   go_wp2_with fail;refine (COn.out 2 _ M5.out.cur (by omega)).mono ?_;rintro _ w6 ⟨bb,rfl,hC6,hg6⟩;have M7:=M5.out.moved hC6 hg6;have HR7:=lhd (HR5.out.moved hg6 (some_ne (by omega)));have z3:_=some (Value.bool false):=M7.box.cell 3
   have y3:=M7.box.free 3;have M6:=lhd (M7.put (q':=⟨⟨nm0++it,1,1+(y:Int),bb,[],[],[],[]⟩,.slice none 0 0,.slice none 0 0,.slice none 0 0,.slice none 0 0⟩) 3 (.bool bb) (by simp [RV.cells]) rfl ⟨rfl,rfl,rfl,rfl⟩);have HR6:=lhd (HR7.out.other (g':=w2.heap.size) (by omega) 3 (.bool bb));clear M5 HR5 M7 HR7 hC6 hg6;obtain ⟨⟨a0,a1,a2,a3⟩,a4,a5,a6,a7⟩:=cells8 M6.out.box;obtain ⟨⟨b0,b1,b2,b3⟩,b4,b5,b6,b7⟩:=cells8 (q:=⟨⟨⟨#[]⟩,0,0,false,[],[],[],[]⟩,.slice none 0 0,.slice none 0 0,.slice none 0 0,.slice none 0 0⟩) HR6.out;obtain ⟨⟨d0,d1,d2,d3⟩,d4,d5,d6,d7⟩:=frees8 HR6.out;dsimp only at a0 a1 a2 a3 a4 a5 a6 a7 b0 b1 b2 b3 b4 b5 b6 b7
   have hR2:∀ u∈RV.vals ⟨⟨nm0++it,1,1+(y:Int),bb,[],[],[],[]⟩,.slice none 0 0,.slice none 0 0,.slice none 0 0,.slice none 0 0⟩,∀ b,u.ownBlock=some b→b≠w.heap.size+1:=by
    intro u hu b hb;simp only [RV.vals,List.mem_cons,List.not_mem_nil,or_false] at hu;rcases hu with rfl | rfl | rfl | rfl
    ·cases hb
    ·cases hb
    ·cases hb
    ·cases hb
   have HOUT:=lhd (M6.out.out HR6.out (by omega) (by omega) (by omega) hR2);dsimp only at HOUT;have hnew:=fun u hu b hb=>(M6.out.new u hu b hb).1
   have hfar:=M6.out.far;go_wp2_with fail;obtain ⟨hB,hO,hCc,hG⟩:=HOUT.out;obtain ⟨⟨e0,e1,e2,e3⟩,e4,e5,e6,e7⟩:=cells8 (q:=⟨⟨nm0++it,1,1+(y:Int),bb,[],[],[],[]⟩,.slice none 0 0,.slice none 0 0,.slice none 0 0,.slice none 0 0⟩) hB;dsimp only at e0 e1 e2 e3 e4 e5 e6 e7;refine bodyPost_ret (v:=vrule ⟨nm0++it,1,1+(y:Int),bb,[],[],[],[]⟩ (.slice none 0 0) (.slice none 0 0) (.slice none 0 0) (.slice none 0 0)) (by simp [results,Tryz.results56,go_sem,e0,e1,e2,e3,e4,e5,e6,e7,vrule]) rfl ?_;exact ⟨_,rfl,⟨by show (nm0++it).size≤40;omega,by simp,by simp,by simp;omega⟩,rfl,made_int HNM.out (by omega) (fun h=>by first | omega | cases h),hO,hfar,hnew,hCc,hG⟩
 ·have hsz3:W3.heap.size=w2.heap.size+1:=by rw [HW3.out];simp
  have CI:=l1IntLit_c [0,10,59,255] (by simp) (by simp) 4 rfl #[.int .i64 0,.int .i64 10,.int .i64 59,.int .i64 255] rfl wb W3 p A l c hA M0.out.cur;rw [hsz3] at CI;have CI:=lhd CI;go_wp2_with fail;rw [← HW3.out];refine CI.out.mono ?_;rintro _ w4 ⟨x,hx,rfl,hC4,hg4⟩
  obtain ⟨y,hy,hy92,rfl⟩:∃ y:Nat,y<256∧UInt8.ofNat y≠92∧x=(y:Int):=by
   simp only [List.mem_cons,List.not_mem_nil,or_false] at hx;rcases hx with rfl | rfl | rfl | rfl
   ·exact ⟨0,by omega,by decide,rfl⟩
   ·exact ⟨10,by omega,by decide,rfl⟩
   ·exact ⟨59,by omega,by decide,rfl⟩
   ·exact ⟨255,by omega,by decide,rfl⟩
  have HY92:=lhd hy92;clear hx hy92;have hyb:(UInt8.ofNat y).toNat=y:=by rw [UInt8.toNat_ofNat'];omega
  have M4:=M0.out.moved hC4 hg4;have HR4:=lhd (HR3.out.moved hg4 (some_ne (by omega)));have x5:=Ext_alloc (.cells #[.int .u8 y] 5) (Ext.refl w4);have ho5:=OwnL.lit (f:=vu8) (e:=5) hC4.2.1 [UInt8.ofNat y] #[.int .u8 y] (by simp [vu8,hyb]) 1 rfl (by omega);have M5:=M4.ext x5;have z7:_=some (Value.slice none 0 0):=M5.box.cell 4
  have y7:=M5.box.free 4;have hgl4:=M4.box.lt;have hpl4:=hC4.lt;have M6:=lhd (M5.fresh_b ho5 (n0:=w4.heap.size) (fun b hb=>by injection hb with hb;simp at hb;omega) (by simp [RV.vals,Value.ownBlock]) (by omega) (by omega) (by have:=M4.grow.size;omega));have HR6:=lhd ((HR4.out.ext x5).other (g':=w2.heap.size) (by omega) 4 (.slice (some ⟨w4.heap.size,0,none⟩) 1 1));have hcm:=World.setCell_alloc_past (w:=w4) (.cells #[.int .u8 y] 5) w2.heap.size 4 (.slice (some ⟨w4.heap.size,0,none⟩) 1 1) (by omega);rw [hcm] at M6 HR6;clear M4 M5 ho5 x5 hC4 hg4 HR4 hcm hyb;obtain ⟨⟨a0,a1,a2,a3⟩,a4,a5,a6,a7⟩:=cells8 M6.out.box;obtain ⟨⟨b0,b1,b2,b3⟩,b4,b5,b6,b7⟩:=cells8 (q:=⟨⟨⟨#[]⟩,0,0,false,[],[],[],[]⟩,.slice none 0 0,.slice none 0 0,.slice none 0 0,.slice none 0 0⟩) HR6.out;obtain ⟨⟨d0,d1,d2,d3⟩,d4,d5,d6,d7⟩:=frees8 HR6.out;dsimp only at a0 a1 a2 a3 a4 a5 a6 a7 b0 b1 b2 b3 b4 b5 b6 b7
  have hR2:∀ u∈RV.vals ⟨⟨nm0++it,10,0,false,[UInt8.ofNat y],[],[],[]⟩,.slice (some ⟨w4.heap.size,0,none⟩) 1 1,.slice none 0 0,.slice none 0 0,.slice none 0 0⟩,∀ b,u.ownBlock=some b→b≠w.heap.size+1:=by
   intro u hu b hb;simp only [RV.vals,List.mem_cons,List.not_mem_nil,or_false] at hu;rcases hu with rfl | rfl | rfl | rfl
   ·(have:some w4.heap.size=some b:=hb);injection this;omega
   ·cases hb
   ·cases hb
   ·cases hb
  have HOUT:=lhd (M6.out.out HR6.out (by omega) (by omega) (by omega) hR2);dsimp only at HOUT;have hnew:=fun u hu b hb=>(M6.out.new u hu b hb).1
  have hfar:=M6.out.far;go_wp2_with fail;obtain ⟨hB,hO,hCc,hG⟩:=HOUT.out;obtain ⟨⟨e0,e1,e2,e3⟩,e4,e5,e6,e7⟩:=cells8 (q:=⟨⟨nm0++it,10,0,false,[UInt8.ofNat y],[],[],[]⟩,.slice (some ⟨w4.heap.size,0,none⟩) 1 1,.slice none 0 0,.slice none 0 0,.slice none 0 0⟩) hB;dsimp only at e0 e1 e2 e3 e4 e5 e6 e7;refine bodyPost_ret (v:=vrule ⟨nm0++it,10,0,false,[UInt8.ofNat y],[],[],[]⟩ (.slice (some ⟨w4.heap.size,0,none⟩) 1 1) (.slice none 0 0) (.slice none 0 0) (.slice none 0 0)) (by simp [results,Tryz.results56,go_sem,e0,e1,e2,e3,e4,e5,e6,e7,vrule]) rfl ?_;exact ⟨_,rfl,⟨by show (nm0++it).size≤40;omega,by simp,by simp,by simp;try omega⟩,rfl,made_term HNM.out HY92.out,hO,hfar,hnew,hCc,hG⟩
 ·go_wp2_with fail
  rw [← HW3.out];refine (CBe.out 3 _ M0.out.cur (by omega)).mono ?_;rintro _ w4 ⟨y,hy,rfl,hC4,hg4⟩;have hyn:y<3:=by unfold below at hy;rw [if_neg (by omega)] at hy;omega
  have M4:=M0.out.moved hC4 hg4;have HR4:=lhd (HR3.out.moved hg4 (some_ne (by omega)));have CB:=l1Bytes_c (1+y) (by omega) wb w4 p A l c hA hC4;rw [show ((1+y:Nat):Int)=1+(y:Int) by omega] at CB;have CB:=lhd CB;have hgl4:=M4.box.lt;have hpl4:=hC4.lt;go_wp2_with fail;refine CB.out.mono ?_;rintro _ w5 ⟨vb,qb,hqb,rfl,ho5,hn5,hC5,hg5⟩;obtain ⟨A5,c5,rfl,_⟩:=OwnL.rd ho5 (by omega);replace hqb:=lhd hqb;have M5:=M4.moved hC5 hg5;have HR5:=lhd (HR4.out.moved hg5 (some_ne (by omega)));have z7:_=some (Value.slice none 0 0):=M5.box.cell 4
  have y7:=M5.box.free 4;have M6:=lhd (M5.fresh_b ho5 (n0:=w4.heap.size) hn5 (by simp [RV.vals,Value.ownBlock]) (by omega) (by omega) (by have:=M4.grow.size;omega));have HR6:=lhd (HR5.out.other (g':=w2.heap.size) (by omega) 4 (.slice A5 qb.length c5));have hn5':Hid (∀ g,(Value.slice A5 qb.length c5).ownBlock=some g→w.heap.size+1<g):=fun g hg=>by have:=hn5 g hg;omega
  clear M4 M5 ho5 hn5 hC4 hg4 HR4 HR5 hC5 hg5 CB;obtain ⟨⟨a0,a1,a2,a3⟩,a4,a5,a6,a7⟩:=cells8 M6.out.box;obtain ⟨⟨b0,b1,b2,b3⟩,b4,b5,b6,b7⟩:=cells8 (q:=⟨⟨⟨#[]⟩,0,0,false,[],[],[],[]⟩,.slice none 0 0,.slice none 0 0,.slice none 0 0,.slice none 0 0⟩) HR6.out;obtain ⟨⟨d0,d1,d2,d3⟩,d4,d5,d6,d7⟩:=frees8 HR6.out;dsimp only at a0 a1 a2 a3 a4 a5 a6 a7 b0 b1 b2 b3 b4 b5 b6 b7
  have hR2:∀ u∈RV.vals ⟨⟨nm0++it,2,0,false,qb,[],[],[]⟩,.slice A5 qb.length c5,.slice none 0 0,.slice none 0 0,.slice none 0 0⟩,∀ b,u.ownBlock=some b→b≠w.heap.size+1:=by
   intro u hu b hb;simp only [RV.vals,List.mem_cons,List.not_mem_nil,or_false] at hu;rcases hu with rfl | rfl | rfl | rfl
   ·have:=hn5'.out b hb;omega
   ·cases hb
   ·cases hb
   ·cases hb
  have HOUT:=lhd (M6.out.out HR6.out (by omega) (by omega) (by omega) hR2);dsimp only at HOUT;have hnew:=fun u hu b hb=>(M6.out.new u hu b hb).1
  have hfar:=M6.out.far;go_wp2_with fail;obtain ⟨hB,hO,hCc,hG⟩:=HOUT.out;obtain ⟨⟨e0,e1,e2,e3⟩,e4,e5,e6,e7⟩:=cells8 (q:=⟨⟨nm0++it,2,0,false,qb,[],[],[]⟩,.slice A5 qb.length c5,.slice none 0 0,.slice none 0 0,.slice none 0 0⟩) hB;dsimp only at e0 e1 e2 e3 e4 e5 e6 e7;refine bodyPost_ret (v:=vrule ⟨nm0++it,2,0,false,qb,[],[],[]⟩ (.slice A5 qb.length c5) (.slice none 0 0) (.slice none 0 0) (.slice none 0 0)) (by simp [results,Tryz.results56,go_sem,e0,e1,e2,e3,e4,e5,e6,e7,vrule]) rfl ?_;exact ⟨_,rfl,⟨by show (nm0++it).size≤40;omega,by have:=hqb.out;simp;omega,by simp,by simp;try omega⟩,rfl,made_const HNM.out (by rw [hqb.out];omega) (by rw [hqb.out];omega),hO,hfar,hnew,hCc,hG⟩
 ·have zp:_=some (Value.slice Ad ds.length cd):=HP3.out.cell 0
  rw [HW3.out] at zp;have hki':=hki.out.resolve_left (by omega);have hds0:0<ds.length:=by obtain ⟨i,hi,_⟩:=hki';omega
  have CI:=lhd (l4Integer_c Ad ds cd hds0 hDn hki' wb W3 p A l c hA M0.out.cur (HD.out _ M0.out.grow));unfold vdesc at CI;clear hki' hki;go_wp2_with fail;rw [← HW3.out];refine CI.out.mono ?_;rintro _ w4 ⟨x,hx,hxk,rfl,hC4,hg4⟩;have HXK:=lhd hxk;have HXL:=lhd hx;clear CI zp hxk;have M4:=M0.out.moved hC4 hg4;have HR4:=lhd (HR3.out.moved hg4 (some_ne (by omega)));have x5:=Ext_alloc (.cells #[.int .i64 x] 3) (Ext.refl w4);have ho5:=OwnL.lit (f:=vint) (e:=3) hC4.2.1 [(x:Int)] #[.int .i64 x] rfl 1 rfl (by omega);have M5:=M4.ext x5;have z7:_=some (Value.slice none 0 0):=M5.box.cell 7
  have y7:=M5.box.free 7;have hgl4:=M4.box.lt;have hpl4:=hC4.lt;have M6:=lhd (M5.fresh_k ho5 (n0:=w4.heap.size) (fun b hb=>by injection hb with hb;simp at hb;omega) (by simp [RV.vals,Value.ownBlock]) (by omega) (by omega) (by have:=M4.grow.size;omega));have HR6:=lhd ((HR4.out.ext x5).other (g':=w2.heap.size) (by omega) 7 (.slice (some ⟨w4.heap.size,0,none⟩) 1 1));have hcm:=World.setCell_alloc_past (w:=w4) (.cells #[.int .i64 x] 3) w2.heap.size 7 (.slice (some ⟨w4.heap.size,0,none⟩) 1 1) (by omega);rw [hcm] at M6 HR6;clear M4 M5 ho5 x5 hC4 hg4 HR4 hcm;obtain ⟨⟨a0,a1,a2,a3⟩,a4,a5,a6,a7⟩:=cells8 M6.out.box;obtain ⟨⟨b0,b1,b2,b3⟩,b4,b5,b6,b7⟩:=cells8 (q:=⟨⟨⟨#[]⟩,0,0,false,[],[],[],[]⟩,.slice none 0 0,.slice none 0 0,.slice none 0 0,.slice none 0 0⟩) HR6.out;obtain ⟨⟨d0,d1,d2,d3⟩,d4,d5,d6,d7⟩:=frees8 HR6.out;dsimp only at a0 a1 a2 a3 a4 a5 a6 a7 b0 b1 b2 b3 b4 b5 b6 b7
  have hR2:∀ u∈RV.vals ⟨⟨nm0++it,4,0,false,[],[],[],[(x:Int)]⟩,.slice none 0 0,.slice none 0 0,.slice none 0 0,.slice (some ⟨w4.heap.size,0,none⟩) 1 1⟩,∀ b,u.ownBlock=some b→b≠w.heap.size+1:=by
   intro u hu b hb;simp only [RV.vals,List.mem_cons,List.not_mem_nil,or_false] at hu;rcases hu with rfl | rfl | rfl | rfl
   ·cases hb
   ·cases hb
   ·cases hb
   ·(have:some w4.heap.size=some b:=hb);injection this;omega
  have HOUT:=lhd (M6.out.out HR6.out (by omega) (by omega) (by omega) hR2);dsimp only at HOUT;have hnew:=fun u hu b hb=>(M6.out.new u hu b hb).1
  have hfar:=M6.out.far;go_wp2_with fail;obtain ⟨hB,hO,hCc,hG⟩:=HOUT.out;obtain ⟨⟨e0,e1,e2,e3⟩,e4,e5,e6,e7⟩:=cells8 (q:=⟨⟨nm0++it,4,0,false,[],[],[],[(x:Int)]⟩,.slice none 0 0,.slice none 0 0,.slice none 0 0,.slice (some ⟨w4.heap.size,0,none⟩) 1 1⟩) hB;dsimp only at e0 e1 e2 e3 e4 e5 e6 e7;refine bodyPost_ret (v:=vrule ⟨nm0++it,4,0,false,[],[],[],[(x:Int)]⟩ (.slice none 0 0) (.slice none 0 0) (.slice none 0 0) (.slice (some ⟨w4.heap.size,0,none⟩) 1 1)) (by simp [results,Tryz.results56,go_sem,e0,e1,e2,e3,e4,e5,e6,e7,vrule]) rfl ?_;exact ⟨_,rfl,⟨by show (nm0++it).size≤40;omega,by simp,by simp,by simp;omega⟩,rfl,made_sized HNM.out hMD.out HXL.out HXK.out,hO,hfar,hnew,hCc,hG⟩
 ·have zp:_=some (Value.slice Ad ds.length cd):=HP3.out.cell 0
  rw [HW3.out] at zp;have hki':=hki.out.resolve_left (by omega);have hds0:0<ds.length:=by obtain ⟨i,hi,_⟩:=hki';omega
  have CI:=lhd (l4Integer_c Ad ds cd hds0 hDn hki' wb W3 p A l c hA M0.out.cur (HD.out _ M0.out.grow));unfold vdesc at CI;clear hki' hki;go_wp2_with fail;rw [← HW3.out];refine CI.out.mono ?_;rintro _ w3' ⟨x,hx,hxk,rfl,hC3,hg3⟩;have HXK:=lhd hxk;have HXL:=lhd hx;clear CI zp hxk;have M3:=lhd (M0.out.moved hC3 hg3);have HR3':=lhd (HR3.out.moved hg3 (some_ne (by omega)));go_wp2_with fail;refine (CBe.out ds.length _ M3.out.cur (by omega)).mono ?_;rintro _ w4 ⟨y,hy,rfl,hC4,hg4⟩;have HYL:Hid (y<ds.length):=by show _<_;unfold below at hy;rw [if_neg (by omega)] at hy;omega
  have hyn:y≤64:=by have:=HYL.out;omega
  have M4:=M3.out.moved hC4 hg4;have HR4:=lhd (HR3'.out.moved hg4 (some_ne (by omega)));clear M3 HR3';have x5:=Ext_alloc (.cells #[.int .i64 x,.int .i64 y] 3) (Ext.refl w4);have ho5:=OwnL.lit (f:=vint) (e:=3) hC4.2.1 [(x:Int),(y:Int)] #[.int .i64 x,.int .i64 y] rfl 2 rfl (by omega);have M5:=M4.ext x5;have z7:_=some (Value.slice none 0 0):=M5.box.cell 7
  have y7:=M5.box.free 7;have hgl4:=M4.box.lt;have hpl4:=hC4.lt;have M6:=lhd (M5.fresh_k ho5 (n0:=w4.heap.size) (fun b hb=>by injection hb with hb;simp at hb;omega) (by simp [RV.vals,Value.ownBlock]) (by omega) (by omega) (by have:=M4.grow.size;omega));have HR6:=lhd ((HR4.out.ext x5).other (g':=w2.heap.size) (by omega) 7 (.slice (some ⟨w4.heap.size,0,none⟩) 2 2));have hcm:=World.setCell_alloc_past (w:=w4) (.cells #[.int .i64 x,.int .i64 y] 3) w2.heap.size 7 (.slice (some ⟨w4.heap.size,0,none⟩) 2 2) (by omega);rw [hcm] at M6 HR6;clear M4 M5 ho5 x5 hC4 hg4 HR4 hcm;obtain ⟨⟨a0,a1,a2,a3⟩,a4,a5,a6,a7⟩:=cells8 M6.out.box;obtain ⟨⟨b0,b1,b2,b3⟩,b4,b5,b6,b7⟩:=cells8 (q:=⟨⟨⟨#[]⟩,0,0,false,[],[],[],[]⟩,.slice none 0 0,.slice none 0 0,.slice none 0 0,.slice none 0 0⟩) HR6.out;obtain ⟨⟨d0,d1,d2,d3⟩,d4,d5,d6,d7⟩:=frees8 HR6.out;dsimp only at a0 a1 a2 a3 a4 a5 a6 a7 b0 b1 b2 b3 b4 b5 b6 b7
  have hR2:∀ u∈RV.vals ⟨⟨nm0++it,5,0,false,[],[],[],[(x:Int),(y:Int)]⟩,.slice none 0 0,.slice none 0 0,.slice none 0 0,.slice (some ⟨w4.heap.size,0,none⟩) 2 2⟩,∀ b,u.ownBlock=some b→b≠w.heap.size+1:=by
   intro u hu b hb;simp only [RV.vals,List.mem_cons,List.not_mem_nil,or_false] at hu;rcases hu with rfl | rfl | rfl | rfl
   ·cases hb
   ·cases hb
   ·cases hb
   ·(have:some w4.heap.size=some b:=hb);injection this;omega
  have HOUT:=lhd (M6.out.out HR6.out (by omega) (by omega) (by omega) hR2);dsimp only at HOUT;have hnew:=fun u hu b hb=>(M6.out.new u hu b hb).1
  have hfar:=M6.out.far;go_wp2_with fail;obtain ⟨hB,hO,hCc,hG⟩:=HOUT.out;obtain ⟨⟨e0,e1,e2,e3⟩,e4,e5,e6,e7⟩:=cells8 (q:=⟨⟨nm0++it,5,0,false,[],[],[],[(x:Int),(y:Int)]⟩,.slice none 0 0,.slice none 0 0,.slice none 0 0,.slice (some ⟨w4.heap.size,0,none⟩) 2 2⟩) hB;dsimp only at e0 e1 e2 e3 e4 e5 e6 e7;refine bodyPost_ret (v:=vrule ⟨nm0++it,5,0,false,[],[],[],[(x:Int),(y:Int)]⟩ (.slice none 0 0) (.slice none 0 0) (.slice none 0 0) (.slice (some ⟨w4.heap.size,0,none⟩) 2 2)) (by simp [results,Tryz.results56,go_sem,e0,e1,e2,e3,e4,e5,e6,e7,vrule]) rfl ?_;exact ⟨_,rfl,⟨by show (nm0++it).size≤40;omega,by simp,by simp,by simp;omega⟩,rfl,made_array HNM.out hMD.out HXL.out HXK.out HYL.out,hO,hfar,hnew,hCc,hG⟩
theorem l4Make_c (Ad:Option Addr) (ds:List DRule) (cd:Nat) (kind:Int) (hkind:1≤kind∧kind≤10) (hDn:ds.length≤24) (hki:kind=1∨∃ i,∃ h:i<ds.length,ds[i].kind=1) (hMD:MadeD ds)
 (wb w:World) (p:Nat) (A:Option Addr) (l:List UInt8) (c:Nat) (hA:Bs wb A l c) (hC:Cur wb w p A l c) (hD:∀ w',w.grownBy w' (some p)→RdD w' Ad ds cd) :
 Calls Tryz.prog 56 #[.pointer (some ⟨p,0,none⟩),vdesc (.slice Ad ds.length cd),.int .i64 kind] w fun e w'=>∃ q:RV,e=.returned (vrule q.r q.vb q.vn q.vt q.vk)∧SmallR q.r∧q.r.kind=kind∧MadeR ds q.r∧RuleOwn wb w' q∧Far q.vals∧(∀ u∈q.vals,∀ b,u.ownBlock=some b→w.heap.size≤b)∧Cur wb w' p A l c∧w.grownBy w' (some p):=by
 by_cases h6:kind=6
 ·exact l4Make6_c Ad ds cd kind h6 (by omega) hki hMD wb w p A l c hA hC hD
 by_cases h7:kind=7
 ·exact l4Make7_c Ad ds cd kind h7 (by omega) hki hMD wb w p A l c hA hC hD
 exact l4Make1_c Ad ds cd kind ⟨hkind.1,hkind.2,h6,h7⟩ (by omega) hki hMD wb w p A l c hA hC hD
theorem OwnD.snoc2 {wb W w4:World} {v v':Value} {ps:List RV} {p:RV} (h:OwnD wb W v ps) (hro:RuleOwn wb W p) (hfr:Far p.vals) {n0:Nat} (hold:∀ u∈v::ps.flatMap RV.vals,∀ b,u.ownBlock=some b→b<n0) (hnew:∀ u∈p.vals,∀ b,u.ownBlock=some b→n0≤b)
 (ho4:Own 67 8 wb w4 v' (ps.length+1) (ps.flatMap RV.cells++p.cells)) (hg4:W.grownBy w4 v.ownBlock) (hv:v'.ownBlock=v.ownBlock∨v'.ownBlock=some W.heap.size):OwnD wb w4 v' (ps++[p]):=by
 have hbl:=h.block;have hfar:=h.far;unfold Far at hfar;rw [List.pairwise_cons] at hfar;refine ⟨?_,fun q hq=>?_,?_⟩
 ·rw [List.length_append,List.flatMap_append,List.flatMap_cons,List.flatMap_nil,List.append_nil];exact ho4
 ·rcases List.mem_append.1 hq with hq | hq
  ·refine (h.each q hq).keep hg4 (fun u hu g hg he=>?_)
   exact hfar.1 u (List.mem_flatMap.2 ⟨q,hq,hu⟩) g he hg
  ·obtain rfl:=List.mem_singleton.1 hq
   refine hro.keep hg4 (fun u hu g hg he=>?_);have h1:=hnew u hu g hg;have h2:=hold v (List.mem_cons_self ..) g he
   omega
 ·rw [List.flatMap_append,List.flatMap_cons,List.flatMap_nil,List.append_nil]
  refine Far.cons (Far.append hfar.2 hfr (fun u hu x hx g h1 h2=>by have:=hold u (List.mem_cons_of_mem _ hu) g h1;have:=hnew x hx g h2;omega)) (fun x hx g h1 h2=>?_);rcases hv with hv | hv
  ·rw [hv] at h1
   rcases List.mem_append.1 hx with hx | hx
   ·exact hfar.1 x hx g h1 h2
   ·have:=hold v (List.mem_cons_self ..) g h1;have:=hnew x hx g h2;omega
  ·rw [hv] at h1
   injection h1 with h1
   rcases List.mem_append.1 hx with hx | hx
   ·have:=(hbl x (List.mem_cons_of_mem _ hx) g h2).2;omega
   ·have:=(hro.block x hx g h2).2;omega
structure DS (wb w wr:World) (p:Nat) (A:Option Addr) (l:List UInt8) (c g:Nat) (v:Value) (ps:List RV) (R:Nat):Prop where
 box:Box wr g #[v] 26
 own:OwnD wb wr v ps
 new:∀ u∈v::ps.flatMap RV.vals,∀ b,u.ownBlock=some b→w.heap.size≤b∧b≠g∧b≠p∧b≠R
 cur:Cur wb wr p A l c
 grow:w.grownBy wr (some p)
 gw:w.heap.size≤g
 gb:wb.heap.size≤g
 gp:g≠p
 res:Box wr R #[.slice none 0 0] 26
 gR:g≠R
 pR:p≠R
theorem DS.moved {wb w wr w':World} {p:Nat} {A:Option Addr} {l:List UInt8} {c g:Nat} {v:Value} {ps:List RV} {R:Nat} (h:DS wb w wr p A l c g v ps R) (hC:Cur wb w' p A l c) (hg:wr.grownBy w' (some p)):DS wb w w' p A l c g v ps R :=
 ⟨h.box.moved hg (some_ne h.gp.symm),h.own.keep hg (fun u hu b hb hh=>by injection hh with hh;exact (h.new u hu b hb).2.2.1 hh.symm),h.new,hC,h.grow.trans hg,h.gw,h.gb,h.gp,h.res.moved hg (some_ne h.pR),h.gR,h.pR⟩
theorem DS.ext {wb w wr w':World} {p:Nat} {A:Option Addr} {l:List UInt8} {c g:Nat} {v:Value} {ps:List RV} {R:Nat} (h:DS wb w wr p A l c g v ps R) (e:Ext wr w'):DS wb w w' p A l c g v ps R :=
 h.moved (h.cur.ext e) (grown_ext e _)
def SmallD (ds:List DRule):Prop:=ds.length≤24∧∀ r∈ds,SmallR r
theorem SmallR.short {r:DRule} (h:SmallR r):ShortR r:=by have:=h.lens;unfold ShortR;omega
theorem DS.rd {wb w wr:World} {p:Nat} {A:Option Addr} {l:List UInt8} {c g:Nat} {v:Value} {ps:List RV} {R:Nat} (h:DS wb w wr p A l c g v ps R) (hs:SmallD (rulesOf ps)):∃ Ad cd,v=.slice Ad ps.length cd∧∀ w',wr.grownBy w' (some p)→RdD w' Ad (rulesOf ps) cd:=by
 obtain ⟨Ad,cd,hv⟩:=h.own.shape;refine ⟨Ad,cd,hv,fun w' hg=>?_⟩;have h1:OwnD wb w' v ps:=h.own.keep hg (fun u hu b hb hh=>by injection hh with hh;exact (h.new u hu b hb).2.2.1 hh.symm)
 obtain ⟨A2,c2,hv2,hR⟩:=h1.rd (by have:=hs.1;simp [rulesOf] at this;omega) (fun q hq=>(hs.2 q.r (List.mem_map_of_mem hq)).short);rw [hv] at hv2;injection hv2 with q1 _ q2
 subst q1;subst q2;exact hR
theorem DS.snoc {wb w W w4:World} {p:Nat} {A:Option Addr} {l:List UInt8} {c g:Nat} {v v':Value} {ps:List RV} {R:Nat} {q:RV} (h:DS wb w W p A l c g v ps R) (hro:RuleOwn wb W q) (hfr:Far q.vals) {n0:Nat} (hold:∀ u∈v::ps.flatMap RV.vals,∀ b,u.ownBlock=some b→b<n0) (hnew:∀ u∈q.vals,∀ b,u.ownBlock=some b→n0≤b) (hng:w.heap.size≤n0∧g<n0∧p<n0∧R<n0)
 (ho4:Own 67 8 wb w4 v' (ps.length+1) (ps.flatMap RV.cells++q.cells)) (he:Ext wb w4) (hg4:W.grownBy w4 v.ownBlock) (hv:v'.ownBlock=v.ownBlock∨v'.ownBlock=some W.heap.size) :
 (w4.cell? ⟨g,0,none⟩=some v∧w4.frozen? ⟨g,0,none⟩=false)∧DS wb w (w4.setCell ⟨g,0,none⟩ v') p A l c g v' (ps++[q]) R:=by
 have hB:Box w4 g #[v] 26:=Box.moved h.box hg4 (fun hh=>(h.new v (List.mem_cons_self ..) g hh).2.1 rfl)
 have hR:Box w4 R #[.slice none 0 0] 26:=Box.moved h.res hg4 (fun hh=>(h.new v (List.mem_cons_self ..) R hh).2.2.2 rfl)
 have hO:=h.own.snoc2 hro hfr hold hnew ho4 hg4 hv
 have hn:∀ u∈v'::(ps++[q]).flatMap RV.vals,∀ b,u.ownBlock=some b→w.heap.size≤b∧b≠g∧b≠p∧b≠R:=by
  intro u hu b hb;rw [List.flatMap_append,List.flatMap_cons,List.flatMap_nil,List.append_nil] at hu;rcases List.mem_cons.1 hu with rfl | hu
  ·rcases hv with hv | hv
   ·exact h.new v (List.mem_cons_self ..) b (hv.symm.trans hb)
   ·rw [hv] at hb;injection hb with hb
    have h1:=h.box.lt;have h2:=h.res.lt;have h3:=h.cur.lt;have h4:=h.grow.size;exact ⟨by omega,by omega,by omega,by omega⟩
  ·rcases List.mem_append.1 hu with hu | hu
   ·exact h.new u (List.mem_cons_of_mem _ hu) b hb
   ·have:=hnew u hu b hb
    exact ⟨by omega,by omega,by omega,by omega⟩
 refine ⟨⟨hB.cell 0,hB.free 0⟩,hB.set 0 v',hO.keep (grown_set w4 ⟨g,0,none⟩ v') (fun u hu b hb hh=>by injection hh with hh;exact (hn u hu b hb).2.1 hh.symm),hn,?_,?_,h.gw,h.gb,h.gp,hR.other (fun hh=>h.gR hh.symm) 0 v',h.gR,h.pR⟩
 ·exact (Cur.kept h.cur hg4 (fun hh=>(h.new v (List.mem_cons_self ..) p hh).2.2.1 rfl) he).set (a:=⟨g,0,none⟩) h.gp h.gb v'
 ·exact grown_new (a:=⟨g,0,none⟩) (grown_own h.grow (fun b hh=>(h.new v (List.mem_cons_self ..) b hh).1) hg4) h.gw v'
structure MadeV (wb w w':World) (v:Value) (ps:List RV):Prop where
 made:MadeD (rulesOf ps)
 small:SmallD (rulesOf ps)
 first:∃ h:0<(rulesOf ps).length,(rulesOf ps)[0].kind=1
 own:OwnD wb w' v ps
 new:∀ u∈v::ps.flatMap RV.vals,∀ b,u.ownBlock=some b→w.heap.size≤b
theorem l4Description_c (wb w:World) (p:Nat) (A:Option Addr) (l:List UInt8) (c:Nat) (hA:Bs wb A l c) (hC:Cur wb w p A l c) :
 Calls Tryz.prog 55 #[.pointer (some ⟨p,0,none⟩)] w fun e w'=>∃ v ps,e=.returned (vdesc v)∧MadeV wb w w' v ps∧ps.length≤6∧Cur wb w' p A l c∧w.grownBy w' (some p):=by
 have hplt:=hC.lt;have hbw:=hC.2.1.size;have CBe:=lhd (fun n w h hn=>l1Below_c n wb w p A l c hA h hn);have CM:=lhd (fun Ad ds cd kind hk h1 h2 h3 w h hD=>l4Make_c Ad ds cd kind hk h1 h2 h3 wb w p A l c hA h hD);unfold vdesc vrule at CM;obtain ⟨W0,hW0,HR,HB,e0,hsA⟩:=boxes2' w #[.slice none 0 0] #[.slice none 0 0] 26 26
 have S0:Hid (DS wb w W0 p A l c (w.heap.size+1) (.slice none 0 0) [] w.heap.size) :=
  ⟨HB,⟨⟨by simp,.inl ⟨rfl,rfl⟩⟩,by simp,Far.one _⟩,by simp [Value.ownBlock],hC.ext e0,grown_ext e0 _,by omega,by omega,by omega,HR,by omega,by omega⟩
 have cd0:_=some (Value.slice none 0 0):=S0.out.box.cell 0
 have yd0:=S0.out.box.free 0;clear HB HR hC;have HSZ:=lhd hsA;clear hsA;go_enter Tryz.func55,Tryz.ntmps55;go_wp2_with fail;rw [← hW0.out];have SX:=lhd (S0.out.ext (Ext_drew (Ext.refl W0)));have HRD:Hid (∀ w',(W0.drew).grownBy w' (some p)→RdD w' none [] 0):=fun w' _=>RdD.nil w'
 have HMX:Hid (([]:List RV).length+1≤maxLen∧(([]:List RV).length+1)*136≤140737488355328):=⟨by simp [maxLen],by simp⟩
 have HOLD:Hid (∀ u∈(Value.slice none 0 0)::([]:List RV).flatMap RV.vals,∀ b,u.ownBlock=some b→b<(W0.drew).heap.size):=by
  intro u hu b hb
  have:=(SX.out.own.block u hu b hb).2;omega
 have HNG:Hid (w.heap.size≤(W0.drew).heap.size∧w.heap.size+1<(W0.drew).heap.size∧p<(W0.drew).heap.size∧w.heap.size<(W0.drew).heap.size):=by
  have h1:=SX.out.grow.size;have h2:=SX.out.box.lt;have h3:=SX.out.cur.lt;have h4:=SX.out.res.lt;exact ⟨by omega,by omega,by omega,by omega⟩
 have HMN:=lhd MadeD.nil;go_cut [12] from 6 to 13 (fun _ wx=>∃ q v,SmallR q.r∧Hid (MadeR [] q.r)∧Hid (q.r.kind=1)∧Hid (DS wb w wx p A l c (w.heap.size+1) v [q] w.heap.size))
 case first =>
  go_region_law (first
   | (go_simp;go_at_call 56;refine (CM.out none [] 0 1 (by omega) (by simp) (.inl rfl) HMN.out _ SX.out.cur HRD.out).mono ?_;rintro _ w5 ⟨q,rfl,hsm,hkq,hmr,hro,hfr,hnb,hC5,hg5⟩;have S5:=lhd (DS.moved (Hid.out SX) hC5 hg5);have c5:_=some (Value.slice none 0 0):=S5.out.box.cell 0;have S5':=lhd (S5.out.ext (Ext_alloc (.cells #[.string q.r.nm,.int .i64 q.r.kind,.int .i64 q.r.size,.bool q.r.little,q.vb,q.vn,q.vt,q.vk] 67) (Ext.refl _)));have c5':_=some (Value.slice none 0 0):=S5'.out.box.cell 0;have hone:=lhd (vals_cells_one q hro hsm.short);have HRO:=lhd (hro.ext (Ext_alloc (.cells #[.string q.r.nm,.int .i64 q.r.kind,.int .i64 q.r.size,.bool q.r.little,q.vb,q.vn,q.vt,q.vk] 67) (Ext.refl _)));have HSM:=lhd hsm;have HMR:=lhd hmr;have HKQ:=lhd hkq;have HFR:=lhd hfr;have HNB:=lhd hnb;clear hC5 hg5 hsm hmr hkq hro hfr hnb)
   | (refine step_app8 rfl (.tmp 7) (.tmp 11) _ rfl E_rule wb (w5.alloc (.cells #[.string q.r.nm,.int .i64 q.r.kind,.int .i64 q.r.size,.bool q.r.little,q.vb,q.vn,q.vt,q.vk] 67)) (Value.slice none 0 0) (([]:List RV)).length ((([]:List RV)).flatMap RV.cells) rfl S5'.out.own.row S5'.out.cur.2.1.size ⟨w5.heap.size,0,none⟩ 1 1 (RV.cells q) rfl rfl (fun j u hu=>(World.cell?_alloc_at' w5 (RV.cells q) 67 j).trans hu) hone.out HMX.out.1 HMX.out.2 ?_;intro v7 w7 ho7 hg7 hv7;obtain ⟨⟨z7,y7⟩,M7⟩:=DS.snoc S5'.out HRO.out HFR.out HOLD.out HNB.out HNG.out ho7 (S5'.out.cur.2.1.grown hg7 (fun k hk=>(World.ownsRow.lt S5'.out.own.row k hk).1)) hg7 hv7;obtain ⟨A7,c7,hsh⟩:=M7.own.shape;replace hsh:v7=.slice A7 ((([]:List RV)).length+1) c7:=(by rw [hsh,List.length_append];rfl);subst hsh;clear ho7 hg7 hv7;have M7:=lhd M7))
  all_goals
   go_wp2_with fail;go_meet;exact ⟨q,_,HSM.out,HMR.out,HKQ.out,M7⟩
 case rest =>
  obtain ⟨q,v,hsq,hmq,hkq,hS⟩:=hcut;clear S0 SX HRD HMX HOLD HNG cd0 yd0 HMN;go_wp2_with fail;refine (CBe.out 6 _ hS.out.cur (by omega)).mono ?_;rintro _ w2 ⟨y,hy,rfl,hC2,hg2⟩;have hyn:y<6:=by unfold below at hy;rw [if_neg (by omega)] at hy;omega
  have S2:=lhd (hS.out.moved hC2 hg2);clear hy hC2 hg2 hS;have HM1:Hid (MadeD (rulesOf [q])):=by show MadeD _;have:=MadeD.nil.snoc hmq.out;simpa [rulesOf] using this
  go_wp2;go_loopw [4] (fun t wr=>∃ (i:Nat) (v:Value) (ps:List RV),i<6∧t=.int .i64 i∧Hid (ps.length+i≤6∧MadeD (rulesOf ps)∧(∀ q∈ps,SmallR q.r)∧∃ h:0<(rulesOf ps).length,(rulesOf ps)[0].kind=1)∧Hid (DS wb w wr p A l c (w.heap.size+1) v ps w.heap.size)) (fun t _=>(intOf t).toNat)
  case atStart=>exact ⟨y,v,[q],hyn,rfl,⟨by simp;omega,HM1.out,fun r hr=>by rw [List.mem_singleton.1 hr];exact hsq,⟨by simp [rulesOf],by simpa [rulesOf] using hkq.out⟩⟩,S2⟩
  case round =>
   clear S2 HM1 hmq hkq;obtain ⟨i,v,ps,hi6,rfl,hl,hS⟩:=hrel;have hSD:Hid (SmallD (rulesOf ps)):=⟨by have:=hl.out.1;simp [rulesOf];omega,fun r hr=>by obtain ⟨q,hq,rfl⟩:=List.mem_map.1 hr;exact hl.out.2.2.1 q hq⟩
   by_cases hi0:0<i
   ·obtain ⟨Ad,cd,hv,_⟩:=hS.out.rd hSD.out
    subst hv
    have CP:Hid (∀ (k:Nat) (w':World),k<10→DS wb w w' p A l c (w.heap.size+1) (.slice Ad ps.length cd) ps w.heap.size→Calls Tryz.prog 56 #[.pointer (some ⟨p,0,none⟩),.agg #[.slice Ad ps.length cd],.int .i64 (1+(k:Int))] w' fun e w''=>∃ q:RV,e=.returned (.agg #[.string q.r.nm,.int .i64 q.r.kind,.int .i64 q.r.size,.bool q.r.little,q.vb,q.vn,q.vt,q.vk])∧SmallR q.r∧q.r.kind=1+(k:Int)∧MadeR (rulesOf ps) q.r∧RuleOwn wb w'' q∧Far q.vals∧(∀ u∈q.vals,∀ b,u.ownBlock=some b→w'.heap.size≤b)∧Cur wb w'' p A l c∧w'.grownBy w'' (some p)):=fun k w' hk hS'=>by
     obtain ⟨Ad',cd',hv',hrd⟩:=hS'.rd hSD.out;injection hv' with q1 _ q2
     subst q1;subst q2;have h1:=CM.out Ad (rulesOf ps) cd (1+(k:Int)) (by omega) (by have:=hl.out.1;simp [rulesOf];omega) (.inr ⟨0,hl.out.2.2.2⟩) hl.out.2.1 w' hS'.cur hrd;rw [show (rulesOf ps).length=ps.length by simp [rulesOf]] at h1;exact h1
    have cd0:_=some (Value.slice Ad ps.length cd):=hS.out.box.cell 0
    have SX:=lhd (hS.out.ext (Ext_drew (Ext.refl wr)));have HMX:Hid (ps.length+1≤maxLen∧(ps.length+1)*136≤140737488355328):=by have:=hl.out.1;exact ⟨by simp only [maxLen];omega,by omega⟩
    have HW10:Hid (∀ x:Nat,below 10 x→x<10∧IntKind.i64.wrap (1+(x:Int))=1+(x:Int)):=fun x hx=>by
     have:x<10:=by unfold below at hx;rw [if_neg (by omega)] at hx;omega
     exact ⟨this,IntWalk.i64_in _ (by omega)⟩
    have HPre:Hid (∀ w',DS wb w w' p A l c (w.heap.size+1) (.slice Ad ps.length cd) ps w.heap.size→(∀ u∈(Value.slice Ad ps.length cd)::ps.flatMap RV.vals,∀ b,u.ownBlock=some b→b<w'.heap.size)∧(w.heap.size≤w'.heap.size∧w.heap.size+1<w'.heap.size∧p<w'.heap.size∧w.heap.size<w'.heap.size)):=fun w' h=>by
     have h1:=h.grow.size;have h2:=h.box.lt;have h3:=h.cur.lt;have h4:=h.res.lt;exact ⟨fun u hu b hb=>(h.own.block u hu b hb).2,by omega,by omega,by omega,by omega⟩
    go_wp2_with fail
    go_region_law (first
     | (go_simp;go_at_call 35;refine (CBe.out 10 _ SX.out.cur (by omega)).mono ?_;rintro _ w4 ⟨x,hx,rfl,hC4,hg4⟩;have SY:=lhd (DS.moved SX.out hC4 hg4);have c4:_=some (Value.slice Ad ps.length cd):=SY.out.box.cell 0;have HX:=lhd (HW10.out x hx);have hw11:=HX.out.2;have HOLD:=lhd (HPre.out _ SY.out).1;have HNG:=lhd (HPre.out _ SY.out).2;clear hC4 hg4 hx)
     | (go_simp;go_at_call 56;refine (CP.out x _ HX.out.1 SY.out).mono ?_;rintro _ w5 ⟨q,rfl,hsm,hkq,hmr,hro,hfr,hnb,hC5,hg5⟩;have S5:=lhd (DS.moved (Hid.out SY) hC5 hg5);have c5:_=some (Value.slice Ad ps.length cd):=S5.out.box.cell 0;have S5':=lhd (S5.out.ext (Ext_alloc (.cells #[.string q.r.nm,.int .i64 q.r.kind,.int .i64 q.r.size,.bool q.r.little,q.vb,q.vn,q.vt,q.vk] 67) (Ext.refl _)));have c5':_=some (Value.slice Ad ps.length cd):=S5'.out.box.cell 0;have hone:=lhd (vals_cells_one q hro hsm.short);have HRO:=lhd (hro.ext (Ext_alloc (.cells #[.string q.r.nm,.int .i64 q.r.kind,.int .i64 q.r.size,.bool q.r.little,q.vb,q.vn,q.vt,q.vk] 67) (Ext.refl _)));have HSM:=lhd hsm;have HMR:=lhd hmr;have HKQ:=lhd hkq;have HFR:=lhd hfr;have HNB:=lhd hnb;clear hC5 hg5 hsm hmr hkq hro hfr hnb)
     | (refine step_app8 rfl (.tmp 21) (.tmp 28) _ rfl E_rule wb (w5.alloc (.cells #[.string q.r.nm,.int .i64 q.r.kind,.int .i64 q.r.size,.bool q.r.little,q.vb,q.vn,q.vt,q.vk] 67)) (Value.slice Ad ps.length cd) (ps).length ((ps).flatMap RV.cells) rfl S5'.out.own.row S5'.out.cur.2.1.size ⟨w5.heap.size,0,none⟩ 1 1 (RV.cells q) rfl rfl (fun j u hu=>(World.cell?_alloc_at' w5 (RV.cells q) 67 j).trans hu) hone.out HMX.out.1 HMX.out.2 ?_;intro v7 w7 ho7 hg7 hv7;obtain ⟨⟨z7,y7⟩,M7⟩:=DS.snoc S5'.out HRO.out HFR.out HOLD.out HNB.out HNG.out ho7 (S5'.out.cur.2.1.grown hg7 (fun k hk=>(World.ownsRow.lt S5'.out.own.row k hk).1)) hg7 hv7;obtain ⟨A7,c7,hsh⟩:=M7.own.shape;replace hsh:v7=.slice A7 ((ps).length+1) c7:=(by rw [hsh,List.length_append];rfl);subst hsh;clear ho7 hg7 hv7;have M7:=lhd M7))
    all_goals
     have HL':Hid ((ps++[q]).length+(i-1)≤6∧MadeD (rulesOf (ps++[q]))∧(∀ u∈ps++[q],SmallR u.r)∧∃ h:0<(rulesOf (ps++[q])).length,(rulesOf (ps++[q]))[0].kind=1):=by
      obtain ⟨h1,h2,h3,h4,h5⟩:=hl.out;have e:rulesOf (ps++[q])=rulesOf ps++[q.r]:=by simp [rulesOf]
      refine ⟨by simp;omega,by rw [e];exact h2.snoc HMR.out,fun r hr=>?_,?_⟩
      ·rcases List.mem_append.1 hr with h6 | h6
       ·exact h3 r h6
       ·rw [List.mem_singleton.1 h6];exact HSM.out
      ·refine ⟨by rw [e];simp,?_⟩
       simp only [e];rw [List.getElem_append_left h4];exact h5
     clear hS cd0 SX HMX HPre hSD hl CP HX hw11 HOLD HNG HFR HNB HRO hone SY c4 S5 c5 S5' c5' z7 y7;go_wp2;go_roundw
     case rel=>exact ⟨i-1,_,ps++[q],by omega,by go_num,HL',M7⟩
     case measure=>simp [intOf];omega
   ·obtain rfl:i=0:=by omega
    obtain ⟨Ad,cd,hv,_⟩:=hS.out.rd hSD.out;subst hv;have cd0:_=some (Value.slice Ad ps.length cd):=hS.out.box.cell 0
    have cr0:_=some (Value.slice none 0 0):=hS.out.res.cell 0
    have yr0:=hS.out.res.free 0
    have OUT:Hid (OwnD wb (wr.setCell ⟨w.heap.size,0,none⟩ (.slice Ad ps.length cd)) (.slice Ad ps.length cd) ps∧Cur wb (wr.setCell ⟨w.heap.size,0,none⟩ (.slice Ad ps.length cd)) p A l c∧w.grownBy (wr.setCell ⟨w.heap.size,0,none⟩ (.slice Ad ps.length cd)) (some p)) :=
     ⟨hS.out.own.keep (grown_set wr ⟨w.heap.size,0,none⟩ _) (fun u hu b hb hh=>by injection hh with hh;exact (hS.out.new u hu b hb).2.2.2 hh.symm),hS.out.cur.set (a:=⟨w.heap.size,0,none⟩) (fun hh=>hS.out.pR hh.symm) hbw _,grown_new (a:=⟨w.heap.size,0,none⟩) hS.out.grow (Nat.le_refl _) _⟩
    have z5:(wr.setCell ⟨w.heap.size,0,none⟩ (.slice Ad ps.length cd)).cell? ⟨w.heap.size,0,none⟩=some (.slice Ad ps.length cd):=World.cell?_setCell_same _ _ _ cr0
    have HNW:=lhd (fun u hu b hb=>(hS.out.new u hu b hb).1);clear hS;go_wp2;refine bodyPost_ret (v:=vdesc (.slice Ad ps.length cd)) (by simp [results,Tryz.results55,go_sem,z5,vdesc]) rfl ⟨_,ps,rfl,⟨hl.out.2.1,hSD.out,hl.out.2.2.2,OUT.out.1,HNW.out⟩,by have:=hl.out.1;omega,OUT.out.2.1,OUT.out.2.2⟩
structure SmR (r:DRule):Prop where
 nm:r.nm.size≤60
 lens:r.bytes.length≤16∧r.names.length≤16∧r.tags.length≤16∧r.kids.length≤16
 nms:∀ t∈r.names,t.size≤60
 kind : -100≤r.kind∧r.kind≤100
 ints:(-100000≤r.size∧r.size≤100000)∧(∀ x∈r.tags,-200000≤x∧x≤200000)∧∀ x∈r.kids,-200000≤x∧x≤200000
theorem SmallR.sm {r:DRule} (h:SmallR r) (hk : -100≤r.kind∧r.kind≤100):SmR r :=
 ⟨by have:=h.nm;omega,by have:=h.lens;omega,fun t ht=>by have:=h.nms t ht;omega,hk,⟨h.ints.1,fun x hx=>by have:=h.ints.2.1 x hx;omega,fun x hx=>by have:=h.ints.2.2 x hx;omega⟩⟩
def SmD (ds:List DRule):Prop:=ds.length≤24∧∀ r∈ds,SmR r
theorem SmR.short {r:DRule} (h:SmR r):ShortR r:=by have:=h.lens;unfold ShortR;omega
theorem sum_le' {α:Type} (f:α→Nat) (m:Nat):∀ l:List α,(∀ x∈l,f x≤m)→(l.map f).sum≤l.length*m
 | [],_=>by simp
 | a::t,h=>by
  have h1:=h a (List.mem_cons_self ..);have h2:=sum_le' f m t (fun x hx=>h x (List.mem_cons_of_mem _ hx));rw [List.map_cons,List.sum_cons,List.length_cons,Nat.add_mul];omega
theorem SmallD.szD {ds:List DRule} (h:SmallD ds):szD ds≤1048576:=by
 have h0:∀ r∈ds,szRl r≤1200:=fun r hr=>by
  have h1:=(h.2 r hr).lens;have h2:=(h.2 r hr).nm;have h3:=sum_le' ByteArray.size 40 r.names (h.2 r hr).nms;have h4:r.names.length*40≤8*40:=Nat.mul_le_mul_right 40 (by omega)
  unfold szRl szStrs;omega
 have h1:=sum_le' szRl 1200 ds h0;have h2:ds.length*1200≤24*1200:=Nat.mul_le_mul_right 1200 h.1
 have h3:=h.1;unfold Go.Proofs.YtlfhealneccdkaaGreatDoor.szD;omega
theorem cells_put:∀ (ps:List RV) (k j:Nat) (h:k<ps.length) (u:Value) (p':RV),j<8→p'.cells=ps[k].cells.set j u→(ps.flatMap RV.cells).set (k*8+j) u=(ps.set k p').flatMap RV.cells:=by
 intro ps
 induction ps with
 | nil=>intro k j h;simp at h
 | cons p s ih =>
  intro k j h u p' hj hp;cases k with
  | zero =>
   simp only [List.getElem_cons_zero] at hp;rw [List.flatMap_cons,List.set_append_left _ _ (by simp [RV.cells];omega),List.set_cons_zero,List.flatMap_cons,hp];simp
  | succ k =>
   have h':k<s.length:=by simpa using h
   simp only [List.getElem_cons_succ] at hp;rw [List.flatMap_cons,List.set_append_right _ _ (by simp [RV.cells];omega)];rw [show (k+1)*8+j-p.cells.length=k*8+j by simp [RV.cells];omega,ih k j h' u p' hj hp];simp [List.flatMap_cons]
theorem vals_put:∀ (ps:List RV) (k j:Nat) (h:k<ps.length) (u:Value) (p':RV),j<4→p'.vals=ps[k].vals.set j u→(ps.set k p').flatMap RV.vals=(ps.flatMap RV.vals).set (k*4+j) u:=by
 intro ps
 induction ps with
 | nil=>intro k j h;simp at h
 | cons p s ih =>
  intro k j h u p' hj hp;cases k with
  | zero =>
   simp only [List.getElem_cons_zero] at hp;rw [List.set_cons_zero,List.flatMap_cons,List.flatMap_cons,List.set_append_left _ _ (by simp [RV.vals];omega),hp];simp
  | succ k =>
   have h':k<s.length:=by simpa using h
   simp only [List.getElem_cons_succ] at hp;rw [List.set_cons_succ,List.flatMap_cons,List.flatMap_cons,List.set_append_right _ _ (by simp [RV.vals];omega)];rw [show (k+1)*4+j-p.vals.length=k*4+j by simp [RV.vals];omega,ih k j h' u p' hj hp]
theorem vals_len (ps:List RV):(ps.flatMap RV.vals).length=ps.length*4:=by
 induction ps with
 | nil=>rfl
 | cons p t ih=>rw [List.flatMap_cons,List.length_append,ih,List.length_cons];simp [RV.vals];omega
theorem vals_get:∀ (ps:List RV) (k j:Nat) (h:k<ps.length),j<4→(ps.flatMap RV.vals)[k*4+j]?=ps[k].vals[j]?:=by
 intro ps
 induction ps with
 | nil=>intro i j h;simp at h
 | cons p t ih =>
  intro i j h hj;rw [List.flatMap_cons];cases i with
  | zero=>rw [List.getElem?_append_left (by simp [RV.vals];omega)];simp
  | succ i =>
   rw [List.getElem?_append_right (by simp [RV.vals];omega)]
   have:(i+1)*4+j-p.vals.length=i*4+j:=by simp [RV.vals];omega
   rw [this,ih i j (by simpa using h) hj];simp
theorem far_set {l:List Value} (h:Far l) (i:Nat) (hi:i<l.length) (v':Value) (N:Nat) (hN:∀ u∈l,∀ b,u.ownBlock=some b→b<N) (hv:v'.ownBlock=l[i].ownBlock∨v'.ownBlock=some N):Far (l.set i v'):=by
 unfold Far at *;rw [List.pairwise_iff_getElem] at *;intro a b ha hb hab g h1 h2;rw [List.length_set] at ha hb;rw [List.getElem_set] at h1 h2
 split at h1
 ·rename_i e1
  subst e1;rw [if_neg (by omega)] at h2;rcases hv with hv | hv
  ·exact h i b ha hb hab g (hv.symm.trans h1) h2
  ·rw [hv] at h1;injection h1 with h1
   have:=hN _ (List.getElem_mem hb) g h2;omega
 ·split at h2
  ·rename_i e2
   subst e2;rcases hv with hv | hv
   ·exact h a i ha hb hab g h1 (hv.symm.trans h2)
   ·rw [hv] at h2;injection h2 with h2
    have:=hN _ (List.getElem_mem ha) g h1;omega
  ·exact h a b ha hb hab g h1 h2
theorem far_same {l l':List Value} (h:Far l) (e:l'=l):Far l':=e▸h
theorem mem_set_vals {l:List Value} {i:Nat} {v' u:Value} (h:u∈l.set i v'):u∈l∨u=v':=List.mem_or_eq_of_mem_set h
theorem DS.put {wb w wr:World} {p:Nat} {A:Option Addr} {l:List UInt8} {c g b n cap:Nat} {ps:List RV} {R:Nat} (h:DS wb w wr p A l c g (.slice (some ⟨b,0,none⟩) n cap) ps R) (k j:Nat) (hk:k<ps.length) (hj:j<4) (u:Value) (p':RV) (hc:p'.cells=ps[k].cells.set j u) (hv:p'.vals=ps[k].vals)
 (hr:p'.r.bytes=ps[k].r.bytes∧p'.r.names=ps[k].r.names∧p'.r.tags=ps[k].r.tags∧p'.r.kids=ps[k].r.kids) :
 (wr.cell? ⟨b,k*8+j,none⟩=ps[k].cells[j]?∧wr.frozen? ⟨b,k*8+j,none⟩=false)∧DS wb w (wr.setCell ⟨b,k*8+j,none⟩ u) p A l c g (.slice (some ⟨b,0,none⟩) n cap) (ps.set k p') R:=by
 have hn:n=ps.length:=by obtain ⟨_,_,hh⟩:=h.own.shape;injection hh
 subst hn;have hbn:=h.new _ (List.mem_cons_self ..) b rfl;have hblk:=h.own.block _ (List.mem_cons_self ..) b rfl;have hfar:=h.own.far;unfold Far at hfar;rw [List.pairwise_cons] at hfar;have hsep:∀ x∈ps.flatMap RV.vals,∀ a,x.ownBlock=some a→some b≠some a:=fun x hx a ha hh=>by injection hh with hh;subst hh;exact hfar.1 x hx b rfl ha
 have hvs:(ps.set k p').flatMap RV.vals=ps.flatMap RV.vals:=by
  have:=vals_put ps k 0 hk p'.vb p' (by omega) (by rw [← hv];simp [RV.vals]);rw [this];refine List.ext_getElem? fun i=>?_
  rw [List.getElem?_set]
  split
  ·rename_i e
   subst e;have h1:=vals_get ps k 0 hk (by omega);rw [h1,← hv,if_pos (by rw [vals_len];omega)];simp [RV.vals]
  ·rfl
 have hrow:=(h.own.row.stored (k*8+j) u).1;rw [cells_put ps k j hk u p' (by omega) hc] at hrow
 have hcell:wr.cell? ⟨b,k*8+j,none⟩=ps[k].cells[j]?:=by
  have h0:=h.own.row.cellAt (k*8+j) (by omega);rw [h0,cells_get ps k j hk (by omega)]
 refine ⟨⟨hcell,h.own.row.frozenAt _⟩,h.box.other hbn.2.1.symm _ u,⟨by rw [List.length_set];exact hrow,fun q hq=>?_,far_same h.own.far (by rw [hvs])⟩,by rw [hvs];exact h.new,h.cur.set (a:=⟨b,k*8+j,none⟩) hbn.2.2.1 hblk.1 u,grown_new (a:=⟨b,k*8+j,none⟩) h.grow hbn.1 u,h.gw,h.gb,h.gp,h.res.other hbn.2.2.2.symm _ u,h.gR,h.pR⟩;have hkeep:∀ q∈ps,RuleOwn wb (wr.setCell ⟨b,k*8+j,none⟩ u) q:=fun q hq=>(h.own.each q hq).keep (grown_set wr ⟨b,k*8+j,none⟩ u) (fun x hx a ha=>hsep x (List.mem_flatMap.2 ⟨q,hq,hx⟩) a ha)
 rcases List.mem_or_eq_of_mem_set hq with h1 | rfl
 ·exact hkeep q h1
 ·have h2:=hkeep ps[k] (List.getElem_mem hk)
  obtain ⟨r',vb',vn',vt',vk'⟩:=q;simp only [RV.vals,List.cons.injEq,and_true] at hv;dsimp only at hr;obtain ⟨rfl,rfl,rfl,rfl⟩:=hv;exact ⟨by show OwnL _ _ _ _ _ r'.bytes;rw [hr.1];exact h2.b,by show OwnL _ _ _ _ _ r'.names;rw [hr.2.1];exact h2.n,by show OwnL _ _ _ _ _ r'.tags;rw [hr.2.2.1];exact h2.t,by show OwnL _ _ _ _ _ r'.kids;rw [hr.2.2.2];exact h2.k⟩
theorem DS.app_n {wb w W w2:World} {p:Nat} {A:Option Addr} {l:List UInt8} {c g b n cap:Nat} {ps:List RV} {R:Nat} (h:DS wb w W p A l c g (.slice (some ⟨b,0,none⟩) n cap) ps R) (k:Nat) (hk:k<ps.length) {v':Value} {xs:List ByteArray} (ho:OwnL vstr 9 wb w2 v' xs) (he:Ext wb w2)
 (hb:v'.ownBlock=ps[k].vn.ownBlock∨v'.ownBlock=some W.heap.size) (hg:W.grownBy w2 ps[k].vn.ownBlock) :
 (w2.cell? ⟨b,k*8+5,none⟩=some ps[k].vn∧w2.frozen? ⟨b,k*8+5,none⟩=false∧w2.cell? ⟨g,0,none⟩=some (.slice (some ⟨b,0,none⟩) n cap))∧DS wb w (w2.setCell ⟨b,k*8+5,none⟩ v') p A l c g (.slice (some ⟨b,0,none⟩) n cap) (ps.set k ⟨{ ps[k].r with names:=xs },ps[k].vb,v',ps[k].vt,ps[k].vk⟩) R:=by
 have hn:n=ps.length:=by obtain ⟨_,_,hh⟩:=h.own.shape;injection hh
 subst hn;have hbn:=h.new _ (List.mem_cons_self ..) b rfl;have hblk:=h.own.block _ (List.mem_cons_self ..) b rfl;have hold:=h.own.block;have hmem:ps[k].vn∈ps.flatMap RV.vals:=List.mem_flatMap.2 ⟨ps[k],List.getElem_mem hk,by simp [RV.vals]⟩
 have hnk:=h.new _ (List.mem_cons_of_mem _ hmem);have hfar:=h.own.far;have hfar0:=hfar;unfold Far at hfar;rw [List.pairwise_cons] at hfar;have hvl:=vals_len ps;have hbX:∀ a,ps[k].vn.ownBlock=some a→a≠b:=fun a ha hh=>by subst hh;exact hfar.1 _ hmem a rfl ha
 -- the other values lie elsewhere
 have hother:∀ i,i<(ps.flatMap RV.vals).length→i≠k*4+1→∀ u a,(ps.flatMap RV.vals)[i]?=some u→u.ownBlock=some a→ps[k].vn.ownBlock≠some a:=by
  intro i hi hne u a hu ha hx;have h4:=hfar.2;rw [List.pairwise_iff_getElem] at h4;have h5:=vals_get ps k 1 hk (by omega);have h6:(ps.flatMap RV.vals)[k*4+1]?=some ps[k].vn:=by rw [h5];simp [RV.vals]
  have hlt:k*4+1<(ps.flatMap RV.vals).length:=by rw [hvl];omega
  rw [List.getElem?_eq_getElem hi] at hu;rw [List.getElem?_eq_getElem hlt] at h6;injection hu with hu;injection h6 with h6
  rcases (by omega:i<k*4+1∨k*4+1<i) with h7 | h7
  ·exact h4 i _ hi hlt h7 a (by rw [hu];exact ha) (by rw [h6];exact hx)
  ·exact h4 _ i hlt hi h7 a (by rw [h6];exact hx) (by rw [hu];exact ha)
 have hset:=vals_put ps k 1 hk v' ⟨{ ps[k].r with names:=xs },ps[k].vb,v',ps[k].vt,ps[k].vk⟩ (by omega) (by simp [RV.vals]);have hrow2:=h.own.row.keep hg (fun a ha hh=>by injection ha with ha;exact hbX a hh ha.symm)
 have hnv:∀ a,v'.ownBlock=some a→(w.heap.size≤a∧a≠g∧a≠p∧a≠R)∧a≠b:=by
  intro a ha;rcases hb with hb | hb
  ·exact ⟨hnk a (hb.symm.trans ha),hbX a (hb.symm.trans ha)⟩
  ·rw [hb] at ha;injection ha with ha
   have h1:=h.box.lt;have h2:=h.res.lt;have h3:=h.cur.lt;have h4:=h.grow.size;exact ⟨⟨by omega,by omega,by omega,by omega⟩,by omega⟩
 have hB2:Box w2 g #[.slice (some ⟨b,0,none⟩) ps.length cap] 26:=h.box.moved hg (fun hh=>(hnk g hh).2.1 rfl)
 have hR2:Box w2 R #[.slice none 0 0] 26:=h.res.moved hg (fun hh=>(hnk R hh).2.2.2 rfl)
 have hC2:=Cur.kept h.cur hg (fun hh=>(hnk p hh).2.2.1 rfl) he;have hG2:=grown_own h.grow (fun a ha=>(hnk a ha).1) hg;have hrow:=(hrow2.stored (k*8+5) v').1;rw [cells_put ps k 5 hk v' ⟨{ ps[k].r with names:=xs },ps[k].vb,v',ps[k].vt,ps[k].vk⟩ (by omega) (by simp [RV.cells])] at hrow
 have hcell:w2.cell? ⟨b,k*8+5,none⟩=some ps[k].vn:=by
  have h0:=hrow2.cellAt (k*8+5) (by omega);rw [h0,cells_get ps k 5 hk (by omega)];simp [RV.cells]
 refine ⟨⟨hcell,hrow2.frozenAt _,hB2.cell 0⟩,hB2.other hbn.2.1.symm _ v',⟨by rw [List.length_set];exact hrow,fun q hq=>?_,?_⟩,?_,hC2.set (a:=⟨b,k*8+5,none⟩) hbn.2.2.1 hblk.1 v',grown_new (a:=⟨b,k*8+5,none⟩) hG2 hbn.1 v',h.gw,h.gb,h.gp,hR2.other hbn.2.2.2.symm _ v',h.gR,h.pR⟩
 ·have hst:∀ {α:Type} {f:α→Value} {e:TypeId} {u:Value} {xs:List α},OwnL f e wb w2 u xs→(∀ a,u.ownBlock=some a→a≠b)→OwnL f e wb (w2.setCell ⟨b,k*8+5,none⟩ v') u xs:=fun hu hub=>hu.keep (grown_set w2 ⟨b,k*8+5,none⟩ v') (fun a ha hh=>by injection hh with hh;exact hub a ha hh.symm)
  have hvb:∀ u∈ps.flatMap RV.vals,∀ a,u.ownBlock=some a→a≠b:=fun u hu a ha hh=>by subst hh;exact hfar.1 u hu a rfl ha
  have key:∀ i (hi:i<ps.length) (j:Nat),j<4→(i≠k∨j≠1)→∀ {α:Type} {f:α→Value} {e:TypeId} {u:Value} {xs:List α},ps[i].vals[j]?=some u→OwnL f e wb W u xs→OwnL f e wb (w2.setCell ⟨b,k*8+5,none⟩ v') u xs:=by
   intro i hi j hj hij α f e u xs hu hown;have hget:=vals_get ps i j hi hj;rw [hu] at hget;refine hst (hown.keep hg (fun a ha hh=>?_)) (hvb u (List.mem_of_getElem? hget));exact hother (i*4+j) (by rw [hvl];omega) (by rcases hij with h1 | h1<;>omega) u a hget ha hh
  rcases List.getElem_of_mem hq with ⟨i,hi,rfl⟩
  rw [List.length_set] at hi;rw [List.getElem_set]
  split
  ·rename_i e1
   subst e1;have h0:=h.own.each _ (List.getElem_mem hk);exact ⟨key k hk 0 (by omega) (.inr (by omega)) (by simp [RV.vals]) h0.b,hst ho (fun a ha=>(hnv a ha).2),key k hk 2 (by omega) (.inr (by omega)) (by simp [RV.vals]) h0.t,key k hk 3 (by omega) (.inr (by omega)) (by simp [RV.vals]) h0.k⟩
  ·rename_i e1
   have h0:=h.own.each _ (List.getElem_mem hi);exact ⟨key i hi 0 (by omega) (.inl (fun hh=>e1 hh.symm)) (by simp [RV.vals]) h0.b,key i hi 1 (by omega) (.inl (fun hh=>e1 hh.symm)) (by simp [RV.vals]) h0.n,key i hi 2 (by omega) (.inl (fun hh=>e1 hh.symm)) (by simp [RV.vals]) h0.t,key i hi 3 (by omega) (.inl (fun hh=>e1 hh.symm)) (by simp [RV.vals]) h0.k⟩
 ·rw [hset]
  have h1:=far_set hfar0 (1+(k*4+1)) (by simp [hvl];omega) v' W.heap.size (fun u hu a ha=>(hold u hu a ha).2) (by
   have h5:=vals_get ps k 1 hk (by omega)
   have h6:(Value.slice (some ⟨b,0,none⟩) ps.length cap::ps.flatMap RV.vals)[1+(k*4+1)]?=some ps[k].vn:=by
    rw [Nat.add_comm 1,List.getElem?_cons_succ];have h7:ps[k].vals[1]?=some ps[k].vn:=by simp [RV.vals]
    exact h5.trans h7
   rw [List.getElem?_eq_getElem (by simp [hvl];omega)] at h6;injection h6 with h6
   rw [h6];exact hb)
  rw [Nat.add_comm 1,List.set_cons_succ] at h1;exact h1
 ·intro u hu a ha
  rw [hset] at hu;rcases List.mem_cons.1 hu with rfl | hu
  ·exact h.new _ (List.mem_cons_self ..) a ha
  ·rcases mem_set_vals hu with h1 | rfl
   ·exact h.new u (List.mem_cons_of_mem _ h1) a ha
   ·exact (hnv a ha).1
theorem DS.app_t {wb w W w2:World} {p:Nat} {A:Option Addr} {l:List UInt8} {c g b n cap:Nat} {ps:List RV} {R:Nat} (h:DS wb w W p A l c g (.slice (some ⟨b,0,none⟩) n cap) ps R) (k:Nat) (hk:k<ps.length) {v':Value} {xs:List Int} (ho:OwnL vint 3 wb w2 v' xs) (he:Ext wb w2)
 (hb:v'.ownBlock=ps[k].vt.ownBlock∨v'.ownBlock=some W.heap.size) (hg:W.grownBy w2 ps[k].vt.ownBlock) :
 (w2.cell? ⟨b,k*8+6,none⟩=some ps[k].vt∧w2.frozen? ⟨b,k*8+6,none⟩=false∧w2.cell? ⟨g,0,none⟩=some (.slice (some ⟨b,0,none⟩) n cap))∧DS wb w (w2.setCell ⟨b,k*8+6,none⟩ v') p A l c g (.slice (some ⟨b,0,none⟩) n cap) (ps.set k ⟨{ ps[k].r with tags:=xs },ps[k].vb,ps[k].vn,v',ps[k].vk⟩) R:=by
 have hn:n=ps.length:=by obtain ⟨_,_,hh⟩:=h.own.shape;injection hh
 subst hn;have hbn:=h.new _ (List.mem_cons_self ..) b rfl;have hblk:=h.own.block _ (List.mem_cons_self ..) b rfl;have hold:=h.own.block;have hmem:ps[k].vt∈ps.flatMap RV.vals:=List.mem_flatMap.2 ⟨ps[k],List.getElem_mem hk,by simp [RV.vals]⟩
 have hnk:=h.new _ (List.mem_cons_of_mem _ hmem);have hfar:=h.own.far;have hfar0:=hfar;unfold Far at hfar;rw [List.pairwise_cons] at hfar;have hvl:=vals_len ps;have hbX:∀ a,ps[k].vt.ownBlock=some a→a≠b:=fun a ha hh=>by subst hh;exact hfar.1 _ hmem a rfl ha
 -- the other values lie elsewhere
 have hother:∀ i,i<(ps.flatMap RV.vals).length→i≠k*4+2→∀ u a,(ps.flatMap RV.vals)[i]?=some u→u.ownBlock=some a→ps[k].vt.ownBlock≠some a:=by
  intro i hi hne u a hu ha hx;have h4:=hfar.2;rw [List.pairwise_iff_getElem] at h4;have h5:=vals_get ps k 2 hk (by omega);have h6:(ps.flatMap RV.vals)[k*4+2]?=some ps[k].vt:=by rw [h5];simp [RV.vals]
  have hlt:k*4+2<(ps.flatMap RV.vals).length:=by rw [hvl];omega
  rw [List.getElem?_eq_getElem hi] at hu;rw [List.getElem?_eq_getElem hlt] at h6;injection hu with hu;injection h6 with h6
  rcases (by omega:i<k*4+2∨k*4+2<i) with h7 | h7
  ·exact h4 i _ hi hlt h7 a (by rw [hu];exact ha) (by rw [h6];exact hx)
  ·exact h4 _ i hlt hi h7 a (by rw [h6];exact hx) (by rw [hu];exact ha)
 have hset:=vals_put ps k 2 hk v' ⟨{ ps[k].r with tags:=xs },ps[k].vb,ps[k].vn,v',ps[k].vk⟩ (by omega) (by simp [RV.vals]);have hrow2:=h.own.row.keep hg (fun a ha hh=>by injection ha with ha;exact hbX a hh ha.symm)
 have hnv:∀ a,v'.ownBlock=some a→(w.heap.size≤a∧a≠g∧a≠p∧a≠R)∧a≠b:=by
  intro a ha;rcases hb with hb | hb
  ·exact ⟨hnk a (hb.symm.trans ha),hbX a (hb.symm.trans ha)⟩
  ·rw [hb] at ha;injection ha with ha
   have h1:=h.box.lt;have h2:=h.res.lt;have h3:=h.cur.lt;have h4:=h.grow.size;exact ⟨⟨by omega,by omega,by omega,by omega⟩,by omega⟩
 have hB2:Box w2 g #[.slice (some ⟨b,0,none⟩) ps.length cap] 26:=h.box.moved hg (fun hh=>(hnk g hh).2.1 rfl)
 have hR2:Box w2 R #[.slice none 0 0] 26:=h.res.moved hg (fun hh=>(hnk R hh).2.2.2 rfl)
 have hC2:=Cur.kept h.cur hg (fun hh=>(hnk p hh).2.2.1 rfl) he;have hG2:=grown_own h.grow (fun a ha=>(hnk a ha).1) hg;have hrow:=(hrow2.stored (k*8+6) v').1;rw [cells_put ps k 6 hk v' ⟨{ ps[k].r with tags:=xs },ps[k].vb,ps[k].vn,v',ps[k].vk⟩ (by omega) (by simp [RV.cells])] at hrow
 have hcell:w2.cell? ⟨b,k*8+6,none⟩=some ps[k].vt:=by
  have h0:=hrow2.cellAt (k*8+6) (by omega);rw [h0,cells_get ps k 6 hk (by omega)];simp [RV.cells]
 refine ⟨⟨hcell,hrow2.frozenAt _,hB2.cell 0⟩,hB2.other hbn.2.1.symm _ v',⟨by rw [List.length_set];exact hrow,fun q hq=>?_,?_⟩,?_,hC2.set (a:=⟨b,k*8+6,none⟩) hbn.2.2.1 hblk.1 v',grown_new (a:=⟨b,k*8+6,none⟩) hG2 hbn.1 v',h.gw,h.gb,h.gp,hR2.other hbn.2.2.2.symm _ v',h.gR,h.pR⟩
 ·have hst:∀ {α:Type} {f:α→Value} {e:TypeId} {u:Value} {xs:List α},OwnL f e wb w2 u xs→(∀ a,u.ownBlock=some a→a≠b)→OwnL f e wb (w2.setCell ⟨b,k*8+6,none⟩ v') u xs:=fun hu hub=>hu.keep (grown_set w2 ⟨b,k*8+6,none⟩ v') (fun a ha hh=>by injection hh with hh;exact hub a ha hh.symm)
  have hvb:∀ u∈ps.flatMap RV.vals,∀ a,u.ownBlock=some a→a≠b:=fun u hu a ha hh=>by subst hh;exact hfar.1 u hu a rfl ha
  have key:∀ i (hi:i<ps.length) (j:Nat),j<4→(i≠k∨j≠2)→∀ {α:Type} {f:α→Value} {e:TypeId} {u:Value} {xs:List α},ps[i].vals[j]?=some u→OwnL f e wb W u xs→OwnL f e wb (w2.setCell ⟨b,k*8+6,none⟩ v') u xs:=by
   intro i hi j hj hij α f e u xs hu hown;have hget:=vals_get ps i j hi hj;rw [hu] at hget;refine hst (hown.keep hg (fun a ha hh=>?_)) (hvb u (List.mem_of_getElem? hget));exact hother (i*4+j) (by rw [hvl];omega) (by rcases hij with h1 | h1<;>omega) u a hget ha hh
  rcases List.getElem_of_mem hq with ⟨i,hi,rfl⟩
  rw [List.length_set] at hi;rw [List.getElem_set]
  split
  ·rename_i e1
   subst e1;have h0:=h.own.each _ (List.getElem_mem hk);exact ⟨key k hk 0 (by omega) (.inr (by omega)) (by simp [RV.vals]) h0.b,key k hk 1 (by omega) (.inr (by omega)) (by simp [RV.vals]) h0.n,hst ho (fun a ha=>(hnv a ha).2),key k hk 3 (by omega) (.inr (by omega)) (by simp [RV.vals]) h0.k⟩
  ·rename_i e1
   have h0:=h.own.each _ (List.getElem_mem hi);exact ⟨key i hi 0 (by omega) (.inl (fun hh=>e1 hh.symm)) (by simp [RV.vals]) h0.b,key i hi 1 (by omega) (.inl (fun hh=>e1 hh.symm)) (by simp [RV.vals]) h0.n,key i hi 2 (by omega) (.inl (fun hh=>e1 hh.symm)) (by simp [RV.vals]) h0.t,key i hi 3 (by omega) (.inl (fun hh=>e1 hh.symm)) (by simp [RV.vals]) h0.k⟩
 ·rw [hset]
  have h1:=far_set hfar0 (1+(k*4+2)) (by simp [hvl];omega) v' W.heap.size (fun u hu a ha=>(hold u hu a ha).2) (by
   have h5:=vals_get ps k 2 hk (by omega)
   have h6:(Value.slice (some ⟨b,0,none⟩) ps.length cap::ps.flatMap RV.vals)[1+(k*4+2)]?=some ps[k].vt:=by
    rw [Nat.add_comm 1,List.getElem?_cons_succ];have h7:ps[k].vals[2]?=some ps[k].vt:=by simp [RV.vals]
    exact h5.trans h7
   rw [List.getElem?_eq_getElem (by simp [hvl];omega)] at h6;injection h6 with h6
   rw [h6];exact hb)
  rw [Nat.add_comm 1,List.set_cons_succ] at h1;exact h1
 ·intro u hu a ha
  rw [hset] at hu;rcases List.mem_cons.1 hu with rfl | hu
  ·exact h.new _ (List.mem_cons_self ..) a ha
  ·rcases mem_set_vals hu with h1 | rfl
   ·exact h.new u (List.mem_cons_of_mem _ h1) a ha
   ·exact (hnv a ha).1
theorem DS.app_k {wb w W w2:World} {p:Nat} {A:Option Addr} {l:List UInt8} {c g b n cap:Nat} {ps:List RV} {R:Nat} (h:DS wb w W p A l c g (.slice (some ⟨b,0,none⟩) n cap) ps R) (k:Nat) (hk:k<ps.length) {v':Value} {xs:List Int} (ho:OwnL vint 3 wb w2 v' xs) (he:Ext wb w2)
 (hb:v'.ownBlock=ps[k].vk.ownBlock∨v'.ownBlock=some W.heap.size) (hg:W.grownBy w2 ps[k].vk.ownBlock) :
 (w2.cell? ⟨b,k*8+7,none⟩=some ps[k].vk∧w2.frozen? ⟨b,k*8+7,none⟩=false∧w2.cell? ⟨g,0,none⟩=some (.slice (some ⟨b,0,none⟩) n cap))∧DS wb w (w2.setCell ⟨b,k*8+7,none⟩ v') p A l c g (.slice (some ⟨b,0,none⟩) n cap) (ps.set k ⟨{ ps[k].r with kids:=xs },ps[k].vb,ps[k].vn,ps[k].vt,v'⟩) R:=by
 have hn:n=ps.length:=by obtain ⟨_,_,hh⟩:=h.own.shape;injection hh
 subst hn;have hbn:=h.new _ (List.mem_cons_self ..) b rfl;have hblk:=h.own.block _ (List.mem_cons_self ..) b rfl;have hold:=h.own.block;have hmem:ps[k].vk∈ps.flatMap RV.vals:=List.mem_flatMap.2 ⟨ps[k],List.getElem_mem hk,by simp [RV.vals]⟩
 have hnk:=h.new _ (List.mem_cons_of_mem _ hmem);have hfar:=h.own.far;have hfar0:=hfar;unfold Far at hfar;rw [List.pairwise_cons] at hfar;have hvl:=vals_len ps;have hbX:∀ a,ps[k].vk.ownBlock=some a→a≠b:=fun a ha hh=>by subst hh;exact hfar.1 _ hmem a rfl ha
 -- the other values lie elsewhere
 have hother:∀ i,i<(ps.flatMap RV.vals).length→i≠k*4+3→∀ u a,(ps.flatMap RV.vals)[i]?=some u→u.ownBlock=some a→ps[k].vk.ownBlock≠some a:=by
  intro i hi hne u a hu ha hx;have h4:=hfar.2;rw [List.pairwise_iff_getElem] at h4;have h5:=vals_get ps k 3 hk (by omega);have h6:(ps.flatMap RV.vals)[k*4+3]?=some ps[k].vk:=by rw [h5];simp [RV.vals]
  have hlt:k*4+3<(ps.flatMap RV.vals).length:=by rw [hvl];omega
  rw [List.getElem?_eq_getElem hi] at hu;rw [List.getElem?_eq_getElem hlt] at h6;injection hu with hu;injection h6 with h6
  rcases (by omega:i<k*4+3∨k*4+3<i) with h7 | h7
  ·exact h4 i _ hi hlt h7 a (by rw [hu];exact ha) (by rw [h6];exact hx)
  ·exact h4 _ i hlt hi h7 a (by rw [h6];exact hx) (by rw [hu];exact ha)
 have hset:=vals_put ps k 3 hk v' ⟨{ ps[k].r with kids:=xs },ps[k].vb,ps[k].vn,ps[k].vt,v'⟩ (by omega) (by simp [RV.vals]);have hrow2:=h.own.row.keep hg (fun a ha hh=>by injection ha with ha;exact hbX a hh ha.symm)
 have hnv:∀ a,v'.ownBlock=some a→(w.heap.size≤a∧a≠g∧a≠p∧a≠R)∧a≠b:=by
  intro a ha;rcases hb with hb | hb
  ·exact ⟨hnk a (hb.symm.trans ha),hbX a (hb.symm.trans ha)⟩
  ·rw [hb] at ha;injection ha with ha
   have h1:=h.box.lt;have h2:=h.res.lt;have h3:=h.cur.lt;have h4:=h.grow.size;exact ⟨⟨by omega,by omega,by omega,by omega⟩,by omega⟩
 have hB2:Box w2 g #[.slice (some ⟨b,0,none⟩) ps.length cap] 26:=h.box.moved hg (fun hh=>(hnk g hh).2.1 rfl)
 have hR2:Box w2 R #[.slice none 0 0] 26:=h.res.moved hg (fun hh=>(hnk R hh).2.2.2 rfl)
 have hC2:=Cur.kept h.cur hg (fun hh=>(hnk p hh).2.2.1 rfl) he;have hG2:=grown_own h.grow (fun a ha=>(hnk a ha).1) hg;have hrow:=(hrow2.stored (k*8+7) v').1;rw [cells_put ps k 7 hk v' ⟨{ ps[k].r with kids:=xs },ps[k].vb,ps[k].vn,ps[k].vt,v'⟩ (by omega) (by simp [RV.cells])] at hrow
 have hcell:w2.cell? ⟨b,k*8+7,none⟩=some ps[k].vk:=by
  have h0:=hrow2.cellAt (k*8+7) (by omega);rw [h0,cells_get ps k 7 hk (by omega)];simp [RV.cells]
 refine ⟨⟨hcell,hrow2.frozenAt _,hB2.cell 0⟩,hB2.other hbn.2.1.symm _ v',⟨by rw [List.length_set];exact hrow,fun q hq=>?_,?_⟩,?_,hC2.set (a:=⟨b,k*8+7,none⟩) hbn.2.2.1 hblk.1 v',grown_new (a:=⟨b,k*8+7,none⟩) hG2 hbn.1 v',h.gw,h.gb,h.gp,hR2.other hbn.2.2.2.symm _ v',h.gR,h.pR⟩
 ·have hst:∀ {α:Type} {f:α→Value} {e:TypeId} {u:Value} {xs:List α},OwnL f e wb w2 u xs→(∀ a,u.ownBlock=some a→a≠b)→OwnL f e wb (w2.setCell ⟨b,k*8+7,none⟩ v') u xs:=fun hu hub=>hu.keep (grown_set w2 ⟨b,k*8+7,none⟩ v') (fun a ha hh=>by injection hh with hh;exact hub a ha hh.symm)
  have hvb:∀ u∈ps.flatMap RV.vals,∀ a,u.ownBlock=some a→a≠b:=fun u hu a ha hh=>by subst hh;exact hfar.1 u hu a rfl ha
  have key:∀ i (hi:i<ps.length) (j:Nat),j<4→(i≠k∨j≠3)→∀ {α:Type} {f:α→Value} {e:TypeId} {u:Value} {xs:List α},ps[i].vals[j]?=some u→OwnL f e wb W u xs→OwnL f e wb (w2.setCell ⟨b,k*8+7,none⟩ v') u xs:=by
   intro i hi j hj hij α f e u xs hu hown;have hget:=vals_get ps i j hi hj;rw [hu] at hget;refine hst (hown.keep hg (fun a ha hh=>?_)) (hvb u (List.mem_of_getElem? hget));exact hother (i*4+j) (by rw [hvl];omega) (by rcases hij with h1 | h1<;>omega) u a hget ha hh
  rcases List.getElem_of_mem hq with ⟨i,hi,rfl⟩
  rw [List.length_set] at hi;rw [List.getElem_set]
  split
  ·rename_i e1
   subst e1;have h0:=h.own.each _ (List.getElem_mem hk);exact ⟨key k hk 0 (by omega) (.inr (by omega)) (by simp [RV.vals]) h0.b,key k hk 1 (by omega) (.inr (by omega)) (by simp [RV.vals]) h0.n,key k hk 2 (by omega) (.inr (by omega)) (by simp [RV.vals]) h0.t,hst ho (fun a ha=>(hnv a ha).2)⟩
  ·rename_i e1
   have h0:=h.own.each _ (List.getElem_mem hi);exact ⟨key i hi 0 (by omega) (.inl (fun hh=>e1 hh.symm)) (by simp [RV.vals]) h0.b,key i hi 1 (by omega) (.inl (fun hh=>e1 hh.symm)) (by simp [RV.vals]) h0.n,key i hi 2 (by omega) (.inl (fun hh=>e1 hh.symm)) (by simp [RV.vals]) h0.t,key i hi 3 (by omega) (.inl (fun hh=>e1 hh.symm)) (by simp [RV.vals]) h0.k⟩
 ·rw [hset]
  have h1:=far_set hfar0 (1+(k*4+3)) (by simp [hvl];omega) v' W.heap.size (fun u hu a ha=>(hold u hu a ha).2) (by
   have h5:=vals_get ps k 3 hk (by omega)
   have h6:(Value.slice (some ⟨b,0,none⟩) ps.length cap::ps.flatMap RV.vals)[1+(k*4+3)]?=some ps[k].vk:=by
    rw [Nat.add_comm 1,List.getElem?_cons_succ];have h7:ps[k].vals[3]?=some ps[k].vk:=by simp [RV.vals]
    exact h5.trans h7
   rw [List.getElem?_eq_getElem (by simp [hvl];omega)] at h6;injection h6 with h6
   rw [h6];exact hb)
  rw [Nat.add_comm 1,List.set_cons_succ] at h1;exact h1
 ·intro u hu a ha
  rw [hset] at hu;rcases List.mem_cons.1 hu with rfl | hu
  ·exact h.new _ (List.mem_cons_self ..) a ha
  ·rcases mem_set_vals hu with h1 | rfl
   ·exact h.new u (List.mem_cons_of_mem _ h1) a ha
   ·exact (hnv a ha).1
theorem l1IntBox_c (ns:List Int) (hns:0<ns.length) (hns2:ns.length≤256) (n:Nat) (hn:n=ns.length) (cs:Array Value) (hcs:cs=(ns.map vint).toArray) (wb w:World) (p:Nat) (A:Option Addr) (l:List UInt8) (c:Nat) (hA:Bs wb A l c) (b:Nat) (hC:Cur wb w p A l c) (hb:Box w b cs 3) :
 Calls Tryz.prog 57 #[.pointer (some ⟨p,0,none⟩),.slice (some ⟨b,0,none⟩) n n] w fun e w'=>∃ x∈ns,e=.returned (.int .i64 x)∧Cur wb w' p A l c∧w.grownBy w' (some p):=by
 subst hn;subst hcs
 have hbp:p≠b:=by
  rintro rfl;obtain ⟨_,_,i,x,_,h4⟩:=hC;have h5:w.heap[p]?=_:=hb
  rw [h5] at h4;injection h4 with h4
  injection h4 with _ h7
  exact absurd h7 (by decide)
 refine (l1Int_c (some ⟨b,0,none⟩) ns ns.length hns hns2 wb _ p A l c hA hC ?_).mono ?_
 ·intro w' hg i hi
  refine ⟨b,0,rfl,?_⟩;rw [(hb.moved hg (some_ne hbp)).cell (0+i),Nat.zero_add];simp [vint,hi]
 ·rintro e w' ⟨x,hx,he,hC1,hg⟩
  exact ⟨x,hx,he,hC1,hg⟩
theorem DS.rule {wb w wr:World} {p:Nat} {A:Option Addr} {l:List UInt8} {c g:Nat} {v:Value} {ps:List RV} {R:Nat} (h:DS wb w wr p A l c g v ps R) (k:Nat) (hk:k<ps.length) {q:RV} (hq:ps[k]=q):RuleOwn wb wr q:=hq▸h.own.each _ (List.getElem_mem hk)
theorem Box.newd' (w:World) (cs:Array Value) (T:TypeId) (n:Nat) (hn:n=w.heap.size):Box (w.alloc (.cells cs T)).drew n cs T:=by subst hn;exact (Box.new w cs T).ext (Ext_drew (Ext.refl _))
theorem Box.new' (w:World) (cs:Array Value) (T:TypeId) (n:Nat) (hn:n=w.heap.size):Box (w.alloc (.cells cs T)) n cs T:=by subst hn;exact Box.new w cs T
structure AnyV (wb w w':World) (v:Value) (ps:List RV):Prop where
 small:SmD (rulesOf ps)
 own:OwnD wb w' v ps
 new:∀ u∈v::ps.flatMap RV.vals,∀ b,u.ownBlock=some b→w.heap.size≤b
theorem MadeD.sm {ps:List RV} (h:MadeD (rulesOf ps)) (hs:SmallD (rulesOf ps)):SmD (rulesOf ps):=⟨hs.1,fun r hr=>(hs.2 r hr).sm (by
 obtain ⟨i,hi,rfl⟩:=List.getElem_of_mem hr
 have:=(h i hi).ok;unfold kindOk at this
 by_cases h1:(rulesOf ps)[i].kind=1;· omega
 by_cases h2:(rulesOf ps)[i].kind=2;· omega
 by_cases h3:(rulesOf ps)[i].kind=3;· omega
 by_cases h4:(rulesOf ps)[i].kind=4;· omega
 by_cases h5:(rulesOf ps)[i].kind=5;· omega
 by_cases h6:(rulesOf ps)[i].kind=6;· omega
 by_cases h7:(rulesOf ps)[i].kind=7;· omega
 by_cases h8:(rulesOf ps)[i].kind=8;· omega
 by_cases h9:(rulesOf ps)[i].kind=9;· omega
 by_cases h10:(rulesOf ps)[i].kind=10;· omega
 simp [h1,h2,h3,h4,h5,h6,h7,h8,h9,h10] at this)⟩
end Go.Proofs.YtlfhealneccdkaaGreatDoor
