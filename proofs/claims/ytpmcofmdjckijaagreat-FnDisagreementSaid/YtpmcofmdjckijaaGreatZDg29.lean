/- Texts, laid into one. -/
import Derived.Test.YtpmcofmdjckijaaGreatZDg27
import Derived.Deep.CutBlock
set_option linter.unusedVariables false
set_option linter.unusedSimpArgs false
set_option maxRecDepth 100000
set_option maxHeartbeats 16000000
namespace Go.Proofs.YtpmcofmdjckijaaGreat
open Go.RowKit Go.Sort
def readRoot (ds:List DRule) (b:List UInt8):RR:=if descOk ds=true∧b.length≤400 then readV ds b (ds.length-1) 0 else .bad 0 8
theorem readFile_eq (ds:List DRule) (b:List UInt8):readFile ds b=if (readRoot ds b).code=0∧(readRoot ds b).next<b.length then .bad (readRoot ds b).next 7 else readRoot ds b:=by
 unfold readFile readRoot
 by_cases h:descOk ds=true∧b.length≤400
 ·rw [if_pos h,if_pos h]
 ·rw [if_neg h,if_neg h,if_neg (by simp [RR.bad])]
theorem root_known {ds:List DRule} (h:descOk ds=true):0<ds.length∧knownB ds ((ds.length:Int)-1)=true:=by
 have h2:=h;unfold descOk at h2;rw [Bool.and_eq_true,between_iff] at h2;refine ⟨by omega,?_⟩;unfold knownB;rw [h];simp;omega
theorem root_unknown {ds:List DRule} (h:descOk ds=false) (i:Int):knownB ds i=false:=by unfold knownB;rw [h];rfl
theorem RdOut_shapeC {f:Nat} {args:Array Value} {R:RR} {w':World} (h:Calls Tryz.prog f args w' (RdOut R w')):Calls Tryz.prog f args w' (fun e w''=>∃ (t:VT) (A1:Option Addr) (n1 c1:Nat) (A2:Option Addr) (n2 c2:Nat),e=.returned (.tuple #[.agg #[.int .i64 (R).v.num,.slice A1 n1 c1,.slice A2 n2 c2],.int .i64 ((R).next:Int),.int .i64 ((R).code:Int)])∧Hid (t.vb=.slice A1 n1 c1∧t.vi=.slice A2 n2 c2)∧Hid (GotV w' w'' t (R).v)∧Ext w' w''):=h.mono fun _ _ h=>RdOut.shape h
theorem sReadRoot_c (A:Option Addr) (ds:List DRule) (c:Nat) (Ab:Option Addr) (b:List UInt8) (cb:Nat) (w:World) (hd:RdD w A ds c) (hs:ShortD ds) (hw:WfD ds) (hb:Bs w Ab b cb) :
 Calls Tryz.prog 39 #[vdesc (.slice A ds.length c),.int .i64 ((ds.length:Int)-1),.slice Ab b.length cb,.int .i64 0] w (RdOut (readRoot ds b) w):=by
 have hl:=hd.len;have hbl:=hb.len;have CK:=lhd (fun w' (e:Ext w w')=>l7Rule_c A ds c ((ds.length:Int)-1) w' (hd.ext e) hs hw);have CI:=lhd (fun (x lo hi:Int) w'=>l1In_c x lo hi w');have B1:=Box.new w #[.slice A ds.length c] 26;have x1:=Ext_alloc (.cells #[.slice A ds.length c] 26) (Ext.refl w);have B2:=Box.new (w.alloc (.cells #[.slice A ds.length c] 26)) #[.int .i64 0,.slice none 0 0,.slice none 0 0] 46;have x2:=Ext_alloc (.cells #[.int .i64 0,.slice none 0 0,.slice none 0 0] 46) (Ext.refl (w.alloc (.cells #[.slice A ds.length c] 26)));rw [World.size_alloc] at B2;have B1:=B1.ext x2;obtain ⟨W0,hW0⟩:∃ W0,W0=(w.alloc (.cells #[.slice A ds.length c] 26)).alloc (.cells #[.int .i64 0,.slice none 0 0,.slice none 0 0] 46):=⟨_,rfl⟩;rw [← hW0] at B1 B2 x2;have e0:=x1.trans x2;have hs0:W0.heap.size=w.heap.size+1+1:=by rw [hW0];simp
 have HW0:=lhd hW0;have HB2:=lhd B2;have HS0:=lhd hs0;have d0:∀ w',Ext W0 w'→_=some (Value.slice A ds.length c):=B1.at 0
 clear hW0 B1 B2 x1 x2 hs0;unfold readRoot;unfold vdesc at *;cases hok:descOk ds
 ·rw [if_neg (by simp)]
  rw [root_unknown hok] at CK;go_enter Tryz.func39,Tryz.ntmps39;go_wp2_with fail;rw [← HW0.out];refine (CK.out _ e0).mono ?_;rintro _ w1 ⟨rfl,he1⟩;have hbq:=HB2.out.ext he1;have f1:=hbq.cell;have f2:=hbq.free;have hput:=lhd ((e0.trans he1).grown (grown_put3 _ (w.heap.size+1) 0 t0) (fun g hg=>by injection hg with hg;omega));go_wp2;exact bodyPost_ret (v:=badRes 0 8) (by simp [results,Tryz.results39,go_sem,f1,f2,badRes,zeroV]) rfl (RdOut.bad hput.out)
 ·obtain ⟨h0,hk⟩:=root_known hok
  rw [hk] at CK;have CR:=lhd (fun w' (e:Ext w w')=>RdOut_shapeC (sRead_all A ds c hok Ab b cb (ds.length-1) (by omega) 0 w' (by omega) (hd.ext e) (hb.ext e)));unfold vdesc at CR;rw [show ((ds.length-1:Nat):Int)=(ds.length:Int)-1 by omega] at CR;have hin:(decide ((0:Int)≤0)&&decide ((0:Int)≤(b.length:Int)))=true:=by simp
  have hle:(0:Int)≤(ds.length:Int)-1:=by omega
  by_cases h4:b.length≤400
  ·rw [if_pos ⟨rfl,h4⟩]
   have h4i:¬ (400:Int)<(b.length:Int):=by omega
   generalize readV ds b (ds.length-1) 0=Y at *;go_enter Tryz.func39,Tryz.ntmps39;go_wp2_with fail;rw [← HW0.out];refine (CK.out _ e0).mono ?_;rintro _ w1 ⟨rfl,he1⟩;go_wp2_with fail;refine (CI.out _ _ _ _).mono ?_;rintro _ w2 ⟨rfl,he2⟩;rw [hin];have e02:=he1.trans he2;go_wp2_with fail;refine (CR.out _ (e0.trans e02)).mono ?_;rintro _ w5 ⟨t,A1,n1,c1,A2,n2,c2,rfl,hsh,hgt,he5⟩;have e05:=e02.trans he5;have hbq:=HB2.out.ext e05;have f1:=hbq.cell;have f2:=hbq.free;have hs0':=HS0.out;have hz2:=e02.size;have hG:=val_out3 (w:=w) (g:=w.heap.size+1) (by omega) (e0.trans e05) (hgt.out.down (by omega)) (fun u hu g hg=>by have:=(hgt.out.own.block u hu g hg).1;omega) (.int .i64 Y.v.num) (.slice A1 n1 c1) (.slice A2 n2 c2);have HG:=lhd hG;clear hG hs0';go_wp2;exact bodyPost_ret (v:=.tuple #[.agg #[.int .i64 Y.v.num,.slice A1 n1 c1,.slice A2 n2 c2],.int .i64 (Y.next:Int),.int .i64 (Y.code:Int)]) (by simp [results,Tryz.results39,go_sem,f1,f2]) rfl ⟨t,by unfold rrVal vval;rw [hsh.out.1,hsh.out.2],HG.out.1,HG.out.2⟩
  ·rw [if_neg (fun h=>h4 h.2)]
   have h4i:(400:Int)<(b.length:Int):=by omega
   go_enter Tryz.func39,Tryz.ntmps39;go_wp2_with fail;rw [← HW0.out];refine (CK.out _ e0).mono ?_;rintro _ w1 ⟨rfl,he1⟩;go_wp2_with fail;refine (CI.out _ _ _ _).mono ?_;rintro _ w2 ⟨rfl,he2⟩;rw [hin];have e02:=he1.trans he2;have hbq:=HB2.out.ext e02;have f1:=hbq.cell;have f2:=hbq.free;have hput:=lhd ((e0.trans e02).grown (grown_put3 _ (w.heap.size+1) 0 t0) (fun g hg=>by injection hg with hg;omega));go_wp2;exact bodyPost_ret (v:=badRes 0 8) (by simp [results,Tryz.results39,go_sem,f1,f2,badRes,zeroV]) rfl (RdOut.bad hput.out)
theorem sReadFile_c (A:Option Addr) (ds:List DRule) (c:Nat) (Ab:Option Addr) (b:List UInt8) (cb:Nat) (w:World) (hd:RdD w A ds c) (hs:ShortD ds) (hw:WfD ds) (hb:Bs w Ab b cb) :
 Calls Tryz.prog 18 #[vdesc (.slice A ds.length c),.slice Ab b.length cb] w (RdOut (readFile ds b) w):=by
 have hl:=hd.len;have hbl:=hb.len;have CO:=lhd (fun w'=>sRoot_c A ds c w' hl);have CR:=lhd (fun w' (e:Ext w w')=>RdOut_shapeC (sReadRoot_c A ds c Ab b cb w' (hd.ext e) hs hw (hb.ext e)));have B1:=Box.new w #[.slice A ds.length c] 26;have x1:=Ext_alloc (.cells #[.slice A ds.length c] 26) (Ext.refl w);have B2:=Box.new (w.alloc (.cells #[.slice A ds.length c] 26)) #[.int .i64 0,.slice none 0 0,.slice none 0 0] 46;have x2:=Ext_alloc (.cells #[.int .i64 0,.slice none 0 0,.slice none 0 0] 46) (Ext.refl (w.alloc (.cells #[.slice A ds.length c] 26)));rw [World.size_alloc] at B2;have B1:=B1.ext x2;obtain ⟨W0,hW0⟩:∃ W0,W0=(w.alloc (.cells #[.slice A ds.length c] 26)).alloc (.cells #[.int .i64 0,.slice none 0 0,.slice none 0 0] 46):=⟨_,rfl⟩;rw [← hW0] at B1 B2 x2;have e0:=x1.trans x2;have hs0:W0.heap.size=w.heap.size+1+1:=by rw [hW0];simp
 have HW0:=lhd hW0;have HB2:=lhd B2;have HS0:=lhd hs0;have d0:∀ w',Ext W0 w'→_=some (Value.slice A ds.length c):=B1.at 0
 clear hW0 B1 B2 x1 x2 hs0 hd hb;rw [readFile_eq];obtain ⟨R,hR⟩:∃ R,(if (readRoot ds b).code=0∧(readRoot ds b).next<b.length then RR.bad (readRoot ds b).next 7 else readRoot ds b)=R:=⟨_,rfl⟩;rw [hR];generalize readRoot ds b=Y at *;have HRR:=lhd hR;clear hR;unfold vdesc at *;have SY:Hid (∀ w',Ext W0 w'→Ext W0 w'∧True):=fun _ h1=>⟨h1,trivial⟩
 have HXD:Ext W0 W0.drew:=Ext_drew (Ext.refl W0)
 go_enter Tryz.func18,Tryz.ntmps18;go_wp2_with fail;rw [← HW0.out];go_cut [7,8,9] (fun s7 s8 s9 wx=>∃ g t vb vi,s7=.pointer (some ⟨g,0,none⟩)∧s8=.int .i64 (Y.next:Int)∧s9=.int .i64 (Y.code:Int)∧Hid (t.vb=vb∧t.vi=vi∧Box wx g #[.int .i64 Y.v.num,vb,vi] 46)∧Hid (GotV W0 wx t Y.v)∧Hid ((∃ A1 n1 c1,vb=.slice A1 n1 c1)∧∃ A2 n2 c2,vi=.slice A2 n2 c2)∧Ext W0 wx)
 case first =>
  go_region_held3 (fun w'=>Ext W0 w'∧True) (first | exact SY.out _ HXD | exact SY.out _ (by assumption) | exact SY.out _ (Ext_alloc _ (And.left (by assumption))) | exact SY.out _ (Ext_alloc _ (by assumption)) | exact SY.out _ (((Ext.setCell hE5 (by first | exact Nat.le_refl _ | exact hE4.size) _).setCell (by first | exact Nat.le_refl _ | exact hE4.size) _).setCell (by first | exact Nat.le_refl _ | exact hE4.size) _)) (first
   | (go_at_call 40;have hq:=‹Ext W0 _∧True›;refine (CO.out _).mono ?_;rintro _ w4 ⟨rfl,he4⟩;have hE4:=hq.1.trans he4;(try (have hbx:Box w4 W0.heap.size #[.int .i64 0,.slice none 0 0,.slice none 0 0] 46:=Box.ext (Box.new W0.drew #[.int .i64 0,.slice none 0 0,.slice none 0 0] 46) he4)))
   | (go_at_call 39;have hq:=‹Ext W0 _∧True›;refine (CR.out _ (e0.trans hq.1)).mono ?_;rintro _ w5 ⟨t,A1,n1,c1,A2,n2,c2,rfl,hsh,hgt,he5⟩;have hE5:=hq.1.trans he5;(first | (have hbz:Box w5 W0.heap.size #[.int .i64 0,.slice none 0 0,.slice none 0 0] 46:=Box.ext hbx he5;have z0:w5.cell? ⟨W0.heap.size,0,none⟩=some (Value.int .i64 0):=hbz.cell 0;have z1:w5.cell? ⟨W0.heap.size,1,none⟩=some (Value.slice none 0 0):=hbz.cell 1;have z2:w5.cell? ⟨W0.heap.size,2,none⟩=some (Value.slice none 0 0):=hbz.cell 2;have y0:w5.frozen? ⟨W0.heap.size,0,none⟩=false:=hbz.free 0;have y1:w5.frozen? ⟨W0.heap.size,1,none⟩=false:=hbz.free 1;have y2:w5.frozen? ⟨W0.heap.size,2,none⟩=false:=hbz.free 2) | (have hbz:Box w5 w4.heap.size #[.int .i64 0,.slice none 0 0,.slice none 0 0] 46:=Box.ext (Box.new w4 #[.int .i64 0,.slice none 0 0,.slice none 0 0] 46) he5;have z0:w5.cell? ⟨w4.heap.size,0,none⟩=some (Value.int .i64 0):=hbz.cell 0;have z1:w5.cell? ⟨w4.heap.size,1,none⟩=some (Value.slice none 0 0):=hbz.cell 1;have z2:w5.cell? ⟨w4.heap.size,2,none⟩=some (Value.slice none 0 0):=hbz.cell 2;have y0:w5.frozen? ⟨w4.heap.size,0,none⟩=false:=hbz.free 0;have y1:w5.frozen? ⟨w4.heap.size,1,none⟩=false:=hbz.free 1;have y2:w5.frozen? ⟨w4.heap.size,2,none⟩=false:=hbz.free 2) | skip)))
  all_goals
   go_wp2_with fail;go_meet
  all_goals
   first
    | exact ⟨_,t,_,_,rfl,rfl,rfl,⟨hsh.out.1,hsh.out.2,Box.new w5 _ _⟩,GotV.down (GotV.ext hgt.out (Ext_alloc _ (Ext.refl _))) hE4.size,⟨⟨_,_,_,rfl⟩,_,_,_,rfl⟩,Ext_alloc _ hE5⟩
    | exact ⟨_,t,_,_,rfl,rfl,rfl,⟨hsh.out.1,hsh.out.2,box_laid hbz _ _ _⟩,GotV.down (got_laid hgt.out (by rw [World.size_alloc];omega) _ _ _) (by rw [World.size_alloc];have:=hE4.size;omega),⟨⟨_,_,_,rfl⟩,_,_,_,rfl⟩,((hE5.setCell (by exact hE4.size) _).setCell (by exact hE4.size) _).setCell (by exact hE4.size) _⟩
    | exact ⟨_,t,_,_,rfl,rfl,rfl,⟨hsh.out.1,hsh.out.2,box_laid hbz _ _ _⟩,GotV.down (got_laid hgt.out (by have h1:=he4.size;simp at h1;omega) _ _ _) hE4.size,⟨⟨_,_,_,rfl⟩,_,_,_,rfl⟩,((hE5.setCell (by exact Nat.le_refl _) _).setCell (by exact Nat.le_refl _) _).setCell (by exact Nat.le_refl _) _⟩
 case rest =>
  obtain ⟨g,t,vb,vi,rfl,rfl,rfl,hbg,hgt,⟨⟨A1,n1,c1,rfl⟩,A2,n2,c2,rfl⟩,hEc⟩:=hcut;have hbx:=hbg.out.2.2;have p0:_=some (Value.int .i64 Y.v.num):=hbx.cell 0
  have p1:_=some (Value.slice A1 n1 c1):=hbx.cell 1
  have p2:_=some (Value.slice A2 n2 c2):=hbx.cell 2
  have hbq:=HB2.out.ext hEc;have f1:=hbq.cell;have f2:=hbq.free;have hs0':=HS0.out
  by_cases hc:Y.code=0
  ·have hci:((Y.code:Int)==0)=true:=by simp [hc]
   by_cases hn:Y.next<b.length
   ·have hni:(Y.next:Int)<(b.length:Int):=by omega
    have hq:=HRR.out;rw [if_pos ⟨hc,hn⟩] at hq;subst hq;have hput:=lhd ((e0.trans hEc).grown (grown_put3 _ (w.heap.size+1) 0 t0) (fun g hg=>by injection hg with hg;omega));clear HRR hc hn hbx SY;go_wp2;exact bodyPost_ret (v:=badRes Y.next 7) (by simp [results,Tryz.results18,go_sem,f1,f2,badRes,zeroV]) rfl (RdOut.bad hput.out)
   ·have hni:¬ (Y.next:Int)<(b.length:Int):=by omega
    have hq:=HRR.out;rw [if_neg (fun h=>hn h.2)] at hq;subst hq;clear HRR hbx SY;have hG:=val_out3 (w:=w) (g:=w.heap.size+1) (by omega) (e0.trans hEc) (hgt.out.down (by omega)) (fun u hu g hg=>by have:=(hgt.out.own.block u hu g hg).1;omega) (.int .i64 Y.v.num) (.slice A1 n1 c1) (.slice A2 n2 c2);have HG:=lhd hG;clear hG;go_wp2;exact bodyPost_ret (v:=.tuple #[.agg #[.int .i64 Y.v.num,.slice A1 n1 c1,.slice A2 n2 c2],.int .i64 (Y.next:Int),.int .i64 (Y.code:Int)]) (by first | (simp [results,Tryz.results18,go_sem,p0,p1,p2,f1,f2];done) | (simp [results,Tryz.results18,go_sem,p0,p1,p2,f1,f2];omega)) rfl ⟨t,by unfold rrVal vval;rw [hbg.out.1,hbg.out.2.1],HG.out.1,HG.out.2⟩
  ·have hci:((Y.code:Int)==0)=false:=by simp [hc]
   have hq:=HRR.out;rw [if_neg (fun h=>hc h.1)] at hq;subst hq;clear HRR hbx SY;have hG:=val_out3 (w:=w) (g:=w.heap.size+1) (by omega) (e0.trans hEc) (hgt.out.down (by omega)) (fun u hu g hg=>by have:=(hgt.out.own.block u hu g hg).1;omega) (.int .i64 Y.v.num) (.slice A1 n1 c1) (.slice A2 n2 c2);have HG:=lhd hG;clear hG;go_wp2;exact bodyPost_ret (v:=.tuple #[.agg #[.int .i64 Y.v.num,.slice A1 n1 c1,.slice A2 n2 c2],.int .i64 (Y.next:Int),.int .i64 (Y.code:Int)]) (by first | (simp [results,Tryz.results18,go_sem,p0,p1,p2,f1,f2];done) | (simp [results,Tryz.results18,go_sem,p0,p1,p2,f1,f2];omega)) rfl ⟨t,by unfold rrVal vval;rw [hbg.out.1,hbg.out.2.1],HG.out.1,HG.out.2⟩
theorem itemsF_v (rd:Nat→Nat→RR) (r:DRule) (n:Int):∀ (m k a:Nat) (acc:List DVal),∃ l,(itemsF rd r n m k a acc).v=.mk 0 [] l∧(l.length=acc.length+m∨l=[])∧((itemsF rd r n m k a acc).code≠0→l=[])
 | 0,k,a,acc=>⟨acc,rfl,.inl rfl,fun h=>absurd rfl h⟩
 | m+1,k,a,acc=>by
  rw [itemsF]
  split
  ·obtain ⟨l,h1,h2,h3⟩:=itemsF_v rd r n m (k+1) (rd (kidV r n k) a).next (acc++[(rd (kidV r n k) a).v])
   exact ⟨l,h1,by rcases h2 with h | h;exact .inl (by rw [h,List.length_append];simp;omega);exact .inr h,h3⟩
  ·exact ⟨[],rfl,.inr rfl,fun _=>rfl⟩
theorem read_items {ds:List DRule} (hok:descOk ds=true) (b:List UInt8) (i a:Nat) (hi:i<ds.length) :
 (readV ds b i a).v.items.length≤40∧(∀ k,k<(readV ds b i a).v.items.length→ItemAt ds[i] (readV ds b i a).v.num k)∧(ds[i].kind=8→0<(readV ds b i a).v.items.length→a+1≤b.length):=by
 obtain ⟨kl4,kl5,kl6,kl7,kl8,kl1,kl3⟩:=kids_len hok i hi;have hK:=ruleKind hok i hi;have hkind:=(ruleFacts hok i hi).kind;rw [readV_step hok b i a hi];generalize ds[i]=r at *
 have NONE:∀ v:DVal,v.items=[]→v.items.length≤40∧(∀ k,k<v.items.length→ItemAt r v.num k)∧(r.kind=8→0<v.items.length→a+1≤b.length):=fun v hv=>by
  rw [hv];exact ⟨by simp,fun k hk=>by simp at hk,fun _ h=>by simp at h⟩
 unfold readR
 by_cases c1:r.kind=1
 ·rw [if_pos c1];exact NONE _ (by cases intAt r b a<;>rfl)
 by_cases c2:r.kind=2
 ·rw [if_neg c1,if_pos c2];exact NONE _ (by rw [constF_v];rfl)
 by_cases c3:r.kind=3
 ·rw [if_neg c1,if_neg c2,if_pos c3];exact NONE _ (by unfold bytesF;split<;>rfl)
 by_cases c10:r.kind=10
 ·rw [if_neg c1,if_neg c2,if_neg c3,if_pos c10];exact NONE _ (by cases untilL (r.bytes.getD 0 0) (b.drop a)<;>rfl)
 by_cases c6:r.kind=6
 ·rw [if_neg c1,if_neg c2,if_neg c3,if_neg c10,if_pos c6]
  have hl:r.kids.length≤8:=by
   unfold kindOk at hK;rw [if_neg c1,if_neg c2,if_neg c3,if_neg (by omega),if_neg (by omega),if_pos c6] at hK;unfold seqOk at hK;simp only [Bool.and_eq_true,between_iff] at hK
   omega
  obtain ⟨l,h1,h2,h3⟩:=itemsF_v (readV ds b) r 0 r.kids.length 0 a [];have hn:=(kl6 c6).1;rw [h1];show l.length≤40∧(∀ k,k<l.length→ItemAt r 0 k)∧(r.kind=8→_→_)
  refine ⟨by rcases h2 with h | h;simp at h;omega;rw [h];simp,fun k hk=>?_,fun h=>by omega⟩;exact .inr (.inl ⟨c6,by rcases h2 with h | h;simp at h;omega;rw [h] at hk;simp at hk,by rcases h2 with h | h;simp at h;omega;rw [h] at hk;simp at hk⟩)
 by_cases c7:r.kind=7
 ·rw [if_neg c1,if_neg c2,if_neg c3,if_neg c10,if_neg c6,if_pos c7]
  unfold choiceF;cases intAt (ds.getD (kd r 0) noRule) b a with
  | none=>exact NONE _ rfl
  | some n =>
   dsimp only
   by_cases ht:tagN r.tags (n:Int)<r.tags.length
   ·rw [if_pos ht]
    obtain ⟨l,h1,h2,h3⟩:=itemsF_v (readV ds b) r (n:Int) 1 0 (a+(ds.getD (kd r 0) noRule).size.toNat) [];generalize itemsF (readV ds b) r (n:Int) 1 0 (a+(ds.getD (kd r 0) noRule).size.toNat) []=R1 at *;have hl7:=(kl7 c7).1
    by_cases hc:R1.code=0
    ·rw [if_pos hc]
     show R1.v.items.length≤40∧(∀ k,k<R1.v.items.length→ItemAt r (n:Int) k)∧(r.kind=8→_→_)
     rw [h1];show l.length≤40∧(∀ k,k<l.length→ItemAt r (n:Int) k)∧(r.kind=8→_→_)
     refine ⟨by rcases h2 with h | h;simp at h;omega;rw [h];simp,fun k hk=>?_,fun h=>by omega⟩;obtain rfl:k=0:=by rcases h2 with h | h;simp at h;omega;rw [h] at hk;simp at hk
     exact .inr (.inr (.inl ⟨c7,rfl,ht,by omega⟩))
    ·rw [if_neg hc]
     exact NONE _ (by rw [h1,h3 hc];rfl)
   ·rw [if_neg ht];exact NONE _ rfl
 by_cases c8:r.kind=8
 ·rw [if_neg c1,if_neg c2,if_neg c3,if_neg c10,if_neg c6,if_neg c7,if_pos c8]
  unfold optionF;cases hx:b[a]? with
  | none=>exact NONE _ rfl
  | some x =>
   have hlt:=(List.getElem?_eq_some_iff.1 hx).1;dsimp only
   by_cases hx1:1<x.toNat
   ·rw [if_pos hx1];exact NONE _ rfl
   ·rw [if_neg hx1]
    obtain ⟨l,h1,h2,h3⟩:=itemsF_v (readV ds b) r 0 x.toNat 0 (a+1) [];rw [h1];have hl:=kl8 (.inl c8);show l.length≤40∧(∀ k,k<l.length→ItemAt r 0 k)∧(r.kind=8→_→_)
    refine ⟨by rcases h2 with h | h;simp at h;omega;rw [h];simp,fun k hk=>?_,fun _ _=>by omega⟩;obtain rfl:k=0:=by rcases h2 with h | h;simp at h;omega;rw [h] at hk;simp at hk
    exact .inr (.inr (.inr ⟨.inl c8,rfl,by omega⟩))
 by_cases c9:r.kind=9
 ·rw [if_neg c1,if_neg c2,if_neg c3,if_neg c10,if_neg c6,if_neg c7,if_neg c8,if_pos c9]
  unfold checkedF;obtain ⟨l,h1,h2,h3⟩:=itemsF_v (readV ds b) r 0 1 0 a [];generalize itemsF (readV ds b) r 0 1 0 a []=R1 at *;have hl:=kl8 (.inr c9)
  have GO:∀ v:DVal,v=.mk 0 [] l→v.items.length≤40∧(∀ k,k<v.items.length→ItemAt r v.num k)∧(r.kind=8→0<v.items.length→a+1≤b.length):=fun v hv=>by
   rw [hv];show l.length≤40∧(∀ k,k<l.length→ItemAt r 0 k)∧(r.kind=8→_→_)
   refine ⟨by rcases h2 with h | h;simp at h;omega;rw [h];simp,fun k hk=>?_,fun h=>by omega⟩;obtain rfl:k=0:=by rcases h2 with h | h;simp at h;omega;rw [h] at hk;simp at hk
   exact .inr (.inr (.inr ⟨.inr c9,rfl,by omega⟩))
  by_cases hc:R1.code=0
  ·rw [if_pos hc]
   cases b[R1.next]? with
   | none=>exact NONE _ rfl
   | some x =>
    dsimp only
    split
    ·exact GO _ h1
    ·exact NONE _ rfl
  ·rw [if_neg hc];exact GO _ h1
 rw [if_neg c1,if_neg c2,if_neg c3,if_neg c10,if_neg c6,if_neg c7,if_neg c8,if_neg c9];cases intAt (ds.getD (kd r 0) noRule) b a with
 | none=>exact NONE _ rfl
 | some n =>
  dsimp only
  by_cases c4:r.kind=4
  ·rw [if_pos c4];exact NONE _ (by unfold bytesF;split<;>rfl)
  rw [if_neg c4]
  by_cases h40:40<n
  ·rw [if_pos h40];exact NONE _ rfl
  ·rw [if_neg h40]
   obtain ⟨l,h1,h2,h3⟩:=itemsF_v (readV ds b) r 0 n 0 (a+(ds.getD (kd r 0) noRule).size.toNat) [];rw [h1];have hl5:=(kl5 (by omega)).1;show l.length≤40∧(∀ k,k<l.length→ItemAt r 0 k)∧(r.kind=8→_→_)
   exact ⟨by rcases h2 with h | h;simp at h;omega;rw [h];simp,fun k hk=>.inl ⟨by omega,by omega⟩,fun h=>by omega⟩
theorem RdOut.shapeN {R:RR} {w w':World} {e:Ending} (h:RdOut R w e w'):∃ (A1:Option Addr) (n1 c1:Nat) (A2:Option Addr) (c2:Nat),e=.returned (.tuple #[.agg #[.int .i64 R.v.num,.slice A1 n1 c1,.slice A2 R.v.items.length c2],.int .i64 (R.next:Int),.int .i64 (R.code:Int)])∧Ext w w':=by
 obtain ⟨t,he,hg,hx⟩:=h;obtain ⟨A1,c1,h1⟩:=Own.shape (show Own _ 1 w w' t.vb t.bs.length _ from hg.own.b);obtain ⟨A2,c2,h2⟩:=Own.shape hg.own.i;refine ⟨A1,t.bs.length,c1,A2,c2,?_,hx⟩
 have:R.v.items.length=t.its.length:=by rw [← hg.val,VT.val_items,valsOf_len]
 rw [he];unfold rrVal vval;rw [h1,h2,this]
theorem E_ent:Elem Tryz.prog 57 61 4 40 (.agg #[.string ⟨#[]⟩,.int .i64 0,.int .i64 0,.int .i64 0]):=⟨Tryz.underlying57,by kernel_rfl,rfl,by omega⟩
theorem Own.one4 {e:TypeId} {w0 w:World} (he:Ext w0 w) (a b c d:Value):Own e 4 w0 (w.alloc (.cells #[a,b,c,d] e)) (.slice (some ⟨w.heap.size,0,none⟩) 1 1) 1 [a,b,c,d] :=
 ⟨rfl,.inr ⟨w.heap.size,1,_,rfl,he.size,heap_alloc_new w _,Nat.le_refl _,by simp [maxLen],rfl,rfl⟩⟩
theorem Own.ptr {e:TypeId} {size:Nat} {w0 w:World} {v:Value} {n:Nat} {xs:List Value} (h:Own e size w0 w v n xs) (hn:0<n):∃ g c,v=.slice (some ⟨g,0,none⟩) n c:=by
 rcases h.2 with ⟨_,h0⟩ | ⟨g,cap,cur,hv,_⟩
 ·omega
 ·exact ⟨g,cap,hv⟩
theorem Own.srcA {e:TypeId} {size:Nat} {w0 w:World} {g n c:Nat} {xs:List Value} (h:Own e size w0 w (.slice (some ⟨g,0,none⟩) n c) n xs):∀ j u,xs[j]?=some u→w.cell? ((⟨g,0,none⟩:Addr).add j)=some u:=by
 rcases h.2 with ⟨hv,_⟩ | ⟨g',cap,cur,hv,hb,hg,hnc,hcm,hcs,htake⟩
 ·cases hv
 ·injection hv with h1 _ _
  injection h1 with h1
  injection h1 with h1 _
  subst h1;intro j u hu;have hadd:(⟨g,0,none⟩:Addr).add j=⟨g,j,none⟩:=by unfold Addr.add;split<;>simp_all
  have hj:j<n*size:=by
   rcases Nat.lt_or_ge j xs.length with h' | h'
   ·rwa [h.1] at h'
   ·rw [List.getElem?_eq_none h'] at hu;cases hu
  rw [hadd,cell_of_row w g j cur _ (0,0) hg,← hu,← htake,List.getElem?_take,if_pos hj];simp
def BOut (b:List UInt8) (B:Nat) (w:World) (e:Ending) (w':World):Prop:=∃ (g n c z:Nat) (xs:List Value),e=.returned (.tuple #[.slice (some ⟨g,0,none⟩) n c,.int .i64 (z:Int)])∧Hid (Own 61 4 w w' (.slice (some ⟨g,0,none⟩) n c) n xs∧∀ u∈xs,u.oneCell'=true)∧1≤n∧n≤B∧z≤b.length∧Ext w w'
def sBuildOk (A:Option Addr) (ds:List DRule) (c:Nat) (Ab:Option Addr) (b:List UInt8) (cb:Nat) (i:Nat):Prop:=∀ (a:Nat) (p:ByteArray) (w:World),a≤b.length→p.size+21*(i+1)≤1000000→RdD w A ds c→Bs w Ab b cb →
 Calls Tryz.prog 46 #[vdesc (.slice A ds.length c),.int .i64 (i:Int),.slice Ab b.length cb,.int .i64 (a:Int),.string p] w (BOut b (41^(i+1)) w)
theorem ent_bound {Z n m k q:Nat} (hk:k<q) (hq:q≤40) (hn:n≤1+k*Z) (hm:m≤Z) (hZ:Z≤4750104241):n+m≤1+(k+1)*Z∧n+m≤200000000000:=by
 have h1:k*Z≤39*Z:=Nat.mul_le_mul_right _ (by omega)
 rw [Nat.add_mul]
 omega
theorem sBuild_step (A:Option Addr) (ds:List DRule) (c:Nat) (hok:descOk ds=true) (h7l:ds.length≤7) (i:Nat) (hi:i<ds.length) (Ab:Option Addr) (b:List UInt8) (cb:Nat) (HR:∀ j,j<i→sBuildOk A ds c Ab b cb j):sBuildOk A ds c Ab b cb i:=by
 intro a p w ha hp hd hb;have hl:=hd.len;have hbl:=hb.len;obtain ⟨bR,oR,Rb,rb,Rn,rn,Rt,rt,Rk,rk,hA,hbR,hS,hRR⟩:=hd.at i hi;obtain ⟨r0,r1,r2,r3,r4,r5,r6,r7⟩:=hRR;subst hA;have hii:(i:Int)<(ds.length:Int):=by omega
 have hi0:(0:Int)≤(i:Int):=by omega
 obtain ⟨i40,iat,i8⟩:=read_items hok b i a hi;have hnx:(readV ds b i a).next≤b.length:=readV_next ha
 have CR:=lhd (fun w' (e:Ext w w')=>(sRead_all (some ⟨bR,oR,none⟩) ds c hok Ab b cb i hi a w' ha (hd.ext e) (hb.ext e)).mono fun _ _ h=>RdOut.shapeN h);have H7:ds[i].kind=7→ds[i].kids.length=ds[i].tags.length+1:=fun h=>((kids_len hok i hi).2.2.2.1 h).1
 have HKN:=kd_int hok i hi
 have CI:Hid (∀ k,k<(readV ds b i a).v.items.length→∀ w',Ext w w'→Gives Tryz.prog 78 #[.agg (rcs ds[i] Rb rb Rn rn Rt rt Rk rk),.int .i64 (readV ds b i a).v.num,.int .i64 (k:Int)] w' (.int .i64 (kidV ds[i] (readV ds b i a).v.num k:Nat))):=fun k hk w' e =>
  sItemV_c ds[i] Rb rb Rn rn Rt rt Rk rk _ k w' (hS.ext e) (by omega) (iat k hk) H7 HKN
 have CS:Hid (∀ k,k<(readV ds b i a).v.items.length→∀ w',Ext w w'→Gives Tryz.prog 79 #[.agg (rcs ds[i] Rb rb Rn rn Rt rt Rk rk),.int .i64 (k:Int)] w' (.string (stepR ds[i] k))):=fun k hk w' e =>
  sStepV_c ds[i] Rb rb Rn rn Rt rt Rk rk (readV ds b i a).v.num k w' (hS.ext e) (by omega) (iat k hk)
 have HST:Hid (∀ k,k<(readV ds b i a).v.items.length→(stepR ds[i] k).size≤20):=fun k hk=>stepR_size hok i hi (iat k hk) (by omega)
 have CB:Hid (∀ k,k<(readV ds b i a).v.items.length→∀ (a':Nat) w',a'≤b.length→Ext w w'→Calls Tryz.prog 46 #[.agg #[.slice (some ⟨bR,oR,none⟩) ds.length c],.int .i64 ((kidV ds[i] (readV ds b i a).v.num k:Nat):Int),.slice Ab b.length cb,.int .i64 (a':Int),.string (p++⟨#[47]⟩++stepR ds[i] k)] w' (BOut b (41^i) w')):=fun k hk a' w' ha' e=>by
  have hlt:=kid_below hok i hi (iat k hk);have hsz:=HST.out k hk;have hps:(p++⟨#[47]⟩++stepR ds[i] k).size=p.size+1+(stepR ds[i] k).size:=by rw [ByteArray.size_append,ByteArray.size_append];rfl
  refine (HR _ hlt a' _ w' ha' (by rw [hps];omega) (hd.ext e) (hb.ext e)).mono ?_;rintro e' w'' ⟨g,n,c',z,xs,h1,h2,h3,h4,h5,h6⟩;exact ⟨g,n,c',z,xs,h1,h2,h3,Nat.le_trans h4 (Nat.pow_le_pow_right (by omega) (by omega)),h5,h6⟩
 have HZB:Hid (41^i≤4750104241∧41^(i+1)=41*41^i):=⟨Nat.le_trans (Nat.pow_le_pow_right (by omega) (show i≤6 by omega)) (by decide),by rw [Nat.pow_succ,Nat.mul_comm]⟩
 have CN:Hid (ds[i].kind=5∨ds[i].kind=7→∃ (k0:Nat) (O:Option Nat) (sz:Nat),(∀ n,O=some n→a+sz≤b.length)∧0<ds[i].kids.length∧(∃ bk ok,Rk=some ⟨bk,ok,none⟩∧∀ w',Ext w w'→w'.cell? ⟨bk,ok,none⟩=some (.int .i64 (k0:Int)))∧∀ w',Ext w w'→Gives Tryz.prog 77 #[.agg #[.slice (some ⟨bR,oR,none⟩) ds.length c],.int .i64 ((k0:Nat):Int),.slice Ab b.length cb,.int .i64 (a:Int)] w' (intRes O a (a+sz))):=fun hk=>by
  obtain ⟨g0,g1,gk,g2,g3,g4,_⟩:=kid0 hok i hi (by omega);obtain ⟨bk,ok,hRk,_,hck⟩:=hS.k.at 0 gk;rw [HKN 0 gk] at hck;exact ⟨kd ds[i] 0,intAt ds[kd ds[i] 0] b a,ds[kd ds[i] 0].size.toNat,fun n h=>intAt_le ha h,gk,⟨bk,ok,hRk,fun w' e=>by have:=hck w' e;simpa [vint] using this⟩,fun w' e=>sInteger_c (some ⟨bR,oR,none⟩) ds c (kd ds[i] 0) g0 ⟨g3,g4⟩ Ab b cb a ha w' (hd.ext e) (hb.ext e)⟩
 have hpsz:p.size≤1000000:=by omega
 have hZ1:Hid (1≤41^i):=Nat.pow_pos (by omega)
 clear hd hb HR H7 HKN iat hp;generalize readV ds b i a=X at *;generalize 41^i=Z at *;generalize ds[i]=r at *;generalize hm:X.v.items.length=m at *;clear hS hm;obtain ⟨W0,HW0,B1,B2,e0,hs0⟩:=boxes2' w #[.slice (some ⟨bR,oR,none⟩) ds.length c] (rcs r Rb rb Rn rn Rt rt Rk rk) 26 96;have f0:∀ w',Ext w w'→_:=fun w' e=>r0 w' e
 have d0:∀ w',Ext W0 w'→w'.cell? ⟨w.heap.size,0,none⟩=some (Value.slice (some ⟨bR,oR,none⟩) ds.length c):=B1.at 0
 have k0:∀ w',Ext W0 w'→_=some (Value.string r.nm):=B2.at 0
 have k1:∀ w',Ext W0 w'→_=some (Value.int .i64 r.kind):=B2.at 1
 have k2:∀ w',Ext W0 w'→_=some (Value.int .i64 r.size):=B2.at 2
 have k3:∀ w',Ext W0 w'→_=some (Value.bool r.little):=B2.at 3
 have k4:∀ w',Ext W0 w'→_=some (Value.slice Rb r.bytes.length rb):=B2.at 4
 have k5:∀ w',Ext W0 w'→_=some (Value.slice Rn r.names.length rn):=B2.at 5
 have k6:∀ w',Ext W0 w'→_=some (Value.slice Rt r.tags.length rt):=B2.at 6
 have k7:∀ w',Ext W0 w'→_=some (Value.slice Rk r.kids.length rk):=B2.at 7
 have x1:=Ext_alloc (.cells #[.slice (some ⟨bR,oR,none⟩) ds.length c] 26) (Ext.refl w);have y0:=r0 _ x1;have y1:=r1 _ x1;have y2:=r2 _ x1;have y3:=r3 _ x1;have y4:=r4 _ x1;have y5:=r5 _ x1;have y6:=r6 _ x1;have y7:=r7 _ x1;have HD0:=lhd hs0;clear B1 B2 hs0 r0 r1 r2 r3 r4 r5 r6 r7 f0 x1;unfold vdesc;go_enter Tryz.func46,Tryz.ntmps46;go_wp2_with fail;rw [← HW0.out];refine (CR.out _ e0).mono ?_;rintro _ w1 ⟨A1,n1,c1,A2,c2,rfl,e1⟩;clear y0 y1 y2 y3 y4 y5 y6 y7 CR;obtain ⟨W2,HW2⟩:=nmw (w1.alloc (.cells #[.int .i64 X.v.num,.slice A1 n1 c1,.slice A2 m c2] 46));obtain ⟨W3,HW3⟩:=nmw (W2.alloc (.cells #[.string p,.int .i64 (i:Int),.int .i64 (a:Int),.int .i64 (X.next:Int)] 61));have x2:Ext w1 W2:=ka HW2
 have x3:Ext W2 W3:=ka HW3
 have BV:Box W2 w1.heap.size #[.int .i64 X.v.num,.slice A1 n1 c1,.slice A2 m c2] 46:=kb HW2
 have e02:=e1.trans x2;have HO3:Hid (Own 61 4 W2 W3 (.slice (some ⟨W2.heap.size,0,none⟩) 1 1) 1 [.string p,.int .i64 (i:Int),.int .i64 (a:Int),.int .i64 (X.next:Int)]):=by rw [HW3.out];exact Own.one4 (Ext.refl _) _ _ _ _
 have v0:∀ w',Ext W2 w'→w'.cell? ⟨w1.heap.size,0,none⟩=some (Value.int .i64 X.v.num):=BV.at 0
 have v2:∀ w',Ext W2 w'→w'.cell? ⟨w1.heap.size,2,none⟩=some (Value.slice A2 m c2):=BV.at 2
 have d0:=fun w' (e:Ext W2 w')=>d0 w' (e02.trans e)
 have k0:=fun w' (e:Ext W2 w')=>k0 w' (e02.trans e)
 have k1:=fun w' (e:Ext W2 w')=>k1 w' (e02.trans e)
 have k2:=fun w' (e:Ext W2 w')=>k2 w' (e02.trans e)
 have k3:=fun w' (e:Ext W2 w')=>k3 w' (e02.trans e)
 have k4:=fun w' (e:Ext W2 w')=>k4 w' (e02.trans e)
 have k5:=fun w' (e:Ext W2 w')=>k5 w' (e02.trans e)
 have k6:=fun w' (e:Ext W2 w')=>k6 w' (e02.trans e)
 have k7:=fun w' (e:Ext W2 w')=>k7 w' (e02.trans e)
 have E2:=lhd (e0.trans e02);have HSW:=lhd E2.out.size;have X3:=lhd x3;have hsz2:W2.heap.size=w1.heap.size+1:=by rw [HW2.out,World.size_alloc]
 have HS2:=lhd hsz2;clear BV x2 e1 e02 e0 hsz2;have kk1:=k1 _ x3;rw [HW3.out,HW2.out] at kk1;clear x3;go_upto_block 0 with (fail);rw [← HW2.out,← HW3.out];clear kk1;go_cut [17] from 17 to 66 (fun s17 wx=>∃ pos:Nat,s17=.int .i64 (pos:Int)∧(pos≤b.length∨m=0)∧Ext W3 wx)
 case first =>
  have g7:=fun w' (e:Ext W3 w')=>k7 w' (X3.out.trans e)
  have gd:=fun w' (e:Ext W3 w')=>d0 w' (X3.out.trans e)
  clear k0 k1 k2 k3 k4 k5 k6 k7 v0 v2 d0 CI CS CB;rcases (by omega:(r.kind=5∨r.kind=7)∨r.kind=8∨(r.kind≠5∧r.kind≠7∧r.kind≠8)) with h57 | h8 | ⟨n5,n7,n8⟩
  ·obtain ⟨kk,O,sz,hO,hkl,⟨bk,ok,hRk,hck⟩,CI2'⟩:=CN.out h57
   subst hRk;have CI2:=lhd CI2';have HOO:=lhd hO;have hkl0:(0:Int)<(r.kids.length:Int):=by omega
   have hck':=fun w' (e:Ext W3 w')=>hck w' ((E2.out.trans X3.out).trans e)
   clear CI2' hO hck CN;cases O with
   | none =>
    simp only [intRes] at CI2;clear HOO;rcases h57 with h | h
    ·have t5:(r.kind==5)=true:=by simp [h]
     clear h;go_wp2_with fail;refine wp_region_quiet_below (by kernel_rfl) (by kernel_rfl) ?_;repeat (go_big_quiet_step ((go_at_call 77;exact Calls.regrown_of (CI2.out _ ((E2.out.trans X3.out).trans (by first | assumption | exact Ext_regrown _ _ (Ext.refl _)))))))
     refine wpQuiet_nil (qnl ?_);intro w4 ew4;go_wp2;go_meet;exact ⟨a,rfl,.inl ha,ew4⟩
    ·have t5:(r.kind==5)=false:=by simp [h]
     have t7:(r.kind==7)=true:=by simp [h]
     clear h;go_wp2_with fail;refine wp_region_quiet_below (by kernel_rfl) (by kernel_rfl) ?_;repeat (go_big_quiet_step ((go_at_call 77;exact Calls.regrown_of (CI2.out _ ((E2.out.trans X3.out).trans (by first | assumption | exact Ext_regrown _ _ (Ext.refl _)))))))
     refine wpQuiet_nil (qnl ?_);intro w4 ew4;go_wp2;go_meet;exact ⟨a,rfl,.inl ha,ew4⟩
   | some q =>
    have hle:=HOO.out q rfl;simp only [intRes] at CI2;clear HOO;rcases h57 with h | h
    ·have t5:(r.kind==5)=true:=by simp [h]
     clear h;go_wp2_with fail;refine wp_region_quiet_below (by kernel_rfl) (by kernel_rfl) ?_;repeat (go_big_quiet_step ((go_at_call 77;exact Calls.regrown_of (CI2.out _ ((E2.out.trans X3.out).trans (by first | assumption | exact Ext_regrown _ _ (Ext.refl _)))))))
     refine wpQuiet_nil (qnl ?_);intro w4 ew4;go_wp2;go_meet;exact ⟨a+sz,rfl,.inl hle,ew4⟩
    ·have t5:(r.kind==5)=false:=by simp [h]
     have t7:(r.kind==7)=true:=by simp [h]
     clear h;go_wp2_with fail;refine wp_region_quiet_below (by kernel_rfl) (by kernel_rfl) ?_;repeat (go_big_quiet_step ((go_at_call 77;exact Calls.regrown_of (CI2.out _ ((E2.out.trans X3.out).trans (by first | assumption | exact Ext_regrown _ _ (Ext.refl _)))))))
     refine wpQuiet_nil (qnl ?_);intro w4 ew4;go_wp2;go_meet;exact ⟨a+sz,rfl,.inl hle,ew4⟩
  ·have t5:(r.kind==5)=false:=by simp [h8]
   have t7:(r.kind==7)=false:=by simp [h8]
   have t8:(r.kind==8)=true:=by simp [h8]
   have hwr:IntKind.i64.wrap ((a:Int)+1)=((a+1:Nat):Int):=by rw [IntWalk.i64_in _ (by omega)];omega
   have HI8:Hid (a+1≤b.length∨m=0):=by
    rcases Nat.eq_zero_or_pos m with h | h
    ·exact .inr h
    ·exact .inl (i8 h8 h)
   clear h8 i8;go_wp2;go_meet;exact ⟨a+1,rfl,HI8.out,Ext.refl _⟩
  ·have t5:(r.kind==5)=false:=by simp [n5]
   have t7:(r.kind==7)=false:=by simp [n7]
   have t8:(r.kind==8)=false:=by simp [n8]
   clear n5 n7 n8;go_wp2;go_meet;exact ⟨a,rfl,.inl ha,Ext.refl _⟩
 case rest =>
  obtain ⟨pos,rfl,hpos,ew⟩:=hcut;have HOC:=lhd (Own.ext HO3.out ew);rw [HS2.out] at HOC;have EC:=lhd (X3.out.trans ew);clear HO3 X3 CN HW2 HW3 ew i8;go_wp2_with fail;go_loopw [16,17,21] (fun s16 s17 s21 wr=>∃ (k pos n:Nat) (v:Value) (xs:List Value),k≤m∧s21=.int .i64 (k:Int)∧s17=.int .i64 (pos:Int)∧s16=v∧Hid (Own 61 4 W2 wr v n xs∧∀ u∈xs,u.oneCell'=true)∧1≤n∧n≤1+k*Z∧(pos≤b.length∨m=0)∧Ext W2 wr) (fun _ _ s21 _=>m-(intOf s21).toNat)
  case atStart=>exact ⟨0,pos,1,_,_,by omega,rfl,rfl,rfl,⟨HOC.out,by intro u hu;simp at hu;rcases hu with rfl | rfl | rfl | rfl<;>rfl⟩,Nat.le_refl _,by omega,hpos,EC.out⟩
  case round =>
   clear HOC EC hpos;obtain ⟨k,pos,n,v,xs,hk,rfl,rfl,rfl,hown,hn1,hnb,hpos,he⟩:=hrel
   by_cases hlt:k<m
   ·have hpos2:pos≤b.length:=by omega
    have HBD:Hid (∀ m',m'≤Z→n+m'≤1+(k+1)*Z∧n+m'≤200000000000):=fun m' h=>ent_bound hlt i40 hnb h HZB.out.1
    have CI1:=lhd (fun w' (e:Ext wr w')=>CI.out k hlt w' (E2.out.trans (he.trans e)));have CS1:=lhd (fun w' (e:Ext wr w')=>CS.out k hlt w' (E2.out.trans (he.trans e)));have CB1:=lhd (fun w' (e:Ext wr w')=>CB.out k hlt pos w' hpos2 (E2.out.trans (he.trans e)));have hst:=HST.out k hlt;generalize hQ:stepR r k=q at *;generalize hKK:kidV r X.v.num k=kk at *;clear hQ hKK CI CS CB HST;have hn1':¬ 9223372036854775807<p.size+1:=by omega
    have hn2':¬ 9223372036854775807<p.size+1+q.size:=by omega
    have hki:(k:Int)<(m:Int):=by omega
    unfold BOut at CB1;have eS:Ext wr wr.drew:=Ext_drew (Ext.refl wr)
    go_wp2_with fail;refine wp_region_HD (S:=fun w'=>Ext wr w') (ofB 20 0) (by kernel_rfl) (by kernel_rfl) ?_;generalize wr.drew=wd at *;refine tkI (i:=0) (some 75) (v:=?_) (ofB 20 1) rfl rfl eS ?_ ?_;rotate_left
    ·(intro w' hSw;have hf0:=d0 w' (he.trans hSw);clear hSw;go_simp;try with_reducible rfl)
    try simp only [Act.put,lpa,lpz,lps]
    refine tkI (i:=1) (some 76) (v:=?_) (ofB 20 3) rfl rfl eS ?_ ?_;rotate_left
    ·(intro w' hSw;have hf0:=k0 w' (he.trans hSw);have hf1:=k1 w' (he.trans hSw);have hf2:=k2 w' (he.trans hSw);have hf3:=k3 w' (he.trans hSw);have hf4:=k4 w' (he.trans hSw);have hf5:=k5 w' (he.trans hSw);have hf6:=k6 w' (he.trans hSw);have hf7:=k7 w' (he.trans hSw);clear hSw;go_simp;try with_reducible rfl)
    try simp only [Act.put,lpa,lpz,lps]
    refine tkI (i:=2) (some 77) (v:=?_) (ofB 20 7) rfl rfl eS ?_ ?_;rotate_left
    ·(intro w' hSw;clear hSw;go_simp;try with_reducible rfl)
    try simp only [Act.put,lpa,lpz,lps]
    refine tkI (i:=3) (some 78) (v:=?_) (ofB 20 15) rfl rfl eS ?_ ?_;rotate_left
    ·(intro w' hSw;have hf0:=v0 w' (he.trans hSw);clear hSw;go_simp;try with_reducible rfl)
    try simp only [Act.put,lpa,lpz,lps]
    refine tkI (i:=4) (some 79) (v:=?_) (ofB 20 31) rfl rfl eS ?_ ?_;rotate_left
    ·(intro w' hSw;clear hSw;go_simp;try with_reducible rfl)
    try simp only [Act.put,lpa,lpz,lps]
    refine tkI (i:=6) (some 81) (v:=?_) (ofB 20 95) rfl rfl eS ?_ ?_;rotate_left
    ·(intro w' hSw;clear hSw;go_simp;try with_reducible rfl)
    try simp only [Act.put,lpa,lpz,lps]
    refine tkI (i:=7) (some 82) (v:=?_) (ofB 20 223) rfl rfl eS ?_ ?_;rotate_left
    ·(intro w' hSw;clear hSw;go_simp;try with_reducible rfl)
    try simp only [Act.put,lpa,lpz,lps]
    refine tkI (i:=8) (some 83) (v:=?_) (ofB 20 479) rfl rfl eS ?_ ?_;rotate_left
    ·(intro w' hSw;clear hSw;go_simp;try with_reducible rfl)
    try simp only [Act.put,lpa,lpz,lps]
    refine tkI (i:=9) (some 84) (v:=?_) (ofB 20 991) rfl rfl eS ?_ ?_;rotate_left
    ·(intro w' hSw;clear hSw;go_simp;try with_reducible rfl)
    try simp only [Act.put,lpa,lpz,lps]
    refine tkI (i:=10) (some 85) (v:=?_) (ofB 20 2015) rfl rfl eS ?_ ?_;rotate_left
    ·(intro w' hSw;have hf0:=k0 w' (he.trans hSw);have hf1:=k1 w' (he.trans hSw);have hf2:=k2 w' (he.trans hSw);have hf3:=k3 w' (he.trans hSw);have hf4:=k4 w' (he.trans hSw);have hf5:=k5 w' (he.trans hSw);have hf6:=k6 w' (he.trans hSw);have hf7:=k7 w' (he.trans hSw);clear hSw;go_simp;try with_reducible rfl)
    try simp only [Act.put,lpa,lpz,lps]
    refine tkI (i:=11) (some 86) (v:=?_) (ofB 20 4063) rfl rfl eS ?_ ?_;rotate_left
    ·(intro w' hSw;clear hSw;go_simp;try with_reducible rfl)
    try simp only [Act.put,lpa,lpz,lps]
    refine oneH (i:=5) (some 80) (ofB 20 4095) (by kernel_rfl) rfl rfl (by kernel_rfl) (fun K hK=>?_);go_simp;go_at_call 78;refine (CI1.out _ eS).mono ?_;rintro _ w4 ⟨rfl,e4⟩;replace eS:=eS.trans e4;clear e4;refine Shut.out hK _ _ eS ?_;(try simp only [Act.put,lpa,lpz,lps]);refine oneH (i:=12) (some 87) (ofB 20 8191) (by kernel_rfl) rfl rfl (by kernel_rfl) (fun K hK=>?_);go_simp;go_at_call 79;refine (CS1.out _ eS).mono ?_;rintro _ w5 ⟨rfl,e5⟩;replace eS:=eS.trans e5;clear e5;refine Shut.out hK _ _ eS ?_;(try simp only [Act.put,lpa,lpz,lps]);refine tkI (i:=13) (some 88) (v:=?_) (ofB 20 16383) rfl rfl eS ?_ ?_;rotate_left
    ·(intro w' hSw;clear hSw;go_simp;try with_reducible rfl)
    try simp only [Act.put,lpa,lpz,lps]
    refine oneH (i:=14) (some 89) (ofB 20 32767) (by kernel_rfl) rfl rfl (by kernel_rfl) (fun K hK=>?_);have HSB:=lhd eS.size;go_simp;go_at_call 46;refine (CB1.out _ eS).mono ?_;rintro _ w6 ⟨g6,n6,c6,z6,xs6,rfl,ho6,hn6,hB6,hz6,e6⟩;replace eS:=eS.trans e6;clear e6;refine Shut.out hK _ _ eS ?_;(try simp only [Act.put,lpa,lpz,lps]);refine tkI (i:=15) (some 74) (v:=?_) (ofB 20 65535) rfl rfl eS ?_ ?_;rotate_left
    ·(intro w' hSw;clear hSw;go_simp;try with_reducible rfl)
    try simp only [Act.put,lpa,lpz,lps]
    refine tkI (i:=16) (some 90) (v:=?_) (ofB 20 131071) rfl rfl eS ?_ ?_;rotate_left
    ·(intro w' hSw;clear hSw;go_simp;try with_reducible rfl)
    try simp only [Act.put,lpa,lpz,lps]
    refine tkI (i:=17) (some 91) (v:=?_) (ofB 20 262143) rfl rfl eS ?_ ?_;rotate_left
    ·(intro w' hSw;clear hSw;go_simp;try with_reducible rfl)
    try simp only [Act.put,lpa,lpz,lps]
    refine tkI (i:=18) (some 22) (v:=?_) (ofB 20 524287) rfl rfl eS ?_ ?_;rotate_left
    ·(intro w' hSw;clear hSw;go_simp;try with_reducible rfl)
    try simp only [Act.put,lpa,lpz,lps]
    refine tkI (i:=19) (some 23) (v:=?_) (ofB 20 1048575) rfl rfl eS ?_ ?_;rotate_left
    ·(intro w' hSw;clear hSw;go_simp;try with_reducible rfl)
    try simp only [Act.put,lpa,lpz,lps]
    refine wpAnyH_done (by kernel_rfl) ?_ _;have HOW:=lhd (Own.ext hown.out.1 eS);clear CI1 CS1 CB1
    go_wp2_with (first
     | (at_builtin;refine wpList_app8 rfl (.tmp 92) (.tmp 93) _ rfl E_ent W2 w6 u16 n xs rfl HOW.out (he.trans eS).size ⟨g6,0,none⟩ n6 c6 xs6 rfl ho6.out.1.1 ho6.out.1.srcA ho6.out.2 (by have:=(HBD.out n6 hB6).2;simp only [maxLen];omega) (by have:=(HBD.out n6 hB6).2;omega) ?_;intro v9 w9 ho9 hg9 hv9))
    have E9:Ext W2 w9:=Ext.grown (he.trans eS) hg9 (fun g hg=>(World.ownsRow.lt HOW.out g hg).1)
    have HO9:Hid (Own 61 4 W2 w9 v9 (n+n6) (xs++xs6)∧∀ u∈xs++xs6,u.oneCell'=true):=⟨ho9,fun u hu=>by rcases List.mem_append.1 hu with h | h;exact hown.out.2 u h;exact ho6.out.2 u h⟩
    have hnb:=(HBD.out n6 hB6).1;clear ho9 hg9 hv9 HOW ho6;go_wp2;go_roundw
    case rel=>exact ⟨k+1,z6,n+n6,v9,xs++xs6,by omega,by go_num,rfl,rfl,HO9,by omega,hnb,.inl hz6,E9⟩
    case measure=>simp [intOf];omega
   ·have hkm:k=m:=by omega
    obtain ⟨g,c',hv⟩:=Own.ptr hown.out.1 hn1;subst hv
    have HFB:Hid (n≤41^(i+1)):=by
     have h1:=HZB.out.2;have h2:m*Z≤40*Z:=Nat.mul_le_mul_right _ i40
     subst hkm;have h3:1≤Z:=hZ1.out
     show n≤_
     rw [h1];omega
    have HFO:Hid (Own 61 4 w wr (.slice (some ⟨g,0,none⟩) n c') n xs∧∀ u∈xs,u.oneCell'=true):=⟨World.ownsRow.lower hown.out.1 HSW.out,hown.out.2⟩
    clear hown HZB;go_wp2;exact bodyPost_ret (v:=.tuple #[.slice (some ⟨g,0,none⟩) n c',.int .i64 (X.next:Int)]) (by simp [results,Tryz.results46,go_sem]) rfl ⟨g,n,c',X.next,xs,rfl,HFO,hn1,HFB.out,hnx,E2.out.trans he⟩
theorem sBuild_all (A:Option Addr) (ds:List DRule) (c:Nat) (hok:descOk ds=true) (h7l:ds.length≤7) (Ab:Option Addr) (b:List UInt8) (cb:Nat):∀ i,i<ds.length→sBuildOk A ds c Ab b cb i:=by
 intro i
 induction i using Nat.strongRecOn with
 | ind i ih=>exact fun hi=>sBuild_step A ds c hok h7l i hi Ab b cb (fun j hj=>ih j hj (by omega))
theorem RdOut_shapeNC {f:FuncId} {args:Array Value} {R:RR} {w':World} (h:Calls Tryz.prog f args w' (RdOut R w')):Calls Tryz.prog f args w' (fun e w''=>∃ (A1:Option Addr) (n1 c1:Nat) (A2:Option Addr) (c2:Nat),e=.returned (.tuple #[.agg #[.int .i64 R.v.num,.slice A1 n1 c1,.slice A2 R.v.items.length c2],.int .i64 (R.next:Int),.int .i64 (R.code:Int)])∧Ext w' w''):=h.mono fun _ _ h=>RdOut.shapeN h
theorem sIsFile_c (A:Option Addr) (ds:List DRule) (c:Nat) (Ab:Option Addr) (b:List UInt8) (cb:Nat) (w:World) (hd:RdD w A ds c) (hs:ShortD ds) (hw:WfD ds) (hb:Bs w Ab b cb):Gives Tryz.prog 45 #[vdesc (.slice A ds.length c),.slice Ab b.length cb] w (.bool (decide ((readFile ds b).code=0))):=by
 have hl:=hd.len;have hbl:=hb.len;obtain ⟨W0,hW0⟩:=nmw (w.alloc (.cells #[.slice A ds.length c] 26));have e0:Ext w W0:=ka hW0
 have BD:Box W0 w.heap.size #[.slice A ds.length c] 26:=kb hW0
 have d0:∀ w',Ext W0 w'→w'.cell? ⟨w.heap.size,0,none⟩=some (Value.slice A ds.length c):=BD.at 0
 have dd:=d0 _ (Ext.refl _);rw [hW0.out] at dd;have CR:=lhd (fun w' (e:Ext w w')=>RdOut_shapeNC (sReadFile_c A ds c Ab b cb w' (hd.ext e) hs hw (hb.ext e)))
 have HC:Hid ((((readFile ds b).code:Int)==0)=decide ((readFile ds b).code=0)):=by
  show _=_
  rw [Bool.eq_iff_iff];simp
 generalize readFile ds b=R at *;clear BD hd hs hw hb;unfold vdesc at *;go_enter Tryz.func45,Tryz.ntmps45;go_wp2_with fail;rw [← hW0.out];refine (CR.out _ e0).mono ?_;rintro _ w1 ⟨A1,n1,c1,A2,c2,rfl,e1⟩;have x1:=Ext_alloc (.cells #[.int .i64 R.v.num,.slice A1 n1 c1,.slice A2 R.v.items.length c2] 46) (Ext.refl w1);go_wp2;go_ret;exact ⟨by rw [HC.out];rfl,(e0.trans e1).trans x1⟩
theorem sCheckFile_c (A:Option Addr) (ds:List DRule) (c:Nat) (Ab:Option Addr) (b:List UInt8) (cb:Nat) (w:World) (hd:RdD w A ds c) (hs:ShortD ds) (hw:WfD ds) (hb:Bs w Ab b cb):Gives Tryz.prog 19 #[vdesc (.slice A ds.length c),.slice Ab b.length cb] w (.tuple #[.int .i64 ((readFile ds b).next:Int),.int .i64 ((readFile ds b).code:Int)]):=by
 have hl:=hd.len;have hbl:=hb.len;obtain ⟨W0,hW0⟩:=nmw (w.alloc (.cells #[.slice A ds.length c] 26));have e0:Ext w W0:=ka hW0
 have BD:Box W0 w.heap.size #[.slice A ds.length c] 26:=kb hW0
 have d0:∀ w',Ext W0 w'→w'.cell? ⟨w.heap.size,0,none⟩=some (Value.slice A ds.length c):=BD.at 0
 have dd:=d0 _ (Ext.refl _);rw [hW0.out] at dd;have CR:=lhd (fun w' (e:Ext w w')=>RdOut_shapeNC (sReadFile_c A ds c Ab b cb w' (hd.ext e) hs hw (hb.ext e)));generalize readFile ds b=R at *;clear BD hd hs hw hb;unfold vdesc at *;go_enter Tryz.func19,Tryz.ntmps19;go_wp2_with fail;rw [← hW0.out];refine (CR.out _ e0).mono ?_;rintro _ w1 ⟨A1,n1,c1,A2,c2,rfl,e1⟩;have x1:=Ext_alloc (.cells #[.int .i64 R.v.num,.slice A1 n1 c1,.slice A2 R.v.items.length c2] 46) (Ext.refl w1);go_wp2;exact bodyPost_ret (v:=.tuple #[.int .i64 (R.next:Int),.int .i64 (R.code:Int)]) (by simp [results,Tryz.results19,go_sem]) rfl ⟨rfl,(e0.trans e1).trans x1⟩
theorem sSplit0_c (w:World):Calls Tryz.prog 47 #[.string ⟨#[]⟩] w fun e w'=>∃ A,e=.returned (.tuple #[.slice A 0 0,.bool true])∧Ext w w':=by
 have x1:=Ext_alloc (.cells #[] 9) (Ext.refl w);go_enter Tryz.func47,Tryz.ntmps47;go_wp2;exact bodyPost_ret (v:=.tuple #[.slice (some ⟨w.heap.size,0,none⟩) 0 0,.bool true]) (by simp [results,Tryz.results47,go_sem]) rfl ⟨_,rfl,x1⟩
theorem sBuildIndex_c (A:Option Addr) (ds:List DRule) (c:Nat) (Ab:Option Addr) (b:List UInt8) (cb:Nat) (w:World) (hd:RdD w A ds c) (hs:ShortD ds) (hw:WfD ds) (hb:Bs w Ab b cb) (h7l:ds.length≤7):Calls Tryz.prog 22 #[vdesc (.slice A ds.length c),.slice Ab b.length cb] w fun e w'=>∃ A1 n1 c1,e=.returned (.tuple #[.slice A1 n1 c1,.bool (decide ((readFile ds b).code=0))])∧Ext w w':=by
 have hl:=hd.len;have hbl:=hb.len;obtain ⟨W0,hW0⟩:=nmw (w.alloc (.cells #[.slice A ds.length c] 26));have e0:Ext w W0:=ka hW0
 have BD:Box W0 w.heap.size #[.slice A ds.length c] 26:=kb hW0
 have d0:∀ w',Ext W0 w'→w'.cell? ⟨w.heap.size,0,none⟩=some (Value.slice A ds.length c):=BD.at 0
 have dd:=d0 _ (Ext.refl _);rw [hW0.out] at dd;have CR:=lhd (fun w' (e:Ext w w')=>sIsFile_c A ds c Ab b cb w' (hd.ext e) hs hw (hb.ext e));have CO:=lhd (fun w'=>sRoot_c A ds c w' hl)
 have HB:Hid (decide ((readFile ds b).code=0)=true→∀ w',Ext w w'→Calls Tryz.prog 46 #[vdesc (.slice A ds.length c),.int .i64 ((ds.length:Int)-1),.slice Ab b.length cb,.int .i64 0,.string ⟨#[]⟩] w' fun e w''=>∃ (g n c z:Nat),e=.returned (.tuple #[.slice (some ⟨g,0,none⟩) n c,.int .i64 (z:Int)])∧Ext w' w''):=fun h w' e=>by
  have hok:descOk ds=true:=by
   cases h':descOk ds
   ·exfalso
    have:readFile ds b=.bad 0 8:=by unfold readFile;rw [if_neg (fun hh=>by rw [hh.1] at h';cases h')]
    rw [this] at h;exact absurd h (by decide)
   ·rfl
  have h0:=(descOk_len hok).1;have h1:=sBuild_all A ds c hok h7l Ab b cb (ds.length-1) (by omega) 0 ⟨#[]⟩ w' (Nat.zero_le _) (by show 0+21*(ds.length-1+1)≤1000000;omega) (hd.ext e) (hb.ext e);rw [show ((ds.length-1:Nat):Int)=(ds.length:Int)-1 by omega] at h1;refine h1.mono ?_;rintro e' w'' ⟨g,n,c',z,xs,h2,_,_,_,_,h3⟩;exact ⟨g,n,c',z,h2,h3⟩
 generalize decide ((readFile ds b).code=0)=z at *;clear BD hd hs hw hb;unfold vdesc at *;cases z
 ·go_enter Tryz.func22,Tryz.ntmps22
  go_wp2_with fail;rw [← hW0.out];refine (CR.out _ e0).mono ?_;rintro _ w1 ⟨rfl,e1⟩;have x1:=Ext_alloc (.cells #[] 61) (Ext.refl w1);go_wp2;exact bodyPost_ret (v:=.tuple #[.slice (some ⟨w1.heap.size,0,none⟩) 0 0,.bool false]) (by simp [results,Tryz.results22,go_sem]) rfl ⟨_,_,_,rfl,(e0.trans e1).trans x1⟩
 ·have CB:=lhd (HB.out rfl)
  clear HB;go_enter Tryz.func22,Tryz.ntmps22;go_wp2_with fail;rw [← hW0.out];refine (CR.out _ e0).mono ?_;rintro _ w1 ⟨rfl,e1⟩;replace d0:=kx d0 e1;have e01:=e0.trans e1;have SY:Hid (∀ w',Ext w1 w'→Ext w1 w'∧True):=fun _ h1=>⟨h1,trivial⟩
  go_wp2_with fail;go_cut [6,7] (fun s6 s7 wx=>∃ A1 n1 c1 z,s6=.slice A1 n1 c1∧s7=.int .i64 z∧Ext w1 wx)
  case first =>
   go_region_held3 (fun w'=>Ext w1 w'∧True) (first | exact SY.out _ (Ext_drew (Ext.refl _)) | exact SY.out _ (by assumption)) (first
    | (go_at_call 40;have hq:=‹Ext w1 _∧True›;refine (CO.out _).mono ?_;rintro _ w4 ⟨rfl,he4⟩;have hE4:=hq.1.trans he4)
    | (go_at_call 46;have hq:=‹Ext w1 _∧True›;refine (CB.out _ (e01.trans hq.1)).mono ?_;rintro _ w5 ⟨g,n,c5,z,rfl,he5⟩;have hE5:=hq.1.trans he5))
   all_goals
    go_wp2_with fail;go_meet;exact ⟨_,_,_,_,rfl,rfl,hE5⟩
  case rest =>
   obtain ⟨A1,n1,c1,z,rfl,rfl,ew⟩:=hcut;go_wp2;exact bodyPost_ret (v:=.tuple #[.slice A1 n1 c1,.bool true]) (by simp [results,Tryz.results22,go_sem]) rfl ⟨_,_,_,rfl,e01.trans ew⟩
def LOut (R:RR) (w:World) (e:Ending) (w':World):Prop:=∃ (s:ByteArray) (r st z:Int),e=.returned (.tuple #[.agg #[.string s,.int .i64 r,.int .i64 st,.int .i64 z],.bool (decide (R.code=0))])∧(R.code=0→z=(R.next:Int))∧Ext w w'
theorem sLocate0_c (A:Option Addr) (ds:List DRule) (c:Nat) (Ab:Option Addr) (b:List UInt8) (cb:Nat) (w:World) (hd:RdD w A ds c) (hs:ShortD ds) (hw:WfD ds) (hb:Bs w Ab b cb):Calls Tryz.prog 23 #[vdesc (.slice A ds.length c),.slice Ab b.length cb,.string ⟨#[]⟩] w (LOut (readRoot ds b) w):=by
 have hl:=hd.len;have hbl:=hb.len;obtain ⟨W0,hW0,BD,BE,e0,hsz⟩:=boxes2' w #[.slice A ds.length c] #[.string ⟨#[]⟩,.int .i64 0,.int .i64 0,.int .i64 0] 26 61;have d0:∀ w',Ext W0 w'→w'.cell? ⟨w.heap.size,0,none⟩=some (Value.slice A ds.length c):=BD.at 0
 have HBE:=lhd BE;have CS:=lhd (fun w'=>sSplit0_c w');have CV:=lhd (fun w' (e:Ext w w')=>sValidDesc_c A ds c w' (hd.ext e) hs hw);have CO:=lhd (fun w'=>sRoot_c A ds c w' hl)
 have CR:Hid (descOk ds=true→∀ w',Ext w w'→Calls Tryz.prog 49 #[.agg #[.slice A ds.length c],.int .i64 ((ds.length:Int)-1),.slice Ab b.length cb,.int .i64 0] w' fun e w''=>∃ (A1:Option Addr) (n1 c1:Nat) (A2:Option Addr) (c2:Nat),e=.returned (.tuple #[.agg #[.int .i64 (readV ds b (ds.length-1) 0).v.num,.slice A1 n1 c1,.slice A2 (readV ds b (ds.length-1) 0).v.items.length c2],.int .i64 ((readV ds b (ds.length-1) 0).next:Int),.int .i64 ((readV ds b (ds.length-1) 0).code:Int)])∧Ext w' w''):=fun hok w' e=>by
  have h0:=(descOk_len hok).1;have h1:=sRead_all A ds c hok Ab b cb (ds.length-1) (by omega) 0 w' (by omega) (hd.ext e) (hb.ext e);rw [show ((ds.length-1:Nat):Int)=(ds.length:Int)-1 by omega] at h1;exact RdOut_shapeNC h1
 clear BD BE hd hs hw hb;unfold LOut;unfold readRoot;unfold vdesc at *;cases hok:descOk ds
 ·rw [if_neg (by simp)]
  rw [hok] at CV;clear CR;go_enter Tryz.func23,Tryz.ntmps23;go_wp2_with fail;rw [← hW0.out];refine (CS.out _).mono ?_;rintro _ w1 ⟨A1,rfl,e1⟩;replace d0:=kx d0 e1;go_wp2_with fail;refine (CV.out _ (e0.trans e1)).mono ?_;rintro _ w2 ⟨rfl,e2⟩;have be:=HBE.out.ext (e1.trans e2);have t2:=be.cell;have tf:=be.free;have hput:Hid (Ext w ((((w2.setCell ⟨w.heap.size+1,0,none⟩ (.string ⟨#[]⟩)).setCell ⟨w.heap.size+1,1,none⟩ (.int .i64 0)).setCell ⟨w.heap.size+1,2,none⟩ (.int .i64 0)).setCell ⟨w.heap.size+1,3,none⟩ (.int .i64 0))):=(((((e0.trans e1).trans e2).setCell (p:=⟨w.heap.size+1,0,none⟩) (by show w.heap.size≤w.heap.size+1;omega) _).setCell (p:=⟨w.heap.size+1,1,none⟩) (by show w.heap.size≤w.heap.size+1;omega) _).setCell (p:=⟨w.heap.size+1,2,none⟩) (by show w.heap.size≤w.heap.size+1;omega) _).setCell (p:=⟨w.heap.size+1,3,none⟩) (by show w.heap.size≤w.heap.size+1;omega) _
  go_wp2;exact bodyPost_ret (v:=.tuple #[.agg #[.string ⟨#[]⟩,.int .i64 0,.int .i64 0,.int .i64 0],.bool false]) (by simp [results,Tryz.results23,go_sem,t2,tf]) rfl ⟨_,_,_,_,rfl,fun h=>(by cases h),hput.out⟩
 ·rw [hok] at CV
  have CR1:=lhd (CR.out hok);clear CR;generalize readV ds b (ds.length-1) 0=Y at *
  by_cases h4:b.length≤400
  rotate_left
  ·rw [if_neg (fun h=>h4 h.2)]
   have h4i:(400:Int)<(b.length:Int):=by omega
   go_enter Tryz.func23,Tryz.ntmps23;go_wp2_with fail;rw [← hW0.out];refine (CS.out _).mono ?_;rintro _ w1 ⟨A1,rfl,e1⟩;replace d0:=kx d0 e1;go_wp2_with fail;refine (CV.out _ (e0.trans e1)).mono ?_;rintro _ w2 ⟨rfl,e2⟩;have be:=HBE.out.ext (e1.trans e2);have t2:=be.cell;have tf:=be.free;have hput:Hid (Ext w ((((w2.setCell ⟨w.heap.size+1,0,none⟩ (.string ⟨#[]⟩)).setCell ⟨w.heap.size+1,1,none⟩ (.int .i64 0)).setCell ⟨w.heap.size+1,2,none⟩ (.int .i64 0)).setCell ⟨w.heap.size+1,3,none⟩ (.int .i64 0))):=(((((e0.trans e1).trans e2).setCell (p:=⟨w.heap.size+1,0,none⟩) (by show w.heap.size≤w.heap.size+1;omega) _).setCell (p:=⟨w.heap.size+1,1,none⟩) (by show w.heap.size≤w.heap.size+1;omega) _).setCell (p:=⟨w.heap.size+1,2,none⟩) (by show w.heap.size≤w.heap.size+1;omega) _).setCell (p:=⟨w.heap.size+1,3,none⟩) (by show w.heap.size≤w.heap.size+1;omega) _
   go_wp2;exact bodyPost_ret (v:=.tuple #[.agg #[.string ⟨#[]⟩,.int .i64 0,.int .i64 0,.int .i64 0],.bool false]) (by simp [results,Tryz.results23,go_sem,t2,tf]) rfl ⟨_,_,_,_,rfl,fun h=>(by cases h),hput.out⟩
  rw [if_pos ⟨rfl,h4⟩];have h4i:¬ (400:Int)<(b.length:Int):=by omega
  have HYC:Hid (((Y.code:Int) !=0)=!decide (Y.code=0)):=by
   show _=_
   by_cases h:Y.code=0
   ·simp [h]
   ·simp [h]
  go_enter Tryz.func23,Tryz.ntmps23;go_wp2_with fail;rw [← hW0.out];refine (CS.out _).mono ?_;rintro _ w1 ⟨A1,rfl,e1⟩;replace d0:=kx d0 e1;go_wp2_with fail;refine (CV.out _ (e0.trans e1)).mono ?_;rintro _ w2 ⟨rfl,e2⟩;replace d0:=kx d0 e2;go_wp2_with fail;refine (CO.out _).mono ?_;rintro _ w3 ⟨rfl,e3⟩;replace d0:=kx d0 e3;have E3:=((e0.trans e1).trans e2).trans e3;have X3:=(e1.trans e2).trans e3;clear e0 e1 e2 e3 CS CV CO;go_wp2_with fail;go_loopw [10,11,12] (fun s10 s11 q wr=>s10=.int .i64 ((ds.length:Int)-1)∧s11=.int .i64 0∧q=.int .i64 0∧Ext w3 wr) (fun _ _ _ _=>0)
  case atStart=>exact ⟨rfl,rfl,rfl,Ext.refl _⟩
  case round =>
   obtain ⟨rfl,rfl,rfl,he⟩:=hrel;go_wp2_with fail;refine (CR1.out _ (E3.trans he)).mono ?_;rintro _ w5 ⟨B1,n1,c1,B2,c2,rfl,e5⟩;have X5:=(X3.trans he).trans e5;have E5:=(E3.trans he).trans e5;have x6:=Ext_alloc (.cells #[.int .i64 Y.v.num,.slice B1 n1 c1,.slice B2 Y.v.items.length c2] 46) (Ext.refl w5);have be:=HBE.out.ext (X5.trans x6);have t2:=be.cell;have tf:=be.free;have hput:Hid (∀ u0 u1 u2 u3:Value,Ext w (((((w5.alloc (.cells #[.int .i64 Y.v.num,.slice B1 n1 c1,.slice B2 Y.v.items.length c2] 46)).setCell ⟨w.heap.size+1,0,none⟩ u0).setCell ⟨w.heap.size+1,1,none⟩ u1).setCell ⟨w.heap.size+1,2,none⟩ u2).setCell ⟨w.heap.size+1,3,none⟩ u3)):=fun u0 u1 u2 u3=>((((E5.trans x6).setCell (p:=⟨w.heap.size+1,0,none⟩) (by show w.heap.size≤w.heap.size+1;omega) _).setCell (p:=⟨w.heap.size+1,1,none⟩) (by show w.heap.size≤w.heap.size+1;omega) _).setCell (p:=⟨w.heap.size+1,2,none⟩) (by show w.heap.size≤w.heap.size+1;omega) _).setCell (p:=⟨w.heap.size+1,3,none⟩) (by show w.heap.size≤w.heap.size+1;omega) _
   by_cases hc:Y.code=0
   ·have hci:((Y.code:Int) !=0)=false:=by simp [hc]
    have HC:=lhd hc;clear hc HYC;go_wp2;exact bodyPost_ret (v:=.tuple #[.agg #[.string ⟨#[]⟩,.int .i64 ((ds.length:Int)-1),.int .i64 0,.int .i64 (Y.next:Int)],.bool true]) (by simp [results,Tryz.results23,go_sem,t2,tf]) rfl ⟨_,_,_,_,by rw [HC.out];rfl,fun _=>rfl,hput.out _ _ _ _⟩
   ·have hci:((Y.code:Int) !=0)=true:=by simp [hc]
    have HC:=lhd hc;clear hc HYC;go_wp2;exact bodyPost_ret (v:=.tuple #[.agg #[.string ⟨#[]⟩,.int .i64 0,.int .i64 0,.int .i64 0],.bool false]) (by simp [results,Tryz.results23,go_sem,t2,tf]) rfl ⟨_,_,_,_,by rw [decide_eq_false HC.out],fun h=>absurd h HC.out,hput.out _ _ _ _⟩
theorem ofN_get:∀ (s n k:Nat) (h:k<s),(ofN s n)[k]'(by rw [ofN_len];exact h)=UInt8.ofNat (n / 256^(s-1-k))
 | s+1,n,k,h=>by
  by_cases hk:k<s
  ·have e:(ofN (s+1) n)[k]'(by rw [ofN_len];exact h)=(ofN s (n / 256))[k]'(by rw [ofN_len];exact hk):=by
    simp only [ofN];rw [List.getElem_append_left]
   rw [e,ofN_get s (n / 256) k hk,Nat.div_div_eq_div_mul]
   congr 2
   rw [show s+1-1-k=(s-1-k)+1 by omega,Nat.pow_succ,Nat.mul_comm]
  ·obtain rfl:k=s:=by omega
   have e:(ofN (k+1) n)[k]'(by rw [ofN_len];exact h)=UInt8.ofNat n:=by
    simp only [ofN];rw [List.getElem_append_right (by rw [ofN_len];omega)];simp [ofN_len]
   rw [e];simp
theorem ofN_take (s n k:Nat) (h:k<s):(ofN s n).take (k+1)=(ofN s n).take k++[UInt8.ofNat (n / 256^(s-1-k))]:=by
 rw [List.take_succ_eq_append_getElem (by rw [ofN_len];exact h),ofN_get s n k h]
theorem sBig1_c (n:Nat) (hn:n<256) (w:World) :
 Calls Tryz.prog 185 #[.int .i64 (n:Int),.int .i64 1] w fun e w'=>∃ v,e=.returned v∧OwnL vu8 5 w w' v (ofN 1 n)∧Ext w w':=by
 have CP:=lhd (fun w=>l2PowerN_c 1 w (by omega) (by omega));have hx1:=Ext_alloc (.cells #[] 5) (Ext.refl w);have ho1:=OwnL.empty (f:=vu8) (e:=5) (Ext.refl w);have hni:(n:Int)≤255:=by omega
 have HX:∀ (m:Nat) (x:Int),x=((m%256:Nat):Int)→Hid (#[Value.int .u8 x]=([UInt8.ofNat m].map vu8).toArray):=by
  intro m x hx;show _=_
  have:(UInt8.ofNat m).toNat=m%256:=by rw [UInt8.toNat_ofNat']
  simp [vu8,this,hx]
 have HB:∀ k (x:UInt8),Hid ((((ofN 1 n).take k).length+[x].length)*1≤140737488355328):=by intro k x;show _≤_;have:=List.length_take_le' k (ofN 1 n);rw [ofN_len] at this;simp at this ⊢;omega
 have T0:Hid ((ofN 1 n).take 1=(ofN 1 n).take 0++[UInt8.ofNat (n / 1)]):=ofN_take 1 n 0 (by omega)
 have TT:Hid ((ofN 1 n).take 1=ofN 1 n):=by show _=_;rw [List.take_of_length_le (by rw [ofN_len];omega)]
 go_enter Tryz.func185,Tryz.ntmps185
 go_wp2_with (first
  | (go_at_call 159;refine (CP.out _).mono ?_;rintro _ w2 ⟨rfl,he2⟩)
  | (go_at_call 71;refine (l1In_c _ _ _ _).mono ?_;rintro _ w1 ⟨rfl,he1⟩))
 have he4:=(‹Ext (w.alloc (.cells #[] 5)) _›.trans he2).trans he1;go_loopw [5,6] (fun t i wr=>∃ k:Nat,k≤1∧i=.int .i64 (0-k)∧Hid (OwnL vu8 5 w wr t ((ofN 1 n).take k))∧Ext w wr) (fun _ i _=>(intOf i+1).toNat)
 case atStart=>exact ⟨0,by omega,rfl,ho1.ext he4,hx1.trans he4⟩
 case round =>
  clear he4 he1 he2 ho1 hx1;obtain ⟨k,hk,rfl,ho,he⟩:=hrel;rcases (by omega:k=0∨k=1) with rfl | rfl
  ·go_wp2_with (first
    | (at_builtin;go_must (refine wpList_appN rfl (.tmp 26) (.tmp 32) _ rfl E_u8 (by omega) w _ vu8 (fun _=>rfl) _ rfl _ _ rfl ((ofN 1 n).take 0) [UInt8.ofNat (n / 1)] _ (HX (n / 1) _ (by omega)).out ho.out he rfl (HB _ _).out ?_);intro v1 w1 ho1 he1;rw [← T0.out] at ho1))
   have HO:=lhd ho1;go_roundw
   case rel=>exact ⟨1,by omega,rfl,HO,he1⟩
   case measure=>simp [intOf]
  ·go_wp2
   go_ret;have h1:=ho.out;rw [TT.out] at h1;exact ⟨_,rfl,h1,he⟩
theorem sBig2_c (n:Nat) (hn:n<65536) (w:World) :
 Calls Tryz.prog 185 #[.int .i64 (n:Int),.int .i64 2] w fun e w'=>∃ v,e=.returned v∧OwnL vu8 5 w w' v (ofN 2 n)∧Ext w w':=by
 have CP:=lhd (fun w=>l2PowerN_c 2 w (by omega) (by omega));have hx1:=Ext_alloc (.cells #[] 5) (Ext.refl w);have ho1:=OwnL.empty (f:=vu8) (e:=5) (Ext.refl w);have hni:(n:Int)≤65535:=by omega
 have HX:∀ (m:Nat) (x:Int),x=((m%256:Nat):Int)→Hid (#[Value.int .u8 x]=([UInt8.ofNat m].map vu8).toArray):=by
  intro m x hx;show _=_
  have:(UInt8.ofNat m).toNat=m%256:=by rw [UInt8.toNat_ofNat']
  simp [vu8,this,hx]
 have HB:∀ k (x:UInt8),Hid ((((ofN 2 n).take k).length+[x].length)*1≤140737488355328):=by intro k x;show _≤_;have:=List.length_take_le' k (ofN 2 n);rw [ofN_len] at this;simp at this ⊢;omega
 have T0:Hid ((ofN 2 n).take 1=(ofN 2 n).take 0++[UInt8.ofNat (n / 256)]):=ofN_take 2 n 0 (by omega)
 have T1:Hid ((ofN 2 n).take 2=(ofN 2 n).take 1++[UInt8.ofNat (n / 1)]):=ofN_take 2 n 1 (by omega)
 have TT:Hid ((ofN 2 n).take 2=ofN 2 n):=by show _=_;rw [List.take_of_length_le (by rw [ofN_len];omega)]
 go_enter Tryz.func185,Tryz.ntmps185
 go_wp2_with (first
  | (go_at_call 159;refine (CP.out _).mono ?_;rintro _ w2 ⟨rfl,he2⟩)
  | (go_at_call 71;refine (l1In_c _ _ _ _).mono ?_;rintro _ w1 ⟨rfl,he1⟩))
 have he4:=(‹Ext (w.alloc (.cells #[] 5)) _›.trans he2).trans he1;go_loopw [5,6] (fun t i wr=>∃ k:Nat,k≤2∧i=.int .i64 (1-k)∧Hid (OwnL vu8 5 w wr t ((ofN 2 n).take k))∧Ext w wr) (fun _ i _=>(intOf i+1).toNat)
 case atStart=>exact ⟨0,by omega,rfl,ho1.ext he4,hx1.trans he4⟩
 case round =>
  clear he4 he1 he2 ho1 hx1;obtain ⟨k,hk,rfl,ho,he⟩:=hrel;rcases (by omega:k=0∨k=1∨k=2) with rfl | rfl | rfl
  ·go_wp2_with (first
    | (at_builtin;go_must (refine wpList_appN rfl (.tmp 26) (.tmp 32) _ rfl E_u8 (by omega) w _ vu8 (fun _=>rfl) _ rfl _ _ rfl ((ofN 2 n).take 0) [UInt8.ofNat (n / 256)] _ (HX (n / 256) _ (by omega)).out ho.out he rfl (HB _ _).out ?_);intro v1 w1 ho1 he1;rw [← T0.out] at ho1))
   have HO:=lhd ho1;go_roundw
   case rel=>exact ⟨1,by omega,rfl,HO,he1⟩
   case measure=>simp [intOf]
  ·go_wp2_with (first
    | (at_builtin;go_must (refine wpList_appN rfl (.tmp 26) (.tmp 32) _ rfl E_u8 (by omega) w _ vu8 (fun _=>rfl) _ rfl _ _ rfl ((ofN 2 n).take 1) [UInt8.ofNat (n / 1)] _ (HX (n / 1) _ (by omega)).out ho.out he rfl (HB _ _).out ?_);intro v1 w1 ho1 he1;rw [← T1.out] at ho1))
   have HO:=lhd ho1;go_roundw
   case rel=>exact ⟨2,by omega,rfl,HO,he1⟩
   case measure=>simp [intOf]
  ·go_wp2
   go_ret;have h1:=ho.out;rw [TT.out] at h1;exact ⟨_,rfl,h1,he⟩
theorem sBig3_c (n:Nat) (hn:n<16777216) (w:World) :
 Calls Tryz.prog 185 #[.int .i64 (n:Int),.int .i64 3] w fun e w'=>∃ v,e=.returned v∧OwnL vu8 5 w w' v (ofN 3 n)∧Ext w w':=by
 have CP:=lhd (fun w=>l2PowerN_c 3 w (by omega) (by omega));have hx1:=Ext_alloc (.cells #[] 5) (Ext.refl w);have ho1:=OwnL.empty (f:=vu8) (e:=5) (Ext.refl w);have hni:(n:Int)≤16777215:=by omega
 have HX:∀ (m:Nat) (x:Int),x=((m%256:Nat):Int)→Hid (#[Value.int .u8 x]=([UInt8.ofNat m].map vu8).toArray):=by
  intro m x hx;show _=_
  have:(UInt8.ofNat m).toNat=m%256:=by rw [UInt8.toNat_ofNat']
  simp [vu8,this,hx]
 have HB:∀ k (x:UInt8),Hid ((((ofN 3 n).take k).length+[x].length)*1≤140737488355328):=by intro k x;show _≤_;have:=List.length_take_le' k (ofN 3 n);rw [ofN_len] at this;simp at this ⊢;omega
 have T0:Hid ((ofN 3 n).take 1=(ofN 3 n).take 0++[UInt8.ofNat (n / 65536)]):=ofN_take 3 n 0 (by omega)
 have T1:Hid ((ofN 3 n).take 2=(ofN 3 n).take 1++[UInt8.ofNat (n / 256)]):=ofN_take 3 n 1 (by omega)
 have T2:Hid ((ofN 3 n).take 3=(ofN 3 n).take 2++[UInt8.ofNat (n / 1)]):=ofN_take 3 n 2 (by omega)
 have TT:Hid ((ofN 3 n).take 3=ofN 3 n):=by show _=_;rw [List.take_of_length_le (by rw [ofN_len];omega)]
 go_enter Tryz.func185,Tryz.ntmps185
 go_wp2_with (first
  | (go_at_call 159;refine (CP.out _).mono ?_;rintro _ w2 ⟨rfl,he2⟩)
  | (go_at_call 71;refine (l1In_c _ _ _ _).mono ?_;rintro _ w1 ⟨rfl,he1⟩))
 have he4:=(‹Ext (w.alloc (.cells #[] 5)) _›.trans he2).trans he1;go_loopw [5,6] (fun t i wr=>∃ k:Nat,k≤3∧i=.int .i64 (2-k)∧Hid (OwnL vu8 5 w wr t ((ofN 3 n).take k))∧Ext w wr) (fun _ i _=>(intOf i+1).toNat)
 case atStart=>exact ⟨0,by omega,rfl,ho1.ext he4,hx1.trans he4⟩
 case round =>
  clear he4 he1 he2 ho1 hx1;obtain ⟨k,hk,rfl,ho,he⟩:=hrel;rcases (by omega:k=0∨k=1∨k=2∨k=3) with rfl | rfl | rfl | rfl
  ·go_wp2_with (first
    | (at_builtin;go_must (refine wpList_appN rfl (.tmp 26) (.tmp 32) _ rfl E_u8 (by omega) w _ vu8 (fun _=>rfl) _ rfl _ _ rfl ((ofN 3 n).take 0) [UInt8.ofNat (n / 65536)] _ (HX (n / 65536) _ (by omega)).out ho.out he rfl (HB _ _).out ?_);intro v1 w1 ho1 he1;rw [← T0.out] at ho1))
   have HO:=lhd ho1;go_roundw
   case rel=>exact ⟨1,by omega,rfl,HO,he1⟩
   case measure=>simp [intOf]
  ·go_wp2_with (first
    | (at_builtin;go_must (refine wpList_appN rfl (.tmp 26) (.tmp 32) _ rfl E_u8 (by omega) w _ vu8 (fun _=>rfl) _ rfl _ _ rfl ((ofN 3 n).take 1) [UInt8.ofNat (n / 256)] _ (HX (n / 256) _ (by omega)).out ho.out he rfl (HB _ _).out ?_);intro v1 w1 ho1 he1;rw [← T1.out] at ho1))
   have HO:=lhd ho1;go_roundw
   case rel=>exact ⟨2,by omega,rfl,HO,he1⟩
   case measure=>simp [intOf]
  ·go_wp2_with (first
    | (at_builtin;go_must (refine wpList_appN rfl (.tmp 26) (.tmp 32) _ rfl E_u8 (by omega) w _ vu8 (fun _=>rfl) _ rfl _ _ rfl ((ofN 3 n).take 2) [UInt8.ofNat (n / 1)] _ (HX (n / 1) _ (by omega)).out ho.out he rfl (HB _ _).out ?_);intro v1 w1 ho1 he1;rw [← T2.out] at ho1))
   have HO:=lhd ho1;go_roundw
   case rel=>exact ⟨3,by omega,rfl,HO,he1⟩
   case measure=>simp [intOf]
  ·go_wp2
   go_ret;have h1:=ho.out;rw [TT.out] at h1;exact ⟨_,rfl,h1,he⟩
theorem sBig4_c (n:Nat) (hn:n<4294967296) (w:World) :
 Calls Tryz.prog 185 #[.int .i64 (n:Int),.int .i64 4] w fun e w'=>∃ v,e=.returned v∧OwnL vu8 5 w w' v (ofN 4 n)∧Ext w w':=by
 have CP:=lhd (fun w=>l2PowerN_c 4 w (by omega) (by omega));have hx1:=Ext_alloc (.cells #[] 5) (Ext.refl w);have ho1:=OwnL.empty (f:=vu8) (e:=5) (Ext.refl w);have hni:(n:Int)≤4294967295:=by omega
 have HX:∀ (m:Nat) (x:Int),x=((m%256:Nat):Int)→Hid (#[Value.int .u8 x]=([UInt8.ofNat m].map vu8).toArray):=by
  intro m x hx;show _=_
  have:(UInt8.ofNat m).toNat=m%256:=by rw [UInt8.toNat_ofNat']
  simp [vu8,this,hx]
 have HB:∀ k (x:UInt8),Hid ((((ofN 4 n).take k).length+[x].length)*1≤140737488355328):=by intro k x;show _≤_;have:=List.length_take_le' k (ofN 4 n);rw [ofN_len] at this;simp at this ⊢;omega
 have T0:Hid ((ofN 4 n).take 1=(ofN 4 n).take 0++[UInt8.ofNat (n / 16777216)]):=ofN_take 4 n 0 (by omega)
 have T1:Hid ((ofN 4 n).take 2=(ofN 4 n).take 1++[UInt8.ofNat (n / 65536)]):=ofN_take 4 n 1 (by omega)
 have T2:Hid ((ofN 4 n).take 3=(ofN 4 n).take 2++[UInt8.ofNat (n / 256)]):=ofN_take 4 n 2 (by omega)
 have T3:Hid ((ofN 4 n).take 4=(ofN 4 n).take 3++[UInt8.ofNat (n / 1)]):=ofN_take 4 n 3 (by omega)
 have TT:Hid ((ofN 4 n).take 4=ofN 4 n):=by show _=_;rw [List.take_of_length_le (by rw [ofN_len];omega)]
 go_enter Tryz.func185,Tryz.ntmps185
 go_wp2_with (first
  | (go_at_call 159;refine (CP.out _).mono ?_;rintro _ w2 ⟨rfl,he2⟩)
  | (go_at_call 71;refine (l1In_c _ _ _ _).mono ?_;rintro _ w1 ⟨rfl,he1⟩))
 have he4:=(‹Ext (w.alloc (.cells #[] 5)) _›.trans he2).trans he1;go_loopw [5,6] (fun t i wr=>∃ k:Nat,k≤4∧i=.int .i64 (3-k)∧Hid (OwnL vu8 5 w wr t ((ofN 4 n).take k))∧Ext w wr) (fun _ i _=>(intOf i+1).toNat)
 case atStart=>exact ⟨0,by omega,rfl,ho1.ext he4,hx1.trans he4⟩
 case round =>
  clear he4 he1 he2 ho1 hx1;obtain ⟨k,hk,rfl,ho,he⟩:=hrel;rcases (by omega:k=0∨k=1∨k=2∨k=3∨k=4) with rfl | rfl | rfl | rfl | rfl
  ·go_wp2_with (first
    | (at_builtin;go_must (refine wpList_appN rfl (.tmp 26) (.tmp 32) _ rfl E_u8 (by omega) w _ vu8 (fun _=>rfl) _ rfl _ _ rfl ((ofN 4 n).take 0) [UInt8.ofNat (n / 16777216)] _ (HX (n / 16777216) _ (by omega)).out ho.out he rfl (HB _ _).out ?_);intro v1 w1 ho1 he1;rw [← T0.out] at ho1))
   have HO:=lhd ho1;go_roundw
   case rel=>exact ⟨1,by omega,rfl,HO,he1⟩
   case measure=>simp [intOf]
  ·go_wp2_with (first
    | (at_builtin;go_must (refine wpList_appN rfl (.tmp 26) (.tmp 32) _ rfl E_u8 (by omega) w _ vu8 (fun _=>rfl) _ rfl _ _ rfl ((ofN 4 n).take 1) [UInt8.ofNat (n / 65536)] _ (HX (n / 65536) _ (by omega)).out ho.out he rfl (HB _ _).out ?_);intro v1 w1 ho1 he1;rw [← T1.out] at ho1))
   have HO:=lhd ho1;go_roundw
   case rel=>exact ⟨2,by omega,rfl,HO,he1⟩
   case measure=>simp [intOf]
  ·go_wp2_with (first
    | (at_builtin;go_must (refine wpList_appN rfl (.tmp 26) (.tmp 32) _ rfl E_u8 (by omega) w _ vu8 (fun _=>rfl) _ rfl _ _ rfl ((ofN 4 n).take 2) [UInt8.ofNat (n / 256)] _ (HX (n / 256) _ (by omega)).out ho.out he rfl (HB _ _).out ?_);intro v1 w1 ho1 he1;rw [← T2.out] at ho1))
   have HO:=lhd ho1;go_roundw
   case rel=>exact ⟨3,by omega,rfl,HO,he1⟩
   case measure=>simp [intOf]
  ·go_wp2_with (first
    | (at_builtin;go_must (refine wpList_appN rfl (.tmp 26) (.tmp 32) _ rfl E_u8 (by omega) w _ vu8 (fun _=>rfl) _ rfl _ _ rfl ((ofN 4 n).take 3) [UInt8.ofNat (n / 1)] _ (HX (n / 1) _ (by omega)).out ho.out he rfl (HB _ _).out ?_);intro v1 w1 ho1 he1;rw [← T3.out] at ho1))
   have HO:=lhd ho1;go_roundw
   case rel=>exact ⟨4,by omega,rfl,HO,he1⟩
   case measure=>simp [intOf]
  ·go_wp2
   go_ret;have h1:=ho.out;rw [TT.out] at h1;exact ⟨_,rfl,h1,he⟩
theorem sBig_c (s n:Nat) (hs:1≤s∧s≤4) (hn:n<256^s) (w:World) :
 Calls Tryz.prog 185 #[.int .i64 (n:Int),.int .i64 (s:Int)] w fun e w'=>∃ v,e=.returned v∧OwnL vu8 5 w w' v (ofN s n)∧Ext w w':=by
 rcases (by omega:s=1∨s=2∨s=3∨s=4) with rfl | rfl | rfl | rfl
 ·exact sBig1_c n hn w
 ·exact sBig2_c n hn w
 ·exact sBig3_c n hn w
 ·exact sBig4_c n hn w
theorem rev_take (l:List UInt8) (k:Nat) (h:k<l.length):l.reverse.take (k+1)=l.reverse.take k++[l[l.length-1-k]]:=by
 rw [List.take_succ_eq_append_getElem (by simpa using h)]
 congr 2
 rw [List.getElem_reverse]
theorem sLittle_c (s n:Nat) (hs:1≤s∧s≤4) (hn:n<256^s) (w:World) :
 Calls Tryz.prog 184 #[.int .i64 (n:Int),.int .i64 (s:Int)] w fun e w'=>∃ v,e=.returned v∧OwnL vu8 5 w w' v (ofN s n).reverse∧Ext w w':=by
 have CB:=lhd (fun w=>sBig_c s n hs hn w);have hlen:=ofN_len s n;generalize ofN s n=L at *;have HT:=lhd (fun k h=>rev_take L k h);have HTT:Hid (L.reverse.take L.length=L.reverse):=by show _=_;rw [List.take_of_length_le (by simp)]
 have HLR:Hid (L.reverse.length=L.length):=List.length_reverse
 have hL4:L.length≤4:=by omega
 clear hlen;go_enter Tryz.func184,Tryz.ntmps184;go_wp2_with fail;refine (CB.out _).mono ?_;rintro _ w1 ⟨v1,rfl,ho1,he1⟩;obtain ⟨A1,c1,hv,hr⟩:=OwnL.rd ho1 (by omega);subst hv;have ho2:=lhd (OwnL.empty (f:=vu8) (e:=5) (Ext.refl w1));have hw1:=Ext_alloc (.cells #[] 5) (Ext.refl w1);have HR:=lhd hr;clear ho1 hr;go_wp2;go_loopw [6,7] (fun t i wr=>∃ k:Nat,k≤L.length∧i=.int .i64 ((L.length:Int)-1-k)∧Hid (OwnL vu8 5 w1 wr t (L.reverse.take k))∧Ext w1 wr) (fun _ i _=>(intOf i+1).toNat)
 case atStart=>exact ⟨0,by omega,by simp,ho2,hw1⟩
 case round =>
  clear ho2 hw1;obtain ⟨k,hk,rfl,ho,he⟩:=hrel
  by_cases hlt:k<L.length
  ·obtain ⟨b,off,hA,hb,hc⟩:=HR.out.at (L.length-1-k) (by omega)
   subst hA;have q1:=fun w' (e:Ext wr w')=>hc w' (he.trans e)
   have HTk:=lhd (HT.out k hlt);have hsub:(L.length:Int)-1-(k:Int)=((L.length-1-k:Nat):Int):=by omega
   have HB:∀ (x:UInt8),Hid (((L.reverse.take k).length+[x].length)*1≤140737488355328):=by intro x;show _≤_;have:=List.length_take_le' k L.reverse;have:=HLR.out;simp at *;omega
   have hik:L.length-1-k<L.length:=by omega
   simp only [vu8] at q1;generalize L[L.length-1-k]=y at *;have hY:Hid (#[Value.int .u8 (y.toNat:Int)]=([y].map vu8).toArray):=rfl
   rw [hsub];have hnn:(0:Int)≤((L.length-1-k:Nat):Int):=by omega
   generalize hj:L.length-1-k=j at *;have hji:(j:Int)<(L.length:Int):=by omega
   clear hc
   go_wp2_with (first
    | (at_builtin;go_must (refine wpList_appN rfl (.tmp 19) (.tmp 24) _ rfl E_u8 (by omega) w1 _ vu8 (fun _=>rfl) _ rfl _ _ rfl (L.reverse.take k) [y] _ hY.out ho.out he rfl (HB y).out ?_);intro v4 w4 ho4 he4;rw [← HTk.out] at ho4))
   have HO:=lhd ho4;clear ho4;go_wp2;go_roundw
   case rel=>exact ⟨k+1,by omega,by congr 1;omega,HO,he4⟩
   case measure=>simp [intOf]
  ·obtain rfl:k=L.length:=by omega
   have hneg:¬ (0:Int)≤(L.length:Int)-1-(L.length:Int):=by omega
   go_wp2;go_ret;have h1:=ho.out;rw [HTT.out] at h1;exact ⟨_,rfl,h1.down he1.size,he1.trans he⟩
theorem sEncI_c (r:DRule) (Rb:Option Addr) (rb:Nat) (Rn:Option Addr) (rn:Nat) (Rt:Option Addr) (rt:Nat) (Rk:Option Addr) (rk:Nat) (n:Nat) (hs:1≤r.size∧r.size≤4) (hn:n<256^r.size.toNat) (w:World) :
 Calls Tryz.prog 158 #[vrule r (.slice Rb r.bytes.length rb) (.slice Rn r.names.length rn) (.slice Rt r.tags.length rt) (.slice Rk r.kids.length rk),.int .i64 (n:Int)] w fun e w'=>∃ v,e=.returned v∧OwnL vu8 5 w w' v (encI r n)∧Ext w w':=by
 have CB:=lhd (fun w=>sBig_c r.size.toNat n (by omega) hn w);have CL:=lhd (fun w=>sLittle_c r.size.toNat n (by omega) hn w);rw [Int.toNat_of_nonneg (by omega)] at CB CL;obtain ⟨L,hL⟩:∃ L,encI r n=L:=⟨_,rfl⟩;rw [hL];unfold encI at hL;have eb:=Ext_alloc (.cells #[.string r.nm,.int .i64 r.kind,.int .i64 r.size,.bool r.little,.slice Rb r.bytes.length rb,.slice Rn r.names.length rn,.slice Rt r.tags.length rt,.slice Rk r.kids.length rk] 96) (Ext.refl w);have hbs:=eb.size;unfold vrule;cases hl:r.little
 ·rw [hl] at hL eb hbs
  simp only [Bool.false_eq_true,if_false] at hL;subst hL;clear CL;go_enter Tryz.func158,Tryz.ntmps158;go_wp2_with fail;refine (CB.out _).mono ?_;rintro _ w1 ⟨v,rfl,ho,he1⟩;have HO:=lhd (ho.down hbs);clear ho;go_wp2;go_ret;exact ⟨_,rfl,HO.out,eb.trans he1⟩
 ·rw [hl] at hL eb hbs
  simp only [if_true] at hL;subst hL;clear CB;go_enter Tryz.func158,Tryz.ntmps158;go_wp2_with fail;refine (CL.out _).mono ?_;rintro _ w1 ⟨v,rfl,ho,he1⟩;have HO:=lhd (ho.down hbs);clear ho;go_wp2;go_ret;exact ⟨_,rfl,HO.out,eb.trans he1⟩
theorem own_lit {α:Type} {f:α→Value} {e:TypeId} {w0 w:World} (he:Ext w0 w) (ys:List α) (cs:Array Value) (hcs:cs=(ys.map f).toArray) (m:Nat) (hm:m=ys.length) (hl:m≤1000) :
 OwnL f e w0 (w.alloc (.cells cs e)) (.slice (some ⟨w.heap.size,0,none⟩) m m) ys:=by
 subst hcs;subst hm;exact ⟨by simp,.inr ⟨w.heap.size,ys.length,_,rfl,he.size,heap_alloc_new w _,by omega,by simp only [maxLen];omega,by simp,by simp [List.take_of_length_le]⟩⟩
theorem kid0E {ds:List DRule} (h:descOk ds=true) (i:Nat) (hi:i<ds.length) (hk:ds[i].kind=4∨ds[i].kind=5∨ds[i].kind=7) :
 ∃ k0,∃ h0:k0<ds.length,kd ds[i] 0=k0∧k0<i∧0<ds[i].kids.length∧ds[k0].kind=1∧1≤ds[k0].size∧ds[k0].size≤4∧limD ds (ds[i].kids.getD 0 0)=256^ds[k0].size.toNat-1∧ds.getD (kd ds[i] 0) noRule=ds[k0]:=by
 obtain ⟨g0,g1,gk,g2,g3,g4,g5⟩:=kid0 h i hi hk;exact ⟨kd ds[i] 0,g0,rfl,g1,gk,g2,g3,g4,g5,by simp [g0]⟩
theorem escB_len (t:UInt8):∀ l,(escB t l).length≤2*l.length
 | []=>by simp [escB]
 | x::l=>by
  have e:escB t (x::l)=(if x=t∨x=92 then [92,x] else [x])++escB t l:=rfl
  have:=escB_len t l;rw [e,List.length_append,List.length_cons]
  split<;>simp<;>omega
theorem const_bytes {ds:List DRule} (h:descOk ds=true) (i:Nat) (hi:i<ds.length) (hk:ds[i].kind=2):ds[i].bytes.length≤16:=by
 have hkk:=ruleKind h i hi;unfold kindOk at hkk;rw [if_neg (by omega),if_pos hk] at hkk;simp only [Bool.and_eq_true,between_iff] at hkk
 omega
theorem wrapV_len {ds:List DRule} (h:descOk ds=true) (i:Nat) (hi:i<ds.length) {n:Int} {b:List UInt8} {m:Nat} (ho:ownV ds ds[i] n b.length m=true) (inner:List UInt8):(wrapV ds ds[i] n b m inner).length≤2*b.length+16+inner.length:=by
 obtain ⟨_,_,_,_,_,k1,_⟩:=kids_len h i hi;have K0:=kid0 h i hi;have CB:=const_bytes h i hi;unfold wrapV
 by_cases c1:ds[i].kind=1
 ·rw [if_pos c1,encI_len];have:=k1 c1;omega
 rw [if_neg c1]
 by_cases c2:ds[i].kind=2
 ·rw [if_pos c2];have:=CB c2;omega
 rw [if_neg c2]
 by_cases c3:ds[i].kind=3
 ·rw [if_pos c3];omega
 rw [if_neg c3]
 by_cases c4:ds[i].kind=4
 ·obtain ⟨g0,_,_,_,g3,g4,_⟩:=K0 (.inl c4)
  have e:ds.getD (kd ds[i] 0) noRule=ds[kd ds[i] 0]:=by simp [g0]
  rw [if_pos c4,List.length_append,encI_len,e];omega
 rw [if_neg c4]
 by_cases c5:ds[i].kind=5
 ·obtain ⟨g0,_,_,_,g3,g4,_⟩:=K0 (.inr (.inl c5))
  have e:ds.getD (kd ds[i] 0) noRule=ds[kd ds[i] 0]:=by simp [g0]
  rw [if_pos c5,List.length_append,encI_len,e];omega
 rw [if_neg c5]
 by_cases c6:ds[i].kind=6
 ·rw [if_pos c6];omega
 rw [if_neg c6]
 by_cases c7:ds[i].kind=7
 ·obtain ⟨g0,_,_,_,g3,g4,_⟩:=K0 (.inr (.inr c7))
  have e:ds.getD (kd ds[i] 0) noRule=ds[kd ds[i] 0]:=by simp [g0]
  rw [if_pos c7,List.length_append,encI_len,e];omega
 rw [if_neg c7]
 by_cases c8:ds[i].kind=8
 ·rw [if_pos c8,List.length_cons];omega
 rw [if_neg c8]
 by_cases c9:ds[i].kind=9
 ·rw [if_pos c9,List.length_append,List.length_singleton];omega
 rw [if_neg c9,List.length_append,List.length_singleton]
 have:=escB_len (ds[i].bytes.getD 0 0) b
 omega
theorem printV_len {ds:List DRule} (h:descOk ds=true):∀ (v:DVal) (i:Nat),validV ds i v=true→(printV ds i v).length≤30*(szV v+1):=by
 intro v
 induction v using DVal.ind with
 | h v ih =>
  intro i hv;have hi:=validV_lt hv;have hg:ds.getD i noRule=ds[i]:=by simp [hi]
  have hs:∀ (l:List DVal) (k:Nat),(∀ j (hj:j<l.length),validV ds (kidV ds[i] v.num (k+j)) l[j]=true∧l[j]∈v.items)→(printVs ds ds[i] v.num k l).length≤30*szVs l:=by
   intro l
   induction l with
   | nil=>intro k _;rw [printVs];simp
   | cons x t iht =>
    intro k hm;rw [printVs,List.length_append,szVs_cons];have h0:=hm 0 (by simp);simp only [List.getElem_cons_zero,Nat.add_zero] at h0;have h1:=ih x h0.2 _ h0.1
    have h2:=iht (k+1) (fun j hj=>by
     have:=hm (j+1) (by simp;omega);rw [show k+(j+1)=k+1+j by omega] at this
     simpa using this)
    omega
  have h1:=hs v.items 0 (fun j hj=>⟨by rw [Nat.zero_add];exact validV_item hv j hj,List.getElem_mem hj⟩);rw [printV_eq,hg];have h2:=wrapV_len h i hi (validV_fits hv) (printVs ds ds[i] v.num 0 v.items);rw [szV_eq]
  omega
theorem printVs_snoc (ds:List DRule) (r:DRule) (n:Int):∀ (l:List DVal) (k:Nat) (x:DVal),printVs ds r n k (l++[x])=printVs ds r n k l++printV ds (kidV r n (k+l.length)) x
 | [],k,x=>by
  show printVs ds r n k [x]=_
  rw [printVs,printVs,printVs];simp
 | a::l,k,x=>by
  show printVs ds r n k (a::(l++[x]))=_
  rw [printVs,printVs,printVs_snoc ds r n l (k+1) x,List.append_assoc,List.length_cons,show k+1+l.length=k+(l.length+1) by omega]
theorem printVs_take (ds:List DRule) (r:DRule) (n:Int) (l:List DVal) (k:Nat) (h:k<l.length):printVs ds r n 0 (l.take (k+1))=printVs ds r n 0 (l.take k)++printV ds (kidV r n k) l[k]:=by
 rw [List.take_succ_eq_append_getElem h,printVs_snoc,List.length_take,Nat.min_eq_left (by omega),Nat.zero_add]
theorem szVs_part (l:List DVal) (k:Nat):szVs (l.take k)≤szVs l:=by
 rw [szVs_sum,szVs_sum,sum_split szV l k,List.length_take];omega
theorem printVs_len {ds:List DRule} (h:descOk ds=true) {i:Nat} {v:DVal} (hv:validV ds i v=true) (k:Nat) (hk:k≤v.items.length):(printVs ds (ds[i]'(validV_lt hv)) v.num 0 (v.items.take k)).length≤30*szV v:=by
 induction k with
 | zero=>rw [List.take_zero,printVs];simp
 | succ k ih =>
  have key:∀ k,k≤v.items.length→(printVs ds (ds[i]'(validV_lt hv)) v.num 0 (v.items.take k)).length≤30*szVs (v.items.take k):=by
   intro k
   induction k with
   | zero=>intro _;rw [List.take_zero,printVs];simp
   | succ k ih2 =>
    intro hk;rw [printVs_take _ _ _ _ _ (by omega),List.length_append];have h1:=ih2 (by omega);have h2:=printV_len h _ _ (validV_item hv k (by omega))
    have h3:szVs (v.items.take (k+1))=szVs (v.items.take k)+(1+szV v.items[k]):=by
     rw [szVs_sum,szVs_sum,szVs_take _ _ (by omega),List.length_take,List.length_take];omega
    omega
  have h1:=key (k+1) hk;have h2:=szVs_part v.items (k+1);have h3:=szVs_le_szV v
  omega
theorem escB_take (t:UInt8) (l:List UInt8) (k:Nat) (h:k<l.length):escB t (l.take (k+1))=escB t (l.take k)++if l[k]=t∨l[k]=92 then [92,l[k]] else [l[k]]:=by
 rw [List.take_succ_eq_append_getElem h];unfold escB;rw [List.flatMap_append,List.flatMap_cons,List.flatMap_nil,List.append_nil]
theorem sEncI_s (r:DRule) (Rb:Option Addr) (rb:Nat) (Rn:Option Addr) (rn:Nat) (Rt:Option Addr) (rt:Nat) (Rk:Option Addr) (rk:Nat) (n:Nat) (hs:1≤r.size∧r.size≤4) (hn:n<256^r.size.toNat) (w':World) :
 Calls Tryz.prog 158 #[vrule r (.slice Rb r.bytes.length rb) (.slice Rn r.names.length rn) (.slice Rt r.tags.length rt) (.slice Rk r.kids.length rk),.int .i64 (n:Int)] w' fun e w''=>∃ A4 n4 c4,e=.returned (.slice A4 n4 c4)∧OwnL vu8 5 w' w'' (.slice A4 n4 c4) (encI r n)∧n4=(encI r n).length∧Ext w' w'' :=
 (sEncI_c r Rb rb Rn rn Rt rt Rk rk n hs hn w').mono fun e w'' ⟨v,h1,h2,h3⟩=>by
  obtain ⟨A4,c4,hv⟩:=Own.shape h2;subst hv;exact ⟨A4,_,c4,h1,h2,rfl,h3⟩
def sPrintOk (A:Option Addr) (ds:List DRule) (c:Nat) (v:DVal):Prop:=∀ (i:Nat) (_:i<ds.length) (Vb:Option Addr) (vb:Nat) (Vi:Option Addr) (vi:Nat) (w:World),RdD w A ds c→RdV w v Vb vb Vi vi→validV ds i v=true→szV v≤1099511627776 →
 Calls Tryz.prog 119 #[vdesc (.slice A ds.length c),.int .i64 (i:Int),vval v (.slice Vb v.bytes.length vb) (.slice Vi v.items.length vi)] w fun e w'=>∃ A4 n4 c4,e=.returned (.slice A4 n4 c4)∧OwnL vu8 5 w w' (.slice A4 n4 c4) (printV ds i v)∧n4=(printV ds i v).length∧Ext w w'
theorem sPrint_of (A:Option Addr) (ds:List DRule) (c:Nat) (hok:descOk ds=true) (v:DVal) (H:∀ x∈v.items,sPrintOk A ds c x):sPrintOk A ds c v:=by
 intro i hi Vb vb Vi vi w hd hv hva hz;have hl:=hd.len;have hbl:=hv.b.len;have hil:=hv.i.len;have hz1:=bytes_le v;have hz2:=items_le v;have HBS:Hid (Bs w Vb v.bytes vb):=hv.b.bs (bytes_le v) (by omega)
 have hown:ownV ds ds[i] v.num v.bytes.length v.items.length=true:=validV_fits hva
 obtain ⟨bR,oR,Rb,rb,Rn,rn,Rt,rt,Rk,rk,hA,hbR,hS,hRR⟩:=hd.at i hi;have hRR0:=hRR;obtain ⟨r0,r1,r2,r3,r4,r5,r6,r7⟩:=hRR;subst hA;have hii:(i:Int)<(ds.length:Int):=by omega
 have hi0:(0:Int)≤(i:Int):=by omega
 have HH:=lhd H;have HIT:Hid (∀ j,j<v.items.length→kidV ds[i] v.num j<i∧ItemAt ds[i] v.num j):=fun j hj=>own_item hok i hi hown hj
 have HVA:Hid (∀ j (hj:j<v.items.length),validV ds (kidV ds[i] v.num j) v.items[j]=true):=fun j hj=>validV_item hva j hj
 have HSZ:Hid (∀ x∈v.items,szV x≤1099511627776):=fun x hx=>by have:=szV_item hx;omega
 have H7:Hid (ds[i].kind=7→ds[i].kids.length=ds[i].tags.length+1):=fun h=>((kids_len hok i hi).2.2.2.1 h).1
 have HKN:=lhd (kd_int hok i hi);have HLT:Hid (∀ k,k≤v.items.length→(printVs ds ds[i] v.num 0 (v.items.take k)).length≤30*szV v):=fun k hk=>printVs_len hok hva k hk
 have HTK:=lhd (fun k hk=>printVs_take ds ds[i] v.num v.items k hk);have HPL:=lhd (fun j (hj:j<v.items.length)=>printV_len hok v.items[j] (kidV ds[i] v.num j) (validV_item hva j hj));have hgi:ds.getD i noRule=ds[i]:=by simp [hi]
 have hP:printV ds i v=wrapV ds ds[i] v.num v.bytes v.items.length (printVs ds ds[i] v.num 0 v.items):=by rw [printV_eq,hgi]
 have hPL:=printV_len hok v i hva;rw [hP] at hPL ⊢;obtain ⟨W0,HW0,B1,B2,B3,e0,hs0⟩:=boxes3' w #[.slice (some ⟨bR,oR,none⟩) ds.length c] #[.int .i64 v.num,.slice Vb v.bytes.length vb,.slice Vi v.items.length vi] #[.string ds[i].nm,.int .i64 ds[i].kind,.int .i64 ds[i].size,.bool ds[i].little,.slice Rb ds[i].bytes.length rb,.slice Rn ds[i].names.length rn,.slice Rt ds[i].tags.length rt,.slice Rk ds[i].kids.length rk] 26 46 96;have d0:∀ w',Ext W0 w'→_=some (Value.slice (some ⟨bR,oR,none⟩) ds.length c):=B1.at 0
 have v0:∀ w',Ext W0 w'→_=some (Value.int .i64 v.num):=B2.at 0
 have v1:∀ w',Ext W0 w'→_=some (Value.slice Vb v.bytes.length vb):=B2.at 1
 have v2:∀ w',Ext W0 w'→_=some (Value.slice Vi v.items.length vi):=B2.at 2
 have q0:∀ w',Ext W0 w'→_=some (Value.string ds[i].nm):=B3.at 0
 have q1:∀ w',Ext W0 w'→_=some (Value.int .i64 ds[i].kind):=B3.at 1
 have q2:∀ w',Ext W0 w'→_=some (Value.int .i64 ds[i].size):=B3.at 2
 have q3:∀ w',Ext W0 w'→_=some (Value.bool ds[i].little):=B3.at 3
 have q4:∀ w',Ext W0 w'→_=some (Value.slice Rb ds[i].bytes.length rb):=B3.at 4
 have q5:∀ w',Ext W0 w'→_=some (Value.slice Rn ds[i].names.length rn):=B3.at 5
 have q6:∀ w',Ext W0 w'→_=some (Value.slice Rt ds[i].tags.length rt):=B3.at 6
 have q7:∀ w',Ext W0 w'→_=some (Value.slice Rk ds[i].kids.length rk):=B3.at 7
 have CI:Hid (∀ j,j<v.items.length→∀ w',Ext w w'→Gives Tryz.prog 78 #[.agg #[.string ds[i].nm,.int .i64 ds[i].kind,.int .i64 ds[i].size,.bool ds[i].little,.slice Rb ds[i].bytes.length rb,.slice Rn ds[i].names.length rn,.slice Rt ds[i].tags.length rt,.slice Rk ds[i].kids.length rk],.int .i64 v.num,.int .i64 (j:Int)] w' (.int .i64 (kidV ds[i] v.num j:Nat))):=fun j hj w' e =>
  sItemV_c ds[i] Rb rb Rn rn Rt rt Rk rk v.num j w' (hS.ext e) (by omega) (HIT.out j hj).2 H7.out HKN.out
 have HS0:=lhd hs0;have hE0:=OwnL.empty (f:=vu8) (e:=5) (Ext.refl W0);rw [hs0] at hE0;have HE0:=lhd hE0;have x1:=Ext_alloc (.cells #[] 5) (Ext.refl W0);have HD:=lhd hd;have HV:=lhd hv;have HS:=lhd hS;have HOW:Hid (ownV ds ds[i] v.num v.bytes.length v.items.length=true):=hown
 have HRR:=lhd hRR0;clear B1 B2 B3 hs0 hE0 hd hv hS H hva hown hRR0 hgi hP;have HPL2:=lhd hPL;clear hPL;obtain ⟨PP,hPP⟩:∃ PP,wrapV ds ds[i] v.num v.bytes v.items.length (printVs ds ds[i] v.num 0 v.items)=PP:=⟨_,rfl⟩;rw [hPP] at HPL2 ⊢;have HPP:=lhd hPP;clear hPP;unfold vdesc vval;go_enter Tryz.func119,Tryz.ntmps119;go_wp2_with fail;rw [← HW0.out];go_loopw [8,9] (fun u ix wr=>∃ (k:Nat) (Au:Option Addr) (cu:Nat) (l:List UInt8),k≤v.items.length∧ix=.int .i64 k∧u=.slice Au l.length cu∧Hid (l=printVs ds ds[i] v.num 0 (v.items.take k))∧Hid (OwnL vu8 5 W0 wr (.slice Au l.length cu) l)∧Ext W0 wr) (fun _ ix _=>v.items.length-(intOf ix).toNat)
 case atStart=>exact ⟨0,_,_,[],by omega,rfl,rfl,by simp [Hid,printVs],HE0,x1⟩
 case round =>
  clear HE0 x1;obtain ⟨k,Au,cu,l,hk,rfl,rfl,hl0,ho,he⟩:=hrel
  by_cases hlt:k<v.items.length
  ·obtain ⟨bb,ofs,A1,c1,D1,d1,hIa,hbb,hs1,hr1⟩:=HV.out.i.at k hlt
   subst hIa;have CI1:=lhd (CI.out k hlt)
   have CP1:Hid (∀ w',Ext w w'→Calls Tryz.prog 119 #[.agg #[.slice (some ⟨bR,oR,none⟩) ds.length c],.int .i64 ((kidV ds[i] v.num k:Nat):Int),.agg #[.int .i64 v.items[k].num,.slice A1 v.items[k].bytes.length c1,.slice D1 v.items[k].items.length d1]] w' fun e w''=>∃ A4 n4 c4,e=.returned (.slice A4 n4 c4)∧OwnL vu8 5 w' w'' (.slice A4 n4 c4) (printV ds (kidV ds[i] v.num k) v.items[k])∧n4=(printV ds (kidV ds[i] v.num k) v.items[k]).length∧Ext w' w''):=fun w' e =>
    HH.out _ (List.getElem_mem hlt) (kidV ds[i] v.num k) (by have:=(HIT.out k hlt).1;omega) A1 c1 D1 d1 w' (HD.out.ext e) (hs1.ext e) (HVA.out k hlt) (HSZ.out _ (List.getElem_mem hlt))
   have HTK1:=lhd (HTK.out k hlt);have hlk:=HLT.out k hk;have hpk:=HPL.out k hlt;have hszk:=HSZ.out _ (List.getElem_mem hlt);obtain ⟨i0,i1,i2⟩:=hr1;replace i0:=kx i0 e0;replace i1:=kx i1 e0;replace i2:=kx i2 e0;have hll:l.length≤30*szV v:=by rw [hl0.out];exact hlk
   have hkk:(0:Int)≤(k:Int):=by omega
   have hkl1:(k:Int)<(v.items.length:Int):=by omega
   generalize printV ds (kidV ds[i] v.num k) v.items[k]=pk at *;generalize kidV ds[i] v.num k=kk at *;generalize v.items[k]=x at *;have HBD:Hid ((l.length+pk.length)*1≤140737488355328):=by show _≤_;omega
   have HBL:Hid ((l++pk).length≤140737488351232):=by show _≤_;rw [List.length_append];omega
   have SY:Hid (∀ w',Ext W0 w'→Ext W0 w'∧True):=fun _ h1=>⟨h1,trivial⟩
   have hed:=Ext_drew he;have HED:=lhd hed;clear hlk hpk hszk hbb hs1;go_wp2_with fail
   go_region_held3 (fun w'=>Ext W0 w'∧True) (first | exact SY.out _ hed | exact SY.out _ (by assumption)) (first
    | (go_at_call 78;have hq:=‹Ext W0 _∧True›;refine (CI1.out _ (e0.trans hq.1)).mono ?_;rintro _ w4 ⟨rfl,he4⟩;have hE4:=hq.1.trans he4;have HO4:=lhd (OwnL.ext (OwnL.ext ho.out (Ext_drew (Ext.refl wr))) he4))
    | (go_at_call 119;have hq:=‹Ext W0 _∧True›;refine (CP1.out _ (e0.trans hq.1)).mono ?_;rintro _ w5 ⟨A4,n4,c4,rfl,ho5,hn4,he5⟩;subst hn4;have hE5:=hq.1.trans he5;have HO5:=lhd (OwnL.ext HO4.out he5);obtain ⟨A4',c4',hv4',hr5⟩:=OwnL.rd ho5 (by have:=HBL.out;rw [List.length_append] at this;omega);injection hv4' with z1 z2 z3;subst z1;subst z3;have HR5:=lhd hr5;clear ho5)
    | (refine step_appH rfl (.tmp 24) (.tmp 36) _ rfl E_u8 (by omega) W0 _ vu8 (fun _=>rfl) _ rfl _ _ _ rfl l pk HO5.out hE5 rfl (Rd.src HR5.out (Ext.refl _)) HBD.out ?_;intro v7 w7 ho7 he7 hv7 hg7;obtain ⟨A7,c7,hv7',_⟩:=OwnL.rd ho7 HBL.out;subst hv7'))
   all_goals
    have N7:Hid (l++pk=printVs ds ds[i] v.num 0 (v.items.take (k+1))):=by show _=_;rw [HTK1.out,← hl0.out]
    have L7:(l++pk).length=l.length+pk.length:=List.length_append
    have HO7:=lhd ho7;clear ho7 hg7 hv7 HBL HBD;go_wp2;go_roundw
    case rel=>exact ⟨k+1,A7,c7,l++pk,by omega,by go_num,by rw [L7],N7,HO7,he7⟩
    case measure=>simp [intOf];omega
  ·obtain rfl:k=v.items.length:=by omega
   have hl1:=hl0.out;rw [List.take_length] at hl1;have hpp:=HPP.out;rw [← hl1] at hpp;have hll:l.length≤30*szV v:=by rw [hl0.out];exact HLT.out _ (Nat.le_refl _)
   have HL0:Hid (v.items.length=0→l=[]):=fun h=>by rw [hl1,List.eq_nil_of_length_eq_zero h,printVs]
   have hown:=HOW.out;have hkd:=(ruleFacts hok i hi).kind;have K0:=kid0E hok i hi;obtain ⟨_,_,_,_,_,k1,k3⟩:=kids_len hok i hi;have TB:=term_byte hok i hi;have CB2:=const_bytes hok i hi;have hsw:=e0.size;clear hl0 hl1 HPP HTK HLT HPL HIT HVA HH HSZ H7 HKN CI HOW HRR;rcases (by omega:ds[i].kind=1∨ds[i].kind=2∨ds[i].kind=3∨ds[i].kind=4∨ds[i].kind=5∨ds[i].kind=6∨ds[i].kind=7∨ds[i].kind=8∨ds[i].kind=9∨ds[i].kind=10) with hk | hk | hk | hk | hk | hk | hk | hk | hk | hk
   ·unfold wrapV at hpp
    rw [if_pos hk] at hpp;unfold ownV at hown;rw [if_pos hk] at hown;simp only [Bool.and_eq_true,beq_iff_eq,decide_eq_true_eq] at hown;subst hpp;have hs14:=k1 hk;have hlim:limR ds[i]=256^ds[i].size.toNat-1:=by unfold limR;rw [if_pos ⟨hk,hs14⟩]
    have hnn:v.num.toNat<256^ds[i].size.toNat:=by
     have h1:=hown.1.1.2;rw [hlim] at h1
     have:=pow256 ds[i].size.toNat;omega
    have hn0:((v.num.toNat:Nat):Int)=v.num:=Int.toNat_of_nonneg hown.1.1.1
    have CE:Hid (∀ w',Calls Tryz.prog 158 #[.agg #[.string ds[i].nm,.int .i64 ds[i].kind,.int .i64 ds[i].size,.bool ds[i].little,.slice Rb ds[i].bytes.length rb,.slice Rn ds[i].names.length rn,.slice Rt ds[i].tags.length rt,.slice Rk ds[i].kids.length rk],.int .i64 v.num] w' fun e w''=>∃ A4 n4 c4,e=.returned (.slice A4 n4 c4)∧OwnL vu8 5 w' w'' (.slice A4 n4 c4) (encI ds[i] v.num.toNat)∧n4=(encI ds[i] v.num.toNat).length∧Ext w' w''):=fun w'=>by
     have h:=sEncI_s ds[i] Rb rb Rn rn Rt rt Rk rk v.num.toNat hs14 hnn w'
     rwa [hn0] at h
    have t1:=kfT hk 1;have t2:=kfF hk 2;have t4:=kfF hk 4;have t5:=kfF hk 5;have t7:=kfF hk 7;have t8:=kfF hk 8;have t9:=kfF hk 9;have t10:=kfF hk 10;have t3:=kfF hk 3;clear hown k1 k3 K0 TB CB2 hkd hs14 hlim hnn hk;go_wp2_with fail;refine (CE.out _).mono ?_;rintro _ w5 ⟨A4,n4,c4,rfl,ho5,hn5,he5⟩;subst hn5;have HO5:=lhd ho5;clear ho5;go_wp2;go_ret;exact ⟨_,_,_,rfl,HO5.out.down (by have:=he.size;omega),rfl,e0.trans (he.trans he5)⟩
   ·unfold wrapV at hpp
    rw [if_neg (by omega),if_pos hk] at hpp;unfold ownV at hown;rw [if_neg (by omega),if_pos hk] at hown;simp only [Bool.and_eq_true,beq_iff_eq,decide_eq_true_eq] at hown;subst hpp;have HY:=lhd (HS.out.b.bs (n:=16) (CB2 hk) (by omega));have HYL:Hid (ds[i].bytes.length≤140737488351232):=by show _≤_;have:=CB2 hk;omega
    have HE2:=lhd (OwnL.empty (f:=vu8) (e:=5) (Ext.refl wr));have HB2':Hid ((([]:List UInt8).length+ds[i].bytes.length)*1≤140737488355328):=by show _≤_;have:=HYL.out;simp;omega
    have xr:=Ext_alloc (.cells #[] 5) (Ext.refl wr);have t1:=kfF hk 1;have t2:=kfT hk 2;have t4:=kfF hk 4;have t5:=kfF hk 5;have t7:=kfF hk 7;have t8:=kfF hk 8;have t9:=kfF hk 9;have t10:=kfF hk 10;have t3:=kfF hk 3;clear hown k1 k3 K0 TB CB2 hkd hk
    go_wp2_with (first
     | (at_builtin;refine wpList_appL rfl (.tmp 48) (.tmp 50) _ rfl E_u8 (by omega) wr _ vu8 (fun _=>rfl) _ rfl _ _ _ rfl [] ds[i].bytes HE2.out xr rfl (Rd.src HY.out ((e0.trans he).trans xr)) HB2'.out ?_;intro v4 w4 ho4 he4 hv4 hg4;rw [List.nil_append] at ho4;obtain ⟨A4,c4,hvv,_⟩:=OwnL.rd ho4 HYL.out;subst hvv;have HO4:=lhd ho4;clear ho4 hv4 hg4))
    go_ret;exact ⟨_,_,_,rfl,HO4.out.down (by have:=he.size;omega),rfl,e0.trans (he.trans he4)⟩
   ·unfold wrapV at hpp
    rw [if_neg (by omega),if_neg (by omega),if_pos hk] at hpp;unfold ownV at hown;rw [if_neg (by omega),if_neg (by omega),if_pos hk] at hown;simp only [Bool.and_eq_true,beq_iff_eq,decide_eq_true_eq] at hown;subst hpp;have HY:=lhd (HBS.out);have HYL:Hid (v.bytes.length≤140737488351232):=by show _≤_;omega
    have HE2:=lhd (OwnL.empty (f:=vu8) (e:=5) (Ext.refl wr));have HB2':Hid ((([]:List UInt8).length+v.bytes.length)*1≤140737488355328):=by show _≤_;have:=HYL.out;simp;omega
    have xr:=Ext_alloc (.cells #[] 5) (Ext.refl wr);have t1:=kfF hk 1;have t2:=kfF hk 2;have t4:=kfF hk 4;have t5:=kfF hk 5;have t7:=kfF hk 7;have t8:=kfF hk 8;have t9:=kfF hk 9;have t10:=kfF hk 10;have t3:=kfT hk 3;clear hown k1 k3 K0 TB CB2 hkd hk
    go_wp2_with (first
     | (at_builtin;refine wpList_appL rfl (.tmp 164) (.tmp 166) _ rfl E_u8 (by omega) wr _ vu8 (fun _=>rfl) _ rfl _ _ _ rfl [] v.bytes HE2.out xr rfl (Rd.src HY.out ((e0.trans he).trans xr)) HB2'.out ?_;intro v4 w4 ho4 he4 hv4 hg4;rw [List.nil_append] at ho4;obtain ⟨A4,c4,hvv,_⟩:=OwnL.rd ho4 HYL.out;subst hvv;have HO4:=lhd ho4;clear ho4 hv4 hg4))
    go_ret;exact ⟨_,_,_,rfl,HO4.out.down (by have:=he.size;omega),rfl,e0.trans (he.trans he4)⟩
   ·unfold wrapV at hpp
    rw [if_neg (by omega),if_neg (by omega),if_neg (by omega),if_pos hk] at hpp;unfold ownV at hown;rw [if_neg (by omega),if_neg (by omega),if_neg (by omega),if_pos hk] at hown;simp only [Bool.and_eq_true,beq_iff_eq,decide_eq_true_eq] at hown;obtain ⟨k0,g0,hk0,g1,gk,g2,g3,g4,g5,hx0⟩:=K0 (.inl hk);rw [hx0] at hpp;have hkn:=kd_int hok i hi 0 gk;obtain ⟨bk,okk,hRk,_,hck⟩:=HS.out.k.at 0 gk;rw [hkn,hk0] at hck;subst hRk;simp only [Nat.add_zero,vint] at hck;obtain ⟨bR2,oR2,Sb,sb,Sn,sn,St,st,Sk,sk,hA2,_,hS2,hR2⟩:=HD.out.at k0 g0;injection hA2 with hA2;injection hA2 with z1 z2 _;subst z1;subst z2
    obtain ⟨m0,m1,m2,m3,m4,m5,m6,m7⟩:=hR2;have hpow:=pow256 ds[k0].size.toNat;have hnn:v.bytes.length<256^ds[k0].size.toNat:=by have h1:=hown.1.2;rw [g5] at h1;omega
    have CE:Hid (∀ w',Calls Tryz.prog 158 #[.agg #[.string ds[k0].nm,.int .i64 ds[k0].kind,.int .i64 ds[k0].size,.bool ds[k0].little,.slice Sb ds[k0].bytes.length sb,.slice Sn ds[k0].names.length sn,.slice St ds[k0].tags.length st,.slice Sk ds[k0].kids.length sk],.int .i64 (v.bytes.length:Int)] w' fun e w''=>∃ A4 n4 c4,e=.returned (.slice A4 n4 c4)∧OwnL vu8 5 w' w'' (.slice A4 n4 c4) (encI ds[k0] v.bytes.length)∧n4=(encI ds[k0] v.bytes.length).length∧Ext w' w''):=fun w'=>by
     have h:=sEncI_s ds[k0] Sb sb Sn sn St st Sk sk v.bytes.length ⟨g3,g4⟩ hnn w'
     first | rwa [hn0] at h | exact h
    have HEL:Hid ((encI ds[k0] v.bytes.length).length≤4):=by show _≤_;rw [encI_len];omega
    replace m0:=kx m0 e0;replace m1:=kx m1 e0;replace m2:=kx m2 e0;replace m3:=kx m3 e0;replace m4:=kx m4 e0;replace m5:=kx m5 e0;replace m6:=kx m6 e0;replace m7:=kx m7 e0;replace hck:=kx hck e0;have hk0i:(k0:Int)<(ds.length:Int):=by omega
    have hk00:(0:Int)≤(k0:Int):=by omega
    have hkl:(0:Int)<(ds[i].kids.length:Int):=by omega
    have t1:=kfF hk 1;have t2:=kfF hk 2;have t4:=kfT hk 4;have t5:=kfF hk 5;have t7:=kfF hk 7;have t8:=kfF hk 8;have t9:=kfF hk 9;have t10:=kfF hk 10;have t3:=kfF hk 3;have SY:Hid (∀ w',Ext W0 w'→Ext W0 w'∧True):=fun _ h1=>⟨h1,trivial⟩
    have hed:=Ext_drew he;have HXR:Ext wr wr.drew:=Ext_drew (Ext.refl wr)
    generalize hEE:encI ds[k0] v.bytes.length=EE at *;clear hEE;have HPQ:=lhd hpp;clear hpp;have HBD:Hid ((EE.length+v.bytes.length)*1≤140737488355328):=by show _≤_;have:=HEL.out;omega
    have HBL:Hid ((EE++v.bytes).length≤140737488351232):=by show _≤_;have:=HEL.out;rw [List.length_append];omega
    generalize ds[k0]=rk0 at *;clear hown k1 k3 K0 TB CB2 hkd hk hx0 hk0 hkn g1 g2 g3 g4 g5 hnn;go_wp2_with fail
    go_region_held3 (fun w'=>Ext W0 w'∧True) (first | exact SY.out _ hed | exact SY.out _ (by assumption)) (first
     | (go_at_call 158;have hq:=‹Ext W0 _∧True›;refine (CE.out _).mono ?_;rintro _ w5 ⟨A4,n4,c4,rfl,ho5,hn4,he5⟩;subst hn4;have hE5:=hq.1.trans he5;have HO5:=lhd ho5;have hx5:=he5;clear ho5)
     | (refine step_appH rfl (.tmp 65) (.tmp 67) _ rfl E_u8 (by omega) wr.drew _ vu8 (fun _=>rfl) _ rfl _ _ _ rfl EE v.bytes HO5.out hx5 rfl (Rd.src HBS.out (e0.trans hE5)) HBD.out ?_;intro v7 w7 ho7 he7 hv7 hg7;have hE7:Ext W0 w7:=hed.trans he7;obtain ⟨A7,c7,hv7',_⟩:=OwnL.rd ho7 HBL.out;subst hv7'))
    all_goals
     have HO7:=lhd ho7;have L7:(EE++v.bytes).length=EE.length+v.bytes.length:=List.length_append
     clear ho7 hg7 hv7
     have HF:Hid (OwnL vu8 5 w w7 (.slice A7 (EE.length+v.bytes.length) c7) PP∧EE.length+v.bytes.length=PP.length):=by
      show _∧_
      rw [← HPQ.out,← L7];exact ⟨HO7.out.down (by have:=he.size;show w.heap.size≤wr.heap.size;omega),rfl⟩
     clear HO7 L7;go_wp2;go_ret;exact ⟨_,_,_,rfl,HF.out.1,HF.out.2,e0.trans hE7⟩
   ·obtain ⟨Au',cu',hui,hri⟩:=OwnL.rd ho.out (by omega:l.length≤140737488351232)
    injection hui with y1 y2 y3
    subst y1;subst y3;have HRI:=lhd hri;clear hri;unfold wrapV at hpp;rw [if_neg (by omega),if_neg (by omega),if_neg (by omega),if_neg (by omega),if_pos hk] at hpp;unfold ownV at hown;rw [if_neg (by omega),if_neg (by omega),if_neg (by omega),if_neg (by omega),if_pos hk] at hown;simp only [Bool.and_eq_true,beq_iff_eq,decide_eq_true_eq] at hown;obtain ⟨k0,g0,hk0,g1,gk,g2,g3,g4,g5,hx0⟩:=K0 (.inr (.inl hk));rw [hx0] at hpp;have hkn:=kd_int hok i hi 0 gk;obtain ⟨bk,okk,hRk,_,hck⟩:=HS.out.k.at 0 gk;rw [hkn,hk0] at hck;subst hRk;simp only [Nat.add_zero,vint] at hck;obtain ⟨bR2,oR2,Sb,sb,Sn,sn,St,st,Sk,sk,hA2,_,hS2,hR2⟩:=HD.out.at k0 g0;injection hA2 with hA2;injection hA2 with z1 z2 _;subst z1;subst z2
    obtain ⟨m0,m1,m2,m3,m4,m5,m6,m7⟩:=hR2;have hpow:=pow256 ds[k0].size.toNat;have hnn:v.items.length<256^ds[k0].size.toNat:=by have h1:=hown.2;rw [g5] at h1;omega
    have CE:Hid (∀ w',Calls Tryz.prog 158 #[.agg #[.string ds[k0].nm,.int .i64 ds[k0].kind,.int .i64 ds[k0].size,.bool ds[k0].little,.slice Sb ds[k0].bytes.length sb,.slice Sn ds[k0].names.length sn,.slice St ds[k0].tags.length st,.slice Sk ds[k0].kids.length sk],.int .i64 (v.items.length:Int)] w' fun e w''=>∃ A4 n4 c4,e=.returned (.slice A4 n4 c4)∧OwnL vu8 5 w' w'' (.slice A4 n4 c4) (encI ds[k0] v.items.length)∧n4=(encI ds[k0] v.items.length).length∧Ext w' w''):=fun w'=>by
     have h:=sEncI_s ds[k0] Sb sb Sn sn St st Sk sk v.items.length ⟨g3,g4⟩ hnn w'
     first | rwa [hn0] at h | exact h
    have HEL:Hid ((encI ds[k0] v.items.length).length≤4):=by show _≤_;rw [encI_len];omega
    replace m0:=kx m0 e0;replace m1:=kx m1 e0;replace m2:=kx m2 e0;replace m3:=kx m3 e0;replace m4:=kx m4 e0;replace m5:=kx m5 e0;replace m6:=kx m6 e0;replace m7:=kx m7 e0;replace hck:=kx hck e0;have hk0i:(k0:Int)<(ds.length:Int):=by omega
    have hk00:(0:Int)≤(k0:Int):=by omega
    have hkl:(0:Int)<(ds[i].kids.length:Int):=by omega
    have t1:=kfF hk 1;have t2:=kfF hk 2;have t4:=kfF hk 4;have t5:=kfT hk 5;have t7:=kfF hk 7;have t8:=kfF hk 8;have t9:=kfF hk 9;have t10:=kfF hk 10;have t3:=kfF hk 3;have SY:Hid (∀ w',Ext W0 w'→Ext W0 w'∧True):=fun _ h1=>⟨h1,trivial⟩
    have hed:=Ext_drew he;have HXR:Ext wr wr.drew:=Ext_drew (Ext.refl wr)
    generalize hEE:encI ds[k0] v.items.length=EE at *;clear hEE;have HPQ:=lhd hpp;clear hpp;have HBD:Hid ((EE.length+l.length)*1≤140737488355328):=by show _≤_;have:=HEL.out;omega
    have HBL:Hid ((EE++l).length≤140737488351232):=by show _≤_;have:=HEL.out;rw [List.length_append];omega
    generalize ds[k0]=rk0 at *;clear hown k1 k3 K0 TB CB2 hkd hk hx0 hk0 hkn g1 g2 g3 g4 g5 hnn;go_wp2_with fail
    go_region_held3 (fun w'=>Ext W0 w'∧True) (first | exact SY.out _ hed | exact SY.out _ (by assumption)) (first
     | (go_at_call 158;have hq:=‹Ext W0 _∧True›;refine (CE.out _).mono ?_;rintro _ w5 ⟨A4,n4,c4,rfl,ho5,hn4,he5⟩;subst hn4;have hE5:=hq.1.trans he5;have HO5:=lhd ho5;have hx5:=he5;clear ho5)
     | (refine step_appH rfl (.tmp 82) (.tmp 83) _ rfl E_u8 (by omega) wr.drew _ vu8 (fun _=>rfl) _ rfl _ _ _ rfl EE l HO5.out hx5 rfl (Rd.src HRI.out (HXR.trans hx5)) HBD.out ?_;intro v7 w7 ho7 he7 hv7 hg7;have hE7:Ext W0 w7:=hed.trans he7;obtain ⟨A7,c7,hv7',_⟩:=OwnL.rd ho7 HBL.out;subst hv7'))
    all_goals
     have HO7:=lhd ho7;have L7:(EE++l).length=EE.length+l.length:=List.length_append
     clear ho7 hg7 hv7
     have HF:Hid (OwnL vu8 5 w w7 (.slice A7 (EE.length+l.length) c7) PP∧EE.length+l.length=PP.length):=by
      show _∧_
      rw [← HPQ.out,← L7];exact ⟨HO7.out.down (by have:=he.size;show w.heap.size≤wr.heap.size;omega),rfl⟩
     clear HO7 L7;go_wp2;go_ret;exact ⟨_,_,_,rfl,HF.out.1,HF.out.2,e0.trans hE7⟩
   ·unfold wrapV at hpp
    rw [if_neg (by omega),if_neg (by omega),if_neg (by omega),if_neg (by omega),if_neg (by omega),if_pos hk] at hpp;unfold ownV at hown;rw [if_neg (by omega),if_neg (by omega),if_neg (by omega),if_neg (by omega),if_neg (by omega),if_pos hk] at hown;simp only [Bool.and_eq_true,beq_iff_eq,decide_eq_true_eq] at hown;subst hpp;have t1:=kfF hk 1;have t2:=kfF hk 2;have t4:=kfF hk 4;have t5:=kfF hk 5;have t7:=kfF hk 7;have t8:=kfF hk 8;have t9:=kfF hk 9;have t10:=kfF hk 10;have t3:=kfF hk 3;clear hown k1 k3 K0 TB CB2 hkd hk;go_wp2;go_ret;exact ⟨_,_,_,rfl,ho.out.down (by omega),rfl,e0.trans he⟩
   ·obtain ⟨Au',cu',hui,hri⟩:=OwnL.rd ho.out (by omega:l.length≤140737488351232)
    injection hui with y1 y2 y3
    subst y1;subst y3;have HRI:=lhd hri;clear hri;unfold wrapV at hpp;rw [if_neg (by omega),if_neg (by omega),if_neg (by omega),if_neg (by omega),if_neg (by omega),if_neg (by omega),if_pos hk] at hpp;unfold ownV at hown;rw [if_neg (by omega),if_neg (by omega),if_neg (by omega),if_neg (by omega),if_neg (by omega),if_neg (by omega),if_pos hk] at hown;simp only [Bool.and_eq_true,beq_iff_eq,decide_eq_true_eq] at hown;obtain ⟨k0,g0,hk0,g1,gk,g2,g3,g4,g5,hx0⟩:=K0 (.inr (.inr hk));rw [hx0] at hpp;have hkn:=kd_int hok i hi 0 gk;obtain ⟨bk,okk,hRk,_,hck⟩:=HS.out.k.at 0 gk;rw [hkn,hk0] at hck;subst hRk;simp only [Nat.add_zero,vint] at hck;obtain ⟨bR2,oR2,Sb,sb,Sn,sn,St,st,Sk,sk,hA2,_,hS2,hR2⟩:=HD.out.at k0 g0;injection hA2 with hA2;injection hA2 with z1 z2 _;subst z1;subst z2
    obtain ⟨m0,m1,m2,m3,m4,m5,m6,m7⟩:=hR2;have hpow:=pow256 ds[k0].size.toNat;have htag:=(kids_len hok i hi).2.2.2.1 hk;have htg:=htag.2 _ hown.1.1;have hge:=tagN_get hown.1.1;rw [List.getD_eq_getElem?_getD,List.getElem?_eq_getElem hown.1.1,Option.getD_some] at hge;rw [hge,g5] at htg;have hn0:((v.num.toNat:Nat):Int)=v.num:=Int.toNat_of_nonneg htg.1
    have hnn:v.num.toNat<256^ds[k0].size.toNat:=by omega
    clear htag htg hge
    have CE:Hid (∀ w',Calls Tryz.prog 158 #[.agg #[.string ds[k0].nm,.int .i64 ds[k0].kind,.int .i64 ds[k0].size,.bool ds[k0].little,.slice Sb ds[k0].bytes.length sb,.slice Sn ds[k0].names.length sn,.slice St ds[k0].tags.length st,.slice Sk ds[k0].kids.length sk],.int .i64 v.num] w' fun e w''=>∃ A4 n4 c4,e=.returned (.slice A4 n4 c4)∧OwnL vu8 5 w' w'' (.slice A4 n4 c4) (encI ds[k0] v.num.toNat)∧n4=(encI ds[k0] v.num.toNat).length∧Ext w' w''):=fun w'=>by
     have h:=sEncI_s ds[k0] Sb sb Sn sn St st Sk sk v.num.toNat ⟨g3,g4⟩ hnn w'
     first | rwa [hn0] at h | exact h
    have HEL:Hid ((encI ds[k0] v.num.toNat).length≤4):=by show _≤_;rw [encI_len];omega
    replace m0:=kx m0 e0;replace m1:=kx m1 e0;replace m2:=kx m2 e0;replace m3:=kx m3 e0;replace m4:=kx m4 e0;replace m5:=kx m5 e0;replace m6:=kx m6 e0;replace m7:=kx m7 e0;replace hck:=kx hck e0;have hk0i:(k0:Int)<(ds.length:Int):=by omega
    have hk00:(0:Int)≤(k0:Int):=by omega
    have hkl:(0:Int)<(ds[i].kids.length:Int):=by omega
    have t1:=kfF hk 1;have t2:=kfF hk 2;have t4:=kfF hk 4;have t5:=kfF hk 5;have t7:=kfT hk 7;have t8:=kfF hk 8;have t9:=kfF hk 9;have t10:=kfF hk 10;have t3:=kfF hk 3;have SY:Hid (∀ w',Ext W0 w'→Ext W0 w'∧True):=fun _ h1=>⟨h1,trivial⟩
    have hed:=Ext_drew he;have HXR:Ext wr wr.drew:=Ext_drew (Ext.refl wr)
    generalize hEE:encI ds[k0] v.num.toNat=EE at *;clear hEE;have HPQ:=lhd hpp;clear hpp;have HBD:Hid ((EE.length+l.length)*1≤140737488355328):=by show _≤_;have:=HEL.out;omega
    have HBL:Hid ((EE++l).length≤140737488351232):=by show _≤_;have:=HEL.out;rw [List.length_append];omega
    generalize ds[k0]=rk0 at *;clear hown k1 k3 K0 TB CB2 hkd hk hx0 hk0 hkn g1 g2 g3 g4 g5 hnn;go_wp2_with fail
    go_region_held3 (fun w'=>Ext W0 w'∧True) (first | exact SY.out _ hed | exact SY.out _ (by assumption)) (first
     | (go_at_call 158;have hq:=‹Ext W0 _∧True›;refine (CE.out _).mono ?_;rintro _ w5 ⟨A4,n4,c4,rfl,ho5,hn4,he5⟩;subst hn4;have hE5:=hq.1.trans he5;have HO5:=lhd ho5;have hx5:=he5;clear ho5)
     | (refine step_appH rfl (.tmp 97) (.tmp 98) _ rfl E_u8 (by omega) wr.drew _ vu8 (fun _=>rfl) _ rfl _ _ _ rfl EE l HO5.out hx5 rfl (Rd.src HRI.out (HXR.trans hx5)) HBD.out ?_;intro v7 w7 ho7 he7 hv7 hg7;have hE7:Ext W0 w7:=hed.trans he7;obtain ⟨A7,c7,hv7',_⟩:=OwnL.rd ho7 HBL.out;subst hv7'))
    all_goals
     have HO7:=lhd ho7;have L7:(EE++l).length=EE.length+l.length:=List.length_append
     clear ho7 hg7 hv7
     have HF:Hid (OwnL vu8 5 w w7 (.slice A7 (EE.length+l.length) c7) PP∧EE.length+l.length=PP.length):=by
      show _∧_
      rw [← HPQ.out,← L7];exact ⟨HO7.out.down (by have:=he.size;show w.heap.size≤wr.heap.size;omega),rfl⟩
     clear HO7 L7;go_wp2;go_ret;exact ⟨_,_,_,rfl,HF.out.1,HF.out.2,e0.trans hE7⟩
   ·obtain ⟨Au',cu',hui,hri⟩:=OwnL.rd ho.out (by omega:l.length≤140737488351232)
    injection hui with y1 y2 y3
    subst y1;subst y3;have HRI:=lhd hri;clear hri;unfold wrapV at hpp;rw [if_neg (by omega),if_neg (by omega),if_neg (by omega),if_neg (by omega),if_neg (by omega),if_neg (by omega),if_neg (by omega),if_pos hk] at hpp;unfold ownV at hown;rw [if_neg (by omega),if_neg (by omega),if_neg (by omega),if_neg (by omega),if_neg (by omega),if_neg (by omega),if_neg (by omega),if_pos hk] at hown;simp only [Bool.and_eq_true,beq_iff_eq,decide_eq_true_eq] at hown;subst hpp;have hm1:v.items.length≤1:=hown.2
    have hwm:IntKind.u8.wrap (v.items.length:Int)=(v.items.length:Int):=IntWalk.u8_in _ (by omega)
    have HY:∀ (x:Int),x=((v.items.length%256:Nat):Int)→Hid (#[Value.int .u8 x]=([UInt8.ofNat v.items.length].map vu8).toArray):=by
     intro x hx;show _=_
     have:(UInt8.ofNat v.items.length).toNat=v.items.length%256:=by rw [UInt8.toNat_ofNat']
     simp [vu8,this,hx]
    have HL8:=lhd (own_lit (f:=vu8) (e:=5) (Ext.refl wr) [UInt8.ofNat v.items.length] #[.int .u8 (v.items.length:Int)] (HY _ (by omega)).out 1 rfl (by omega));have xr:=Ext_alloc (.cells #[.int .u8 (v.items.length:Int)] 5) (Ext.refl wr);have HBD:Hid (([UInt8.ofNat v.items.length].length+l.length)*1≤140737488355328):=by show _≤_;simp;omega
    have HBL:Hid (([UInt8.ofNat v.items.length]++l).length≤140737488351232):=by show _≤_;simp;omega
    have t1:=kfF hk 1;have t2:=kfF hk 2;have t4:=kfF hk 4;have t5:=kfF hk 5;have t7:=kfF hk 7;have t8:=kfT hk 8;have t9:=kfF hk 9;have t10:=kfF hk 10;have t3:=kfF hk 3;clear hown k1 k3 K0 TB CB2 hkd hk HY
    go_wp2_with (first
     | (at_builtin;refine wpList_appL rfl (.tmp 106) (.tmp 107) _ rfl E_u8 (by omega) wr _ vu8 (fun _=>rfl) _ rfl _ _ _ rfl [UInt8.ofNat v.items.length] l HL8.out xr rfl (Rd.src HRI.out xr) HBD.out ?_;intro v4 w4 ho4 he4 hv4 hg4;obtain ⟨A4,c4,hvv,_⟩:=OwnL.rd ho4 HBL.out;rw [show ([UInt8.ofNat v.items.length]++l).length=l.length+1 by simp] at hvv;subst hvv;have HO4:=lhd ho4;clear ho4 hv4 hg4))
    go_ret;exact ⟨_,_,_,rfl,HO4.out.down (by have:=he.size;omega),by simp,e0.trans (he.trans he4)⟩
   ·obtain ⟨Au',cu',hui,hri⟩:=OwnL.rd ho.out (by omega:l.length≤140737488351232)
    injection hui with y1 y2 y3
    subst y1;subst y3;have HRI:=lhd hri;clear hri;unfold wrapV at hpp;rw [if_neg (by omega),if_neg (by omega),if_neg (by omega),if_neg (by omega),if_neg (by omega),if_neg (by omega),if_neg (by omega),if_neg (by omega),if_pos hk] at hpp;unfold ownV at hown;rw [if_neg (by omega),if_neg (by omega),if_neg (by omega),if_neg (by omega),if_neg (by omega),if_neg (by omega),if_neg (by omega),if_neg (by omega),if_pos hk] at hown;simp only [Bool.and_eq_true,beq_iff_eq,decide_eq_true_eq] at hown;subst hpp;have CS:=lhd (fun w' (e:Ext wr w')=>sSumOfBytes_c Au l cu w' (HRI.out.ext e))
    have HY:∀ (x:Int),x=((sumB l%256:Nat):Int)→Hid (#[Value.int .u8 x]=([UInt8.ofNat (sumB l)].map vu8).toArray):=by
     intro x hx;show _=_
     have:(UInt8.ofNat (sumB l)).toNat=sumB l%256:=by rw [UInt8.toNat_ofNat']
     simp [vu8,this,hx]
    have HBD:Hid ((l.length+[UInt8.ofNat (sumB l)].length)*1≤140737488355328):=by show _≤_;simp;omega
    have HBL:Hid ((l++[UInt8.ofNat (sumB l)]).length≤140737488351232):=by show _≤_;simp;omega
    have hsm:sumB l%256<256:=Nat.mod_lt _ (by omega)
    generalize hsg:sumB l%256=sm at *;have hwm:IntKind.u8.wrap (sm:Int)=(sm:Int):=IntWalk.u8_in _ (by omega)
    have t1:=kfF hk 1;have t2:=kfF hk 2;have t4:=kfF hk 4;have t5:=kfF hk 5;have t7:=kfF hk 7;have t8:=kfF hk 8;have t9:=kfT hk 9;have t10:=kfF hk 10;have t3:=kfF hk 3;clear hown k1 k3 K0 TB CB2 hkd hk;go_wp2_with fail;refine (CS.out _ (Ext.refl wr)).mono ?_;rintro _ w1 ⟨rfl,he1⟩;have ho1:=lhd (OwnL.ext ho.out he1);have e1:=he.trans he1
    go_wp2_with (first
     | (at_builtin;refine wpList_appN rfl (.tmp 111) (.tmp 115) _ rfl E_u8 (by omega) W0 _ vu8 (fun _=>rfl) _ rfl _ _ rfl l [UInt8.ofNat (sumB l)] _ (HY _ (by omega)).out ho1.out e1 rfl HBD.out ?_;intro v4 w4 ho4 he4;obtain ⟨A4,c4,hvv,_⟩:=OwnL.rd ho4 HBL.out;rw [show (l++[UInt8.ofNat (sumB l)]).length=l.length+1 by simp] at hvv;subst hvv;have HO4:=lhd ho4;clear ho4))
    go_ret;exact ⟨_,_,_,rfl,HO4.out.down (by omega),by simp,e0.trans he4⟩
   ·unfold wrapV at hpp
    rw [if_neg (by omega),if_neg (by omega),if_neg (by omega),if_neg (by omega),if_neg (by omega),if_neg (by omega),if_neg (by omega),if_neg (by omega),if_neg (by omega)] at hpp;unfold ownV at hown;rw [if_neg (by omega),if_neg (by omega),if_neg (by omega),if_neg (by omega),if_neg (by omega),if_neg (by omega),if_neg (by omega),if_neg (by omega),if_neg (by omega)] at hown;simp only [Bool.and_eq_true,beq_iff_eq,decide_eq_true_eq] at hown;obtain ⟨hb92,hlen1⟩:=TB hk;have hgd:ds[i].bytes.getD 0 0=ds[i].bytes[0]'(by omega):=by simp [hlen1]
    rw [hgd] at hpp;obtain rfl:=HL0.out hown.2
    obtain ⟨bb,ob,hRb,_,hcb⟩:=HS.out.b.at 0 (by omega);subst hRb;simp only [Nat.add_zero,vu8] at hcb;have pt:=fun w' (e:Ext W0 w')=>hcb w' (e0.trans e)
    have hl01:(0:Int)<(ds[i].bytes.length:Int):=by omega
    generalize ds[i].bytes[0]'(by omega)=tb at *;have htb8:=tb.toNat_lt;have HPQ:=lhd hpp;have t1:=kfF hk 1;have t2:=kfF hk 2;have t4:=kfF hk 4;have t5:=kfF hk 5;have t7:=kfF hk 7;have t8:=kfF hk 8;have t9:=kfF hk 9;have t10:=kfT hk 10;have t3:=kfF hk 3;clear hown k1 k3 K0 TB CB2 hkd hk hcb hpp hgd hlen1 hb92;go_wp2;go_loopw [8,10] (fun u ix wr2=>∃ (j:Nat) (A2:Option Addr) (c2:Nat) (o:List UInt8),j≤v.bytes.length∧ix=.int .i64 j∧u=.slice A2 o.length c2∧o.length≤2*j∧Hid (o=escB tb (v.bytes.take j))∧Hid (OwnL vu8 5 W0 wr2 (.slice A2 o.length c2) o)∧Ext W0 wr2) (fun _ ix _=>v.bytes.length-(intOf ix).toNat)
    case atStart=>exact ⟨0,Au,cu,[],by omega,rfl,rfl,by simp,by simp [Hid,escB],ho,he⟩
    case round =>
     clear ho he;obtain ⟨j,A2,c2,o,hj,rfl,rfl,hol,ho0,ho,he⟩:=hrel
     by_cases hlt2:j<v.bytes.length
     ·obtain ⟨b2,o2,hA2,hb2,hc2⟩:=HBS.out.at j hlt2
      subst hA2;simp only [vu8] at hc2;have px:=fun w' (e:Ext W0 w')=>hc2 w' (e0.trans e)
      have hst:=escB_take tb v.bytes j hlt2;rw [← ho0.out] at hst;have hxt:=u8_eq v.bytes[j] tb;have hx9:=u8_eq v.bytes[j] 92;rw [show ((92:UInt8).toNat:Int)=92 from rfl] at hx9;have h8:=v.bytes[j].toNat_lt;have hji:(j:Int)<(v.bytes.length:Int):=by omega
      have hj0:(0:Int)≤(j:Int):=by omega
      generalize v.bytes[j]=x at *;have H92:Hid (#[Value.int .u8 92]=([(92:UInt8)].map vu8).toArray):=rfl
      have HX:Hid (#[Value.int .u8 (x.toNat:Int)]=([x].map vu8).toArray):=rfl
      have HB1:∀ y:UInt8,Hid ((o.length+[y].length)*1≤140737488355328):=by intro y;show _≤_;simp;omega
      have HB2':∀ y:UInt8,Hid (((o++[(92:UInt8)]).length+[y].length)*1≤140737488355328):=by intro y;show _≤_;simp;omega
      have HL1:∀ y:UInt8,Hid ((o++[y]).length≤140737488351232):=by intro y;show _≤_;simp;omega
      have HL2:∀ y:UInt8,Hid ((o++[(92:UInt8)]++[y]).length≤140737488351232):=by intro y;show _≤_;simp;omega
      have HST:=lhd hst;clear hst hc2
      by_cases hesc:x=tb∨x=92
      ·have HN:Hid (o++[92]++[x]=escB tb (v.bytes.take (j+1))):=by show _=_;rw [HST.out,if_pos hesc];simp
       have HS2:Hid ((o++[(92:UInt8)]++[x]).length=o.length+1+1):=by show _=_;simp
       have hcond:((x.toNat:Int)==(tb.toNat:Int))=true∨(((x.toNat:Int)==(tb.toNat:Int))=false∧((x.toNat:Int)==92)=true):=by
        rw [hxt,hx9]
        by_cases h:x=tb
        ·left;simp [h]
        ·right;simp [h];rcases hesc with h' | h'
         ·exact absurd h' h
         ·exact h'
       clear hxt hx9 hesc HST;rcases hcond with hxt | ⟨hxt,hx9⟩
       all_goals
        go_wp2_with fail;refine wp_region_quiet_below (by kernel_rfl) (by kernel_rfl) ?_;repeat (go_big_quiet_step (fail))
        refine wpQuiet_nil (qnl ?_);intro w1 ew1;have ho1:=lhd (OwnL.ext ho.out ew1);have e1:=he.trans ew1
        go_wp2_with (first
         | (at_builtin;refine wpList_appN rfl (.tmp 144) (.tmp 145) _ rfl E_u8 (by omega) W0 _ vu8 (fun _=>rfl) _ rfl _ _ rfl o [(92:UInt8)] _ H92.out ho1.out e1 rfl (HB1 _).out ?_;intro v3 w3 ho3 he3;obtain ⟨A3,c3,hvv3,_⟩:=OwnL.rd ho3 (HL1 _).out;rw [show (o++[(92:UInt8)]).length=o.length+1 by simp] at hvv3;subst hvv3;have HO3:=lhd ho3;clear ho3)
         | (at_builtin;refine wpList_appN rfl (.tmp 147) (.tmp 153) _ rfl E_u8 (by omega) W0 _ vu8 (fun _=>rfl) _ rfl _ _ rfl (o++[(92:UInt8)]) [x] _ HX.out HO3.out he3 rfl (HB2' _).out ?_;intro v4 w4 ho4 he4;obtain ⟨A4,c4,hvv4,_⟩:=OwnL.rd ho4 (HL2 _).out;rw [show ((o++[(92:UInt8)])++[x]).length=(o.length+1)+1 by simp] at hvv4;subst hvv4;have HO4:=lhd ho4;clear ho4))
        go_wp2;go_roundw
        case rel=>exact ⟨j+1,A4,c4,o++[92]++[x],by omega,by go_num,by rw [HS2.out],by rw [HS2.out];omega,HN,by rw [HS2.out];exact HO4,he4⟩
        case measure=>simp [intOf];omega
      ·have HN:Hid (o++[x]=escB tb (v.bytes.take (j+1))):=by show _=_;rw [HST.out,if_neg hesc]
       have HS2:Hid ((o++[x]).length=o.length+1):=by show _=_;simp
       rw [decide_eq_false (fun h=>hesc (.inl h))] at hxt;rw [decide_eq_false (fun h=>hesc (.inr h))] at hx9;clear hesc HST;go_wp2_with fail;refine wp_region_quiet_below (by kernel_rfl) (by kernel_rfl) ?_;repeat (go_big_quiet_step (fail))
       refine wpQuiet_nil (qnl ?_);intro w1 ew1;have ho1:=lhd (OwnL.ext ho.out ew1);have e1:=he.trans ew1
       go_wp2_with (first
        | (at_builtin;refine wpList_appN rfl (.tmp 147) (.tmp 153) _ rfl E_u8 (by omega) W0 _ vu8 (fun _=>rfl) _ rfl _ _ rfl o [x] _ HX.out ho1.out e1 rfl (HB1 _).out ?_;intro v4 w4 ho4 he4;obtain ⟨A4,c4,hvv4,_⟩:=OwnL.rd ho4 (HL1 _).out;rw [show (o++[x]).length=o.length+1 by simp] at hvv4;subst hvv4;have HO4:=lhd ho4;clear ho4))
       go_wp2;go_roundw
       case rel=>exact ⟨j+1,A4,c4,o++[x],by omega,by go_num,by rw [HS2.out],by rw [HS2.out];omega,HN,by rw [HS2.out];exact HO4,he4⟩
       case measure=>simp [intOf];omega
     ·obtain rfl:j=v.bytes.length:=by omega
      have ho1:=ho0.out;rw [List.take_length] at ho1;have HS2:Hid ((o++[tb]).length=o.length+1):=by show _=_;simp
      have HX:Hid (#[Value.int .u8 (tb.toNat:Int)]=([tb].map vu8).toArray):=rfl
      have HB1:Hid ((o.length+[tb].length)*1≤140737488355328):=by show _≤_;simp;omega
      have HL1:Hid ((o++[tb]).length≤140737488351232):=by show _≤_;simp;omega
      have HF:Hid (o++[tb]=PP):=by show _=_;rw [← HPQ.out,ho1]
      clear ho1
      go_wp2_with (first
       | (at_builtin;refine wpList_appN rfl (.tmp 155) (.tmp 160) _ rfl E_u8 (by omega) W0 _ vu8 (fun _=>rfl) _ rfl _ _ rfl o [tb] _ HX.out ho.out he rfl HB1.out ?_;intro v4 w4 ho4 he4;obtain ⟨A4,c4,hvv4,_⟩:=OwnL.rd ho4 HL1.out;rw [show (o++[tb]).length=o.length+1 by simp] at hvv4;subst hvv4;have HO4:=lhd ho4;clear ho4))
      go_ret;exact ⟨_,_,_,rfl,by rw [← HF.out];exact HO4.out.down (by omega),by rw [← HF.out,HS2.out],e0.trans he4⟩
theorem sPrint_all (A:Option Addr) (ds:List DRule) (c:Nat) (hok:descOk ds=true):∀ v,sPrintOk A ds c v:=fun v=>DVal.ind (sPrint_of A ds c hok) v
def printF (ds:List DRule) (v:DVal):Option (List UInt8):=if validB ds ((ds.length:Int)-1) v=true∧(printV ds (ds.length-1) v).length≤400 then some (printV ds (ds.length-1) v) else none
def PrOut (ds:List DRule) (v:DVal) (w:World) (e:Ending) (w':World):Prop:=∃ A4 n4 c4,e=.returned (.tuple #[.slice A4 n4 c4,.bool (printF ds v).isSome])∧OwnL vu8 5 w w' (.slice A4 n4 c4) ((printF ds v).getD [])∧n4=((printF ds v).getD []).length∧Ext w w'
end Go.Proofs.YtpmcofmdjckijaaGreat
