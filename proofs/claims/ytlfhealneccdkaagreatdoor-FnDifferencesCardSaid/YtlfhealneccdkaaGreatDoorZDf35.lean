/- Texts, laid into one. -/
import Derived.Test.YtlfhealneccdkaaGreatDoorZDf29
import Derived.Test.YtlfhealneccdkaaGreatDoorZDf32
set_option linter.unusedVariables false
set_option linter.unusedSimpArgs false
set_option maxRecDepth 100000
set_option maxHeartbeats 16000000
namespace Go.Proofs.YtlfhealneccdkaaGreatDoor
open Go.RowKit Go.Sort
theorem iCopyG (y:DVal) (Yb:Option Addr) (yb:Nat) (Yi:Option Addr) (yi:Nat) (w:World) (h:RdV w y Yb yb Yi yi) (hz:szV y≤1048576):Calls Tryz.prog 21 #[.agg #[.int .i64 y.num,.slice Yb y.bytes.length yb,.slice Yi y.items.length yi]] w (GaveV w y):=(iCopy_all y Yb yb Yi yi w h hz).mono fun _ _ h=>GaveV.of h
theorem iFindPart_c (A:Option Addr) (ds:List DRule) (c:Nat) (v:DVal) (Vb:Option Addr) (vb:Nat) (Vi:Option Addr) (vi:Nat) (ss:List ByteArray) (j0:Nat) (y0:DVal) (w:World) (hok:descOk ds=true) (hd:RdD w A ds c) (hs:ShortD ds) (hw:WfD ds) (hv:RdV w v Vb vb Vi vi) (hz:szV v≤1048576) (hval:validV ds (ds.length-1) v=true) (hf:findV ds (ds.length-1) v ss=some (j0,y0)) (hg:∀ s∈ss,goodStep s) (hL:ss.length≤1000) (hT:Tab w) :
 Calls Tryz.prog 23 #[.agg #[.slice A ds.length c],.agg #[.int .i64 v.num,.slice Vb v.bytes.length vb,.slice Vi v.items.length vi],.string (joinB ss)] w (FindOut (some (j0,y0)) w):=by
 have hl:=hd.len;obtain ⟨n,hn⟩:∃ n,ds.length=n+1:=⟨ds.length-1,by have:=(descOk_len hok).1;omega⟩;have hkn:knownB ds (n:Int)=true:=by unfold knownB;simp [hok];omega
 have hvB:=validB_yes hkn v;have hval1:=hval;have hf1:=hf;rw [show ds.length-1=n by omega] at hval1 hf1;rw [hval1] at hvB;obtain ⟨r0,hWk⟩:=findV_walks ss hf;have hz0:szV y0≤1048576:=by have:=hWk.size;omega
 obtain ⟨W0,HW0,BA,BV,BR,eA,hsA⟩:=boxes3' w #[.slice A ds.length c] #[.int .i64 v.num,.slice Vb v.bytes.length vb,.slice Vi v.items.length vi] #[.int .i64 0,.slice none 0 0,.slice none 0 0] 26 29 29;have CR:=lhd (fun w=>show Gives Tryz.prog 16 #[.agg #[.slice A ds.length c]] w (.int .i64 (n:Int)) from by have h:=iRoot_c A ds c w hl;rwa [show (ds.length:Int)-1=(n:Int) by omega] at h);have CS:=lhd (iSplitPath_c ss hg hL W0)
 have CV:Hid (∀ w',Ext w w'→Gives Tryz.prog 17 #[.agg #[.slice A ds.length c],.int .i64 (n:Int),.agg #[.int .i64 v.num,.slice Vb v.bytes.length vb,.slice Vi v.items.length vi]] w' (.bool true)):=fun w' e=>by
  have h:=iValid_c A ds c (n:Int) v Vb vb Vi vi w' (hd.ext e) hs hw (hv.ext e);rw [hvB] at h;exact h
 have CP:Hid (∀ w' As cs,Ext W0 w'→Rd vstr w' As ss cs→Calls Tryz.prog 50 #[.agg #[.slice A ds.length c],.pointer (some ⟨w.heap.size+1,0,none⟩),.slice As ss.length cs] w' (PartOut w' (w.heap.size+1) 0 v r0 y0 j0)):=fun w' As cs e hss =>
  iPartAt_c A ds c hok hs hw v Vb vb Vi vi (w.heap.size+1) 0 ss As cs r0 j0 y0 w' (hd.ext (eA.trans e)) (hv.ext (eA.trans e)) ⟨(BV.ext e).at 0,(BV.ext e).at 1,(BV.ext e).at 2⟩ hval hss hWk (hT.ext (eA.trans e))
 have a0:∀ w',Ext W0 w'→w'.cell? ⟨w.heap.size,0,none⟩=some (.slice A ds.length c):=BA.at 0
 have v0:∀ w',Ext W0 w'→w'.cell? ⟨w.heap.size+1,0,none⟩=some (.int .i64 v.num):=BV.at 0
 have v1:∀ w',Ext W0 w'→w'.cell? ⟨w.heap.size+1,1,none⟩=some (.slice Vb v.bytes.length vb):=BV.at 1
 have v2:∀ w',Ext W0 w'→w'.cell? ⟨w.heap.size+1,2,none⟩=some (.slice Vi v.items.length vi):=BV.at 2
 have BR:=lhd BR;have HSA:=lhd hsA;have EA:=lhd eA;have HZ:=lhd hz0;clear hd hv hval hf hok hkn hvB hval1 hf1 BA BV hsA eA hT hWk hz hz0 hg hn hL;go_enter Tryz.func23,Tryz.ntmps23;go_wp2_with fail;rw [← HW0.out];refine CS.out.mono ?_;rintro _ w1 ⟨As,cs,rfl,hss,e1⟩;clear HW0;replace a0:=kx a0 e1;replace v0:=kx v0 e1;replace v1:=kx v1 e1;replace v2:=kx v2 e1;have E1:=lhd (EA.out.trans e1);have E01:=lhd e1;have HSS:=lhd hss;clear hss CS;go_wp2_with fail;refine wp_region_quiet_below (by kernel_rfl) (by kernel_rfl) ?_;repeat (go_big_quiet_step ((first | (go_at_call 16;exact Calls.regrown_of (CR.out _)) | (go_at_call 17;exact Calls.regrown_of (CV.out _ (E1.out.trans (by first | assumption | exact Ext_regrown _ _ (Ext.refl _))))))))
 refine wpQuiet_nil (qnl ?_);intro w2 ew2;have b0:=a0 _ ew2;go_wp2_with fail;refine (CP.out _ As cs (E01.out.trans ew2) (HSS.out.ext ew2)).mono ?_;rintro _ w3 ⟨g1,o1,Yb,yb,Yi,yi,rfl,_,hy,hat,e3⟩;have c0:=hat.c0 _ e3;have c1:=hat.c1 _ e3;have c2:=hat.c2 _ e3;have E3:=lhd ((E1.out.trans ew2).trans e3);have CC:=lhd (iCopyG y0 Yb yb Yi yi w3 (hy.ext e3) HZ.out);have R3:=lhd (BR.out.ext ((E01.out.trans ew2).trans e3));clear hy hat e3 a0 v0 v1 v2 CP CR CV b0;go_wp2_with fail;refine CC.out.mono ?_;rintro _ w4 ⟨t,A5,n5,c5,A6,n6,c6,rfl,hsh,hgt,e4⟩;have hbs:=fun u hu b hb=>(hgt.own.block u hu b hb)
 have r2:=(R3.out.ext e4).cell;have t2:=(R3.out.ext e4).free;have G:=grown_put3 w4 (w.heap.size+1+1) 0 (.mk y0.num [] (.slice A5 n5 c5) [] (.slice A6 n6 c6));have hlr:=R3.out.lt;have E5:=lhd ((E3.out.trans e4).grown G (fun b hb=>by injection hb with hb;omega));have O5:Hid (GotV w (put3 w4 (w.heap.size+1+1) 0 (.mk y0.num [] (.slice A5 n5 c5) [] (.slice A6 n6 c6))) t y0):=⟨hgt.val,(hgt.own.keep G (fun u hu b hb hh=>by have h1:=(hbs u hu b hb).1;injection hh with hh;omega)).down E3.out.size,hgt.far⟩
 clear hbs G hgt;go_wp2;exact bodyPost_ret (v:=.tuple #[.agg #[.int .i64 y0.num,.slice A5 n5 c5,.slice A6 n6 c6],.int .i64 (j0:Nat),.bool true]) (by simp [results,Tryz.results23,go_sem,r2,t2]) rfl ⟨E5.out,.inr ⟨j0,y0,t,A5,n5,c5,A6,n6,c6,rfl,rfl,hsh,O5.out⟩⟩
theorem edit_cells {W w4:World} {t0:VT} {v y0:DVal} {B g o:Nat} {r0:List Nat} {T:TypeId} (h0:OwnT W w4 t0) (hv:t0.val=v) (hb:Box w4 B #[.int .i64 t0.num,t0.vb,t0.vi] T) (hp:PtrAt w4 B 0 v r0 g o y0) :
 ∀ w',Ext w4 w'→∀ j,j<3→(∃ u,w'.cell? ⟨g,o+j,none⟩=some u)∧w'.frozen? ⟨g,o+j,none⟩=false:=by
 intro w' e j hj;rcases hp.own t0 h0 hv (hb.cell 2) with ⟨_,rfl,rfl,_⟩ | ⟨q,x,hr0,ha,rfl,hx0⟩
 ·refine ⟨?_,by rw [Nat.zero_add];exact hb.frees j w' e⟩
  rw [Nat.zero_add,hb.at j w' e]
  match j,hj with
  | 0,_=>exact ⟨_,rfl⟩
  | 1,_=>exact ⟨_,rfl⟩
  | 2,_=>exact ⟨_,rfl⟩
 ·clear hp hb hv hr0 hx0
  induction ha with
  | here hk hvi =>
   have hi:=(h0.i).ext e;rw [hvi] at hi;exact hi.slot (_*3+j) (by rw [vcells_len];omega)
  | deeper hk hr h ih=>exact ih (h0.kids _ (List.getElem_mem hk))
theorem box_cells {w:World} {B:Nat} {t t':VT} {T:TypeId} (h:t.cells=t'.cells) (hb:Box w B #[.int .i64 t.num,t.vb,t.vi] T):Box w B #[.int .i64 t'.num,t'.vb,t'.vi] T:=by
 have e:(#[.int .i64 t.num,t.vb,t.vi]:Array Value)=#[.int .i64 t'.num,t'.vb,t'.vi]:=congrArg List.toArray h
 rw [← e];exact hb
theorem edit_put {W w4 w5:World} {t0 xt:VT} {v x y0:DVal} {B g o:Nat} {r0:List Nat} {T:TypeId} (h0:OwnT W w4 t0) (hv:t0.val=v) (hf:Far t0.vals) (hlt:∀ u∈t0.vals,∀ b,u.ownBlock=some b→b≠B) (hx:GotV w4 w5 xt x) (hb:Box w4 B #[.int .i64 t0.num,t0.vb,t0.vi] T) (hB:W.heap.size≤B) (hp:PtrAt w4 B 0 v r0 g o y0) (e45:Ext w4 w5) (he:Ext W w4) :
 ∃ T1:VT,Box (put3 w5 g o xt) B #[.int .i64 T1.num,T1.vb,T1.vi] T∧GotV W (put3 w5 g o xt) T1 (v.putP r0 x)∧Ext W (put3 w5 g o xt)∧W.heap.size≤g∧(∀ u∈T1.vals,∀ b,u.ownBlock=some b→b≠B):=by
 have hG:=grown_put3 w5 g o xt;have hxb:∀ u∈xt.vals,∀ b,u.ownBlock=some b→w4.heap.size≤b:=fun u hu b hb=>(hx.own.block u hu b hb).1
 have hBl:=hb.lt;have he5:=he.trans e45;have hs:=he.size;rcases hp.own t0 h0 hv (hb.cell 2) with ⟨rfl,rfl,rfl,_⟩ | ⟨q,xx,hr,ha,rfl,_⟩
 ·refine ⟨xt,(((hb.ext e45).set 0 (.int .i64 xt.num)).set 1 xt.vb).set 2 xt.vi,⟨hx.val,(hx.own.keep hG (fun u hu b hb e=>?_)).down hs,hx.far⟩,he5.grown hG (fun k hk=>by injection hk with hk;omega),hB,fun u hu b hb e=>?_⟩
  ·have:=hxb u hu b hb;injection e with e;omega
  ·have:=hxb u hu b hb;omega
 ·obtain ⟨ug,hug,hbg⟩:=ha.block
  have h1:=(h0.block ug hug g hbg).1;have hgB:=hlt ug hug g hbg
  obtain ⟨a1,a2,a3,a4⟩:=OwnT.putP (hx.own.down hs) hx.far he5 ha (h0.ext e45) hf (fun u hu v hv b hb=>by
   have q1:=hxb u hu b hb;intro q2
   have:=(h0.block v hv b q2).2
   omega)
  refine ⟨t0.putP r0 xt,?_,⟨by rw [putP_val,hv,hx.val],a1,a2⟩,a4,h1,fun u hu b hb=>?_⟩
  ·have hc:(t0.putP r0 xt).cells=t0.cells:=by
    cases r0 with
    | nil=>exact absurd rfl hr
    | cons a b=>exact putP_cells
   have hb5:=(hb.ext e45).moved hG (fun e=>by injection e with e;exact hgB e);exact box_cells hc.symm hb5
  ·rcases a3 u hu with h2 | h2
   ·exact hlt u h2 b hb
   ·have:=hxb u h2 b hb;omega
def PutOut (w:World) (g o:Nat) (x:DVal) (e:Ending) (w':World):Prop:=∃ (w1:World) (t:VT) (A1:Option Addr) (n1 c1:Nat) (A2:Option Addr) (n2 c2:Nat),e=.returned (.bool true)∧Hid (t.vb=.slice A1 n1 c1∧t.vi=.slice A2 n2 c2)∧GotV w w1 t x∧Ext w w1∧w'=put3 w1 g o (.mk x.num [] (.slice A1 n1 c1) [] (.slice A2 n2 c2))
theorem iPutFn_c (A:Option Addr) (ds:List DRule) (c:Nat) (hok:descOk ds=true) (hs:ShortD ds) (hw:WfD ds) (x:DVal) (Xb:Option Addr) (xb:Nat) (Xi:Option Addr) (xi:Nat) (g o j bd bx:Nat) (w:World) (hd:RdD w A ds c) (hx:RdV w x Xb xb Xi xi) (hz:szV x≤1048576) (hval:validV ds j x=true)
 (hbd:∀ w',Ext w w'→w'.cell? ⟨bd,0,none⟩=some (.slice A ds.length c)) (hbx:ValAt w bx 0 x (.slice Xb x.bytes.length xb) (.slice Xi x.items.length xi)) (hc:∀ w',Ext w w'→∀ k,k<3→(∃ u,w'.cell? ⟨g,o+k,none⟩=some u)∧w'.frozen? ⟨g,o+k,none⟩=false) :
 Calls Tryz.prog 48 #[.pointer (some ⟨g,o,none⟩),.int .i64 (j:Int),.pointer (some ⟨bd,0,none⟩),.pointer (some ⟨bx,0,none⟩)] w (PutOut w g o x):=by
 have hjl:=validV_lt hval;have hkn:knownB ds (j:Int)=true:=by unfold knownB;simp [hok];omega
 have CV:Hid (Gives Tryz.prog 17 #[.agg #[.slice A ds.length c],.int .i64 (j:Int),.agg #[.int .i64 x.num,.slice Xb x.bytes.length xb,.slice Xi x.items.length xi]] w (.bool true)):=by
  have h:=iValid_c A ds c (j:Int) x Xb xb Xi xi w hd hs hw hx;rw [validB_yes hkn x,hval] at h;exact h
 have CC:=lhd (fun w' (e:Ext w w')=>iCopyG x Xb xb Xi xi w' (hx.ext e) hz);obtain ⟨x0,x1,x2⟩:=hbx;have b0:=hbd w (Ext.refl _);have y0:=x0 w (Ext.refl _);have y1:=x1 w (Ext.refl _);have y2:=x2 w (Ext.refl _);have HC:=lhd hc;clear hd hx hval hkn hc hok;go_enter Tryz.func48,Tryz.ntmps48;go_wp2_with fail;refine CV.out.mono ?_;rintro _ w1 ⟨rfl,e1⟩;have z0:=x0 w1 e1;have z1:=x1 w1 e1;have z2:=x2 w1 e1;have C1:=lhd (CC.out w1 e1);go_wp2_with fail;refine C1.out.mono ?_;rintro _ w2 ⟨t,A5,n5,c5,A6,n6,c6,rfl,hsh,hgt,e2⟩;have E2:=lhd (e1.trans e2);have HG:=lhd (hgt.down e1.size);obtain ⟨u0,h00⟩:=(HC.out w2 E2.out 0 (by omega)).1;obtain ⟨u1,h01⟩:=(HC.out w2 E2.out 1 (by omega)).1;obtain ⟨u2,h02⟩:=(HC.out w2 E2.out 2 (by omega)).1;have f0:=(HC.out w2 E2.out 0 (by omega)).2;have f1:=(HC.out w2 E2.out 1 (by omega)).2;have f2:=(HC.out w2 E2.out 2 (by omega)).2;rw [Nat.add_zero] at h00 f0;clear hgt CC C1 CV x0 x1 x2 b0 y0 y1 y2 z0 z1 z2 e1 e2;go_wp2;go_ret;exact ⟨w2,t,A5,n5,c5,A6,n6,c6,rfl,hsh,HG.out,E2.out,rfl⟩
theorem box_cells' {W w4:World} {t0:VT} {v:DVal} {B n1 c1 n2 c2:Nat} {A1 A2:Option Addr} {T:TypeId} (h0:GotV W w4 t0 v) (hs0:Hid (t0.vb=.slice A1 n1 c1∧t0.vi=.slice A2 n2 c2)) (hb:Box w4 B #[.int .i64 v.num,.slice A1 n1 c1,.slice A2 n2 c2] T):Box w4 B #[.int .i64 t0.num,t0.vb,t0.vi] T:=by
 rw [hs0.out.1,hs0.out.2,show t0.num=v.num by rw [← h0.val,VT.val_num]];exact hb
theorem edit_out {W w4 w5:World} {t0 xt:VT} {v x y0:DVal} {B g o:Nat} {r0:List Nat} {T:TypeId} {n1 c1 n2 c2 m1 d1 m2 d2:Nat} {A1 A2 B1 B2:Option Addr} (h0:GotV W w4 t0 v) (hs0:t0.vb=.slice A1 n1 c1∧t0.vi=.slice A2 n2 c2) (hlt:∀ u∈t0.vals,∀ b,u.ownBlock=some b→b≠B) (hx:GotV w4 w5 xt x) (hsx:xt.vb=.slice B1 m1 d1∧xt.vi=.slice B2 m2 d2) (hb:Box w4 B #[.int .i64 v.num,.slice A1 n1 c1,.slice A2 n2 c2] T) (hB:W.heap.size≤B) (hp:PtrAt w4 B 0 v r0 g o y0) (e45:Ext w4 w5) (he:Ext W w4) :
 ∃ (T1:VT) (P1:Option Addr) (p1 q1:Nat) (P2:Option Addr) (p2 q2:Nat),Hid (T1.vb=.slice P1 p1 q1∧T1.vi=.slice P2 p2 q2)∧Hid (Box (put3 w5 g o (.mk x.num [] (.slice B1 m1 d1) [] (.slice B2 m2 d2))) B #[.int .i64 (v.putP r0 x).num,.slice P1 p1 q1,.slice P2 p2 q2] T)∧Hid (GotV W (put3 w5 g o (.mk x.num [] (.slice B1 m1 d1) [] (.slice B2 m2 d2))) T1 (v.putP r0 x))∧Hid (Ext W (put3 w5 g o (.mk x.num [] (.slice B1 m1 d1) [] (.slice B2 m2 d2))))∧Hid (W.heap.size≤g):=by
 have hput:put3 w5 g o (.mk x.num [] (.slice B1 m1 d1) [] (.slice B2 m2 d2))=put3 w5 g o xt:=by
  unfold put3;rw [hsx.1,hsx.2,show xt.num=x.num by rw [← hx.val,VT.val_num]]
  rfl
 have hn:v.num=t0.num:=by rw [← h0.val,VT.val_num]
 rw [hput];obtain ⟨T1,a1,a2,a3,a4,_⟩:=edit_put h0.own h0.val h0.far hlt hx (by rw [← hn,hs0.1,hs0.2];exact hb) hB hp e45 he;obtain ⟨P1,p1,q1,P2,p2,q2,b1,b2⟩:=a2.shape;refine ⟨T1,P1,p1,q1,P2,p2,q2,⟨b1,b2⟩,?_,a2,a3,a4⟩;have hn2:T1.num=(v.putP r0 x).num:=by rw [← a2.val,VT.val_num]
 rw [hn2,b1,b2] at a1;exact a1
theorem iEdit_c (A:Option Addr) (ds:List DRule) (c:Nat) (hok:descOk ds=true) (hs:ShortD ds) (hw:WfD ds) (v x z:DVal) (Vb:Option Addr) (vb:Nat) (Vi:Option Addr) (vi:Nat) (Xb:Option Addr) (xb:Nat) (Xi:Option Addr) (xi:Nat) (ss:List ByteArray) (bd bx:Nat) (w:World) (hd:RdD w A ds c) (hv:RdV w v Vb vb Vi vi) (hx:RdV w x Xb xb Xi xi) (hz:szV v≤1048576) (hzx:szV x≤1048576) (hval:validV ds (ds.length-1) v=true) (hr:replV ds (ds.length-1) v ss x=some z) (hg:∀ s∈ss,goodStep s) (hL:ss.length≤1000) (hT:Tab w)
 (hbd:∀ w',Ext w w'→w'.cell? ⟨bd,0,none⟩=some (.slice A ds.length c)) (hbx:ValAt w bx 0 x (.slice Xb x.bytes.length xb) (.slice Xi x.items.length xi)) :
 Calls Tryz.prog 47 #[.agg #[.slice A ds.length c],.agg #[.int .i64 v.num,.slice Vb v.bytes.length vb,.slice Vi v.items.length vi],.string (joinB ss),.func (.func 48) #[] #[.pointer (some ⟨bd,0,none⟩),.pointer (some ⟨bx,0,none⟩)]] w (ReplOut w z):=by
 have hl:=hd.len;obtain ⟨n,hn⟩:∃ n,ds.length=n+1:=⟨ds.length-1,by have:=(descOk_len hok).1;omega⟩;have hkn:knownB ds (n:Int)=true:=by unfold knownB;simp [hok];omega
 have hvB:=validB_yes hkn v;have hval1:=hval;rw [show ds.length-1=n by omega] at hval1;rw [hval1] at hvB;obtain ⟨r0,j0,y0,hWk,hxv,rfl⟩:=replV_walks ss hr;obtain ⟨W0,HW0,BA,BV,BR,eA,hsA⟩:=boxes3' w #[.slice A ds.length c] #[.int .i64 v.num,.slice Vb v.bytes.length vb,.slice Vi v.items.length vi] #[.int .i64 0,.slice none 0 0,.slice none 0 0] 26 29 29;have CR:=lhd (fun w=>show Gives Tryz.prog 16 #[.agg #[.slice A ds.length c]] w (.int .i64 (n:Int)) from by have h:=iRoot_c A ds c w hl;rwa [show (ds.length:Int)-1=(n:Int) by omega] at h);have CS:=lhd (iSplitPath_c ss hg hL W0)
 have CV:Hid (∀ w',Ext w w'→Gives Tryz.prog 17 #[.agg #[.slice A ds.length c],.int .i64 (n:Int),.agg #[.int .i64 v.num,.slice Vb v.bytes.length vb,.slice Vi v.items.length vi]] w' (.bool true)):=fun w' e=>by
  have h:=iValid_c A ds c (n:Int) v Vb vb Vi vi w' (hd.ext e) hs hw (hv.ext e);rw [hvB] at h;exact h
 have CC:=lhd (fun w' (e:Ext w w')=>iCopyG v Vb vb Vi vi w' (hv.ext e) hz)
 have CP:Hid (∀ w' B As cs Yb yb Yi yi,Ext w w'→Rd vstr w' As ss cs→RdV w' v Yb yb Yi yi→ValAt w' B 0 v (.slice Yb v.bytes.length yb) (.slice Yi v.items.length yi)→Calls Tryz.prog 50 #[.agg #[.slice A ds.length c],.pointer (some ⟨B,0,none⟩),.slice As ss.length cs] w' (PartOut w' B 0 v r0 y0 j0)):=fun w' B As cs Yb yb Yi yi e hss hy hat =>
  iPartAt_c A ds c hok hs hw v Yb yb Yi yi B 0 ss As cs r0 j0 y0 w' (hd.ext e) hy hat hval hss hWk (hT.ext e)
 have CFN:Hid (∀ w' g o,Ext w w'→(∀ w'',Ext w' w''→∀ k,k<3→(∃ u,w''.cell? ⟨g,o+k,none⟩=some u)∧w''.frozen? ⟨g,o+k,none⟩=false)→Calls Tryz.prog 48 #[.pointer (some ⟨g,o,none⟩),.int .i64 (j0:Int),.pointer (some ⟨bd,0,none⟩),.pointer (some ⟨bx,0,none⟩)] w' (PutOut w' g o x)):=fun w' g o e hc =>
  iPutFn_c A ds c hok hs hw x Xb xb Xi xi g o j0 bd bx w' (hd.ext e) (hx.ext e) hzx hxv (fun w'' e2=>hbd w'' (e.trans e2)) ⟨fun w'' e2=>hbx.c0 w'' (e.trans e2),fun w'' e2=>hbx.c1 w'' (e.trans e2),fun w'' e2=>hbx.c2 w'' (e.trans e2)⟩ hc
 have a0:∀ w',Ext W0 w'→w'.cell? ⟨w.heap.size,0,none⟩=some (.slice A ds.length c):=BA.at 0
 have v0:∀ w',Ext W0 w'→w'.cell? ⟨w.heap.size+1,0,none⟩=some (.int .i64 v.num):=BV.at 0
 have v1:∀ w',Ext W0 w'→w'.cell? ⟨w.heap.size+1,1,none⟩=some (.slice Vb v.bytes.length vb):=BV.at 1
 have v2:∀ w',Ext W0 w'→w'.cell? ⟨w.heap.size+1,2,none⟩=some (.slice Vi v.items.length vi):=BV.at 2
 have BR:=lhd BR;have HSA:=lhd hsA;have EA:=lhd eA;have HZ:=lhd hz;clear hd hv hx hval hok hkn hvB hval1 BA BV hsA eA hT hWk hz hzx hg hn hL hxv hbd hbx hr;go_enter Tryz.func47,Tryz.ntmps47;go_wp2_with fail;rw [← HW0.out];refine CS.out.mono ?_;rintro _ w1 ⟨As,cs,rfl,hss,e1⟩;clear HW0;replace a0:=kx a0 e1;replace v0:=kx v0 e1;replace v1:=kx v1 e1;replace v2:=kx v2 e1;have E1:=lhd (EA.out.trans e1);have E01:=lhd e1;have HSS:=lhd hss;clear hss CS;go_wp2_with fail;refine wp_region_quiet_below (by kernel_rfl) (by kernel_rfl) ?_;repeat (go_big_quiet_step ((first | (go_at_call 16;exact Calls.regrown_of (CR.out _)) | (go_at_call 17;exact Calls.regrown_of (CV.out _ (E1.out.trans (by first | assumption | exact Ext_regrown _ _ (Ext.refl _))))))))
 refine wpQuiet_nil (qnl ?_);intro w2 ew2;have b0:=v0 _ ew2;have b1:=v1 _ ew2;have b2:=v2 _ ew2;have C2:=lhd (CC.out w2 (E1.out.trans ew2));go_wp2_with fail;refine C2.out.mono ?_;rintro _ w3 ⟨t0,A5,n5,c5,A6,n6,c6,rfl,hsh0,hgt0,e3⟩;have E13:=lhd (ew2.trans e3);have E03:=lhd (E01.out.trans E13.out);have XW3:=lhd (EA.out.trans E03.out);obtain ⟨W4,hW4⟩:∃ W4,W4=w3.alloc (.cells #[.int .i64 v.num,.slice A5 n5 c5,.slice A6 n6 c6] 29):=⟨_,rfl⟩;have HW4:=lhd hW4;have B4:Hid (Box W4 w3.heap.size #[.int .i64 v.num,.slice A5 n5 c5,.slice A6 n6 c6] 29):=by rw [hW4];exact Box.new _ _ _
 have E34:Hid (Ext w3 W4):=by rw [hW4];exact Ext_alloc _ (Ext.refl _)
 have G4:=lhd ((hgt0.down (show W0.heap.size≤w2.heap.size from (E01.out.trans ew2).size)).ext E34.out);have LT0:Hid (∀ u∈t0.vals,∀ b,u.ownBlock=some b→b≠w3.heap.size):=fun u hu b hb=>by have:=(hgt0.own.block u hu b hb).2;omega
 obtain ⟨Yb,yb,Yi,yi,k1,k2,hyr⟩:=hgt0.rd (by have:=HZ.out;omega);have s1:=hsh0.out.1;have s2:=hsh0.out.2;rw [k1] at s1;rw [k2] at s2;injection s1 with s1 s3 s4;injection s2 with s2 s5 s6
 subst s1;subst s3;subst s4;subst s2;subst s5;subst s6;have HYR:=lhd (hyr.ext E34.out);have VA4:Hid (ValAt W4 w3.heap.size 0 v (.slice Yb v.bytes.length yb) (.slice Yi v.items.length yi)):=⟨B4.out.at 0,B4.out.at 1,B4.out.at 2⟩
 have CP4:=lhd (CP.out W4 w3.heap.size As cs Yb yb Yi yi (XW3.out.trans E34.out) ((HSS.out.ext E13.out).ext E34.out) HYR.out VA4.out);have a4:W4.cell? ⟨w.heap.size,0,none⟩=some (.slice A ds.length c):=a0 _ (E13.out.trans E34.out)
 have a4':(w3.alloc (.cells #[.int .i64 v.num,.slice Yb v.bytes.length yb,.slice Yi v.items.length yi] 29)).cell? ⟨w.heap.size,0,none⟩=some (.slice A ds.length c):=by rw [← hW4];exact a4
 clear hW4 hgt0 hyr CC C2 CR CV CP b0 b1 b2 v0 v1 v2 a0 e3 k1 k2;go_wp2_with fail;rw [← HW4.out];refine CP4.out.mono ?_;rintro _ w5 ⟨g1,o1,Zb,zb,Zi,zi,rfl,hp,hy,hat,e5⟩;have HP:=lhd hp;have HCE:=lhd (edit_cells (G4.out.own) G4.out.val (box_cells' G4.out hsh0 B4.out) hp);have C5:=lhd (CFN.out w5 g1 o1 ((XW3.out.trans E34.out).trans e5) (fun w'' e2=>HCE.out w'' (e5.trans e2)));clear hp hy hat CFN CP4 a4 a4' HW4;go_wp2_with fail;refine C5.out.mono ?_;rintro _ w6 ⟨w7,xt,B1,m1,d1,B2,m2,d2,rfl,hshx,hgx,e7,hw6⟩;obtain ⟨T1,P1,p1,q1,P2,p2,q2,HS1,HB1,HG1,HE1,HLG⟩:=edit_out G4.out hsh0.out LT0.out (hgx.down e5.size) hshx.out B4.out (by have:=E03.out.size;omega) HP.out (e5.trans e7) (E03.out.trans E34.out);rw [← hw6] at HB1 HG1 HE1
 have R6:Hid (Box w6 (w.heap.size+1+1) #[.int .i64 0,.slice none 0 0,.slice none 0 0] 29):=by
  rw [hw6];exact (BR.out.ext ((E03.out.trans E34.out).trans (e5.trans e7))).moved (grown_put3 _ _ _ _) (by intro hh;injection hh with hh;have:=HLG.out;have:=HSA.out;omega)
 clear hw6 hgx hshx C5 HCE HP VA4 HYR hsh0 G4 LT0 B4 e5 e7;generalize v.putP r0 x=z at *;have k0:=HB1.out.cell 0;have k1:=HB1.out.cell 1;have k2:=HB1.out.cell 2;have r2:=R6.out.cell;have t2:=R6.out.free;have G:=grown_put3 w6 (w.heap.size+1+1) 0 (.mk z.num [] (.slice P1 p1 q1) [] (.slice P2 p2 q2));have hR0:w.heap.size+1+1<W0.heap.size:=by have:=HSA.out;omega
 have E6:=lhd ((EA.out.trans HE1.out).grown G (fun b hb=>by injection hb with hb;omega));have O6:Hid (GotV w (put3 w6 (w.heap.size+1+1) 0 (.mk z.num [] (.slice P1 p1 q1) [] (.slice P2 p2 q2))) T1 z):=⟨HG1.out.val,(HG1.out.own.keep G (fun u hu b hb hh=>by have h1:=(HG1.out.own.block u hu b hb).1;injection hh with hh;omega)).down EA.out.size,HG1.out.far⟩
 clear G HB1 R6 E13 E03 XW3 E34 e1 ew2 BR;go_wp2;exact bodyPost_ret (v:=.tuple #[.agg #[.int .i64 z.num,.slice P1 p1 q1,.slice P2 p2 q2],.bool true]) (by simp [results,Tryz.results47,go_sem,r2,t2]) rfl ⟨T1,P1,p1,q1,P2,p2,q2,rfl,HS1,O6.out,E6.out⟩
theorem iRepl_c (A:Option Addr) (ds:List DRule) (c:Nat) (hok:descOk ds=true) (hs:ShortD ds) (hw:WfD ds) (v x z:DVal) (Vb:Option Addr) (vb:Nat) (Vi:Option Addr) (vi:Nat) (Xb:Option Addr) (xb:Nat) (Xi:Option Addr) (xi:Nat) (ss:List ByteArray) (w:World) (hd:RdD w A ds c) (hv:RdV w v Vb vb Vi vi) (hx:RdV w x Xb xb Xi xi) (hz:szV v≤1048576) (hzx:szV x≤1048576) (hval:validV ds (ds.length-1) v=true) (hr:replV ds (ds.length-1) v ss x=some z) (hg:∀ s∈ss,goodStep s) (hL:ss.length≤1000) (hT:Tab w) :
 Calls Tryz.prog 22 #[.agg #[.slice A ds.length c],.agg #[.int .i64 v.num,.slice Vb v.bytes.length vb,.slice Vi v.items.length vi],.string (joinB ss),.agg #[.int .i64 x.num,.slice Xb x.bytes.length xb,.slice Xi x.items.length xi]] w (ReplOut w z):=by
 have hl:=hd.len;obtain ⟨W0,W1,HW0,HW1,BA,BV,BX,BR,eA,e01,hs0,hs1⟩:=boxes4' w #[.slice A ds.length c] #[.int .i64 v.num,.slice Vb v.bytes.length vb,.slice Vi v.items.length vi] #[.int .i64 x.num,.slice Xb x.bytes.length xb,.slice Xi x.items.length xi] #[.int .i64 0,.slice none 0 0,.slice none 0 0] 26 29 29 29;have x1:=eA.trans e01;have BA1:=BA.ext e01;have BV1:=BV.ext e01;have BX1:=BX.ext e01;have CE:=lhd (iEdit_c A ds c hok hs hw v x z Vb vb Vi vi Xb xb Xi xi ss w.heap.size (w.heap.size+1+1) W1 (hd.ext x1) (hv.ext x1) (hx.ext x1) hz hzx hval hr hg hL (hT.ext x1) (BA1.at 0) ⟨BX1.at 0,BX1.at 1,BX1.at 2⟩);have a0:=BA1.cell 0;have b0:=BV1.cell 0;have b1:=BV1.cell 1;have b2:=BV1.cell 2;have BR:=lhd BR;have X1:=lhd x1;have HS1:=lhd hs1;clear hd hv hx hval hr hT BA BV BX BA1 BV1 BX1 eA e01 x1 hs0 hs1 hok hz hzx hg hL;go_enter Tryz.func22,Tryz.ntmps22;go_wp2_with fail;rw [← HW0.out,← HW1.out];refine CE.out.mono ?_;rintro _ w4 ⟨t,A5,n5,c5,A6,n6,c6,rfl,hsh,hgt,e4⟩;have r2:=(BR.out.ext e4).cell;have t2:=(BR.out.ext e4).free;have G:=grown_put3 w4 (w.heap.size+1+1+1) 0 (.mk z.num [] (.slice A5 n5 c5) [] (.slice A6 n6 c6));have hlr:=BR.out.lt;have E5:=lhd ((X1.out.trans e4).grown G (fun b hb=>by injection hb with hb;omega));have O5:Hid (GotV w (put3 w4 (w.heap.size+1+1+1) 0 (.mk z.num [] (.slice A5 n5 c5) [] (.slice A6 n6 c6))) t z):=⟨hgt.val,(hgt.own.keep G (fun u hu b hb hh=>by have h1:=(hgt.own.block u hu b hb).1;injection hh with hh;omega)).down X1.out.size,hgt.far⟩
 clear G hgt a0 b0 b1 b2;go_wp2;exact bodyPost_ret (v:=.tuple #[.agg #[.int .i64 z.num,.slice A5 n5 c5,.slice A6 n6 c6],.bool true]) (by simp [results,Tryz.results22,go_sem,r2,t2]) rfl ⟨t,A5,n5,c5,A6,n6,c6,rfl,hsh,O5.out,E5.out⟩
def joinC (cs:List (List ByteArray × DVal)):List (ByteArray × DVal):=cs.map fun c=>(joinB c.1,c.2)
theorem joinC_len (cs:List (List ByteArray × DVal)):(joinC cs).length=cs.length:=by simp [joinC]
theorem GotV.rdAt {w0 w:World} {t:VT} {y:DVal} {A1 A2:Option Addr} {n1 c1 n2 c2:Nat} (h:GotV w0 w t y) (hs:Hid (t.vb=.slice A1 n1 c1∧t.vi=.slice A2 n2 c2)) (hz:szV y≤140737488351232):n1=y.bytes.length∧n2=y.items.length∧RdV w y A1 c1 A2 c2:=by
 obtain ⟨Yb,yb,Yi,yi,k1,k2,hr⟩:=h.rd hz;have s1:=hs.out.1;have s2:=hs.out.2;rw [k1] at s1;rw [k2] at s2;injection s1 with s1 s3 s4;injection s2 with s2 s5 s6
 subst s1;subst s4;subst s2;subst s6;exact ⟨s3.symm,s5.symm,hr⟩
theorem iApply_c (A:Option Addr) (ds:List DRule) (c:Nat) (hok:descOk ds=true) (hs:ShortD ds) (hw:WfD ds) (v z:DVal) (Vb:Option Addr) (vb:Nat) (Vi:Option Addr) (vi:Nat) (cs:List (List ByteArray × DVal)) (C:Option Addr) (cc:Nat) (w:World) (hd:RdD w A ds c) (hv:RdV w v Vb vb Vi vi) (hc:RdC w C (joinC cs) cc) (hz:szV v+szC cs≤1048576) (hval:validV ds (ds.length-1) v=true) (ha:applyS ds (ds.length-1) v cs=some z) (hg:∀ c∈cs,(∀ s∈c.1,goodStep s)∧c.1.length≤1000) (hT:Tab w) :
 Calls Tryz.prog 8 #[.agg #[.slice A ds.length c],.agg #[.int .i64 v.num,.slice Vb v.bytes.length vb,.slice Vi v.items.length vi],.slice C cs.length cc] w (ReplOut w z):=by
 have hl:=hd.len;have hcl:cs.length≤9223372036854775807:=by have:=hc.len;rwa [joinC_len] at this
 obtain ⟨W0,HW0,BA,BV,BR,eA,hsA⟩:=boxes3' w #[.slice A ds.length c] #[.int .i64 v.num,.slice Vb v.bytes.length vb,.slice Vi v.items.length vi] #[.int .i64 0,.slice none 0 0,.slice none 0 0] 26 29 29;have CC:=lhd (iCopyG v Vb vb Vi vi W0 (hv.ext eA) (by omega))
 have CRP:Hid (∀ (y x y':DVal) (Yb:Option Addr) (yb:Nat) (Yi:Option Addr) (yi:Nat) (Xb:Option Addr) (xb:Nat) (Xi:Option Addr) (xi:Nat) (ss:List ByteArray) (w':World),Ext w w'→RdV w' y Yb yb Yi yi→RdV w' x Xb xb Xi xi→szV y≤1048576→szV x≤1048576→validV ds (ds.length-1) y=true→replV ds (ds.length-1) y ss x=some y'→(∀ s∈ss,goodStep s)→ss.length≤1000 →
  Calls Tryz.prog 22 #[.agg #[.slice A ds.length c],.agg #[.int .i64 y.num,.slice Yb y.bytes.length yb,.slice Yi y.items.length yi],.string (joinB ss),.agg #[.int .i64 x.num,.slice Xb x.bytes.length xb,.slice Xi x.items.length xi]] w' (ReplOut w' y')) :=
  fun y x y' Yb yb Yi yi Xb xb Xi xi ss w' e hy hx h1 h2 h3 h4 h5 h6=>iRepl_c A ds c hok hs hw y x y' Yb yb Yi yi Xb xb Xi xi ss w' (hd.ext e) hy hx h1 h2 h3 h4 h5 h6 (hT.ext e)
 generalize ds.length-1=n at *;have HC:=lhd hc;have HG:=lhd hg;have v0:=BV.cell 0;have v1:=BV.cell 1;have v2:=BV.cell 2;have BA:=lhd BA;have BR:=lhd BR;have EA:=lhd eA;have HSA:=lhd hsA;have HA:=lhd ha;have HVAL:=lhd hval;have HZ:=lhd hz;clear hd hv hc hg hT hok BV eA hsA hval ha hz;go_enter Tryz.func8,Tryz.ntmps8;go_wp2_with fail;rw [← HW0.out];refine CC.out.mono ?_;rintro _ w1 ⟨t0,A5,n5,c5,A6,n6,c6,rfl,hsh0,hgt0,e1⟩;obtain ⟨q1,q2,_⟩:=hgt0.rdAt hsh0 (by have:=HZ.out;omega);subst q1;subst q2;obtain ⟨W2,hW2⟩:∃ W2,W2=w1.alloc (.cells #[.int .i64 v.num,.slice A5 v.bytes.length c5,.slice A6 v.items.length c6] 29):=⟨_,rfl⟩;have HW2:=lhd hW2;have B2:Hid (Box W2 w1.heap.size #[.int .i64 v.num,.slice A5 v.bytes.length c5,.slice A6 v.items.length c6] 29):=by rw [hW2];exact Box.new _ _ _
 have E12:Hid (Ext w1 W2):=by rw [hW2];exact Ext_alloc _ (Ext.refl _)
 have E02:=lhd (e1.trans E12.out);have G2:=lhd (hgt0.ext E12.out);have LT0:Hid (∀ u∈t0.vals,∀ b,u.ownBlock=some b→b≠w1.heap.size):=fun u hu b hb=>by have:=(hgt0.own.block u hu b hb).2;omega
 have LW1:=lhd e1.size;clear hW2 hgt0 CC v0 v1 v2;go_wp2_with fail;rw [← HW2.out];go_loopw [17] (fun ix wr=>∃ (k:Nat) (y:DVal) (t:VT) (Yb:Option Addr) (yb:Nat) (Yi:Option Addr) (yi:Nat),k≤cs.length∧ix=.int .i64 k∧Hid (applyS ds n y (cs.drop k)=some z∧validV ds n y=true∧szV y+szC (cs.drop k)≤1048576)∧Hid (t.vb=.slice Yb y.bytes.length yb∧t.vi=.slice Yi y.items.length yi)∧Hid (GotV W0 wr t y)∧Hid (∀ u∈t.vals,∀ b,u.ownBlock=some b→b≠w1.heap.size)∧Hid (Box wr w1.heap.size #[.int .i64 y.num,.slice Yb y.bytes.length yb,.slice Yi y.items.length yi] 29)∧Hid (Ext W0 wr)) (fun ix _=>cs.length-(intOf ix).toNat)
 case atStart=>exact ⟨0,v,t0,A5,c5,A6,c6,by omega,rfl,⟨by rw [List.drop_zero];exact HA.out,HVAL.out,by rw [List.drop_zero];exact HZ.out⟩,hsh0,G2.out,LT0.out,B2.out,E02.out⟩
 case round =>
  obtain ⟨k,y,t,Yb,yb,Yi,yi,hk,rfl,hap,hsh,hgt,hlt,hbx,he⟩:=hrel;clear G2 LT0 B2 hsh0 HW2;have a0:∀ w',Ext wr w'→w'.cell? ⟨w.heap.size,0,none⟩=some (.slice A ds.length c):=(BA.out.ext he.out).at 0
  have y0:∀ w',Ext wr w'→w'.cell? ⟨w1.heap.size,0,none⟩=some (.int .i64 y.num):=hbx.out.at 0
  have y1:∀ w',Ext wr w'→w'.cell? ⟨w1.heap.size,1,none⟩=some (.slice Yb y.bytes.length yb):=hbx.out.at 1
  have y2:∀ w',Ext wr w'→w'.cell? ⟨w1.heap.size,2,none⟩=some (.slice Yi y.items.length yi):=hbx.out.at 2
  have EW:=lhd (EA.out.trans he.out)
  by_cases hlk:k<cs.length
  ·have hki:(k:Int)<(cs.length:Int):=by omega
   obtain ⟨b,off,Xb,xb,Xi,xi,hC,_,hxr,hxc⟩:=HC.out.get k (by rw [joinC_len];exact hlk);have hjk:(joinC cs)[k]'(by rw [joinC_len];exact hlk)=(joinB cs[k].1,cs[k].2):=by simp [joinC]
   rw [hjk] at hxr hxc;dsimp only at hxr hxc;subst hC;obtain ⟨hap1,hap2,hap3⟩:=hap.out;rw [List.drop_eq_getElem_cons hlk,applyS,Option.bind_eq_some_iff] at hap1;rw [List.drop_eq_getElem_cons hlk,szC_cons] at hap3;obtain ⟨y',hr1,hr2⟩:=hap1;have hg1:=HG.out cs[k] (List.getElem_mem hlk);generalize cs[k]=ch at *;obtain ⟨ss,x⟩:=ch;dsimp only at *;have hzz:=sz_repl ss n y x y' hr1;have hvv:=(replV_ok ds _ _ _ _ _ hap2 hr1).1;have HAP:Hid (applyS ds n y' (cs.drop (k+1))=some z∧validV ds n y'=true∧szV y'+szC (cs.drop (k+1))≤1048576):=⟨hr2,hvv,by omega⟩
   have p0:∀ w',Ext wr w'→w'.cell? ⟨b,off+k*4,none⟩=some (.string (joinB ss)):=fun w' e=>hxc w' (EW.out.trans e) 0 (by omega)
   have p1:∀ w',Ext wr w'→w'.cell? ⟨b,off+k*4+1,none⟩=some (.int .i64 x.num):=fun w' e=>hxc w' (EW.out.trans e) 1 (by omega)
   have p2:∀ w',Ext wr w'→w'.cell? ⟨b,off+k*4+2,none⟩=some (.slice Xb x.bytes.length xb):=fun w' e=>hxc w' (EW.out.trans e) 2 (by omega)
   have p3:∀ w',Ext wr w'→w'.cell? ⟨b,off+k*4+3,none⟩=some (.slice Xi x.items.length xi):=fun w' e=>hxc w' (EW.out.trans e) 3 (by omega)
   obtain ⟨_,_,hyr⟩:=hgt.out.rdAt hsh (by omega);obtain ⟨W3,hW3⟩:∃ W3,W3=wr.alloc (.cells #[.string (joinB ss),.int .i64 x.num,.slice Xb x.bytes.length xb,.slice Xi x.items.length xi] 41):=⟨_,rfl⟩;have HW3:=lhd hW3;have E3:Hid (Ext wr W3):=by rw [hW3];exact Ext_alloc _ (Ext.refl _)
   have C3:=lhd (CRP.out y x y' Yb yb Yi yi Xb xb Xi xi ss W3 (EW.out.trans E3.out) (hyr.ext E3.out) (hxr.ext (EW.out.trans E3.out)) (by omega) (by omega) hap2 hr1 hg1.1 hg1.2);have hzy:szV y'≤1048576:=by omega
   clear hW3 hxr hxc hap hap2 hap3 hr1 hr2 hzz hvv hyr hjk CRP hg1 hsh hlt;go_wp2_with fail;rw [← HW3.out];refine C3.out.mono ?_;rintro _ w4 ⟨t',A7,n7,c7,A8,n8,c8,rfl,hsh',hgt',e4⟩;obtain ⟨q1,q2,_⟩:=hgt'.rdAt hsh' (by omega);subst q1;subst q2;have X4:=E3.out.trans e4;have B4:=hbx.out.ext X4;have y0':=B4.at 0;have y1':=B4.at 1;have y2':=B4.at 2;have f0:∀ w',Ext w4 w'→w'.frozen? ⟨w1.heap.size,0,none⟩=false:=B4.frees 0
   have f1:∀ w',Ext w4 w'→w'.frozen? ⟨w1.heap.size,1,none⟩=false:=B4.frees 1
   have f2:∀ w',Ext w4 w'→w'.frozen? ⟨w1.heap.size,2,none⟩=false:=B4.frees 2
   have G5:=grown_put3 (w4.alloc (.cells #[.int .i64 y'.num,.slice A7 y'.bytes.length c7,.slice A8 y'.items.length c8] 29)) w1.heap.size 0 (.mk y'.num [] (.slice A7 y'.bytes.length c7) [] (.slice A8 y'.items.length c8));have E45:=Ext_alloc (.cells #[.int .i64 y'.num,.slice A7 y'.bytes.length c7,.slice A8 y'.items.length c8] 29) (Ext.refl w4);have hl1:=LW1.out;have hl3:=hbx.out.lt;have hl4:=E3.out.size;have LT5:Hid (∀ u∈t'.vals,∀ b,u.ownBlock=some b→b≠w1.heap.size):=fun u hu b hb=>by have:=(hgt'.own.block u hu b hb).1;omega
   have B5:Hid (Box (put3 (w4.alloc (.cells #[.int .i64 y'.num,.slice A7 y'.bytes.length c7,.slice A8 y'.items.length c8] 29)) w1.heap.size 0 (.mk y'.num [] (.slice A7 y'.bytes.length c7) [] (.slice A8 y'.items.length c8))) w1.heap.size #[.int .i64 y'.num,.slice A7 y'.bytes.length c7,.slice A8 y'.items.length c8] 29):=(((B4.ext E45).set 0 (.int .i64 y'.num)).set 1 (.slice A7 y'.bytes.length c7)).set 2 (.slice A8 y'.items.length c8)
   have O5:Hid (GotV W0 (put3 (w4.alloc (.cells #[.int .i64 y'.num,.slice A7 y'.bytes.length c7,.slice A8 y'.items.length c8] 29)) w1.heap.size 0 (.mk y'.num [] (.slice A7 y'.bytes.length c7) [] (.slice A8 y'.items.length c8))) t' y'):=⟨hgt'.val,((hgt'.own.ext E45).keep G5 (fun u hu b hb hh=>by injection hh with hh;exact LT5.out u hu b hb hh.symm)).down (he.out.trans E3.out).size,hgt'.far⟩
   have E5:=lhd (((he.out.trans X4).trans E45).grown G5 (fun b hb=>by injection hb with hb;omega));clear a0 y0 y1 y2 p0 p1 p2 p3 C3 HW3 G5 E45 hl3 hl4 hl1 hbx hgt hgt';go_wp2;go_roundw
   case rel=>exact ⟨k+1,y',t',A7,c7,A8,c8,by omega,by go_num,HAP.out,hsh',O5.out,LT5.out,B5.out,E5.out⟩
   case measure=>simp [intOf];omega
  ·have hk':k=cs.length:=by omega
   have hz1:Hid (y=z):=by
    have h:=hap.out.1;rw [hk',List.drop_length,applyS] at h;exact Option.some.inj h
   obtain rfl:=hz1.out
   subst hk';have r2:=(BR.out.ext he.out).cell;have t2:=(BR.out.ext he.out).free;have G:=grown_put3 wr (w.heap.size+1+1) 0 (.mk y.num [] (.slice Yb y.bytes.length yb) [] (.slice Yi y.items.length yi));have hR0:w.heap.size+1+1<W0.heap.size:=by have:=HSA.out;omega
   have E6:=lhd (EW.out.grown G (fun b hb=>by injection hb with hb;omega));have O6:Hid (GotV w (put3 wr (w.heap.size+1+1) 0 (.mk y.num [] (.slice Yb y.bytes.length yb) [] (.slice Yi y.items.length yi))) t y):=⟨hgt.out.val,(hgt.out.own.keep G (fun u hu b hb hh=>by have h1:=(hgt.out.own.block u hu b hb).1;injection hh with hh;omega)).down EA.out.size,hgt.out.far⟩
   have y0':=y0 _ (Ext.refl _);have y1':=y1 _ (Ext.refl _);have y2':=y2 _ (Ext.refl _);clear G CRP a0 hap hbx y0 y1 y2;go_wp2;exact bodyPost_ret (v:=.tuple #[.agg #[.int .i64 y.num,.slice Yb y.bytes.length yb,.slice Yi y.items.length yi],.bool true]) (by simp [results,Tryz.results8,go_sem,r2,t2]) rfl ⟨t,Yb,_,yb,Yi,_,yi,rfl,hsh,O6.out,E6.out⟩
def FoundV (r:Nat) (y:DVal) (w0:World) (e:Ending) (w':World):Prop:=∃ (t:VT) (A1:Option Addr) (n1 c1:Nat) (A2:Option Addr) (n2 c2:Nat),e=.returned (.tuple #[.agg #[.int .i64 y.num,.slice A1 n1 c1,.slice A2 n2 c2],.int .i64 (r:Int),.bool true])∧Hid (t.vb=.slice A1 n1 c1∧t.vi=.slice A2 n2 c2)∧GotV w0 w' t y∧Ext w0 w'
theorem FindOut.found {r:Nat} {y:DVal} {w0 w':World} {e:Ending} (h:FindOut (some (r,y)) w0 e w'):FoundV r y w0 e w':=by
 obtain ⟨he,⟨h,_⟩ | ⟨r1,y1,t,A1,n1,c1,A2,n2,c2,h,h1,h2,h3⟩⟩:=h
 ·cases h
 ·obtain ⟨rfl,rfl⟩:=Prod.mk.inj (Option.some.inj h)
  exact ⟨t,A1,n1,c1,A2,n2,c2,h1,h2,h3,he⟩
theorem set4_drop {α:Type} (xs:List α) (q:Nat) (a b c d:α) (h:q+4≤xs.length):((((xs.set q a).set (q+1) b).set (q+2) c).set (q+3) d).drop q=[a,b,c,d]++xs.drop (q+4):=by
 apply List.ext_getElem?
 intro i;rw [List.getElem?_drop]
 match i with
 | 0=>simp [List.getElem?_set];omega
 | 1=>simp [List.getElem?_set];omega
 | 2=>simp [List.getElem?_set];omega
 | 3=>simp [List.getElem?_set];omega
 | i+4 =>
  rw [List.getElem?_append_right (by simp)];simp [List.getElem?_set,List.getElem?_drop]
  congr 1;omega
theorem rowC_rd {w0 w:World} {v:Value} {cs:List CT} (hrow:Own 41 4 w0 w v cs.length (cs.flatMap ccells)) (heach:∀ c∈cs,OwnT w0 w c.2) (hz:szCh (chOf cs)≤140737488351232):∃ A c,v=.slice A (chOf cs).length c∧RdC w A (chOf cs) c:=by
 have hlen:=chOf_len cs;have hl:=szCh_len (chOf cs);rcases hrow.2 with ⟨rfl,h0⟩ | ⟨g,cap,cur,rfl,hb,hg,hnc,hcm,hcs,htake⟩
 ·refine ⟨none,0,by rw [hlen,h0],⟨by omega,by omega,fun i hi=>by omega⟩⟩
 ·refine ⟨_,_,by rw [hlen],⟨by omega,by omega,fun i hi=>?_⟩⟩
  have hi':i<cs.length:=by omega
  have he:(chOf cs)[i]=(cs[i].1,cs[i].2.val):=by simp [chOf]
  rw [he];have hm:=szCh_mem (List.getElem_mem hi);rw [he] at hm;obtain ⟨Ab,cb,Ai,ci,e1,e2,hR⟩:=(heach _ (List.getElem_mem hi')).rd (by simp only at hm;omega);refine ⟨g,0,Ab,cb,Ai,ci,rfl,(Array.getElem?_eq_some_iff.1 hg).1,hR,fun w' e j hj=>?_⟩;dsimp only;rw [Nat.zero_add,heap_row hg e,← e1,← e2,show ([.string cs[i].1,.int .i64 cs[i].2.val.num,cs[i].2.vb,cs[i].2.vi]:List Value)=ccells cs[i] by simp [ccells,VT.cells,VT.val_num],← ccells_get cs i j hi' hj,← htake,List.getElem?_take,if_pos (by omega)];simp
theorem invS_step {ds:List DRule} {n:Nat} {v w y:DVal} {c:List ByteArray × DVal} {t:List (List ByteArray × DVal)} {r:Nat} (hf:findV ds n v c.1=some (r,y)) (hr:replV ds n v c.1 c.2=some w):invS ds n v (c::t)=invS ds n w t++[(c.1,y)]:=by rw [invS,hf,hr]
def InvOut (R:List (ByteArray × DVal)) (w0:World) (e:Ending) (w':World):Prop:=∃ (A:Option Addr) (c:Nat),e=.returned (.slice A R.length c)∧RdC w' A R c∧Ext w0 w'
theorem szCh_joinC (cs:List (List ByteArray × DVal)):szCh (joinC cs)=cs.length+szC cs:=by
 induction cs with
 | nil=>rfl
 | cons c t ih =>
  have h1:szCh (joinC (c::t))=1+szV c.2+szCh (joinC t):=by simp [joinC,szCh]
  rw [h1,ih,szC_cons,List.length_cons];omega
theorem own4 {w0 w:World} {g N:Nat} {xs:List Value} (h:Own 41 4 w0 w (.slice (some ⟨g,0,none⟩) N N) N xs) (he:Ext w0 w) (q:Nat) (a b c d:Value) :
 Own 41 4 w0 ((((w.setCell ⟨g,q,none⟩ a).setCell ⟨g,q+1,none⟩ b).setCell ⟨g,q+2,none⟩ c).setCell ⟨g,q+3,none⟩ d) (.slice (some ⟨g,0,none⟩) N N) N ((((xs.set q a).set (q+1) b).set (q+2) c).set (q+3) d)∧Ext w0 ((((w.setCell ⟨g,q,none⟩ a).setCell ⟨g,q+1,none⟩ b).setCell ⟨g,q+2,none⟩ c).setCell ⟨g,q+3,none⟩ d):=by
 obtain ⟨h1,e1⟩:=h.store he q a;obtain ⟨h2,e2⟩:=h1.store e1 (q+1) b;obtain ⟨h3,e3⟩:=h2.store e2 (q+2) c;exact h3.store e3 (q+3) d
theorem grown_set4 (w:World) (g q:Nat) (a b c d:Value):w.grownBy ((((w.setCell ⟨g,q,none⟩ a).setCell ⟨g,q+1,none⟩ b).setCell ⟨g,q+2,none⟩ c).setCell ⟨g,q+3,none⟩ d) (some g) :=
 (((grown_set w ⟨g,q,none⟩ _).trans (grown_set _ ⟨g,q+1,none⟩ _)).trans (grown_set _ ⟨g,q+2,none⟩ _)).trans (grown_set _ ⟨g,q+3,none⟩ _)
theorem iInvert_c (A:Option Addr) (ds:List DRule) (c:Nat) (hok:descOk ds=true) (hs:ShortD ds) (hw:WfD ds) (v z:DVal) (Vb:Option Addr) (vb:Nat) (Vi:Option Addr) (vi:Nat) (cs:List (List ByteArray × DVal)) (C:Option Addr) (cc:Nat) (w:World) (hd:RdD w A ds c) (hv:RdV w v Vb vb Vi vi) (hc:RdC w C (joinC cs) cc) (hz:szV v+szC cs≤1048576) (hN:cs.length≤1048576) (hval:validV ds (ds.length-1) v=true) (ha:applyS ds (ds.length-1) v cs=some z) (hg:∀ c∈cs,(∀ s∈c.1,goodStep s)∧c.1.length≤1000) (hT:Tab w) :
 Calls Tryz.prog 9 #[.agg #[.slice A ds.length c],.agg #[.int .i64 v.num,.slice Vb v.bytes.length vb,.slice Vi v.items.length vi],.slice C cs.length cc] w (InvOut (joinC (invS ds (ds.length-1) v cs)) w):=by
 have hl:=hd.len;have hlen:=(invS_back hval ha).2;have hszi:=sz_inv hval ha;obtain ⟨W0,HW0,BA,BV,eA,hsA⟩:=boxes2' w #[.slice A ds.length c] #[.int .i64 v.num,.slice Vb v.bytes.length vb,.slice Vi v.items.length vi] 26 29
 have CRP:Hid (∀ (y x y':DVal) (Yb:Option Addr) (yb:Nat) (Yi:Option Addr) (yi:Nat) (Xb:Option Addr) (xb:Nat) (Xi:Option Addr) (xi:Nat) (ss:List ByteArray) (w':World),Ext w w'→RdV w' y Yb yb Yi yi→RdV w' x Xb xb Xi xi→szV y≤1048576→szV x≤1048576→validV ds (ds.length-1) y=true→replV ds (ds.length-1) y ss x=some y'→(∀ s∈ss,goodStep s)→ss.length≤1000 →
  Calls Tryz.prog 22 #[.agg #[.slice A ds.length c],.agg #[.int .i64 y.num,.slice Yb y.bytes.length yb,.slice Yi y.items.length yi],.string (joinB ss),.agg #[.int .i64 x.num,.slice Xb x.bytes.length xb,.slice Xi x.items.length xi]] w' (ReplOut w' y')) :=
  fun y x y' Yb yb Yi yi Xb xb Xi xi ss w' e hy hx h1 h2 h3 h4 h5 h6=>iRepl_c A ds c hok hs hw y x y' Yb yb Yi yi Xb xb Xi xi ss w' (hd.ext e) hy hx h1 h2 h3 h4 h5 h6 (hT.ext e)
 have CFP:Hid (∀ (y:DVal) (Yb:Option Addr) (yb:Nat) (Yi:Option Addr) (yi:Nat) (ss:List ByteArray) (r:Nat) (o:DVal) (w':World),Ext w w'→RdV w' y Yb yb Yi yi→szV y≤1048576→validV ds (ds.length-1) y=true→findV ds (ds.length-1) y ss=some (r,o)→(∀ s∈ss,goodStep s)→ss.length≤1000 →
  Calls Tryz.prog 23 #[.agg #[.slice A ds.length c],.agg #[.int .i64 y.num,.slice Yb y.bytes.length yb,.slice Yi y.items.length yi],.string (joinB ss)] w' (FoundV r o w')) :=
  fun y Yb yb Yi yi ss r o w' e hy h1 h2 h3 h4 h5=>(iFindPart_c A ds c y Yb yb Yi yi ss r o w' hok (hd.ext e) hs hw hy h1 h2 h3 h4 h5 (hT.ext e)).mono fun _ _ h=>h.found
 generalize ds.length-1=n at *;have HC:=lhd hc;have HG:=lhd hg;have HV0:=lhd (hv.ext eA);have v0:∀ w',Ext W0 w'→w'.cell? ⟨w.heap.size+1,0,none⟩=some (.int .i64 v.num):=BV.at 0
 have v1:∀ w',Ext W0 w'→w'.cell? ⟨w.heap.size+1,1,none⟩=some (.slice Vb v.bytes.length vb):=BV.at 1
 have v2:∀ w',Ext W0 w'→w'.cell? ⟨w.heap.size+1,2,none⟩=some (.slice Vi v.items.length vi):=BV.at 2
 have BA:=lhd BA;have EA:=lhd eA;have HSA:=lhd hsA;have HA:=lhd ha;have HVAL:=lhd hval;have HZ:=lhd hz;have HLEN:=lhd hlen;have HSZI:=lhd hszi;obtain ⟨R,hR⟩:∃ R,R=joinC (invS ds n v cs):=⟨_,rfl⟩;rw [← hR];have HR:=lhd hR;have HB:Hid (72*cs.length≤281474976710656):=by show _≤_;omega
 have HM:Hid (cs.length≤maxLen):=by show _≤_;simp only [maxLen];omega
 have hcl:cs.length≤9223372036854775807:=by omega
 clear hd hv hc hg hT hok BV eA hsA hval ha hz hlen hszi hR hs hw;go_enter Tryz.func9,Tryz.ntmps9
 go_wp2_with (first
  | (at_make;go_must (rw [← HW0.out];refine wpList_mk rfl _ _ _ rfl E_chg W0 W0 (Ext.refl W0) cs.length rfl rfl HB.out HM.out ?_);intro w1 ho _ e1;have v0':=v0 w1 e1;have v1':=v1 w1 e1;have v2':=v2 w1 e1))
 obtain ⟨W2,hW2⟩:∃ W2,W2=w1.alloc (.cells #[.int .i64 v.num,.slice Vb v.bytes.length vb,.slice Vi v.items.length vi] 29):=⟨_,rfl⟩;rw [← hW2];have B2:Hid (Box W2 w1.heap.size #[.int .i64 v.num,.slice Vb v.bytes.length vb,.slice Vi v.items.length vi] 29):=by rw [hW2];exact Box.new _ _ _
 have E12:Hid (Ext w1 W2):=by rw [hW2];exact Ext_alloc _ (Ext.refl _)
 have E02:=lhd (e1.trans E12.out);have LG:=lhd (World.ownsRow.lt ho W0.heap.size rfl).2;have ho2:=Own.ext ho E12.out;obtain ⟨xs0,hxs0⟩:∃ xs0,xs0=(madeCells (Value.agg #[Value.string { data:=#[] },Value.int IntKind.i64 0,Value.slice none 0 0,Value.slice none 0 0]).cells (cs.length*4)).toList:=⟨_,rfl⟩;rw [← hxs0] at ho2
 have HXL:Hid (xs0.length=cs.length*4):=by
  have h:=ho2.1;show _=_
  exact h
 have HO2:=lhd ho2;have HV2:=lhd (HV0.out.ext E02.out);clear hW2 ho ho2 hxs0 v0 v1 v2 v0' v1' v2' HV0;go_loopw [22] (fun ix wr=>∃ (k:Nat) (y:DVal) (Yb:Option Addr) (yb:Nat) (Yi:Option Addr) (yi:Nat) (ts:List CT) (chs:List (List ByteArray × DVal)) (xs:List Value),k≤cs.length∧ix=.int .i64 k∧Hid (applyS ds n y (cs.drop k)=some z∧validV ds n y=true∧szV y+szC (cs.drop k)≤1048576∧invS ds n v cs=invS ds n y (cs.drop k)++chs∧chOf ts=joinC chs∧ts.length=k)∧Hid (RdV wr y Yb yb Yi yi)∧Hid (Box wr w1.heap.size #[.int .i64 y.num,.slice Yb y.bytes.length yb,.slice Yi y.items.length yi] 29)∧Hid (Own 41 4 W0 wr (.slice (some ⟨W0.heap.size,0,none⟩) cs.length cs.length) cs.length xs∧xs.length=cs.length*4∧xs.drop ((cs.length-k)*4)=ts.flatMap ccells)∧Hid (∀ t∈ts,OwnT W0 wr t.2∧∀ u∈t.2.vals,∀ b,u.ownBlock=some b→b≠W0.heap.size∧b≠w1.heap.size)∧Hid (Ext W0 wr)) (fun ix _=>cs.length-(intOf ix).toNat)
 case atStart=>exact ⟨0,v,Vb,vb,Vi,vi,[],[],xs0,by omega,rfl,⟨by rw [List.drop_zero];exact HA.out,HVAL.out,by rw [List.drop_zero];exact HZ.out,by rw [List.drop_zero,List.append_nil],rfl,rfl⟩,HV2.out,B2.out,⟨HO2.out,HXL.out,by rw [Nat.sub_zero,List.drop_eq_nil_of_le (by rw [HXL.out];exact Nat.le_refl _)];rfl⟩,(fun t ht=>by cases ht),E02.out⟩
 case round =>
  clear HO2 HXL B2 HV2 E02;obtain ⟨k,y,Yb,yb,Yi,yi,ts,chs,xs,hk,rfl,hap,hyr,hbx,hox,hts,he⟩:=hrel;have EW:=lhd (EA.out.trans he.out)
  by_cases hlk:k<cs.length
  ·have hki:(k:Int)<(cs.length:Int):=by omega
   have a0:∀ w',Ext wr w'→w'.cell? ⟨w.heap.size,0,none⟩=some (.slice A ds.length c):=(BA.out.ext he.out).at 0
   have y0:∀ w',Ext wr w'→w'.cell? ⟨w1.heap.size,0,none⟩=some (.int .i64 y.num):=hbx.out.at 0
   have y1:∀ w',Ext wr w'→w'.cell? ⟨w1.heap.size,1,none⟩=some (.slice Yb y.bytes.length yb):=hbx.out.at 1
   have y2:∀ w',Ext wr w'→w'.cell? ⟨w1.heap.size,2,none⟩=some (.slice Yi y.items.length yi):=hbx.out.at 2
   obtain ⟨b,off,Xb,xb,Xi,xi,hC,_,hxr,hxc⟩:=HC.out.get k (by rw [joinC_len];exact hlk);have hjk:(joinC cs)[k]'(by rw [joinC_len];exact hlk)=(joinB cs[k].1,cs[k].2):=by simp [joinC]
   rw [hjk] at hxr hxc;dsimp only at hxr hxc;subst hC;obtain ⟨hap1,hap2,hap3,hap4,hap5,hap6⟩:=hap.out;rw [List.drop_eq_getElem_cons hlk,applyS,Option.bind_eq_some_iff] at hap1;rw [List.drop_eq_getElem_cons hlk,szC_cons] at hap3;rw [List.drop_eq_getElem_cons hlk] at hap4;obtain ⟨y',hr1,hr2⟩:=hap1;have hg1:=HG.out cs[k] (List.getElem_mem hlk);generalize cs[k]=ch at *;obtain ⟨ss,x⟩:=ch;dsimp only at *;have hzz:=sz_repl ss n y x y' hr1;obtain ⟨hvv,r1,o1,hf1,hoo⟩:=replV_ok ds _ _ _ _ _ hap2 hr1;have hzo:szV o1≤szV y:=by obtain ⟨_,hWk⟩:=findV_walks ss hf1;exact hWk.size
   rw [invS_step hf1 hr1] at hap4;have HAP:Hid (applyS ds n y' (cs.drop (k+1))=some z∧validV ds n y'=true∧szV y'+szC (cs.drop (k+1))≤1048576∧invS ds n v cs=invS ds n y' (cs.drop (k+1))++((ss,o1)::chs)):=⟨hr2,hvv,by omega,by rw [hap4,List.append_assoc];rfl⟩
   have p0:∀ w',Ext wr w'→w'.cell? ⟨b,off+k*4,none⟩=some (.string (joinB ss)):=fun w' e=>hxc w' (EW.out.trans e) 0 (by omega)
   have p1:∀ w',Ext wr w'→w'.cell? ⟨b,off+k*4+1,none⟩=some (.int .i64 x.num):=fun w' e=>hxc w' (EW.out.trans e) 1 (by omega)
   have p2:∀ w',Ext wr w'→w'.cell? ⟨b,off+k*4+2,none⟩=some (.slice Xb x.bytes.length xb):=fun w' e=>hxc w' (EW.out.trans e) 2 (by omega)
   have p3:∀ w',Ext wr w'→w'.cell? ⟨b,off+k*4+3,none⟩=some (.slice Xi x.items.length xi):=fun w' e=>hxc w' (EW.out.trans e) 3 (by omega)
   obtain ⟨W3,hW3⟩:∃ W3,W3=wr.alloc (.cells #[.string (joinB ss),.int .i64 x.num,.slice Xb x.bytes.length xb,.slice Xi x.items.length xi] 41):=⟨_,rfl⟩;have HW3:=lhd hW3;have E3:Hid (Ext wr W3):=by rw [hW3];exact Ext_alloc _ (Ext.refl _)
   have B3:Hid (Box W3 wr.heap.size #[.string (joinB ss),.int .i64 x.num,.slice Xb x.bytes.length xb,.slice Xi x.items.length xi] 41):=by rw [hW3];exact Box.new _ _ _
   have C3:=lhd (CFP.out y Yb yb Yi yi ss r1 o1 W3 (EW.out.trans E3.out) (hyr.out.ext E3.out) (by omega) hap2 hf1 hg1.1 hg1.2)
   have C5:Hid (∀ w',Ext W3 w'→Calls Tryz.prog 22 #[.agg #[.slice A ds.length c],.agg #[.int .i64 y.num,.slice Yb y.bytes.length yb,.slice Yi y.items.length yi],.string (joinB ss),.agg #[.int .i64 x.num,.slice Xb x.bytes.length xb,.slice Xi x.items.length xi]] w' (ReplOut w' y')) :=
    fun w' e=>CRP.out y x y' Yb yb Yi yi Xb xb Xi xi ss w' (EW.out.trans (E3.out.trans e)) (hyr.out.ext (E3.out.trans e)) (hxr.ext (EW.out.trans (E3.out.trans e))) (by omega) (by omega) hap2 hr1 hg1.1 hg1.2
   have hzy:szV y'≤1048576:=by omega
   have hzo2:szV o1≤1048576:=by omega
   have HTS:Hid (chOf ts=joinC chs∧ts.length=k):=⟨hap5,hap6⟩
   clear hW3 hxr hxc hap hap2 hap3 hap4 hap5 hap6 hr1 hr2 hzz hvv hjk CRP CFP hg1 hyr hf1 hoo hzo;go_wp2_with fail;rw [← HW3.out];refine C3.out.mono ?_;rintro _ w4 ⟨tq,P1,m1,d1,P2,m2,d2,rfl,hsho,hgto,e4⟩;obtain ⟨q1,q2,_⟩:=hgto.rdAt hsho (by omega);subst q1;subst q2;obtain ⟨W5,hW5⟩:∃ W5,W5=w4.alloc (.cells #[.int .i64 o1.num,.slice P1 o1.bytes.length d1,.slice P2 o1.items.length d2] 29):=⟨_,rfl⟩;have HW5:=lhd hW5;have E45:Hid (Ext w4 W5):=by rw [hW5];exact Ext_alloc _ (Ext.refl _)
   have B5:Hid (Box W5 w4.heap.size #[.int .i64 o1.num,.slice P1 o1.bytes.length d1,.slice P2 o1.items.length d2] 29):=by rw [hW5];exact Box.new _ _ _
   have E34:=lhd e4;have E35:=lhd (e4.trans E45.out);have X4:=lhd (E3.out.trans e4);have C5':=lhd (C5.out W5 E35.out);have a04:∀ w',Ext w4 w'→w'.cell? ⟨w.heap.size,0,none⟩=some (.slice A ds.length c):=fun w' e=>a0 w' (X4.out.trans e)
   have y04:∀ w',Ext w4 w'→w'.cell? ⟨w1.heap.size,0,none⟩=some (.int .i64 y.num):=fun w' e=>y0 w' (X4.out.trans e)
   have y14:∀ w',Ext w4 w'→w'.cell? ⟨w1.heap.size,1,none⟩=some (.slice Yb y.bytes.length yb):=fun w' e=>y1 w' (X4.out.trans e)
   have y24:∀ w',Ext w4 w'→w'.cell? ⟨w1.heap.size,2,none⟩=some (.slice Yi y.items.length yi):=fun w' e=>y2 w' (X4.out.trans e)
   have B34:=B3.out.ext e4;have x04:∀ w',Ext w4 w'→w'.cell? ⟨wr.heap.size,0,none⟩=some (.string (joinB ss)):=B34.at 0
   have x14:∀ w',Ext w4 w'→w'.cell? ⟨wr.heap.size,1,none⟩=some (.int .i64 x.num):=B34.at 1
   have x24:∀ w',Ext w4 w'→w'.cell? ⟨wr.heap.size,2,none⟩=some (.slice Xb x.bytes.length xb):=B34.at 2
   have x34:∀ w',Ext w4 w'→w'.cell? ⟨wr.heap.size,3,none⟩=some (.slice Xi x.items.length xi):=B34.at 3
   clear hW5 a0 y0 y1 y2 p0 p1 p2 p3 C3 C5 HW3 B34 e4;go_wp2_with fail;rw [← HW5.out];refine C5'.out.mono ?_;rintro _ w6 ⟨t',A7,n7,c7,A8,n8,c8,rfl,hsh',hgt',e6⟩;obtain ⟨q1,q2,_⟩:=hgt'.rdAt hsh' (by omega);subst q1;subst q2;obtain ⟨W7,hW7⟩:∃ W7,W7=w6.alloc (.cells #[.int .i64 y'.num,.slice A7 y'.bytes.length c7,.slice A8 y'.items.length c8] 29):=⟨_,rfl⟩;have HW7:=lhd hW7;have E67:Hid (Ext w6 W7):=by rw [hW7];exact Ext_alloc _ (Ext.refl _)
   have B7:Hid (Box W7 w6.heap.size #[.int .i64 y'.num,.slice A7 y'.bytes.length c7,.slice A8 y'.items.length c8] 29):=by rw [hW7];exact Box.new _ _ _
   have E57:=lhd (e6.trans E67.out);have E56:=lhd e6;clear hW7 a04 y04 y14 y24 x04 x14 x24 x34 C5' e6 HW5;go_upto_region 10 with (fail);rw [← HW7.out];have E47:=lhd (E45.out.trans E57.out);have g0:W7.cell? ⟨wr.heap.size,0,none⟩=some (.string (joinB ss)):=(B3.out.ext (E34.out.trans E47.out)).cell 0
   have g1:W7.cell? ⟨w4.heap.size,0,none⟩=some (.int .i64 o1.num):=(B5.out.ext E57.out).cell 0
   have g2:W7.cell? ⟨w4.heap.size,1,none⟩=some (.slice P1 o1.bytes.length d1):=(B5.out.ext E57.out).cell 1
   have g3:W7.cell? ⟨w4.heap.size,2,none⟩=some (.slice P2 o1.items.length d2):=(B5.out.ext E57.out).cell 2
   have XR7:=lhd (X4.out.trans E47.out);obtain ⟨q,hq⟩:∃ q,q=cs.length-1-k:=⟨_,rfl⟩;have HQ:=lhd hq;have hq1:(cs.length:Int)-1-(k:Int)=(q:Int):=by omega
   have hq2:(q:Int)<(cs.length:Int):=by omega
   have hq3:q<cs.length:=by omega
   have OX7:=lhd (hox.out.1.ext XR7.out);have HSL:Hid (∀ j,j<4→(∃ u,W7.cell? ⟨W0.heap.size,q*4+j,none⟩=some u)∧W7.frozen? ⟨W0.heap.size,q*4+j,none⟩=false):=fun j hj=>OX7.out.slot (q*4+j) (by rw [hox.out.2.1];have:=hq;omega)
   obtain ⟨u0,s0⟩:=(HSL.out 0 (by omega)).1;obtain ⟨u1,s1⟩:=(HSL.out 1 (by omega)).1;obtain ⟨u2,s2⟩:=(HSL.out 2 (by omega)).1;obtain ⟨u3,s3⟩:=(HSL.out 3 (by omega)).1;have f0:=(HSL.out 0 (by omega)).2;have f1:=(HSL.out 1 (by omega)).2;have f2:=(HSL.out 2 (by omega)).2;have f3:=(HSL.out 3 (by omega)).2;rw [Nat.add_zero] at s0 f0;clear HW7 hq HSL;go_upto_region 11 with (fail);have OWN8:=lhd (own4 OX7.out (he.out.trans XR7.out) (q*4) (.string (joinB ss)) (.int .i64 o1.num) (.slice P1 o1.bytes.length d1) (.slice P2 o1.items.length d2));have GR8:=lhd (grown_set4 W7 W0.heap.size (q*4) (.string (joinB ss)) (.int .i64 o1.num) (.slice P1 o1.bytes.length d1) (.slice P2 o1.items.length d2));obtain ⟨W8,hW8⟩:∃ W8,W8=(((W7.setCell ⟨W0.heap.size,q*4,none⟩ (.string (joinB ss))).setCell ⟨W0.heap.size,q*4+1,none⟩ (.int .i64 o1.num)).setCell ⟨W0.heap.size,q*4+2,none⟩ (.slice P1 o1.bytes.length d1)).setCell ⟨W0.heap.size,q*4+3,none⟩ (.slice P2 o1.items.length d2):=⟨_,rfl⟩;rw [← hW8] at OWN8 GR8;rw [← hW8];have hz0:=LG.out;have hz1:=hbx.out.lt;have hz2:=E3.out.size;have hz3:=E34.out.size;have hz4:=E45.out.size;have hz5:=E56.out.size;have hz6:=E67.out.size;have hwr:=B3.out.lt;have B8:=lhd (B7.out.moved GR8.out (by intro hh;injection hh with hh;omega));have C8:=lhd ((hbx.out.ext XR7.out).moved GR8.out (by intro hh;injection hh with hh;omega));have k0:=B8.out.cell 0;have k1:=B8.out.cell 1;have k2:=B8.out.cell 2;have r2:=C8.out.cell;have t2:=C8.out.free;have l0:=C8.out.cell 0;have l1:=C8.out.cell 1;have l2:=C8.out.cell 2;have m0:=C8.out.free 0;have m1:=C8.out.free 1;have m2:=C8.out.free 2;have G9:=lhd (grown_put3 W8 w1.heap.size 0 (.mk y'.num [] (.slice A7 y'.bytes.length c7) [] (.slice A8 y'.items.length c8)));have B9:Hid (Box (put3 W8 w1.heap.size 0 (.mk y'.num [] (.slice A7 y'.bytes.length c7) [] (.slice A8 y'.items.length c8))) w1.heap.size #[.int .i64 y'.num,.slice A7 y'.bytes.length c7,.slice A8 y'.items.length c8] 29):=((C8.out.set 0 (.int .i64 y'.num)).set 1 (.slice A7 y'.bytes.length c7)).set 2 (.slice A8 y'.items.length c8)
   have E9:Hid (Ext W0 (put3 W8 w1.heap.size 0 (.mk y'.num [] (.slice A7 y'.bytes.length c7) [] (.slice A8 y'.items.length c8)))):=OWN8.out.2.grown G9.out (fun b hb=>by injection hb with hb;omega)
   have KEEP:Hid (∀ (t:VT),OwnT W0 W7 t→(∀ u∈t.vals,∀ b,u.ownBlock=some b→b≠W0.heap.size∧b≠w1.heap.size)→OwnT W0 (put3 W8 w1.heap.size 0 (.mk y'.num [] (.slice A7 y'.bytes.length c7) [] (.slice A8 y'.items.length c8))) t):=fun t h hn =>
    (h.keep GR8.out (fun u hu b hb hh=>by injection hh with hh;exact (hn u hu b hb).1 hh.symm)).keep G9.out (fun u hu b hb hh=>by injection hh with hh;exact (hn u hu b hb).2 hh.symm)
   have N1:Hid (∀ u∈tq.vals,∀ b,u.ownBlock=some b→b≠W0.heap.size∧b≠w1.heap.size):=fun u hu b hb=>by have:=(hgto.own.block u hu b hb).1;exact ⟨by omega,by omega⟩
   have N2:Hid (∀ u∈t'.vals,∀ b,u.ownBlock=some b→b≠W0.heap.size∧b≠w1.heap.size):=fun u hu b hb=>by have:=(hgt'.own.block u hu b hb).1;exact ⟨by omega,by omega⟩
   have hs03:=(he.out.trans E3.out).size;have TQ:Hid (OwnT W0 (put3 W8 w1.heap.size 0 (.mk y'.num [] (.slice A7 y'.bytes.length c7) [] (.slice A8 y'.items.length c8))) tq):=KEEP.out tq ((hgto.own.ext E47.out).down hs03) N1.out
   have GT:Hid (GotV W0 (put3 W8 w1.heap.size 0 (.mk y'.num [] (.slice A7 y'.bytes.length c7) [] (.slice A8 y'.items.length c8))) t' y'):=⟨hgt'.val,KEEP.out t' ((hgt'.own.ext E67.out).down (by omega)) N2.out,hgt'.far⟩
   have RY:Hid (RdV (put3 W8 w1.heap.size 0 (.mk y'.num [] (.slice A7 y'.bytes.length c7) [] (.slice A8 y'.items.length c8))) y' A7 c7 A8 c8):=(GT.out.rdAt hsh' (by omega)).2.2
   have TS:Hid (∀ t∈((joinB ss,tq):CT)::ts,OwnT W0 (put3 W8 w1.heap.size 0 (.mk y'.num [] (.slice A7 y'.bytes.length c7) [] (.slice A8 y'.items.length c8))) t.2∧∀ u∈t.2.vals,∀ b,u.ownBlock=some b→b≠W0.heap.size∧b≠w1.heap.size):=fun t ht=>by
    rcases List.mem_cons.1 ht with rfl | ht
    ·exact ⟨TQ.out,N1.out⟩
    ·obtain ⟨a1,a2⟩:=hts.out t ht
     exact ⟨KEEP.out t.2 (a1.ext XR7.out) a2,a2⟩
   have CH:Hid (chOf (((joinB ss,tq):CT)::ts)=joinC ((ss,o1)::chs)∧(((joinB ss,tq):CT)::ts).length=k+1):=by
    refine ⟨?_,by rw [List.length_cons,HTS.out.2]⟩;have h1:=HTS.out.1;unfold chOf joinC at *;rw [List.map_cons,List.map_cons,h1,hgto.val]
   have OX9:Hid (Own 41 4 W0 (put3 W8 w1.heap.size 0 (.mk y'.num [] (.slice A7 y'.bytes.length c7) [] (.slice A8 y'.items.length c8))) (.slice (some ⟨W0.heap.size,0,none⟩) cs.length cs.length) cs.length ((((xs.set (q*4) (.string (joinB ss))).set (q*4+1) (.int .i64 o1.num)).set (q*4+2) (.slice P1 o1.bytes.length d1)).set (q*4+3) (.slice P2 o1.items.length d2))∧((((xs.set (q*4) (.string (joinB ss))).set (q*4+1) (.int .i64 o1.num)).set (q*4+2) (.slice P1 o1.bytes.length d1)).set (q*4+3) (.slice P2 o1.items.length d2)).length=cs.length*4∧((((xs.set (q*4) (.string (joinB ss))).set (q*4+1) (.int .i64 o1.num)).set (q*4+2) (.slice P1 o1.bytes.length d1)).set (q*4+3) (.slice P2 o1.items.length d2)).drop ((cs.length-(k+1))*4)=(((joinB ss,tq):CT)::ts).flatMap ccells):=by
    refine ⟨Own.keep OWN8.out.1 G9.out (fun b hb hh=>by have hb':some W0.heap.size=some b:=hb;rw [← hh] at hb';injection hb' with hb';omega),by simp only [List.length_set];exact hox.out.2.1,?_⟩;have hqq:=HQ.out;rw [show cs.length-(k+1)=q by omega,set4_drop _ _ _ _ _ _ (by rw [hox.out.2.1];omega),show q*4+4=(cs.length-k)*4 by omega,hox.out.2.2,List.flatMap_cons]
    have:ccells ((joinB ss,tq):CT)=[.string (joinB ss),.int .i64 o1.num,.slice P1 o1.bytes.length d1,.slice P2 o1.items.length d2]:=by
     unfold ccells VT.cells;rw [hsho.out.1,hsho.out.2,show tq.num=o1.num by rw [← hgto.val,VT.val_num]]
    rw [this]
   clear GR8 OWN8 hW8 hz0 hz1 hz2 hz3 hz4 hz5 hz6 hwr hs03 hgto hgt' KEEP N1 N2 TQ GT hox hts hbx s0 s1 s2 s3 f0 f1 f2 f3 g0 g1 g2 g3 r2 t2 G9 OX7 XR7 E47 C8 B8 B7 B5 B3;go_wp2;go_roundw
   case rel=>exact ⟨k+1,y',A7,c7,A8,c8,(joinB ss,tq)::ts,(ss,o1)::chs,_,by omega,by go_num,⟨HAP.out.1,HAP.out.2.1,HAP.out.2.2.1,HAP.out.2.2.2,CH.out.1,CH.out.2⟩,RY.out,B9.out,OX9.out,TS.out,E9.out⟩
   case measure=>simp [intOf];omega
  ·have hk':k=cs.length:=by omega
   have HFIN:Hid (InvOut R w (.returned (.slice (some ⟨W0.heap.size,0,none⟩) cs.length cs.length)) wr):=by
    obtain ⟨h1,h2,h3,h4,h5,h6⟩:=hap.out;rw [hk',List.drop_length] at h4;rw [show invS ds n y []=[] by rw [invS],List.nil_append] at h4;have h7:R=chOf ts:=by rw [HR.out,h4,h5]
    have hRl:R.length=cs.length:=by rw [HR.out,joinC_len,HLEN.out]
    obtain ⟨ho,hxl,hdr⟩:=hox.out;rw [hk',Nat.sub_self,Nat.zero_mul,List.drop_zero] at hdr;rw [hdr] at ho;have htl:ts.length=cs.length:=by omega
    have hzz:szCh (chOf ts)≤140737488351232:=by
     rw [← h7,HR.out,szCh_joinC,HLEN.out]
     have:=HSZI.out;have:=HZ.out;omega
    obtain ⟨A1,c1,q1,q2⟩:=rowC_rd (cs:=ts) (by rw [htl];exact ho) (fun t ht=>(hts.out t ht).1) hzz;rw [← h7] at q1 q2;rw [show (cs.length:Nat)=R.length from hRl.symm] at *;exact ⟨A1,c1,by rw [q1],q2,EW.out⟩
   clear hap hyr hbx hox hts CRP CFP;subst hk';go_wp2;go_ret;exact HFIN.out
end Go.Proofs.YtlfhealneccdkaaGreatDoor
