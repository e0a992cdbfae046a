/- Texts, laid into one. -/
import Derived.Test.YtpmcofmdjckijaaGreatZDg29
import Derived.Test.YtpmcofmdjckijaaGreatZDg34
set_option linter.unusedVariables false
set_option linter.unusedSimpArgs false
set_option maxRecDepth 100000
set_option maxHeartbeats 16000000
namespace Go.Proofs.YtpmcofmdjckijaaGreat
open Go.RowKit Go.Sort
def jval (p:Nat):Value:=.agg #[.int .i64 (p:Int),.int .i64 (p:Int),.int .i64 (p:Int),.bool (decide (p=0)),.bool (decide (p=0))]
theorem itemsF_c8 {rd:Nat→Nat→RR} (h:∀ i a,(rd i a).code≤8) (r:DRule) (n:Int):∀ (m k a:Nat) (acc:List DVal),(itemsF rd r n m k a acc).code≤8
 | 0,_,_,_=>Nat.zero_le _
 | m+1,k,a,acc=>by
  rw [itemsF]
  split
  ·exact itemsF_c8 h r n m (k+1) _ _
  ·exact h _ _
theorem constF_c8 (b:List UInt8) (a:Nat):∀ (c:List UInt8) (i:Nat),(constF b a c i).code≤8
 | [],i=>Nat.zero_le _
 | x::c,i=>by
  rw [constF];cases b[a+i]? with
  | none=>show 1≤8;omega
  | some y =>
   dsimp only
   split
   ·exact constF_c8 b a c (i+1)
   ·show 2≤8;omega
theorem rdF_c8 (ds:List DRule) (b:List UInt8):∀ (f i a:Nat),(rdF ds b f i a).code≤8
 | 0,i,a=>Nat.zero_le _
 | f+1,i,a=>by
  have hI:=itemsF_c8 (rd:=rdF ds b f) (fun i a=>rdF_c8 ds b f i a);rw [rdF];unfold readR
  split
  ·cases intAt (ds.getD i noRule) b a<;>(simp [RR.bad])
  split
  ·exact constF_c8 _ _ _ _
  split
  ·unfold bytesF;split<;>simp [RR.bad]
  split
  ·cases untilL ((ds.getD i noRule).bytes.getD 0 0) (b.drop a)<;>simp [RR.bad]
  split
  ·exact hI _ _ _ _ _ _
  split
  ·unfold choiceF
   cases intAt (ds.getD (kd (ds.getD i noRule) 0) noRule) b a with
   | none=>simp [RR.bad]
   | some n =>
    dsimp only
    split
    ·split
     ·exact Nat.zero_le _
     ·exact hI _ _ _ _ _ _
    ·simp [RR.bad]
  split
  ·unfold optionF
   cases b[a]? with
   | none=>simp [RR.bad]
   | some x =>
    dsimp only
    split
    ·simp [RR.bad]
    ·exact hI _ _ _ _ _ _
  split
  ·unfold checkedF
   split
   ·cases b[(itemsF (rdF ds b f) (ds.getD i noRule) 0 1 0 a []).next]? with
    | none=>simp [RR.bad]
    | some x =>
     dsimp only
     split
     ·exact Nat.zero_le _
     ·simp [RR.bad]
   ·exact hI _ _ _ _ _ _
  cases intAt (ds.getD (kd (ds.getD i noRule) 0) noRule) b a with
  | none=>simp [RR.bad]
  | some n =>
   dsimp only
   split
   ·unfold bytesF;split<;>simp [RR.bad]
   ·split
    ·simp [RR.bad]
    ·exact hI _ _ _ _ _ _
theorem readFile_c8 (ds:List DRule) (b:List UInt8):(readFile ds b).code≤8:=by
 unfold readFile readV
 have:=rdF_c8 ds b (ds.length-1+1) (ds.length-1) 0
 split
 ·split
  ·simp [RR.bad]
  ·exact this
 ·simp [RR.bad]
theorem judge_pure (ds:List DRule) (b:List UInt8):((readRoot ds b).code≠0→(readFile ds b).code≠0)∧((readRoot ds b).code=0→((readFile ds b).code=0↔(readRoot ds b).next=b.length)):=by
 rw [readFile_eq]
 constructor
 ·intro h;rw [if_neg (fun hh=>h hh.1)];exact h
 ·intro h
  have hn:(readRoot ds b).next≤b.length:=by
   unfold readRoot;split
   ·exact readV_next (Nat.zero_le _)
   ·exact Nat.zero_le _
  by_cases hl:(readRoot ds b).next<b.length
  ·rw [if_pos ⟨h,hl⟩]
   exact ⟨fun hh=>(by cases hh),fun hh=>by omega⟩
  ·rw [if_neg (fun hh=>hl hh.2)]
   exact ⟨fun _=>by omega,fun _=>h⟩
theorem sRunD_c (ds:List DRule) (Ac:Option Addr) (cc:Nat) (Ae:Option Addr) (ce:Nat) (Ab:Option Addr) (b:List UInt8) (cb:Nat) (w:World) (hC:RdI w Ac (compD ds).1 cc) (hE:Is w Ae (compD ds).2 ce) (hBs:Bs w Ab b cb) (h400:b.length≤400) :
 Gives Tryz.prog 20 #[.agg #[.slice Ac (compD ds).1.length cc,.slice Ae (compD ds).2.length ce],.slice Ab b.length cb] w (.int .i64 ((readFile ds b).code:Int)):=by
 have h:=sRunP_c Ac (compD ds).1 cc Ae (compD ds).2 ce Ab b cb w hC hE (compD_len ds).2 hBs;have e:finO (advM (compD ds).1 (compD ds).2 (feedL (fitsOk (compD ds).1 (compD ds).2) (compD ds).1 mach0 b))=((readFile ds b).code:Int):=run_desc b h400
 rwa [e] at h
theorem sJudge_c (A:Option Addr) (ds:List DRule) (c:Nat) (Ab:Option Addr) (b:List UInt8) (cb:Nat) (w:World) (hd:RdD w A ds c) (hs:ShortD ds) (hw:WfD ds) (hb:Bs w Ab b cb) (h400:b.length≤400) (h7l:ds.length≤7):Gives Tryz.prog 7 #[vdesc (.slice A ds.length c),.slice Ab b.length cb] w (jval (readFile ds b).code):=by
 have hl:=hd.len;have hbl:=hb.len;obtain ⟨W0,hW0,BD,BE,e0,hsz⟩:=boxes2' w #[.slice A ds.length c] #[.int .i64 0,.int .i64 0,.int .i64 0,.bool false,.bool false] 26 30;have d0:∀ w',Ext W0 w'→w'.cell? ⟨w.heap.size,0,none⟩=some (Value.slice A ds.length c):=BD.at 0
 have dd:=d0 _ (Ext.refl _);rw [hW0.out] at dd;have HBE:=lhd BE;have CR:=lhd (fun w' (e:Ext w w')=>RdOut_shapeNC (sReadFile_c A ds c Ab b cb w' (hd.ext e) hs hw (hb.ext e)));have CK:=lhd (fun w' (e:Ext w w')=>sCheckFile_c A ds c Ab b cb w' (hd.ext e) hs hw (hb.ext e));have CC:=lhd (fun w' (e:Ext w w')=>sComp_c A ds c w' (hd.ext e) hs hw);have CP:=lhd (fun Ac cc Ae ce w' (e:Ext w w') hC hE=>sRunD_c ds Ac cc Ae ce Ab b cb w' hC hE (hb.ext e) h400);have CX:=lhd (fun w' (e:Ext w w')=>sBuildIndex_c A ds c Ab b cb w' (hd.ext e) hs hw (hb.ext e) h7l);have CL:=lhd (fun w' (e:Ext w w')=>sLocate0_c A ds c Ab b cb w' (hd.ext e) hs hw (hb.ext e));obtain ⟨j1,j2⟩:=judge_pure ds b;have HCL:=lhd (compD_len ds);generalize readFile ds b=R at *;generalize readRoot ds b=Y at *;generalize compD ds=cd at *;have h4i:(b.length:Int)≤400:=by omega
 unfold jval;generalize hzz:decide (R.code=0)=zz at *;have HZZ:=lhd hzz;clear hzz;clear BD BE hd hs hw hb hsz;unfold LOut at CL;unfold vdesc at *;go_enter Tryz.func7,Tryz.ntmps7;go_wp2_with fail;rw [← hW0.out];refine (CR.out _ e0).mono ?_;rintro _ w1 ⟨A1,n1,c1,A2,c2,rfl,e1⟩;have x1:=Ext_alloc (.cells #[.int .i64 R.v.num,.slice A1 n1 c1,.slice A2 R.v.items.length c2] 46) (Ext.refl w1);obtain ⟨W1,hW1⟩:=nmw (w1.alloc (.cells #[.int .i64 R.v.num,.slice A1 n1 c1,.slice A2 R.v.items.length c2] 46));rw [← hW1.out] at x1;have E1:=e1.trans x1;replace d0:=kx d0 E1;have dd:=d0 _ (Ext.refl _);rw [hW1.out] at dd;clear e1 x1;go_wp2_with fail;rw [← hW1.out];refine (CK.out _ (e0.trans E1)).mono ?_;rintro _ w2 ⟨rfl,e2⟩;clear dd hW0 hW1;have E2:=E1.trans e2;replace d0:=kx d0 e2;clear E1 e2;go_wp2_with fail;refine (CC.out _ (e0.trans E2)).mono ?_;rintro _ w3 ⟨vc,ve,rfl,hoc,hoe,e3⟩;obtain ⟨Ac,cc,hvc,hC⟩:=OwnI.rd hoc HCL.out.1;obtain ⟨Ae,ce,hve,hE⟩:=OwnL.rd hoe (by have:=HCL.out.2;omega);subst hvc;subst hve;have E3:=E2.trans e3;replace d0:=kx d0 e3;clear E2 e3 hoc hoe;have CP1:=lhd (CP.out Ac cc Ae ce w3 (e0.trans E3) hC hE);clear hC hE CP;go_wp2_with fail;refine CP1.out.mono ?_;rintro _ w4 ⟨rfl,e4⟩;have E4:=E3.trans e4;replace d0:=kx d0 e4;clear E3 e4 CP1;go_wp2_with fail;refine (CX.out _ (e0.trans E4)).mono ?_;rintro _ w5 ⟨B1,m1,k1,rfl,e5⟩;have E5:=E4.trans e5;replace d0:=kx d0 e5;clear E4 e5;go_wp2_with fail;refine (CL.out _ (e0.trans E5)).mono ?_;rintro _ w6 ⟨s,r,st,z,rfl,hz,e6⟩;have E6:=E5.trans e6;have x6:=Ext_alloc (.cells #[.string s,.int .i64 r,.int .i64 st,.int .i64 z] 61) (Ext.refl w6);have be:=HBE.out.ext (E6.trans x6);have t2:=be.cell;have tf:=be.free;have hput:Hid (∀ u0 u1 u2 u3 u4:Value,Ext w ((((((w6.alloc (.cells #[.string s,.int .i64 r,.int .i64 st,.int .i64 z] 61)).setCell ⟨w.heap.size+1,0,none⟩ u0).setCell ⟨w.heap.size+1,1,none⟩ u1).setCell ⟨w.heap.size+1,2,none⟩ u2).setCell ⟨w.heap.size+1,3,none⟩ u3).setCell ⟨w.heap.size+1,4,none⟩ u4)):=fun u0 u1 u2 u3 u4=>((((((e0.trans E6).trans x6).setCell (p:=⟨w.heap.size+1,0,none⟩) (by show w.heap.size≤w.heap.size+1;omega) _).setCell (p:=⟨w.heap.size+1,1,none⟩) (by show w.heap.size≤w.heap.size+1;omega) _).setCell (p:=⟨w.heap.size+1,2,none⟩) (by show w.heap.size≤w.heap.size+1;omega) _).setCell (p:=⟨w.heap.size+1,3,none⟩) (by show w.heap.size≤w.heap.size+1;omega) _).setCell (p:=⟨w.heap.size+1,4,none⟩) (by show w.heap.size≤w.heap.size+1;omega) _
 by_cases hc:Y.code=0
 ·have hq:=j2 hc
  obtain rfl:=hz hc
  rw [decide_eq_true hc]
  have HQ:Hid (((Y.next:Int)==(b.length:Int))=zz):=by
   show _=_
   rw [← HZZ.out,Bool.eq_iff_iff];simp [hq];omega
  clear hq j1 j2 hz hc HZZ;cases zz
  ·have hne:((Y.next:Int)==(b.length:Int))=false:=HQ.out
   go_wp2;exact bodyPost_ret (v:=.agg #[.int .i64 (R.code:Int),.int .i64 (R.code:Int),.int .i64 (R.code:Int),.bool false,.bool false]) (by simp [results,Tryz.results7,go_sem,t2,tf]) rfl ⟨rfl,hput.out _ _ _ _ _⟩
  ·have hne:((Y.next:Int)==(b.length:Int))=true:=HQ.out
   go_wp2;exact bodyPost_ret (v:=.agg #[.int .i64 (R.code:Int),.int .i64 (R.code:Int),.int .i64 (R.code:Int),.bool true,.bool true]) (by simp [results,Tryz.results7,go_sem,t2,tf]) rfl ⟨rfl,hput.out _ _ _ _ _⟩
 ·have hq:=j1 hc
  have hzf:zz=false:=by rw [← HZZ.out,decide_eq_false hq]
  subst hzf;rw [decide_eq_false hc];clear HZZ hq j1 j2 hz hc;go_wp2;exact bodyPost_ret (v:=.agg #[.int .i64 (R.code:Int),.int .i64 (R.code:Int),.int .i64 (R.code:Int),.bool false,.bool false]) (by simp [results,Tryz.results7,go_sem,t2,tf]) rfl ⟨rfl,hput.out _ _ _ _ _⟩
end Go.Proofs.YtpmcofmdjckijaaGreat
