/- Texts, laid into one. -/
import Derived.Test.YtlfhealneccdkaaGreatDoorZDf33
import Derived.Test.YtlfhealneccdkaaGreatDoorZDf31
import Derived.Test.YtlfhealneccdkaaGreatDoorZDf27
set_option linter.unusedVariables false
set_option linter.unusedSimpArgs false
set_option maxRecDepth 100000
set_option maxHeartbeats 16000000
namespace Go.Proofs.YtlfhealneccdkaaGreatDoor
open Go.RowKit Go.Sort
theorem l9Make_c (Ad:Option Addr) (ds:List DRule) (cd:Nat) (hok:descOk ds=true) (wb:World) (p:Nat) (A:Option Addr) (l:List UInt8) (c:Nat) (hA:Bs wb A l c):∀ n i,i≤n→i<ds.length→MakeOk Ad ds cd wb p A l c i:=by
 intro n
 induction n with
 | zero =>
  intro i h0 hi;exact step i hi (fun j hj=>by omega)
 | succ n ih =>
  intro i h0 hi;exact step i hi (fun j hj=>ih j (by omega) (by omega))
where
 step (i:Nat) (hi:i<ds.length) (HR:∀ j,j<i→MakeOk Ad ds cd wb p A l c j):MakeOk Ad ds cd wb p A l c i:=by
  have hk:=ruleKind hok i hi
  have h10:ds[i].kind=1∨ds[i].kind=2∨ds[i].kind=3∨ds[i].kind=4∨ds[i].kind=5∨ds[i].kind=6∨ds[i].kind=7∨ds[i].kind=8∨ds[i].kind=9∨ds[i].kind=10:=by
   unfold kindOk at hk
   by_cases h1:ds[i].kind=1;· omega
   by_cases h2:ds[i].kind=2;· omega
   by_cases h3:ds[i].kind=3;· omega
   by_cases h4:ds[i].kind=4;· omega
   by_cases h5:ds[i].kind=5;· omega
   by_cases h6:ds[i].kind=6;· omega
   by_cases h7:ds[i].kind=7;· omega
   by_cases h8:ds[i].kind=8;· omega
   by_cases h9:ds[i].kind=9;· omega
   by_cases h10:ds[i].kind=10;· omega
   rw [if_neg h1,if_neg h2,if_neg h3,if_neg h4,if_neg h5,if_neg h6,if_neg h7,if_neg h8,if_neg h9,if_neg h10] at hk;cases hk
  rcases h10 with h | h | h | h | h | h | h | h | h | h
  ·exact l9Make1_c Ad ds cd hok i hi h wb p A l c hA HR
  ·exact l9Make2_c Ad ds cd hok i hi h wb p A l c hA HR
  ·exact l9Make3_c Ad ds cd hok i hi h wb p A l c hA HR
  ·exact l9Make4_c Ad ds cd hok i hi h wb p A l c hA HR
  ·exact l9Make5_c Ad ds cd hok i hi h wb p A l c hA HR
  ·exact l9Make6_c Ad ds cd hok i hi h wb p A l c hA HR
  ·exact l9Make7_c Ad ds cd hok i hi h wb p A l c hA HR
  ·exact l9Make8_c Ad ds cd hok i hi h wb p A l c hA HR
  ·exact l9Make9_c Ad ds cd hok i hi h wb p A l c hA HR
  ·exact l9Make10_c Ad ds cd hok i hi h wb p A l c hA HR
theorem OwnD.stayD {wb w:World} {v:Value} {ps:List RV} (h:OwnD wb w v ps) (hs:∀ q∈ps,ShortR q.r) (hn:ps.length≤24) (h0:0<ps.length) {p:Nat} (hp:∀ u∈v::ps.flatMap RV.vals,∀ b,u.ownBlock=some b→b≠p) :
 ∃ Ad cd,v=.slice Ad (rulesOf ps).length cd∧StayD w p Ad (rulesOf ps) cd:=by
 obtain ⟨g,cap,_,_,_,_,_,_,_,_,hv,_⟩:=h.stay hs hn hp 0 h0;have hlen:(rulesOf ps).length=ps.length:=by simp [rulesOf]
 refine ⟨some ⟨g,0,none⟩,cap,by rw [hlen];exact hv,g,0,rfl,?_,fun i hi=>?_⟩
 ·exact (h.block v (List.mem_cons_self ..) g (by rw [hv];rfl)).2
 ·have hi':i<ps.length:=by omega
  obtain ⟨g',cap',Ab,cb,An,cn,At,ct,Ak,ck,hv',hr⟩:=h.stay hs hn hp i hi';rw [hv] at hv';injection hv' with e1 _ e2
  injection e1 with e1
  injection e1 with e1 _ _
  subst e1;have hr0:(rulesOf ps)[i]=ps[i].r:=by simp [rulesOf]
  rw [hr0,Nat.zero_add];exact ⟨Ab,cb,An,cn,At,ct,Ak,ck,hr⟩
theorem wf_near {x:Int} (h : -1000000≤x∧x≤1000000):(Lit.int .i64 x).wf=true:=by
 have h1:IntKind.i64.min≤x:=Int.le_trans (by decide:IntKind.i64.min ≤ -1000000) h.1
 have h2:x≤IntKind.i64.max:=Int.le_trans h.2 (by decide:(1000000:Int)≤IntKind.i64.max)
 simp only [Lit.wf,decide_eq_true h1,decide_eq_true h2,Bool.and_self]
theorem SmD.wfS {ds:List DRule} (h:SmD ds):WfD ds∧ShortD ds :=
 ⟨fun r hr=>by
  have h1:=h.2 r hr;exact ⟨by have:=h1.nm;omega,fun s hs=>by have:=h1.nms s hs;omega,wf_near (by have:=h1.kind;omega),wf_near (by have:=h1.ints.1;omega),fun x hx=>wf_near (by have:=h1.ints.2.1 x hx;omega),fun x hx=>wf_near (by have:=h1.ints.2.2 x hx;omega)⟩,
  fun r hr=>(h.2 r hr).short⟩
theorem SmallD.slim {ds:List DRule} (h:SmallD ds):Slim ds:=fun i hi=>by have:=(h.2 _ (List.getElem_mem hi)).lens;omega
theorem OwnD.rdK {w0 w:World} {Ad:Option Addr} {cd:Nat} {ps:List RV} (h:OwnD w0 w (.slice Ad ps.length cd) ps) (hs:SmD (rulesOf ps)):RdD w Ad (rulesOf ps) cd:=by
 obtain ⟨A',c',h1,h2⟩:=h.rd (by have:=hs.1;simp [rulesOf] at this;omega) (fun p hp=>(hs.2 _ (List.mem_map_of_mem hp)).short);injection h1 with e1 _ e2
 subst e1;subst e2;exact h2
structure DV (wb w W:World) (p:Nat) (A:Option Addr) (l:List UInt8) (c:Nat) (Ad:Option Addr) (cd:Nat) (ps:List RV) (n0:Nat):Prop where
 own:OwnD wb W (.slice Ad ps.length cd) ps
 new:∀ b,blks (.slice Ad ps.length cd::ps.flatMap RV.vals) b→n0≤b
 cur:Cur wb W p A l c
 grow:w.grownBy W (some p)
theorem DV.same {wb w W W':World} {p:Nat} {A:Option Addr} {l:List UInt8} {c:Nat} {Ad:Option Addr} {cd:Nat} {ps:List RV} {n0:Nat} (h:DV wb w W p A l c Ad cd ps n0) (hs:SameS (blks (.slice Ad ps.length cd::ps.flatMap RV.vals)) W W') (hC:Cur wb W' p A l c) (hg:w.grownBy W' (some p)):DV wb w W' p A l c Ad cd ps n0 :=
 ⟨h.own.sameS hs (fun b hb=>hb),h.new,hC,hg⟩
theorem DV.ext {wb w W W':World} {p:Nat} {A:Option Addr} {l:List UInt8} {c:Nat} {Ad:Option Addr} {cd:Nat} {ps:List RV} {n0:Nat} (h:DV wb w W p A l c Ad cd ps n0) (e:Ext W W'):DV wb w W' p A l c Ad cd ps n0 :=
 h.same (SameS.ext e) (h.cur.ext e) (h.grow.trans (grown_ext e _))
theorem DV.moved {wb w W W':World} {p:Nat} {A:Option Addr} {l:List UInt8} {c:Nat} {Ad:Option Addr} {cd:Nat} {ps:List RV} {n0:Nat} (h:DV wb w W p A l c Ad cd ps n0) (hp:p<n0) (hC:Cur wb W' p A l c) (hg:W.grownBy W' (some p)):DV wb w W' p A l c Ad cd ps n0 :=
 h.same (SameS.grown hg (fun k hk=>by injection hk with hk;subst hk;left;intro hb;have:=h.new _ hb;omega)) hC (h.grow.trans hg)
theorem one_fin {w W:World} {x a b c:Value} (B1:Box W w.heap.size #[.slice none 0 0] 26) (B2:Box W (w.heap.size+1) #[.int .i64 0,.slice none 0 0,.slice none 0 0] 29) :
 ((((W.setCell ⟨w.heap.size,0,none⟩ x).setCell ⟨w.heap.size+1,0,none⟩ a).setCell ⟨w.heap.size+1,1,none⟩ b).setCell ⟨w.heap.size+1,2,none⟩ c).cell? ⟨w.heap.size,0,none⟩=some x∧((((W.setCell ⟨w.heap.size,0,none⟩ x).setCell ⟨w.heap.size+1,0,none⟩ a).setCell ⟨w.heap.size+1,1,none⟩ b).setCell ⟨w.heap.size+1,2,none⟩ c).cell? ⟨w.heap.size+1,0,none⟩=some a∧((((W.setCell ⟨w.heap.size,0,none⟩ x).setCell ⟨w.heap.size+1,0,none⟩ a).setCell ⟨w.heap.size+1,1,none⟩ b).setCell ⟨w.heap.size+1,2,none⟩ c).cell? ⟨w.heap.size+1,1,none⟩=some b∧((((W.setCell ⟨w.heap.size,0,none⟩ x).setCell ⟨w.heap.size+1,0,none⟩ a).setCell ⟨w.heap.size+1,1,none⟩ b).setCell ⟨w.heap.size+1,2,none⟩ c).cell? ⟨w.heap.size+1,2,none⟩=some c:=by
 have b1:=(((B1.set 0 x).other (g':=w.heap.size+1) (by omega) 0 a).other (g':=w.heap.size+1) (by omega) 1 b).other (g':=w.heap.size+1) (by omega) 2 c;have b2:=(((B2.other (g':=w.heap.size) (by omega) 0 x).set 0 a).set 1 b).set 2 c;have z1:=b1.cell 0;have z2:=b2.cell 0;have z3:=b2.cell 1;have z4:=b2.cell 2;exact ⟨by simpa using z1,by simpa using z2,by simpa using z3,by simpa using z4⟩
theorem one_same {w W:World} {S:Nat→Prop} {x a b c:Value} (hS:∀ k,S k→w.heap.size+2≤k):SameS S W ((((W.setCell ⟨w.heap.size,0,none⟩ x).setCell ⟨w.heap.size+1,0,none⟩ a).setCell ⟨w.heap.size+1,1,none⟩ b).setCell ⟨w.heap.size+1,2,none⟩ c):=by
 have s:∀ (W:World) (k j:Nat) (u:Value),k<w.heap.size+2→SameS S W (W.setCell ⟨k,j,none⟩ u):=fun W k j u hk=>SameS.grown (grown_set W ⟨k,j,none⟩ u) (fun m hm=>by injection hm with hm;left;intro hb;have:=hS _ hb;simp at hm;omega)
 exact (((s _ _ _ _ (by omega)).trans (s _ _ _ _ (by omega))).trans (s _ _ _ _ (by omega))).trans (s _ _ _ _ (by omega))
theorem one_grow {w W:World} {p:Nat} {x a b c:Value} (h:w.grownBy W (some p)):w.grownBy ((((W.setCell ⟨w.heap.size,0,none⟩ x).setCell ⟨w.heap.size+1,0,none⟩ a).setCell ⟨w.heap.size+1,1,none⟩ b).setCell ⟨w.heap.size+1,2,none⟩ c) (some p) :=
 grown_new (a:=⟨w.heap.size+1,2,none⟩) (grown_new (a:=⟨w.heap.size+1,1,none⟩) (grown_new (a:=⟨w.heap.size+1,0,none⟩) (grown_new (a:=⟨w.heap.size,0,none⟩) h (by show w.heap.size≤w.heap.size;omega) x) (by show w.heap.size≤w.heap.size+1;omega) a) (by show w.heap.size≤w.heap.size+1;omega) b) (by show w.heap.size≤w.heap.size+1;omega) c
theorem one_cur {wb w W:World} {p:Nat} {A:Option Addr} {l:List UInt8} {c0:Nat} {x a b c:Value} (h:Cur wb W p A l c0) (hp:p<w.heap.size) (hw:wb.heap.size≤w.heap.size):Cur wb ((((W.setCell ⟨w.heap.size,0,none⟩ x).setCell ⟨w.heap.size+1,0,none⟩ a).setCell ⟨w.heap.size+1,1,none⟩ b).setCell ⟨w.heap.size+1,2,none⟩ c) p A l c0 :=
 (((h.set (a:=⟨w.heap.size,0,none⟩) (by show w.heap.size≠p;omega) (by show wb.heap.size≤w.heap.size;omega) x).set (a:=⟨w.heap.size+1,0,none⟩) (by show w.heap.size+1≠p;omega) (by show wb.heap.size≤w.heap.size+1;omega) a).set (a:=⟨w.heap.size+1,1,none⟩) (by show w.heap.size+1≠p;omega) (by show wb.heap.size≤w.heap.size+1;omega) b).set (a:=⟨w.heap.size+1,2,none⟩) (by show w.heap.size+1≠p;omega) (by show wb.heap.size≤w.heap.size+1;omega) c
theorem grown_wrote {w w1 w2:World} {p:Nat} {B:Nat→Prop} (h:w.grownBy w1 (some p)) (k:WroteB B w1 w2) (hB:∀ b,B b→b=p∨w.heap.size≤b):w.grownBy w2 (some p) :=
 ⟨k.os.trans h.os,k.tape.trans h.tape,k.output.trans h.output,Nat.le_trans h.size k.size,fun i hi hne=>(k.block i (Nat.lt_of_lt_of_le hi h.size) (fun hb=>by
  rcases hB i hb with h1 | h1
  ·exact hne (by rw [h1])
  ·omega)).trans (h.block i hi hne)⟩
theorem splitP_size {s:ByteArray} {ss:List ByteArray} (h:splitP s=some ss):∀ u∈ss,u.size≤s.size:=by
 unfold splitP at h
 split at h
 ·obtain rfl:=Option.some.inj h;intro u hu;cases hu
 ·have h1:=(splitF_size s (s.size+1)).1
  change ∀ x∈splitB s,x.size≤s.size at h1
  split at h
  ·cases h
  ·rename_i hd t heq
   split at h
   ·obtain rfl:=Option.some.inj h
    intro u hu;exact h1 u (by rw [heq];exact List.mem_cons_of_mem _ hu)
   ·cases h
def OneOut (wb w:World) (p:Nat) (A:Option Addr) (l:List UInt8) (c:Nat) (e:Ending) (w':World):Prop:=∃ (Ad:Option Addr) (cd:Nat) (ps:List RV) (v:DVal) (A1:Option Addr) (n1 c1:Nat) (A2:Option Addr) (n2 c2:Nat) (s:ByteArray) (r:Int),e=.returned (.tuple #[.agg #[.slice Ad ps.length cd],.agg #[.int .i64 v.num,.slice A1 n1 c1,.slice A2 n2 c2],.string s,.int .i64 r]) ∧
 Hid ((MadeD (rulesOf ps)∧SmallD (rulesOf ps))∧0<ps.length∧ps.length≤6)∧Hid (DV wb w w' p A l c Ad cd ps (w.heap.size+2))∧Hid (KeepS (fun b=>w.heap.size+2≤b) w' v (.slice A1 n1 c1) (.slice A2 n2 c2))∧Hid (szV v≤102401)
theorem sOne_c (wb w:World) (p:Nat) (A:Option Addr) (l:List UInt8) (c:Nat) (hA:Bs wb A l c) (hC:Cur wb w p A l c):Calls Tryz.prog 32 #[.pointer (some ⟨p,0,none⟩),.int .i64 0] w (OneOut wb w p A l c):=by
 have hpl:=hC.lt;have hbw:=hC.2.1.size;obtain ⟨W0,HW0,B1,B2,eA,hsA⟩:=boxes2' w #[.slice none 0 0] #[.int .i64 0,.slice none 0 0,.slice none 0 0] 26 29;have CD:=lhd (l4Description_c wb W0 p A l c hA (hC.ext eA));have CO:=lhd (fun n w h1 hn=>l1Once_c n wb w p A l c hA h1 hn);have B1:=lhd B1;have B2:=lhd B2;have HSA:=lhd hsA;have EA:=lhd eA;have HA:=lhd hA;clear hsA eA hC hA;unfold vdesc at *;go_enter Tryz.func32,Tryz.ntmps32;go_wp2_with fail;rw [← HW0.out];refine CD.out.mono ?_;rintro _ w1 ⟨vd,ps,rfl,hV,hp6,hC1,hg1⟩;obtain ⟨Ad,cd,hv⟩:=hV.own.shape;subst hv;have HMV:Hid (MadeD (rulesOf ps)∧SmallD (rulesOf ps)):=⟨hV.made,hV.small⟩
 have hpos:0<ps.length:=by obtain ⟨h,_⟩:=hV.first;simpa [rulesOf] using h
 have HD1:Hid (DV wb w w1 p A l c Ad cd ps (w.heap.size+2)):=⟨hV.own,(fun b ⟨u,hu,hb⟩=>by have h1:=hV.new u hu b hb;have h2:=HSA.out;omega),hC1,(grown_ext EA.out _).trans hg1⟩
 have B1:=lhd (B1.out.moved hg1 (some_ne (by omega)));have B2:=lhd (B2.out.moved hg1 (some_ne (by omega)));have hs1:=hg1.size;have HS1:Hid (w.heap.size+2≤w1.heap.size):=by have:=HSA.out;show _≤_;omega
 have HDB:Hid (∀ b,blks (.slice Ad ps.length cd::ps.flatMap RV.vals) b→b<w1.heap.size):=fun b ⟨u,hu,hb⟩=>(hV.own.block u hu b hb).2
 have hlr:(rulesOf ps).length=ps.length:=by simp [rulesOf]
 have hok:descOk (rulesOf ps)=true:=MadeD.valid HMV.out.1 (by omega) (by omega)
 have HSM:Hid (SmD (rulesOf ps)):=MadeD.sm HMV.out.1 HMV.out.2
 have HSL:=lhd (HMV.out.2.slim);have HOK:=lhd hok;have HLR:=lhd hlr;obtain ⟨W2,hW2⟩:∃ W2,W2=w1.alloc (.cells #[.slice Ad ps.length cd] 26):=⟨_,rfl⟩;have HW2:=lhd hW2;have E2:Hid (Ext w1 W2):=by rw [hW2];exact Ext_alloc _ (Ext.refl _)
 have B8:Hid (Box W2 w1.heap.size #[.slice Ad ps.length cd] 26):=by rw [hW2];exact Box.new _ _ _
 clear hW2;have HD2:=lhd (HD1.out.ext E2.out)
 have CM:Hid (Calls Tryz.prog 33 #[.pointer (some ⟨p,0,none⟩),.agg #[Value.slice Ad ps.length cd],.int .i64 ((ps.length:Int)-1),.int .i64 10] W2 fun e w''=>∃ (t:VT) (A1:Option Addr) (n1 c1:Nat) (A2:Option Addr) (n2 c2:Nat),e=.returned (.agg #[.int .i64 t.num,.slice A1 n1 c1,.slice A2 n2 c2])∧Hid (t.vb=.slice A1 n1 c1∧t.vi=.slice A2 n2 c2)∧DrawnV (rulesOf ps) (ps.length-1) wb W2 w'' p A l c t):=by
  obtain ⟨Ad',cd',hv',hst⟩:=HD2.out.own.stayD (fun q hq=>(HMV.out.2.2 _ (List.mem_map_of_mem hq)).short) (by omega) hpos (p:=p) (fun u hu b hb=>by have:=HD2.out.new b ⟨u,hu,hb⟩;omega);rw [HLR.out] at hv';injection hv' with q1 _ q2
  subst q1;subst q2;have h1:=l9Make_c Ad (rulesOf ps) cd HOK.out wb p A l c HA.out (ps.length-1) (ps.length-1) (Nat.le_refl _) (by omega);unfold MakeOk at h1;have h2:=h1 10 (by omega) W2 HD2.out.cur hst;rw [HLR.out,show ((ps.length-1:Nat):Int)=(ps.length:Int)-1 by omega] at h2;exact h2
 have hp1:(1:Int)≤(ps.length:Int):=by omega
 clear hV hC1 hg1 hok hlr CD;go_wp2_with fail;rw [← HW2.out];refine CM.out.mono ?_;rintro _ w3 ⟨t,A1,n1,c1,A2,n2,c2,rfl,hsh,hT⟩;obtain ⟨A1',c1',e1⟩:=Own.shape hT.own.b;obtain ⟨A2',c2',e2⟩:=Own.shape hT.own.i;have e3:=e1.symm.trans hsh.out.1;have e4:=e2.symm.trans hsh.out.2;injection e3 with e5 e6 e7
 injection e4 with e8 e9 e10
 subst e5;subst e6;subst e7;subst e8;subst e9;subst e10
 have hsz:szV t.val≤102400:=by
  have h1:=hT.sz HSL.out;have h2:4^(ps.length-1)≤4^5:=Nat.pow_le_pow_right (by omega) (by omega)
  omega
 have HD3:=lhd (HD2.out.moved (by omega) hT.cur hT.grow);have B8:=lhd (B8.out.moved hT.grow (some_ne (by have:=HS1.out;omega)));have B1:=lhd ((B1.out.ext E2.out).moved hT.grow (some_ne (by omega)));have B2:=lhd ((B2.out.ext E2.out).moved hT.grow (some_ne (by omega)));have HTB:Hid (∀ b,blks t.vals b→W2.heap.size≤b∧b<w3.heap.size):=fun b ⟨u,hu,hb⟩=>⟨hT.new u hu b hb,(hT.own.block u hu b hb).2⟩
 have HT:=lhd hT;have HE1:=lhd e1;have HE2:=lhd e2;have hs3:=hT.grow.size;have HS2:Hid (w1.heap.size+1=W2.heap.size):=by show _=_;rw [HW2.out,World.size_alloc]
 obtain ⟨W4,hW4⟩:∃ W4,W4=w3.alloc (.cells #[.int .i64 t.num,.slice A1' t.bs.length c1',.slice A2' t.its.length c2'] 29):=⟨_,rfl⟩;have HW4:=lhd hW4;have E4:Hid (Ext w3 W4):=by rw [hW4];exact Ext_alloc _ (Ext.refl _)
 have BT:Hid (Box W4 w3.heap.size #[.int .i64 t.num,.slice A1' t.bs.length c1',.slice A2' t.its.length c2'] 29):=by rw [hW4];exact Box.new _ _ _
 clear hW4 hT hsh e1 e2;have HD4:=lhd (HD3.out.ext E4.out);have HT4:=lhd (HT.out.own.ext E4.out);have B8:=lhd (B8.out.ext E4.out);have B1:=lhd (B1.out.ext E4.out);have B2:=lhd (B2.out.ext E4.out);have HNV:Hid (t.val.num=t.num∧t.val.bytes.length=t.bs.length∧t.val.items.length=t.its.length):=⟨VT.val_num t,by rw [VT.val_bytes],by rw [VT.val_items,valsOf_len]⟩
 have HRV:Hid (∀ W,OwnT wb W t→RdV W t.val A1' c1' A2' c2'):=by
  intro W hO;obtain ⟨Ab,cb,Ai,ci,f1,f2,f3⟩:=hO.rd (by omega);rw [HE1.out] at f1;rw [HE2.out] at f2;injection f1 with g1 _ g2;injection f2 with g3 _ g4
  subst g1;subst g2;subst g3;subst g4;exact f3
 have CP:Hid (Calls Tryz.prog 36 #[.pointer (some ⟨p,0,none⟩),.agg #[Value.slice Ad ps.length cd],.agg #[.int .i64 t.num,.slice A1' t.bs.length c1',.slice A2' t.its.length c2']] W4 (PathOut wb W4 p A l c)):=by
  have h:=sPath_c Ad (rulesOf ps) cd HOK.out (ps.length-1) (by rw [HLR.out];omega) (by omega) wb W4 p A l c HA.out HD4.out.cur t.val A1' c1' A2' c2' (HD4.out.own.rdK HSM.out) (HRV.out W4 HT4.out) HT.out.valid (by omega)
  rwa [HLR.out,HNV.out.1,HNV.out.2.1,HNV.out.2.2] at h
 have a8:W4.cell? ⟨w1.heap.size,0,none⟩=some (.slice Ad ps.length cd):=B8.out.cell 0
 rw [HW4.out] at a8;clear CM HD1 HD2 HD3;go_wp2_with fail;rw [← HW4.out];refine CP.out.mono ?_;rintro _ w5 ⟨s,rfl,hs,hC5,hg5⟩;have HD5:=lhd (HD4.out.moved (by omega) hC5 hg5);have hS1:=HS1.out;have hS2:=HS2.out;have HT5:=lhd (HT4.out.keep hg5 (fun u hu b hb=>by have:=(HTB.out b ⟨u,hu,hb⟩).1;exact some_ne (by omega)));have B8:=lhd (B8.out.moved hg5 (some_ne (by omega)));have B1:=lhd (B1.out.moved hg5 (some_ne (by omega)));have B2:=lhd (B2.out.moved hg5 (some_ne (by omega)));have BT:=lhd (BT.out.moved hg5 (some_ne (by omega)));clear hC5 hg5 CP a8 HD4 HT4;go_wp2_with fail;refine (CO.out 12 _ HD5.out.cur (by omega)).mono ?_;rintro _ w6 ⟨b,rfl,hC6,hg6⟩;have HD6:=lhd (HD5.out.moved (by omega) hC6 hg6);have HT6:=lhd (HT5.out.keep hg6 (fun u hu b hb=>by have:=(HTB.out b ⟨u,hu,hb⟩).1;exact some_ne (by omega)));have B8:=lhd (B8.out.moved hg6 (some_ne (by omega)));have B1:=lhd (B1.out.moved hg6 (some_ne (by omega)));have B2:=lhd (B2.out.moved hg6 (some_ne (by omega)));have BT:=lhd (BT.out.moved hg6 (some_ne (by omega)));clear hC6 hg6 HD5 HT5;have hs6:w3.heap.size<w6.heap.size:=BT.out.lt
 have HFIN:Hid (∀ (W8:World) (y:DVal) (A5:Option Addr) (n5 c5:Nat) (A6:Option Addr) (n6 c6:Nat),SameS (fun b=>b<w3.heap.size∧b≠p∧¬ blks t.vals b) w6 W8→Cur wb W8 p A l c→w.grownBy W8 (some p) →
  DV wb w W8 p A l c Ad cd ps (w.heap.size+2)∧Box W8 w1.heap.size #[.slice Ad ps.length cd] 26∧Box W8 w.heap.size #[.slice none 0 0] 26∧Box W8 (w.heap.size+1) #[.int .i64 0,.slice none 0 0,.slice none 0 0] 29):=by
  intro W8 y A5 n5 c5 A6 n6 c6 hS hC hg;have hb:∀ b,b<W2.heap.size→b≠p→b<w6.heap.size→W8.heap[b]?=w6.heap[b]?:=fun b h1 h2 h3=>hS.2 b ⟨by omega,h2,fun h4=>by have:=(HTB.out b h4).1;omega⟩ h3
  refine ⟨HD6.out.same ⟨hS.1,fun b hb1 hb2=>hb b (by have:=HDB.out b hb1;omega) (by have:=HD6.out.new b hb1;omega) hb2⟩ hC hg,(hb _ (by omega) (by omega) B8.out.lt).trans B8.out,(hb _ (by omega) (by omega) B1.out.lt).trans B1.out,(hb _ (by omega) (by omega) B2.out.lt).trans B2.out⟩
 cases b
 case' true =>
  have CBt:=lhd (bent_all t wb w6 p A l c A1' c1' A2' c2' HA.out HD6.out.cur HT6.out HT.out.far (fun b hb=>by have:=(HTB.out b hb).1;omega) (by omega) HE1.out HE2.out);have k0:w6.cell? ⟨w3.heap.size,0,none⟩=some (.int .i64 t.num):=BT.out.cell 0
  have k1:w6.cell? ⟨w3.heap.size,1,none⟩=some (.slice A1' t.bs.length c1'):=BT.out.cell 1
  have k2:w6.cell? ⟨w3.heap.size,2,none⟩=some (.slice A2' t.its.length c2'):=BT.out.cell 2
  go_wp2_with fail;refine CBt.out.mono ?_;rintro _ w7 ⟨y,A5,n5,c5,A6,n6,c6,rfl,hy,hw7,hC7,hz7⟩
  have hBT:Box w7 w3.heap.size #[.int .i64 t.num,.slice A1' t.bs.length c1',.slice A2' t.its.length c2'] 29:=(hw7.block _ BT.out.lt (fun hh=>by
   rcases hh with h1 | h1
   ·omega
   ·have:=(HTB.out _ h1).2;omega)).trans BT.out
  have b0:=hBT.cell 0;have b1:=hBT.cell 1;have b2:=hBT.cell 2;have d0:=hBT.free 0;have d1:=hBT.free 1;have d2:=hBT.free 2;have hg:=grown_put3 w7 w3.heap.size 0 (VT.withS y (.slice A5 n5 c5) (.slice A6 n6 c6));have HB9:Box (put3 w7 w3.heap.size 0 (VT.withS y (.slice A5 n5 c5) (.slice A6 n6 c6))) w3.heap.size #[.int .i64 y.num,.slice A5 n5 c5,.slice A6 n6 c6] 29:=((hBT.set 0 (.int .i64 y.num)).set 1 (.slice A5 n5 c5)).set 2 (.slice A6 n6 c6)
  have HK9:KeepS (fun b=>w.heap.size+2≤b) (put3 w7 w3.heap.size 0 (VT.withS y (.slice A5 n5 c5) (.slice A6 n6 c6))) y (.slice A5 n5 c5) (.slice A6 n6 c6):=(hy.same (SameS.grown hg (fun k hk=>by
   injection hk with hk;subst hk;left
   rintro (h1 | h1)
   ·have:=(HTB.out _ h1).2;omega
   ·omega))).mono (fun b hb=>by
    rcases hb with h1 | h1
    ·have:=(HTB.out _ h1).1;omega
    ·omega)
  have hg8:w.grownBy (put3 w7 w3.heap.size 0 (VT.withS y (.slice A5 n5 c5) (.slice A6 n6 c6))) (some p):=grown_wrote (B:=fun k=>(bentB t p) k∨k=w3.heap.size) HD6.out.grow ((hw7.mono (fun b hb=>.inl hb)).new hg (fun k hk=>by injection hk with hk;exact .inl (.inr hk.symm))) (fun b hb=>by
   rcases hb with (h1 | h1) | h1
   ·exact .inl h1
   ·right;have:=(HTB.out _ h1).1;omega
   ·right;omega)
  have HF:=HFIN.out _ y A5 n5 c5 A6 n6 c6 ((SameS.wroteB hw7 (fun k hk=>by
   rcases hk with h1 | h1
   ·left;rintro ⟨_,h2,_⟩;exact h2 h1
   ·left;rintro ⟨_,_,h2⟩;exact h2 h1)).trans (SameS.grown hg (fun k hk=>by injection hk with hk;subst hk;left;rintro ⟨h1,_⟩;omega))) (hC7.kept hg (by intro hh;injection hh with hh;omega) (hC7.2.1.grown hg (fun k hk=>by injection hk with hk;omega))) hg8
  obtain ⟨W8,hW8⟩:∃ W8,W8=put3 w7 w3.heap.size 0 (VT.withS y (.slice A5 n5 c5) (.slice A6 n6 c6)):=⟨_,rfl⟩;rw [← hW8] at HB9 HK9 HF;have HZ9:Hid (szV y≤102401):=by show _≤_;omega
  clear hg8 hg hBT hy hw7 hC7 hz7 CBt k0 k1 k2;unfold put3 VT.withS at hW8;simp only [VT.num,VT.vb,VT.vi] at hW8;go_upto_region 19 with (fail);rw [← hW8];clear hW8 b0 b1 b2 d0 d1 d2
 case' false =>
  have HF:=HFIN.out w6 t.val A1' t.bs.length c1' A2' t.its.length c2' (SameS.refl _ _) HD6.out.cur HD6.out.grow
  have HK9:KeepS (fun b=>w.heap.size+2≤b) w6 t.val (.slice A1' t.bs.length c1') (.slice A2' t.its.length c2'):=by
   have h:=HT6.out.keepS (S:=fun b=>w.heap.size+2≤b) (fun b hb=>by have:=(HTB.out b hb).1;omega) (by omega)
   rwa [HE1.out,HE2.out] at h
  have HB9:Box w6 w3.heap.size #[.int .i64 t.val.num,.slice A1' t.bs.length c1',.slice A2' t.its.length c2'] 29:=by rw [HNV.out.1];exact BT.out
  have HZ9:Hid (szV t.val≤102401):=by show _≤_;omega
  go_upto_region 19 with (fail);obtain ⟨W8,hW8⟩:∃ W8,W8=w6:=⟨_,rfl⟩;rw [← hW8] at HF HK9 HB9;rw [← hW8];clear hW8;obtain ⟨y,hy⟩:∃ y,y=t.val:=⟨_,rfl⟩;rw [← hy] at HK9 HB9 HZ9;clear hy;obtain ⟨A5,n5,c5,h5⟩:∃ A5 n5 c5,Value.slice A5 n5 c5=.slice A1' t.bs.length c1':=⟨_,_,_,rfl⟩;obtain ⟨A6,n6,c6,h6⟩:∃ A6 n6 c6,Value.slice A6 n6 c6=.slice A2' t.its.length c2':=⟨_,_,_,rfl⟩;rw [← h5,← h6] at HK9 HB9;clear h5 h6
 all_goals
  obtain ⟨hD8,hB8,hB1,hB2⟩:=HF;obtain ⟨Ab,cb,Ai,ci,f1,f2,f3⟩:=HK9.rd;injection f1 with g1 g2 g3
  injection f2 with g4 g5 g6
  subst g1;subst g2;subst g3;subst g4;subst g5;subst g6;have HK8:=lhd HK9;have HD8:=lhd hD8;have hz9:szV y≤102401:=HZ9.out
  have CF:Hid (Calls Tryz.prog 10 #[.agg #[Value.slice Ad ps.length cd],.agg #[.int .i64 y.num,.slice A5 y.bytes.length c5,.slice A6 y.items.length c6],.string s] W8 (FindOut (findP (rulesOf ps) y s) W8)):=by
   have h:=sFindPart_c Ad (rulesOf ps) cd y A5 c5 A6 c6 s W8 HOK.out (HD8.out.own.rdK HSM.out) HSM.out.wfS.2 HSM.out.wfS.1 f3 (by omega) (by omega) (fun ss h u hu=>by have:=splitP_size h u hu;omega)
   rwa [HLR.out] at h
  have R1:=lhd hB1;have R2:=lhd hB2;have H8:=lhd hB8;have H9:=lhd HB9;have a8:W8.cell? ⟨w1.heap.size,0,none⟩=some (.slice Ad ps.length cd):=hB8.cell 0
  have k0:W8.cell? ⟨w3.heap.size,0,none⟩=some (.int .i64 y.num):=HB9.cell 0
  have k1:W8.cell? ⟨w3.heap.size,1,none⟩=some (.slice A5 y.bytes.length c5):=HB9.cell 1
  have k2:W8.cell? ⟨w3.heap.size,2,none⟩=some (.slice A6 y.items.length c6):=HB9.cell 2
  clear HFIN hD8 hB8 hB1 hB2 HB9 HK9 f3 HD6 HT6 B8 B1 B2 BT HNV HRV CO;go_wp2_with fail;refine CF.out.mono ?_;rintro _ w9 ⟨e9,hor⟩;clear a8 k0 k1 k2 CF;rcases hor with ⟨_,rfl⟩ | ⟨r,y2,t2,A7,n7,c7,A8,n8,c8,_,rfl,_,_⟩
 all_goals
  go_upto_region 20 with (fail);obtain ⟨W10,hW10⟩:∃ W10:World,Ext W8 W10∧True:=⟨W8,Ext.refl _,trivial⟩;clear hW10 W10
  first
   | (obtain ⟨W10, hW10⟩ : ∃ W10, W10 = w9.alloc (.cells #[.int .i64 0, .slice none 0 0, .slice none 0 0] 29) := ⟨_, rfl⟩
      have E10:Ext W8 W10:=by rw [hW10];exact Ext_alloc _ e9
      rw [← hW10];clear hW10)
   | (obtain ⟨W10, hW10⟩ : ∃ W10, W10 = w9.alloc (.cells #[.int .i64 y2.num, .slice A7 n7 c7, .slice A8 n8 c8] 29) := ⟨_, rfl⟩
      have E10:Ext W8 W10:=by rw [hW10];exact Ext_alloc _ e9
      rw [← hW10];clear hW10)
  have ED:=E10;have R1:=lhd (R1.out.ext ED);have R2:=lhd (R2.out.ext ED);have H8:=lhd (H8.out.ext ED);have H9:=lhd (H9.out.ext ED);have x1:W10.cell? ⟨w.heap.size,0,none⟩=some (.slice none 0 0):=R1.out.cell 0
  have x1f:=R1.out.free 0;have x2:=R2.out.cell;have x2f:=R2.out.free;have HAC:∀ W',Box W' w1.heap.size #[.slice Ad ps.length cd] 26→Box W' w3.heap.size #[.int .i64 y.num,.slice A5 y.bytes.length c5,.slice A6 y.items.length c6] 29→(W'.cell? ⟨w1.heap.size,0,none⟩=some (.slice Ad ps.length cd)∧W'.cell? ⟨w3.heap.size,0,none⟩=some (.int .i64 y.num)∧W'.cell? ⟨w3.heap.size,1,none⟩=some (.slice A5 y.bytes.length c5)∧W'.cell? ⟨w3.heap.size,2,none⟩=some (.slice A6 y.items.length c6)):=fun W' h1 h2=>⟨h1.cell 0,h2.cell 0,h2.cell 1,h2.cell 2⟩
  have HAC:=lhd HAC;have HAB:lv2 (fun w'=>w'.cell? ⟨w1.heap.size,0,none⟩=some (.slice Ad ps.length cd)∧w'.cell? ⟨w3.heap.size,0,none⟩=some (.int .i64 y.num)∧w'.cell? ⟨w3.heap.size,1,none⟩=some (.slice A5 y.bytes.length c5)∧w'.cell? ⟨w3.heap.size,2,none⟩=some (.slice A6 y.items.length c6)) (fun _=>True) 2 W10.drew:=⟨HAC.out _ (H8.out.ext (Ext_drew (Ext.refl _))) (H9.out.ext (Ext_drew (Ext.refl _))),trivial⟩
  refine wp_region_C (C:=fun j=>lv2 (fun w'=>w'.cell? ⟨w1.heap.size,0,none⟩=some (.slice Ad ps.length cd)∧w'.cell? ⟨w3.heap.size,0,none⟩=some (.int .i64 y.num)∧w'.cell? ⟨w3.heap.size,1,none⟩=some (.slice A5 y.bytes.length c5)∧w'.cell? ⟨w3.heap.size,2,none⟩=some (.slice A6 y.items.length c6)) (fun _=>True) (([1,1,0,0,1,0,0,0]:List Nat).getD j 0)) (by kernel_rfl) ?_;refine tkD 0 (i:=2) (v:=?_) rfl trivial ?_ ?_;rotate_left
  ·(intro w1_ hSw;clear hSw;go_simp;try with_reducible rfl)
  try simp only [Act.put,lpa,lpz,lps]
  refine tkD 0 (i:=3) (v:=?_) rfl trivial ?_ ?_;rotate_left
  ·(intro w1_ hSw;clear hSw;go_simp;try with_reducible rfl)
  try simp only [Act.put,lpa,lpz,lps]
  refine tkD 1 (i:=0) (v:=?_) rfl (And.left HAB) ?_ ?_;rotate_left
  ·(intro w1_ hSw;have hfact:w1_.cell? ⟨w1.heap.size,0,none⟩=some (.slice Ad ps.length cd)∧w1_.cell? ⟨w3.heap.size,0,none⟩=some (.int .i64 y.num)∧w1_.cell? ⟨w3.heap.size,1,none⟩=some (.slice A5 y.bytes.length c5)∧w1_.cell? ⟨w3.heap.size,2,none⟩=some (.slice A6 y.items.length c6):=hSw;clear hSw;go_simp;try with_reducible rfl)
  try simp only [Act.put,lpa,lpz,lps]
  refine tkD 1 (i:=1) (v:=?_) rfl (And.left HAB) ?_ ?_;rotate_left
  ·(intro w1_ hSw;have hfact:w1_.cell? ⟨w1.heap.size,0,none⟩=some (.slice Ad ps.length cd)∧w1_.cell? ⟨w3.heap.size,0,none⟩=some (.int .i64 y.num)∧w1_.cell? ⟨w3.heap.size,1,none⟩=some (.slice A5 y.bytes.length c5)∧w1_.cell? ⟨w3.heap.size,2,none⟩=some (.slice A6 y.items.length c6):=hSw;clear hSw;go_simp;try with_reducible rfl)
  try simp only [Act.put,lpa,lpz,lps]
  refine wpAnyC_one (i:=4) (by kernel_rfl) rfl (fun K hK=>?_);go_simp;refine Shut.out hK _ _ (HAC.out _ ((H8.out.other (by omega) _ _).ext (Ext_drew (Ext.refl _))) ((H9.out.other (by omega) _ _).ext (Ext_drew (Ext.refl _)))) ?_;try simp only [Act.put,lpa,lpz,lps]
  refine wpAnyC_one (i:=5) (by kernel_rfl) rfl (fun K hK=>?_);go_simp;refine Shut.out hK _ _ trivial ?_;try simp only [Act.put,lpa,lpz,lps]
  refine wpAnyC_one (i:=6) (by kernel_rfl) rfl (fun K hK=>?_);go_simp;refine Shut.out hK _ _ trivial ?_;try simp only [Act.put,lpa,lpz,lps]
  refine wpAnyC_one (i:=7) (by kernel_rfl) rfl (fun K hK=>?_);go_simp;refine Shut.out hK _ _ trivial ?_;try simp only [Act.put,lpa,lpz,lps]
  refine wpAnyC_done (by kernel_rfl) ?_ _;have hfin:=one_fin (x:=.slice Ad ps.length cd) (a:=.int .i64 y.num) (b:=.slice A5 y.bytes.length c5) (c:=.slice A6 y.items.length c6) R1.out R2.out;obtain ⟨z1,z2,z3,z4⟩:=hfin;have HDX:=HD8.out.ext ED;have OD:=lhd ((HDX.same (one_same (x:=.slice Ad ps.length cd) (a:=.int .i64 y.num) (b:=.slice A5 y.bytes.length c5) (c:=.slice A6 y.items.length c6) (fun k hk=>HDX.new k hk)) (one_cur HDX.cur hpl hbw) (one_grow HDX.grow)).ext (Ext_drew (Ext.refl _)));have OK:=lhd (((HK8.out.same (SameS.ext ED)).same (one_same (x:=.slice Ad ps.length cd) (a:=.int .i64 y.num) (b:=.slice A5 y.bytes.length c5) (c:=.slice A6 y.items.length c6) (fun k hk=>hk))).same (SameS.ext (Ext_drew (Ext.refl _))));have HMM:Hid ((MadeD (rulesOf ps)∧SmallD (rulesOf ps))∧0<ps.length∧ps.length≤6):=⟨HMV.out,hpos,hp6⟩
  clear HAB x1 x1f x2 x2f HDX HAC;go_wp2_with fail
  first
   | (refine bodyPost_ret (v:=.tuple #[.agg #[Value.slice Ad ps.length cd],.agg #[.int .i64 y.num,.slice A5 y.bytes.length c5,.slice A6 y.items.length c6],.string s,.int .i64 (-1)]) ?_ rfl ⟨Ad,cd,ps,y,A5,_,c5,A6,_,c6,s,-1,rfl,HMM,OD,OK,HZ9⟩;simp [results,Tryz.results32,go_sem,z1,z2,z3,z4];done)
   | (refine bodyPost_ret (v:=.tuple #[.agg #[Value.slice Ad ps.length cd],.agg #[.int .i64 y.num,.slice A5 y.bytes.length c5,.slice A6 y.items.length c6],.string s,.int .i64 (r:Int)]) ?_ rfl ⟨Ad,cd,ps,y,A5,_,c5,A6,_,c6,s,r,rfl,HMM,OD,OK,HZ9⟩;simp [results,Tryz.results32,go_sem,z1,z2,z3,z4];done)
end Go.Proofs.YtlfhealneccdkaaGreatDoor
