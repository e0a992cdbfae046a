/- Texts, laid into one. -/
import Derived.Test.YtlfhealneccdkaaGreatDoorZDf35
import Derived.Test.YtlfhealneccdkaaGreatDoorZDf30
import Derived.Test.YtlfhealneccdkaaGreatDoorZDf34
set_option linter.unusedVariables false
set_option linter.unusedSimpArgs false
set_option maxRecDepth 100000
set_option maxHeartbeats 16000000
namespace Go.Proofs.YtlfhealneccdkaaGreatDoor
open Go.RowKit Go.Sort
theorem empty_app (p:ByteArray):(⟨#[]⟩:ByteArray)++p=p:=by apply ByteArray.ext;simp [ByteArray.data_append]
theorem diffV_joinC (ds:List DRule) (i:Nat) (a b:DVal):diffV ds i a b ⟨#[]⟩=joinC (diffS ds i a b):=by
 rw [diffV_join];exact List.map_congr_left fun c _=>by rw [empty_app]
theorem differ_all {ds:List DRule} (hok:descOk ds=true) {a b:DVal} {n:Nat} (ha:validV ds n a=true) (hb:validV ds n b=true) :
 applyS ds n a (diffS ds n a b)=some b∧applyS ds n b (invS ds n a (diffS ds n a b))=some a∧(diffS ds n a b=[]↔a=b) ∧
 (∀ c∈diffS ds n a b,(∃ r y,findV ds n a c.1=some (r,y)∧y≠c.2∧validV ds r c.2=true)∧(∀ s∈c.1,goodStep s)∧c.1.length≤n):=by
 have h1:=apply_diff hok a n b ha hb;refine ⟨h1,(invS_back ha h1).1,diff_none hok ha hb,fun c hc=>?_⟩;obtain ⟨⟨r,y,h2,h3,_,h4⟩,h5,h6⟩:=diff_found hok a n b ha hb c hc;exact ⟨⟨r,y,h2,h3,h4⟩,h5,h6⟩
theorem sz_find {ds:List DRule}:∀ (ss:List ByteArray) {i:Nat} {v:DVal} {r:Nat} {y:DVal},findV ds i v ss=some (r,y)→szV y≤szV v
 | [],i,v,r,y,h=>by
  rw [findV] at h;obtain ⟨rfl,rfl⟩:=Prod.mk.inj (Option.some.inj h);exact Nat.le_refl _
 | s::t,i,v,r,y,h=>by
  cases hf:followV (ds.getD i noRule) v.items.length s with
  | none=>rw [findV,hf] at h;cases h
  | some k =>
   have hk:=(follow_some hf).1;rw [findV_cons hf hk] at h;have h1:=sz_find t h;have h2:=szV_item (v:=v) (List.getElem_mem hk)
   omega
theorem szC_mem:∀ {cs:List (List ByteArray × DVal)} {c:List ByteArray × DVal},c∈cs→szV c.2≤szC cs
 | d::t,c,h=>by
  rw [szC_cons];rcases List.mem_cons.1 h with rfl | h
  ·omega
  ·have:=szC_mem h;omega
def GoodC (cs:List (List ByteArray × DVal)):Prop:=∀ c∈cs,(∀ s∈c.1,goodStep s)∧c.1.length≤1000
def SaysC (ds:List DRule) (a:DVal) (c:List ByteArray × DVal):Prop:=szV c.2≤1048576∧∃ (r:Nat) (y:DVal),findV ds (ds.length-1) a c.1=some (r,y)∧eqV y c.2=false∧validV ds r c.2=true∧szV y≤1048576
theorem differ_facts {ds:List DRule} {a b:DVal} (hn:ds.length≤6) (h1:validB ds ((ds.length:Int)-1) a=true) (h2:validB ds ((ds.length:Int)-1) b=true) (hza:szV a≤102401) (hzb:szV b≤307201) :
 ∃ cs inv:List (List ByteArray × DVal),diffD ds a b=joinC cs∧diffD ds b b=[]∧cs.length≤102402∧inv.length=cs.length∧inv=invS ds (ds.length-1) a cs ∧
  validV ds (ds.length-1) a=true∧validV ds (ds.length-1) b=true ∧
  applyS ds (ds.length-1) a cs=some b∧applyS ds (ds.length-1) b inv=some a∧GoodC cs∧GoodC inv∧szV a+szC cs≤1048576∧szV b+szC inv≤1048576 ∧
  ((cs.length=0∧eqV a b=true)∨(0<cs.length∧eqV a b=false))∧∀ c∈cs,SaysC ds a c:=by
 obtain ⟨e1,hok,k,hk,hlt,_,ha,hb⟩:=diffD_yes h1 h2;obtain ⟨e2,_,_,_,_,_,_,_⟩:=diffD_yes h2 h2;subst hk;obtain ⟨f1,f2,f3,f4⟩:=differ_all hok ha hb;obtain ⟨_,_,g3,_⟩:=differ_all hok hb hb;have hs:=sz_diff ds (ds.length-1) a b;have hi:=sz_inv ha f1;have hG:GoodC (diffS ds (ds.length-1) a b):=fun c hc=>⟨(f4 c hc).2.1,by have:=(f4 c hc).2.2;omega⟩
 refine ⟨_,_,by rw [e1,diffV_joinC],by rw [e2,diffV_joinC,g3.2 rfl];rfl,?_,(invS_back ha f1).2,rfl,ha,hb,f1,f2,hG,?_,by omega,by omega,?_,fun c hc=>?_⟩
 ·have h:=diffD_len (ds:=ds) (b:=b) hza
  rw [e1,diffV_joinC,joinC_len] at h;exact h
 ·exact inv_paths (P:=fun p=>(∀ s∈p,goodStep s)∧p.length≤1000) hG
 ·by_cases h:a=b
  ·left;exact ⟨by rw [f3.2 h];rfl,eqV_iff.2 h⟩
  ·right;exact ⟨List.length_pos_iff.2 (fun h'=>h (f3.1 h')),eqV_no h⟩
 ·obtain ⟨⟨r,y,x1,x2,x3⟩,_,_⟩:=f4 c hc
  have h3:=szC_mem hc;have h4:=sz_find _ x1;exact ⟨by omega,r,y,x1,eqV_no x2,x3,by omega⟩
theorem differ_no {ds:List DRule} {a b:DVal} (h:¬ (validB ds ((ds.length:Int)-1) a=true∧validB ds ((ds.length:Int)-1) b=true)):diffD ds a b=[]:=by
 refine diffD_no ?_;cases h1:validB ds ((ds.length:Int)-1) a
 ·exact .inl rfl
 ·cases h2:validB ds ((ds.length:Int)-1) b
  ·exact .inr rfl
  ·exact absurd ⟨h1,h2⟩ h
theorem iChText_c (A:Option Addr) (ds:List DRule) (c:Nat) (hok:descOk ds=true) (hs:ShortD ds) (hw:WfD ds) (v x:DVal) (Vb:Option Addr) (vb:Nat) (Vi:Option Addr) (vi:Nat) (Xb:Option Addr) (xb:Nat) (Xi:Option Addr) (xi:Nat) (ss:List ByteArray) (j0:Nat) (y0:DVal) (s:ByteArray) (w:World) (hd:RdD w A ds c) (hv:RdV w v Vb vb Vi vi) (hx:RdV w x Xb xb Xi xi) (hz:szV v≤1048576) (hval:validV ds (ds.length-1) v=true) (hf:findV ds (ds.length-1) v ss=some (j0,y0)) (hg:∀ s∈ss,goodStep s) (hL:ss.length≤1000) (hxv:validV ds j0 x=true) (ht:TxtG A ds c j0 x s) (hsz:s.size≤140737488350000) (hT:Tab w) :
 Gives Tryz.prog 12 #[.agg #[.slice A ds.length c],.agg #[.int .i64 v.num,.slice Vb v.bytes.length vb,.slice Vi v.items.length vi],.agg #[.string (joinB ss),.int .i64 x.num,.slice Xb x.bytes.length xb,.slice Xi x.items.length xi]] w (.string (pathT (joinB ss)++⟨#[61]⟩++s)):=by
 obtain ⟨W0,HW0,BA,BV,BC,eA,hsA⟩:=boxes3' w #[.slice A ds.length c] #[.int .i64 v.num,.slice Vb v.bytes.length vb,.slice Vi v.items.length vi] #[.string (joinB ss),.int .i64 x.num,.slice Xb x.bytes.length xb,.slice Xi x.items.length xi] 26 29 41
 have CF:Hid (Calls Tryz.prog 23 #[.agg #[.slice A ds.length c],.agg #[.int .i64 v.num,.slice Vb v.bytes.length vb,.slice Vi v.items.length vi],.string (joinB ss)] W0 (FoundV j0 y0 W0)) :=
  (iFindPart_c A ds c v Vb vb Vi vi ss j0 y0 W0 hok (hd.ext eA) hs hw (hv.ext eA) hz hval hf hg hL (hT.ext eA)).mono fun _ _ h=>h.found
 have CX:Hid (∀ w',Ext W0 w'→Gives Tryz.prog 31 #[.agg #[.slice A ds.length c],.int .i64 (j0:Int),.agg #[.int .i64 x.num,.slice Xb x.bytes.length xb,.slice Xi x.items.length xi]] w' (.string s)):=fun w' e =>
  iFmt_c A ds c hok hs hw j0 x Xb xb Xi xi s w' (hd.ext (eA.trans e)) (hx.ext (eA.trans e)) (hT.ext (eA.trans e)) hxv ht
 have hps:(pathT (joinB ss)).size≤100000:=by
  have h:=join_size hg;unfold pathT
  split
  ·decide
  ·omega
 have CP:=lhd (fun w'=>iPathText_c (joinB ss) w');have a0:∀ w',Ext W0 w'→w'.cell? ⟨w.heap.size,0,none⟩=some (.slice A ds.length c):=BA.at 0
 have v0:∀ w',Ext W0 w'→w'.cell? ⟨w.heap.size+1,0,none⟩=some (.int .i64 v.num):=BV.at 0
 have v1:∀ w',Ext W0 w'→w'.cell? ⟨w.heap.size+1,1,none⟩=some (.slice Vb v.bytes.length vb):=BV.at 1
 have v2:∀ w',Ext W0 w'→w'.cell? ⟨w.heap.size+1,2,none⟩=some (.slice Vi v.items.length vi):=BV.at 2
 have c0:∀ w',Ext W0 w'→w'.cell? ⟨w.heap.size+1+1,0,none⟩=some (.string (joinB ss)):=BC.at 0
 have c1:∀ w',Ext W0 w'→w'.cell? ⟨w.heap.size+1+1,1,none⟩=some (.int .i64 x.num):=BC.at 1
 have c2:∀ w',Ext W0 w'→w'.cell? ⟨w.heap.size+1+1,2,none⟩=some (.slice Xb x.bytes.length xb):=BC.at 2
 have c3:∀ w',Ext W0 w'→w'.cell? ⟨w.heap.size+1+1,3,none⟩=some (.slice Xi x.items.length xi):=BC.at 3
 have EA:=lhd eA;have C0:=c0 W0 (Ext.refl _);have A0:=a0 W0 (Ext.refl _);have V0:=v0 W0 (Ext.refl _);have V1:=v1 W0 (Ext.refl _);have V2:=v2 W0 (Ext.refl _);clear hd hv hx hval hok hf hg hL hxv ht hT BA BV BC eA hsA hz;generalize joinB ss=p at *;obtain ⟨P,hP⟩:∃ P,P=pathT p:=⟨_,rfl⟩;rw [← hP] at CP hps;rw [← hP];clear hP;go_enter Tryz.func12,Tryz.ntmps12;go_upto_region 1 with (fail);rw [← HW0.out];go_wp2_with fail;refine CF.out.mono ?_;rintro _ w1 ⟨t,A1,n1,d1,A2,n2,d2,rfl,_,_,e1⟩;clear C0 A0 V0 V1 V2 CF HW0;go_upto_region 4 with (fail);obtain ⟨W2,hW2⟩:∃ W2,W2=w1.alloc (.cells #[.int .i64 y0.num,.slice A1 n1 d1,.slice A2 n2 d2] 29):=⟨_,rfl⟩;rw [← hW2];have E2:Ext W0 W2:=by rw [hW2];exact Ext_alloc _ e1
 clear hW2;replace a0:=kx a0 E2;replace c0:=kx c0 E2;replace c1:=kx c1 E2;replace c2:=kx c2 E2;replace c3:=kx c3 E2;replace CX:=lhd (fun w' (e:Ext W2 w')=>CX.out w' (E2.trans e));have A2':=a0 W2 (Ext.refl _);have C0:=c0 W2 (Ext.refl _);have C1:=c1 W2 (Ext.refl _);have C2:=c2 W2 (Ext.refl _);have C3:=c3 W2 (Ext.refl _);have XX:=lhd (EA.out.trans E2);clear E2 e1 EA v0 v1 v2;refine wp_region_quiet_below (by kernel_rfl) (by kernel_rfl) ?_;repeat (go_big_quiet_step ((first | (go_at_call 30;exact Calls.regrown_of (CP.out _)) | (go_at_call 31;exact Calls.regrown_of (CX.out _ (by first | assumption | exact Ext_regrown _ _ (Ext.refl _)))))))
 refine wpQuiet_nil (qnl ?_);intro w3 ew3;go_wp2;go_ret;exact ⟨rfl,XX.out.trans ew3⟩
end Go.Proofs.YtlfhealneccdkaaGreatDoor
