/- Texts, laid into one. -/
import Derived.Test.YtlfhealneccdkaaGreatDoorZDf27
import Derived.Deep.CutBlock
set_option linter.unusedVariables false
set_option linter.unusedSimpArgs false
set_option maxRecDepth 100000
set_option maxHeartbeats 16000000
namespace Go.Proofs.YtlfhealneccdkaaGreatDoor
open Go.RowKit Go.Sort
theorem iSameStep_c (g:Nat) (a s:ByteArray) (w:World) (hc:∀ w',Ext w w'→w'.cell? ⟨g,0,none⟩=some (.string s)) :
 Gives Tryz.prog 95 #[.string a,.pointer (some ⟨g,0,none⟩)] w (.bool (a.toList==s.toList)):=by
 have hc0:=hc w (Ext.refl _);go_enter Tryz.func95,Tryz.ntmps95;go_wp2;go_ret;exact ⟨rfl,Ext.refl _⟩
theorem iIndex_c (A:Option Addr) (l:List ByteArray) (c g:Nat) (s:ByteArray) (w:World) (h:Rd0 vstr w A l c) (hc:∀ w',Ext w w'→w'.cell? ⟨g,0,none⟩=some (.string s)) (k:Nat) (hk:k<l.length) (hn:∀ j (hj:j<l.length),j<k→¬ l[j]=s) (he:l[k]=s) :
 Gives Tryz.prog 94 #[.slice A l.length c,.func (.func 95) #[] #[.pointer (some ⟨g,0,none⟩)]] w (.int .i64 (k:Int)):=by
 have hl:=h.len;have HH:=lhd h;have HN:=lhd hn;have HE:=lhd he;have CS:=lhd (fun a w h=>iSameStep_c g a s w h);clear h hn he;go_enter Tryz.func94,Tryz.ntmps94;go_wp2_with fail;go_loopw [9] (fun ix wr=>∃ j:Nat,j≤k∧ix=.int .i64 j∧Ext w wr) (fun ix _=>k-(intOf ix).toNat)
 case atStart=>exact ⟨0,by omega,rfl,Ext.refl _⟩
 case round =>
  obtain ⟨j,hj,rfl,hx⟩:=hrel;have hjl:j<l.length:=by omega
  have hji:(j:Int)<(l.length:Int):=by omega
  obtain ⟨b,off,hA,_,hcs⟩:=HH.out.at j hjl;subst hA;have hc0:=hcs wr hx;unfold vstr at hc0;have CS1:=lhd (CS.out l[j] wr (fun w' e=>hc w' (hx.trans e)));have HN1:=lhd (fun h=>HN.out j hjl h);have HEJ:Hid (j=k→l[j]=s):=fun h=>by subst h;exact HE.out
  clear hcs;generalize l[j]=x at *;rcases (by omega:j<k∨j=k) with hlt | rfl
  ·have hb:(x.toList==s.toList)=false:=ba_eqF (HN1.out hlt)
   rw [hb] at CS1;go_wp2_with (go_at_call 95;refine CS1.out.mono ?_;rintro _ w1 ⟨rfl,e1⟩)
   go_roundw
   case rel=>exact ⟨j+1,by omega,by go_num,hx.trans e1⟩
   case measure=>simp [intOf];omega
  ·have hb:(x.toList==s.toList)=true:=ba_eqT (HEJ.out rfl)
   rw [hb] at CS1;go_wp2_with (go_at_call 95;refine CS1.out.mono ?_;rintro _ w1 ⟨rfl,e1⟩)
   go_ret;exact ⟨rfl,hx.trans e1⟩
theorem iFollow_c (A:Option Addr) (ds:List DRule) (c:Nat) (hok:descOk ds=true) (hs:ShortD ds) (hw:WfD ds) (i:Nat) (hi:i<ds.length) (v:DVal) (Vb:Option Addr) (vb:Nat) (Vi:Option Addr) (vi:Nat) (k:Nat) (hk:k<v.items.length) (w:World) (hd:RdD w A ds c) (hv:RdV w v Vb vb Vi vi) (hvo:ownV ds ds[i] v.num v.bytes.length v.items.length=true) (hT:Tab w) :
 Gives Tryz.prog 75 #[.agg #[.slice A ds.length c],.int .i64 (i:Int),.agg #[.int .i64 v.num,.slice Vb v.bytes.length vb,.slice Vi v.items.length vi],.string (stepR ds[i] k)] w (.int .i64 (k:Int)):=by
 have hl:=hd.len;have hil:=hv.i.len;have hkn:knownB ds (i:Int)=true:=by unfold knownB;simp [hok];omega
 obtain ⟨W0,HW0,BA,BV,BS,eA,hsA⟩:=boxes3' w #[.slice A ds.length c] #[.int .i64 v.num,.slice Vb v.bytes.length vb,.slice Vi v.items.length vi] #[.string (stepR ds[i] k)] 26 29 9
 have CK:Hid (Gives Tryz.prog 38 #[.agg #[.slice A ds.length c],.int .i64 (i:Int)] W0 (.bool true)):=by
  have h:=iKnown_c A ds c (i:Int) W0 (hd.ext eA) hs hw
  rwa [hkn] at h
 obtain ⟨hx0,hinj,hkd⟩:=step_facts hok i hi hvo hk;obtain ⟨_,hat⟩:=own_item hok i hi hvo hk;have CS:Hid (∀ w',Ext w w'→Gives Tryz.prog 43 #[.agg #[.slice A ds.length c],.int .i64 (i:Int),.int .i64 (k:Int)] w' (.string (stepR ds[i] k))):=fun w' e=>iStep_c A ds c i hi v.num k w' hok (hd.ext e) hs hw (by omega) hat (hT.ext e)
 obtain ⟨bR,oR,Rb,rb,Rn,rn,Rt,rt,Rk,rk,hAR,_,hSR,hRR⟩:=hd.at i hi;subst hAR;have hil':(i:Int)<(ds.length:Int):=by omega
 have hki:(k:Int)<(v.items.length:Int):=by omega
 have h6:ds[i].kind=6→stepR ds[i] k=ds[i].names.getD k ⟨#[]⟩∧∀ j,j<ds[i].names.length→stepR ds[i] j=ds[i].names.getD j ⟨#[]⟩:=fun e=>⟨by unfold stepR;rw [if_neg (by omega),if_pos e],fun j _=>by unfold stepR;rw [if_neg (by omega),if_pos e]⟩
 have h6l:ds[i].kind=6→v.items.length=ds[i].names.length:=fun e=>by
  have h1:=((kids_len hok i hi).2.2.1 e).1;unfold ownV at hvo;rw [if_neg (by omega),if_neg (by omega),if_neg (by omega),if_neg (by omega),if_neg (by omega),if_pos e] at hvo;simp only [Bool.and_eq_true,beq_iff_eq] at hvo
  omega
 have hcase:(ds[i].kind=5∧stepR ds[i] k=itoaB (k:Nat)∧k<40)∨(ds[i].kind=6∧∃ h:k<ds[i].names.length,ds[i].names[k]=stepR ds[i] k∧∀ j (hj:j<ds[i].names.length),j<k→¬ ds[i].names[j]=stepR ds[i] k)∨(¬ ds[i].kind=5∧¬ ds[i].kind=6∧k=0):=by
  rcases hat with ⟨e,_⟩ | ⟨e,_,h2⟩ | ⟨e,h2,_⟩ | ⟨e,h2,_⟩
  ·left
   rcases hkd with h | h | h | h | h
   ·exact h
   all_goals
    have hs5:stepR ds[i] k=itoaB (k:Nat):=by unfold stepR;rw [if_pos e]
    have hm:v.items.length≤40:=by
     unfold ownV at hvo;rw [if_neg (by omega),if_neg (by omega),if_neg (by omega),if_neg (by omega),if_pos e] at hvo;simp only [Bool.and_eq_true,decide_eq_true_eq] at hvo
     omega
    exact ⟨e,hs5,by omega⟩
  ·right;left
   refine ⟨e,h2,?_,fun j hj hjk he=>?_⟩
   ·rw [(h6 e).1];simp [h2]
   ·have h3:=(h6 e).2 j hj
    have h4:stepR ds[i] j=stepR ds[i] k:=by rw [h3,← he];simp [hj]
    have:=hinj j (by have:=h6l e;omega) h4
    omega
  ·right;right;exact ⟨by omega,by omega,h2⟩
  ·right;right;exact ⟨by omega,by omega,h2⟩
 have HRN:=lhd hSR.n;obtain ⟨q0,q1,q2,q3,q4,q5,q6,q7⟩:=hRR;have HX0:=lhd hx0;have EA:=lhd eA;have BA:=lhd BA;have BV:=lhd BV;have BS:=lhd BS;generalize stepR ds[i] k=x at *;generalize hrr:ds[i]=rr at *;clear h6 h6l hinj hkd hat hSR hd hv hvo hok hs hw hT hkn hx0 eA hsA hrr
 have n0:¬ x.toList=[]:=fun e=>by
  have h1:x.data.toList.length=0:=by rw [← ByteArray.toList_eq,e];rfl
  rw [Array.length_toList] at h1;have h2:=HX0.out
  change x.size=0 at h1;omega
 have d0:(x.toList==[])=false:=by simpa using n0
 have d1:(x.toList !=x.toList)=false:=by simp
 have d2:decide ((k:Int)<0)=false:=decide_eq_false (by omega)
 have d3:decide ((v.items.length:Int)≤(k:Int))=false:=decide_eq_false (by omega)
 have d2':¬ (k:Int)<0:=by omega
 have d3':¬ (v.items.length:Int)≤(k:Int):=by omega
 have d3'':¬ v.items.length≤k:=by omega
 have d3n:decide (v.items.length≤k)=false:=decide_eq_false (by omega)
 have a0:∀ w',Ext W0 w'→w'.cell? ⟨w.heap.size,0,none⟩=some (.slice (some ⟨bR,oR,none⟩) ds.length c):=BA.out.at 0
 have v2:∀ w',Ext W0 w'→w'.cell? ⟨w.heap.size+1,2,none⟩=some (.slice Vi v.items.length vi):=BV.out.at 2
 have s0:∀ w',Ext W0 w'→w'.cell? ⟨w.heap.size+1+1,0,none⟩=some (.string x):=BS.out.at 0
 replace q0:=fun w' (e:Ext W0 w')=>q0 w' (EA.out.trans e);replace q1:=fun w' (e:Ext W0 w')=>q1 w' (EA.out.trans e);replace q2:=fun w' (e:Ext W0 w')=>q2 w' (EA.out.trans e);replace q3:=fun w' (e:Ext W0 w')=>q3 w' (EA.out.trans e)
 replace q4:=fun w' (e:Ext W0 w')=>q4 w' (EA.out.trans e);replace q5:=fun w' (e:Ext W0 w')=>q5 w' (EA.out.trans e);replace q6:=fun w' (e:Ext W0 w')=>q6 w' (EA.out.trans e);replace q7:=fun w' (e:Ext W0 w')=>q7 w' (EA.out.trans e)
 go_enter Tryz.func75,Tryz.ntmps75;go_wp2_with fail;rw [← HW0.out];refine CK.out.mono ?_;rintro _ w1 ⟨rfl,e1⟩;obtain ⟨W2,hW2⟩:∃ W2,W2=w1.alloc (.cells (rcs rr Rb rb Rn rn Rt rt Rk rk) 67):=⟨_,rfl⟩;have HW2:=lhd hW2;have E2:Ext W0 W2:=by rw [hW2];exact Ext_alloc _ e1
 clear hW2;have XW:=lhd (EA.out.trans E2);rcases hcase with ⟨h5,hx5,hk40⟩ | ⟨h6,hkn,hke,hkne⟩ | ⟨h5,h6,rfl⟩
 case' inl =>
  obtain ⟨f1,f2,_⟩:=numS_item k hk40;rw [← hx5] at f1 f2;have CP:=lhd (fun w'=>iParse_c x (numS_of f1) w');rw [f2] at CP;clear hx5 f1 f2;have s0':(w1.alloc (.cells (rcs rr Rb rb Rn rn Rt rt Rk rk) 67)).cell? ⟨w.heap.size+1+1,0,none⟩=some (.string x):=by rw [← HW2.out];exact s0 _ E2
  go_wp2_with (go_at_call 93;refine (CP.out _).mono ?_;rintro _ w3 ⟨rfl,e3⟩)
  have E3:Ext W2 w3:=by rw [HW2.out];rw [← h5] at e3;exact e3
  clear e3;replace a0:=fun w' (e:Ext w3 w')=>a0 w' (E2.trans (E3.trans e));replace v2:=fun w' (e:Ext w3 w')=>v2 w' (E2.trans (E3.trans e));replace s0:=fun w' (e:Ext w3 w')=>s0 w' (E2.trans (E3.trans e))
  replace CS:=lhd (fun w' (e:Ext w3 w')=>CS.out w' (XW.out.trans (E3.trans e)));have XW3:=XW.out.trans E3;clear q0 q1 q2 q3 q4 q5 q6 q7 s0' HW2 HW0 CP CK E2 E3 HRN EA XW;have b0:=a0 w3 (Ext.refl _);have u2:=v2 w3 (Ext.refl _);have t0:=s0 w3 (Ext.refl _);refine wp_region_quiet_below (by kernel_rfl) (by kernel_rfl) ?_;repeat (go_big_quiet_step ((go_at_call 43;exact Calls.regrown_of (CS.out _ (by first | assumption | exact Ext_regrown _ _ (Ext.refl _))))))
  refine wpQuiet_nil (qnl ?_);intro w4 ew4;go_wp2;go_ret;exact ⟨rfl,XW3.trans ew4⟩
 case' inr.inl =>
  have k5:((6:Int)==5)=false:=by decide
  have k6:((6:Int)==6)=true:=by decide
  have CI:=lhd (fun w' (e:Ext W2 w')=>iIndex_c Rn rr.names rn (w.heap.size+1+1) x w' (HRN.out.ext (XW.out.trans e)) (fun w'' e2=>s0 w'' (E2.trans (e.trans e2))) k hkn hkne hke);go_wp2_with (go_at_call 94;refine (CI.out _ (by rw [HW2.out,← h6];exact Ext.refl _)).mono ?_;rintro _ w3 ⟨rfl,e3⟩)
  have E3:Ext W2 w3:=by rw [HW2.out];rw [← h6] at e3;exact e3
  clear e3;replace a0:=fun w' (e:Ext w3 w')=>a0 w' (E2.trans (E3.trans e));replace v2:=fun w' (e:Ext w3 w')=>v2 w' (E2.trans (E3.trans e));replace s0:=fun w' (e:Ext w3 w')=>s0 w' (E2.trans (E3.trans e))
  replace CS:=lhd (fun w' (e:Ext w3 w')=>CS.out w' (XW.out.trans (E3.trans e)));have XW3:=XW.out.trans E3;clear q0 q1 q2 q3 q4 q5 q6 q7 HW2 HW0 CI CK E2 E3 HRN EA XW hkne hke;have b0:=a0 w3 (Ext.refl _);have u2:=v2 w3 (Ext.refl _);have t0:=s0 w3 (Ext.refl _);refine wp_region_quiet_below (by kernel_rfl) (by kernel_rfl) ?_;repeat (go_big_quiet_step ((go_at_call 43;exact Calls.regrown_of (CS.out _ (by first | assumption | exact Ext_regrown _ _ (Ext.refl _))))))
  refine wpQuiet_nil (qnl ?_);intro w4 ew4;go_wp2;go_ret;exact ⟨rfl,XW3.trans ew4⟩
 case' inr.inr =>
  have k5:((rr.kind:Int)==5)=false:=by simp;omega
  have k6:((rr.kind:Int)==6)=false:=by simp;omega
  have k5':decide ((rr.kind:Int)=5)=false:=decide_eq_false (by omega)
  have k6':decide ((rr.kind:Int)=6)=false:=decide_eq_false (by omega)
  have K5:¬ (rr.kind:Int)=5:=by omega
  have K6:¬ (rr.kind:Int)=6:=by omega
  have d4:¬ v.items=[]:=fun e=>by rw [e] at hk;exact absurd hk (by simp)
  have d4':decide (v.items=[])=false:=decide_eq_false d4
  go_upto_region 13 with (fail);rw [← HW2.out];replace a0:=kx a0 E2;replace v2:=kx v2 E2;replace s0:=kx s0 E2;replace CS:=lhd (fun w' (e:Ext W2 w')=>CS.out w' (XW.out.trans e));have XW3:=XW.out;clear q0 q1 q2 q3 q4 q5 q6 q7 HW2 HW0 CK E2 HRN EA XW;have b0:=a0 W2 (Ext.refl _);have u2:=v2 W2 (Ext.refl _);have t0:=s0 W2 (Ext.refl _);refine wp_region_quiet_below (by kernel_rfl) (by kernel_rfl) ?_;repeat (go_big_quiet_step ((go_at_call 43;exact Calls.regrown_of (CS.out _ (by first | assumption | exact Ext_regrown _ _ (Ext.refl _))))))
  refine wpQuiet_nil (qnl ?_);intro w4 ew4;go_wp2;go_ret;exact ⟨rfl,XW3.trans ew4⟩
inductive Walks (ds:List DRule):Nat→DVal→List ByteArray→List Nat→Nat→DVal→Prop
 | nil {i:Nat} {v:DVal}:Walks ds i v [] [] i v
 | cons {i:Nat} {v:DVal} {s:ByteArray} {ss:List ByteArray} {k:Nat} {r:List Nat} {j:Nat} {y:DVal} (hk:k<v.items.length) (he:stepR (ds.getD i noRule) k=s) (h:Walks ds (kidV (ds.getD i noRule) v.num k) v.items[k] ss r j y):Walks ds i v (s::ss) (k::r) j y
theorem findV_walks {ds:List DRule}:∀ (ss:List ByteArray) {i:Nat} {v:DVal} {j:Nat} {y:DVal},findV ds i v ss=some (j,y)→∃ r,Walks ds i v ss r j y
 | [],i,v,j,y,h=>by
  rw [findV] at h;cases h
  exact ⟨[],.nil⟩
 | s::ss,i,v,j,y,h=>by
  cases hf:followV (ds.getD i noRule) v.items.length s with
  | none=>rw [findV,hf] at h;cases h
  | some k =>
   obtain ⟨hk,he,_⟩:=follow_some hf;rw [findV_cons hf hk] at h;obtain ⟨r,hr⟩:=findV_walks ss h;exact ⟨k::r,.cons hk he hr⟩
theorem replV_walks {ds:List DRule} {x:DVal}:∀ (ss:List ByteArray) {i:Nat} {v z:DVal},replV ds i v ss x=some z→∃ r j y,Walks ds i v ss r j y∧validV ds j x=true∧z=v.putP r x
 | [],i,v,z,h=>by
  rw [replV] at h
  split at h
  ·rename_i hx
   exact ⟨[],i,v,.nil,hx,(Option.some.inj h).symm⟩
  ·cases h
 | s::ss,i,v,z,h=>by
  obtain ⟨k,hk,q,hf,hr,rfl⟩:=replV_step h;obtain ⟨r,j,y,h1,h2,rfl⟩:=replV_walks ss hr;exact ⟨k::r,j,y,.cons hk (follow_some hf).2.1 h1,h2,by rw [dput_cons hk]⟩
theorem Walks.valid {ds:List DRule} {i:Nat} {v:DVal} {ss:List ByteArray} {r:List Nat} {j:Nat} {y:DVal} (h:Walks ds i v ss r j y):validV ds i v=true→validV ds j y=true:=by
 induction h with
 | nil=>exact id
 | cons hk he h ih =>
  rename_i i v s ss k r j y
  intro hv;have hi:=validV_lt hv;have hg:ds.getD i noRule=ds[i]:=by simp [hi]
  refine ih ?_
  have:=validV_item hv _ hk
  rwa [hg]
theorem Walks.size {ds:List DRule} {i:Nat} {v:DVal} {ss:List ByteArray} {r:List Nat} {j:Nat} {y:DVal} (h:Walks ds i v ss r j y):szV y≤szV v:=by
 induction h with
 | nil=>exact Nat.le_refl _
 | cons hk he h ih=>have:=szV_item (List.getElem_mem hk);omega
inductive PtrAt (w:World):Nat→Nat→DVal→List Nat→Nat→Nat→DVal→Prop
 | here {g o:Nat} {v:DVal}:PtrAt w g o v [] g o v
 | step {g o:Nat} {v:DVal} {k:Nat} {r:List Nat} {b off n cap g' o':Nat} {y:DVal} (hk:k<v.items.length) (hc:∀ w',Ext w w'→w'.cell? ⟨g,o+2,none⟩=some (.slice (some ⟨b,off,none⟩) n cap)) (h:PtrAt w b (off+k*3) v.items[k] r g' o' y):PtrAt w g o v (k::r) g' o' y
theorem ownT_item {w0 w:World} {t:VT} (h:OwnT w0 w t) {k:Nat} (hk:k<t.its.length):∃ g cap,t.vi=.slice (some ⟨g,0,none⟩) t.its.length cap∧∀ j (hj:j<3),∀ w',Ext w w'→w'.cell? ⟨g,k*3+j,none⟩=t.its[k].cells[j]?:=by
 rcases h.i.2 with ⟨_,h0⟩ | ⟨g,cap,cur,hv,hb,hg,hnc,hcm,hcs,htake⟩
 ·omega
 ·refine ⟨g,cap,hv,fun j hj w' e=>?_⟩
  rw [heap_row hg e,← vcells_get t.its k j hk hj,← htake,List.getElem?_take,if_pos (by omega)];simp
theorem PtrAt.own {w0 w:World} {v y:DVal} {r:List Nat} {g o g' o':Nat} (h:PtrAt w g o v r g' o' y):∀ (t:VT),OwnT w0 w t→t.val=v→w.cell? ⟨g,o+2,none⟩=some t.vi →
 (r=[]∧g'=g∧o'=o∧y=v)∨∃ j x,r≠[]∧AtPath t r g' j x∧o'=j*3∧x.val=y:=by
 induction h with
 | here=>exact fun t _ _ _=>.inl ⟨rfl,rfl,rfl,rfl⟩
 | step hk hc h ih =>
  rename_i g o v k r b off n cap g' o' y
  intro t ho hv hvi;subst hv;have hk':k<t.its.length:=by rw [VT.val_items,valsOf_len] at hk;exact hk
  obtain ⟨g1,cap1,h1,h2⟩:=ownT_item ho hk';have h3:=hc w (Ext.refl _);rw [hvi,h1] at h3;injection h3 with h3;injection h3 with h3 h4 h5
  injection h3 with h3;injection h3 with h3 h6
  subst h3;subst h6
  have hx:t.its[k].val=t.val.items[k]:=by
   have:t.val.items[k]=(valsOf t.its)[k]'(by rw [valsOf_len];exact hk'):=by congr 1;exact VT.val_items t
   rw [this,valsOf_get]
  rcases ih t.its[k] (ho.kids _ (List.getElem_mem hk')) hx (by have:=h2 2 (by omega) w (Ext.refl _);rw [Nat.zero_add,this];rfl) with ⟨rfl,rfl,rfl,rfl⟩ | ⟨j,x,hr,ha,hj,hx⟩
  ·exact .inr ⟨k,t.its[k],by simp,.here hk' h1,by omega,hx⟩
  ·exact .inr ⟨j,x,by simp,.deeper hk' hr ha,hj,hx⟩
def PartOut (w:World) (g o:Nat) (v:DVal) (r0:List Nat) (y0:DVal) (j0:Nat) (e:Ending) (w':World):Prop:=∃ (g' o':Nat) (Yb:Option Addr) (yb:Nat) (Yi:Option Addr) (yi:Nat),e=.returned (.tuple #[.pointer (some ⟨g',o',none⟩),.int .i64 (j0:Int)])∧PtrAt w g o v r0 g' o' y0∧RdV w y0 Yb yb Yi yi∧ValAt w g' o' y0 (.slice Yb y0.bytes.length yb) (.slice Yi y0.items.length yi)∧Ext w w'
theorem iPartAt_c (A:Option Addr) (ds:List DRule) (c:Nat) (hok:descOk ds=true) (hs:ShortD ds) (hw:WfD ds) (v:DVal) (Vb:Option Addr) (vb:Nat) (Vi:Option Addr) (vi:Nat) (g o:Nat) (ss:List ByteArray) (As:Option Addr) (cs:Nat) (r0:List Nat) (j0:Nat) (y0:DVal) (w:World) (hd:RdD w A ds c) (hv:RdV w v Vb vb Vi vi) (hva:ValAt w g o v (.slice Vb v.bytes.length vb) (.slice Vi v.items.length vi)) (hval:validV ds (ds.length-1) v=true) (hss:Rd vstr w As ss cs) (hW:Walks ds (ds.length-1) v ss r0 j0 y0) (hT:Tab w) :
 Calls Tryz.prog 50 #[.agg #[.slice A ds.length c],.pointer (some ⟨g,o,none⟩),.slice As ss.length cs] w (PartOut w g o v r0 y0 j0):=by
 have hl:=hd.len;obtain ⟨n,hn⟩:∃ n,ds.length=n+1:=⟨ds.length-1,by have:=(descOk_len hok).1;omega⟩;rw [show ds.length-1=n by omega] at hval hW;obtain ⟨W0,hW0⟩:∃ W0,W0=w.alloc (.cells #[.slice A ds.length c] 26):=⟨_,rfl⟩;have HW0:=lhd hW0;have BA:Hid (Box W0 w.heap.size #[.slice A ds.length c] 26):=by rw [hW0];exact Box.new _ _ _
 have EA:Hid (Ext w W0):=by rw [hW0];exact Ext_alloc _ (Ext.refl _)
 clear hW0;have CR:=lhd (fun w=>show Gives Tryz.prog 16 #[.agg #[.slice A ds.length c]] w (.int .i64 (n:Int)) from by have h:=iRoot_c A ds c w hl;rwa [show (ds.length:Int)-1=(n:Int) by omega] at h)
 have CF:Hid (∀ (i:Nat) (hi:i<ds.length) (y:DVal) (Yb:Option Addr) (yb:Nat) (Yi:Option Addr) (yi:Nat) (k:Nat) (w':World),Ext w w'→RdV w y Yb yb Yi yi→validV ds i y=true→k<y.items.length→Gives Tryz.prog 75 #[.agg #[.slice A ds.length c],.int .i64 (i:Int),.agg #[.int .i64 y.num,.slice Yb y.bytes.length yb,.slice Yi y.items.length yi],.string (stepR ds[i] k)] w' (.int .i64 (k:Int))) :=
  fun i hi y Yb yb Yi yi k w' e hy hva hk=>iFollow_c A ds c hok hs hw i hi y Yb yb Yi yi k hk w' (hd.ext e) (hy.ext e) (validV_fits hva) (hT.ext e)
 have CH:Hid (∀ (i:Nat) (hi:i<ds.length) (y:DVal) (Yb:Option Addr) (yb:Nat) (Yi:Option Addr) (yi:Nat) (k:Nat) (G O:Nat) (w':World),Ext w w'→RdV w y Yb yb Yi yi→ValAt w G O y (.slice Yb y.bytes.length yb) (.slice Yi y.items.length yi)→validV ds i y=true→k<y.items.length→Gives Tryz.prog 42 #[.agg #[.slice A ds.length c],.int .i64 (i:Int),.pointer (some ⟨G,O,none⟩),.int .i64 (k:Int)] w' (.int .i64 (kidV ds[i] y.num k:Int))):=by
  intro i hi y Yb yb Yi yi k G O w' e hy hat hva hk;have h1:=itemI_of hok i hi (fit_of_own hok i hi (validV_fits hva)) hk
  have h2:kidI ds[i] y.num k=(kidV ds[i] y.num k:Int):=by
   rcases h1.2 with ⟨_,_,h⟩ | ⟨h,_⟩
   ·exact h
   ·rw [validV_fits hva] at h;cases h
  have h3:=iChild_c A ds c i hi y.num G O k w' (hd.ext e) (fun w2 e2=>hat.c0 w2 (e.trans e2)) (by have:=hy.i.len;omega) h1.1 (kd_int hok i hi);rw [h2] at h3;exact h3
 have HOK:=lhd hok;have HSS:=lhd hss;have HV:=lhd hv;have HVA:=lhd hva;have HVAL:=lhd hval;have HWK:=lhd hW;have HN:=lhd hn;have hsl:=hss.len;clear hd hv hss hT hok hva hval hW hn;go_enter Tryz.func50,Tryz.ntmps50;go_wp2_with fail;rw [← HW0.out];have b0:=BA.out.at 0 _ (Ext.refl _);go_wp2_with fail;refine (CR.out _).mono ?_;rintro _ w1 ⟨rfl,e1⟩;have E1:=lhd (EA.out.trans e1);have A1:=lhd (BA.out.ext e1);clear HW0 BA EA b0 e1 CR;go_wp2_with fail;go_loopw [1,8,16] (fun p r ix wr=>∃ (k j G O:Nat) (y:DVal) (Yb:Option Addr) (yb:Nat) (Yi:Option Addr) (yi:Nat) (r1:List Nat),k≤ss.length∧p=.pointer (some ⟨G,O,none⟩)∧r=.int .i64 j∧ix=.int .i64 k∧Hid (Walks ds j y (ss.drop k) r1 j0 y0∧validV ds j y=true)∧Hid (RdV w y Yb yb Yi yi)∧Hid (ValAt w G O y (.slice Yb y.bytes.length yb) (.slice Yi y.items.length yi))∧Hid (∀ g' o',PtrAt w G O y r1 g' o' y0→PtrAt w g o v r0 g' o' y0)∧Hid (Ext w1 wr)) (fun _ _ ix _=>ss.length-(intOf ix).toNat)
 case atStart=>exact ⟨0,n,g,o,v,Vb,vb,Vi,vi,r0,by omega,rfl,rfl,rfl,⟨by rw [List.drop_zero];exact HWK.out,HVAL.out⟩,HV.out,HVA.out,fun _ _ h=>h,Ext.refl _⟩
 case round =>
  obtain ⟨k,j,G,O,y,Yb,yb,Yi,yi,r1,hk,rfl,rfl,rfl,hwk,hy,hat,hto,he⟩:=hrel;have a0:∀ w',Ext wr w'→w'.cell? ⟨w.heap.size,0,none⟩=some (.slice A ds.length c):=(A1.out.ext he.out).at 0
  by_cases hlt:k<ss.length
  ·have hki:(k:Int)<(ss.length:Int):=by omega
   obtain ⟨bs,os,hAs,_,hcs⟩:=HSS.out.at k hlt;subst hAs;have hdr:ss.drop k=ss[k]::ss.drop (k+1):=List.drop_eq_getElem_cons hlt
   obtain ⟨hwk1,hvj⟩:=hwk.out;rw [hdr] at hwk1;generalize ss[k]=x at *;unfold vstr at hcs;have EW:=lhd (E1.out.trans he.out);have hjl:=validV_lt hvj;have hgd:ds.getD j noRule=ds[j]:=by simp [hjl]
   obtain ⟨m,r2,hm,hx,hwk2,rfl⟩:∃ m r2,∃ hm:m<y.items.length,stepR ds[j] m=x∧Walks ds (kidV ds[j] y.num m) y.items[m] (ss.drop (k+1)) r2 j0 y0∧r1=m::r2:=by
    cases hwk1 with
    | cons hk he h=>rw [hgd] at he h;exact ⟨_,_,hk,he,h,rfl⟩
   have CF1:Hid (∀ w',Ext w w'→Gives Tryz.prog 75 #[.agg #[.slice A ds.length c],.int .i64 (j:Int),.agg #[.int .i64 y.num,.slice Yb y.bytes.length yb,.slice Yi y.items.length yi],.string x] w' (.int .i64 (m:Int))):=fun w' e=>by
    have h:=CF.out j hjl y Yb yb Yi yi m w' e hy.out hvj hm
    rwa [hx] at h
   have CH1:=lhd (fun w' e=>CH.out j hjl y Yb yb Yi yi m G O w' e hy.out hat.out hvj hm);obtain ⟨bI,oI,Zb,zb,Zi,zi,hYi,_,hzr,hza⟩:=hy.out.i.at m hm;subst hYi;have HVM:Hid (validV ds (kidV ds[j] y.num m) y.items[m]=true):=validV_item hvj m hm
   have HTO:Hid (∀ g' o',PtrAt w bI (oI+m*3) y.items[m] r2 g' o' y0→PtrAt w g o v r0 g' o' y0):=fun g' o' h=>hto.out g' o' (.step hm hat.out.c2 h)
   have HWK2:=lhd hwk2;have HZR:=lhd hzr;have HZA:=lhd hza;have v0:∀ w',Ext wr w'→w'.cell? ⟨G,O,none⟩=some (.int .i64 y.num):=fun w' e=>hat.out.c0 w' (EW.out.trans e)
   have v1:∀ w',Ext wr w'→w'.cell? ⟨G,O+1,none⟩=some (.slice Yb y.bytes.length yb):=fun w' e=>hat.out.c1 w' (EW.out.trans e)
   have v2:∀ w',Ext wr w'→w'.cell? ⟨G,O+2,none⟩=some (.slice (some ⟨bI,oI,none⟩) y.items.length yi):=fun w' e=>hat.out.c2 w' (EW.out.trans e)
   replace hcs:=fun w' (e:Ext wr w')=>hcs w' (EW.out.trans e)
   have hyl:=hy.out.i.len;clear hwk hwk1 hwk2 hx hto hvj hgd hdr hzr hza hat CF CH;generalize kidV ds[j] y.num m=kk at *;generalize y.items[m]=z at *;have hm0:decide ((m:Int)<0)=false:=decide_eq_false (by omega)
   have hm0':¬ ((m:Int)<0):=by omega
   have hmy:(m:Int)<(y.items.length:Int):=by omega
   have hoff:oI+3*m=oI+m*3:=by omega
   go_wp2_with fail;refine wp_region_quiet_below (by kernel_rfl) (by kernel_rfl) ?_;repeat (go_big_quiet_step ((go_at_call 75;exact Calls.regrown_of (CF1.out _ (EW.out.trans (by first | assumption | exact Ext_regrown _ _ (Ext.refl _)))))))
   refine wpQuiet_nil (qnl ?_);intro w4 ew4;have EW4:=lhd (EW.out.trans ew4);have a4:=a0 _ ew4;have v24:∀ w',Ext w4 w'→w'.cell? ⟨G,O+2,none⟩=some (.slice (some ⟨bI,oI,none⟩) y.items.length yi):=fun w' e=>v2 w' (ew4.trans e)
   have a04:∀ w',Ext w4 w'→w'.cell? ⟨w.heap.size,0,none⟩=some (.slice A ds.length c):=fun w' e=>a0 w' (ew4.trans e)
   clear a0 v0 v1 v2 hcs;go_wp2_with fail;refine wp_region_quiet_below (by kernel_rfl) (by kernel_rfl) ?_;repeat (go_big_quiet_step ((go_at_call 42;exact Calls.regrown_of (CH1.out _ (EW4.out.trans (by first | assumption | exact Ext_regrown _ _ (Ext.refl _)))))))
   refine wpQuiet_nil (qnl ?_);intro w5 ew5;have E5:=lhd ((he.out.trans ew4).trans ew5);go_wp2;go_roundw
   case rel=>exact ⟨k+1,kk,bI,oI+m*3,z,Zb,zb,Zi,zi,r2,by omega,by first | rfl | (rw [hoff]),rfl,by go_num,⟨HWK2.out,HVM.out⟩,HZR.out,HZA.out,HTO.out,E5.out⟩
   case measure=>simp [intOf];omega
  ·have hk':k=ss.length:=by omega
   have hwk1:=hwk.out.1;rw [hk',List.drop_length] at hwk1
   have hfin:Hid (r1=[]∧j=j0∧y=y0):=by
    cases hwk1;exact ⟨rfl,rfl,rfl⟩
   have HX:=lhd (E1.out.trans he.out);clear hwk hwk1 CF CH a0;obtain ⟨rfl,rfl,rfl⟩:=hfin.out;have HP:=lhd (hto.out G O .here);go_wp2;refine bodyPost_ret (v:=.tuple #[.pointer (some ⟨G,O,none⟩),.int .i64 (j:Int)]) ?_ rfl ⟨G,O,Yb,yb,Yi,yi,rfl,HP.out,hy.out,hat.out,HX.out⟩;simp [results,Tryz.results50,go_sem]
end Go.Proofs.YtlfhealneccdkaaGreatDoor
namespace Go.Proofs.YtlfhealneccdkaaGreatDoor
theorem sz_repl_eq {ds:List DRule}:∀ (ss:List ByteArray) (i:Nat) (v x w:DVal) {r:Nat} {y:DVal},replV ds i v ss x=some w→findV ds i v ss=some (r,y)→szV w+szV y=szV v+szV x
 | [],i,v,x,w,r,y,h,hf=>by
  rw [findV] at hf;obtain ⟨rfl,rfl⟩:=Prod.mk.inj (Option.some.inj hf);rw [replV] at h
  split at h
  ·obtain rfl:=Option.some.inj h;omega
  ·cases h
 | s::t,i,v,x,w,r,y,h,hf=>by
  obtain ⟨k,hk,z,hfo,hr,rfl⟩:=replV_step h;rw [findV_cons hfo hk] at hf;have h1:=sz_repl_eq t _ _ _ _ hr hf;have h2:=sz_setItem (v:=v) (z:=z) hk
  omega
theorem szC_nil:szC []=0:=rfl
theorem szC_cons (c:List ByteArray × DVal) (t:List (List ByteArray × DVal)):szC (c::t)=szV c.2+szC t:=by unfold szC;rw [List.map_cons,List.sum_cons]
theorem szC_append (a b:List (List ByteArray × DVal)):szC (a++b)=szC a+szC b:=by unfold szC;rw [List.map_append,List.sum_append]
theorem szC_stepIn (s:ByteArray) (a:List (List ByteArray × DVal)):szC (a.map (stepIn s))=szC a:=by unfold szC;rw [List.map_map];rfl
theorem sz_inv {ds:List DRule} {i:Nat}:∀ {cs:List (List ByteArray × DVal)} {v w:DVal},validV ds i v=true→applyS ds i v cs=some w→szC (invS ds i v cs)+szV w=szV v+szC cs
 | [],v,w,hv,h=>by rw [applyS] at h;obtain rfl:=Option.some.inj h;rw [invS];omega
 | c::t,v,w,hv,h=>by
  rw [applyS,Option.bind_eq_some_iff] at h;obtain ⟨u,h1,h2⟩:=h;obtain ⟨hu,r,y,f1,f2,f3,f4,f5⟩:=replV_ok ds _ _ _ _ _ hv h1;have a1:=sz_repl_eq _ _ _ _ _ h1 f1;have a2:=sz_inv hu h2;have e:invS ds i v (c::t)=invS ds i u t++[(c.1,y)]:=by rw [invS,f1,h1]
  rw [e,szC_append,szC_cons,szC_cons,szC_nil];show _+(szV y+0)+_=_
  omega
mutual
theorem sz_diff (ds:List DRule):∀ (i:Nat) (a b:DVal),szC (diffS ds i a b)≤szV b
 | i,.mk n bs its,v=>by
  rw [diffS]
  split
  ·simp [szC_nil]
  ·split
   ·have h1:=sz_diffs ds (ds.getD i noRule) n 0 its v.items
    have h2:=szVs_le_szV v
    omega
   ·rw [szC_cons,szC_nil];exact Nat.le_refl _
theorem sz_diffs (ds:List DRule) (r:DRule) (n:Int):∀ (k:Nat) (l m:List DVal),szC (diffSs ds r n k l m)≤szVs m
 | _,[],m=>by rw [diffSs,szC_nil];omega
 | _,_::_,[]=>by rw [diffSs,szC_nil];omega
 | k,x::t,y::u=>by
  rw [diffSs,szC_append,szC_stepIn,szVs_cons];have h1:=sz_diff ds (kidV r n k) x y;have h2:=sz_diffs ds r n (k+1) t u
  omega
end
theorem inv_paths {ds:List DRule} {i:Nat} (P:List ByteArray→Prop):∀ {cs:List (List ByteArray × DVal)} {v:DVal},(∀ c∈cs,P c.1)→∀ c∈invS ds i v cs,P c.1
 | [],v,_,c,hc=>by rw [invS] at hc;cases hc
 | c0::t,v,h,c,hc=>by
  rw [invS] at hc
  split at hc
  ·rcases List.mem_append.1 hc with hc | hc
   ·exact inv_paths P (fun c hc=>h c (List.mem_cons_of_mem _ hc)) c hc
   ·rw [List.mem_singleton.1 hc];exact h c0 (by simp)
  ·cases hc
end Go.Proofs.YtlfhealneccdkaaGreatDoor
namespace Go.Proofs.YtlfhealneccdkaaGreatDoor
open Go.RowKit Go.Sort
theorem iShape1_c (nm:ByteArray) (kd:Int) (sz:Int) (le:Bool) (A4:Option Addr) (n4 c4:Nat) (A5:Option Addr) (n5 c5:Nat) (A6:Option Addr) (n6 c6:Nat) (A7:Option Addr) (n7 c7:Nat) (w:World) (hk:kd=1) :
 Gives Tryz.prog 80 #[.agg #[.string nm,.int .i64 kd,.int .i64 sz,.bool le,.slice A4 n4 c4,.slice A5 n5 c5,.slice A6 n6 c6,.slice A7 n7 c7]] w (.iface 112 (.agg #[])):=by
 subst hk;have eb:=Ext_alloc (.cells #[.string nm,.int .i64 1,.int .i64 sz,.bool le,.slice A4 n4 c4,.slice A5 n5 c5,.slice A6 n6 c6,.slice A7 n7 c7] 67) (Ext.refl w);go_enter Tryz.func80,Tryz.ntmps80;go_wp2;go_ret;exact ⟨rfl,eb⟩
theorem iShape2_c (nm:ByteArray) (kd:Int) (sz:Int) (le:Bool) (A4:Option Addr) (n4 c4:Nat) (A5:Option Addr) (n5 c5:Nat) (A6:Option Addr) (n6 c6:Nat) (A7:Option Addr) (n7 c7:Nat) (w:World) (hk:kd=2) :
 Gives Tryz.prog 80 #[.agg #[.string nm,.int .i64 kd,.int .i64 sz,.bool le,.slice A4 n4 c4,.slice A5 n5 c5,.slice A6 n6 c6,.slice A7 n7 c7]] w (.iface 113 (.agg #[])):=by
 subst hk;have eb:=Ext_alloc (.cells #[.string nm,.int .i64 2,.int .i64 sz,.bool le,.slice A4 n4 c4,.slice A5 n5 c5,.slice A6 n6 c6,.slice A7 n7 c7] 67) (Ext.refl w);go_enter Tryz.func80,Tryz.ntmps80;go_wp2;go_ret;exact ⟨rfl,eb⟩
theorem iShape5_c (nm:ByteArray) (kd:Int) (sz:Int) (le:Bool) (A4:Option Addr) (n4 c4:Nat) (A5:Option Addr) (n5 c5:Nat) (A6:Option Addr) (n6 c6:Nat) (A7:Option Addr) (n7 c7:Nat) (w:World) (hk:kd=5) :
 Gives Tryz.prog 80 #[.agg #[.string nm,.int .i64 kd,.int .i64 sz,.bool le,.slice A4 n4 c4,.slice A5 n5 c5,.slice A6 n6 c6,.slice A7 n7 c7]] w (.iface 114 (.agg #[])):=by
 subst hk;have eb:=Ext_alloc (.cells #[.string nm,.int .i64 5,.int .i64 sz,.bool le,.slice A4 n4 c4,.slice A5 n5 c5,.slice A6 n6 c6,.slice A7 n7 c7] 67) (Ext.refl w);go_enter Tryz.func80,Tryz.ntmps80;go_wp2;go_ret;exact ⟨rfl,eb⟩
theorem iShape6_c (nm:ByteArray) (kd:Int) (sz:Int) (le:Bool) (A4:Option Addr) (n4 c4:Nat) (A5:Option Addr) (n5 c5:Nat) (A6:Option Addr) (n6 c6:Nat) (A7:Option Addr) (n7 c7:Nat) (w:World) (hk:kd=6) :
 Gives Tryz.prog 80 #[.agg #[.string nm,.int .i64 kd,.int .i64 sz,.bool le,.slice A4 n4 c4,.slice A5 n5 c5,.slice A6 n6 c6,.slice A7 n7 c7]] w (.iface 117 (.agg #[.slice A5 n5 c5])):=by
 subst hk;have eb:=Ext_alloc (.cells #[.string nm,.int .i64 6,.int .i64 sz,.bool le,.slice A4 n4 c4,.slice A5 n5 c5,.slice A6 n6 c6,.slice A7 n7 c7] 67) (Ext.refl w);go_enter Tryz.func80,Tryz.ntmps80;go_wp2;go_ret;exact ⟨rfl,eb⟩
theorem iShape7_c (nm:ByteArray) (kd:Int) (sz:Int) (le:Bool) (A4:Option Addr) (n4 c4:Nat) (A5:Option Addr) (n5 c5:Nat) (A6:Option Addr) (n6 c6:Nat) (A7:Option Addr) (n7 c7:Nat) (w:World) (hk:kd=7) :
 Gives Tryz.prog 80 #[.agg #[.string nm,.int .i64 kd,.int .i64 sz,.bool le,.slice A4 n4 c4,.slice A5 n5 c5,.slice A6 n6 c6,.slice A7 n7 c7]] w (.iface 118 (.agg #[])):=by
 subst hk;have eb:=Ext_alloc (.cells #[.string nm,.int .i64 7,.int .i64 sz,.bool le,.slice A4 n4 c4,.slice A5 n5 c5,.slice A6 n6 c6,.slice A7 n7 c7] 67) (Ext.refl w);go_enter Tryz.func80,Tryz.ntmps80;go_wp2;go_ret;exact ⟨rfl,eb⟩
theorem iShape8_c (nm:ByteArray) (kd:Int) (sz:Int) (le:Bool) (A4:Option Addr) (n4 c4:Nat) (A5:Option Addr) (n5 c5:Nat) (A6:Option Addr) (n6 c6:Nat) (A7:Option Addr) (n7 c7:Nat) (w:World) (hk:kd=8) :
 Gives Tryz.prog 80 #[.agg #[.string nm,.int .i64 kd,.int .i64 sz,.bool le,.slice A4 n4 c4,.slice A5 n5 c5,.slice A6 n6 c6,.slice A7 n7 c7]] w (.iface 120 (.agg #[])):=by
 subst hk;have eb:=Ext_alloc (.cells #[.string nm,.int .i64 8,.int .i64 sz,.bool le,.slice A4 n4 c4,.slice A5 n5 c5,.slice A6 n6 c6,.slice A7 n7 c7] 67) (Ext.refl w);go_enter Tryz.func80,Tryz.ntmps80;go_wp2;go_ret;exact ⟨rfl,eb⟩
theorem iShape9_c (nm:ByteArray) (kd:Int) (sz:Int) (le:Bool) (A4:Option Addr) (n4 c4:Nat) (A5:Option Addr) (n5 c5:Nat) (A6:Option Addr) (n6 c6:Nat) (A7:Option Addr) (n7 c7:Nat) (w:World) (hk:kd=9) :
 Gives Tryz.prog 80 #[.agg #[.string nm,.int .i64 kd,.int .i64 sz,.bool le,.slice A4 n4 c4,.slice A5 n5 c5,.slice A6 n6 c6,.slice A7 n7 c7]] w (.iface 121 (.agg #[])):=by
 subst hk;have eb:=Ext_alloc (.cells #[.string nm,.int .i64 9,.int .i64 sz,.bool le,.slice A4 n4 c4,.slice A5 n5 c5,.slice A6 n6 c6,.slice A7 n7 c7] 67) (Ext.refl w);go_enter Tryz.func80,Tryz.ntmps80;go_wp2;go_ret;exact ⟨rfl,eb⟩
theorem iShape0_c (nm:ByteArray) (kd:Int) (sz:Int) (le:Bool) (A4:Option Addr) (n4 c4:Nat) (A5:Option Addr) (n5 c5:Nat) (A6:Option Addr) (n6 c6:Nat) (A7:Option Addr) (n7 c7:Nat) (w:World) (h1:kd≠1) (h2:kd≠2) (h5:kd≠5) (h6:kd≠6) (h7:kd≠7) (h8:kd≠8) (h9:kd≠9) :
 Gives Tryz.prog 80 #[.agg #[.string nm,.int .i64 kd,.int .i64 sz,.bool le,.slice A4 n4 c4,.slice A5 n5 c5,.slice A6 n6 c6,.slice A7 n7 c7]] w (.iface 130 (.agg #[])):=by
 have k1:(kd==1)=false:=by simp;omega
 have K1:¬ kd=1:=by omega
 clear h1;have k2:(kd==2)=false:=by simp;omega
 have K2:¬ kd=2:=by omega
 clear h2;have k5:(kd==5)=false:=by simp;omega
 have K5:¬ kd=5:=by omega
 clear h5;have k6:(kd==6)=false:=by simp;omega
 have K6:¬ kd=6:=by omega
 clear h6;have k7:(kd==7)=false:=by simp;omega
 have K7:¬ kd=7:=by omega
 clear h7;have k8:(kd==8)=false:=by simp;omega
 have K8:¬ kd=8:=by omega
 clear h8;have k9:(kd==9)=false:=by simp;omega
 have K9:¬ kd=9:=by omega
 clear h9;have eb:=Ext_alloc (.cells #[.string nm,.int .i64 kd,.int .i64 sz,.bool le,.slice A4 n4 c4,.slice A5 n5 c5,.slice A6 n6 c6,.slice A7 n7 c7] 67) (Ext.refl w);go_enter Tryz.func80,Tryz.ntmps80;go_wp2;go_ret;exact ⟨rfl,eb⟩
def TxtG (A:Option Addr) (ds:List DRule) (c:Nat) (i:Nat) (v:DVal) (s:ByteArray):Prop:=∀ (g o:Nat) (Vb:Option Addr) (vb:Nat) (Vi:Option Addr) (vi:Nat) (w:World),RdD w A ds c→RdV w v Vb vb Vi vi→ValAt w g o v (.slice Vb v.bytes.length vb) (.slice Vi v.items.length vi)→Tab w →
 Gives Tryz.prog 54 #[.agg #[.slice A ds.length c],.int .i64 (i:Int),.pointer (some ⟨g,o,none⟩)] w (.string s)
theorem iItemT_c (A:Option Addr) (ds:List DRule) (c:Nat) (hok:descOk ds=true) (i:Nat) (hi:i<ds.length) (v:DVal) (Vb:Option Addr) (vb:Nat) (Vi:Option Addr) (vi:Nat) (g o bd bi bp k:Nat) (s:ByteArray) (w:World) (hd:RdD w A ds c) (hv:RdV w v Vb vb Vi vi) (hat:ValAt w g o v (.slice Vb v.bytes.length vb) (.slice Vi v.items.length vi)) (hT:Tab w) (hval:validV ds i v=true) (hk:k<v.items.length) (hs:TxtG A ds c (kidV ds[i] v.num k) v.items[k] s)
 (h1:∀ w',Ext w w'→w'.cell? ⟨bd,0,none⟩=some (.slice A ds.length c)) (h2:∀ w',Ext w w'→w'.cell? ⟨bi,0,none⟩=some (.int .i64 (i:Int))) (h3:∀ w',Ext w w'→w'.cell? ⟨bp,0,none⟩=some (.pointer (some ⟨g,o,none⟩))) :
 Gives Tryz.prog 79 #[.int .i64 (k:Int),.pointer (some ⟨bd,0,none⟩),.pointer (some ⟨bi,0,none⟩),.pointer (some ⟨bp,0,none⟩)] w (.string s):=by
 have CH:Hid (∀ w',Ext w w'→Gives Tryz.prog 42 #[.agg #[.slice A ds.length c],.int .i64 (i:Int),.pointer (some ⟨g,o,none⟩),.int .i64 (k:Int)] w' (.int .i64 (kidV ds[i] v.num k:Int))):=by
  intro w' e;have h1:=itemI_of hok i hi (fit_of_own hok i hi (validV_fits hval)) hk
  have h2:kidI ds[i] v.num k=(kidV ds[i] v.num k:Int):=by
   rcases h1.2 with ⟨_,_,h⟩ | ⟨h,_⟩
   ·exact h
   ·rw [validV_fits hval] at h;cases h
  have h3:=iChild_c A ds c i hi v.num g o k w' (hd.ext e) (fun w2 e2=>hat.c0 w2 (e.trans e2)) (by have:=hv.i.len;omega) h1.1 (kd_int hok i hi);rw [h2] at h3;exact h3
 have hvl:=hv.i.len;obtain ⟨bI,oI,Zb,zb,Zi,zi,hVi,_,hzr,hza⟩:=hv.i.at k hk;subst hVi;have CV:Hid (∀ w',Ext w w'→Gives Tryz.prog 54 #[.agg #[.slice A ds.length c],.int .i64 (kidV ds[i] v.num k:Nat),.pointer (some ⟨bI,oI+k*3,none⟩)] w' (.string s)):=fun w' e=>hs bI (oI+k*3) Zb zb Zi zi w' (hd.ext e) (hzr.ext e) (hza.ext e) (hT.ext e)
 have v2:=hat.c2;have hki:(k:Int)<(v.items.length:Int):=by omega
 generalize kidV ds[i] v.num k=kk at *;have b1:=h1 w (Ext.refl _);have b2:=h2 w (Ext.refl _);have b3:=h3 w (Ext.refl _);have b4:=v2 w (Ext.refl _);clear hd hv hT hval hs hzr hza hat hok;go_enter Tryz.func79,Tryz.ntmps79;go_wp2_with fail;refine wp_region_quiet_below (by kernel_rfl) (by kernel_rfl) ?_;repeat (go_big_quiet_step ((first | (go_at_call 42;exact Calls.regrown_of (CH.out _ (by first | assumption | exact Ext_regrown _ _ (Ext.refl _)))) | (go_at_call 54;exact Calls.regrown_of (CV.out _ (by first | assumption | exact Ext_regrown _ _ (Ext.refl _)))))))
 refine wpQuiet_nil (qnl ?_);intro w1 ew1;go_wp2;go_ret;exact ⟨rfl,ew1⟩
section
variable {P:Program}
theorem ta_hit (w:World) (t xT:TypeId) (fs:Array Field) (v:Value) (h:P.underlying t=some (.struct fs)):(Instr.typeAssert (.iface t v) xT t true).run P w=.ok (.tuple #[v,.bool true]) w:=by
 simp [Instr.typeAssert,run_underlying h,go_sem,Result.andThen]
theorem ta_miss (w:World) (t u xT:TypeId) (fs:Array Field) (v z:Value) (hu:u≠t) (h:P.underlying t=some (.struct fs)) (hz:(P.info? t).map (·.zero)=some (some z)):(Instr.typeAssert (.iface u v) xT t true).run P w=.ok (.tuple #[z,.bool false]) w:=by
 obtain ⟨j,hj,hz'⟩:=Option.map_eq_some_iff.1 hz;simp [Instr.typeAssert,run_underlying h,go_sem,Result.andThen,zeroValue,typeInfo,hj,hz',hu]
end
end Go.Proofs.YtlfhealneccdkaaGreatDoor
