/- Texts, laid into one. -/
import Derived.Test.YtpmcofmdjckijaaGreatZDg19
import Derived.Test.YtpmcofmdjckijaaGreatZDg6
import Derived.IntWalk
set_option linter.unusedVariables false
set_option linter.unusedSimpArgs false
set_option maxRecDepth 100000
set_option maxHeartbeats 16000000
namespace Go.Proofs.YtpmcofmdjckijaaGreat
open Go.RowKit Go.Sort
def icells (x:Ins):List Value:=[.int .i64 x.1,.int .i64 x.2.1,.int .i64 x.2.2]
theorem icells_len (l:List Ins):(l.flatMap icells).length=l.length*3:=by
 induction l with
 | nil=>rfl
 | cons x t ih=>rw [List.flatMap_cons,List.length_append,ih,List.length_cons];simp [icells];omega
theorem icells_one (l:List Ins):∀ u∈l.flatMap icells,u.oneCell'=true:=by
 intro u hu;obtain ⟨x,_,hx⟩:=List.mem_flatMap.1 hu;simp [icells] at hx
 rcases hx with rfl | rfl | rfl<;>rfl
theorem E_ins:Elem Tryz.prog 52 79 3 24 (.agg #[.int .i64 0,.int .i64 0,.int .i64 0]):=⟨Tryz.underlying52,by kernel_rfl,rfl,by omega⟩
def OwnI (w0 w:World) (v:Value) (l:List Ins):Prop:=Own 79 3 w0 w v l.length (l.flatMap icells)
theorem OwnI.ext {w0 w w':World} {v:Value} {l:List Ins} (h:OwnI w0 w v l) (e:Ext w w'):OwnI w0 w' v l:=Own.ext h e
theorem OwnI.down {w0 w1 w:World} {v:Value} {l:List Ins} (h:OwnI w1 w v l) (hb:w0.heap.size≤w1.heap.size):OwnI w0 w v l:=World.ownsRow.lower h hb
theorem OwnI.empty {w0 w:World} (he:Ext w0 w):OwnI w0 (w.alloc (.cells #[] 79)) (.slice (some ⟨w.heap.size,0,none⟩) 0 0) []:=Own.empty he
section
variable {P:Program} {ops:Array Oper} {rest:List Oper} {o:Oper} {a:Act} {Q:Exit→Act→World→Prop}
theorem wpList_appI (hgd:o.guard=none) (s x:Operand) (t:TypeId) (ho:o.op=.call { callee:=.builtin .append,args:=#[s,x],argTypes:=#[t,t] })
 {bytes:Nat} {z:Value} (hE:Elem P t 79 3 bytes z) (w0 w:World) (v:Value) (l ys:List Ins) (hs:a.eval s=v) (hown:OwnI w0 w v l)
 (he:Ext w0 w) (cs:Array Value) (hcs:cs=(ys.flatMap icells).toArray) (m c:Nat) (hm:m=ys.length) (hx:a.eval x=.slice (some ⟨w.heap.size,0,none⟩) m c) (hby:bytes=24) (hb:l.length+ys.length≤1000000)
 (h:∀ v' w',OwnI w0 w' v' (l++ys)→Ext w0 w'→wpList P ops Q rest (a.put o.dst v') w') :
 wpList P ops Q (o::rest) a (w.alloc (.cells cs 79)):=by
 subst hcs hm hby
 refine wpList_app hgd s x t ho hE w0 w v l.length (l.flatMap icells) hs hown he (ys.flatMap icells) ys.length c hx (icells_len ys) (icells_one ys) (by simp only [maxLen];omega) (by omega) ?_;intro v' w' h1 h2;exact h v' w' (by unfold OwnI;rw [List.length_append,List.flatMap_append];exact h1) h2
end
theorem sOp_c (o a b:Int) (w:World):Gives Tryz.prog 43 #[.int .i64 o,.int .i64 a,.int .i64 b] w (.agg #[.int .i64 o,.int .i64 a,.int .i64 b]):=by
 go_enter Tryz.func43,Tryz.ntmps43;go_wp2;have B:=Box.new w #[.int .i64 o,.int .i64 a,.int .i64 b] 79;have r:=B.cell;have f:=B.free;exact bodyPost_ret (v:=.agg #[.int .i64 o,.int .i64 a,.int .i64 b]) (by simp [results,Tryz.results43,go_sem,r,f]) rfl ⟨rfl,Ext_alloc _ (Ext.refl w)⟩
theorem sCall_c (A:Option Addr) (es:List Int) (c:Nat) (k:Nat) (hk:k<es.length) (w:World) (h:Is w A es c) :
 Gives Tryz.prog 75 #[.slice A es.length c,.int .i64 (k:Int)] w (.agg #[.int .i64 9,.int .i64 es[k],.int .i64 0]):=by
 have hl:=h.len;obtain ⟨b,off,rfl,hb,hc⟩:=h.at k hk;have hc':=hc (w.alloc (.cells #[.int .i64 0,.int .i64 0,.int .i64 0] 79)) (Ext_alloc _ (Ext.refl w));generalize es[k]=x at *;have CO:=lhd (fun w=>sOp_c 9 x 0 w);clear hc h;go_enter Tryz.func75,Tryz.ntmps75;go_wp2_with fail;refine (CO.out _).mono ?_;rintro _ w1 ⟨rfl,e1⟩;have hB:=(Box.new w #[.int .i64 0,.int .i64 0,.int .i64 0] 79).ext e1;have r2:=hB.cell;have f2:=hB.free;have hE:Ext w w1:=Ext.trans (Ext_alloc _ (Ext.refl w)) e1
 go_wp2;exact bodyPost_ret (v:=.agg #[.int .i64 9,.int .i64 x,.int .i64 0]) (by simp [results,Tryz.results75,go_sem,r2,f2]) rfl ⟨rfl,((hE.setCell (p:=⟨w.heap.size,0,none⟩) (Nat.le_refl _) _).setCell (p:=⟨w.heap.size,1,none⟩) (Nat.le_refl _) _).setCell (p:=⟨w.heap.size,2,none⟩) (Nat.le_refl _) _⟩
theorem sLittleC_c (r:DRule) (vb vn vt vk:Value) (w:World) :
 Gives Tryz.prog 74 #[vrule r vb vn vt vk] w (.int .i64 (if r.little then 1 else 0)):=by
 unfold vrule;cases h:r.little
 all_goals
  go_enter Tryz.func74,Tryz.ntmps74;go_wp2;go_ret;exact ⟨rfl,Ext_alloc _ (Ext.refl w)⟩
theorem OwnI.new {w0 w:World} (he:Ext w0 w) (ys:List Ins) (cs:Array Value) (hcs:cs=(ys.flatMap icells).toArray) (m:Nat) (hm:m=ys.length) (hl:ys.length≤1000000) :
 OwnI w0 (w.alloc (.cells cs 79)) (.slice (some ⟨w.heap.size,0,none⟩) m m) ys:=by
 subst hcs hm;have h3:=icells_len ys;exact ⟨by rw [h3],.inr ⟨w.heap.size,ys.length,_,rfl,he.size,heap_alloc_new w _,Nat.le_refl _,by simp [maxLen];omega,by simp [h3],by show ((ys.flatMap icells).toArray.toList).take (ys.length*3)=_;rw [← h3];exact List.take_length⟩⟩
theorem vrule_kids {r:DRule} {es:List Int} (hk:∀ t,t<r.kids.length→kd r t<es.length∧r.kids[t]?=some ((kd r t:Nat):Int)) {t:Nat} (ht:t<r.kids.length):r.kids[t]=((kd r t:Nat):Int):=by
 have:=(hk t ht).2;rw [List.getElem?_eq_getElem ht] at this;injection this
theorem callI_at {r:DRule} {es:List Int} {t:Nat} (h:kd r t<es.length):callI r es t=(9,es[kd r t],0):=by unfold callI;simp [h]
theorem sChoiceC_c (A:Option Addr) (es:List Int) (c:Nat) (r:DRule) (Rb:Option Addr) (rb:Nat) (Rn:Option Addr) (rn:Nat) (Rt:Option Addr) (rt:Nat) (Rk:Option Addr) (rk:Nat) (start:Nat) (w:World)
 (hE:Is w A es c) (hS:RdS w r Rb rb Rn rn Rt rt Rk rk) (hkl:r.kids.length=r.tags.length+1) (hk:∀ t,t<r.kids.length→kd r t<es.length∧r.kids[t]?=some ((kd r t:Nat):Int)) (hn:r.tags.length≤8) (hst:start≤100000) :
 Calls Tryz.prog 76 #[vrule r (.slice Rb r.bytes.length rb) (.slice Rn r.names.length rn) (.slice Rt r.tags.length rt) (.slice Rk r.kids.length rk),.int .i64 (start:Int),.slice A es.length c] w fun e w'=>∃ v,e=.returned v∧OwnI w w' v (choC r start es)∧Ext w w':=by
 have hl:=hE.len;obtain ⟨W0,hW0⟩:=nmw (w.alloc (.cells #[.string r.nm,.int .i64 r.kind,.int .i64 r.size,.bool r.little,.slice Rb r.bytes.length rb,.slice Rn r.names.length rn,.slice Rt r.tags.length rt,.slice Rk r.kids.length rk] 96));have e0:Ext w W0:=ka hW0
 have B:Box W0 w.heap.size #[.string r.nm,.int .i64 r.kind,.int .i64 r.size,.bool r.little,.slice Rb r.bytes.length rb,.slice Rn r.names.length rn,.slice Rt r.tags.length rt,.slice Rk r.kids.length rk] 96:=kb hW0
 have k6:∀ w',Ext W0 w'→_=some (Value.slice Rt r.tags.length rt):=B.at 6
 have k7:∀ w',Ext W0 w'→_=some (Value.slice Rk r.kids.length rk):=B.at 7
 have CC:Hid (∀ t,(ht:t<r.kids.length)→∀ w',Ext w w'→Gives Tryz.prog 75 #[.slice A es.length c,.int .i64 ((kd r t:Nat):Int)] w' (.agg #[.int .i64 9,.int .i64 (callI r es t).2.1,.int .i64 0])):=fun t ht w' e=>by
  have h1:=(hk t ht).1
  have:=sCall_c A es c (kd r t) h1 w' (hE.ext e);rw [callI_at h1];exact this
 have CO:=lhd (fun o a b w=>sOp_c o a b w);have HKA:Hid (∀ t,(ht:t<r.kids.length)→r.kids[t]=((kd r t:Nat):Int)):=fun t ht=>vrule_kids hk ht
 have HTG:=lhd hS.t;have HKD:=lhd hS.k;have hc1:∀ t,(callI r es t).1=9∧(callI r es t).2.2=0:=fun t=>⟨rfl,rfl⟩
 have hkl':=lhd hkl;have hn':=lhd hn;have hkp:0<r.kids.length:=by omega
 clear hk hS hE B hkl;obtain ⟨bk,ok,rfl,hbk,hck⟩:=HKD.out.at 0 hkp;have hk0:=HKA.out 0 hkp;rw [hk0] at hck;have c0:∀ w',Ext W0 w'→w'.cell? ⟨bk,ok,none⟩=some (.int .i64 ((kd r 0:Nat):Int)):=fun w' e=>hck w' (e0.trans e)
 clear hck hk0;have d0:=c0 _ (Ext.refl _);have d6:=k6 _ (Ext.refl _);have d7:=k7 _ (Ext.refl _);rw [hW0.out] at d0 d6 d7;have HC0:Hid (choC r start es=callI r es 0::(tagsC r start r.tags.length++(12,3,0)::altsC r es r.tags.length)):=rfl
 unfold vrule;go_enter Tryz.func76,Tryz.ntmps76;go_wp2_with fail;rw [← hW0.out];refine (CC.out 0 hkp _ e0).mono ?_;rintro _ w1 ⟨rfl,e1⟩;clear d0 d6 d7 c0;have O1:OwnI W0 (w1.alloc (.cells #[.int .i64 9,.int .i64 (callI r es 0).2.1,.int .i64 0] 79)) (.slice (some ⟨w1.heap.size,0,none⟩) 1 1) [callI r es 0]:=OwnI.new e1 _ _ rfl _ rfl (by simp)
 have HO1:=lhd O1;clear O1;go_wp2_with fail;go_loopw [8,9] (fun v q wr=>∃ k:Nat,k≤r.tags.length∧q=.int .i64 (k:Int)∧Hid (OwnI W0 wr v (callI r es 0::tagsC r start k))∧Ext W0 wr) (fun _ q _=>r.tags.length-(intOf q).toNat)
 case atStart=>exact ⟨0,by omega,rfl,HO1.out,Ext_alloc _ e1⟩
 case round =>
  clear HO1;obtain ⟨k,hk,rfl,ho,he⟩:=hrel
  by_cases hlt:k<r.tags.length
  ·obtain ⟨bt,ot,rfl,hbt,hct⟩:=HTG.out.at k hlt
   have hct':=fun w' (e:Ext W0 w')=>hct w' (e0.trans e)
   have HB:Hid ((callI r es 0::tagsC r start k).length+[((11:Int),r.tags[k],(start:Int)+(r.tags.length:Int)+2+2*(k:Int))].length≤1000000):=by show _≤_;simp [tagsC_len];omega
   have HT:Hid ((callI r es 0::tagsC r start k)++[((11:Int),r.tags[k],(start:Int)+(r.tags.length:Int)+2+2*(k:Int))]=callI r es 0::tagsC r start (k+1)):=by
    show _=_;rw [tagsC_succ,List.getD_eq_getElem?_getD,List.getElem?_eq_getElem hlt];rfl
   generalize r.tags[k]=x at *;clear hct;have hw0:=he.trans (Ext.refl wr);go_wp2_with fail;refine (CO.out 11 x ((start:Int)+(r.tags.length:Int)+2+2*(k:Int)) _).mono ?_;rintro _ w2 ⟨rfl,e2⟩;have HO:=lhd (ho.out.ext e2);have he2:=he.trans e2
   go_wp2_with (first
    | (at_builtin;go_must (refine wpList_appI rfl (.tmp 26) (.tmp 40) _ rfl E_ins W0 w2 u8 (callI r es 0::tagsC r start k) [(11,x,(start:Int)+(r.tags.length:Int)+2+2*(k:Int))] rfl HO.out he2 _ rfl 1 1 rfl rfl rfl HB.out ?_);intro v3 w3 ho3 he3;rw [HT.out] at ho3))
   clear HB HT HO ho hw0;go_wp2;go_roundw
   case rel=>exact ⟨k+1,by omega,by go_num,ho3,he3⟩
   case measure=>simp [intOf];omega
  ·obtain rfl:k=r.tags.length:=by omega
   have HB:Hid ((callI r es 0::tagsC r start r.tags.length).length+[((12:Int),(3:Int),(0:Int))].length≤1000000):=by show _≤_;simp [tagsC_len];omega
   clear HTG hlt;go_wp2_with fail;refine (CO.out 12 3 0 _).mono ?_;rintro _ w2 ⟨rfl,e2⟩;have HO:=lhd (ho.out.ext e2);have he2:=he.trans e2
   go_wp2_with (first
    | (at_builtin;go_must (refine wpList_appI rfl (.tmp 42) (.tmp 44) _ rfl E_ins W0 w2 u8 (callI r es 0::tagsC r start r.tags.length) [(12,3,0)] rfl HO.out he2 _ rfl 1 1 rfl rfl rfl HB.out ?_);intro v3 w3 ho3 he3))
   have HO3:=lhd ho3;clear ho3 HO HB ho;go_wp2;go_loopw [8,10] (fun v q wr=>∃ k:Nat,k≤r.tags.length∧q=.int .i64 (k:Int)∧Hid (OwnI W0 wr v (callI r es 0::tagsC r start r.tags.length++[(12,3,0)]++altsC r es k))∧Ext W0 wr) (fun _ q _=>r.tags.length-(intOf q).toNat)
   case atStart=>exact ⟨0,by omega,rfl,by show OwnI _ _ _ _;simpa [altsC] using HO3.out,he3⟩
   case round =>
    clear HO3 he3 he2 e2 he;obtain ⟨k,hk,rfl,ho,he⟩:=hrel
    by_cases hlt:k<r.tags.length
    ·have hkl2:k+1<r.kids.length:=by have:=hkl'.out;omega
     obtain ⟨bq,oq,hbq,_,hcq⟩:=HKD.out.at (k+1) hkl2;injection hbq with hbq;injection hbq with z1 z2;subst z1;subst z2
     rw [HKA.out (k+1) hkl2] at hcq;have hcq':=fun w' (e:Ext W0 w')=>hcq w' (e0.trans e)
     have C1:=lhd (CC.out (k+1) hkl2);have HS:=lhd (altsC_succ r es k);have HL:=lhd (altsC_len r es k);generalize hLL:callI r es 0::tagsC r start r.tags.length++[(12,3,0)]=LL at *;have hLn:LL.length≤12:=by rw [← hLL];simp [tagsC_len];omega
     have HX:Hid (callI r es (k+1)=(9,(callI r es (k+1)).2.1,0)):=rfl
     have HB:Hid ((LL++altsC r es k).length+[callI r es (k+1)].length≤1000000):=by show _≤_;rw [List.length_append];have:=HL.out;simp;omega
     have HB2:Hid ((LL++altsC r es k++[callI r es (k+1)]).length+[((10:Int),(0:Int),(0:Int))].length≤1000000):=by show _≤_;rw [List.length_append,List.length_append];have:=HL.out;simp;omega
     have hLL':=lhd hLL;clear hLL hcq HL;go_wp2_with fail;refine (C1.out _ (e0.trans he)).mono ?_;rintro _ w4 ⟨rfl,e4⟩;have HO:=lhd (ho.out.ext e4);have he4:=he.trans e4
     by_cases hlast:(k:Int)<(r.tags.length:Int)-1
     ·go_wp2_with (first
       | (at_builtin;go_must (refine wpList_appI rfl (.tmp 51) (.tmp 60) _ rfl E_ins W0 w4 u8 (LL++altsC r es k) [callI r es (k+1)] rfl HO.out he4 _ rfl 1 1 rfl rfl rfl HB.out ?_);intro v5 w5 ho5 he5))
      refine (CO.out 10 0 0 _).mono ?_;rintro _ w6 ⟨rfl,e6⟩;have HO6:=lhd (ho5.ext e6);have he6:=he5.trans e6;have HS2:Hid (LL++altsC r es k++[callI r es (k+1)]++[(10,0,0)]=LL++altsC r es (k+1)):=by show _=_;rw [HS.out,if_pos (by omega)];simp
      clear ho5 HB HO
      go_wp2_with (first
       | (at_builtin;go_must (refine wpList_appI rfl (.tmp 66) (.tmp 68) _ rfl E_ins W0 w6 v5 (LL++altsC r es k++[callI r es (k+1)]) [(10,0,0)] rfl HO6.out he6 _ rfl 1 1 rfl rfl rfl HB2.out ?_);intro v7 w7 ho7 he7))
      rw [HS2.out] at ho7;clear HB2 HO6;go_roundw
      case rel=>exact ⟨k+1,by omega,by go_num,ho7,he7⟩
      case measure=>simp [intOf];omega
     ·have HS2:Hid (LL++altsC r es k++[callI r es (k+1)]=LL++altsC r es (k+1)):=by show _=_;rw [HS.out,if_neg (by omega)];simp
      go_wp2_with (first
       | (at_builtin;go_must (refine wpList_appI rfl (.tmp 51) (.tmp 60) _ rfl E_ins W0 w4 u8 (LL++altsC r es k) [callI r es (k+1)] rfl HO.out he4 _ rfl 1 1 rfl rfl rfl HB.out ?_);intro v5 w5 ho5 he5))
      rw [HS2.out] at ho5;clear HB HB2 HO;go_roundw
      case rel=>exact ⟨k+1,by omega,by go_num,ho5,he5⟩
      case measure=>simp [intOf];omega
    ·obtain rfl:k=r.tags.length:=by omega
     go_wp2;go_ret;exact ⟨_,rfl,by rw [HC0.out];have:=ho.out.down e0.size;simpa using this,e0.trans he⟩
theorem code_facts {ds:List DRule} (h:descOk ds=true) (i:Nat) (hi:i<ds.length):(ds[i].kind=2→ds[i].bytes.length≤16)∧(ds[i].kind=6→ds[i].kids.length≤8)∧(ds[i].kind=7→ds[i].tags.length≤8)∧(ds[i].kind=10→ds[i].bytes.length=1):=by
 have hk:=ruleKind h i hi;generalize ds[i]=r at *;unfold kindOk at hk;refine ⟨fun e=>?_,fun e=>?_,fun e=>?_,fun e=>?_⟩
 ·rw [if_neg (by omega),if_pos e] at hk
  simp only [between,Bool.and_eq_true,decide_eq_true_eq] at hk;omega
 ·rw [if_neg (by omega),if_neg (by omega),if_neg (by omega),if_neg (by omega),if_neg (by omega),if_pos e] at hk
  unfold seqOk at hk;simp only [between,Bool.and_eq_true,decide_eq_true_eq] at hk;omega
 ·rw [if_neg (by omega),if_neg (by omega),if_neg (by omega),if_neg (by omega),if_neg (by omega),if_neg (by omega),if_pos e] at hk
  unfold choOk at hk;simp only [between,Bool.and_eq_true,decide_eq_true_eq] at hk;omega
 ·rw [if_neg (by omega),if_neg (by omega),if_neg (by omega),if_neg (by omega),if_neg (by omega),if_neg (by omega),if_neg (by omega),if_neg (by omega),if_neg (by omega),if_pos e] at hk
  simp only [Bool.and_eq_true,beq_iff_eq] at hk;exact hk.1.2
theorem kids_facts {ds:List DRule} (h:descOk ds=true) (i:Nat) (hi:i<ds.length) {m:Nat} (hm:i≤m):∀ t,t<ds[i].kids.length→kd ds[i] t<m∧ds[i].kids[t]?=some ((kd ds[i] t:Nat):Int):=fun t ht =>
 ⟨Nat.lt_of_lt_of_le (kd_lt h i hi t ht) hm,by rw [List.getElem?_eq_getElem ht,kd_int h i hi t ht]⟩
theorem known_at {ds:List DRule} (h:descOk ds=true) (i:Nat) (hi:i<ds.length):knownB ds (i:Int)=true:=by
 unfold knownB;simp [h];omega
section
variable {P:Program} {ops:Array Oper} {o:Oper} {a:Act} {Q:Exit→Act→World→Prop} {K:Act→World→Prop} {EE:Prop}
theorem step_appI (hgd:o.guard=none) (s x:Operand) (t:TypeId) (ho:o.op=.call { callee:=.builtin .append,args:=#[s,x],argTypes:=#[t,t] })
 {bytes:Nat} {z:Value} (hE:Elem P t 79 3 bytes z) (w0 w:World) (v:Value) (l ys:List Ins) (hs:a.eval s=v) (hown:OwnI w0 w v l)
 (he:Ext w0 w) (cs:Array Value) (hcs:cs=(ys.flatMap icells).toArray) (m c:Nat) (hm:m=ys.length) (hx:a.eval x=.slice (some ⟨w.heap.size,0,none⟩) m c) (hby:bytes=24) (hb:l.length+ys.length≤1000000)
 (h:∀ v' w',OwnI w0 w' v' (l++ys)→Ext w0 w'→(w.alloc (.cells cs 79)).grownBy w' v.ownBlock→K (a.put o.dst v') w') :
 if Region.wanted o (yielded ops a.tmps)=true then Oper.wp P o a (w.alloc (.cells cs 79)) K Q else EE:=by
 subst hcs hm hby
 refine step_anyA hgd s x t ho hE w0 _ v l.length (l.flatMap icells) hs (World.ownsRow.alloc hown _) (Ext_alloc _ he) (ys.flatMap icells) (some ⟨w.heap.size,0,none⟩) ys.length c hx (icells_len ys) (fun _=>⟨_,rfl,fun j u hj=>?_⟩) (icells_one ys) (by simp only [maxLen];omega) (by omega) ?_
 ·rw [World.cell?_alloc_at'];exact hj
 ·intro v' w' h1 h2 _ h4
  exact h v' w' (by unfold OwnI;rw [List.length_append,List.flatMap_append];exact h1) h2 h4
end
def cRuleRes (w:World) (L:List Ins) (e:Ending) (w':World):Prop:=∃ v,e=.returned v∧OwnI w w' v L∧Ext w w'
theorem sRuleC_3 (A:Option Addr) (ds:List DRule) (c:Nat) (hok:descOk ds=true) (i:Nat) (hi:i<ds.length) (E:Option Addr) (es:List Int) (ec:Nat) (start:Nat) (w:World)
 (hd:RdD w A ds c) (hs:ShortD ds) (hw:WfD ds) (hE:Is w E es ec) (hes:i≤es.length) (hst:start≤100000) (hkd:ds[i].kind=3) :
 Calls Tryz.prog 44 #[vdesc (.slice A ds.length c),.int .i64 (i:Int),.int .i64 (start:Int),.slice E es.length ec] w (cRuleRes w (ruleC ds[i] start es)):=by
 unfold cRuleRes;have hl:=hE.len;have hdl:=hd.len;have hdc:=hd.cap;have HKF:=lhd (kids_facts hok i hi hes);have HCF:=code_facts hok i hi;have HKL:=kids_len hok i hi
 have KN:Hid (∀ w',Ext w w'→Gives Tryz.prog 70 #[.agg #[.slice A ds.length c],.int .i64 (i:Int)] w' (.bool true)):=fun w' e=>by
  have:=sKnown_c A ds c (i:Int) w' (hd.ext e) hs hw;rw [known_at hok i hi] at this;exact this
 obtain ⟨b,off,Rb,rb,Rn,rn,Rt,rt,Rk,rk,rfl,hb,hS,hR⟩:=hd.at i hi;obtain ⟨m0,m1,m2,m3,m4,m5,m6,m7⟩:=hR;have HS:=lhd hS;generalize ds[i]=r at *;obtain ⟨W0,hW0⟩:=nmw (w.alloc (.cells #[.slice (some ⟨b,off,none⟩) ds.length c] 26));have e0:Ext w W0:=ka hW0
 have BD:Box W0 w.heap.size #[.slice (some ⟨b,off,none⟩) ds.length c] 26:=kb hW0
 have kD:∀ w',Ext W0 w'→w'.cell? ⟨w.heap.size,0,none⟩=some (Value.slice (some ⟨b,off,none⟩) ds.length c):=BD.at 0
 have hsz:W0.heap.size=w.heap.size+1:=by rw [hW0.out];simp
 have OE:=OwnI.empty (Ext.refl W0);have X1:=Ext_alloc (.cells #[] 79) (Ext.refl W0);have d0:=kD _ X1;rw [hW0.out] at d0;rw [hsz] at OE;have HOE:=lhd OE;have HX1:=lhd X1;have h1:=r.kind;have CO:=lhd (fun o a b w=>sOp_c o a b w);have HKA:Hid (∀ t,(ht:t<r.kids.length)→r.kids[t]=((kd r t:Nat):Int)):=fun t ht=>vrule_kids HKF.out ht
 have CC:Hid (∀ t,(ht:t<r.kids.length)→∀ w',Ext w w'→Gives Tryz.prog 75 #[.slice E es.length ec,.int .i64 ((kd r t:Nat):Int)] w' (.agg #[.int .i64 9,.int .i64 (callI r es t).2.1,.int .i64 0])):=fun t ht w' e=>by
  have h1:=(HKF.out t ht).1
  have:=sCall_c E es ec (kd r t) h1 w' (hE.ext e);rw [callI_at h1];exact this
 have HEI:=lhd hE;have hi':(i:Int)<(ds.length:Int):=by omega
 have hes':¬ (es.length:Int)<(i:Int):=by omega
 clear hS hd hs hw hE BD OE X1 h1 hes hsz hi;have HR:Hid (ruleC r start es=[(3,r.size,0)]++[(10,0,0)]):=by show _=_;unfold ruleC bodyC;rw [if_neg (by omega),if_neg (by omega),if_pos hkd]
 have HBT:Hid (([(3,r.size,0)]:List Ins).length+[((10:Int),(0:Int),(0:Int))].length≤1000000):=by show _≤_;simp
 clear HKL HCF;unfold vdesc;go_enter Tryz.func44,Tryz.ntmps44;go_wp2_with fail;rw [← hW0.out];refine (KN.out _ (e0.trans HX1.out)).mono ?_;rintro _ w1 ⟨rfl,e1⟩;have E1:Ext W0 w1:=HX1.out.trans e1
 have HO1:=lhd (HOE.out.ext e1);have E01:=e0.trans E1;have g0:=kD w1 E1;have g1:=m1 w1 E01;have g2:=m2 w1 E01;have g3:=m3 w1 E01;have g4:=m4 w1 E01;have g5:=m5 w1 E01;have g6:=m6 w1 E01;have g7:=m7 w1 E01;have g8:=m0 w1 E01;obtain ⟨W2,hW2⟩:=nmw (w1.alloc (.cells #[.string r.nm,.int .i64 3,.int .i64 r.size,.bool r.little,.slice Rb r.bytes.length rb,.slice Rn r.names.length rn,.slice Rt r.tags.length rt,.slice Rk r.kids.length rk] 96));have e2:Ext w1 W2:=ka hW2
 have BR:Box W2 w1.heap.size #[.string r.nm,.int .i64 3,.int .i64 r.size,.bool r.little,.slice Rb r.bytes.length rb,.slice Rn r.names.length rn,.slice Rt r.tags.length rt,.slice Rk r.kids.length rk] 96:=kb hW2
 have E2:Ext W0 W2:=E1.trans e2
 have E02:Ext w W2:=e0.trans E2
 have k0:∀ w',Ext W2 w'→_=some (Value.string r.nm):=BR.at 0
 have k1:∀ w',Ext W2 w'→_=some (Value.int .i64 3):=BR.at 1
 have k2:∀ w',Ext W2 w'→_=some (Value.int .i64 r.size):=BR.at 2
 have k3:∀ w',Ext W2 w'→_=some (Value.bool r.little):=BR.at 3
 have k4:∀ w',Ext W2 w'→_=some (Value.slice Rb r.bytes.length rb):=BR.at 4
 have k5:∀ w',Ext W2 w'→_=some (Value.slice Rn r.names.length rn):=BR.at 5
 have k6:∀ w',Ext W2 w'→_=some (Value.slice Rt r.tags.length rt):=BR.at 6
 have k7:∀ w',Ext W2 w'→_=some (Value.slice Rk r.kids.length rk):=BR.at 7
 have HO2:=lhd (HO1.out.ext e2);have hne1:w.heap.size+1≠w1.heap.size:=by have h1:=e1.size;simp at h1;rw [hW0.out] at h1;simp at h1;omega
 have HNE:=lhd hne1;clear hne1;have u1:=k1 W2 (Ext.refl _);rw [hW2.out] at u1;rw [hkd] at g1;clear HO1 HOE d0 m0 m1 m2 m3 m4 m5 m6 m7 HX1 KN;have y2:=k2 W2 (Ext.refl _);rw [hW2.out] at y2;go_wp2_with fail;rw [← hW2.out];refine (CO.out 3 r.size 0 _).mono ?_;rintro _ w5 ⟨rfl,e5⟩;have HO5:=lhd (HO2.out.ext e5);have he5:=E2.trans e5
 go_wp2_with (first
  | (at_builtin;go_must (refine wpList_appI rfl (.tmp 72) (.tmp 76) _ rfl E_ins W0 w5 (.slice (some ⟨w.heap.size+1,0,none⟩) 0 0) [] [(3,r.size,0)] rfl HO5.out he5 _ rfl 1 1 rfl rfl rfl (by simp) ?_);intro v7 w7 ho7 he7))
 refine (CO.out 10 0 0 _).mono ?_;rintro _ w8 ⟨rfl,e8⟩;have HO8:=lhd (ho7.ext e8);have he8:=he7.trans e8
 go_wp2_with (first
  | (at_builtin;go_must (refine wpList_appI rfl (.tmp 167) (.tmp 169) _ rfl E_ins W0 w8 v7 ([]++[(3,r.size,0)]) [(10,0,0)] rfl HO8.out he8 _ rfl 1 1 rfl rfl rfl HBT.out ?_);intro v9 w9 ho9 he9))
 go_ret;exact ⟨_,rfl,(by rw [HR.out];exact ho9.down e0.size),e0.trans he9⟩
theorem sRuleC_10 (A:Option Addr) (ds:List DRule) (c:Nat) (hok:descOk ds=true) (i:Nat) (hi:i<ds.length) (E:Option Addr) (es:List Int) (ec:Nat) (start:Nat) (w:World)
 (hd:RdD w A ds c) (hs:ShortD ds) (hw:WfD ds) (hE:Is w E es ec) (hes:i≤es.length) (hst:start≤100000) (hkd:ds[i].kind=10) :
 Calls Tryz.prog 44 #[vdesc (.slice A ds.length c),.int .i64 (i:Int),.int .i64 (start:Int),.slice E es.length ec] w (cRuleRes w (ruleC ds[i] start es)):=by
 unfold cRuleRes;have hl:=hE.len;have hdl:=hd.len;have hdc:=hd.cap;have HKF:=lhd (kids_facts hok i hi hes);have HCF:=code_facts hok i hi;have HKL:=kids_len hok i hi
 have KN:Hid (∀ w',Ext w w'→Gives Tryz.prog 70 #[.agg #[.slice A ds.length c],.int .i64 (i:Int)] w' (.bool true)):=fun w' e=>by
  have:=sKnown_c A ds c (i:Int) w' (hd.ext e) hs hw;rw [known_at hok i hi] at this;exact this
 obtain ⟨b,off,Rb,rb,Rn,rn,Rt,rt,Rk,rk,rfl,hb,hS,hR⟩:=hd.at i hi;obtain ⟨m0,m1,m2,m3,m4,m5,m6,m7⟩:=hR;have HS:=lhd hS;generalize ds[i]=r at *;obtain ⟨W0,hW0⟩:=nmw (w.alloc (.cells #[.slice (some ⟨b,off,none⟩) ds.length c] 26));have e0:Ext w W0:=ka hW0
 have BD:Box W0 w.heap.size #[.slice (some ⟨b,off,none⟩) ds.length c] 26:=kb hW0
 have kD:∀ w',Ext W0 w'→w'.cell? ⟨w.heap.size,0,none⟩=some (Value.slice (some ⟨b,off,none⟩) ds.length c):=BD.at 0
 have hsz:W0.heap.size=w.heap.size+1:=by rw [hW0.out];simp
 have OE:=OwnI.empty (Ext.refl W0);have X1:=Ext_alloc (.cells #[] 79) (Ext.refl W0);have d0:=kD _ X1;rw [hW0.out] at d0;rw [hsz] at OE;have HOE:=lhd OE;have HX1:=lhd X1;have h1:=r.kind;have CO:=lhd (fun o a b w=>sOp_c o a b w);have HKA:Hid (∀ t,(ht:t<r.kids.length)→r.kids[t]=((kd r t:Nat):Int)):=fun t ht=>vrule_kids HKF.out ht
 have CC:Hid (∀ t,(ht:t<r.kids.length)→∀ w',Ext w w'→Gives Tryz.prog 75 #[.slice E es.length ec,.int .i64 ((kd r t:Nat):Int)] w' (.agg #[.int .i64 9,.int .i64 (callI r es t).2.1,.int .i64 0])):=fun t ht w' e=>by
  have h1:=(HKF.out t ht).1
  have:=sCall_c E es ec (kd r t) h1 w' (hE.ext e);rw [callI_at h1];exact this
 have HEI:=lhd hE;have hi':(i:Int)<(ds.length:Int):=by omega
 have hes':¬ (es.length:Int)<(i:Int):=by omega
 clear hS hd hs hw hE BD OE X1 h1 hes hsz hi;have hb1:r.bytes.length=1:=HCF.2.2.2 hkd
 obtain ⟨bb,ob,rfl,hbb,hcb⟩:=HS.out.b.at 0 (by omega);have hgb:r.bytes.getD 0 0=r.bytes[0]:=by simp [List.getD_eq_getElem?_getD,List.getElem?_eq_getElem (show 0<r.bytes.length by omega)]
 have hlt:=r.bytes[0].toNat_lt;rw [← hgb] at hcb hlt;generalize hgx:r.bytes.getD 0 0=x0 at *;have HGX:=lhd hgx;clear hgx;have HB0:Hid (0<r.bytes.length):=by show _<_;omega
 have hbi:(0:Int)<(r.bytes.length:Int):=by omega
 have hcb':∀ w',Ext W0 w'→w'.cell? ⟨bb,ob,none⟩=some (.int .u8 x0.toNat):=fun w' e=>hcb w' (e0.trans e)
 clear hgb hb1 hcb;have HR:Hid (ruleC r start es=[(16,(x0.toNat:Int),0)]++[(10,0,0)]):=by show _=_;unfold ruleC bodyC;rw [if_neg (by omega),if_neg (by omega),if_neg (by omega),if_neg (by omega),if_neg (by omega),if_neg (by omega),if_neg (by omega),if_neg (by omega),if_neg (by omega),HGX.out]
 have HBT:Hid (([(16,(x0.toNat:Int),0)]:List Ins).length+[((10:Int),(0:Int),(0:Int))].length≤1000000):=by show _≤_;simp
 clear HKL HCF;unfold vdesc;go_enter Tryz.func44,Tryz.ntmps44;go_wp2_with fail;rw [← hW0.out];refine (KN.out _ (e0.trans HX1.out)).mono ?_;rintro _ w1 ⟨rfl,e1⟩;have E1:Ext W0 w1:=HX1.out.trans e1
 have HO1:=lhd (HOE.out.ext e1);have E01:=e0.trans E1;have g0:=kD w1 E1;have g1:=m1 w1 E01;have g2:=m2 w1 E01;have g3:=m3 w1 E01;have g4:=m4 w1 E01;have g5:=m5 w1 E01;have g6:=m6 w1 E01;have g7:=m7 w1 E01;have g8:=m0 w1 E01;obtain ⟨W2,hW2⟩:=nmw (w1.alloc (.cells #[.string r.nm,.int .i64 10,.int .i64 r.size,.bool r.little,.slice (some ⟨bb,ob,none⟩) r.bytes.length rb,.slice Rn r.names.length rn,.slice Rt r.tags.length rt,.slice Rk r.kids.length rk] 96));have e2:Ext w1 W2:=ka hW2
 have BR:Box W2 w1.heap.size #[.string r.nm,.int .i64 10,.int .i64 r.size,.bool r.little,.slice (some ⟨bb,ob,none⟩) r.bytes.length rb,.slice Rn r.names.length rn,.slice Rt r.tags.length rt,.slice Rk r.kids.length rk] 96:=kb hW2
 have E2:Ext W0 W2:=E1.trans e2
 have E02:Ext w W2:=e0.trans E2
 have k0:∀ w',Ext W2 w'→_=some (Value.string r.nm):=BR.at 0
 have k1:∀ w',Ext W2 w'→_=some (Value.int .i64 10):=BR.at 1
 have k2:∀ w',Ext W2 w'→_=some (Value.int .i64 r.size):=BR.at 2
 have k3:∀ w',Ext W2 w'→_=some (Value.bool r.little):=BR.at 3
 have k4:∀ w',Ext W2 w'→_=some (Value.slice (some ⟨bb,ob,none⟩) r.bytes.length rb):=BR.at 4
 have k5:∀ w',Ext W2 w'→_=some (Value.slice Rn r.names.length rn):=BR.at 5
 have k6:∀ w',Ext W2 w'→_=some (Value.slice Rt r.tags.length rt):=BR.at 6
 have k7:∀ w',Ext W2 w'→_=some (Value.slice Rk r.kids.length rk):=BR.at 7
 have HO2:=lhd (HO1.out.ext e2);have hne1:w.heap.size+1≠w1.heap.size:=by have h1:=e1.size;simp at h1;rw [hW0.out] at h1;simp at h1;omega
 have HNE:=lhd hne1;clear hne1;have u1:=k1 W2 (Ext.refl _);rw [hW2.out] at u1;rw [hkd] at g1;clear HO1 HOE d0 m0 m1 m2 m3 m4 m5 m6 m7 HX1 KN;have y4:=k4 W2 (Ext.refl _);rw [hW2.out] at y4;have hx:=hcb' W2 E2;rw [hW2.out] at hx;go_wp2_with fail;rw [← hW2.out];refine (CO.out 16 (x0.toNat:Int) 0 _).mono ?_;rintro _ w5 ⟨rfl,e5⟩;have HO5:=lhd (HO2.out.ext e5);have he5:=E2.trans e5
 go_wp2_with (first
  | (at_builtin;go_must (refine wpList_appI rfl (.tmp 32) (.tmp 39) _ rfl E_ins W0 w5 (.slice (some ⟨w.heap.size+1,0,none⟩) 0 0) [] [(16,(x0.toNat:Int),0)] rfl HO5.out he5 _ rfl 1 1 rfl rfl rfl (by simp) ?_);intro v7 w7 ho7 he7))
 refine (CO.out 10 0 0 _).mono ?_;rintro _ w8 ⟨rfl,e8⟩;have HO8:=lhd (ho7.ext e8);have he8:=he7.trans e8
 go_wp2_with (first
  | (at_builtin;go_must (refine wpList_appI rfl (.tmp 167) (.tmp 169) _ rfl E_ins W0 w8 v7 ([]++[(16,(x0.toNat:Int),0)]) [(10,0,0)] rfl HO8.out he8 _ rfl 1 1 rfl rfl rfl HBT.out ?_);intro v9 w9 ho9 he9))
 go_ret;exact ⟨_,rfl,(by rw [HR.out];exact ho9.down e0.size),e0.trans he9⟩
theorem sRuleC_4 (A:Option Addr) (ds:List DRule) (c:Nat) (hok:descOk ds=true) (i:Nat) (hi:i<ds.length) (E:Option Addr) (es:List Int) (ec:Nat) (start:Nat) (w:World)
 (hd:RdD w A ds c) (hs:ShortD ds) (hw:WfD ds) (hE:Is w E es ec) (hes:i≤es.length) (hst:start≤100000) (hkd:ds[i].kind=4) :
 Calls Tryz.prog 44 #[vdesc (.slice A ds.length c),.int .i64 (i:Int),.int .i64 (start:Int),.slice E es.length ec] w (cRuleRes w (ruleC ds[i] start es)):=by
 unfold cRuleRes;have hl:=hE.len;have hdl:=hd.len;have hdc:=hd.cap;have HKF:=lhd (kids_facts hok i hi hes);have HCF:=code_facts hok i hi;have HKL:=kids_len hok i hi
 have KN:Hid (∀ w',Ext w w'→Gives Tryz.prog 70 #[.agg #[.slice A ds.length c],.int .i64 (i:Int)] w' (.bool true)):=fun w' e=>by
  have:=sKnown_c A ds c (i:Int) w' (hd.ext e) hs hw;rw [known_at hok i hi] at this;exact this
 obtain ⟨b,off,Rb,rb,Rn,rn,Rt,rt,Rk,rk,rfl,hb,hS,hR⟩:=hd.at i hi;obtain ⟨m0,m1,m2,m3,m4,m5,m6,m7⟩:=hR;have HS:=lhd hS;generalize ds[i]=r at *;obtain ⟨W0,hW0⟩:=nmw (w.alloc (.cells #[.slice (some ⟨b,off,none⟩) ds.length c] 26));have e0:Ext w W0:=ka hW0
 have BD:Box W0 w.heap.size #[.slice (some ⟨b,off,none⟩) ds.length c] 26:=kb hW0
 have kD:∀ w',Ext W0 w'→w'.cell? ⟨w.heap.size,0,none⟩=some (Value.slice (some ⟨b,off,none⟩) ds.length c):=BD.at 0
 have hsz:W0.heap.size=w.heap.size+1:=by rw [hW0.out];simp
 have OE:=OwnI.empty (Ext.refl W0);have X1:=Ext_alloc (.cells #[] 79) (Ext.refl W0);have d0:=kD _ X1;rw [hW0.out] at d0;rw [hsz] at OE;have HOE:=lhd OE;have HX1:=lhd X1;have h1:=r.kind;have CO:=lhd (fun o a b w=>sOp_c o a b w);have HKA:Hid (∀ t,(ht:t<r.kids.length)→r.kids[t]=((kd r t:Nat):Int)):=fun t ht=>vrule_kids HKF.out ht
 have CC:Hid (∀ t,(ht:t<r.kids.length)→∀ w',Ext w w'→Gives Tryz.prog 75 #[.slice E es.length ec,.int .i64 ((kd r t:Nat):Int)] w' (.agg #[.int .i64 9,.int .i64 (callI r es t).2.1,.int .i64 0])):=fun t ht w' e=>by
  have h1:=(HKF.out t ht).1
  have:=sCall_c E es ec (kd r t) h1 w' (hE.ext e);rw [callI_at h1];exact this
 have HEI:=lhd hE;have hi':(i:Int)<(ds.length:Int):=by omega
 have hes':¬ (es.length:Int)<(i:Int):=by omega
 clear hS hd hs hw hE BD OE X1 h1 hes hsz hi;have HKLEN:Hid (r.kids.length=1):=(HKL.1 hkd).1
 have ht0:0<r.kids.length:=by have:=HKLEN.out;omega
 obtain ⟨bk,ok,rfl,_,hck0⟩:=HS.out.k.at 0 ht0;rw [HKA.out 0 ht0] at hck0;have hk0:∀ w',Ext W0 w'→w'.cell? ⟨bk,ok,none⟩=some (.int .i64 ((kd r 0:Nat):Int)):=fun w' e=>hck0 w' (e0.trans e)
 have CK0:=lhd (CC.out 0 ht0);have gk0:(0:Int)<(r.kids.length:Int):=by omega
 clear hck0;have HR:Hid (ruleC r start es=[callI r es 0,(4,0,0)]++[(10,0,0)]):=by show _=_;unfold ruleC bodyC;rw [if_neg (by omega),if_neg (by omega),if_neg (by omega),if_pos hkd]
 have HBT:Hid (([callI r es 0,(4,0,0)]:List Ins).length+[((10:Int),(0:Int),(0:Int))].length≤1000000):=by show _≤_;simp
 clear HKL HCF;unfold vdesc;go_enter Tryz.func44,Tryz.ntmps44;go_wp2_with fail;rw [← hW0.out];refine (KN.out _ (e0.trans HX1.out)).mono ?_;rintro _ w1 ⟨rfl,e1⟩;have E1:Ext W0 w1:=HX1.out.trans e1
 have HO1:=lhd (HOE.out.ext e1);have E01:=e0.trans E1;have g0:=kD w1 E1;have g1:=m1 w1 E01;have g2:=m2 w1 E01;have g3:=m3 w1 E01;have g4:=m4 w1 E01;have g5:=m5 w1 E01;have g6:=m6 w1 E01;have g7:=m7 w1 E01;have g8:=m0 w1 E01;obtain ⟨W2,hW2⟩:=nmw (w1.alloc (.cells #[.string r.nm,.int .i64 4,.int .i64 r.size,.bool r.little,.slice Rb r.bytes.length rb,.slice Rn r.names.length rn,.slice Rt r.tags.length rt,.slice (some ⟨bk,ok,none⟩) r.kids.length rk] 96));have e2:Ext w1 W2:=ka hW2
 have BR:Box W2 w1.heap.size #[.string r.nm,.int .i64 4,.int .i64 r.size,.bool r.little,.slice Rb r.bytes.length rb,.slice Rn r.names.length rn,.slice Rt r.tags.length rt,.slice (some ⟨bk,ok,none⟩) r.kids.length rk] 96:=kb hW2
 have E2:Ext W0 W2:=E1.trans e2
 have E02:Ext w W2:=e0.trans E2
 have k0:∀ w',Ext W2 w'→_=some (Value.string r.nm):=BR.at 0
 have k1:∀ w',Ext W2 w'→_=some (Value.int .i64 4):=BR.at 1
 have k2:∀ w',Ext W2 w'→_=some (Value.int .i64 r.size):=BR.at 2
 have k3:∀ w',Ext W2 w'→_=some (Value.bool r.little):=BR.at 3
 have k4:∀ w',Ext W2 w'→_=some (Value.slice Rb r.bytes.length rb):=BR.at 4
 have k5:∀ w',Ext W2 w'→_=some (Value.slice Rn r.names.length rn):=BR.at 5
 have k6:∀ w',Ext W2 w'→_=some (Value.slice Rt r.tags.length rt):=BR.at 6
 have k7:∀ w',Ext W2 w'→_=some (Value.slice (some ⟨bk,ok,none⟩) r.kids.length rk):=BR.at 7
 have HO2:=lhd (HO1.out.ext e2);have hne1:w.heap.size+1≠w1.heap.size:=by have h1:=e1.size;simp at h1;rw [hW0.out] at h1;simp at h1;omega
 have HNE:=lhd hne1;clear hne1;have u1:=k1 W2 (Ext.refl _);rw [hW2.out] at u1;rw [hkd] at g1;clear HO1 HOE d0 m0 m1 m2 m3 m4 m5 m6 m7 HX1 KN;have y7:=k7 W2 (Ext.refl _);rw [hW2.out] at y7;have x0:=hk0 W2 E2;rw [hW2.out] at x0;go_wp2_with fail;rw [← hW2.out];refine (CK0.out _ E02).mono ?_;rintro _ w5 ⟨rfl,e5⟩;go_wp2_with fail;refine (CO.out 4 0 0 _).mono ?_;rintro _ w6 ⟨rfl,e6⟩;have HO5:=lhd (HO2.out.ext (e5.trans e6));have he5:=(E2.trans e5).trans e6
 go_wp2_with (first
  | (at_builtin;go_must (refine wpList_appI rfl (.tmp 80) (.tmp 88) _ rfl E_ins W0 w6 (.slice (some ⟨w.heap.size+1,0,none⟩) 0 0) [] [callI r es 0,(4,0,0)] rfl HO5.out he5 _ rfl 2 2 rfl rfl rfl (by simp) ?_);intro v7 w7 ho7 he7))
 refine (CO.out 10 0 0 _).mono ?_;rintro _ w8 ⟨rfl,e8⟩;have HO8:=lhd (ho7.ext e8);have he8:=he7.trans e8
 go_wp2_with (first
  | (at_builtin;go_must (refine wpList_appI rfl (.tmp 167) (.tmp 169) _ rfl E_ins W0 w8 v7 ([]++[callI r es 0,(4,0,0)]) [(10,0,0)] rfl HO8.out he8 _ rfl 1 1 rfl rfl rfl HBT.out ?_);intro v9 w9 ho9 he9))
 go_ret;exact ⟨_,rfl,(by rw [HR.out];exact ho9.down e0.size),e0.trans he9⟩
theorem sRuleC_1 (A:Option Addr) (ds:List DRule) (c:Nat) (hok:descOk ds=true) (i:Nat) (hi:i<ds.length) (E:Option Addr) (es:List Int) (ec:Nat) (start:Nat) (w:World)
 (hd:RdD w A ds c) (hs:ShortD ds) (hw:WfD ds) (hE:Is w E es ec) (hes:i≤es.length) (hst:start≤100000) (hkd:ds[i].kind=1) :
 Calls Tryz.prog 44 #[vdesc (.slice A ds.length c),.int .i64 (i:Int),.int .i64 (start:Int),.slice E es.length ec] w (cRuleRes w (ruleC ds[i] start es)):=by
 unfold cRuleRes;have hl:=hE.len;have hdl:=hd.len;have hdc:=hd.cap;have HKF:=lhd (kids_facts hok i hi hes);have HCF:=code_facts hok i hi;have HKL:=kids_len hok i hi
 have KN:Hid (∀ w',Ext w w'→Gives Tryz.prog 70 #[.agg #[.slice A ds.length c],.int .i64 (i:Int)] w' (.bool true)):=fun w' e=>by
  have:=sKnown_c A ds c (i:Int) w' (hd.ext e) hs hw;rw [known_at hok i hi] at this;exact this
 obtain ⟨b,off,Rb,rb,Rn,rn,Rt,rt,Rk,rk,rfl,hb,hS,hR⟩:=hd.at i hi;obtain ⟨m0,m1,m2,m3,m4,m5,m6,m7⟩:=hR;have HS:=lhd hS;generalize ds[i]=r at *;obtain ⟨W0,hW0⟩:=nmw (w.alloc (.cells #[.slice (some ⟨b,off,none⟩) ds.length c] 26));have e0:Ext w W0:=ka hW0
 have BD:Box W0 w.heap.size #[.slice (some ⟨b,off,none⟩) ds.length c] 26:=kb hW0
 have kD:∀ w',Ext W0 w'→w'.cell? ⟨w.heap.size,0,none⟩=some (Value.slice (some ⟨b,off,none⟩) ds.length c):=BD.at 0
 have hsz:W0.heap.size=w.heap.size+1:=by rw [hW0.out];simp
 have OE:=OwnI.empty (Ext.refl W0);have X1:=Ext_alloc (.cells #[] 79) (Ext.refl W0);have d0:=kD _ X1;rw [hW0.out] at d0;rw [hsz] at OE;have HOE:=lhd OE;have HX1:=lhd X1;have h1:=r.kind;have CO:=lhd (fun o a b w=>sOp_c o a b w);have HKA:Hid (∀ t,(ht:t<r.kids.length)→r.kids[t]=((kd r t:Nat):Int)):=fun t ht=>vrule_kids HKF.out ht
 have CC:Hid (∀ t,(ht:t<r.kids.length)→∀ w',Ext w w'→Gives Tryz.prog 75 #[.slice E es.length ec,.int .i64 ((kd r t:Nat):Int)] w' (.agg #[.int .i64 9,.int .i64 (callI r es t).2.1,.int .i64 0])):=fun t ht w' e=>by
  have h1:=(HKF.out t ht).1
  have:=sCall_c E es ec (kd r t) h1 w' (hE.ext e);rw [callI_at h1];exact this
 have HEI:=lhd hE;have hi':(i:Int)<(ds.length:Int):=by omega
 have hes':¬ (es.length:Int)<(i:Int):=by omega
 clear hS hd hs hw hE BD OE X1 h1 hes hsz hi;obtain ⟨x1,hx1⟩:∃ x:Int,x=(if r.little then 1 else 0):=⟨_,rfl⟩;have HXL:=lhd hx1;have CL:Hid (∀ w,Gives Tryz.prog 74 #[.agg #[.string r.nm,.int .i64 1,.int .i64 r.size,.bool r.little,.slice Rb r.bytes.length rb,.slice Rn r.names.length rn,.slice Rt r.tags.length rt,.slice Rk r.kids.length rk]] w (.int .i64 x1)):=fun w=>by rw [hx1];have:=sLittleC_c r (.slice Rb r.bytes.length rb) (.slice Rn r.names.length rn) (.slice Rt r.tags.length rt) (.slice Rk r.kids.length rk) w;unfold vrule at this;rwa [hkd] at this
 clear hx1;have HR:Hid (ruleC r start es=[(1,r.size,x1)]++[(10,0,0)]):=by show _=_;unfold ruleC bodyC;rw [if_pos hkd,← HXL.out]
 have HBT:Hid (([(1,r.size,x1)]:List Ins).length+[((10:Int),(0:Int),(0:Int))].length≤1000000):=by show _≤_;simp
 clear HKL HCF;unfold vdesc;go_enter Tryz.func44,Tryz.ntmps44;go_wp2_with fail;rw [← hW0.out];refine (KN.out _ (e0.trans HX1.out)).mono ?_;rintro _ w1 ⟨rfl,e1⟩;have E1:Ext W0 w1:=HX1.out.trans e1
 have HO1:=lhd (HOE.out.ext e1);have E01:=e0.trans E1;have g0:=kD w1 E1;have g1:=m1 w1 E01;have g2:=m2 w1 E01;have g3:=m3 w1 E01;have g4:=m4 w1 E01;have g5:=m5 w1 E01;have g6:=m6 w1 E01;have g7:=m7 w1 E01;have g8:=m0 w1 E01;obtain ⟨W2,hW2⟩:=nmw (w1.alloc (.cells #[.string r.nm,.int .i64 1,.int .i64 r.size,.bool r.little,.slice Rb r.bytes.length rb,.slice Rn r.names.length rn,.slice Rt r.tags.length rt,.slice Rk r.kids.length rk] 96));have e2:Ext w1 W2:=ka hW2
 have BR:Box W2 w1.heap.size #[.string r.nm,.int .i64 1,.int .i64 r.size,.bool r.little,.slice Rb r.bytes.length rb,.slice Rn r.names.length rn,.slice Rt r.tags.length rt,.slice Rk r.kids.length rk] 96:=kb hW2
 have E2:Ext W0 W2:=E1.trans e2
 have E02:Ext w W2:=e0.trans E2
 have k0:∀ w',Ext W2 w'→_=some (Value.string r.nm):=BR.at 0
 have k1:∀ w',Ext W2 w'→_=some (Value.int .i64 1):=BR.at 1
 have k2:∀ w',Ext W2 w'→_=some (Value.int .i64 r.size):=BR.at 2
 have k3:∀ w',Ext W2 w'→_=some (Value.bool r.little):=BR.at 3
 have k4:∀ w',Ext W2 w'→_=some (Value.slice Rb r.bytes.length rb):=BR.at 4
 have k5:∀ w',Ext W2 w'→_=some (Value.slice Rn r.names.length rn):=BR.at 5
 have k6:∀ w',Ext W2 w'→_=some (Value.slice Rt r.tags.length rt):=BR.at 6
 have k7:∀ w',Ext W2 w'→_=some (Value.slice Rk r.kids.length rk):=BR.at 7
 have HO2:=lhd (HO1.out.ext e2);have hne1:w.heap.size+1≠w1.heap.size:=by have h1:=e1.size;simp at h1;rw [hW0.out] at h1;simp at h1;omega
 have HNE:=lhd hne1;clear hne1;have u1:=k1 W2 (Ext.refl _);rw [hW2.out] at u1;rw [hkd] at g1;clear HO1 HOE d0 m0 m1 m2 m3 m4 m5 m6 m7 HX1 KN;have eS:Box W2.drew w1.heap.size #[.string r.nm,.int .i64 1,.int .i64 r.size,.bool r.little,.slice Rb r.bytes.length rb,.slice Rn r.names.length rn,.slice Rt r.tags.length rt,.slice Rk r.kids.length rk] 96∧Ext W0 W2.drew:=⟨BR.ext (Ext_drew (Ext.refl _)),E2.trans (Ext_drew (Ext.refl _))⟩
 have HO5:=lhd (HO2.out.ext (Ext_drew (Ext.refl W2)));go_wp2_with fail;rw [← hW2.out];refine wp_region_HD (S:=fun w'=>Box w' w1.heap.size #[.string r.nm,.int .i64 1,.int .i64 r.size,.bool r.little,.slice Rb r.bytes.length rb,.slice Rn r.names.length rn,.slice Rt r.tags.length rt,.slice Rk r.kids.length rk] 96∧Ext W0 w') (ofB 9 0) (by kernel_rfl) (by kernel_rfl) ?_;refine tkI (i:=0) (some 43) (v:=?_) (ofB 9 1) rfl rfl eS ?_ ?_;rotate_left
 ·(intro w' hSw;clear hSw;go_simp;try with_reducible rfl)
 try simp only [Act.put,lpa,lpz,lps]
 refine tkI (i:=1) (some 44) (v:=?_) (ofB 9 3) rfl rfl eS ?_ ?_;rotate_left
 ·(intro w' hSw;clear hSw;go_simp;try with_reducible rfl)
 try simp only [Act.put,lpa,lpz,lps]
 refine tkI (i:=2) (some 45) (v:=?_) (ofB 9 7) rfl rfl eS ?_ ?_;rotate_left
 ·(intro w' hSw;have hf0:=(show w'.cell? ⟨w1.heap.size,2,none⟩=some (Value.int .i64 r.size) from hSw.1.cell 2);clear hSw;go_simp;try with_reducible rfl)
 try simp only [Act.put,lpa,lpz,lps]
 refine tkI (i:=3) (some 46) (v:=?_) (ofB 9 15) rfl rfl eS ?_ ?_;rotate_left
 ·(intro w' hSw;have hf0:=(show w'.cell? ⟨w1.heap.size,0,none⟩=some (Value.string r.nm) from hSw.1.cell 0);have hf1:=(show w'.cell? ⟨w1.heap.size,1,none⟩=some (Value.int .i64 1) from hSw.1.cell 1);have hf2:=(show w'.cell? ⟨w1.heap.size,2,none⟩=some (Value.int .i64 r.size) from hSw.1.cell 2);have hf3:=(show w'.cell? ⟨w1.heap.size,3,none⟩=some (Value.bool r.little) from hSw.1.cell 3);have hf4:=(show w'.cell? ⟨w1.heap.size,4,none⟩=some (Value.slice Rb r.bytes.length rb) from hSw.1.cell 4);have hf5:=(show w'.cell? ⟨w1.heap.size,5,none⟩=some (Value.slice Rn r.names.length rn) from hSw.1.cell 5);have hf6:=(show w'.cell? ⟨w1.heap.size,6,none⟩=some (Value.slice Rt r.tags.length rt) from hSw.1.cell 6);have hf7:=(show w'.cell? ⟨w1.heap.size,7,none⟩=some (Value.slice Rk r.kids.length rk) from hSw.1.cell 7);clear hSw;go_simp;try with_reducible rfl)
 try simp only [Act.put,lpa,lpz,lps]
 refine oneH (i:=4) (some 47) (ofB 9 31) (by kernel_rfl) rfl rfl (by kernel_rfl) (fun K hK=>?_);go_simp;go_at_call 74;refine (CL.out _).mono ?_;rintro _ w5 ⟨rfl,ee⟩;replace eS:=(⟨eS.1.ext ee,eS.2.trans ee⟩:_∧_);replace HO5:=lhd (HO5.out.ext ee);clear ee;refine Shut.out hK _ _ eS ?_;try simp only [Act.put,lpa,lpz,lps]
 refine oneH (i:=5) (some 48) (ofB 9 63) (by kernel_rfl) rfl rfl (by kernel_rfl) (fun K hK=>?_);go_simp;go_at_call 43;refine (CO.out 1 r.size x1 _).mono ?_;rintro _ w6 ⟨rfl,ee⟩;replace eS:=(⟨eS.1.ext ee,eS.2.trans ee⟩:_∧_);replace HO5:=lhd (HO5.out.ext ee);clear ee;refine Shut.out hK _ _ eS ?_;try simp only [Act.put,lpa,lpz,lps]
 refine oneH (i:=6) (some 49) (ofB 9 127) (by kernel_rfl) rfl rfl (by kernel_rfl) (fun K hK=>?_);go_simp;have eB:=eS;refine Shut.out hK _ _ ⟨eS.1.ext (Ext_alloc _ (Ext.refl _)),Ext_alloc _ eS.2⟩ ?_;try simp only [Act.put,lpa,lpz,lps]
 refine oneH (i:=7) (some 50) (ofB 9 255) (by kernel_rfl) rfl rfl (by kernel_rfl) (fun K hK=>?_);refine step_appI rfl (.tmp 43) (.tmp 49) _ rfl E_ins W0 _ (.slice (some ⟨w.heap.size+1,0,none⟩) 0 0) [] [(1,r.size,x1)] rfl HO5.out eB.2 _ rfl 1 1 rfl rfl rfl (by simp) ?_;intro v7 w7 ho7 he7 hg7;have eS:Box w7 w1.heap.size #[.string r.nm,.int .i64 1,.int .i64 r.size,.bool r.little,.slice Rb r.bytes.length rb,.slice Rn r.names.length rn,.slice Rt r.tags.length rt,.slice Rk r.kids.length rk] 96∧Ext W0 w7:=⟨(eB.1.ext (Ext_alloc _ (Ext.refl _))).moved hg7 (by show some _≠_;intro hh;injection hh with hh;exact HNE.out hh),he7⟩
 refine Shut.out hK _ _ eS ?_;try simp only [Act.put,lpa,lpz,lps]
 refine tkI (i:=8) (some 9) (v:=?_) (ofB 9 511) rfl rfl eS ?_ ?_;rotate_left
 ·(intro w' hSw;clear hSw;go_simp;try with_reducible rfl)
 try simp only [Act.put,lpa,lpz,lps]
 refine wpAnyH_done (by kernel_rfl) ?_ _;clear eB eS;go_wp2_with fail;refine (CO.out 10 0 0 _).mono ?_;rintro _ w8 ⟨rfl,e8⟩;have HO8:=lhd (ho7.ext e8);have he8:=he7.trans e8
 go_wp2_with (first
  | (at_builtin;go_must (refine wpList_appI rfl (.tmp 167) (.tmp 169) _ rfl E_ins W0 w8 v7 ([]++[(1,r.size,x1)]) [(10,0,0)] rfl HO8.out he8 _ rfl 1 1 rfl rfl rfl HBT.out ?_);intro v9 w9 ho9 he9))
 go_ret;exact ⟨_,rfl,(by rw [HR.out];exact ho9.down e0.size),e0.trans he9⟩
theorem sRuleC_5 (A:Option Addr) (ds:List DRule) (c:Nat) (hok:descOk ds=true) (i:Nat) (hi:i<ds.length) (E:Option Addr) (es:List Int) (ec:Nat) (start:Nat) (w:World)
 (hd:RdD w A ds c) (hs:ShortD ds) (hw:WfD ds) (hE:Is w E es ec) (hes:i≤es.length) (hst:start≤100000) (hkd:ds[i].kind=5) :
 Calls Tryz.prog 44 #[vdesc (.slice A ds.length c),.int .i64 (i:Int),.int .i64 (start:Int),.slice E es.length ec] w (cRuleRes w (ruleC ds[i] start es)):=by
 unfold cRuleRes;have hl:=hE.len;have hdl:=hd.len;have hdc:=hd.cap;have HKF:=lhd (kids_facts hok i hi hes);have HCF:=code_facts hok i hi;have HKL:=kids_len hok i hi
 have KN:Hid (∀ w',Ext w w'→Gives Tryz.prog 70 #[.agg #[.slice A ds.length c],.int .i64 (i:Int)] w' (.bool true)):=fun w' e=>by
  have:=sKnown_c A ds c (i:Int) w' (hd.ext e) hs hw;rw [known_at hok i hi] at this;exact this
 obtain ⟨b,off,Rb,rb,Rn,rn,Rt,rt,Rk,rk,rfl,hb,hS,hR⟩:=hd.at i hi;obtain ⟨m0,m1,m2,m3,m4,m5,m6,m7⟩:=hR;have HS:=lhd hS;generalize ds[i]=r at *;obtain ⟨W0,hW0⟩:=nmw (w.alloc (.cells #[.slice (some ⟨b,off,none⟩) ds.length c] 26));have e0:Ext w W0:=ka hW0
 have BD:Box W0 w.heap.size #[.slice (some ⟨b,off,none⟩) ds.length c] 26:=kb hW0
 have kD:∀ w',Ext W0 w'→w'.cell? ⟨w.heap.size,0,none⟩=some (Value.slice (some ⟨b,off,none⟩) ds.length c):=BD.at 0
 have hsz:W0.heap.size=w.heap.size+1:=by rw [hW0.out];simp
 have OE:=OwnI.empty (Ext.refl W0);have X1:=Ext_alloc (.cells #[] 79) (Ext.refl W0);have d0:=kD _ X1;rw [hW0.out] at d0;rw [hsz] at OE;have HOE:=lhd OE;have HX1:=lhd X1;have h1:=r.kind;have CO:=lhd (fun o a b w=>sOp_c o a b w);have HKA:Hid (∀ t,(ht:t<r.kids.length)→r.kids[t]=((kd r t:Nat):Int)):=fun t ht=>vrule_kids HKF.out ht
 have CC:Hid (∀ t,(ht:t<r.kids.length)→∀ w',Ext w w'→Gives Tryz.prog 75 #[.slice E es.length ec,.int .i64 ((kd r t:Nat):Int)] w' (.agg #[.int .i64 9,.int .i64 (callI r es t).2.1,.int .i64 0])):=fun t ht w' e=>by
  have h1:=(HKF.out t ht).1
  have:=sCall_c E es ec (kd r t) h1 w' (hE.ext e);rw [callI_at h1];exact this
 have HEI:=lhd hE;have hi':(i:Int)<(ds.length:Int):=by omega
 have hes':¬ (es.length:Int)<(i:Int):=by omega
 clear hS hd hs hw hE BD OE X1 h1 hes hsz hi;have HKLEN:Hid (r.kids.length=2):=(HKL.2.1 hkd).1
 have ht0:0<r.kids.length:=by have:=HKLEN.out;omega
 obtain ⟨bk,ok,rfl,_,hck0⟩:=HS.out.k.at 0 ht0;rw [HKA.out 0 ht0] at hck0;have ht1:1<r.kids.length:=by have:=HKLEN.out;omega
 obtain ⟨bk',ok',hbk,_,hck1⟩:=HS.out.k.at 1 ht1;injection hbk with hbk;injection hbk with z1 z2;subst z1;subst z2
 rw [HKA.out 1 ht1] at hck1;have hk0:∀ w',Ext W0 w'→w'.cell? ⟨bk,ok,none⟩=some (.int .i64 ((kd r 0:Nat):Int)):=fun w' e=>hck0 w' (e0.trans e)
 have CK0:=lhd (CC.out 0 ht0);have hk1:∀ w',Ext W0 w'→w'.cell? ⟨bk,ok+1,none⟩=some (.int .i64 ((kd r 1:Nat):Int)):=fun w' e=>hck1 w' (e0.trans e)
 have CK1:=lhd (CC.out 1 ht1);have gk0:(0:Int)<(r.kids.length:Int):=by omega
 have gk1:(1:Int)<(r.kids.length:Int):=by omega
 clear hck0 hck1;have HR:Hid (ruleC r start es=[callI r es 0,(5,40,0),(6,0,0),(7,(start:Int)+6,0),callI r es 1,(8,(start:Int)+3,0)]++[(10,0,0)]):=by show _=_;unfold ruleC bodyC;rw [if_neg (by omega),if_neg (by omega),if_neg (by omega),if_neg (by omega),if_pos hkd]
 have HBT:Hid (([callI r es 0,(5,40,0),(6,0,0),(7,(start:Int)+6,0),callI r es 1,(8,(start:Int)+3,0)]:List Ins).length+[((10:Int),(0:Int),(0:Int))].length≤1000000):=by show _≤_;simp
 clear HKL HCF;unfold vdesc;go_enter Tryz.func44,Tryz.ntmps44;go_wp2_with fail;rw [← hW0.out];refine (KN.out _ (e0.trans HX1.out)).mono ?_;rintro _ w1 ⟨rfl,e1⟩;have E1:Ext W0 w1:=HX1.out.trans e1
 have HO1:=lhd (HOE.out.ext e1);have E01:=e0.trans E1;have g0:=kD w1 E1;have g1:=m1 w1 E01;have g2:=m2 w1 E01;have g3:=m3 w1 E01;have g4:=m4 w1 E01;have g5:=m5 w1 E01;have g6:=m6 w1 E01;have g7:=m7 w1 E01;have g8:=m0 w1 E01;obtain ⟨W2,hW2⟩:=nmw (w1.alloc (.cells #[.string r.nm,.int .i64 5,.int .i64 r.size,.bool r.little,.slice Rb r.bytes.length rb,.slice Rn r.names.length rn,.slice Rt r.tags.length rt,.slice (some ⟨bk,ok,none⟩) r.kids.length rk] 96));have e2:Ext w1 W2:=ka hW2
 have BR:Box W2 w1.heap.size #[.string r.nm,.int .i64 5,.int .i64 r.size,.bool r.little,.slice Rb r.bytes.length rb,.slice Rn r.names.length rn,.slice Rt r.tags.length rt,.slice (some ⟨bk,ok,none⟩) r.kids.length rk] 96:=kb hW2
 have E2:Ext W0 W2:=E1.trans e2
 have E02:Ext w W2:=e0.trans E2
 have k0:∀ w',Ext W2 w'→_=some (Value.string r.nm):=BR.at 0
 have k1:∀ w',Ext W2 w'→_=some (Value.int .i64 5):=BR.at 1
 have k2:∀ w',Ext W2 w'→_=some (Value.int .i64 r.size):=BR.at 2
 have k3:∀ w',Ext W2 w'→_=some (Value.bool r.little):=BR.at 3
 have k4:∀ w',Ext W2 w'→_=some (Value.slice Rb r.bytes.length rb):=BR.at 4
 have k5:∀ w',Ext W2 w'→_=some (Value.slice Rn r.names.length rn):=BR.at 5
 have k6:∀ w',Ext W2 w'→_=some (Value.slice Rt r.tags.length rt):=BR.at 6
 have k7:∀ w',Ext W2 w'→_=some (Value.slice (some ⟨bk,ok,none⟩) r.kids.length rk):=BR.at 7
 have HO2:=lhd (HO1.out.ext e2);have hne1:w.heap.size+1≠w1.heap.size:=by have h1:=e1.size;simp at h1;rw [hW0.out] at h1;simp at h1;omega
 have HNE:=lhd hne1;clear hne1;have u1:=k1 W2 (Ext.refl _);rw [hW2.out] at u1;rw [hkd] at g1;clear HO1 HOE d0 m0 m1 m2 m3 m4 m5 m6 m7 HX1 KN;have eS:Box W2.drew w1.heap.size #[.string r.nm,.int .i64 5,.int .i64 r.size,.bool r.little,.slice Rb r.bytes.length rb,.slice Rn r.names.length rn,.slice Rt r.tags.length rt,.slice (some ⟨bk,ok,none⟩) r.kids.length rk] 96∧Ext W0 W2.drew:=⟨BR.ext (Ext_drew (Ext.refl _)),E2.trans (Ext_drew (Ext.refl _))⟩
 have HO5:=lhd (HO2.out.ext (Ext_drew (Ext.refl W2)));go_wp2_with fail;rw [← hW2.out];have hw6:IntKind.i64.wrap ((start:Int)+6)=(start:Int)+6:=IntWalk.i64_in _ (by omega)
 have hw3:IntKind.i64.wrap ((start:Int)+3)=(start:Int)+3:=IntWalk.i64_in _ (by omega)
 refine wp_region_HD (S:=fun w'=>Box w' w1.heap.size #[.string r.nm,.int .i64 5,.int .i64 r.size,.bool r.little,.slice Rb r.bytes.length rb,.slice Rn r.names.length rn,.slice Rt r.tags.length rt,.slice (some ⟨bk,ok,none⟩) r.kids.length rk] 96∧Ext W0 w') (ofB 24 0) (by kernel_rfl) (by kernel_rfl) ?_;refine tkI (i:=0) (some 92) (v:=?_) (ofB 24 1) rfl rfl eS ?_ ?_;rotate_left
 ·(intro w' hSw;clear hSw;go_simp;try with_reducible rfl)
 try simp only [Act.put,lpa,lpz,lps]
 refine tkI (i:=1) (some 93) (v:=?_) (ofB 24 3) rfl rfl eS ?_ ?_;rotate_left
 ·(intro w' hSw;clear hSw;go_simp;try with_reducible rfl)
 try simp only [Act.put,lpa,lpz,lps]
 refine tkI (i:=2) (some 94) (v:=?_) (ofB 24 7) rfl rfl eS ?_ ?_;rotate_left
 ·(intro w' hSw;clear hSw;go_simp;try with_reducible rfl)
 try simp only [Act.put,lpa,lpz,lps]
 refine tkI (i:=3) (some 95) (v:=?_) (ofB 24 15) rfl rfl eS ?_ ?_;rotate_left
 ·(intro w' hSw;have hf0:=(show w'.cell? ⟨w1.heap.size,7,none⟩=some (Value.slice (some ⟨bk,ok,none⟩) r.kids.length rk) from hSw.1.cell 7);clear hSw;go_simp;try with_reducible rfl)
 try simp only [Act.put,lpa,lpz,lps]
 refine tkI (i:=4) (some 96) (v:=?_) (ofB 24 31) rfl rfl eS ?_ ?_;rotate_left
 ·(intro w' hSw;clear hSw;go_simp;try with_reducible rfl)
 try simp only [Act.put,lpa,lpz,lps]
 refine tkI (i:=5) (some 97) (v:=?_) (ofB 24 63) rfl rfl eS ?_ ?_;rotate_left
 ·(intro w' hSw;have hf0:=hk0 w' hSw.2;clear hSw;go_simp;try with_reducible rfl)
 try simp only [Act.put,lpa,lpz,lps]
 refine tkI (i:=9) (some 101) (v:=?_) (ofB 24 575) rfl rfl eS ?_ ?_;rotate_left
 ·(intro w' hSw;clear hSw;go_simp;try with_reducible rfl)
 try simp only [Act.put,lpa,lpz,lps]
 refine tkI (i:=10) (some 102) (v:=?_) (ofB 24 1599) rfl rfl eS ?_ ?_;rotate_left
 ·(intro w' hSw;clear hSw;go_simp;try with_reducible rfl)
 try simp only [Act.put,lpa,lpz,lps]
 refine tkI (i:=12) (some 104) (v:=?_) (ofB 24 5695) rfl rfl eS ?_ ?_;rotate_left
 ·(intro w' hSw;clear hSw;go_simp;try with_reducible rfl)
 try simp only [Act.put,lpa,lpz,lps]
 refine tkI (i:=13) (some 105) (v:=?_) (ofB 24 13887) rfl rfl eS ?_ ?_;rotate_left
 ·(intro w' hSw;clear hSw;go_simp;try with_reducible rfl)
 try simp only [Act.put,lpa,lpz,lps]
 refine tkI (i:=14) (some 106) (v:=?_) (ofB 24 30271) rfl rfl eS ?_ ?_;rotate_left
 ·(intro w' hSw;have hf0:=(show w'.cell? ⟨w1.heap.size,7,none⟩=some (Value.slice (some ⟨bk,ok,none⟩) r.kids.length rk) from hSw.1.cell 7);clear hSw;go_simp;try with_reducible rfl)
 try simp only [Act.put,lpa,lpz,lps]
 refine tkI (i:=15) (some 107) (v:=?_) (ofB 24 63039) rfl rfl eS ?_ ?_;rotate_left
 ·(intro w' hSw;clear hSw;go_simp;try with_reducible rfl)
 try simp only [Act.put,lpa,lpz,lps]
 refine tkI (i:=16) (some 108) (v:=?_) (ofB 24 128575) rfl rfl eS ?_ ?_;rotate_left
 ·(intro w' hSw;have hf0:=hk1 w' hSw.2;clear hSw;go_simp;try with_reducible rfl)
 try simp only [Act.put,lpa,lpz,lps]
 refine tkI (i:=18) (some 110) (v:=?_) (ofB 24 390719) rfl rfl eS ?_ ?_;rotate_left
 ·(intro w' hSw;clear hSw;go_simp;try with_reducible rfl)
 try simp only [Act.put,lpa,lpz,lps]
 refine tkI (i:=19) (some 111) (v:=?_) (ofB 24 915007) rfl rfl eS ?_ ?_;rotate_left
 ·(intro w' hSw;clear hSw;go_simp;try with_reducible rfl)
 try simp only [Act.put,lpa,lpz,lps]
 refine oneH (i:=6) (some 98) (ofB 24 915071) (by kernel_rfl) rfl rfl (by kernel_rfl) (fun K hK=>?_);go_simp;go_at_call 75;refine (CK0.out _ (e0.trans eS.2)).mono ?_;rintro _ w5 ⟨rfl,ee⟩;replace eS:=(⟨eS.1.ext ee,eS.2.trans ee⟩:_∧_);replace HO5:=lhd (HO5.out.ext ee);clear ee;refine Shut.out hK _ _ eS ?_;try simp only [Act.put,lpa,lpz,lps]
 refine oneH (i:=7) (some 99) (ofB 24 915199) (by kernel_rfl) rfl rfl (by kernel_rfl) (fun K hK=>?_);go_simp;go_at_call 43;refine (CO.out 5 40 0 _).mono ?_;rintro _ w6 ⟨rfl,ee⟩;replace eS:=(⟨eS.1.ext ee,eS.2.trans ee⟩:_∧_);replace HO5:=lhd (HO5.out.ext ee);clear ee;refine Shut.out hK _ _ eS ?_;try simp only [Act.put,lpa,lpz,lps]
 refine oneH (i:=8) (some 100) (ofB 24 915455) (by kernel_rfl) rfl rfl (by kernel_rfl) (fun K hK=>?_);go_simp;go_at_call 43;refine (CO.out 6 0 0 _).mono ?_;rintro _ wa ⟨rfl,ee⟩;replace eS:=(⟨eS.1.ext ee,eS.2.trans ee⟩:_∧_);replace HO5:=lhd (HO5.out.ext ee);clear ee;refine Shut.out hK _ _ eS ?_;try simp only [Act.put,lpa,lpz,lps]
 refine oneH (i:=11) (some 103) (ofB 24 917503) (by kernel_rfl) rfl rfl (by kernel_rfl) (fun K hK=>?_);go_simp;go_at_call 43;refine (CO.out 7 ((start:Int)+6) 0 _).mono ?_;rintro _ wb ⟨rfl,ee⟩;replace eS:=(⟨eS.1.ext ee,eS.2.trans ee⟩:_∧_);replace HO5:=lhd (HO5.out.ext ee);clear ee;refine Shut.out hK _ _ eS ?_;try simp only [Act.put,lpa,lpz,lps]
 refine oneH (i:=17) (some 109) (ofB 24 1048575) (by kernel_rfl) rfl rfl (by kernel_rfl) (fun K hK=>?_);go_simp;go_at_call 75;refine (CK1.out _ (e0.trans eS.2)).mono ?_;rintro _ wc ⟨rfl,ee⟩;replace eS:=(⟨eS.1.ext ee,eS.2.trans ee⟩:_∧_);replace HO5:=lhd (HO5.out.ext ee);clear ee;refine Shut.out hK _ _ eS ?_;try simp only [Act.put,lpa,lpz,lps]
 refine oneH (i:=20) (some 112) (ofB 24 2097151) (by kernel_rfl) rfl rfl (by kernel_rfl) (fun K hK=>?_);go_simp;go_at_call 43;refine (CO.out 8 ((start:Int)+3) 0 _).mono ?_;rintro _ wd ⟨rfl,ee⟩;replace eS:=(⟨eS.1.ext ee,eS.2.trans ee⟩:_∧_);replace HO5:=lhd (HO5.out.ext ee);clear ee;refine Shut.out hK _ _ eS ?_;try simp only [Act.put,lpa,lpz,lps]
 refine oneH (i:=21) (some 113) (ofB 24 4194303) (by kernel_rfl) rfl rfl (by kernel_rfl) (fun K hK=>?_);go_simp;have eB:=eS;refine Shut.out hK _ _ ⟨eS.1.ext (Ext_alloc _ (Ext.refl _)),Ext_alloc _ eS.2⟩ ?_;try simp only [Act.put,lpa,lpz,lps]
 refine oneH (i:=22) (some 114) (ofB 24 8388607) (by kernel_rfl) rfl rfl (by kernel_rfl) (fun K hK=>?_);refine step_appI rfl (.tmp 92) (.tmp 113) _ rfl E_ins W0 _ (.slice (some ⟨w.heap.size+1,0,none⟩) 0 0) [] [callI r es 0,(5,40,0),(6,0,0),(7,(start:Int)+6,0),callI r es 1,(8,(start:Int)+3,0)] rfl HO5.out eB.2 _ rfl 6 6 rfl rfl rfl (by simp) ?_;intro v7 w7 ho7 he7 hg7;have eS:Box w7 w1.heap.size #[.string r.nm,.int .i64 5,.int .i64 r.size,.bool r.little,.slice Rb r.bytes.length rb,.slice Rn r.names.length rn,.slice Rt r.tags.length rt,.slice (some ⟨bk,ok,none⟩) r.kids.length rk] 96∧Ext W0 w7:=⟨(eB.1.ext (Ext_alloc _ (Ext.refl _))).moved hg7 (by show some _≠_;intro hh;injection hh with hh;exact HNE.out hh),he7⟩
 refine Shut.out hK _ _ eS ?_;try simp only [Act.put,lpa,lpz,lps]
 refine tkI (i:=23) (some 9) (v:=?_) (ofB 24 16777215) rfl rfl eS ?_ ?_;rotate_left
 ·(intro w' hSw;clear hSw;go_simp;try with_reducible rfl)
 try simp only [Act.put,lpa,lpz,lps]
 refine wpAnyH_done (by kernel_rfl) ?_ _;clear eB eS hw6 hw3;go_wp2_with fail;refine (CO.out 10 0 0 _).mono ?_;rintro _ w8 ⟨rfl,e8⟩;have HO8:=lhd (ho7.ext e8);have he8:=he7.trans e8
 go_wp2_with (first
  | (at_builtin;go_must (refine wpList_appI rfl (.tmp 167) (.tmp 169) _ rfl E_ins W0 w8 v7 ([]++[callI r es 0,(5,40,0),(6,0,0),(7,(start:Int)+6,0),callI r es 1,(8,(start:Int)+3,0)]) [(10,0,0)] rfl HO8.out he8 _ rfl 1 1 rfl rfl rfl HBT.out ?_);intro v9 w9 ho9 he9))
 go_ret;exact ⟨_,rfl,(by rw [HR.out];exact ho9.down e0.size),e0.trans he9⟩
theorem sRuleC_8 (A:Option Addr) (ds:List DRule) (c:Nat) (hok:descOk ds=true) (i:Nat) (hi:i<ds.length) (E:Option Addr) (es:List Int) (ec:Nat) (start:Nat) (w:World)
 (hd:RdD w A ds c) (hs:ShortD ds) (hw:WfD ds) (hE:Is w E es ec) (hes:i≤es.length) (hst:start≤100000) (hkd:ds[i].kind=8) :
 Calls Tryz.prog 44 #[vdesc (.slice A ds.length c),.int .i64 (i:Int),.int .i64 (start:Int),.slice E es.length ec] w (cRuleRes w (ruleC ds[i] start es)):=by
 unfold cRuleRes;have hl:=hE.len;have hdl:=hd.len;have hdc:=hd.cap;have HKF:=lhd (kids_facts hok i hi hes);have HCF:=code_facts hok i hi;have HKL:=kids_len hok i hi
 have KN:Hid (∀ w',Ext w w'→Gives Tryz.prog 70 #[.agg #[.slice A ds.length c],.int .i64 (i:Int)] w' (.bool true)):=fun w' e=>by
  have:=sKnown_c A ds c (i:Int) w' (hd.ext e) hs hw;rw [known_at hok i hi] at this;exact this
 obtain ⟨b,off,Rb,rb,Rn,rn,Rt,rt,Rk,rk,rfl,hb,hS,hR⟩:=hd.at i hi;obtain ⟨m0,m1,m2,m3,m4,m5,m6,m7⟩:=hR;have HS:=lhd hS;generalize ds[i]=r at *;obtain ⟨W0,hW0⟩:=nmw (w.alloc (.cells #[.slice (some ⟨b,off,none⟩) ds.length c] 26));have e0:Ext w W0:=ka hW0
 have BD:Box W0 w.heap.size #[.slice (some ⟨b,off,none⟩) ds.length c] 26:=kb hW0
 have kD:∀ w',Ext W0 w'→w'.cell? ⟨w.heap.size,0,none⟩=some (Value.slice (some ⟨b,off,none⟩) ds.length c):=BD.at 0
 have hsz:W0.heap.size=w.heap.size+1:=by rw [hW0.out];simp
 have OE:=OwnI.empty (Ext.refl W0);have X1:=Ext_alloc (.cells #[] 79) (Ext.refl W0);have d0:=kD _ X1;rw [hW0.out] at d0;rw [hsz] at OE;have HOE:=lhd OE;have HX1:=lhd X1;have h1:=r.kind;have CO:=lhd (fun o a b w=>sOp_c o a b w);have HKA:Hid (∀ t,(ht:t<r.kids.length)→r.kids[t]=((kd r t:Nat):Int)):=fun t ht=>vrule_kids HKF.out ht
 have CC:Hid (∀ t,(ht:t<r.kids.length)→∀ w',Ext w w'→Gives Tryz.prog 75 #[.slice E es.length ec,.int .i64 ((kd r t:Nat):Int)] w' (.agg #[.int .i64 9,.int .i64 (callI r es t).2.1,.int .i64 0])):=fun t ht w' e=>by
  have h1:=(HKF.out t ht).1
  have:=sCall_c E es ec (kd r t) h1 w' (hE.ext e);rw [callI_at h1];exact this
 have HEI:=lhd hE;have hi':(i:Int)<(ds.length:Int):=by omega
 have hes':¬ (es.length:Int)<(i:Int):=by omega
 clear hS hd hs hw hE BD OE X1 h1 hes hsz hi;have HKLEN:Hid (r.kids.length=1):=HKL.2.2.2.2.1 (.inl hkd)
 have ht0:0<r.kids.length:=by have:=HKLEN.out;omega
 obtain ⟨bk,ok,rfl,_,hck0⟩:=HS.out.k.at 0 ht0;rw [HKA.out 0 ht0] at hck0;have hk0:∀ w',Ext W0 w'→w'.cell? ⟨bk,ok,none⟩=some (.int .i64 ((kd r 0:Nat):Int)):=fun w' e=>hck0 w' (e0.trans e)
 have CK0:=lhd (CC.out 0 ht0);have gk0:(0:Int)<(r.kids.length:Int):=by omega
 clear hck0;have HR:Hid (ruleC r start es=[(13,(start:Int)+2,0),callI r es 0]++[(10,0,0)]):=by show _=_;unfold ruleC bodyC;rw [if_neg (by omega),if_neg (by omega),if_neg (by omega),if_neg (by omega),if_neg (by omega),if_neg (by omega),if_neg (by omega),if_pos hkd]
 have HBT:Hid (([(13,(start:Int)+2,0),callI r es 0]:List Ins).length+[((10:Int),(0:Int),(0:Int))].length≤1000000):=by show _≤_;simp
 clear HKL HCF;unfold vdesc;go_enter Tryz.func44,Tryz.ntmps44;go_wp2_with fail;rw [← hW0.out];refine (KN.out _ (e0.trans HX1.out)).mono ?_;rintro _ w1 ⟨rfl,e1⟩;have E1:Ext W0 w1:=HX1.out.trans e1
 have HO1:=lhd (HOE.out.ext e1);have E01:=e0.trans E1;have g0:=kD w1 E1;have g1:=m1 w1 E01;have g2:=m2 w1 E01;have g3:=m3 w1 E01;have g4:=m4 w1 E01;have g5:=m5 w1 E01;have g6:=m6 w1 E01;have g7:=m7 w1 E01;have g8:=m0 w1 E01;obtain ⟨W2,hW2⟩:=nmw (w1.alloc (.cells #[.string r.nm,.int .i64 8,.int .i64 r.size,.bool r.little,.slice Rb r.bytes.length rb,.slice Rn r.names.length rn,.slice Rt r.tags.length rt,.slice (some ⟨bk,ok,none⟩) r.kids.length rk] 96));have e2:Ext w1 W2:=ka hW2
 have BR:Box W2 w1.heap.size #[.string r.nm,.int .i64 8,.int .i64 r.size,.bool r.little,.slice Rb r.bytes.length rb,.slice Rn r.names.length rn,.slice Rt r.tags.length rt,.slice (some ⟨bk,ok,none⟩) r.kids.length rk] 96:=kb hW2
 have E2:Ext W0 W2:=E1.trans e2
 have E02:Ext w W2:=e0.trans E2
 have k0:∀ w',Ext W2 w'→_=some (Value.string r.nm):=BR.at 0
 have k1:∀ w',Ext W2 w'→_=some (Value.int .i64 8):=BR.at 1
 have k2:∀ w',Ext W2 w'→_=some (Value.int .i64 r.size):=BR.at 2
 have k3:∀ w',Ext W2 w'→_=some (Value.bool r.little):=BR.at 3
 have k4:∀ w',Ext W2 w'→_=some (Value.slice Rb r.bytes.length rb):=BR.at 4
 have k5:∀ w',Ext W2 w'→_=some (Value.slice Rn r.names.length rn):=BR.at 5
 have k6:∀ w',Ext W2 w'→_=some (Value.slice Rt r.tags.length rt):=BR.at 6
 have k7:∀ w',Ext W2 w'→_=some (Value.slice (some ⟨bk,ok,none⟩) r.kids.length rk):=BR.at 7
 have HO2:=lhd (HO1.out.ext e2);have hne1:w.heap.size+1≠w1.heap.size:=by have h1:=e1.size;simp at h1;rw [hW0.out] at h1;simp at h1;omega
 have HNE:=lhd hne1;clear hne1;have u1:=k1 W2 (Ext.refl _);rw [hW2.out] at u1;rw [hkd] at g1;clear HO1 HOE d0 m0 m1 m2 m3 m4 m5 m6 m7 HX1 KN;have eS:Box W2.drew w1.heap.size #[.string r.nm,.int .i64 8,.int .i64 r.size,.bool r.little,.slice Rb r.bytes.length rb,.slice Rn r.names.length rn,.slice Rt r.tags.length rt,.slice (some ⟨bk,ok,none⟩) r.kids.length rk] 96∧Ext W0 W2.drew:=⟨BR.ext (Ext_drew (Ext.refl _)),E2.trans (Ext_drew (Ext.refl _))⟩
 have HO5:=lhd (HO2.out.ext (Ext_drew (Ext.refl W2)));go_wp2_with fail;rw [← hW2.out];have hw2:IntKind.i64.wrap ((start:Int)+2)=(start:Int)+2:=IntWalk.i64_in _ (by omega)
 refine wp_region_HD (S:=fun w'=>Box w' w1.heap.size #[.string r.nm,.int .i64 8,.int .i64 r.size,.bool r.little,.slice Rb r.bytes.length rb,.slice Rn r.names.length rn,.slice Rt r.tags.length rt,.slice (some ⟨bk,ok,none⟩) r.kids.length rk] 96∧Ext W0 w') (ofB 13 0) (by kernel_rfl) (by kernel_rfl) ?_;refine tkI (i:=0) (some 142) (v:=?_) (ofB 13 1) rfl rfl eS ?_ ?_;rotate_left
 ·(intro w' hSw;clear hSw;go_simp;try with_reducible rfl)
 try simp only [Act.put,lpa,lpz,lps]
 refine tkI (i:=1) (some 143) (v:=?_) (ofB 13 3) rfl rfl eS ?_ ?_;rotate_left
 ·(intro w' hSw;clear hSw;go_simp;try with_reducible rfl)
 try simp only [Act.put,lpa,lpz,lps]
 refine tkI (i:=2) (some 144) (v:=?_) (ofB 13 7) rfl rfl eS ?_ ?_;rotate_left
 ·(intro w' hSw;clear hSw;go_simp;try with_reducible rfl)
 try simp only [Act.put,lpa,lpz,lps]
 refine tkI (i:=4) (some 146) (v:=?_) (ofB 13 23) rfl rfl eS ?_ ?_;rotate_left
 ·(intro w' hSw;clear hSw;go_simp;try with_reducible rfl)
 try simp only [Act.put,lpa,lpz,lps]
 refine tkI (i:=5) (some 147) (v:=?_) (ofB 13 55) rfl rfl eS ?_ ?_;rotate_left
 ·(intro w' hSw;clear hSw;go_simp;try with_reducible rfl)
 try simp only [Act.put,lpa,lpz,lps]
 refine tkI (i:=6) (some 148) (v:=?_) (ofB 13 119) rfl rfl eS ?_ ?_;rotate_left
 ·(intro w' hSw;have hf0:=(show w'.cell? ⟨w1.heap.size,7,none⟩=some (Value.slice (some ⟨bk,ok,none⟩) r.kids.length rk) from hSw.1.cell 7);clear hSw;go_simp;try with_reducible rfl)
 try simp only [Act.put,lpa,lpz,lps]
 refine tkI (i:=7) (some 149) (v:=?_) (ofB 13 247) rfl rfl eS ?_ ?_;rotate_left
 ·(intro w' hSw;clear hSw;go_simp;try with_reducible rfl)
 try simp only [Act.put,lpa,lpz,lps]
 refine tkI (i:=8) (some 150) (v:=?_) (ofB 13 503) rfl rfl eS ?_ ?_;rotate_left
 ·(intro w' hSw;have hf0:=hk0 w' hSw.2;clear hSw;go_simp;try with_reducible rfl)
 try simp only [Act.put,lpa,lpz,lps]
 refine oneH (i:=3) (some 145) (ofB 13 511) (by kernel_rfl) rfl rfl (by kernel_rfl) (fun K hK=>?_);go_simp;go_at_call 43;refine (CO.out 13 ((start:Int)+2) 0 _).mono ?_;rintro _ w5 ⟨rfl,ee⟩;replace eS:=(⟨eS.1.ext ee,eS.2.trans ee⟩:_∧_);replace HO5:=lhd (HO5.out.ext ee);clear ee;refine Shut.out hK _ _ eS ?_;try simp only [Act.put,lpa,lpz,lps]
 refine oneH (i:=9) (some 151) (ofB 13 1023) (by kernel_rfl) rfl rfl (by kernel_rfl) (fun K hK=>?_);go_simp;go_at_call 75;refine (CK0.out _ (e0.trans eS.2)).mono ?_;rintro _ w6 ⟨rfl,ee⟩;replace eS:=(⟨eS.1.ext ee,eS.2.trans ee⟩:_∧_);replace HO5:=lhd (HO5.out.ext ee);clear ee;refine Shut.out hK _ _ eS ?_;try simp only [Act.put,lpa,lpz,lps]
 refine oneH (i:=10) (some 152) (ofB 13 2047) (by kernel_rfl) rfl rfl (by kernel_rfl) (fun K hK=>?_);go_simp;have eB:=eS;refine Shut.out hK _ _ ⟨eS.1.ext (Ext_alloc _ (Ext.refl _)),Ext_alloc _ eS.2⟩ ?_;try simp only [Act.put,lpa,lpz,lps]
 refine oneH (i:=11) (some 153) (ofB 13 4095) (by kernel_rfl) rfl rfl (by kernel_rfl) (fun K hK=>?_);refine step_appI rfl (.tmp 142) (.tmp 152) _ rfl E_ins W0 _ (.slice (some ⟨w.heap.size+1,0,none⟩) 0 0) [] [(13,(start:Int)+2,0),callI r es 0] rfl HO5.out eB.2 _ rfl 2 2 rfl rfl rfl (by simp) ?_;intro v7 w7 ho7 he7 hg7;have eS:Box w7 w1.heap.size #[.string r.nm,.int .i64 8,.int .i64 r.size,.bool r.little,.slice Rb r.bytes.length rb,.slice Rn r.names.length rn,.slice Rt r.tags.length rt,.slice (some ⟨bk,ok,none⟩) r.kids.length rk] 96∧Ext W0 w7:=⟨(eB.1.ext (Ext_alloc _ (Ext.refl _))).moved hg7 (by show some _≠_;intro hh;injection hh with hh;exact HNE.out hh),he7⟩
 refine Shut.out hK _ _ eS ?_;try simp only [Act.put,lpa,lpz,lps]
 refine tkI (i:=12) (some 9) (v:=?_) (ofB 13 8191) rfl rfl eS ?_ ?_;rotate_left
 ·(intro w' hSw;clear hSw;go_simp;try with_reducible rfl)
 try simp only [Act.put,lpa,lpz,lps]
 refine wpAnyH_done (by kernel_rfl) ?_ _;clear eB eS hw2;go_wp2_with fail;refine (CO.out 10 0 0 _).mono ?_;rintro _ w8 ⟨rfl,e8⟩;have HO8:=lhd (ho7.ext e8);have he8:=he7.trans e8
 go_wp2_with (first
  | (at_builtin;go_must (refine wpList_appI rfl (.tmp 167) (.tmp 169) _ rfl E_ins W0 w8 v7 ([]++[(13,(start:Int)+2,0),callI r es 0]) [(10,0,0)] rfl HO8.out he8 _ rfl 1 1 rfl rfl rfl HBT.out ?_);intro v9 w9 ho9 he9))
 go_ret;exact ⟨_,rfl,(by rw [HR.out];exact ho9.down e0.size),e0.trans he9⟩
theorem sRuleC_9 (A:Option Addr) (ds:List DRule) (c:Nat) (hok:descOk ds=true) (i:Nat) (hi:i<ds.length) (E:Option Addr) (es:List Int) (ec:Nat) (start:Nat) (w:World)
 (hd:RdD w A ds c) (hs:ShortD ds) (hw:WfD ds) (hE:Is w E es ec) (hes:i≤es.length) (hst:start≤100000) (hkd:ds[i].kind=9) :
 Calls Tryz.prog 44 #[vdesc (.slice A ds.length c),.int .i64 (i:Int),.int .i64 (start:Int),.slice E es.length ec] w (cRuleRes w (ruleC ds[i] start es)):=by
 unfold cRuleRes;have hl:=hE.len;have hdl:=hd.len;have hdc:=hd.cap;have HKF:=lhd (kids_facts hok i hi hes);have HCF:=code_facts hok i hi;have HKL:=kids_len hok i hi
 have KN:Hid (∀ w',Ext w w'→Gives Tryz.prog 70 #[.agg #[.slice A ds.length c],.int .i64 (i:Int)] w' (.bool true)):=fun w' e=>by
  have:=sKnown_c A ds c (i:Int) w' (hd.ext e) hs hw;rw [known_at hok i hi] at this;exact this
 obtain ⟨b,off,Rb,rb,Rn,rn,Rt,rt,Rk,rk,rfl,hb,hS,hR⟩:=hd.at i hi;obtain ⟨m0,m1,m2,m3,m4,m5,m6,m7⟩:=hR;have HS:=lhd hS;generalize ds[i]=r at *;obtain ⟨W0,hW0⟩:=nmw (w.alloc (.cells #[.slice (some ⟨b,off,none⟩) ds.length c] 26));have e0:Ext w W0:=ka hW0
 have BD:Box W0 w.heap.size #[.slice (some ⟨b,off,none⟩) ds.length c] 26:=kb hW0
 have kD:∀ w',Ext W0 w'→w'.cell? ⟨w.heap.size,0,none⟩=some (Value.slice (some ⟨b,off,none⟩) ds.length c):=BD.at 0
 have hsz:W0.heap.size=w.heap.size+1:=by rw [hW0.out];simp
 have OE:=OwnI.empty (Ext.refl W0);have X1:=Ext_alloc (.cells #[] 79) (Ext.refl W0);have d0:=kD _ X1;rw [hW0.out] at d0;rw [hsz] at OE;have HOE:=lhd OE;have HX1:=lhd X1;have h1:=r.kind;have CO:=lhd (fun o a b w=>sOp_c o a b w);have HKA:Hid (∀ t,(ht:t<r.kids.length)→r.kids[t]=((kd r t:Nat):Int)):=fun t ht=>vrule_kids HKF.out ht
 have CC:Hid (∀ t,(ht:t<r.kids.length)→∀ w',Ext w w'→Gives Tryz.prog 75 #[.slice E es.length ec,.int .i64 ((kd r t:Nat):Int)] w' (.agg #[.int .i64 9,.int .i64 (callI r es t).2.1,.int .i64 0])):=fun t ht w' e=>by
  have h1:=(HKF.out t ht).1
  have:=sCall_c E es ec (kd r t) h1 w' (hE.ext e);rw [callI_at h1];exact this
 have HEI:=lhd hE;have hi':(i:Int)<(ds.length:Int):=by omega
 have hes':¬ (es.length:Int)<(i:Int):=by omega
 clear hS hd hs hw hE BD OE X1 h1 hes hsz hi;have HKLEN:Hid (r.kids.length=1):=HKL.2.2.2.2.1 (.inr hkd)
 have ht0:0<r.kids.length:=by have:=HKLEN.out;omega
 obtain ⟨bk,ok,rfl,_,hck0⟩:=HS.out.k.at 0 ht0;rw [HKA.out 0 ht0] at hck0;have hk0:∀ w',Ext W0 w'→w'.cell? ⟨bk,ok,none⟩=some (.int .i64 ((kd r 0:Nat):Int)):=fun w' e=>hck0 w' (e0.trans e)
 have CK0:=lhd (CC.out 0 ht0);have gk0:(0:Int)<(r.kids.length:Int):=by omega
 clear hck0;have HR:Hid (ruleC r start es=[(14,0,0),callI r es 0,(15,0,0)]++[(10,0,0)]):=by show _=_;unfold ruleC bodyC;rw [if_neg (by omega),if_neg (by omega),if_neg (by omega),if_neg (by omega),if_neg (by omega),if_neg (by omega),if_neg (by omega),if_neg (by omega),if_pos hkd]
 have HBT:Hid (([(14,0,0),callI r es 0,(15,0,0)]:List Ins).length+[((10:Int),(0:Int),(0:Int))].length≤1000000):=by show _≤_;simp
 clear HKL HCF;unfold vdesc;go_enter Tryz.func44,Tryz.ntmps44;go_wp2_with fail;rw [← hW0.out];refine (KN.out _ (e0.trans HX1.out)).mono ?_;rintro _ w1 ⟨rfl,e1⟩;have E1:Ext W0 w1:=HX1.out.trans e1
 have HO1:=lhd (HOE.out.ext e1);have E01:=e0.trans E1;have g0:=kD w1 E1;have g1:=m1 w1 E01;have g2:=m2 w1 E01;have g3:=m3 w1 E01;have g4:=m4 w1 E01;have g5:=m5 w1 E01;have g6:=m6 w1 E01;have g7:=m7 w1 E01;have g8:=m0 w1 E01;obtain ⟨W2,hW2⟩:=nmw (w1.alloc (.cells #[.string r.nm,.int .i64 9,.int .i64 r.size,.bool r.little,.slice Rb r.bytes.length rb,.slice Rn r.names.length rn,.slice Rt r.tags.length rt,.slice (some ⟨bk,ok,none⟩) r.kids.length rk] 96));have e2:Ext w1 W2:=ka hW2
 have BR:Box W2 w1.heap.size #[.string r.nm,.int .i64 9,.int .i64 r.size,.bool r.little,.slice Rb r.bytes.length rb,.slice Rn r.names.length rn,.slice Rt r.tags.length rt,.slice (some ⟨bk,ok,none⟩) r.kids.length rk] 96:=kb hW2
 have E2:Ext W0 W2:=E1.trans e2
 have E02:Ext w W2:=e0.trans E2
 have k0:∀ w',Ext W2 w'→_=some (Value.string r.nm):=BR.at 0
 have k1:∀ w',Ext W2 w'→_=some (Value.int .i64 9):=BR.at 1
 have k2:∀ w',Ext W2 w'→_=some (Value.int .i64 r.size):=BR.at 2
 have k3:∀ w',Ext W2 w'→_=some (Value.bool r.little):=BR.at 3
 have k4:∀ w',Ext W2 w'→_=some (Value.slice Rb r.bytes.length rb):=BR.at 4
 have k5:∀ w',Ext W2 w'→_=some (Value.slice Rn r.names.length rn):=BR.at 5
 have k6:∀ w',Ext W2 w'→_=some (Value.slice Rt r.tags.length rt):=BR.at 6
 have k7:∀ w',Ext W2 w'→_=some (Value.slice (some ⟨bk,ok,none⟩) r.kids.length rk):=BR.at 7
 have HO2:=lhd (HO1.out.ext e2);have hne1:w.heap.size+1≠w1.heap.size:=by have h1:=e1.size;simp at h1;rw [hW0.out] at h1;simp at h1;omega
 have HNE:=lhd hne1;clear hne1;have u1:=k1 W2 (Ext.refl _);rw [hW2.out] at u1;rw [hkd] at g1;clear HO1 HOE d0 m0 m1 m2 m3 m4 m5 m6 m7 HX1 KN;have eS:Box W2.drew w1.heap.size #[.string r.nm,.int .i64 9,.int .i64 r.size,.bool r.little,.slice Rb r.bytes.length rb,.slice Rn r.names.length rn,.slice Rt r.tags.length rt,.slice (some ⟨bk,ok,none⟩) r.kids.length rk] 96∧Ext W0 W2.drew:=⟨BR.ext (Ext_drew (Ext.refl _)),E2.trans (Ext_drew (Ext.refl _))⟩
 have HO5:=lhd (HO2.out.ext (Ext_drew (Ext.refl W2)));go_wp2_with fail;rw [← hW2.out];refine wp_region_HD (S:=fun w'=>Box w' w1.heap.size #[.string r.nm,.int .i64 9,.int .i64 r.size,.bool r.little,.slice Rb r.bytes.length rb,.slice Rn r.names.length rn,.slice Rt r.tags.length rt,.slice (some ⟨bk,ok,none⟩) r.kids.length rk] 96∧Ext W0 w') (ofB 12 0) (by kernel_rfl) (by kernel_rfl) ?_;refine tkI (i:=0) (some 156) (v:=?_) (ofB 12 1) rfl rfl eS ?_ ?_;rotate_left
 ·(intro w' hSw;clear hSw;go_simp;try with_reducible rfl)
 try simp only [Act.put,lpa,lpz,lps]
 refine tkI (i:=2) (some 158) (v:=?_) (ofB 12 5) rfl rfl eS ?_ ?_;rotate_left
 ·(intro w' hSw;clear hSw;go_simp;try with_reducible rfl)
 try simp only [Act.put,lpa,lpz,lps]
 refine tkI (i:=3) (some 159) (v:=?_) (ofB 12 13) rfl rfl eS ?_ ?_;rotate_left
 ·(intro w' hSw;clear hSw;go_simp;try with_reducible rfl)
 try simp only [Act.put,lpa,lpz,lps]
 refine tkI (i:=4) (some 160) (v:=?_) (ofB 12 29) rfl rfl eS ?_ ?_;rotate_left
 ·(intro w' hSw;have hf0:=(show w'.cell? ⟨w1.heap.size,7,none⟩=some (Value.slice (some ⟨bk,ok,none⟩) r.kids.length rk) from hSw.1.cell 7);clear hSw;go_simp;try with_reducible rfl)
 try simp only [Act.put,lpa,lpz,lps]
 refine tkI (i:=5) (some 161) (v:=?_) (ofB 12 61) rfl rfl eS ?_ ?_;rotate_left
 ·(intro w' hSw;clear hSw;go_simp;try with_reducible rfl)
 try simp only [Act.put,lpa,lpz,lps]
 refine tkI (i:=6) (some 162) (v:=?_) (ofB 12 125) rfl rfl eS ?_ ?_;rotate_left
 ·(intro w' hSw;have hf0:=hk0 w' hSw.2;clear hSw;go_simp;try with_reducible rfl)
 try simp only [Act.put,lpa,lpz,lps]
 refine oneH (i:=1) (some 157) (ofB 12 127) (by kernel_rfl) rfl rfl (by kernel_rfl) (fun K hK=>?_);go_simp;go_at_call 43;refine (CO.out 14 0 0 _).mono ?_;rintro _ w5 ⟨rfl,ee⟩;replace eS:=(⟨eS.1.ext ee,eS.2.trans ee⟩:_∧_);replace HO5:=lhd (HO5.out.ext ee);clear ee;refine Shut.out hK _ _ eS ?_;try simp only [Act.put,lpa,lpz,lps]
 refine oneH (i:=7) (some 163) (ofB 12 255) (by kernel_rfl) rfl rfl (by kernel_rfl) (fun K hK=>?_);go_simp;go_at_call 75;refine (CK0.out _ (e0.trans eS.2)).mono ?_;rintro _ w6 ⟨rfl,ee⟩;replace eS:=(⟨eS.1.ext ee,eS.2.trans ee⟩:_∧_);replace HO5:=lhd (HO5.out.ext ee);clear ee;refine Shut.out hK _ _ eS ?_;try simp only [Act.put,lpa,lpz,lps]
 refine oneH (i:=8) (some 164) (ofB 12 511) (by kernel_rfl) rfl rfl (by kernel_rfl) (fun K hK=>?_);go_simp;go_at_call 43;refine (CO.out 15 0 0 _).mono ?_;rintro _ wa ⟨rfl,ee⟩;replace eS:=(⟨eS.1.ext ee,eS.2.trans ee⟩:_∧_);replace HO5:=lhd (HO5.out.ext ee);clear ee;refine Shut.out hK _ _ eS ?_;try simp only [Act.put,lpa,lpz,lps]
 refine oneH (i:=9) (some 165) (ofB 12 1023) (by kernel_rfl) rfl rfl (by kernel_rfl) (fun K hK=>?_);go_simp;have eB:=eS;refine Shut.out hK _ _ ⟨eS.1.ext (Ext_alloc _ (Ext.refl _)),Ext_alloc _ eS.2⟩ ?_;try simp only [Act.put,lpa,lpz,lps]
 refine oneH (i:=10) (some 166) (ofB 12 2047) (by kernel_rfl) rfl rfl (by kernel_rfl) (fun K hK=>?_);refine step_appI rfl (.tmp 156) (.tmp 165) _ rfl E_ins W0 _ (.slice (some ⟨w.heap.size+1,0,none⟩) 0 0) [] [(14,0,0),callI r es 0,(15,0,0)] rfl HO5.out eB.2 _ rfl 3 3 rfl rfl rfl (by simp) ?_;intro v7 w7 ho7 he7 hg7;have eS:Box w7 w1.heap.size #[.string r.nm,.int .i64 9,.int .i64 r.size,.bool r.little,.slice Rb r.bytes.length rb,.slice Rn r.names.length rn,.slice Rt r.tags.length rt,.slice (some ⟨bk,ok,none⟩) r.kids.length rk] 96∧Ext W0 w7:=⟨(eB.1.ext (Ext_alloc _ (Ext.refl _))).moved hg7 (by show some _≠_;intro hh;injection hh with hh;exact HNE.out hh),he7⟩
 refine Shut.out hK _ _ eS ?_;try simp only [Act.put,lpa,lpz,lps]
 refine tkI (i:=11) (some 9) (v:=?_) (ofB 12 4095) rfl rfl eS ?_ ?_;rotate_left
 ·(intro w' hSw;clear hSw;go_simp;try with_reducible rfl)
 try simp only [Act.put,lpa,lpz,lps]
 refine wpAnyH_done (by kernel_rfl) ?_ _;clear eB eS;go_wp2_with fail;refine (CO.out 10 0 0 _).mono ?_;rintro _ w8 ⟨rfl,e8⟩;have HO8:=lhd (ho7.ext e8);have he8:=he7.trans e8
 go_wp2_with (first
  | (at_builtin;go_must (refine wpList_appI rfl (.tmp 167) (.tmp 169) _ rfl E_ins W0 w8 v7 ([]++[(14,0,0),callI r es 0,(15,0,0)]) [(10,0,0)] rfl HO8.out he8 _ rfl 1 1 rfl rfl rfl HBT.out ?_);intro v9 w9 ho9 he9))
 go_ret;exact ⟨_,rfl,(by rw [HR.out];exact ho9.down e0.size),e0.trans he9⟩
end Go.Proofs.YtpmcofmdjckijaaGreat
