/- Texts, laid into one. -/
import Derived.Test.YtpmcofmdjckijaaGreatZDg28
import Derived.Test.YtpmcofmdjckijaaGreatZDg26
set_option linter.unusedVariables false
set_option linter.unusedSimpArgs false
set_option maxRecDepth 100000
set_option maxHeartbeats 16000000
namespace Go.Proofs.YtpmcofmdjckijaaGreat
open Go.RowKit Go.Sort
def mach0:Mach:=⟨0,0,[],[],0,false,false,0,0,0⟩
theorem sNewM_c (w:World):Calls Tryz.prog 28 #[] w (MRes mach0 w):=by
 unfold MRes mval mcells mach0;have br:=Box.new w #[.int .i64 0,.int .i64 0,.slice none 0 0,.slice none 0 0,.int .i64 0,.bool false,.bool false,.int .i64 0,.int .i64 0,.int .i64 0] 67;have t2:=br.cell;have tf:=br.free;go_enter Tryz.func28,Tryz.ntmps28;go_wp2;refine bodyPost_ret (v:=.agg #[.int .i64 0,.int .i64 0,.slice none 0 0,.slice none 0 0,.int .i64 0,.bool false,.bool false,.int .i64 0,.int .i64 0,.int .i64 0]) (by simp [results,Tryz.results28,go_sem,t2,tf]) rfl ?_;exact ⟨_,_,rfl,OwnL.nil _ _,OwnL.nil _ _,(fun b hb=>by simp [Value.ownBlock] at hb),Ext_alloc _ (Ext.refl w)⟩
end Go.Proofs.YtpmcofmdjckijaaGreat
namespace Go.Proofs.YtpmcofmdjckijaaGreat
open Go.RowKit
theorem inB_yes {x lo hi:Int} (h1:lo≤x) (h2:x≤hi):inB x lo hi=true:=by unfold inB;simp;omega
theorem isOp_yes {cs:List Ins} {k op:Int} {p:Nat} {x:Ins} (hx:cs[p]?=some x) (hk:k=(p:Int)) (ho:x.1=op):isOp cs k op=true:=by
 obtain ⟨h1,h2⟩:=insAt_get hx;unfold isOp;rw [hk,h2,h1,ho];simp
theorem allFrom_of {p:Nat→Bool}:∀ (f k:Nat),(∀ i,k≤i→i<k+f→p i=true)→allFrom p f k=true
 | 0,k,_=>rfl
 | f+1,k,h=>by
  rw [allFrom,h k (by omega) (by omega),allFrom_of f (k+1) (fun i h1 h2=>h i (by omega) (by omega))];rfl
theorem rowOk_of {cs:List Ins} {es:List Int} {s f:Int}:∀ (F:Nat) (k:Int),(∀ i,k≤i→i<k+F→innerOk cs es i s f=true)→rowOk cs es s f F k=true
 | 0,k,_=>rfl
 | F+1,k,h=>by
  rw [rowOk,h k (by omega) (by omega),rowOk_of F (k+1) (fun i h1 h2=>h i (by omega) (by omega))];rfl
theorem callOk_yes {es0:List Int} {a s:Int} (ha:a<s):∀ {l:List Int},a∈l→l.Pairwise (·<·)→callOk es0 a s l=true
 | [],h,_=>by cases h
 | e::t,h,hp=>by
  rw [callOk];rcases List.mem_cons.1 h with h' | h'
  ·subst h';rw [if_pos ha,if_pos rfl]
  ·have hlt:=(List.pairwise_cons.1 hp).1 a h'
   rw [if_pos (by omega),if_neg (by omega)];exact callOk_yes ha h' (List.pairwise_cons.1 hp).2
theorem callOk_lt {es0:List Int} {a s:Int}:∀ {l:List Int},callOk es0 a s l=true→a<s
 | [],h=>by cases h
 | e::t,h=>by
  rw [callOk] at h
  split at h
  ·split at h
   ·omega
   ·exact callOk_lt h
  ·cases h
theorem startN_lt {ds:List DRule} (hd:descOk ds=true) {i k:Nat} (h:i<k) (hk:k≤ds.length):startN ds i<startN ds k:=by
 have h1:=startN_succ ds i (by omega);have h2:=(ruleC_26 hd i (by omega) (startN ds i) (compN ds i).2).2;have h3:=startN_mono ds (i:=i+1) (k:=k) (by omega)
 omega
theorem entsD_asc {ds:List DRule} (hd:descOk ds=true):(entsD ds).Pairwise (·<·):=by
 rw [List.pairwise_iff_getElem];intro i j hi hj hij;unfold entsD at hi hj ⊢;simp only [List.length_map,List.length_range] at hi hj;simp only [List.getElem_map,List.getElem_range]
 have:=startN_lt hd hij (by omega)
 omega
def FineI (cs:List Ins) (es:List Int) (p s f:Nat):Prop:=insOk cs (p:Int)=true∧innerOk cs es (p:Int) (s:Int) (f:Int)=true
theorem fine_plain {cs:List Ins} {es:List Int} {p s f:Nat} {x:Ins} (hx:cs[p]?=some x) (hf:f≤cs.length) (hp:p+1<f∨x.1=10) (ho:x.1=1∨x.1=2∨x.1=3∨x.1=4∨x.1=5∨x.1=10∨x.1=12∨x.1=16) (hk:operOk x=true):FineI cs es p s f:=by
 obtain ⟨h1,h2⟩:=insAt_get hx
 have hst:x.1=10∨((p:Int)==(cs.length:Int)-1)=false:=by
  rcases hp with h | h
  ·right;rw [beq_eq_false_iff_ne];omega
  ·exact .inl h
 constructor
 ·unfold insOk
  rw [h1,h2,hk];have hj:jumpOp x.1=false:=by unfold jumpOp;rcases ho with h | h | h | h | h | h | h | h<;>rw [h]<;>decide
  have h11:(x.1==11)=false:=by rw [beq_eq_false_iff_ne];omega
  rw [hj,h11];rcases hst with h | h
  ·rw [h];rfl
  ·rw [h];simp
 ·unfold innerOk
  dsimp only;rw [h1,if_neg (by omega),if_neg (by omega),if_neg (by omega),if_neg (by omega),if_neg (by omega),if_neg (by omega),if_neg (by omega),if_neg (by omega),if_neg (by omega)]
theorem notLast {cs:List Ins} {p f:Nat} (h:p+1<f) (hf:f≤cs.length):((p:Int)==(cs.length:Int)-1)=false:=by rw [beq_eq_false_iff_ne];omega
theorem fine_call {cs:List Ins} {es:List Int} {p s f a:Nat} (hx:cs[p]?=some (9,(a:Int),0)) (hf:f≤cs.length) (hp:p+1<f) (ha:a<s) (hs:s≤p) (hm:(a:Int)∈es) (hasc:es.Pairwise (·<·)):FineI cs es p s f:=by
 obtain ⟨h1,h2⟩:=insAt_get hx
 constructor
 ·unfold insOk
  rw [h1,h2,notLast hp hf];simp only [inB_yes (x:=(a:Int)) (lo:=0) (hi:=(cs.length:Int)-1) (by omega) (by omega)];simp [operOk,inB]
 ·unfold innerOk
  dsimp only;rw [h1,if_neg (by simp),if_pos rfl];exact callOk_yes (a:=(a:Int)) (by omega) hm hasc
theorem loop_yes {cs:List Ins} {q e:Nat} {z z2 z3:Int} (h0:cs[q]?=some (6,0,0)) (h1:cs[q+1]?=some (7,((q+4:Nat):Int),z)) (h2:cs[q+2]?=some (9,(e:Int),z2)) (h3:cs[q+3]?=some (8,((q+1:Nat):Int),z3)):loopOk cs ((q+1:Nat):Int)=true:=by
 unfold loopOk;rw [isOp_yes h0 (by omega) rfl,isOp_yes h1 rfl rfl,isOp_yes h2 (by omega) rfl,isOp_yes h3 (by omega) rfl,(insAt_get h1).1]
 have:insAt cs (((q+1:Nat):Int)+2)=(8,((q+1:Nat):Int),z3):=by
  rw [show ((q+1:Nat):Int)+2=((q+3:Nat):Int) by omega];exact (insAt_get h3).1
 rw [this];simp;omega
theorem fine_loop {cs:List Ins} {es:List Int} {q s f e:Nat} (h0:cs[q]?=some (6,0,0)) (h1:cs[q+1]?=some (7,((q+4:Nat):Int),0)) (h2:cs[q+2]?=some (9,(e:Int),0)) (h3:cs[q+3]?=some (8,((q+1:Nat):Int),0)) (hs:s≤q) (hf:q+4<f) (hl:f≤cs.length) :
 FineI cs es q s f∧FineI cs es (q+1) s f∧FineI cs es (q+3) s f:=by
 have hL:=loop_yes h0 h1 h2 h3;obtain ⟨a0,b0⟩:=insAt_get h0;obtain ⟨a1,b1⟩:=insAt_get h1;obtain ⟨a3,b3⟩:=insAt_get h3;refine ⟨⟨?_,?_⟩,⟨?_,?_⟩,⟨?_,?_⟩⟩
 ·unfold insOk;rw [a0,b0,notLast (f:=f) (by omega) hl];simp [operOk,inB,jumpOp]
 ·unfold innerOk
  dsimp only;rw [a0,if_neg (by simp),if_neg (by simp),if_pos rfl,show (q:Int)+1=((q+1:Nat):Int) by omega,hL];simp;omega
 ·unfold insOk;rw [a1,b1,notLast (f:=f) (by omega) hl]
  simp only [inB_yes (x:=((q+4:Nat):Int)) (lo:=0) (hi:=(cs.length:Int)-1) (by omega) (by omega)];simp [operOk,inB,jumpOp]
 ·unfold innerOk
  dsimp only;rw [a1,if_neg (by simp),if_neg (by simp),if_neg (by simp),if_pos rfl,hL];simp;omega
 ·unfold insOk;rw [a3,b3,notLast (f:=f) (by omega) hl]
  simp only [inB_yes (x:=((q+1:Nat):Int)) (lo:=0) (hi:=(cs.length:Int)-1) (by omega) (by omega)];simp [operOk,inB,jumpOp]
 ·unfold innerOk
  dsimp only;rw [a3,if_neg (by simp),if_neg (by simp),if_neg (by simp),if_neg (by simp),if_pos rfl,show ((q+3:Nat):Int)-2=((q+1:Nat):Int) by omega,hL];simp;omega
theorem fine_flag {cs:List Ins} {es:List Int} {p s f a:Nat} (hx:cs[p]?=some (13,(a:Int),0)) (hf:f≤cs.length) (hp:p<a) (ha:a<f):FineI cs es p s f:=by
 obtain ⟨h1,h2⟩:=insAt_get hx
 constructor
 ·unfold insOk
  rw [h1,h2,notLast (f:=f) (by omega) hf];simp only [inB_yes (x:=(a:Int)) (lo:=0) (hi:=(cs.length:Int)-1) (by omega) (by omega)];simp [operOk,inB]
 ·unfold innerOk
  dsimp only;rw [h1,if_neg (by simp),if_neg (by simp),if_neg (by simp),if_neg (by simp),if_neg (by simp),if_pos rfl];exact inB_yes (x:=(a:Int)) (by omega) (by omega)
theorem fine_tag {cs:List Ins} {es:List Int} {p s f a:Nat} {t:Int} (hx:cs[p]?=some (11,t,(a:Int))) (ht:0≤t) (hf:f≤cs.length) (hp:p<a) (ha:a<f):FineI cs es p s f:=by
 obtain ⟨h1,h2⟩:=insAt_get hx
 constructor
 ·unfold insOk
  rw [h1,h2,notLast (f:=f) (by omega) hf];simp only [inB_yes (x:=(a:Int)) (lo:=0) (hi:=(cs.length:Int)-1) (by omega) (by omega)];simp [operOk,inB,jumpOp,ht]
 ·unfold innerOk
  dsimp only;rw [h1,if_neg (by simp),if_neg (by simp),if_neg (by simp),if_neg (by simp),if_neg (by simp),if_neg (by simp),if_pos rfl];exact inB_yes (x:=(a:Int)) (by omega) (by omega)
theorem fine_mark {cs:List Ins} {es:List Int} {q s f:Nat} {a:Int} (h0:cs[q]?=some (14,0,0)) (h1:cs[q+1]?=some (9,a,0)) (h2:cs[q+2]?=some (15,0,0)) (hs:s≤q) (hf:q+3<f) (hl:f≤cs.length):FineI cs es q s f∧FineI cs es (q+2) s f:=by
 obtain ⟨a0,b0⟩:=insAt_get h0;obtain ⟨a2,b2⟩:=insAt_get h2;refine ⟨⟨?_,?_⟩,⟨?_,?_⟩⟩
 ·unfold insOk;rw [a0,b0,notLast (f:=f) (by omega) hl];simp [operOk,inB,jumpOp]
 ·unfold innerOk
  dsimp only;rw [a0,if_neg (by simp),if_neg (by simp),if_neg (by simp),if_neg (by simp),if_neg (by simp),if_neg (by simp),if_neg (by simp),if_pos rfl,isOp_yes h1 (by omega) rfl,isOp_yes h2 (by omega) rfl];simp;omega
 ·unfold insOk;rw [a2,b2,notLast (f:=f) (by omega) hl];simp [operOk,inB,jumpOp]
 ·unfold innerOk
  dsimp only;rw [a2,if_neg (by simp),if_neg (by simp),if_neg (by simp),if_neg (by simp),if_neg (by simp),if_neg (by simp),if_neg (by simp),if_neg (by simp),if_pos rfl,isOp_yes h1 (by omega) rfl,isOp_yes h0 (by omega) rfl];simp;omega
theorem fine_rule {ds:List DRule} (hd:descOk ds=true) (i:Nat) (hi:i<ds.length) (j:Nat) (hj:j<(ruleC ds[i] (startN ds i) (compN ds i).2).length):FineI (codeD ds) (entsD ds) (startN ds i+j) (startN ds i) (startN ds (i+1)):=by
 have hcode:=code_at i hi;have hfin:=startN_succ ds i hi;have hlen:startN ds (i+1)≤(codeD ds).length:=by rw [codeD_len];exact startN_mono ds hi
 have hent:∀ t,t<i→(compN ds i).2.getD t 0=(startN ds t:Int):=fun t ht=>(lay_code hd).ent i t ht (by omega)
 have hasc:=entsD_asc hd;have hkind:=(ruleFacts hd i hi).kind;obtain ⟨kl4,kl5,kl6,kl7,kl8,kl1,kl3⟩:=kids_len hd i hi;have hkd:=kd_lt hd i hi;have hK:=ruleKind hd i hi
 have hcall:∀ t,t<ds[i].kids.length→callI ds[i] (compN ds i).2 t=(9,(startN ds (kd ds[i] t):Int),0):=fun t ht=>by
  unfold callI;rw [hent _ (hkd t ht)]
 have k0:=kid0 hd i hi;generalize hs0:startN ds i=s at *;generalize hf0:startN ds (i+1)=f at *;generalize hes:(compN ds i).2=es at *;generalize hr0:ds[i]=r at *
 have CALL:∀ (t j:Nat),t<r.kids.length→(codeD ds)[s+j]?=some (9,(startN ds (kd r t):Int),0)→s+j+1<f→FineI (codeD ds) (entsD ds) (s+j) s f:=fun t j ht hx hp =>
  fine_call hx hlen hp (by rw [← hs0];exact startN_lt hd (hkd t ht) (by omega)) (by omega) (by
   unfold entsD;exact List.mem_map.2 ⟨kd r t,List.mem_range.2 (by have:=hkd t ht;omega),rfl⟩) hasc
 by_cases c1:r.kind=1
 ·have hbody:ruleC r (s:Int) es=[(1,r.size,if r.little then 1 else 0),(10,0,0)]:=by unfold ruleC bodyC;rw [if_pos c1];rfl
  rw [hbody] at hj hfin hcode;obtain ⟨z1,z4⟩:=kl1 c1;simp only [List.length_cons,List.length_nil] at hj hfin;rcases (by omega:j=0∨j=1) with rfl | rfl
  ·exact fine_plain (hcode 0 _ rfl) hlen (.inl (by omega)) (.inl rfl) (by unfold operOk;rw [if_pos rfl];cases r.little<;>simp [inB,z1,z4])
  ·exact fine_plain (hcode 1 _ rfl) hlen (.inr rfl) (by simp) (by decide)
 by_cases c2:r.kind=2
 ·have hbody:ruleC r (s:Int) es=(r.bytes.map fun b=>(2,(b.toNat:Int),0))++[(10,0,0)]:=by unfold ruleC bodyC;rw [if_neg c1,if_pos c2]
  rw [hbody] at hj hfin hcode;simp only [List.length_append,List.length_map,List.length_cons,List.length_nil] at hj hfin
  by_cases hjl:j<r.bytes.length
  ·have hx:=hcode j (2,(r.bytes[j].toNat:Int),0) (by rw [List.getElem?_append_left (by simpa using hjl),List.getElem?_map,List.getElem?_eq_getElem hjl];rfl)
   have:=r.bytes[j].toNat_lt;exact fine_plain hx hlen (.inl (by omega)) (by simp) (by unfold operOk;simp [inB];omega)
  ·have hx:=hcode j (10,0,0) (by rw [List.getElem?_append_right (by simpa using hjl)];simp [show j-r.bytes.length=0 by omega])
   exact fine_plain hx hlen (.inr rfl) (by simp) (by decide)
 by_cases c3:r.kind=3
 ·have hbody:ruleC r (s:Int) es=[(3,r.size,0),(10,0,0)]:=by unfold ruleC bodyC;rw [if_neg c1,if_neg c2,if_pos c3];rfl
  rw [hbody] at hj hfin hcode;obtain ⟨z1,z4⟩:=kl3 c3;simp only [List.length_cons,List.length_nil] at hj hfin;rcases (by omega:j=0∨j=1) with rfl | rfl
  ·exact fine_plain (hcode 0 _ rfl) hlen (.inl (by omega)) (by simp) (by unfold operOk;simp [inB];omega)
  ·exact fine_plain (hcode 1 _ rfl) hlen (.inr rfl) (by simp) (by decide)
 by_cases c4:r.kind=4
 ·have hbody:ruleC r (s:Int) es=[callI r es 0,(4,0,0),(10,0,0)]:=by
   unfold ruleC bodyC;rw [if_neg c1,if_neg c2,if_neg c3,if_pos c4];rfl
  rw [hbody] at hj hfin hcode;simp only [List.length_cons,List.length_nil] at hj hfin;have hl:=(kl4 c4).1;rcases (by omega:j=0∨j=1∨j=2) with rfl | rfl | rfl
  ·exact CALL 0 0 (by omega) (by rw [← hcall 0 (by omega)];exact hcode 0 _ rfl) (by omega)
  ·exact fine_plain (hcode 1 _ rfl) hlen (.inl (by omega)) (by simp) (by decide)
  ·exact fine_plain (hcode 2 _ rfl) hlen (.inr rfl) (by simp) (by decide)
 by_cases c5:r.kind=5
 ·have hbody:ruleC r (s:Int) es=[callI r es 0,(5,40,0),(6,0,0),(7,(s:Int)+6,0),callI r es 1,(8,(s:Int)+3,0),(10,0,0)]:=by
   unfold ruleC bodyC;rw [if_neg c1,if_neg c2,if_neg c3,if_neg c4,if_pos c5];rfl
  rw [hbody] at hj hfin hcode;simp only [List.length_cons,List.length_nil] at hj hfin;have hl:=(kl5 c5).1;have x4:=hcode 4 _ rfl;rw [hcall 1 (by omega)] at x4;obtain ⟨q1,q2,q3⟩:=fine_loop (cs:=codeD ds) (es:=entsD ds) (q:=s+2) (s:=s) (f:=f) (e:=startN ds (kd r 1)) (hcode 2 _ rfl) (by rw [show s+2+1=s+3 by omega,hcode 3 _ rfl];simp;omega) (by rw [show s+2+2=s+4 by omega];exact x4) (by rw [show s+2+3=s+5 by omega,hcode 5 _ rfl];simp;omega) (by omega) (by omega) hlen;rcases (by omega:j=0∨j=1∨j=2∨j=3∨j=4∨j=5∨j=6) with rfl | rfl | rfl | rfl | rfl | rfl | rfl
  ·exact CALL 0 0 (by omega) (by rw [← hcall 0 (by omega)];exact hcode 0 _ rfl) (by omega)
  ·exact fine_plain (hcode 1 _ rfl) hlen (.inl (by omega)) (by simp) (by decide)
  ·exact q1
  ·exact q2
  ·exact CALL 1 4 (by omega) x4 (by omega)
  ·exact q3
  ·exact fine_plain (hcode 6 _ rfl) hlen (.inr rfl) (by simp) (by decide)
 by_cases c6:r.kind=6
 ·have hbody:ruleC r (s:Int) es=(List.range r.kids.length).map (callI r es)++[(10,0,0)]:=by
   unfold ruleC bodyC;rw [if_neg c1,if_neg c2,if_neg c3,if_neg c4,if_neg c5,if_pos c6]
  rw [hbody] at hj hfin hcode;simp only [List.length_append,List.length_map,List.length_range,List.length_cons,List.length_nil] at hj hfin
  by_cases hjl:j<r.kids.length
  ·exact CALL j j hjl (by rw [← hcall j hjl];exact hcode j _ (by rw [List.getElem?_append_left (by simpa using hjl),List.getElem?_map,List.getElem?_range hjl];rfl)) (by omega)
  ·exact fine_plain (hcode j (10,0,0) (by rw [List.getElem?_append_right (by simpa using hjl)];simp [show j-r.kids.length=0 by omega])) hlen (.inr rfl) (by simp) (by decide)
 by_cases c7:r.kind=7
 ·have hbody:ruleC r (s:Int) es=choC r (s:Int) es++[(10,0,0)]:=by
   unfold ruleC bodyC;rw [if_neg c1,if_neg c2,if_neg c3,if_neg c4,if_neg c5,if_neg c6,if_pos c7]
  obtain ⟨hl7,ht7⟩:=kl7 c7
  have htl:1≤r.tags.length∧r.tags.length≤8:=by
   unfold kindOk at hK;rw [if_neg c1,if_neg c2,if_neg c3,if_neg c4,if_neg c5,if_neg c6,if_pos c7] at hK;unfold choOk at hK;simp only [Bool.and_eq_true,between_iff] at hK
   omega
  obtain ⟨w0,w1,w2,w3⟩:=choC_at r (s:Int) es htl.1
  have hclen:(choC r (s:Int) es++[(10,0,0)]).length=3*r.tags.length+2:=by
   have h1:=tagsC_len r (s:Int) r.tags.length;have h2:=(altsC_at r es r.tags.length (Nat.le_refl _)).1;rw [if_neg (by omega)] at h2;unfold choC;simp only [List.length_cons,List.length_append,List.length_nil,h1,h2]
   omega
  rw [hbody] at hj hfin hcode;rw [hclen] at hj hfin
  by_cases j0:j=0
  ·subst j0
   exact CALL 0 0 (by omega) (by rw [← hcall 0 (by omega)];exact hcode 0 _ w0) (by omega)
  by_cases j1:j<1+r.tags.length
  ·obtain ⟨t,rfl⟩:∃ t,j=1+t:=⟨j-1,by omega⟩
   have htl':t<r.tags.length:=by omega
   have hx:=hcode (1+t) _ (w1 t htl');rw [show (s:Int)+(r.tags.length:Int)+2+2*(t:Int)=((s+r.tags.length+2+2*t:Nat):Int) by omega] at hx;exact fine_tag hx (by rw [List.getD_eq_getElem?_getD,List.getElem?_eq_getElem htl'];exact (ht7 t htl').1) hlen (by omega) (by omega)
  by_cases j2:j=1+r.tags.length
  ·subst j2
   exact fine_plain (hcode _ _ w2) hlen (.inl (by omega)) (by simp) (by decide)
  obtain ⟨t,ht⟩:∃ t,j=r.tags.length+2+2*t∨j=r.tags.length+2+2*t+1:=⟨(j-(r.tags.length+2)) / 2,by omega⟩;have htl':t<r.tags.length:=by omega
  obtain ⟨y1,y2⟩:=w3 t htl';rcases ht with rfl | rfl
  ·exact CALL (t+1) _ (by omega) (by rw [← hcall (t+1) (by omega)];exact hcode _ _ y1) (by omega)
  ·exact fine_plain (hcode _ _ y2) hlen (.inr rfl) (by simp) (by decide)
 by_cases c8:r.kind=8
 ·have hbody:ruleC r (s:Int) es=[(13,(s:Int)+2,0),callI r es 0,(10,0,0)]:=by
   unfold ruleC bodyC;rw [if_neg c1,if_neg c2,if_neg c3,if_neg c4,if_neg c5,if_neg c6,if_neg c7,if_pos c8];rfl
  have hl:=kl8 (.inl c8);rw [hbody] at hj hfin hcode;simp only [List.length_cons,List.length_nil] at hj hfin;rcases (by omega:j=0∨j=1∨j=2) with rfl | rfl | rfl
  ·exact fine_flag (a:=s+2) (by rw [hcode 0 _ rfl];simp) hlen (by omega) (by omega)
  ·exact CALL 0 1 (by omega) (by rw [← hcall 0 (by omega)];exact hcode 1 _ rfl) (by omega)
  ·exact fine_plain (hcode 2 _ rfl) hlen (.inr rfl) (by simp) (by decide)
 by_cases c9:r.kind=9
 ·have hbody:ruleC r (s:Int) es=[(14,0,0),callI r es 0,(15,0,0),(10,0,0)]:=by
   unfold ruleC bodyC;rw [if_neg c1,if_neg c2,if_neg c3,if_neg c4,if_neg c5,if_neg c6,if_neg c7,if_neg c8,if_pos c9];rfl
  have hl:=kl8 (.inr c9);rw [hbody] at hj hfin hcode;simp only [List.length_cons,List.length_nil] at hj hfin;have x1:=hcode 1 _ rfl;rw [hcall 0 (by omega)] at x1;obtain ⟨q1,q2⟩:=fine_mark (cs:=codeD ds) (es:=entsD ds) (q:=s) (s:=s) (f:=f) (hcode 0 _ rfl) x1 (hcode 2 _ rfl) (by omega) (by omega) hlen;rcases (by omega:j=0∨j=1∨j=2∨j=3) with rfl | rfl | rfl | rfl
  ·exact q1
  ·exact CALL 0 1 (by omega) x1 (by omega)
  ·exact q2
  ·exact fine_plain (hcode 3 _ rfl) hlen (.inr rfl) (by simp) (by decide)
 ·have hbody:ruleC r (s:Int) es=[(16,((r.bytes.getD 0 0).toNat:Int),0),(10,0,0)]:=by
   unfold ruleC bodyC;rw [if_neg c1,if_neg c2,if_neg c3,if_neg c4,if_neg c5,if_neg c6,if_neg c7,if_neg c8,if_neg c9];rfl
  rw [hbody] at hj hfin hcode;simp only [List.length_cons,List.length_nil] at hj hfin
  have:=(r.bytes.getD 0 0).toNat_lt;rcases (by omega:j=0∨j=1) with rfl | rfl
  ·exact fine_plain (hcode 0 _ rfl) hlen (.inl (by omega)) (by simp) (by unfold operOk;simp only [inB];generalize r.bytes.getD 0 0=u at *;simp;have:=u.toNat_lt;omega)
  ·exact fine_plain (hcode 1 _ rfl) hlen (.inr rfl) (by simp) (by decide)
theorem block_of {ds:List DRule} (p:Nat) (h2:2≤p):∀ n,n≤ds.length→p<startN ds n→∃ i,∃ hi:i<ds.length,startN ds i≤p∧p<startN ds (i+1)∧p-startN ds i<(ruleC ds[i] (startN ds i) (compN ds i).2).length
 | 0,_,h=>by have:startN ds 0=2:=rfl;omega
 | n+1,hn,h=>by
  rcases Nat.lt_or_ge p (startN ds n) with h' | h'
  ·exact block_of p h2 n (by omega) h'
  ·refine ⟨n,by omega,h',h,?_⟩
   have:=startN_succ ds n (by omega);omega
theorem safe_code {ds:List DRule} (hd:descOk ds=true):safeOk (codeD ds) (entsD ds)=true:=by
 obtain ⟨h0,h24⟩:=descOk_len hd;have hlen:=codeD_len ds;have hle:=startN_le hd ds.length (Nat.le_refl _);have hel:(entsD ds).length=ds.length:=by unfold entsD;simp
 obtain ⟨x0,x1⟩:=code_0 (ds:=ds);have hr26:=ruleC_26 hd
 have hpos:4≤startN ds ds.length:=by
  have h1:=startN_lt hd (i:=0) (k:=ds.length) h0 (Nat.le_refl _);have h2:startN ds 1=_:=startN_succ ds 0 h0
  have h3:=(ruleC_26 hd 0 h0 (startN ds 0) (compN ds 0).2).2;have h4:=startN_mono ds (i:=1) (k:=ds.length) h0;have h5:startN ds 0=2:=rfl
  omega
 have hb2:=fun p (h2:2≤p) (hp:p<(codeD ds).length)=>block_of (ds:=ds) p h2 ds.length (Nat.le_refl _) (by omega)
 have hroot:startN ds (ds.length-1)<(codeD ds).length:=by rw [hlen];exact startN_lt hd (by omega) (Nat.le_refl _)
 unfold safeOk;rw [Bool.and_eq_true,Bool.and_eq_true,Bool.and_eq_true];refine ⟨⟨⟨?_,?_⟩,?_⟩,?_⟩
 ·unfold headOk
  have e0:isOp (codeD ds) 0 9=true:=isOp_yes (p:=0) (x:=(9,(startN ds (ds.length-1):Int),0)) x0 rfl rfl
  have e1:isOp (codeD ds) 1 17=true:=isOp_yes (p:=1) (x:=(17,0,0)) x1 rfl rfl
  have e2:insAt (codeD ds) 0=(9,(startN ds (ds.length-1):Int),0):=(insAt_get x0).1
  rw [e0,e1,e2,hel,entsD_get ds (by omega),entsD_get ds (by omega)];have e3:startN ds 0=2:=rfl
  rw [e3,hlen];simp
  exact ⟨by omega,fun h'=>by rw [h'] at h0;simp at h0⟩
 ·refine allFrom_of _ _ (fun k _ hk=>?_)
  rcases (by omega:k=0∨k=1∨2≤k) with rfl | rfl | hk2
  ·obtain ⟨a,b⟩:=insAt_get x0
   unfold insOk;rw [a,b,notLast (f:=(codeD ds).length) (by omega) (Nat.le_refl _)];simp only [inB_yes (x:=(startN ds (ds.length-1):Int)) (lo:=0) (hi:=((codeD ds).length:Int)-1) (by omega) (by omega)];simp [operOk,inB]
  ·obtain ⟨a,b⟩:=insAt_get x1
   unfold insOk;rw [a,b];simp [operOk,inB,jumpOp,stopOp]
  ·obtain ⟨i,hi,i1,i2,i3⟩:=hb2 k hk2 (by omega)
   have:=(fine_rule hd i hi (k-startN ds i) i3).1
   rwa [show startN ds i+(k-startN ds i)=k by omega] at this
 ·refine allFrom_of _ _ (fun i _ hi=>?_)
  unfold ascOk;rw [entsD_get ds (by omega),entsD_get ds (by omega)];have h1:=startN_lt hd (i:=i) (k:=i+1) (by omega) (by omega);have h2:=startN_lt hd (i:=i+1) (k:=ds.length) (by omega) (Nat.le_refl _);rw [hlen];simp;omega
 ·unfold blocksOk
  refine allFrom_of _ _ (fun i _ hi=>?_);rw [hel] at hi;have hi':i<ds.length:=by omega
  have hend:endOf (codeD ds) (entsD ds) i=(startN ds (i+1):Int):=by
   unfold endOf;rw [hel]
   split
   ·rw [entsD_get ds (by omega)]
   ·rw [hlen,show ds.length=i+1 by omega]
  have hlt:=startN_lt hd (i:=i) (k:=i+1) (by omega) (by omega);have hsu:=startN_succ ds i hi';have hl2:=ruleC_26 hd i hi' (startN ds i) (compN ds i).2
  have hlast:(codeD ds)[startN ds (i+1)-1]?=some (10,0,0):=by
   have:=code_at i hi' ((ruleC ds[i] (startN ds i) (compN ds i).2).length-1) (10,0,0) (by
    unfold ruleC;rw [List.length_append,List.getElem?_append_right (by simp)];simp)
   rwa [show startN ds i+((ruleC ds[i] (startN ds i) (compN ds i).2).length-1)=startN ds (i+1)-1 by omega] at this
  unfold blockOk;rw [hend,entsD_get ds hi',isOp_yes hlast (by omega) rfl,rowOk_of _ _ (fun k h1 h2=>?_)]
  ·simp;omega
  ·obtain ⟨p,rfl⟩:∃ p:Nat,k=(p:Int):=⟨k.toNat,by omega⟩
   have:=(fine_rule hd i hi' (p-startN ds i) (by omega)).2
   rwa [show startN ds i+(p-startN ds i)=p by omega] at this
theorem ents_mono {cs:List Ins} {es:List Int} (ha:∀ i,i<es.length-1→ascOk cs es i=true):∀ (d i:Nat),i+d+1<es.length→es.getD i 0<es.getD (i+d+1) 0
 | 0,i,h=>by
  have:=ha i (by omega);unfold ascOk at this;simp only [Bool.not_eq_true',Bool.or_eq_false_iff,decide_eq_false_iff_not] at this;rw [Nat.add_zero];omega
 | d+1,i,h=>by
  have h1:=ents_mono ha d i (by omega)
  have:=ha (i+d+1) (by omega);unfold ascOk at this;simp only [Bool.not_eq_true',Bool.or_eq_false_iff,decide_eq_false_iff_not] at this;rw [show i+(d+1)+1=i+d+1+1 by omega];omega
theorem need_le {cs:List Ins} {es:List Int} (h:safeOk cs es=true) (hel:es.length≤1000000):∀ k,k+2≤cs.length→∀ b,b<es.length→(needN cs es k).getD b 0≤2*(b:Int)
 | 0,hk,b,hb=>by
  rw [needN,List.getD_eq_getElem?_getD,List.getElem?_replicate]
  split<;>simp<;>omega
 | k+1,hk,b,hb=>by
  have ih:=need_le h hel k (by omega);have hlen:=needN_len cs es k;rw [needN,needS]
  split
  ·rename_i hop
   obtain ⟨hh,ha,hB⟩:=safe_parts h;obtain ⟨h0,h2,_,_⟩:=head_facts hh;obtain ⟨_,h22⟩:=entIn_of hh hel ha;obtain ⟨b0,hb0,e0,lo0,hi0⟩:=blockOf_at (x:=(k:Int)+2) h0 h2 (by omega);have hBb:=hB b0 hb0;unfold blockOk at hBb;rw [Bool.and_eq_true] at hBb
   have hend:(k:Int)+2<endOf cs es b0:=by
    unfold endOf
    split
    ·rename_i h';exact hi0 (b0+1) (by omega) h'
    ·omega
   have hI:=rowOk_at hBb.2 ((k:Int)+2) lo0 (by omega);unfold innerOk at hI;rw [if_neg (by omega),if_pos hop] at hI;have hlt:=callOk_lt hI;obtain ⟨j,hj,hje⟩:=List.getElem_of_mem (callOk_mem hI);have ha2:=h22 j hj;rw [hje] at ha2;generalize (insAt cs ((k:Int)+2)).2.1=a at *;obtain ⟨t,ht,et,lot,hit⟩:=blockOf_at (x:=a) h0 h2 ha2
   have htb:t<b0:=by
    rcases Nat.lt_or_ge t b0 with h' | h'
    ·exact h'
    ·exfalso
     rcases Nat.eq_or_lt_of_le h' with h'' | h''
     ·rw [h''] at hlt;omega
     ·have:=ents_mono ha (t-b0-1) b0 (by omega)
      rw [show b0+(t-b0-1)+1=t by omega] at this;omega
   rw [e0,et,Int.toNat_natCast,Int.toNat_natCast];have i0:=ih b0 hb0;have it:=ih t ht;have ib:=ih b hb;rw [List.getD_eq_getElem?_getD,List.getElem?_set]
   split
   ·rename_i hbb
    subst hbb;rw [if_pos (by omega)];simp only [Option.getD_some];rw [Int.max_def]
    split<;>split<;>omega
   ·rw [← List.getD_eq_getElem?_getD];exact ib
  ·exact ih b hb
theorem fits_code {ds:List DRule} (hd:descOk ds=true):fitsOk (codeD ds) (entsD ds)=true:=by
 have hs:=safe_code hd;obtain ⟨h0,h24⟩:=descOk_len hd;have hel:(entsD ds).length=ds.length:=by unfold entsD;simp
 have hhead:=(head_facts (safe_parts hs).1).2.2.1
 have:=need_le hs (by omega) ((codeD ds).length-2) (by omega) (ds.length-1) (by omega);unfold fitsOk stackN;rw [hs,if_pos rfl,hel,Bool.true_and,decide_eq_true_eq];omega
theorem run_desc {ds:List DRule} (b:List UInt8) (hb:b.length≤400):finO (advF (fitsOk (compD ds).1 (compD ds).2) (compD ds).1 (feedL (fitsOk (compD ds).1 (compD ds).2) (compD ds).1 machZ b))=((readFile ds b).code:Int):=by
 by_cases hd:descOk ds=true
 ·rw [compD_eq hd (descOk_len hd).1,fits_code hd]
  exact run_file hd b hb
 ·have he:compD ds=([],[]):=by unfold compD;rw [if_neg hd]
  have hf:fitsOk [] []=false:=by decide
  have hr:readFile ds b=.bad 0 8:=by unfold readFile;rw [if_neg (fun h=>hd h.1)]
  rw [he,hr,hf]
  have h1:∀ l:List UInt8,∀ m:Mach,m.state=2∧m.code=8→finO (advF false [] (feedL false [] m l))=8:=by
   intro l
   induction l with
   | nil =>
    intro m hm;show finO (advF false [] m)=8
    have h3:advF false [] m=m:=by unfold advF;rw [if_neg (by omega)]
    rw [h3];unfold finO;rw [if_neg (by omega),if_neg (by omega)];exact hm.2
   | cons x t ih =>
    intro m hm
    have:feedF false [] m (x.toNat:Int)=m:=by
     have h3:advF false [] m=m:=by unfold advF;rw [if_neg (by omega)]
     unfold feedF;rw [h3];unfold feedO;rw [if_neg (by omega),if_neg (by omega)]
    show finO (advF false [] (feedL false [] (feedF false [] m x.toNat) t))=8
    rw [this];exact ih m hm
  cases b with
  | nil=>rfl
  | cons x t =>
   exact h1 t (feedF false [] machZ (x.toNat:Int)) ⟨rfl,rfl⟩
end Go.Proofs.YtpmcofmdjckijaaGreat
