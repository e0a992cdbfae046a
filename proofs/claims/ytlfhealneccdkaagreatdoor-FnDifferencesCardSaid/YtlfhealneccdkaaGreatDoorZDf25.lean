/- Texts, laid into one. -/
import Derived.Test.YtlfhealneccdkaaGreatDoorZDf23
import Derived.Test.YtlfhealneccdkaaGreatDoorZDf19
set_option linter.unusedVariables false
set_option linter.unusedSimpArgs false
set_option maxRecDepth 100000
set_option maxHeartbeats 16000000
namespace Go.Proofs.YtlfhealneccdkaaGreatDoor
open Go.RowKit Go.Sort
theorem stepR5 {r:DRule} (h:r.kind=5) (j:Nat):stepR r j=itoaB j:=by unfold stepR;rw [if_pos h]
theorem stepR6 {r:DRule} (h:r.kind=6) (j:Nat) (hj:j<r.names.length):stepR r j=r.names[j]:=by unfold stepR;rw [if_neg (by omega),if_pos h];simp [hj]
theorem stepR7 {r:DRule} (h:r.kind=7) (j:Nat):stepR r j=⟨#[42]⟩:=by unfold stepR;rw [if_neg (by omega),if_neg (by omega),if_pos h]
theorem stepR8 {r:DRule} (h:r.kind=8) (j:Nat):stepR r j=⟨#[63]⟩:=by unfold stepR;rw [if_neg (by omega),if_neg (by omega),if_neg (by omega),if_pos h]
theorem stepR9 {r:DRule} (h:r.kind=9) (j:Nat):stepR r j=⟨#[43]⟩:=by unfold stepR;rw [if_neg (by omega),if_neg (by omega),if_neg (by omega),if_neg (by omega)]
theorem stepR_size {ds:List DRule} (hok:descOk ds=true) (i:Nat) (hi:i<ds.length) {n:Int} {j:Nat} (h:ItemAt ds[i] n j) (hj:j≤9223372036854775807):(stepR ds[i] j).size≤20:=by
 rcases h with ⟨hk,_⟩ | ⟨hk,_,hn⟩ | ⟨hk,_,_,_⟩ | ⟨hk | hk,_,_⟩
 ·rw [stepR5 hk];exact itoa_size _ (by omega) (by omega)
 ·rw [stepR6 hk j hn];have:=((kids_len hok i hi).2.2.1 hk).2 _ (List.getElem_mem hn);omega
 ·rw [stepR7 hk];show (1:Nat)≤20;omega
 ·rw [stepR8 hk];show (1:Nat)≤20;omega
 ·rw [stepR9 hk];show (1:Nat)≤20;omega
theorem sStepV_c (r:DRule) (Ab:Option Addr) (cb:Nat) (An:Option Addr) (cn:Nat) (At:Option Addr) (ct:Nat) (Ak:Option Addr) (ck:Nat) (n:Int) (j:Nat) (w:World) (h:RdS w r Ab cb An cn At ct Ak ck) (hj:j≤9223372036854775807) (hat:ItemAt r n j) :
 Gives Tryz.prog 53 #[vrule r (.slice Ab r.bytes.length cb) (.slice An r.names.length cn) (.slice At r.tags.length ct) (.slice Ak r.kids.length ck),.int .i64 (j:Int)] w (.string (stepR r j)):=by
 have hln:=h.n.len;have eb:=Ext_alloc (.cells #[.string r.nm,.int .i64 r.kind,.int .i64 r.size,.bool r.little,.slice Ab r.bytes.length cb,.slice An r.names.length cn,.slice At r.tags.length ct,.slice Ak r.kids.length ck] 67) (Ext.refl w);rcases hat with ⟨hk,_⟩ | ⟨hk,_,hl⟩ | ⟨hk,rfl,_,_⟩ | ⟨hk | hk,rfl,_⟩
 ·rw [stepR5 hk]
  have q5:(r.kind==5)=true:=by rw [hk];rfl
  have C:=lhd (fun w=>sFormatInt_c (j:Int) w (by omega) (by omega));clear hk h;generalize itoaB (j:Int)=t at *;unfold vrule;go_enter Tryz.func53,Tryz.ntmps53;go_wp2_with fail;refine (C.out _).mono ?_;rintro _ w1 ⟨rfl,he1⟩;go_wp2;go_ret;exact ⟨rfl,eb.trans he1⟩
 ·rw [stepR6 hk j hl]
  obtain ⟨bn,on,rfl,hbn,hcn⟩:=h.n.at j hl;have q5:(r.kind==5)=false:=by rw [hk];rfl
  have q6:(r.kind==6)=true:=by rw [hk];rfl
  have d1:decide ((j:Int)<(r.names.length:Int))=true:=decide_eq_true (by omega)
  have hl2:(j:Int)<(r.names.length:Int):=by omega
  generalize r.names[j]=t at *;clear hk h;unfold vrule;go_enter Tryz.func53,Tryz.ntmps53;go_wp2;go_ret;exact ⟨rfl,eb⟩
 ·rw [stepR7 hk]
  have q5:(r.kind==5)=false:=by rw [hk];rfl
  have q6:(r.kind==6)=false:=by rw [hk];rfl
  have q7:(r.kind==7)=true:=by rw [hk];rfl
  clear hk h;unfold vrule;go_enter Tryz.func53,Tryz.ntmps53;go_wp2;go_ret;exact ⟨rfl,eb⟩
 ·rw [stepR8 hk]
  have q5:(r.kind==5)=false:=by rw [hk];rfl
  have q6:(r.kind==6)=false:=by rw [hk];rfl
  have q7:(r.kind==7)=false:=by rw [hk];rfl
  have q8:(r.kind==8)=true:=by rw [hk];rfl
  clear hk h;unfold vrule;go_enter Tryz.func53,Tryz.ntmps53;go_wp2;go_ret;exact ⟨rfl,eb⟩
 ·rw [stepR9 hk]
  have q5:(r.kind==5)=false:=by rw [hk];rfl
  have q6:(r.kind==6)=false:=by rw [hk];rfl
  have q7:(r.kind==7)=false:=by rw [hk];rfl
  have q8:(r.kind==8)=false:=by rw [hk];rfl
  have q9:(r.kind==9)=true:=by rw [hk];rfl
  clear hk h;unfold vrule;go_enter Tryz.func53,Tryz.ntmps53;go_wp2;go_ret;exact ⟨rfl,eb⟩
end Go.Proofs.YtlfhealneccdkaaGreatDoor
namespace Go.Proofs.YtlfhealneccdkaaGreatDoor
noncomputable def followV (r:DRule) (m:Nat) (s:ByteArray):Option Nat:=(List.range m).find? fun k=>decide (stepR r k=s∧0<s.size)
theorem follow_some {r:DRule} {m k:Nat} {s:ByteArray} (h:followV r m s=some k):k<m∧stepR r k=s∧0<s.size:=by
 unfold followV at h;have h1:=List.find?_some h;have h2:=List.mem_of_find?_eq_some h;rw [List.mem_range] at h2;simp only [decide_eq_true_eq] at h1;exact ⟨h2,h1⟩
theorem follow_step {r:DRule} {m k:Nat} (hk:k<m) (h0:0<(stepR r k).size) (inj:∀ j,j<m→stepR r j=stepR r k→j=k):followV r m (stepR r k)=some k:=by
 cases h:followV r m (stepR r k) with
 | none =>
  unfold followV at h;rw [List.find?_eq_none] at h
  have:=h k (List.mem_range.2 hk);simp [h0] at this
 | some j =>
  obtain ⟨h1,h2,_⟩:=follow_some h;rw [inj j h1 h2]
noncomputable def findV (ds:List DRule):Nat→DVal→List ByteArray→Option (Nat × DVal)
 | i,v,[]=>some (i,v)
 | i,v,s::t=>(followV (ds.getD i noRule) v.items.length s).bind fun k=>(v.items[k]?).bind fun x=>findV ds (kidV (ds.getD i noRule) v.num k) x t
def DVal.setItem (v:DVal) (k:Nat) (x:DVal):DVal:=.mk v.num v.bytes (v.items.set k x)
noncomputable def replV (ds:List DRule):Nat→DVal→List ByteArray→DVal→Option DVal
 | i,_,[],x=>if validV ds i x=true then some x else none
 | i,v,s::t,x=>(followV (ds.getD i noRule) v.items.length s).bind fun k=>(v.items[k]?).bind fun y=>(replV ds (kidV (ds.getD i noRule) v.num k) y t x).map fun z=>v.setItem k z
theorem findV_cons {ds:List DRule} {i:Nat} {v:DVal} {s:ByteArray} {t:List ByteArray} {k:Nat} (h:followV (ds.getD i noRule) v.items.length s=some k) (hk:k<v.items.length):findV ds i v (s::t)=findV ds (kidV (ds.getD i noRule) v.num k) v.items[k] t:=by
 rw [findV,h,Option.bind_some,List.getElem?_eq_getElem hk,Option.bind_some]
theorem replV_cons {ds:List DRule} {i:Nat} {v:DVal} {s:ByteArray} {t:List ByteArray} {x:DVal} {k:Nat} (h:followV (ds.getD i noRule) v.items.length s=some k) (hk:k<v.items.length):replV ds i v (s::t) x=(replV ds (kidV (ds.getD i noRule) v.num k) v.items[k] t x).map fun z=>v.setItem k z:=by
 rw [replV,h,Option.bind_some,List.getElem?_eq_getElem hk,Option.bind_some]
theorem validV_set {ds:List DRule} {i:Nat} {v x:DVal} {k:Nat} (h:validV ds i v=true) (hk:k<v.items.length) (hx:validV ds (kidV (ds.getD i noRule) v.num k) x=true):validV ds i (v.setItem k x)=true:=by
 have hi:=validV_lt h;have hg:ds.getD i noRule=ds[i]:=by simp [hi]
 rw [hg] at hx;refine validV_yes (hi:=hi) ?_ ?_
 ·have:=validV_fits h
  simpa [DVal.setItem,DVal.num,DVal.bytes,DVal.items] using this
 ·intro j hj
  have hj':j<v.items.length:=by simpa [DVal.setItem,DVal.items] using hj
  have hn:(v.setItem k x).num=v.num:=rfl
  have hit:(v.setItem k x).items=v.items.set k x:=rfl
  simp only [hn,hit];rw [List.getElem_set]
  split
  ·rename_i e;subst e;exact hx
  ·exact validV_item h j hj'
theorem replV_ok (ds:List DRule):∀ (ss:List ByteArray) (i:Nat) (v x w:DVal),validV ds i v=true→replV ds i v ss x=some w →
 validV ds i w=true∧∃ r y,findV ds i v ss=some (r,y)∧validV ds r y=true∧validV ds r x=true∧findV ds i w ss=some (r,x)∧replV ds i w ss y=some v
 | [],i,v,x,w,hv,h=>by
  rw [replV] at h
  split at h
  ·rename_i hx
   obtain rfl:=Option.some.inj h
   exact ⟨hx,i,v,rfl,hv,hx,rfl,by rw [replV,if_pos hv]⟩
  ·cases h
 | s::t,i,v,x,w,hv,h=>by
  have hi:=validV_lt hv;have hg:ds.getD i noRule=ds[i]:=by simp [hi]
  cases hf:followV (ds.getD i noRule) v.items.length s with
  | none=>rw [replV,hf] at h;cases h
  | some k =>
   obtain ⟨hk,hs,_⟩:=follow_some hf;rw [replV_cons hf hk] at h;cases hr:replV ds (kidV (ds.getD i noRule) v.num k) v.items[k] t x with
   | none=>rw [hr] at h;cases h
   | some z =>
    rw [hr] at h;obtain rfl:=Option.some.inj h
    have hvk:validV ds (kidV (ds.getD i noRule) v.num k) v.items[k]=true:=by rw [hg];exact validV_item hv k hk
    obtain ⟨h1,r,y,h2,h3,h4,h5,h6⟩:=replV_ok ds t _ _ _ _ hvk hr;have hn:(v.setItem k z).num=v.num:=rfl
    have hit:(v.setItem k z).items=v.items.set k z:=rfl
    have hf':followV (ds.getD i noRule) (v.setItem k z).items.length s=some k:=by rw [hit,List.length_set];exact hf
    have hk':k<(v.setItem k z).items.length:=by rw [hit,List.length_set];exact hk
    have hge:(v.setItem k z).items[k]=z:=by simp [hit]
    refine ⟨validV_set hv hk h1,r,y,by rw [findV_cons hf hk];exact h2,h3,h4,?_,?_⟩
    ·rw [findV_cons hf' hk',hn,hge];exact h5
    ·rw [replV_cons hf' hk',hn,hge,h6]
     simp [DVal.setItem,DVal.num,DVal.bytes,DVal.items,List.set_set]
     exact v.eta
noncomputable def applyS (ds:List DRule) (i:Nat):DVal→List (List ByteArray × DVal)→Option DVal
 | v,[]=>some v
 | v,c::t=>(replV ds i v c.1 c.2).bind fun w=>applyS ds i w t
theorem applyS_append (ds:List DRule) (i:Nat):∀ (a b:List (List ByteArray × DVal)) (v:DVal),applyS ds i v (a++b)=(applyS ds i v a).bind fun w=>applyS ds i w b
 | [],b,v=>by rw [List.nil_append,applyS,Option.bind_some]
 | c::t,b,v=>by
  rw [List.cons_append,applyS,applyS,Option.bind_assoc]
  congr 1;funext w;exact applyS_append ds i t b w
noncomputable def invS (ds:List DRule) (i:Nat):DVal→List (List ByteArray × DVal)→List (List ByteArray × DVal)
 | _,[]=>[]
 | v,c::t=>match findV ds i v c.1,replV ds i v c.1 c.2 with
  | some (_,y),some w=>invS ds i w t++[(c.1,y)]
  | _,_=>[]
theorem invS_back {ds:List DRule} {i:Nat}:∀ {cs:List (List ByteArray × DVal)} {v w:DVal},validV ds i v=true→applyS ds i v cs=some w→applyS ds i w (invS ds i v cs)=some v∧(invS ds i v cs).length=cs.length
 | [],v,w,hv,h=>by rw [applyS] at h;obtain rfl:=Option.some.inj h;exact ⟨by rw [invS,applyS],rfl⟩
 | c::t,v,w,hv,h=>by
  rw [applyS,Option.bind_eq_some_iff] at h;obtain ⟨u,h1,h2⟩:=h;obtain ⟨hu,r,y,f1,f2,f3,f4,f5⟩:=replV_ok ds _ _ _ _ _ hv h1;obtain ⟨b1,b2⟩:=invS_back hu h2;have e:invS ds i v (c::t)=invS ds i u t++[(c.1,y)]:=by rw [invS,f1,h1]
  rw [e];refine ⟨?_,by simp [b2]⟩;rw [applyS_append,b1,Option.bind_some,applyS];simp only
  rw [f5,Option.bind_some,applyS]
def stepIn (s:ByteArray) (c:List ByteArray × DVal):List ByteArray × DVal:=(s::c.1,c.2)
mutual
noncomputable def diffS (ds:List DRule):Nat→DVal→DVal→List (List ByteArray × DVal)
 | i,.mk n b its,v=>if eqV (.mk n b its) v then [] else if alikeV (.mk n b its) v then diffSs ds (ds.getD i noRule) n 0 its v.items else [([],v)]
noncomputable def diffSs (ds:List DRule) (r:DRule) (n:Int):Nat→List DVal→List DVal→List (List ByteArray × DVal)
 | _,[],_=>[]
 | _,_::_,[]=>[]
 | k,x::t,y::u=>(diffS ds (kidV r n k) x y).map (stepIn (stepR r k))++diffSs ds r n (k+1) t u
end
theorem diffS_same (ds:List DRule) (i:Nat) (a:DVal):diffS ds i a a=[]:=by cases a;rw [diffS,if_pos (eqV_refl _)]
theorem diffS_whole {ds:List DRule} {i:Nat} {a b:DVal} (h:eqV a b=false) (h2:alikeV a b=false):diffS ds i a b=[([],b)]:=by
 cases a;rw [diffS,h,if_neg (by simp),h2,if_neg (by simp)]
theorem diffS_items {ds:List DRule} {i:Nat} (hi:i<ds.length) {a b:DVal} (h:eqV a b=false) (h2:alikeV a b=true):diffS ds i a b=diffSs ds ds[i] a.num 0 a.items b.items:=by
 have hg:ds.getD i noRule=ds[i]:=by simp [hi]
 cases a;rw [diffS,h,if_neg (by simp),h2,if_pos rfl,hg];rfl
def joinB (ss:List ByteArray):ByteArray:=ss.foldr (fun s t=>⟨#[47]⟩++s++t) ⟨#[]⟩
theorem joinB_nil:joinB []=⟨#[]⟩:=rfl
theorem joinB_cons (s:ByteArray) (t:List ByteArray):joinB (s::t)=⟨#[47]⟩++s++joinB t:=rfl
theorem BA_assoc (a b c:ByteArray):a++b++c=a++(b++c):=ByteArray.append_assoc
theorem BA_nil (a:ByteArray):a++(⟨#[]⟩:ByteArray)=a:=ByteArray.append_empty
theorem BA_nil' (a:ByteArray):(⟨#[]⟩:ByteArray)++a=a:=ByteArray.empty_append
mutual
theorem diffV_join (ds:List DRule):∀ (i:Nat) (a b:DVal) (p:ByteArray),diffV ds i a b p=(diffS ds i a b).map fun c=>(p++joinB c.1,c.2)
 | i,.mk n bs its,v,p=>by
  rw [diffV,diffS]
  split
  ·rfl
  ·split
   ·exact diffVs_join ds (ds.getD i noRule) n 0 its v.items p
   ·simp [joinB_nil,BA_nil]
theorem diffVs_join (ds:List DRule) (r:DRule) (n:Int):∀ (k:Nat) (l m:List DVal) (p:ByteArray),diffVs ds r n k l m p=(diffSs ds r n k l m).map fun c=>(p++joinB c.1,c.2)
 | _,[],_,_=>by rw [diffVs,diffSs];rfl
 | _,_::_,[],_=>by rw [diffVs,diffSs];rfl
 | k,x::t,y::u,p=>by
  rw [diffVs,diffSs,List.map_append,diffVs_join ds r n (k+1) t u p,diffV_join ds (kidV r n k) x y (under p r k),List.map_map]
  congr 1
  apply List.map_congr_left
  intro c _;show (under p r k++joinB c.1,c.2)=(p++joinB (stepR r k::c.1),c.2)
  rw [joinB_cons];unfold under;simp only [BA_assoc]
end
theorem diffSs_snoc (ds:List DRule) (r:DRule) (n:Int):∀ (l m:List DVal) (k:Nat) (x y:DVal),l.length=m.length→diffSs ds r n k (l++[x]) (m++[y])=diffSs ds r n k l m++(diffS ds (kidV r n (k+l.length)) x y).map (stepIn (stepR r (k+l.length)))
 | [],[],k,x,y,_=>by
  show diffSs ds r n k [x] [y]=_
  rw [diffSs,diffSs,diffSs];simp
 | [],_::_,_,_,_,h=>by simp at h
 | _::_,[],_,_,_,h=>by simp at h
 | a::l,b::m,k,x,y,h=>by
  show diffSs ds r n k (a::(l++[x])) (b::(m++[y]))=_
  rw [diffSs,diffSs,diffSs_snoc ds r n l m (k+1) x y (by simpa using h),List.append_assoc,List.length_cons,show k+1+l.length=k+(l.length+1) by omega]
theorem diffSs_take (ds:List DRule) (r:DRule) (n:Int) (l m:List DVal) (k:Nat) (h1:k<l.length) (h2:k<m.length):diffSs ds r n 0 (l.take (k+1)) (m.take (k+1))=diffSs ds r n 0 (l.take k) (m.take k)++(diffS ds (kidV r n k) l[k] m[k]).map (stepIn (stepR r k)):=by
 rw [List.take_succ_eq_append_getElem h1,List.take_succ_eq_append_getElem h2,diffSs_snoc _ _ _ _ _ _ _ _ (by rw [List.length_take,List.length_take];omega)];rw [List.length_take,Nat.min_eq_left (by omega),Nat.zero_add]
theorem num_item:∀ n,n<40→numOf (itoaB (n:Nat))=n∧0<(itoaB (n:Nat)).size:=by decide +kernel
theorem nm_facts {l:List ByteArray} (hn:allN l.length (nameOk l)=true) (k:Nat) (hk:k<l.length):isName l[k]=true∧∀ j (hj:j<l.length),l[j]=l[k]→j=k:=by
 have h1:=allN_at hn hk
 have key:∀ j k (hj:j<l.length) (hk:k<l.length),l[j]=l[k]→¬ j<k:=by
  intro j k hj hk he hlt;have h2:=allN_at hn hk;unfold nameOk at h2;rw [List.getElem?_eq_getElem hk] at h2;simp only [Bool.and_eq_true,Bool.not_eq_true'] at h2;have h3:hasNm (l.take k) l[k]=true:=hasNm_at (k:=j) (by rw [List.length_take];omega) (by rw [List.getElem_take,he];simp)
  rw [h2.2] at h3;cases h3
 refine ⟨?_,fun j hj he=>?_⟩
 ·unfold nameOk at h1
  rw [List.getElem?_eq_getElem hk] at h1;simp only [Bool.and_eq_true] at h1;exact h1.1
 ·have:=key j k hj hk he;have:=key k j hk hj he.symm;omega
theorem seq_names {ds:List DRule} (h:descOk ds=true) (i:Nat) (hi:i<ds.length) (h6:ds[i].kind=6):allN ds[i].names.length (nameOk ds[i].names)=true:=by
 have hk:=ruleKind h i hi;unfold kindOk at hk;rw [if_neg (by omega),if_neg (by omega),if_neg (by omega),if_neg (by omega),if_neg (by omega),if_pos h6] at hk;unfold seqOk at hk;simp only [Bool.and_eq_true] at hk;exact hk.2
theorem step_facts {ds:List DRule} (h:descOk ds=true) (i:Nat) (hi:i<ds.length) {n:Int} {bl m k:Nat} (ho:ownV ds ds[i] n bl m=true) (hk:k<m) :
 0<(stepR ds[i] k).size∧(∀ j,j<m→stepR ds[i] j=stepR ds[i] k→j=k)∧((ds[i].kind=5∧stepR ds[i] k=itoaB (k:Nat)∧k<40)∨isName (stepR ds[i] k)=true∨stepR ds[i] k=⟨#[42]⟩∨stepR ds[i] k=⟨#[63]⟩∨stepR ds[i] k=⟨#[43]⟩):=by
 obtain ⟨_,hc⟩:=own_item h i hi ho hk;rcases hc with ⟨e,c1⟩ | ⟨e,c1,c2⟩ | ⟨e,c1,c2,c3⟩ | ⟨e,c1,c2⟩
 ·have hm:m≤40:=by
   unfold ownV at ho;rw [if_neg (by omega),if_neg (by omega),if_neg (by omega),if_neg (by omega),if_pos e] at ho;simp only [Bool.and_eq_true,decide_eq_true_eq] at ho
   omega
  have hs:∀ j,stepR ds[i] j=itoaB (j:Nat):=fun j=>by unfold stepR;rw [if_pos e]
  refine ⟨by rw [hs];exact (num_item k (by omega)).2,fun j hj he=>?_,.inl ⟨e,hs k,by omega⟩⟩;rw [hs,hs] at he;have h1:=(num_item k (by omega)).1;have h2:=(num_item j (by omega)).1;rw [he,h1] at h2;exact h2.symm
 ·have hm:m=ds[i].kids.length:=by
   unfold ownV at ho;rw [if_neg (by omega),if_neg (by omega),if_neg (by omega),if_neg (by omega),if_neg (by omega),if_pos e] at ho;simp only [Bool.and_eq_true,beq_iff_eq] at ho;exact ho.2
  have hl:=((kids_len h i hi).2.2.1 e).1;have hnm:=seq_names h i hi e;have hs:∀ j (hj:j<ds[i].names.length),stepR ds[i] j=ds[i].names[j]:=fun j hj=>by unfold stepR;rw [if_neg (by omega),if_pos e];simp [hj]
  obtain ⟨f1,f2⟩:=nm_facts hnm k (by omega);refine ⟨?_,fun j hj he=>?_,.inr (.inl (by rw [hs k (by omega)];exact f1))⟩
  ·rw [hs k (by omega)]
   unfold isName at f1;simp only [Bool.and_eq_true,decide_eq_true_eq] at f1
   omega
  ·rw [hs k (by omega),hs j (by omega)] at he
   exact f2 j (by omega) he
 ·have hm:m=1:=by
   unfold ownV at ho;rw [if_neg (by omega),if_neg (by omega),if_neg (by omega),if_neg (by omega),if_neg (by omega),if_neg (by omega),if_pos e] at ho;simp only [Bool.and_eq_true,beq_iff_eq] at ho;exact ho.2
  have hs:stepR ds[i] k=⟨#[42]⟩:=by unfold stepR;rw [if_neg (by omega),if_neg (by omega),if_pos e]
  exact ⟨by rw [hs];decide,fun j hj he=>by omega,.inr (.inr (.inl hs))⟩
 ·have hm:m≤1:=by
   unfold ownV at ho;rw [if_neg (by omega),if_neg (by omega),if_neg (by omega),if_neg (by omega),if_neg (by omega),if_neg (by omega),if_neg (by omega)] at ho;rcases e with e | e
   ·rw [if_pos e] at ho
    simp only [Bool.and_eq_true,decide_eq_true_eq] at ho
    omega
   ·rw [if_neg (by omega),if_pos e] at ho
    simp only [Bool.and_eq_true,beq_iff_eq] at ho
    omega
  rcases e with e | e
  ·have hs:stepR ds[i] k=⟨#[63]⟩:=by unfold stepR;rw [if_neg (by omega),if_neg (by omega),if_neg (by omega),if_pos e]
   exact ⟨by rw [hs];decide,fun j hj he=>by omega,.inr (.inr (.inr (.inl hs)))⟩
  ·have hs:stepR ds[i] k=⟨#[43]⟩:=by unfold stepR;rw [if_neg (by omega),if_neg (by omega),if_neg (by omega),if_neg (by omega)]
   exact ⟨by rw [hs];decide,fun j hj he=>by omega,.inr (.inr (.inr (.inr hs)))⟩
theorem follow_at {ds:List DRule} (h:descOk ds=true) (i:Nat) (hi:i<ds.length) {n:Int} {bl m k:Nat} (ho:ownV ds ds[i] n bl m=true) (hk:k<m):followV ds[i] m (stepR ds[i] k)=some k:=by
 obtain ⟨h1,h2,_⟩:=step_facts h i hi ho hk;exact follow_step hk h1 h2
theorem setItem_self (v:DVal) (k:Nat) (hk:k<v.items.length):v.setItem k v.items[k]=v:=by
 unfold DVal.setItem;rw [List.set_getElem_self];exact v.eta
theorem applyS_lift {ds:List DRule} {i:Nat} (hi:i<ds.length) {s:ByteArray} {k:Nat}:∀ (cs:List (List ByteArray × DVal)) (v:DVal) (_:followV ds[i] v.items.length s=some k) (hk:k<v.items.length),
 applyS ds i v (cs.map (stepIn s))=(applyS ds (kidV ds[i] v.num k) v.items[k] cs).map fun z=>v.setItem k z
 | [],v,_,hk=>by
  rw [List.map_nil,applyS,applyS,Option.map_some,setItem_self v k hk]
 | c::t,v,hf,hk=>by
  have hg:ds.getD i noRule=ds[i]:=by simp [hi]
  have hf':=hf;rw [← hg] at hf';rw [List.map_cons,applyS,applyS];show ((replV ds i v (s::c.1) c.2).bind _)=_
  rw [replV_cons hf' hk,hg];cases hr:replV ds (kidV ds[i] v.num k) v.items[k] c.1 c.2 with
  | none=>rfl
  | some z =>
   have hit:(v.setItem k z).items=v.items.set k z:=rfl
   rw [Option.map_some,Option.bind_some,Option.bind_some,applyS_lift hi t (v.setItem k z) (by rw [hit,List.length_set];exact hf) (by rw [hit,List.length_set];exact hk)];have hge:(v.setItem k z).items[k]'(by rw [hit,List.length_set];exact hk)=z:=by simp [hit]
   rw [hge]
   congr 1
   funext y
   simp [DVal.setItem,DVal.num,DVal.bytes,DVal.items,List.set_set]
theorem apply_diff {ds:List DRule} (hd:descOk ds=true):∀ (a:DVal) (i:Nat) (b:DVal),validV ds i a=true→validV ds i b=true→applyS ds i a (diffS ds i a b)=some b:=by
 intro a
 induction a using DVal.ind with
 | h a ih =>
  intro i b ha hb;have hi:=validV_lt ha;cases he:eqV a b
  ·cases h2:alikeV a b
   ·rw [diffS_whole he h2,applyS,replV,if_pos hb,Option.bind_some,applyS]
   ·rw [diffS_items hi he h2]
    unfold alikeV at h2;simp only [Bool.and_eq_true,beq_iff_eq] at h2;obtain ⟨⟨⟨e1,e2⟩,e3⟩,_⟩:=h2;have hoa:=validV_fits ha
    have key:∀ k,k≤a.items.length→applyS ds i a (diffSs ds ds[i] a.num 0 (a.items.take k) (b.items.take k))=some (.mk a.num a.bytes (b.items.take k++a.items.drop k)):=by
     intro k
     induction k with
     | zero=>intro _;rw [List.take_zero,diffSs,applyS];simp only [List.take_zero,List.nil_append,List.drop_zero];rw [a.eta]
     | succ k ihk =>
      intro hk;have hlb:(b.items.take k++a.items.drop k).length=a.items.length:=by rw [List.length_append,List.length_take,List.length_drop];omega
      rw [diffSs_take _ _ _ _ _ _ (by omega) (by omega),applyS_append,ihk (by omega),Option.bind_some]
      have hf:followV ds[i] (DVal.mk a.num a.bytes (b.items.take k++a.items.drop k)).items.length (stepR ds[i] k)=some k:=by
       show followV ds[i] (b.items.take k++a.items.drop k).length _=_
       rw [hlb];exact follow_at hd i hi hoa (by omega)
      have hk':k<(DVal.mk a.num a.bytes (b.items.take k++a.items.drop k)).items.length:=by
       show k<(b.items.take k++a.items.drop k).length;omega
      rw [applyS_lift hi _ _ hf hk']
      have hx:(DVal.mk a.num a.bytes (b.items.take k++a.items.drop k)).items[k]=a.items[k]:=by
       show (b.items.take k++a.items.drop k)[k]'(by omega)=_
       rw [List.getElem_append_right (by rw [List.length_take];omega)];simp only [List.length_take,Nat.min_eq_left (show k≤b.items.length by omega),Nat.sub_self,List.getElem_drop,Nat.add_zero]
      rw [hx];show Option.map _ (applyS ds (kidV ds[i] a.num k) a.items[k] (diffS ds (kidV ds[i] a.num k) a.items[k] b.items[k]))=_
      have hvb:=validV_item hb k (by omega);rw [← e1] at hvb;rw [ih _ (List.getElem_mem (by omega)) _ _ (validV_item ha k (by omega)) hvb,Option.map_some]
      congr 1
      show DVal.mk a.num a.bytes ((b.items.take k++a.items.drop k).set k b.items[k])=_
      congr 1
      rw [List.set_append_right _ _ (by rw [List.length_take];omega)];simp only [List.length_take,Nat.min_eq_left (show k≤b.items.length by omega),Nat.sub_self];rw [List.drop_eq_getElem_cons (show k<a.items.length by omega),List.set_cons_zero,List.take_succ_eq_append_getElem (show k<b.items.length by omega),List.append_assoc]
      rfl
    have:=key a.items.length (Nat.le_refl _);rw [List.take_length,e3,List.take_length,← e3,List.drop_length,List.append_nil] at this;rw [this]
    congr 1
    rw [e1,e2];exact b.eta
  ·obtain rfl:=eqV_iff.1 he
   rw [diffS_same,applyS]
def goodStep (s:ByteArray):Prop:=(∃ k:Nat,k<40∧s=itoaB (k:Nat))∨isName s=true∨s=⟨#[42]⟩∨s=⟨#[63]⟩∨s=⟨#[43]⟩
theorem diff_found {ds:List DRule} (hd:descOk ds=true):∀ (a:DVal) (i:Nat) (b:DVal),validV ds i a=true→validV ds i b=true→∀ c∈diffS ds i a b,(∃ r y,findV ds i a c.1=some (r,y)∧y≠c.2∧validV ds r y=true∧validV ds r c.2=true)∧(∀ s∈c.1,goodStep s)∧c.1.length≤i:=by
 intro a
 induction a using DVal.ind with
 | h a ih =>
  intro i b ha hb c hc;have hi:=validV_lt ha;cases he:eqV a b
  ·cases h2:alikeV a b
   ·rw [diffS_whole he h2] at hc
    obtain rfl:=List.mem_singleton.1 hc
    refine ⟨⟨i,a,rfl,?_,ha,hb⟩,fun s hs=>by simp at hs,by simp⟩;intro hab;rw [eqV_iff.2 hab] at he;cases he
   ·rw [diffS_items hi he h2] at hc
    unfold alikeV at h2;simp only [Bool.and_eq_true,beq_iff_eq] at h2;obtain ⟨⟨⟨e1,e2⟩,e3⟩,_⟩:=h2;have hoa:=validV_fits ha
    have key:∀ k,k≤a.items.length→c∈diffSs ds ds[i] a.num 0 (a.items.take k) (b.items.take k)→∃ j,∃ hj:j<a.items.length,∃ c'∈diffS ds (kidV ds[i] a.num j) a.items[j] (b.items[j]'(by omega)),c=stepIn (stepR ds[i] j) c':=by
     intro k
     induction k with
     | zero=>intro _ h;rw [List.take_zero,diffSs] at h;cases h
     | succ k ihk =>
      intro hk h;rw [diffSs_take _ _ _ _ _ _ (by omega) (by omega),List.mem_append] at h;rcases h with h | h
      ·exact ihk (by omega) h
      ·obtain ⟨c',hc',rfl⟩:=List.mem_map.1 h
       exact ⟨k,by omega,c',hc',rfl⟩
    obtain ⟨j,hj,c',hc',rfl⟩:=key a.items.length (Nat.le_refl _) (by rw [List.take_length,e3,List.take_length];exact hc);have hvb:=validV_item hb j (by omega);rw [← e1] at hvb;obtain ⟨⟨r,y,q1,q2,q3,q4⟩,q5,q6⟩:=ih _ (List.getElem_mem hj) _ _ (validV_item ha j hj) hvb c' hc';have hg:ds.getD i noRule=ds[i]:=by simp [hi]
    have hf:=follow_at hd i hi hoa hj;refine ⟨⟨r,y,?_,q2,q3,q4⟩,?_,?_⟩
    ·show findV ds i a (stepR ds[i] j::c'.1)=_
     rw [findV_cons (by rw [hg];exact hf) hj,hg];exact q1
    ·intro s hs
     rcases List.mem_cons.1 hs with rfl | hs
     ·rcases (step_facts hd i hi hoa hj).2.2 with ⟨_,h1,h2⟩ | h1
      ·exact .inl ⟨j,h2,h1⟩
      ·exact .inr h1
     ·exact q5 s hs
    ·have:=(own_item hd i hi hoa hj).1
     show (stepR ds[i] j::c'.1).length≤i
     rw [List.length_cons];omega
  ·obtain rfl:=eqV_iff.1 he
   rw [diffS_same] at hc;cases hc
theorem diff_none {ds:List DRule} (hd:descOk ds=true) {a b:DVal} {i:Nat} (ha:validV ds i a=true) (hb:validV ds i b=true):diffS ds i a b=[]↔a=b:=by
 constructor
 ·intro h
  have h1:=apply_diff hd a i b ha hb;rw [h,applyS] at h1;exact Option.some.inj h1
 ·rintro rfl;exact diffS_same _ _ _
theorem replV_yes {ds:List DRule}:∀ (ss:List ByteArray) (i:Nat) (v x:DVal) {r:Nat} {y:DVal},findV ds i v ss=some (r,y)→validV ds r x=true→∃ w,replV ds i v ss x=some w
 | [],i,v,x,r,y,h,hx=>by
  rw [findV] at h;obtain ⟨rfl,rfl⟩:=Prod.mk.inj (Option.some.inj h);exact ⟨x,by rw [replV,if_pos hx]⟩
 | s::t,i,v,x,r,y,h,hx=>by
  cases hf:followV (ds.getD i noRule) v.items.length s with
  | none=>rw [findV,hf] at h;cases h
  | some k =>
   have hk:=(follow_some hf).1;rw [findV_cons hf hk] at h;obtain ⟨z,hz⟩:=replV_yes t _ _ x h hx;exact ⟨v.setItem k z,by rw [replV_cons hf hk,hz];rfl⟩
theorem replV_step {ds:List DRule} {i:Nat} {v x w:DVal} {s:ByteArray} {t:List ByteArray} (h:replV ds i v (s::t) x=some w):∃ (k:Nat) (hk:k<v.items.length) (z:DVal),followV (ds.getD i noRule) v.items.length s=some k∧replV ds (kidV (ds.getD i noRule) v.num k) v.items[k] t x=some z∧w=v.setItem k z:=by
 cases hf:followV (ds.getD i noRule) v.items.length s with
 | none=>rw [replV,hf] at h;cases h
 | some k =>
  have hk:=(follow_some hf).1;rw [replV_cons hf hk] at h;cases hr:replV ds (kidV (ds.getD i noRule) v.num k) v.items[k] t x with
  | none=>rw [hr] at h;cases h
  | some z=>rw [hr] at h;exact ⟨k,hk,z,rfl,hr,(Option.some.inj h).symm⟩
theorem sum_set_le (f:DVal→Nat):∀ (l:List DVal) (k:Nat) (x:DVal) (hk:k<l.length),((l.set k x).map f).sum+f l[k]=(l.map f).sum+f x
 | [],k,x,h=>by simp at h
 | y::t,0,x,_=>by simp;omega
 | y::t,k+1,x,h=>by
  have:=sum_set_le f t k x (by simpa using h);simp only [List.set_cons_succ,List.map_cons,List.sum_cons,List.getElem_cons_succ]
  omega
theorem sz_setItem {v z:DVal} {k:Nat} (hk:k<v.items.length):szV (v.setItem k z)+szV v.items[k]=szV v+szV z:=by
 have h1:=sum_set_le szV v.items k z hk;rw [szV_eq,szV_eq v,szVs_sum,szVs_sum];show (v.setItem k z).bytes.length+_+_=_
 have hb:(v.setItem k z).bytes=v.bytes:=rfl
 have hi:(v.setItem k z).items=v.items.set k z:=rfl
 rw [hb,hi,List.length_set]
 omega
theorem sz_repl {ds:List DRule}:∀ (ss:List ByteArray) (i:Nat) (v x w:DVal),replV ds i v ss x=some w→szV w≤szV v+szV x
 | [],i,v,x,w,h=>by
  rw [replV] at h
  split at h
  ·obtain rfl:=Option.some.inj h;omega
  ·cases h
 | s::t,i,v,x,w,h=>by
  obtain ⟨k,hk,z,_,hr,rfl⟩:=replV_step h;have h1:=sz_repl t _ _ _ _ hr;have h2:=sz_setItem (v:=v) (z:=z) hk
  omega
def szC (cs:List (List ByteArray × DVal)):Nat:=(cs.map fun c=>szV c.2).sum
end Go.Proofs.YtlfhealneccdkaaGreatDoor
namespace Go.Proofs.YtlfhealneccdkaaGreatDoor
open Go.RowKit Go.Sort
def VT.setIt (t:VT) (k:Nat) (p:VT):VT:=.mk t.num t.bs t.vb (t.its.set k p) t.vi
theorem setIt_val (t:VT) (k:Nat) (p:VT):(t.setIt k p).val=t.val.setItem k p.val:=by
 cases t with
 | mk n b vb its vi =>
  show VT.val (.mk n b vb (its.set k p) vi)=(VT.val (.mk n b vb its vi)).setItem k p.val
  rw [VT.val,VT.val];show DVal.mk n b (valsOf (its.set k p))=DVal.mk n b ((valsOf its).set k p.val)
  rw [valsOf_map,valsOf_map,List.map_set]
theorem vcells_set:∀ (ps:List VT) (k:Nat) (p:VT),k<ps.length →
 (((ps.flatMap VT.cells).set (k*3) (.int .i64 p.num)).set (k*3+1) p.vb).set (k*3+2) p.vi=(ps.set k p).flatMap VT.cells
 | [],k,p,h=>by simp at h
 | x::t,0,p,_=>by simp [VT.cells]
 | x::t,k+1,p,h=>by
  have ih:=vcells_set t k p (by simpa using h);have hl:x.cells.length=3:=rfl
  rw [List.set_cons_succ,List.flatMap_cons,List.flatMap_cons,← ih];rw [List.set_append_right _ _ (by omega),List.set_append_right _ _ (by omega),List.set_append_right _ _ (by omega),hl];rw [show (k+1)*3-3=k*3 by omega,show (k+1)*3+1-3=k*3+1 by omega,show (k+1)*3+2-3=k*3+2 by omega]
theorem ownPutAt {e:TypeId} {w0 w:World} {g cap:Nat} {ps:List VT} (h:Own e 3 w0 w (.slice (some ⟨g,0,none⟩) ps.length cap) ps.length (ps.flatMap VT.cells)) (he:Ext w0 w) {k:Nat} (hk:k<ps.length) (p:VT) :
 Own e 3 w0 (put3 w g (k*3) p) (.slice (some ⟨g,0,none⟩) ps.length cap) ps.length ((ps.set k p).flatMap VT.cells)∧Ext w0 (put3 w g (k*3) p):=by
 rw [← vcells_set ps k p hk];obtain ⟨h0,e0⟩:=h.store he (k*3) (.int .i64 p.num);obtain ⟨h1,e1⟩:=Own.store h0 e0 (k*3+1) p.vb;obtain ⟨h2,e2⟩:=Own.store h1 e1 (k*3+2) p.vi;exact ⟨h2,e2⟩
theorem far_vb {t:VT} (h:Far t.vals):(∀ g,t.vb.ownBlock=some g→t.vi.ownBlock≠some g)∧(∀ x∈t.its,∀ u∈x.vals,∀ g,t.vb.ownBlock=some g→u.ownBlock≠some g)∧(∀ x∈t.its,∀ u∈x.vals,∀ g,t.vi.ownBlock=some g→u.ownBlock≠some g)∧Far (t.its.flatMap VT.vals):=by
 unfold Far at h;rw [VT.vals_eq,List.pairwise_cons,List.pairwise_cons] at h;obtain ⟨h1,h2,h3⟩:=h;exact ⟨h1 _ (by simp),fun x hx u hu=>h1 u (List.mem_cons_of_mem _ (List.mem_flatMap.2 ⟨x,hx,hu⟩)),fun x hx u hu=>h2 u (List.mem_flatMap.2 ⟨x,hx,hu⟩),h3⟩
theorem far_flat {ps:List VT} (h:Far (ps.flatMap VT.vals)) {i j:Nat} (hi:i<ps.length) (hj:j<ps.length) (hne:i≠j):∀ u∈ps[i].vals,∀ v∈ps[j].vals,∀ g,u.ownBlock=some g→v.ownBlock≠some g:=by
 induction ps generalizing i j with
 | nil=>simp at hi
 | cons x t ih =>
  unfold Far at h ih;rw [List.flatMap_cons,List.pairwise_append] at h;obtain ⟨h1,h2,h3⟩:=h;intro u hu v hv g hg
  match i,j with
  | 0,0=>exact absurd rfl hne
  | 0,j+1=>exact h3 u hu v (List.mem_flatMap.2 ⟨_,List.getElem_mem (by simpa using hj),hv⟩) g hg
  | i+1,0=>exact fun hv'=>h3 v hv u (List.mem_flatMap.2 ⟨_,List.getElem_mem (by simpa using hi),hu⟩) g hv' hg
  | i+1,j+1=>exact ih h2 (by simpa using hi) (by simpa using hj) (by omega) u hu v hv g hg
theorem far_each {ps:List VT} (h:Far (ps.flatMap VT.vals)):∀ x∈ps,Far x.vals:=by
 induction ps with
 | nil=>intro x hx;cases hx
 | cons y t ih =>
  unfold Far at h ih ⊢;rw [List.flatMap_cons,List.pairwise_append] at h;intro x hx;rcases List.mem_cons.1 hx with rfl | hx
  ·exact h.1
  ·exact ih h.2.1 x hx
theorem far_flat_set {ps:List VT} (h:Far (ps.flatMap VT.vals)) {k:Nat} {p:VT} (hp:Far p.vals) (hx:∀ j (hj:j<ps.length),j≠k→∀ u∈ps[j].vals,∀ v∈p.vals,∀ g,u.ownBlock=some g→v.ownBlock≠some g):Far ((ps.set k p).flatMap VT.vals):=by
 induction ps generalizing k with
 | nil=>exact Far.nil
 | cons y t ih =>
  have hh:=h;unfold Far at hh;rw [List.flatMap_cons,List.pairwise_append] at hh;obtain ⟨h1,h2,h3⟩:=hh;cases k with
  | zero =>
   rw [List.set_cons_zero,List.flatMap_cons];refine Far.append hp h2 (fun u hu v hv g hg hv'=>?_);obtain ⟨z,hz,hv⟩:=List.mem_flatMap.1 hv;obtain ⟨j,hj,rfl⟩:=List.getElem_of_mem hz;exact hx (j+1) (by simpa using hj) (by omega) v hv u hu g hv' hg
  | succ k =>
   rw [List.set_cons_succ,List.flatMap_cons];refine Far.append h1 (ih h2 (fun j hj hne u hu=>hx (j+1) (by simpa using hj) (by omega) u hu)) (fun u hu v hv g hg=>?_);obtain ⟨z,hz,hz2⟩:=List.mem_flatMap.1 hv;rcases List.mem_or_eq_of_mem_set hz with hz | hz
   ·exact h3 u hu v (List.mem_flatMap.2 ⟨z,hz,hz2⟩) g hg
   ·exact hx 0 (by simp) (by omega) u hu v (hz▸hz2) g hg
def FarOf (vs us:List Value):Prop:=∀ u∈us,∀ v∈vs,∀ g,u.ownBlock=some g→v.ownBlock≠some g
theorem OwnT.setIt {w0 w:World} {t p:VT} {k g cap:Nat} (h:OwnT w0 w t) (hf:Far t.vals) (hp:OwnT w0 w p) (hpf:Far p.vals) (he:Ext w0 w) (hk:k<t.its.length) (hvi:t.vi=.slice (some ⟨g,0,none⟩) t.its.length cap) (hpt:FarOf t.vals p.vals) :
 OwnT w0 (put3 w g (k*3) p) (t.setIt k p)∧Ext w0 (put3 w g (k*3) p)∧Far (t.setIt k p).vals:=by
 have hg:=grown_put3 w g (k*3) p;obtain ⟨f1,f2,f3,f4⟩:=far_vb hf;have hvg:t.vi.ownBlock=some g:=by rw [hvi];rfl
 have hi:=h.i;rw [hvi] at hi;obtain ⟨o1,o2⟩:=ownPutAt hi he hk p;have hpg:∀ u∈p.vals,∀ b,u.ownBlock=some b→some g≠some b:=fun u hu b hb e=>hpt u hu _ (vi_mem t) b hb (hvg.trans e)
 refine ⟨.mk (t:=t.setIt k p) (h.b.keep hg (fun b hb e=>f1 b hb (hvg.trans e))) ?_ ?_,o2,?_⟩
 ·show Own _ 3 w0 _ t.vi (t.its.set k p).length ((t.its.set k p).flatMap VT.cells)
  rw [List.length_set,hvi];exact o1
 ·intro x hx
  rcases List.mem_or_eq_of_mem_set (show x∈t.its.set k p from hx) with hx | rfl
  ·exact (h.kids x hx).keep hg (fun u hu b hb e=>f3 x hx u hu g hvg (hb.trans e.symm))
  ·exact hp.keep hg hpg
 ·rw [VT.vals_eq]
  show Far (t.vb::t.vi::(t.its.set k p).flatMap VT.vals)
  refine Far.cons (Far.cons (far_flat_set f4 hpf (fun j hj _ u hu v hv b hb hv'=>hpt v hv u (mem_vals (List.getElem_mem hj) hu) b hv' hb)) ?_) ?_
  ·intro v hv b hb hv'
   obtain ⟨z,hz,hz2⟩:=List.mem_flatMap.1 hv;rcases List.mem_or_eq_of_mem_set hz with hz | hz
   ·exact f3 z hz v hz2 b hb hv'
   ·exact hpt v (hz▸hz2) _ (vi_mem t) b hv' hb
  ·intro v hv b hb hv'
   rcases List.mem_cons.1 hv with rfl | hv
   ·exact f1 b hb hv'
   obtain ⟨z,hz,hz2⟩:=List.mem_flatMap.1 hv;rcases List.mem_or_eq_of_mem_set hz with hz | hz
   ·exact f2 z hz v hz2 b hb hv'
   ·exact hpt v (hz▸hz2) _ (vb_mem t) b hv' hb
theorem GotV.setIt {w w1 w2:World} {t p:VT} {v x:DVal} {k g cap:Nat} (h:GotV w w1 t v) (e0:Ext w w1) (hx:GotV w1 w2 p x) (e1:Ext w1 w2) (hk:k<v.items.length) (hvi:t.vi=.slice (some ⟨g,0,none⟩) v.items.length cap) :
 GotV w (put3 w2 g (k*3) p) (t.setIt k p) (v.setItem k x)∧Ext w (put3 w2 g (k*3) p):=by
 obtain ⟨rfl,ho,hf⟩:=h;obtain ⟨rfl,hxo,hxf⟩:=hx;have hlen:t.val.items.length=t.its.length:=by rw [VT.val_items,valsOf_len]
 rw [hlen] at hk hvi
 obtain ⟨a1,a2,a3⟩:=OwnT.setIt (ho.ext e1) hf (hxo.down e0.size) hxf (e0.trans e1) hk hvi (fun u hu v hv b hb hv'=>by
  have:=(hxo.block u hu b hb).1
  have:=(ho.block v hv b hv').2
  omega)
 exact ⟨⟨setIt_val t k p,a1,a3⟩,a2⟩
def DVal.putP:DVal→List Nat→DVal→DVal
 | _,[],x=>x
 | v,k::r,x=>match v.items[k]? with
  | some y=>v.setItem k (y.putP r x)
  | none=>v
def VT.putP:VT→List Nat→VT→VT
 | _,[],p=>p
 | t,k::r,p=>match t.its[k]? with
  | some y=>t.setIt k (y.putP r p)
  | none=>t
theorem dput_cons {v:DVal} {k:Nat} (hk:k<v.items.length) (r:List Nat) (x:DVal):v.putP (k::r) x=v.setItem k (v.items[k].putP r x):=by
 rw [DVal.putP,List.getElem?_eq_getElem hk]
theorem vput_cons {t:VT} {k:Nat} (hk:k<t.its.length) (r:List Nat) (p:VT):t.putP (k::r) p=t.setIt k (t.its[k].putP r p):=by
 rw [VT.putP,List.getElem?_eq_getElem hk]
inductive AtPath:VT→List Nat→Nat→Nat→VT→Prop
 | here {t:VT} {k g cap:Nat} (hk:k<t.its.length) (hvi:t.vi=.slice (some ⟨g,0,none⟩) t.its.length cap):AtPath t [k] g k t.its[k]
 | deeper {t x:VT} {k g j:Nat} {r:List Nat} (hk:k<t.its.length) (hr:r≠[]) (h:AtPath t.its[k] r g j x):AtPath t (k::r) g j x
theorem AtPath.block {t x:VT} {r:List Nat} {g j:Nat} (h:AtPath t r g j x):∃ u∈t.vals,u.ownBlock=some g:=by
 induction h with
 | here hk hvi=>exact ⟨_,vi_mem _,by rw [hvi];rfl⟩
 | deeper hk hr h ih =>
  obtain ⟨u,hu,hb⟩:=ih;exact ⟨u,mem_vals (List.getElem_mem hk) hu,hb⟩
theorem putP_cells {t p:VT} {k:Nat} {r:List Nat}:(t.putP (k::r) p).cells=t.cells:=by
 rw [VT.putP]
 split
 ·rfl
 ·rfl
theorem flat_same:∀ {ps:List VT} {k:Nat} {q:VT} (hk:k<ps.length),q.cells=ps[k].cells→(ps.set k q).flatMap VT.cells=ps.flatMap VT.cells
 | [],k,q,h,_=>by simp at h
 | x::t,0,q,_,e=>by
  rw [List.set_cons_zero,List.flatMap_cons,List.flatMap_cons];rw [show q.cells=x.cells from e]
 | x::t,k+1,q,h,e=>by
  rw [List.set_cons_succ,List.flatMap_cons,List.flatMap_cons,flat_same (by simpa using h) (by simpa using e)]
theorem putP_val:∀ (r:List Nat) (t p:VT),(t.putP r p).val=t.val.putP r p.val
 | [],t,p=>rfl
 | k::r,t,p=>by
  by_cases hk:k<t.its.length
  ·have hk2:k<t.val.items.length:=by rw [VT.val_items,valsOf_len];exact hk
   rw [vput_cons hk,dput_cons hk2,setIt_val,putP_val r]
   congr 2
   have:t.val.items[k]=(valsOf t.its)[k]'(by rw [valsOf_len];exact hk):=by congr 1;exact VT.val_items t
   rw [this,valsOf_get]
  ·rw [VT.putP,List.getElem?_eq_none (by omega),DVal.putP,List.getElem?_eq_none (by rw [VT.val_items,valsOf_len];omega)]
theorem OwnT.putP {w0 w:World} {p:VT} (hp:OwnT w0 w p) (hpf:Far p.vals) (he:Ext w0 w) {t x:VT} {r:List Nat} {g j:Nat} (h:AtPath t r g j x):OwnT w0 w t→Far t.vals→FarOf t.vals p.vals →
 OwnT w0 (put3 w g (j*3) p) (t.putP r p)∧Far (t.putP r p).vals∧(∀ u∈(t.putP r p).vals,u∈t.vals∨u∈p.vals)∧Ext w0 (put3 w g (j*3) p):=by
 induction h with
 | here hk hvi =>
  rename_i t k g cap
  intro ho hf hpt;obtain ⟨a1,a2,a3⟩:=OwnT.setIt ho hf hp hpf he hk hvi hpt;have e:t.putP [k] p=t.setIt k p:=by rw [vput_cons hk];rfl
  rw [e];refine ⟨a1,a3,fun u hu=>?_,a2⟩;rw [VT.vals_eq] at hu;rcases List.mem_cons.1 hu with rfl | hu
  ·exact .inl (vb_mem t)
  rcases List.mem_cons.1 hu with rfl | hu
  ·exact .inl (vi_mem t)
  obtain ⟨z,hz,hz2⟩:=List.mem_flatMap.1 hu;rcases List.mem_or_eq_of_mem_set (show z∈t.its.set k p from hz) with hz | hz
  ·exact .inl (mem_vals hz hz2)
  ·exact .inr (hz▸hz2)
 | deeper hk hr h ih =>
  rename_i t x k g j r
  intro ho hf hpt;obtain ⟨f1,f2,f3,f4⟩:=far_vb hf;have hsub:∀ u∈t.its[k].vals,u∈t.vals:=fun u hu=>mem_vals (List.getElem_mem hk) hu
  obtain ⟨a1,a2,a3,a4⟩:=ih (ho.kids _ (List.getElem_mem hk)) (far_each f4 _ (List.getElem_mem hk)) (fun u hu v hv=>hpt u hu v (hsub v hv));obtain ⟨ug,hug,hbg⟩:=h.block;have hg:=grown_put3 w g (j*3) p;rw [vput_cons hk]
  have hc:(t.its[k].putP r p).cells=t.its[k].cells:=by
   cases r with
   | nil=>exact absurd rfl hr
   | cons a b=>exact putP_cells
  generalize t.its[k].putP r p=q at *;refine ⟨.mk (t:=t.setIt k q) (ho.b.keep hg (fun b hb e=>f2 _ (List.getElem_mem hk) ug hug b hb (hbg.trans e))) ?_ ?_,?_,?_,a4⟩
  ·show Own _ 3 w0 _ t.vi (t.its.set k q).length ((t.its.set k q).flatMap VT.cells)
   rw [List.length_set,flat_same hk hc];exact ho.i.keep hg (fun b hb e=>f3 _ (List.getElem_mem hk) ug hug b hb (hbg.trans e))
  ·intro z hz
   obtain ⟨i,hi,rfl⟩:=List.getElem_of_mem (show z∈t.its.set k q from hz);rw [List.getElem_set]
   split
   ·exact a1
   ·rename_i hne
    have hi':i<t.its.length:=by simpa using hi
    exact (ho.kids _ (List.getElem_mem hi')).keep hg (fun u hu b hb e=>far_flat f4 hi' hk (fun e=>hne e.symm) u hu ug hug b hb (hbg.trans e))
  ·rw [VT.vals_eq]
   show Far (t.vb::t.vi::(t.its.set k q).flatMap VT.vals)
   have hq1:∀ v∈q.vals,∀ (y:Value),y∈t.vals→(∀ u∈t.its[k].vals,∀ b,y.ownBlock=some b→u.ownBlock≠some b)→∀ b,y.ownBlock=some b→v.ownBlock≠some b:=by
    intro v hv y hy hk2 b hb hv';rcases a3 v hv with h1 | h1
    ·exact hk2 v h1 b hb hv'
    ·exact hpt v h1 y hy b hv' hb
   refine Far.cons (Far.cons (far_flat_set f4 a2 (fun i hi hne u hu v hv b hb=>hq1 v hv u (mem_vals (List.getElem_mem hi) hu) (fun u' hu' b' hb'=>far_flat f4 hi hk hne u hu u' hu' b' hb') b hb)) ?_) ?_
   ·intro v hv b hb
    obtain ⟨z,hz,hz2⟩:=List.mem_flatMap.1 hv;rcases List.mem_or_eq_of_mem_set hz with hz | hz
    ·exact f3 z hz v hz2 b hb
    ·exact hq1 v (hz▸hz2) _ (vi_mem t) (fun u hu b' hb'=>f3 _ (List.getElem_mem hk) u hu b' hb') b hb
   ·intro v hv b hb
    rcases List.mem_cons.1 hv with rfl | hv
    ·exact f1 b hb
    obtain ⟨z,hz,hz2⟩:=List.mem_flatMap.1 hv;rcases List.mem_or_eq_of_mem_set hz with hz | hz
    ·exact f2 z hz v hz2 b hb
    ·exact hq1 v (hz▸hz2) _ (vb_mem t) (fun u hu b' hb'=>f2 _ (List.getElem_mem hk) u hu b' hb') b hb
  ·intro u hu
   rw [VT.vals_eq] at hu;rcases List.mem_cons.1 hu with rfl | hu
   ·exact .inl (vb_mem t)
   rcases List.mem_cons.1 hu with rfl | hu
   ·exact .inl (vi_mem t)
   obtain ⟨z,hz,hz2⟩:=List.mem_flatMap.1 hu;rcases List.mem_or_eq_of_mem_set (show z∈t.its.set k q from hz) with hz | hz
   ·exact .inl (mem_vals hz hz2)
   ·rcases a3 u (hz▸hz2) with h1 | h1
    ·exact .inl (hsub u h1)
    ·exact .inr h1
def SameS (S:Nat→Prop) (w w':World):Prop:=w.heap.size≤w'.heap.size∧∀ i,S i→i<w.heap.size→w'.heap[i]?=w.heap[i]?
theorem SameS.refl (S:Nat→Prop) (w:World):SameS S w w:=⟨Nat.le_refl _,fun _ _ _=>rfl⟩
theorem SameS.trans {S:Nat→Prop} {a b c:World} (h:SameS S a b) (k:SameS S b c):SameS S a c :=
 ⟨Nat.le_trans h.1 k.1,fun i h0 hi=>(k.2 i h0 (Nat.lt_of_lt_of_le hi h.1)).trans (h.2 i h0 hi)⟩
theorem SameS.mono {S T:Nat→Prop} {w w':World} (h:SameS T w w') (hs:∀ b,S b→T b):SameS S w w':=⟨h.1,fun i h0 hi=>h.2 i (hs i h0) hi⟩
theorem SameS.ext {S:Nat→Prop} {w w':World} (e:Ext w w'):SameS S w w':=⟨e.size,fun i _ hi=>Below.block e i hi⟩
theorem SameS.grown {S:Nat→Prop} {w w':World} {row:Option Nat} (h:w.grownBy w' row) (hr:∀ k,row=some k→¬ S k∨w.heap.size≤k):SameS S w w' :=
 ⟨h.size,fun i h0 hi=>h.block i hi (fun hh=>by
  rcases hr i hh.symm with h1 | h1
  ·exact h1 h0
  ·omega)⟩
theorem SameS.wroteB {S B:Nat→Prop} {w w':World} (h:WroteB B w w') (hr:∀ k,B k→¬ S k∨w.heap.size≤k):SameS S w w' :=
 ⟨h.size,fun i h0 hi=>h.block i hi (fun hh=>by
  rcases hr i hh with h1 | h1
  ·exact h1 h0
  ·omega)⟩
theorem Own.sameS {e:TypeId} {size:Nat} {w0 w w':World} {v:Value} {n:Nat} {xs:List Value} {S:Nat→Prop} (h:Own e size w0 w v n xs) (hs:SameS S w w') (hb:∀ b,v.ownBlock=some b→S b):Own e size w0 w' v n xs:=by
 refine ⟨h.1,?_⟩;rcases h.2 with h0 | ⟨g,cap,cur,rfl,hbg,hg,r⟩
 ·exact .inl h0
 ·exact .inr ⟨g,cap,cur,rfl,hbg,(hs.2 g (hb g rfl) (Array.getElem?_eq_some_iff.1 hg).1).trans hg,r⟩
def blks (vs:List Value) (b:Nat):Prop:=∃ u∈vs,u.ownBlock=some b
theorem OwnT.sameS {w0 w w':World} {t:VT} (h:OwnT w0 w t) {S:Nat→Prop} (hs:SameS S w w') (hb:∀ b,blks t.vals b→S b):OwnT w0 w' t:=by
 induction h with
 | mk b i kids ih =>
  rename_i t
  exact .mk (Own.sameS b hs (fun g hg=>hb g ⟨_,vb_mem t,hg⟩)) (Own.sameS i hs (fun g hg=>hb g ⟨_,vi_mem t,hg⟩)) (fun x hx=>ih x hx (fun g ⟨u,hu,hg⟩=>hb g ⟨u,mem_vals hx hu,hg⟩))
theorem OwnD.sameS {w0 w w':World} {v:Value} {ps:List RV} (h:OwnD w0 w v ps) {S:Nat→Prop} (hs:SameS S w w') (hb:∀ b,blks (v::ps.flatMap RV.vals) b→S b):OwnD w0 w' v ps :=
 ⟨Own.sameS h.row hs (fun g hg=>hb g ⟨v,by simp,hg⟩),fun p hp=>by
  have h1:=h.each p hp;have h2:∀ u∈p.vals,∀ g,u.ownBlock=some g→S g:=fun u hu g hg=>hb g ⟨u,List.mem_cons_of_mem _ (List.mem_flatMap.2 ⟨p,hp,hu⟩),hg⟩
  exact ⟨Own.sameS h1.b hs (h2 _ (by simp [RV.vals])),Own.sameS h1.n hs (h2 _ (by simp [RV.vals])),Own.sameS h1.t hs (h2 _ (by simp [RV.vals])),Own.sameS h1.k hs (h2 _ (by simp [RV.vals]))⟩,h.far⟩
def KeepS (S:Nat→Prop) (w:World) (v:DVal) (vb vi:Value):Prop:=∃ Ab cb Ai ci,vb=.slice Ab v.bytes.length cb∧vi=.slice Ai v.items.length ci∧∀ w',SameS S w w'→RdV w' v Ab cb Ai ci
theorem KeepS.same {S:Nat→Prop} {w w':World} {v:DVal} {vb vi:Value} (h:KeepS S w v vb vi) (hs:SameS S w w'):KeepS S w' v vb vi:=by
 obtain ⟨Ab,cb,Ai,ci,h1,h2,h3⟩:=h;exact ⟨Ab,cb,Ai,ci,h1,h2,fun w2 h4=>h3 w2 (hs.trans h4)⟩
theorem KeepS.mono {S T:Nat→Prop} {w:World} {v:DVal} {vb vi:Value} (h:KeepS S w v vb vi) (hs:∀ b,S b→T b):KeepS T w v vb vi:=by
 obtain ⟨Ab,cb,Ai,ci,h1,h2,h3⟩:=h;exact ⟨Ab,cb,Ai,ci,h1,h2,fun w2 h4=>h3 w2 (h4.mono hs)⟩
theorem KeepS.rd {S:Nat→Prop} {w:World} {v:DVal} {vb vi:Value} (h:KeepS S w v vb vi):∃ Ab cb Ai ci,vb=.slice Ab v.bytes.length cb∧vi=.slice Ai v.items.length ci∧RdV w v Ab cb Ai ci:=by
 obtain ⟨Ab,cb,Ai,ci,h1,h2,h3⟩:=h;exact ⟨Ab,cb,Ai,ci,h1,h2,h3 w (SameS.refl _ _)⟩
theorem KeepS.rdAt {S:Nat→Prop} {w w':World} {v:DVal} {A1 A2:Option Addr} {c1 c2:Nat} (h:KeepS S w v (.slice A1 v.bytes.length c1) (.slice A2 v.items.length c2)) (hs:SameS S w w'):RdV w' v A1 c1 A2 c2:=by
 obtain ⟨Ab,cb,Ai,ci,h1,h2,h3⟩:=h;injection h1 with h1 _ h4;injection h2 with h2 _ h5
 subst h1;subst h2;subst h4;subst h5;exact h3 w' hs
theorem OwnT.keepS {w0 w:World} {t:VT} (h:OwnT w0 w t) {S:Nat→Prop} (hb:∀ b,blks t.vals b→S b) (hz:szV t.val≤140737488351232):KeepS S w t.val t.vb t.vi:=by
 obtain ⟨Ab,cb,Ai,ci,h1,h2,_⟩:=h.rd hz;refine ⟨Ab,cb,Ai,ci,h1,h2,fun w' hs=>?_⟩;obtain ⟨Ab',cb',Ai',ci',e1,e2,h3⟩:=(h.sameS hs hb).rd hz;rw [h1] at e1;rw [h2] at e2;injection e1 with e1 _ e3;injection e2 with e2 _ e4
 subst e1;subst e2;subst e3;subst e4;exact h3
theorem GotV.keepS {w0 w:World} {t:VT} {v:DVal} (h:GotV w0 w t v) {S:Nat→Prop} (hb:∀ b,blks t.vals b→S b) (hz:szV v≤140737488351232):KeepS S w v t.vb t.vi:=by
 obtain ⟨rfl,ho,_⟩:=h;exact ho.keepS hb hz
theorem RdVs.of_rowI {w0 w:World} {v:Value} {ps:List VT} (hrow:Own 29 3 w0 w v ps.length (ps.flatMap VT.cells)) (hl:ps.length≤9223372036854775807)
 (hk:∀ i (hi:i<ps.length),∃ Ab cb Ai ci,ps[i].vb=.slice Ab ps[i].val.bytes.length cb∧ps[i].vi=.slice Ai ps[i].val.items.length ci∧RdV w ps[i].val Ab cb Ai ci):∃ A c,v=.slice A (valsOf ps).length c∧RdVs w A (valsOf ps) c:=by
 have hlen:=valsOf_len ps;rcases hrow.2 with ⟨rfl,h0⟩ | ⟨g,cap,cur,rfl,hb,hg,hnc,hcm,hcs,htake⟩
 ·refine ⟨none,0,by rw [hlen,h0],?_⟩
  obtain rfl:ps=[]:=List.eq_nil_of_length_eq_zero h0
  rw [valsOf];exact RdVs.nil w
 ·refine ⟨_,_,by rw [hlen],.of (by omega) (by omega) g 0 (fun _=>⟨rfl,(Array.getElem?_eq_some_iff.1 hg).1⟩) (fun i hi=>?_)⟩
  have hi':i<ps.length:=by omega
  rw [valsOf_get ps i hi]
  have hc:∀ (w':World),Ext w w'→∀ j,j<3→w'.cell? ⟨g,i*3+j,none⟩=ps[i].cells[j]?:=by
   intro w' e j hj;rw [heap_row hg e,← vcells_get ps i j hi' hj,← htake,List.getElem?_take,if_pos (by omega)];simp
  obtain ⟨Ab,cb,Ai,ci,e1,e2,hR⟩:=hk i hi';refine ⟨Ab,cb,Ai,ci,hR,?_⟩;rw [← e1,← e2,Nat.zero_add];exact ⟨fun w' e=>by have:=hc w' e 0 (by omega);simpa [VT.cells,VT.val_num] using this,fun w' e=>by have:=hc w' e 1 (by omega);simpa [VT.cells] using this,fun w' e=>by have:=hc w' e 2 (by omega);simpa [VT.cells] using this⟩
mutual
def VT.ofD:DVal→VT
 | .mk n b its=>.mk n b (.slice none 0 0) (ofDs its) (.slice none 0 0)
def ofDs:List DVal→List VT
 | []=>[]
 | x::t=>VT.ofD x::ofDs t
end
mutual
theorem ofD_val:∀ v:DVal,(VT.ofD v).val=v
 | .mk n b its=>by rw [VT.ofD,VT.val,ofDs_vals its]
theorem ofDs_vals:∀ l:List DVal,valsOf (ofDs l)=l
 | []=>by rw [ofDs,valsOf]
 | x::t=>by rw [ofDs,valsOf,ofD_val x,ofDs_vals t]
end
def VT.withS (v:DVal) (vb vi:Value):VT:=.mk v.num v.bytes vb (ofDs v.items) vi
theorem withS_val (v:DVal) (vb vi:Value):(VT.withS v vb vi).val=v:=by
 unfold VT.withS;rw [VT.val,ofDs_vals];exact v.eta
theorem keepS_put {w0 w:World} {t:VT} {k g cap:Nat} {y:DVal} {yb yi:Value} {Sk S:Nat→Prop} (hk:k<t.its.length) (hvi:t.vi=.slice (some ⟨g,0,none⟩) t.its.length cap)
 (hb:OwnL vu8 5 w0 w t.vb t.bs) (hi:Own 29 3 w0 w t.vi t.its.length (t.its.flatMap VT.cells)) (he:Ext w0 w) (hkids:∀ i (hi:i<t.its.length),i≠k→OwnT w0 w t.its[i]) (hy:KeepS Sk w y yb yi)
 (hg1:∀ b,t.vb.ownBlock=some b→b≠g) (hg2:∀ i (hi:i<t.its.length),i≠k→∀ b,blks t.its[i].vals b→b≠g) (hg3:¬ Sk g)
 (hS1:∀ b,blks t.vals b→S b) (hS2:∀ b,Sk b→S b) (hz:szV t.val≤1048576) :
 KeepS S (put3 w g (k*3) (VT.withS y yb yi)) (t.val.setItem k y) t.vb t.vi:=by
 have hg:=grown_put3 w g (k*3) (VT.withS y yb yi);rw [hvi] at hi;obtain ⟨o1,o2⟩:=ownPutAt hi he hk (VT.withS y yb yi);have hbl:=bytes_le t.val;rw [VT.val_bytes] at hbl;have hil:=items_le t.val;rw [VT.val_items,valsOf_len] at hil;have b1:OwnL vu8 5 w0 (put3 w g (k*3) (VT.withS y yb yi)) t.vb t.bs:=hb.keep hg (fun b hbb hh=>by injection hh with hh;exact hg1 b hbb hh.symm)
 have k1:∀ i (hi:i<t.its.length),i≠k→OwnT w0 (put3 w g (k*3) (VT.withS y yb yi)) t.its[i]:=fun i hi' hne=>(hkids i hi' hne).keep hg (fun u hu b hbb hh=>by injection hh with hh;exact hg2 i hi' hne b ⟨u,hu,hbb⟩ hh.symm)
 have y1:KeepS Sk (put3 w g (k*3) (VT.withS y yb yi)) y yb yi:=hy.same (SameS.grown hg (fun b hb=>by injection hb with hb;subst hb;exact .inl hg3))
 obtain ⟨A1,c1,e1,_⟩:=OwnL.rd hb (by omega)
 have hval:t.val.setItem k y=.mk t.num t.bs ((valsOf t.its).set k y):=by
  unfold DVal.setItem;rw [VT.val_num,VT.val_bytes,VT.val_items]
 have hps:valsOf (t.its.set k (VT.withS y yb yi))=(valsOf t.its).set k y:=by
  rw [valsOf_map,valsOf_map,List.map_set,withS_val]
 have hpl:((valsOf t.its).set k y).length=t.its.length:=by rw [List.length_set,valsOf_len]
 refine ⟨A1,c1,some ⟨g,0,none⟩,cap,by rw [e1,hval];rfl,by rw [hvi,hval];show _=Value.slice _ ((valsOf t.its).set k y).length _;rw [hpl],fun w' hs=>?_⟩;have ob:OwnL vu8 5 w0 w' t.vb t.bs:=Own.sameS b1 hs (fun b hbb=>hS1 b ⟨_,vb_mem t,hbb⟩)
 have oi:=Own.sameS o1 hs (fun b hbb=>hS1 b ⟨_,vi_mem t,by rw [hvi];exact hbb⟩);have oi':Own 29 3 w0 w' (.slice (some ⟨g,0,none⟩) t.its.length cap) (t.its.set k (VT.withS y yb yi)).length ((t.its.set k (VT.withS y yb yi)).flatMap VT.cells):=by rw [List.length_set];exact oi
 obtain ⟨A2,c2,e2,r2⟩:=RdVs.of_rowI oi' (by rw [List.length_set];omega) (fun i hi'=>by
  rw [List.length_set] at hi'
  by_cases hik:i=k
  ·subst hik
   rw [List.getElem_set_self];obtain ⟨Ab,cb,Ai,ci,f1,f2,f3⟩:=(y1.same (hs.mono hS2)).rd;rw [withS_val];exact ⟨Ab,cb,Ai,ci,f1,f2,f3⟩
  ·rw [List.getElem_set_ne (fun h=>hik h.symm)]
   exact ((k1 i hi' hik).sameS hs (fun b ⟨u,hu,hbb⟩=>hS1 b ⟨u,mem_vals (List.getElem_mem hi') hu,hbb⟩)).rd (by
    have:szV (t.its[i]'hi').val<szV t.val:=szV_item (by rw [VT.val_items,valsOf_map];exact List.mem_map_of_mem (List.getElem_mem hi'))
    omega))
 obtain ⟨A3,c3,e3,r3⟩:=OwnL.rd ob (by omega);rw [hps] at e2 r2;rw [e1] at e3;injection e3 with e3 _ e4;injection e2 with e2 _ e5
 subst e3;subst e4;subst e2;subst e5;rw [hval];exact ⟨r3.1,r2⟩
theorem RdVs.tail {w:World} {g off c:Nat} {x:DVal} {t:List DVal} (h:RdVs w (some ⟨g,off,none⟩) (x::t) c):RdVs w (some ⟨g,off+3,none⟩) t (c-1):=by
 have hc:=h.cap;have hl:=h.len;simp only [List.length_cons] at hc hl;refine .of (by omega) (by omega) g (off+3) (fun hp=>⟨rfl,?_⟩) (fun i hi=>?_)
 ·obtain ⟨b,o,_,_,_,_,h1,h2,_⟩:=h.at 0 (by simp)
  injection h1 with h1;injection h1 with h1 _ _
  subst h1;exact h2
 ·obtain ⟨b,o,Ab,cb,Ai,ci,h1,h2,h3,h4⟩:=h.at (i+1) (by simp;omega)
  injection h1 with h1;injection h1 with h1 h5 _
  subst h1;subst h5;refine ⟨Ab,cb,Ai,ci,by simpa using h3,?_⟩;rw [show off+3+i*3=off+(i+1)*3 by omega]
  simpa using h4
end Go.Proofs.YtlfhealneccdkaaGreatDoor
