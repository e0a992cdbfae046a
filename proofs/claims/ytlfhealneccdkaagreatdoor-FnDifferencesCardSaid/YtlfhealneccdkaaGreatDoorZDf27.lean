/- Texts, laid into one. -/
import Derived.Test.YtlfhealneccdkaaGreatDoorZDf25
import Derived.Test.YtlfhealneccdkaaGreatDoorZDf22
import Derived.Test.YtlfhealneccdkaaGreatDoorZDf24
set_option linter.unusedVariables false
set_option linter.unusedSimpArgs false
set_option maxRecDepth 100000
set_option maxHeartbeats 16000000
namespace Go.Proofs.YtlfhealneccdkaaGreatDoor
def noSlash (s:ByteArray):Prop:=∀ i (h:i<s.size),s[i].toNat≠47
theorem nth_data (a:ByteArray) (i:Nat) (h:i<a.size):a[i]=a.data[i]:=rfl
theorem nth_left {a b:ByteArray} {i:Nat} (h:i<a.size) (h':i<(a++b).size):(a++b)[i]=a[i]:=by
 rw [nth_data,nth_data];simp only [ByteArray.data_append];exact Array.getElem_append_left h
theorem nth_right {a b:ByteArray} {i:Nat} (h:i<b.size) (h':a.size+i<(a++b).size):(a++b)[a.size+i]=b[i]:=by
 rw [nth_data,nth_data];simp only [ByteArray.data_append];rw [Array.getElem_append_right (by show a.size≤_;omega)]
 congr 1;show a.size+i-a.size=i;omega
theorem ext_all (a:ByteArray):a.extract 0 a.size=a:=by
 apply ByteArray.ext;rw [ByteArray.data_extract];exact Array.extract_size
theorem ext_left (a b:ByteArray):(a++b).extract 0 a.size=a:=by
 apply ByteArray.ext;rw [ByteArray.data_extract,ByteArray.data_append,Array.extract_append]
 show a.data.extract 0 a.data.size++b.data.extract (0-a.data.size) (a.data.size-a.data.size)=a.data
 simp
theorem ext_right (a b:ByteArray) (f j:Nat):(a++b).extract (a.size+f) (a.size+j)=b.extract f j:=by
 apply ByteArray.ext;rw [ByteArray.data_extract,ByteArray.data_append,Array.extract_append,ByteArray.data_extract]
 have h1:a.data.extract (a.size+f) (a.size+j)=#[]:=by
  apply Array.eq_empty_of_size_eq_zero
  rw [Array.size_extract];show min (a.size+j) a.size-(a.size+f)=0;omega
 rw [h1];show #[]++b.data.extract (a.size+f-a.size) (a.size+j-a.size)=_
 rw [show a.size+f-a.size=f by omega,show a.size+j-a.size=j by omega];simp
theorem splitF_none {s:ByteArray}:∀ i,(∀ j,j<i→cutAt s j=false)→splitF s i=([],0)
 | 0,_=>rfl
 | i+1,h=>by rw [splitF_no (splitF_none i (fun j hj=>h j (by omega))) (h i (by omega))]
theorem splitB_one {s:ByteArray} (h:noSlash s):splitB s=[s]:=by
 unfold splitB;rw [splitF_yes (splitF_none s.size (fun j hj=>by rw [cut_in hj];exact decide_eq_false (h j hj))) (cut_end s),ext_all];rfl
theorem cut_app {a b:ByteArray} {j:Nat} (hj:j≤b.size):cutAt (a++b) (a.size+j)=cutAt b j:=by
 have hs:(a++b).size=a.size+b.size:=ByteArray.size_append ..
 rcases Nat.lt_or_ge j b.size with h | h
 ·rw [cut_in (show a.size+j<(a++b).size by omega),cut_in h,nth_right h]
 ·obtain rfl:j=b.size:=by omega
  rw [cut_end,show a.size+b.size=(a++b).size by omega,cut_end]
theorem splitB_cons {a b:ByteArray} (h:noSlash a):splitB (a++(⟨#[47]⟩++b))=a::splitB b:=by
 have e:a++(⟨#[47]⟩++b)=(a++⟨#[47]⟩)++b:=by rw [BA_assoc]
 have s1:(a++(⟨#[47]⟩:ByteArray)).size=a.size+1:=ByteArray.size_append ..
 have hs:(a++(⟨#[47]⟩++b)).size=a.size+1+b.size:=by rw [e,ByteArray.size_append,s1]
 generalize hq:a++(⟨#[47]⟩++b)=s at *
 have h1:splitF s a.size=([],0):=splitF_none _ (fun j hj=>by
  rw [cut_in (by omega)];refine decide_eq_false ?_;subst hq;rw [nth_left hj];exact h j hj)
 have h2:splitF s (a.size+1)=([a],a.size+1):=by
  rw [splitF_yes h1]
  ·subst hq;rw [ext_left];rfl
  ·rw [cut_in (by omega)]
   refine decide_eq_true ?_;subst hq
   have:=nth_right (a:=a) (b:=⟨#[47]⟩++b) (i:=0) (by rw [ByteArray.size_append];show 0<1+b.size;omega) (by omega);simp only [Nat.add_zero] at this;rw [this,nth_left (by decide)];rfl
 have h3:∀ j,j≤b.size+1→splitF s (a.size+1+j)=(a::(splitF b j).1,a.size+1+(splitF b j).2):=by
  intro j
  induction j with
  | zero=>intro _;rw [Nat.add_zero,h2];rfl
  | succ j ih =>
   intro hj;have hc:cutAt s (a.size+1+j)=cutAt b j:=by rw [e,← s1];exact cut_app (by omega)
   cases hcb:cutAt b j
   ·rw [← Nat.add_assoc,splitF_no (ih (by omega)) (by rw [hc,hcb]),splitF,hcb,if_neg (by simp)]
   ·rw [← Nat.add_assoc,splitF_yes (ih (by omega)) (by rw [hc,hcb]),splitF,hcb,if_pos rfl]
    rw [e,← s1,ext_right];simp [Nat.add_assoc]
 unfold splitB;rw [hs,show a.size+1+b.size+1=a.size+1+(b.size+1) by omega,h3 _ (Nat.le_refl _)]
theorem splitB_steps:∀ (t:List ByteArray) (s:ByteArray),noSlash s→(∀ x∈t,noSlash x)→splitB (s++joinB t)=s::t
 | [],s,h,_=>by rw [joinB_nil,BA_nil,splitB_one h]
 | u::t,s,h,ht=>by
  rw [joinB_cons,BA_assoc,splitB_cons h,splitB_steps t u (ht u (by simp)) (fun x hx=>ht x (by simp [hx]))]
theorem num_step:∀ n,n<40→isStepB (itoaB (n:Nat))=true∧(itoaB (n:Nat)).toList.all (fun x=>decide (x.toNat≠47))=true:=by decide +kernel
theorem noSlash_of {s:ByteArray} (h:s.toList.all (fun x=>decide (x.toNat≠47))=true):noSlash s:=by
 intro i hi;rw [List.all_eq_true] at h
 have:=h s[i] (by rw [ByteArray.toList_eq,nth_data];exact Array.mem_toList_iff.2 (Array.getElem_mem _))
 simpa using this
theorem name_noSlash {s:ByteArray} (h:isName s=true):noSlash s:=by
 intro i hi he;unfold isName at h;simp only [Bool.and_eq_true] at h;have h2:=List.all_eq_true.1 h.2 i (by simpa using hi);rw [okCh_at hi] at h2;unfold nameCh at h2;simp at h2
 omega
theorem good_step {s:ByteArray} (h:goodStep s):isStepB s=true∧noSlash s:=by
 rcases h with ⟨k,hk,rfl⟩ | h | rfl | rfl | rfl
 ·exact ⟨(num_step k hk).1,noSlash_of (num_step k hk).2⟩
 ·exact ⟨by unfold isStepB;rw [h];rfl,name_noSlash h⟩
 ·exact ⟨by unfold isStepB;simp,noSlash_of (by decide +kernel)⟩
 ·exact ⟨by unfold isStepB;simp,noSlash_of (by decide +kernel)⟩
 ·exact ⟨by unfold isStepB;simp,noSlash_of (by decide +kernel)⟩
theorem splitP_join:∀ {ss:List ByteArray},(∀ s∈ss,goodStep s)→splitP (joinB ss)=some ss
 | [],_=>by unfold splitP;rw [joinB_nil,if_pos rfl]
 | s::t,h=>by
  have hb:splitB (joinB (s::t))=⟨#[]⟩::s::t:=by
   have h1:=splitB_cons (a:=⟨#[]⟩) (b:=s++joinB t) (fun i hi=>by cases hi);rw [BA_nil'] at h1;rw [joinB_cons,BA_assoc,h1,splitB_steps t s (good_step (h s (by simp))).2 (fun x hx=>(good_step (h x (by simp [hx]))).2)]
  have h0:¬ joinB (s::t)=⟨#[]⟩:=by
   intro e
   have:=congrArg ByteArray.size e;rw [joinB_cons,ByteArray.size_append,ByteArray.size_append] at this
   change 1+s.size+(joinB t).size=0 at this
   omega
  rw [splitP_at h0 hb,if_pos ⟨rfl,List.all_eq_true.2 (fun x hx=>(good_step (h x hx)).1),by simp⟩]
theorem good_size {s:ByteArray} (h:goodStep s):s.size≤20:=by
 rcases h with ⟨k,hk,rfl⟩ | h | rfl | rfl | rfl
 ·exact itoa_size _ (by omega) (by omega)
 ·unfold isName at h
  simp only [Bool.and_eq_true,decide_eq_true_eq] at h
  omega
 all_goals decide
theorem join_size:∀ {ss:List ByteArray},(∀ s∈ss,goodStep s)→(joinB ss).size≤21*ss.length
 | [],_=>Nat.zero_le _
 | s::t,h=>by
  have h1:=good_size (h s (by simp));have h2:=join_size (fun x hx=>h x (List.mem_cons_of_mem _ hx));rw [joinB_cons,ByteArray.size_append,ByteArray.size_append,List.length_cons];show 1+s.size+(joinB t).size≤_
  omega
end Go.Proofs.YtlfhealneccdkaaGreatDoor
namespace Go.Proofs.YtlfhealneccdkaaGreatDoor
open Go.RowKit Go.Sort
structure NumS (s:ByteArray):Prop where
 pos:1≤s.size
 le:s.size≤13
 lead:∀ (h:0<s.size),s[0].toNat=48→s.size=1
 dig:∀ j,j<s.size→digAt s j=true
 max:numN s s.size≤1000000000000
def numSB (s:ByteArray):Bool:=decide (1≤s.size)&&decide (s.size≤13)&&(if h:0<s.size then decide (s[0].toNat=48→s.size=1) else true)&&(List.range s.size).all (digAt s)&&decide (numN s s.size≤1000000000000)
theorem numS_of {s:ByteArray} (h:numSB s=true):NumS s:=by
 unfold numSB at h;simp only [Bool.and_eq_true,decide_eq_true_eq] at h;obtain ⟨⟨⟨⟨h1,h2⟩,h3⟩,h4⟩,h5⟩:=h;refine ⟨h1,h2,fun hp h6=>?_,fun j hj=>List.all_eq_true.1 h4 j (by simpa using hj),h5⟩;rw [dif_pos hp] at h3
 simpa using of_decide_eq_true h3 h6
theorem numS_item:∀ n,n<40→numSB (itoaB (n:Nat))=true∧numN (itoaB (n:Nat)) (itoaB (n:Nat)).size=n∧isName (itoaB (n:Nat))=false∧(itoaB (n:Nat)).toList≠[42]∧(itoaB (n:Nat)).toList≠[63]∧(itoaB (n:Nat)).toList≠[43]:=by decide +kernel
theorem iParse_c (s:ByteArray) (h:NumS s) (w:World):Gives Tryz.prog 93 #[.string s] w (.tuple #[.int .i64 (numN s s.size:Nat),.bool true]):=by
 have hp:=h.pos;have hl:=h.le;have HS:=lhd h;have hp0:0<s.size:=by omega
 have hl1:¬ 13<s.size:=by omega
 have hl2:¬ (13:Int)<(s.size:Int):=by omega
 have n0:¬ s.toList=[]:=fun e=>by
  have h1:s.data.toList.length=0:=by rw [← ByteArray.toList_eq,e];rfl
  rw [Array.length_toList] at h1
  change s.size=0 at h1;omega
 have d0:(s.toList==[])=false:=by simpa using n0
 have hc:(∃ _:s[0].toNat=48,s.size=1)∨¬ s[0].toNat=48:=by
  by_cases h6:s[0].toNat=48
  ·exact .inl ⟨h6,HS.out.lead hp0 h6⟩
  ·exact .inr h6
 have HMX:=lhd HS.out.max;have hs1i:s.size=1→¬ (1:Int)<(s.size:Int):=fun h=>by omega
 clear h;rcases hc with ⟨h6,h7⟩ | h6
 case' inl =>
  have hq:¬ 1<s.size:=by omega
  have hqi:=hs1i h7;have e0:((s[0].toNat:Int)==48)=true:=by rw [h6];rfl
  have e0':(s[0].toNat:Int)=48:=by rw [h6];rfl
 case' inr =>
  have e0:((s[0].toNat:Int)==48)=false:=by
   rw [beq_eq_false_iff_ne];omega
  have e0':¬ (s[0].toNat:Int)=48:=by omega
 all_goals
  try replace h6:=lhd h6
  try replace h7:=lhd h7
  clear hs1i;go_enter Tryz.func93,Tryz.ntmps93;go_wp2_with fail;go_loopw [4,5] (fun n i wr=>∃ k m:Nat,k≤s.size∧i=.int .i64 k∧n=.int .i64 m∧Hid (m=numN s k)∧wr=w) (fun _ i _=>s.size-(intOf i).toNat)
  case atStart=>exact ⟨0,0,by omega,rfl,rfl,rfl,rfl⟩
  case round =>
   obtain ⟨k,m,hk,rfl,rfl,hm,rfl⟩:=hrel
   by_cases hlt:k<s.size
   ·have hsu:=lhd (numN_succ hlt)
    have hm2:m<1000000000000:=by
     have h1:=numN_lt k (by omega) (fun j hj=>HS.out.dig j (by omega));rw [← hm.out] at h1
     exact Nat.lt_of_lt_of_le h1 (by
      have:10^k≤10^12:=Nat.pow_le_pow_right (by omega) (by omega)
      simpa using this)
    have hd:=HS.out.dig k hlt;rw [digAt_at hlt,decide_eq_true_eq] at hd;have hd1:¬ s[k].toNat<48:=by omega
    have hd2:¬ 57<s[k].toNat:=by omega
    have hd3:¬ (s[k].toNat:Int)<48:=by omega
    have hd4:¬ (57:Int)<(s[k].toNat:Int):=by omega
    have hd5:(48:Int)≤(s[k].toNat:Int):=by omega
    have hd6:(s[k].toNat:Int)≤57:=by omega
    have hki:(k:Int)<(s.size:Int):=by omega
    clear hd;go_wp2;go_roundw
    case rel=>exact ⟨k+1,10*m+(s[k].toNat-48),by omega,by go_num,by go_num,lhd (by rw [hsu.out,← hm.out]),trivial⟩
    case measure=>simp [intOf];omega
   ·obtain rfl:k=s.size:=by omega
    have hmx:¬ (1000000000000:Int)<(m:Int):=by have h1:=HMX.out;rw [← hm.out] at h1;omega
    have hmn:¬ 1000000000000<m:=by omega
    go_wp2;refine bodyPost_ret (v:=.tuple #[.int .i64 (m:Int),.bool true]) (by simp [results,Tryz.results93,go_sem]) rfl ⟨by rw [← hm.out],Ext.refl _⟩
theorem iIsStep_c (s:ByteArray) (hg:goodStep s) (w:World):Gives Tryz.prog 74 #[.string s] w (.bool true):=by
 have hs:=good_size hg;have CN:=lhd (fun w'=>iIsName_c s w' (by omega))
 by_cases hn:isName s=true
 ·rw [hn] at CN
  clear hn;go_enter Tryz.func74,Tryz.ntmps74;go_wp2_with (go_at_call 92;refine (CN.out _).mono ?_;rintro _ w1 ⟨rfl,he1⟩)
  go_ret;exact ⟨rfl,he1⟩
 ·have hn':isName s=false:=by simpa using hn
  rw [hn'] at CN;rcases hg with ⟨k,hk,rfl⟩ | h | rfl | rfl | rfl
  ·obtain ⟨f1,f2,_,f4,f5,f6⟩:=numS_item k hk
   have CP:=lhd (fun w'=>iParse_c _ (numS_of f1) w');rw [f2] at CP;have d1:((itoaB (k:Nat)).toList==[42])=false:=by simpa using f4
   have d2:((itoaB (k:Nat)).toList==[63])=false:=by simpa using f5
   have d3:((itoaB (k:Nat)).toList==[43])=false:=by simpa using f6
   generalize itoaB (k:Nat)=z at *;clear hn hn' f1 f2;go_enter Tryz.func74,Tryz.ntmps74
   go_wp2_with (first
    | (go_at_call 92;refine (CN.out _).mono ?_;rintro _ w1 ⟨rfl,he1⟩)
    | (go_at_call 93;refine (CP.out _).mono ?_;rintro _ w2 ⟨rfl,he2⟩))
   go_ret;exact ⟨rfl,he1.trans he2⟩
  ·exact absurd h hn
  all_goals
   clear hn hn' hs;go_enter Tryz.func74,Tryz.ntmps74;go_wp2_with (go_at_call 92;refine (CN.out _).mono ?_;rintro _ w1 ⟨rfl,he1⟩)
   go_ret;exact ⟨rfl,he1⟩
theorem iStep_c (A:Option Addr) (ds:List DRule) (c:Nat) (i:Nat) (hi:i<ds.length) (n:Int) (j:Nat) (w:World) (hok:descOk ds=true) (hd:RdD w A ds c) (hs:ShortD ds) (hw:WfD ds) (hj:j≤9223372036854775807) (hat:ItemAt ds[i] n j) (hT:Tab w) :
 Gives Tryz.prog 43 #[vdesc (.slice A ds.length c),.int .i64 (i:Int),.int .i64 (j:Int)] w (.string (stepR ds[i] j)):=by
 have hl:=hd.len;have hkn:knownB ds (i:Int)=true:=by unfold knownB;simp [hok];omega
 have CK:=lhd (fun w h=>iKnown_c A ds c (i:Int) w h hs hw);rw [hkn] at CK;have C5:=lhd (fun w hT=>iFormatInt_c (j:Int) w hT (by omega) (by omega));obtain ⟨b,ro,Ab,cb,An,cn,At,ct,Ak,ck,hA,hbb,hS,hR⟩:=hd.at i hi;have HD:=lhd hd;have HTAB:=lhd hT;have eb:=Ext_alloc (.cells #[.slice A ds.length c] 26) (Ext.refl w);have BX:=fun w' (e:Ext (w.alloc (.cells #[.slice A ds.length c] 26)) w')=>boxed e 0
 simp only [List.getElem?_toArray,List.getElem?_cons_zero] at BX;obtain ⟨W0,hW0⟩:∃ W0,W0=w.alloc (.cells #[.slice A ds.length c] 26):=⟨_,rfl⟩;have HW0:=lhd hW0;rw [← hW0] at eb BX;have hln:=hS.n.len;have HSN:=lhd hS.n;obtain ⟨k0,k1,k2,k3,k4,k5,k6,k7⟩:=hR;clear hd hS hW0 hkn hok hs hw hT;have hji:(0:Int)≤(j:Int):=by omega
 have d0:decide ((j:Int)<0)=false:=decide_eq_false (by omega)
 unfold vdesc at *;subst hA;generalize hr:ds[i]=r at *;clear hr;replace k0:=kx k0 eb;replace k1:=kx k1 eb;replace k2:=kx k2 eb;replace k3:=kx k3 eb;replace k4:=kx k4 eb;replace k5:=kx k5 eb;replace k6:=kx k6 eb;replace k7:=kx k7 eb;rcases hat with ⟨hk,_⟩ | ⟨hk,_,hl⟩ | ⟨hk,rfl,_,_⟩ | ⟨hk | hk,rfl,_⟩
 ·rw [stepR5 hk]
  have q5:(r.kind==5)=true:=by rw [hk];rfl
  clear hk HSN;generalize itoaB (j:Int)=t at *;go_enter Tryz.func43,Tryz.ntmps43;go_wp2_with fail;rw [← HW0.out];refine (CK.out _ (HD.out.ext eb)).mono ?_;rintro _ w1 ⟨rfl,he1⟩;have ex:=he1.trans (Ext_alloc (.cells #[.string r.nm,.int .i64 r.kind,.int .i64 r.size,.bool r.little,.slice Ab r.bytes.length cb,.slice An r.names.length cn,.slice At r.tags.length ct,.slice Ak r.kids.length ck] 67) (Ext.refl w1));go_wp2_with fail;refine (C5.out _ (HTAB.out.ext (eb.trans ex))).mono ?_;rintro _ w2 ⟨rfl,he2⟩;go_wp2;go_ret;exact ⟨rfl,(eb.trans ex).trans he2⟩
 ·rw [stepR6 hk j hl]
  obtain ⟨bn,on,rfl,hbn,hcn⟩:=HSN.out.at j hl;replace hcn:=kx hcn eb;have q5:(r.kind==5)=false:=by rw [hk];rfl
  have q6:(r.kind==6)=true:=by rw [hk];rfl
  have d1:decide ((j:Int)<(r.names.length:Int))=true:=decide_eq_true (by omega)
  have hl2:(j:Int)<(r.names.length:Int):=by omega
  generalize r.names[j]=t at *;clear hk HSN;go_enter Tryz.func43,Tryz.ntmps43;go_wp2_with fail;rw [← HW0.out];refine (CK.out _ (HD.out.ext eb)).mono ?_;rintro _ w1 ⟨rfl,he1⟩;have ex:=he1.trans (Ext_alloc (.cells #[.string r.nm,.int .i64 r.kind,.int .i64 r.size,.bool r.little,.slice Ab r.bytes.length cb,.slice (some ⟨bn,on,none⟩) r.names.length cn,.slice At r.tags.length ct,.slice Ak r.kids.length ck] 67) (Ext.refl w1));go_wp2;go_ret;exact ⟨rfl,eb.trans ex⟩
 ·rw [stepR7 hk]
  have q5:(r.kind==5)=false:=by rw [hk];rfl
  have q6:(r.kind==6)=false:=by rw [hk];rfl
  have q7:(r.kind==7)=true:=by rw [hk];rfl
  clear hk HSN;go_enter Tryz.func43,Tryz.ntmps43;go_wp2_with fail;rw [← HW0.out];refine (CK.out _ (HD.out.ext eb)).mono ?_;rintro _ w1 ⟨rfl,he1⟩;have ex:=he1.trans (Ext_alloc (.cells #[.string r.nm,.int .i64 r.kind,.int .i64 r.size,.bool r.little,.slice Ab r.bytes.length cb,.slice An r.names.length cn,.slice At r.tags.length ct,.slice Ak r.kids.length ck] 67) (Ext.refl w1));go_wp2;go_ret;exact ⟨rfl,eb.trans ex⟩
 ·rw [stepR8 hk]
  have q5:(r.kind==5)=false:=by rw [hk];rfl
  have q6:(r.kind==6)=false:=by rw [hk];rfl
  have q7:(r.kind==7)=false:=by rw [hk];rfl
  have q8:(r.kind==8)=true:=by rw [hk];rfl
  clear hk HSN;go_enter Tryz.func43,Tryz.ntmps43;go_wp2_with fail;rw [← HW0.out];refine (CK.out _ (HD.out.ext eb)).mono ?_;rintro _ w1 ⟨rfl,he1⟩;have ex:=he1.trans (Ext_alloc (.cells #[.string r.nm,.int .i64 r.kind,.int .i64 r.size,.bool r.little,.slice Ab r.bytes.length cb,.slice An r.names.length cn,.slice At r.tags.length ct,.slice Ak r.kids.length ck] 67) (Ext.refl w1));go_wp2;go_ret;exact ⟨rfl,eb.trans ex⟩
 ·rw [stepR9 hk]
  have q5:(r.kind==5)=false:=by rw [hk];rfl
  have q6:(r.kind==6)=false:=by rw [hk];rfl
  have q7:(r.kind==7)=false:=by rw [hk];rfl
  have q8:(r.kind==8)=false:=by rw [hk];rfl
  have q9:(r.kind==9)=true:=by rw [hk];rfl
  clear hk HSN;go_enter Tryz.func43,Tryz.ntmps43;go_wp2_with fail;rw [← HW0.out];refine (CK.out _ (HD.out.ext eb)).mono ?_;rintro _ w1 ⟨rfl,he1⟩;have ex:=he1.trans (Ext_alloc (.cells #[.string r.nm,.int .i64 r.kind,.int .i64 r.size,.bool r.little,.slice Ab r.bytes.length cb,.slice An r.names.length cn,.slice At r.tags.length ct,.slice Ak r.kids.length ck] 67) (Ext.refl w1));go_wp2;go_ret;exact ⟨rfl,eb.trans ex⟩
noncomputable def followI (r:DRule) (m:Nat) (s:ByteArray):Int:=match followV r m s with
 | some k=>(k:Int)
 | none => -1
theorem followI_yes {r:DRule} {m k:Nat} {s:ByteArray} (hk:k<m) (h:stepR r k=s∧0<s.size) (hn:∀ j,j<k→¬ (stepR r j=s∧0<s.size)):followI r m s=k:=by
 have:followV r m s=some k:=by
  unfold followV;rw [List.find?_range_eq_some];exact ⟨by simpa using h,List.mem_range.2 hk,fun j hj=>by have:=hn j hj;simp only [Bool.not_eq_eq_eq_not,Bool.not_true,decide_eq_false_iff_not];exact this⟩
 unfold followI;rw [this]
theorem followI_no {r:DRule} {m:Nat} {s:ByteArray} (hn:∀ j,j<m→¬ (stepR r j=s∧0<s.size)):followI r m s = -1:=by
 have:followV r m s=none:=by
  unfold followV;rw [List.find?_eq_none];intro j hj
  have:=hn j (List.mem_range.1 hj)
  simpa using this
 unfold followI;rw [this]
theorem sFollow_c (A:Option Addr) (ds:List DRule) (c i:Nat) (hi:i<ds.length) (v:DVal) (Vb:Option Addr) (vb:Nat) (Vi:Option Addr) (vi:Nat) (s:ByteArray) (w:World) (hok:descOk ds=true) (hd:RdD w A ds c) (hs:ShortD ds) (hw:WfD ds) (hv:RdV w v Vb vb Vi vi) (hvo:ownV ds ds[i] v.num v.bytes.length v.items.length=true) (hss:s.size≤1000000) :
 Gives Tryz.prog 26 #[vdesc (.slice A ds.length c),.int .i64 (i:Int),vval v (.slice Vb v.bytes.length vb) (.slice Vi v.items.length vi),.string s] w (.int .i64 (followI ds[i] v.items.length s)):=by
 have hl:=hd.len;have hil:=hv.i.len;have hkn:knownB ds (i:Int)=true:=by unfold knownB;simp [hok];omega
 have CK:=lhd (fun w h=>l7Rule_c A ds c (i:Int) w h hs hw);rw [hkn] at CK;have HD:=lhd hd;obtain ⟨bR,oR,Rb,rb,Rn,rn,Rt,rt,Rk,rk,hAR,hbR,hSR,hRR⟩:=hd.at i hi;subst hAR;have HSR:=lhd hSR;obtain ⟨W0,HW0,BA,BV,eA,hsA⟩:=boxes2' w #[.slice (some ⟨bR,oR,none⟩) ds.length c] #[.int .i64 v.num,.slice Vb v.bytes.length vb,.slice Vi v.items.length vi] 26 29;have B0:=BA.at 0;have B2:=BV.at 2;simp only [List.getElem?_toArray,List.getElem?_cons_zero,List.getElem?_cons_succ] at B0 B2;have IT:Hid (∀ j,j<v.items.length→ItemAt ds[i] v.num j):=fun j hj=>(own_item hok i hi hvo hj).2
 have CS:Hid (∀ j,j<v.items.length→∀ w',Ext w w'→Gives Tryz.prog 53 #[.agg (rcs ds[i] Rb rb Rn rn Rt rt Rk rk),.int .i64 (j:Int)] w' (.string (stepR ds[i] j))) :=
  fun j hj w' e=>sStepV_c ds[i] Rb rb Rn rn Rt rt Rk rk v.num j w' (HSR.out.ext e) (by omega) (IT.out j hj)
 have FY:Hid (∀ k,k<v.items.length→stepR ds[i] k=s→0<s.size→(∀ j,j<k→¬ (stepR ds[i] j=s∧0<s.size))→followI ds[i] v.items.length s=(k:Int)):=fun k hk h1 h2 hn=>followI_yes hk ⟨h1,h2⟩ hn
 have FN:Hid ((∀ j,j<v.items.length→¬ (stepR ds[i] j=s∧0<s.size))→followI ds[i] v.items.length s = -1):=fun hn=>followI_no hn
 obtain ⟨k0,k1,k2,k3,k4,k5,k6,k7⟩:=hRR;replace k0:=kx k0 eA;replace k1:=kx k1 eA;replace k2:=kx k2 eA;replace k3:=kx k3 eA;replace k4:=kx k4 eA;replace k5:=kx k5 eA;replace k6:=kx k6 eA;replace k7:=kx k7 eA;have CK2:Hid (∀ w',Ext W0 w'→Gives Tryz.prog 19 #[.agg #[.slice (some ⟨bR,oR,none⟩) ds.length c],.int .i64 (i:Int)] w' (.bool true)):=fun w' e=>CK.out w' (HD.out.ext (eA.trans e))
 clear hSR hd hv hvo hok IT CK HD hkn BA BV hsA HSR;generalize followI ds[i] v.items.length s=FR at *;generalize hr:ds[i]=r at *;generalize v.items.length=m at *;clear hr;unfold vdesc vval;go_enter Tryz.func26,Tryz.ntmps26;go_wp2_with fail;rw [← HW0.out];go_loopw [9] (fun ix wr=>∃ k:Nat,k≤m∧ix=.int .i64 k∧Hid (∀ j,j<k→¬ (stepR r j=s∧0<s.size))∧Ext W0 wr) (fun ix _=>m-(intOf ix).toNat)
 case atStart=>exact ⟨0,by omega,rfl,(fun j hj=>by omega),Ext.refl _⟩
 case round =>
  obtain ⟨k,hk,rfl,hno,he⟩:=hrel
  by_cases hlt:k<m
  ·have CT:=lhd (CS.out k hlt)
   have HY:=lhd (FY.out k hlt);have hki:(k:Int)<(m:Int):=by omega
   have hkl:(i:Int)<(ds.length:Int):=by omega
   have b0:=B0 wr he;have b2:=B2 wr he;generalize hx:stepR r k=x at *;have HX:=lhd hx;clear hx
   by_cases hy:x=s∧0<s.size
   ·obtain ⟨rfl,hy0⟩:=hy
    have n0:¬ x.toList=[]:=fun e=>by
     have:x=⟨#[]⟩:=baInj (by rw [e,ByteArray.toList_eq])
     rw [this] at hy0;exact absurd hy0 (by decide)
    have d0:(x.toList==[])=false:=by simpa using n0
    have d1:=ba_eqT (rfl:x=x);have HE:=lhd (HY.out rfl hy0 hno.out)
    go_wp2_with (first
     | (go_at_call 19;refine (CK2.out _ he).mono ?_;rintro _ w1 ⟨rfl,e1⟩;have x1:=he.trans e1)
     | (go_at_call 53;refine (CT.out _ (eA.trans x1)).mono ?_;rintro _ w2 ⟨rfl,e2⟩))
    go_ret;exact ⟨by rw [HE.out];rfl,eA.trans (x1.trans e2)⟩
   ·have HNN:Hid (∀ j,j<k+1→¬ (stepR r j=s∧0<s.size)):=fun j hj=>by
     rcases (by omega:j<k∨j=k) with h' | rfl
     ·exact hno.out j h'
     ·rw [HX.out];exact hy
    by_cases hx0:x=⟨#[]⟩
    ·subst hx0
     go_wp2_with (first
      | (go_at_call 19;refine (CK2.out _ he).mono ?_;rintro _ w1 ⟨rfl,e1⟩;have x1:=he.trans e1)
      | (go_at_call 53;refine (CT.out _ (eA.trans x1)).mono ?_;rintro _ w2 ⟨rfl,e2⟩))
     go_roundw
     case rel=>exact ⟨k+1,by omega,by go_num,HNN,x1.trans e2⟩
     case measure=>simp [intOf];omega
    ·have n0:¬ x.toList=[]:=fun e=>hx0 (baInj (by rw [e,ByteArray.toList_eq]))
     have d0:(x.toList==[])=false:=by simpa using n0
     have hne:¬ x=s:=fun e=>hy ⟨e,by
      subst e;rcases Nat.eq_zero_or_pos x.size with h | h
      ·exact absurd (ByteArray.ext (Array.eq_empty_of_size_eq_zero h)) hx0
      ·exact h⟩
     have d1:=ba_eqF hne;clear hne hx0 hy
     go_wp2_with (first
      | (go_at_call 19;refine (CK2.out _ he).mono ?_;rintro _ w1 ⟨rfl,e1⟩;have x1:=he.trans e1)
      | (go_at_call 53;refine (CT.out _ (eA.trans x1)).mono ?_;rintro _ w2 ⟨rfl,e2⟩))
     go_roundw
     case rel=>exact ⟨k+1,by omega,by go_num,HNN,x1.trans e2⟩
     case measure=>simp [intOf];omega
  ·obtain rfl:k=m:=by omega
   have HE:=lhd (FN.out hno.out);have b2:=B2 wr he;go_wp2;go_ret;exact ⟨by rw [HE.out];rfl,eA.trans he⟩
noncomputable def findP (ds:List DRule) (v:DVal) (p:ByteArray):Option (Nat × DVal):=(splitP p).bind fun ss=>if validV ds (ds.length-1) v=true then findV ds (ds.length-1) v ss else none
def FindOut (o:Option (Nat × DVal)) (w0:World) (e:Ending) (w':World):Prop :=
 Ext w0 w'∧((o=none∧e=.returned (.tuple #[.agg #[.int .i64 0,.slice none 0 0,.slice none 0 0],.int .i64 (-1),.bool false])) ∨
  ∃ (r:Nat) (y:DVal) (t:VT) (A1:Option Addr) (n1 c1:Nat) (A2:Option Addr) (n2 c2:Nat),o=some (r,y)∧e=.returned (.tuple #[.agg #[.int .i64 y.num,.slice A1 n1 c1,.slice A2 n2 c2],.int .i64 (r:Int),.bool true])∧Hid (t.vb=.slice A1 n1 c1∧t.vi=.slice A2 n2 c2)∧GotV w0 w' t y)
theorem GotV.shape {w w':World} {t:VT} {v:DVal} (h:GotV w w' t v):∃ (A1:Option Addr) (n1 c1:Nat) (A2:Option Addr) (n2 c2:Nat),t.vb=.slice A1 n1 c1∧t.vi=.slice A2 n2 c2:=by
 obtain ⟨A1,c1,h1⟩:=Own.shape h.own.b;obtain ⟨A2,c2,h2⟩:=Own.shape h.own.i;exact ⟨A1,_,c1,A2,_,c2,h1,h2⟩
def GaveV (w0:World) (y:DVal) (e:Ending) (w':World):Prop:=∃ (t:VT) (A1:Option Addr) (n1 c1:Nat) (A2:Option Addr) (n2 c2:Nat),e=.returned (.agg #[.int .i64 y.num,.slice A1 n1 c1,.slice A2 n2 c2])∧Hid (t.vb=.slice A1 n1 c1∧t.vi=.slice A2 n2 c2)∧GotV w0 w' t y∧Ext w0 w'
theorem GaveV.of {w0 w':World} {y:DVal} {e:Ending} (h:∃ t,e=.returned (vval y t.vb t.vi)∧GotV w0 w' t y∧Ext w0 w'):GaveV w0 y e w':=by
 obtain ⟨t,he,hg,hx⟩:=h;obtain ⟨A1,n1,c1,A2,n2,c2,h1,h2⟩:=hg.shape;exact ⟨t,A1,n1,c1,A2,n2,c2,by rw [he,vval,h1,h2],⟨h1,h2⟩,hg,hx⟩
theorem sCopyG (y:DVal) (Yb:Option Addr) (yb:Nat) (Yi:Option Addr) (yi:Nat) (w:World) (h:RdV w y Yb yb Yi yi) (hz:szV y≤1099511627776):Calls Tryz.prog 28 #[.agg #[.int .i64 y.num,.slice Yb y.bytes.length yb,.slice Yi y.items.length yi]] w (GaveV w y):=(sCopy_all y Yb yb Yi yi w h hz).mono fun _ _ h=>GaveV.of h
theorem findV_no {ds:List DRule} {i:Nat} {v:DVal} {s:ByteArray} {t:List ByteArray} (h:followV (ds.getD i noRule) v.items.length s=none):findV ds i v (s::t)=none:=by rw [findV,h];rfl
theorem followI_cases (r:DRule) (m:Nat) (s:ByteArray):(followV r m s=none∧followI r m s = -1)∨∃ k,k<m∧followV r m s=some k∧followI r m s=(k:Int):=by
 unfold followI;cases h:followV r m s with
 | none=>exact .inl ⟨rfl,rfl⟩
 | some k=>exact .inr ⟨k,(follow_some h).1,rfl,rfl⟩
theorem cell_heap {w w':World} {b i:Nat} (h:w'.heap[b]?=w.heap[b]?):w'.cell? ⟨b,i,none⟩=w.cell? ⟨b,i,none⟩:=by unfold World.cell?;simp only [h]
theorem Rd.moved {α:Type} {f:α→Value} {w wr:World} {A:Option Addr} {l:List α} {c g:Nat} (h:Rd f w A l c) (hg:w.grownBy wr (some g)) (hne:∀ b off,A=some ⟨b,off,Option.none⟩→0<l.length→b≠g):Rd f wr A l c:=by
 refine ⟨⟨h.cap,h.1.len,fun hp=>?_⟩,h.len⟩;obtain ⟨b,off,h1,h2,h3⟩:=h.base hp;have hn:=hne b off h1 hp;refine ⟨b,off,h1,Nat.lt_of_lt_of_le h2 hg.size,fun w' e i hi=>?_⟩;have h4:w'.heap[b]?=w.heap[b]?:=(Below.block e b (Nat.lt_of_lt_of_le h2 hg.size)).trans (hg.block b h2 (fun hh=>by injection hh with hh;exact hn hh))
 rw [cell_heap h4];exact h3 w (Ext.refl _) i hi
theorem Rd.notIn {w:World} {A:Option Addr} {l:List ByteArray} {c g:Nat} {n:Int} {A1 A2:Option Addr} {n1 n2 c1 c2:Nat} {T:TypeId} (h:Rd vstr w A l c) (hb:Box w g #[.int .i64 n,.slice A1 n1 c1,.slice A2 n2 c2] T):∀ b off,A=some ⟨b,off,Option.none⟩→0<l.length→b≠g:=by
 intro b off hA hp hbg;obtain ⟨b',off',h1,h2,h3⟩:=h.base hp;rw [hA] at h1;injection h1 with h1;injection h1 with h1 h4;subst h1;subst h4;subst hbg
 have h5:=h3 w (Ext.refl _) 0 hp;rw [hb.cell,Nat.add_zero] at h5
 match off,h5 with
 | 0,h5=>simp [vstr] at h5
 | 1,h5=>simp [vstr] at h5
 | 2,h5=>simp [vstr] at h5
 | k+3,h5=>simp at h5
theorem sFindPart_c (A:Option Addr) (ds:List DRule) (c:Nat) (v:DVal) (Vb:Option Addr) (vb:Nat) (Vi:Option Addr) (vi:Nat) (p:ByteArray) (w:World) (hok:descOk ds=true) (hd:RdD w A ds c) (hs:ShortD ds) (hw:WfD ds) (hv:RdV w v Vb vb Vi vi) (hz:szV v≤1099511627776) (hp:p.size≤1000000) (hzs:∀ ss,splitP p=some ss→∀ s∈ss,s.size≤1000000) :
 Calls Tryz.prog 10 #[vdesc (.slice A ds.length c),vval v (.slice Vb v.bytes.length vb) (.slice Vi v.items.length vi),.string p] w (FindOut (findP ds v p) w):=by
 have hl:=hd.len;obtain ⟨n,hn⟩:∃ n,ds.length=n+1:=⟨ds.length-1,by have:=(descOk_len hok).1;omega⟩;have hkn:knownB ds (n:Int)=true:=by unfold knownB;simp [hok];omega
 have hvB:=validB_yes hkn v;obtain ⟨W0,HW0,BA,BV,BR,eA,hsA⟩:=boxes3' w #[.slice A ds.length c] #[.int .i64 v.num,.slice Vb v.bytes.length vb,.slice Vi v.items.length vi] #[.int .i64 0,.slice none 0 0,.slice none 0 0] 26 29 29;have HD:=lhd hd;have HV:=lhd hv;have CR:=lhd (fun w=>show Gives Tryz.prog 24 #[vdesc (.slice A ds.length c)] w (.int .i64 (n:Int)) from by have h:=sRoot_c A ds c w hl;rwa [show (ds.length:Int)-1=(n:Int) by omega] at h);have CS:=lhd (fun w=>sSplitPath_c p w hp);have CV:=lhd (fun w h1 h2=>sValid_c A ds c (n:Int) v Vb vb Vi vi w h1 hs hw h2);rw [hvB] at CV;have hFP:findP ds v p=(splitP p).bind fun ss=>if validV ds n v=true then findV ds n v ss else none:=by unfold findP;rw [hn];rfl
 have b0:=BA.cell 0;have b1:=BV.cell 0;have b2:=BV.cell 1;have b3:=BV.cell 2;have BA:=lhd BA;have BV:=lhd BV;have BR:=lhd BR;have HSA:=lhd hsA;have HOK:=lhd hok;have HN:=lhd hn;clear hd hv hvB hok hsA hkn hn;rw [hFP];clear hFP;unfold vdesc vval at *;have ZT:Hid (∀ w',Ext w w'→Ext w (put3 w' (w.heap.size+1+1) 0 (.mk 0 [] (.slice none 0 0) [] (.slice none 0 0)))):=fun w' e=>e.grown (grown_put3 w' (w.heap.size+1+1) 0 (.mk 0 [] (.slice none 0 0) [] (.slice none 0 0))) (fun b hb=>by injection hb with hb;omega)
 cases hsp:splitP p with
 | none =>
  rw [hsp] at CS;simp only [Option.bind_none];clear hsp hzs b1 b2 b3;go_enter Tryz.func10,Tryz.ntmps10;go_wp2_with fail;rw [← HW0.out];refine (CR.out _).mono ?_;rintro _ w1 ⟨rfl,e1⟩;go_wp2_with fail;refine (CS.out _).mono ?_;rintro _ w2 ⟨A2,n2,c2,rfl,_,e2⟩;have x2:=e1.trans e2;have r2:=(BR.out.ext x2).cell;have t2:=(BR.out.ext x2).free;have E5:=lhd (ZT.out _ (eA.trans x2));go_wp2;exact bodyPost_ret (v:=.tuple #[.agg #[.int .i64 0,.slice none 0 0,.slice none 0 0],.int .i64 (-1),.bool false]) (by simp [results,Tryz.results10,go_sem,r2,t2]) rfl ⟨E5.out,.inl ⟨rfl,rfl⟩⟩
 | some ss =>
  have HZ:=lhd (hzs ss hsp);rw [hsp] at CS;clear hsp hzs;simp only [Option.bind_some];cases hval:validV ds n v with
  | false =>
   rw [hval] at CV;rw [if_neg (by simp)];clear hval;go_enter Tryz.func10,Tryz.ntmps10;go_wp2_with fail;rw [← HW0.out];refine (CR.out _).mono ?_;rintro _ w1 ⟨rfl,e1⟩;go_wp2_with fail;refine (CS.out _).mono ?_;rintro _ w2 ⟨A2,n2,c2,rfl,_,e2⟩;have x2:=e1.trans e2;have b0':=BA.out.at 0 _ x2;have b1':=BV.out.at 0 _ x2;have b2':=BV.out.at 1 _ x2;have b3':=BV.out.at 2 _ x2;go_wp2_with fail;refine (CV.out _ (HD.out.ext (eA.trans x2)) (HV.out.ext (eA.trans x2))).mono ?_;rintro _ w3 ⟨rfl,e3⟩;have x3:=x2.trans e3;have r2:=(BR.out.ext x3).cell;have t2:=(BR.out.ext x3).free;have E5:=lhd (ZT.out _ (eA.trans x3));go_wp2;exact bodyPost_ret (v:=.tuple #[.agg #[.int .i64 0,.slice none 0 0,.slice none 0 0],.int .i64 (-1),.bool false]) (by simp [results,Tryz.results10,go_sem,r2,t2]) rfl ⟨E5.out,.inl ⟨rfl,rfl⟩⟩
  | true =>
   rw [hval] at CV;rw [if_pos rfl];have HVAL:=lhd hval;clear hval;have HKN:=lhd (kd_int HOK.out)
   have CF:Hid (∀ (i:Nat) (hi:i<ds.length) (y:DVal) (Yb:Option Addr) (yb:Nat) (Yi:Option Addr) (yi:Nat) (s:ByteArray) (w':World),Ext w w'→RdV w y Yb yb Yi yi→validV ds i y=true→s.size≤1000000→Gives Tryz.prog 26 #[.agg #[.slice A ds.length c],.int .i64 (i:Int),.agg #[.int .i64 y.num,.slice Yb y.bytes.length yb,.slice Yi y.items.length yi],.string s] w' (.int .i64 (followI ds[i] y.items.length s))) :=
    fun i hi y Yb yb Yi yi s w' e hy hva hs'=>sFollow_c A ds c i hi y Yb yb Yi yi s w' HOK.out (HD.out.ext e) hs hw (hy.ext e) (validV_fits hva) hs'
   have CC:Hid (∀ (y:DVal) (Yb:Option Addr) (yb:Nat) (Yi:Option Addr) (yi:Nat) (w':World),Ext w w'→RdV w y Yb yb Yi yi→szV y≤1099511627776→Calls Tryz.prog 28 #[.agg #[.int .i64 y.num,.slice Yb y.bytes.length yb,.slice Yi y.items.length yi]] w' (GaveV w' y)) :=
    fun y Yb yb Yi yi w' e hy hz'=>sCopyG y Yb yb Yi yi w' (hy.ext e) hz'
   go_enter Tryz.func10,Tryz.ntmps10;go_wp2_with fail;rw [← HW0.out];refine (CR.out _).mono ?_;rintro _ w1 ⟨rfl,e1⟩;go_wp2_with fail;refine (CS.out _).mono ?_;rintro _ w2 ⟨A2,n2,c2,rfl,hR,e2⟩;obtain ⟨rfl,hSS⟩:=hR _ rfl;have x2:=e1.trans e2;have b0':=BA.out.at 0 _ x2;have b1':=BV.out.at 0 _ x2;have b2':=BV.out.at 1 _ x2;have b3':=BV.out.at 2 _ x2;go_wp2_with fail;refine (CV.out _ (HD.out.ext (eA.trans x2)) (HV.out.ext (eA.trans x2))).mono ?_;rintro _ w3 ⟨rfl,e3⟩;have x3:=x2.trans e3;have HSS:=lhd (hSS.ext e3);have hsl:=hSS.len;have B3:=lhd (BA.out.ext x3);have V3:=lhd (BV.out.ext x3);have R3:=lhd (BR.out.ext x3);have NI:=lhd (Rd.notIn HSS.out V3.out);have Z3:Hid (w.heap.size+3≤w3.heap.size):=by have:=HSA.out;have:=x3.size;show _≤_;omega
   have E3:=lhd (eA.trans x3);clear hSS hR BA BV BR CR CS CV b0 b1 b2 b3 b0' b1' b2' b3' e1 e2 e3 x2 x3 eA HW0 HSA;go_wp2_with fail;go_loopw [9,12] (fun r ix wr=>∃ (k j:Nat) (y:DVal) (Yb:Option Addr) (yb:Nat) (Yi:Option Addr) (yi:Nat),k≤ss.length∧ix=.int .i64 k∧r=.int .i64 j∧Hid (j<ds.length∧validV ds j y=true∧szV y≤1099511627776∧findV ds j y (ss.drop k)=findV ds n v ss)∧Hid (RdV w y Yb yb Yi yi)∧Hid (Box wr (w.heap.size+1) #[.int .i64 y.num,.slice Yb y.bytes.length yb,.slice Yi y.items.length yi] 29)∧Hid (Box wr w.heap.size #[.slice A ds.length c] 26)∧Hid (Box wr (w.heap.size+1+1) #[.int .i64 0,.slice none 0 0,.slice none 0 0] 29)∧Hid (Ext w wr)∧Hid (w3.grownBy wr (some (w.heap.size+1)))) (fun _ ix _=>ss.length-(intOf ix).toNat)
   case atStart=>exact ⟨0,n,v,Vb,vb,Vi,vi,by omega,by simp,rfl,⟨by have:=HN.out;omega,HVAL.out,hz,by rw [List.drop_zero]⟩,HV.out,V3.out,B3.out,R3.out,E3.out,World.grownBy.refl _ _⟩
   case round =>
    obtain ⟨k,j,y,Yb,yb,Yi,yi,hk,rfl,rfl,hf,hy,hbv,hbd,hbr,he,hg⟩:=hrel;have hjl:=hf.out.1;have b0:∀ w',Ext wr w'→w'.cell? ⟨w.heap.size,0,none⟩=some (.slice A ds.length c):=hbd.out.at 0
    have v0:∀ w',Ext wr w'→w'.cell? ⟨w.heap.size+1,0,none⟩=some (.int .i64 y.num):=hbv.out.at 0
    have v1:∀ w',Ext wr w'→w'.cell? ⟨w.heap.size+1,1,none⟩=some (.slice Yb y.bytes.length yb):=hbv.out.at 1
    have v2:∀ w',Ext wr w'→w'.cell? ⟨w.heap.size+1,2,none⟩=some (.slice Yi y.items.length yi):=hbv.out.at 2
    by_cases hlt:k<ss.length
    ·have hki:(k:Int)<(ss.length:Int):=by omega
     obtain ⟨bs,os,hA2,_,hcs⟩:=(Rd.moved HSS.out hg.out NI.out).at k hlt;subst hA2;have CF1:=lhd (fun w' e=>CF.out j hjl y Yb yb Yi yi ss[k] w' e hy.out hf.out.2.1 (HZ.out _ (List.getElem_mem hlt)));have hdr:Hid (ss.drop k=ss[k]::ss.drop (k+1)):=lhd (List.drop_eq_getElem_cons hlt)
     have hgd:Hid (ds.getD j noRule=ds[j]):=lhd (by simp [hjl])
     generalize hx:ss[k]=x at *;unfold vstr at hcs;have hJ:(j:Int)<(ds.length:Int):=by omega
     clear hx;rcases followI_cases ds[j] y.items.length x with ⟨h1,h2⟩ | ⟨m,hm,h1,h2⟩
     ·rw [h2] at CF1
      have HN:Hid (findV ds n v ss=none):=lhd (by rw [← hf.out.2.2.2,hdr.out];exact findV_no (by rw [hgd.out];exact h1))
      clear h1 h2;go_wp2_with fail;refine wp_region_quiet_below (by kernel_rfl) (by kernel_rfl) ?_;repeat (go_big_quiet_step ((go_at_call 26;exact Calls.regrown_of (CF1.out _ (by first | assumption | exact Ext_regrown _ _ he.out)))))
      refine wpQuiet_nil (qnl ?_);intro w4 ew4;have r2:=(hbr.out.ext ew4).cell;have t2:=(hbr.out.ext ew4).free;have E5:=lhd (ZT.out _ (he.out.trans ew4));go_wp2;exact bodyPost_ret (v:=.tuple #[.agg #[.int .i64 0,.slice none 0 0,.slice none 0 0],.int .i64 (-1),.bool false]) (by simp [results,Tryz.results10,go_sem,r2,t2]) rfl ⟨E5.out,.inl ⟨HN.out,rfl⟩⟩
     ·rw [h2] at CF1
      have hFV:Hid (findV ds n v ss=findV ds (kidV ds[j] y.num m) y.items[m] (ss.drop (k+1))):=lhd (by rw [← hf.out.2.2.2,hdr.out,findV_cons (by rw [hgd.out];exact h1) hm,hgd.out])
      obtain ⟨hkl,hat⟩:=own_item HOK.out j hjl (validV_fits hf.out.2.1) hm;have HAT:=lhd hat;have HVM:=lhd (validV_item hf.out.2.1 m hm);have HSZ:Hid (szV y.items[m]≤1099511627776):=lhd (by have h3:=szV_item (List.getElem_mem hm);have h4:=hf.out.2.2.1;omega)
      obtain ⟨bR,oR,Rb,rb,Rn,rn,Rt,rt,Rk,rk,hAR,_,hSR,hRR⟩:=HD.out.at j hjl;subst hAR;have HSR:=lhd hSR;obtain ⟨q0,q1,q2,q3,q4,q5,q6,q7⟩:=hRR;replace q0:=fun w' (e:Ext wr w')=>q0 w' (he.out.trans e);replace q1:=fun w' (e:Ext wr w')=>q1 w' (he.out.trans e);replace q2:=fun w' (e:Ext wr w')=>q2 w' (he.out.trans e);replace q3:=fun w' (e:Ext wr w')=>q3 w' (he.out.trans e)
      replace q4:=fun w' (e:Ext wr w')=>q4 w' (he.out.trans e);replace q5:=fun w' (e:Ext wr w')=>q5 w' (he.out.trans e);replace q6:=fun w' (e:Ext wr w')=>q6 w' (he.out.trans e);replace q7:=fun w' (e:Ext wr w')=>q7 w' (he.out.trans e)
      obtain ⟨bI,oI,Zb,zb,Zi,zi,hYi,_,hzr,hza⟩:=hy.out.i.at m hm;subst hYi;have HZR:=lhd hzr;obtain ⟨p0,p1,p2⟩:=hza
      have CI:Hid (∀ w',Ext w w'→Gives Tryz.prog 27 #[.agg (rcs ds[j] Rb rb Rn rn Rt rt Rk rk),.int .i64 y.num,.int .i64 (m:Int)] w' (.int .i64 (kidV ds[j] y.num m:Nat))) :=
       fun w' e=>sItemV_c ds[j] Rb rb Rn rn Rt rt Rk rk y.num m w' (HSR.out.ext e) (by have:=hy.out.i.len;omega) HAT.out (fun h7=>((kids_len HOK.out j hjl).2.2.2.1 h7).1) (HKN.out j hjl)
      have hm0:¬ ((m:Int)<0):=by omega
      have hmy:(m:Int)<(y.items.length:Int):=by omega
      generalize hkk:kidV ds[j] y.num m=kk at *;have hyl:=hy.out.i.len;clear h1 h2 hat hSR hzr hkk;generalize hit:y.items[m]=z at *;clear hit;generalize ds[j]=rr at *;go_wp2_with fail;refine wp_region_quiet_below (by kernel_rfl) (by kernel_rfl) ?_;repeat (go_big_quiet_step ((go_at_call 26;exact Calls.regrown_of (CF1.out _ (by first | assumption | exact Ext_regrown _ _ he.out)))))
      refine wpQuiet_nil (qnl ?_);intro w4 ew4;have he4:=he.out.trans ew4;go_wp2_with fail;refine wp_region_quiet_below (by kernel_rfl) (by kernel_rfl) ?_;repeat (go_big_quiet_step ((go_at_call 27;exact Calls.regrown_of (CI.out _ (by first | assumption | exact Ext_regrown _ _ he4)))))
      refine wpQuiet_nil (qnl ?_);intro w5 ew5;have he5:=he4.trans ew5;have e45:=ew4.trans ew5;have p0':=p0 _ he5;have p1':=p1 _ he5;have p2':=p2 _ he5;have v0':=v0 _ e45;have v1':=v1 _ e45;have v2':=v2 _ e45;have f0:=hbv.out.frees 0 _ e45;have f1:=hbv.out.frees 1 _ e45;have f2:=hbv.out.frees 2 _ e45;have G:=grown_put3 w5 (w.heap.size+1) 0 (.mk z.num [] (.slice Zb z.bytes.length zb) [] (.slice Zi z.items.length zi));have V5:Hid (Box (put3 w5 (w.heap.size+1) 0 (.mk z.num [] (.slice Zb z.bytes.length zb) [] (.slice Zi z.items.length zi))) (w.heap.size+1) #[.int .i64 z.num,.slice Zb z.bytes.length zb,.slice Zi z.items.length zi] 29):=(((hbv.out.ext e45).set 0 (.int .i64 z.num)).set 1 (.slice Zb z.bytes.length zb)).set 2 (.slice Zi z.items.length zi)
      have D5:=lhd ((hbd.out.ext e45).moved G (by intro hh;injection hh with hh;omega));have R5:=lhd ((hbr.out.ext e45).moved G (by intro hh;injection hh with hh;omega));have E5:=lhd (he5.grown G (fun b hb=>by injection hb with hb;omega));have G5:=lhd ((hg.out.trans (grown_ext e45 _)).trans G);clear hbv hbd hbr he hg G CF1 CI v0 v1 v2 b0 hcs;go_wp2;go_roundw
      case rel=>exact ⟨k+1,kk,z,Zb,zb,Zi,zi,by omega,by go_num,rfl,⟨by omega,HVM.out,HSZ.out,by rw [hFV.out]⟩,HZR.out,V5.out,D5.out,R5.out,E5.out,G5.out⟩
      case measure=>simp [intOf];omega
    ·have hk':k=ss.length:=by omega
     have HN:Hid (findV ds n v ss=some (j,y)):=lhd (by rw [← hf.out.2.2.2,hk',List.drop_length,findV])
     have CC1:=lhd (CC.out y Yb yb Yi yi wr he.out hy.out hf.out.2.2.1);have b0':=b0 _ (Ext.refl _);have v0':=v0 _ (Ext.refl _);have v1':=v1 _ (Ext.refl _);have v2':=v2 _ (Ext.refl _);subst hk';go_wp2_with fail;refine CC1.out.mono ?_;rintro _ w4 ⟨t,A5,n5,c5,A6,n6,c6,rfl,hsh,hgt,e4⟩;have hbs:=fun u hu b hb=>(hgt.own.block u hu b hb)
     have r2:=(hbr.out.ext e4).cell;have t2:=(hbr.out.ext e4).free;have G:=grown_put3 w4 (w.heap.size+1+1) 0 (.mk y.num [] (.slice A5 n5 c5) [] (.slice A6 n6 c6));have hlr:=hbr.out.lt;have E5:=lhd ((he.out.trans e4).grown G (fun b hb=>by injection hb with hb;omega));have O5:Hid (GotV w (put3 w4 (w.heap.size+1+1) 0 (.mk y.num [] (.slice A5 n5 c5) [] (.slice A6 n6 c6))) t y):=⟨hgt.val,(hgt.own.keep G (fun u hu b hb hh=>by have h1:=(hbs u hu b hb).1;injection hh with hh;omega)).down he.out.size,hgt.far⟩
     clear hbs G hgt;go_wp2;exact bodyPost_ret (v:=.tuple #[.agg #[.int .i64 y.num,.slice A5 n5 c5,.slice A6 n6 c6],.int .i64 (j:Nat),.bool true]) (by simp [results,Tryz.results10,go_sem,r2,t2]) rfl ⟨E5.out,.inr ⟨j,y,t,A5,n5,c5,A6,n6,c6,HN.out,rfl,hsh,O5.out⟩⟩
theorem OwnL.one {α:Type} {f:α→Value} {e:TypeId} {w0 w:World} (he:Ext w0 w) (x:α):OwnL f e w0 (w.alloc (.cells #[f x] e)) (.slice (some ⟨w.heap.size,0,none⟩) 1 1) [x] :=
 ⟨by simp,.inr ⟨w.heap.size,1,#[f x],rfl,he.size,heap_alloc_new w _,by simp,by simp [maxLen],by simp,by simp⟩⟩
def PathsOut (v:DVal) (i:Nat) (p:ByteArray) (w:World) (e:Ending) (w':World):Prop:=∃ (u:Value) (l:List ByteArray),e=.returned u∧OwnL vstr 9 w w' u l∧(0<l.length∧l.length≤szV v+1)∧(∀ s∈l,s.size≤p.size+21*i)∧Ext w w'
def sPathsOk (A:Option Addr) (ds:List DRule) (c:Nat) (v:DVal):Prop:=∀ (i:Nat) (_:i<ds.length) (Vb:Option Addr) (vb:Nat) (Vi:Option Addr) (vi:Nat) (p:ByteArray) (w:World),RdD w A ds c→RdV w v Vb vb Vi vi→validV ds i v=true→szV v≤1048576→p.size+21*i≤100000 →
 Calls Tryz.prog 58 #[.agg #[.slice A ds.length c],.int .i64 (i:Int),.agg #[.int .i64 v.num,.slice Vb v.bytes.length vb,.slice Vi v.items.length vi],.string p] w (PathsOut v i p w)
theorem step_size {ds:List DRule} (h:descOk ds=true) (i:Nat) (hi:i<ds.length) {n:Int} {bl m k:Nat} (ho:ownV ds ds[i] n bl m=true) (hk:k<m):(stepR ds[i] k).size≤20:=by
 obtain ⟨_,_,hc⟩:=step_facts h i hi ho hk;rcases hc with ⟨_,e,hk⟩ | hc | hc | hc | hc
 ·exact good_size (.inl ⟨k,hk,e⟩)
 ·exact good_size (.inr (.inl hc))
 ·exact good_size (.inr (.inr (.inl hc)))
 ·exact good_size (.inr (.inr (.inr (.inl hc))))
 ·exact good_size (.inr (.inr (.inr (.inr hc))))
theorem sPaths_of (A:Option Addr) (ds:List DRule) (c:Nat) (hok:descOk ds=true) (v:DVal) (H:∀ x∈v.items,sPathsOk A ds c x):sPathsOk A ds c v:=by
 intro i hi Vb vb Vi vi p w hd hv hva hz hp;have hdl:=hd.len;have hvl:=hv.i.len;have hml:=items_le v;have hown:=validV_fits hva;obtain ⟨bR,oR,Rb,rb,Rn,rn,Rt,rt,Rk,rk,hAR,_,hSR,hRR⟩:=hd.at i hi;subst hAR;have HKN:=kd_int hok i hi
 have CI:Hid (∀ k,k<v.items.length→∀ w',Ext w w'→Gives Tryz.prog 27 #[.agg (rcs ds[i] Rb rb Rn rn Rt rt Rk rk),.int .i64 v.num,.int .i64 (k:Int)] w' (.int .i64 (kidV ds[i] v.num k:Nat))) :=
  fun k hk w' e=>sItemV_c ds[i] Rb rb Rn rn Rt rt Rk rk v.num k w' (hSR.ext e) (by omega) (own_item hok i hi hown hk).2 (fun h7=>((kids_len hok i hi).2.2.2.1 h7).1) HKN
 have CS:Hid (∀ k,k<v.items.length→∀ w',Ext w w'→Gives Tryz.prog 53 #[.agg (rcs ds[i] Rb rb Rn rn Rt rt Rk rk),.int .i64 (k:Int)] w' (.string (stepR ds[i] k))) :=
  fun k hk w' e=>sStepV_c ds[i] Rb rb Rn rn Rt rt Rk rk v.num k w' (hSR.ext e) (by omega) (own_item hok i hi hown hk).2
 have CP:Hid (∀ k (hk:k<v.items.length) (q:ByteArray) (Zb:Option Addr) (zb:Nat) (Zi:Option Addr) (zi:Nat),RdV w v.items[k] Zb zb Zi zi→q.size+21*kidV ds[i] v.num k≤100000→∀ w',Ext w w'→Calls Tryz.prog 58 #[.agg #[.slice (some ⟨bR,oR,none⟩) ds.length c],.int .i64 (kidV ds[i] v.num k:Nat),.agg #[.int .i64 v.items[k].num,.slice Zb v.items[k].bytes.length zb,.slice Zi v.items[k].items.length zi],.string q] w' (PathsOut v.items[k] (kidV ds[i] v.num k) q w')) :=
  fun k hk q Zb zb Zi zi hr hq w' e=>H _ (List.getElem_mem hk) _ (by have:=(own_item hok i hi hown hk).1;omega) Zb zb Zi zi q w' (hd.ext e) (hr.ext e) (validV_item hva k hk) (by have:=szV_item (List.getElem_mem hk);omega) hq
 have HKL:Hid (∀ k,k<v.items.length→kidV ds[i] v.num k<i∧(stepR ds[i] k).size≤20):=fun k hk=>⟨(own_item hok i hi hown hk).1,step_size hok i hi hown hk⟩
 have HIT:=lhd hv.i;have HSZ:Hid (∀ k,((v.items.take k).map szV).sum+v.items.length≤szV v):=fun k=>by have:=szVs_le v.items k;have:=szVs_le_szV v;omega
 obtain ⟨W0,HW0,BA,BV,eA,hsA⟩:=boxes2' w #[.slice (some ⟨bR,oR,none⟩) ds.length c] #[.int .i64 v.num,.slice Vb v.bytes.length vb,.slice Vi v.items.length vi] 26 29;have a0:∀ w',Ext W0 w'→w'.cell? ⟨w.heap.size,0,none⟩=some (.slice (some ⟨bR,oR,none⟩) ds.length c):=BA.at 0
 have v0:∀ w',Ext W0 w'→w'.cell? ⟨w.heap.size+1,0,none⟩=some (.int .i64 v.num):=BV.at 0
 have v2:∀ w',Ext W0 w'→w'.cell? ⟨w.heap.size+1,2,none⟩=some (.slice Vi v.items.length vi):=BV.at 2
 obtain ⟨q0,q1,q2,q3,q4,q5,q6,q7⟩:=hRR;replace q0:=kx q0 eA;replace q1:=kx q1 eA;replace q2:=kx q2 eA;replace q3:=kx q3 eA;replace q4:=kx q4 eA;replace q5:=kx q5 eA;replace q6:=kx q6 eA;replace q7:=kx q7 eA;have EA:=lhd eA;have HSA:=lhd hsA;have O0:Hid (OwnL vstr 9 W0 (W0.alloc (.cells #[.string p] 9)) (.slice (some ⟨W0.heap.size,0,none⟩) 1 1) [p]):=OwnL.one (Ext.refl W0) p
 have hil:(i:Int)<(ds.length:Int):=by omega
 generalize hSM:(fun k=>((v.items.take k).map szV).sum)=SM at *;have HSM:Hid (∀ k (hk:k<v.items.length),SM (k+1)=SM k+szV v.items[k]):=fun k hk=>by rw [← hSM];exact szVs_take v.items k hk
 have HS0:Hid (SM 0=0):=by show _=_;rw [← hSM];simp
 replace HSZ:Hid (∀ k,SM k+v.items.length≤szV v):=fun k=>by have:=HSZ.out k;rw [← hSM];exact this
 clear hd hv hva hown hSR HKN hSM BA BV eA hsA H;generalize hKD:(fun k=>kidV ds[i] v.num k)=KD at *;have hKD':∀ k,kidV ds[i] v.num k=KD k:=fun k=>by rw [← hKD]
 generalize hST:(fun k=>stepR ds[i] k)=ST at *;have hST':∀ k,stepR ds[i] k=ST k:=fun k=>by rw [← hST]
 simp only [hKD',hST'] at CI CS CP HKL;clear hKD hKD' hST hST';generalize ds[i]=rr at *;go_enter Tryz.func58,Tryz.ntmps58;go_wp2_with fail;rw [← HW0.out] at *;go_loopw [9,10] (fun u ix wr=>∃ (k:Nat) (l:List ByteArray),k≤v.items.length∧ix=.int .i64 k∧Hid (OwnL vstr 9 W0 wr u l)∧Hid (0<l.length∧l.length≤SM k+k+1)∧Hid (∀ s∈l,s.size≤p.size+21*i)∧Ext W0 wr) (fun _ ix _=>v.items.length-(intOf ix).toNat)
 case atStart=>exact ⟨0,[p],by omega,by simp,(by have h:=HSA.out;rw [show w.heap.size+1+1=W0.heap.size by omega];exact O0),⟨by simp,by simp⟩,(fun s h=>by rw [List.mem_singleton.1 h];omega),Ext_alloc _ (Ext.refl _)⟩
 case round =>
  obtain ⟨k,l,hk,rfl,ho,hl,hss,he⟩:=hrel
  by_cases hlt:k<v.items.length
  ·have hki:(k:Int)<(v.items.length:Int):=by omega
   obtain ⟨bI,oI,Zb,zb,Zi,zi,hVi,_,hzr,hza⟩:=HIT.out.at k hlt;subst hVi;obtain ⟨p0,p1,p2⟩:=hza;replace p0:=fun w' (e:Ext W0 w')=>p0 w' (EA.out.trans e);replace p1:=fun w' (e:Ext W0 w')=>p1 w' (EA.out.trans e);replace p2:=fun w' (e:Ext W0 w')=>p2 w' (EA.out.trans e)
   have hkl:=HKL.out k hlt;have CI1:=lhd (CI.out k hlt);have CS1:=lhd (CS.out k hlt);have CP1:Hid (∀ q:ByteArray,q.size+21*KD k≤100000→∀ w',Ext w w'→Calls Tryz.prog 58 #[.agg #[.slice (some ⟨bR,oR,none⟩) ds.length c],.int .i64 (KD k:Nat),.agg #[.int .i64 v.items[k].num,.slice Zb v.items[k].bytes.length zb,.slice Zi v.items[k].items.length zi],.string q] w' (PathsOut v.items[k] (KD k) q w')):=fun q hq w' e=>CP.out k hlt q Zb zb Zi zi hzr hq w' e
   have HM:=lhd (HSM.out k hlt);have hzk:=HSZ.out (k+1);have hyz:szV v.items[k]≤1048576:=by have:=HM.out;omega
   have hzk':SM k+k+1≤2097154:=by have:=HSZ.out k;omega
   generalize v.items[k]=y at *;generalize KD k=kk at *;generalize ST k=st at *;have b1:¬ 9223372036854775807<p.size+1:=by omega
   have b2:¬ 9223372036854775807<p.size+1+st.size:=by have:=hkl.2;omega
   have hsz2:(p++(⟨#[47]⟩:ByteArray)).size=p.size+1:=by rw [ByteArray.size_append];rfl
   have HSZ2:=lhd hsz2;have b3:¬ 9223372036854775807<(p++(⟨#[47]⟩:ByteArray)).size+st.size:=by rw [hsz2];exact b2
   have HQ:Hid ((p++(⟨#[47]⟩:ByteArray)++st).size+21*kk≤p.size+21*i):=by have:=hkl.1;have:=hkl.2;show _≤_;rw [ByteArray.size_append,hsz2];omega
   clear hsz2 hzr;obtain ⟨W3,hW3⟩:∃ W3,W3=wr.alloc (.cells (rcs rr Rb rb Rn rn Rt rt Rk rk) 67):=⟨_,rfl⟩;have HW3:=lhd hW3;have B3:Hid (Box W3 wr.heap.size (rcs rr Rb rb Rn rn Rt rt Rk rk) 67):=by rw [hW3];exact Box.new _ _ _
   have E3:Hid (Ext W0 W3):=by rw [hW3];exact Ext_alloc _ he
   have ho3:Hid (OwnL vstr 9 W0 W3 u9 l):=by rw [hW3];exact OwnL.ext ho.out (Ext_alloc _ (Ext.refl _))
   clear hW3;go_wp2_with fail;rw [← HW3.out];have r0:∀ w',Ext W3 w'→w'.cell? ⟨wr.heap.size,0,none⟩=some (.string rr.nm):=B3.out.at 0
   have r1:∀ w',Ext W3 w'→w'.cell? ⟨wr.heap.size,1,none⟩=some (.int .i64 rr.kind):=B3.out.at 1
   have r2:∀ w',Ext W3 w'→w'.cell? ⟨wr.heap.size,2,none⟩=some (.int .i64 rr.size):=B3.out.at 2
   have r3:∀ w',Ext W3 w'→w'.cell? ⟨wr.heap.size,3,none⟩=some (.bool rr.little):=B3.out.at 3
   have r4:∀ w',Ext W3 w'→w'.cell? ⟨wr.heap.size,4,none⟩=some (.slice Rb rr.bytes.length rb):=B3.out.at 4
   have r5:∀ w',Ext W3 w'→w'.cell? ⟨wr.heap.size,5,none⟩=some (.slice Rn rr.names.length rn):=B3.out.at 5
   have r6:∀ w',Ext W3 w'→w'.cell? ⟨wr.heap.size,6,none⟩=some (.slice Rt rr.tags.length rt):=B3.out.at 6
   have r7:∀ w',Ext W3 w'→w'.cell? ⟨wr.heap.size,7,none⟩=some (.slice Rk rr.kids.length rk):=B3.out.at 7
   replace a0:=fun w' (e:Ext W3 w')=>a0 w' (E3.out.trans e);replace v0:=fun w' (e:Ext W3 w')=>v0 w' (E3.out.trans e);replace v2:=fun w' (e:Ext W3 w')=>v2 w' (E3.out.trans e)
   replace p0:=fun w' (e:Ext W3 w')=>p0 w' (E3.out.trans e);replace p1:=fun w' (e:Ext W3 w')=>p1 w' (E3.out.trans e);replace p2:=fun w' (e:Ext W3 w')=>p2 w' (E3.out.trans e)
   have HAB:lv2 (fun w'=>Ext W3 w') (fun _=>True) 2 W3.drew:=⟨Ext_drew (Ext.refl _),trivial⟩
   obtain ⟨A9,n9,rfl⟩:∃ A c,u9=.slice A l.length c:=Own.shape ho3.out;refine wp_region_C (C:=fun j=>lv2 (fun w'=>Ext W3 w') (fun _=>True) (([0,1,1,0,1,0,1,0,1,0,1,1,0,0,1,0,1,1,0,0,0]:List Nat).getD j 0)) (by kernel_rfl) ?_;refine tkD 0 (i:=0) (v:=?_) rfl trivial ?_ ?_;rotate_left
   ·(intro w hSw;clear hSw;go_simp;try with_reducible rfl)
   try simp only [Act.put,lpa,lpz,lps]
   refine tkD 0 (i:=3) (v:=?_) rfl trivial ?_ ?_;rotate_left
   ·(intro w hSw;clear hSw;go_simp;try with_reducible rfl)
   try simp only [Act.put,lpa,lpz,lps]
   refine tkD 0 (i:=5) (v:=?_) rfl trivial ?_ ?_;rotate_left
   ·(intro w hSw;clear hSw;go_simp;try with_reducible rfl)
   try simp only [Act.put,lpa,lpz,lps]
   refine tkD 0 (i:=7) (v:=?_) rfl trivial ?_ ?_;rotate_left
   ·(intro w hSw;clear hSw;go_simp;try with_reducible rfl)
   try simp only [Act.put,lpa,lpz,lps]
   refine tkD 0 (i:=9) (v:=?_) rfl trivial ?_ ?_;rotate_left
   ·(intro w hSw;clear hSw;go_simp;try with_reducible rfl)
   try simp only [Act.put,lpa,lpz,lps]
   refine tkD 0 (i:=12) (v:=?_) rfl trivial ?_ ?_;rotate_left
   ·(intro w hSw;clear hSw;go_simp;try with_reducible rfl)
   try simp only [Act.put,lpa,lpz,lps]
   refine tkD 0 (i:=13) (v:=?_) rfl trivial ?_ ?_;rotate_left
   ·(intro w hSw;clear hSw;go_simp;try with_reducible rfl)
   try simp only [Act.put,lpa,lpz,lps]
   refine tkD 0 (i:=15) (v:=?_) rfl trivial ?_ ?_;rotate_left
   ·(intro w hSw;clear hSw;go_simp;try with_reducible rfl)
   try simp only [Act.put,lpa,lpz,lps]
   refine tkD 1 (i:=1) (v:=?_) rfl (And.left HAB) ?_ ?_;rotate_left
   ·(intro w hSw;have hfact:Ext W3 w:=hSw;clear hSw;go_simp;try with_reducible rfl)
   try simp only [Act.put,lpa,lpz,lps]
   refine tkD 1 (i:=2) (v:=?_) rfl (And.left HAB) ?_ ?_;rotate_left
   ·(intro w hSw;have hfact:Ext W3 w:=hSw;clear hSw;go_simp;try with_reducible rfl)
   try simp only [Act.put,lpa,lpz,lps]
   refine tkD 1 (i:=4) (v:=?_) rfl (And.left HAB) ?_ ?_;rotate_left
   ·(intro w hSw;have hfact:Ext W3 w:=hSw;clear hSw;go_simp;try with_reducible rfl)
   try simp only [Act.put,lpa,lpz,lps]
   refine tkD 1 (i:=8) (v:=?_) rfl (And.left HAB) ?_ ?_;rotate_left
   ·(intro w hSw;have hfact:Ext W3 w:=hSw;clear hSw;go_simp;try with_reducible rfl)
   try simp only [Act.put,lpa,lpz,lps]
   refine tkD 1 (i:=10) (v:=?_) rfl (And.left HAB) ?_ ?_;rotate_left
   ·(intro w hSw;have hfact:Ext W3 w:=hSw;clear hSw;go_simp;try with_reducible rfl)
   try simp only [Act.put,lpa,lpz,lps]
   refine tkD 1 (i:=11) (v:=?_) rfl (And.left HAB) ?_ ?_;rotate_left
   ·(intro w hSw;have hfact:Ext W3 w:=hSw;clear hSw;go_simp;try with_reducible rfl)
   try simp only [Act.put,lpa,lpz,lps]
   refine tkD 1 (i:=14) (v:=?_) rfl (And.left HAB) ?_ ?_;rotate_left
   ·(intro w hSw;have hfact:Ext W3 w:=hSw;clear hSw;go_simp;try with_reducible rfl)
   try simp only [Act.put,lpa,lpz,lps]
   refine wpAnyC_one (i:=6) (by kernel_rfl) rfl (fun K hK=>?_);go_simp;go_at_call 27;refine (CI1.out _ (EA.out.trans (E3.out.trans (Ext_drew (Ext.refl _))))).mono ?_;rintro _ w5 ⟨rfl,e5⟩;have E5:Ext W3 w5:=(Ext_drew (Ext.refl _)).trans e5
   refine Shut.out hK _ _ E5 ?_;(try simp only [Act.put,lpa,lpz,lps]);refine wpAnyC_one (i:=16) (by kernel_rfl) rfl (fun K hK=>?_);go_simp;go_at_call 53;refine (CS1.out _ (EA.out.trans (E3.out.trans E5))).mono ?_;rintro _ w6 ⟨rfl,e6⟩;have E6:Ext W3 w6:=E5.trans e6
   refine Shut.out hK _ _ E6 ?_;(try simp only [Act.put,lpa,lpz,lps]);refine tkD 1 (i:=17) (v:=?_) rfl (E6) ?_ ?_;rotate_left
   ·(intro w hSw;clear hSw;go_simp;try with_reducible rfl)
   try simp only [Act.put,lpa,lpz,lps]
   refine wpAnyC_one (i:=18) (by kernel_rfl) rfl (fun K hK=>?_);go_simp;go_at_call 58;refine (CP1.out _ (by have:=HQ.out;omega) _ (EA.out.trans (E3.out.trans E6))).mono ?_;rintro _ w7 ⟨u2,l2,rfl,hO2,hl2,hs2,e7⟩;have E7:Ext W3 w7:=E6.trans e7
   obtain ⟨A7,c7,rfl,hR7⟩:=OwnL.rd hO2 (by omega);refine Shut.out hK _ _ trivial ?_;(try simp only [Act.put,lpa,lpz,lps]);refine wpAnyC_one (i:=19) (by kernel_rfl) rfl (fun K hK=>?_);refine step_appL rfl (.tmp 26) (.tmp 44) _ rfl E_str (by omega) W0 _ vstr (fun _=>rfl) (.slice A9 l.length n9) rfl A7 l2.length c7 rfl l l2 (ho3.out.ext E7) (E3.out.trans E7) rfl (fun hp=>src0 hR7.1 (Ext.refl _) hp) (by have:=hl.out.2;omega) ?_;intro v8 w8 ho8 he8;refine Shut.out hK _ _ trivial ?_;(try simp only [Act.put,lpa,lpz,lps]);refine wpAnyC_one (i:=20) (by kernel_rfl) rfl (fun K hK=>?_);go_simp;refine Shut.out hK _ _ trivial ?_;(try simp only [Act.put,lpa,lpz,lps]);refine wpAnyC_done (by kernel_rfl) ?_ _;have hsz:=HM.out
   have hl8:Hid (0<(l++l2).length∧(l++l2).length≤SM (k+1)+(k+1)+1):=by
    have h1:=hl.out;show _∧_;rw [List.length_append];omega
   have hs8:Hid (∀ s∈l++l2,s.size≤p.size+21*i):=fun s hs=>by
    rcases List.mem_append.1 hs with h | h
    ·exact hss.out s h
    ·have h1:=hs2 s h;have h2:=HQ.out;omega
   have HO8:=lhd ho8;clear hl hss ho ho8 hsz HAB hs2 hl2 hO2 hR7 ho3;go_wp2;go_roundw
   case rel=>exact ⟨k+1,l++l2,by omega,by go_num,HO8.out,hl8,hs8,he8⟩
   case measure=>simp [intOf];omega
  ·obtain rfl:k=v.items.length:=by omega
   obtain ⟨A9,n9,rfl⟩:∃ A c,u9=.slice A l.length c:=Own.shape ho.out;have hls:Hid (0<l.length∧l.length≤szV v+1):=by have h1:=hl.out;have h2:=HSZ.out v.items.length;show _∧_;omega
   have HO8:Hid (OwnL vstr 9 w wr (.slice A9 l.length n9) l):=OwnL.down ho.out EA.out.size
   go_wp2;go_ret;exact ⟨_,l,rfl,HO8.out,hls.out,hss.out,EA.out.trans he⟩
theorem sPaths_all (A:Option Addr) (ds:List DRule) (c:Nat) (hok:descOk ds=true):∀ v,sPathsOk A ds c v:=fun v=>DVal.ind (sPaths_of A ds c hok) v
def PathOut (wb w:World) (p:Nat) (A:Option Addr) (l:List UInt8) (c:Nat) (e:Ending) (w':World):Prop:=∃ s:ByteArray,e=.returned (.string s)∧s.size≤3000∧Cur wb w' p A l c∧w.grownBy w' (some p)
theorem sPath_c (Ad:Option Addr) (ds:List DRule) (cd:Nat) (hok:descOk ds=true) (n:Nat) (hn:ds.length=n+1) (hn5:n≤100) (wb w:World) (p:Nat) (A:Option Addr) (l:List UInt8) (c:Nat) (hA:Bs wb A l c) (hC:Cur wb w p A l c) (v:DVal) (Vb:Option Addr) (vb:Nat) (Vi:Option Addr) (vi:Nat) (hd:RdD w Ad ds cd) (hv:RdV w v Vb vb Vi vi) (hva:validV ds n v=true) (hz:szV v≤1048576) :
 Calls Tryz.prog 36 #[.pointer (some ⟨p,0,none⟩),.agg #[.slice Ad ds.length cd],.agg #[.int .i64 v.num,.slice Vb v.bytes.length vb,.slice Vi v.items.length vi]] w (PathOut wb w p A l c):=by
 have hdl:=hd.len;have hpl:=hC.lt;obtain ⟨W0,HW0,BA,BV,eA,hsA⟩:=boxes2' w #[.slice Ad ds.length cd] #[.int .i64 v.num,.slice Vb v.bytes.length vb,.slice Vi v.items.length vi] 26 29
 have CP:Hid (Calls Tryz.prog 58 #[.agg #[.slice Ad ds.length cd],.int .i64 ((ds.length:Int)-1),.agg #[.int .i64 v.num,.slice Vb v.bytes.length vb,.slice Vi v.items.length vi],.string ⟨#[]⟩] W0 (PathsOut v n ⟨#[]⟩ W0)):=by
  have h:=sPaths_all Ad ds cd hok v n (by omega) Vb vb Vi vi ⟨#[]⟩ W0 (hd.ext eA) (hv.ext eA) hva hz (by show 0+_≤_;omega)
  rwa [show (n:Int)=(ds.length:Int)-1 by omega] at h
 have CB:=lhd (fun n w h1 hn=>l1Below_c n wb w p A l c hA h1 hn);have CL:=lhd (fun ns h1 h2 n h3 cs h4 w h5=>l1StrLit_c ns h1 h2 n h3 cs h4 wb w p A l c hA h5);have HC:=lhd hC;have a0:=BA.cell 0;have v0:=BV.cell 0;have v1:=BV.cell 1;have v2:=BV.cell 2;have hd1:(1:Int)≤(ds.length:Int):=by omega
 have EA:=lhd eA;have HS:=lhd hsA;rw [HW0.out] at a0 v0 v1 v2;clear hd hv hva hn hC BA BV hsA hok;go_enter Tryz.func36,Tryz.ntmps36;go_wp2_with fail;rw [← HW0.out];refine CP.out.mono ?_;rintro _ w1 ⟨u,l1,rfl,ho,hl,hs,e1⟩;obtain ⟨A5,c5,rfl,hR⟩:=OwnL.rd ho (by omega);have C1:=lhd (HC.out.ext (eA.trans e1));have hlb:(l1.length:Int)≤16777216:=by omega
 have HO:=lhd ho;have HL:=lhd hl;have HSS:=lhd hs;have E1:=lhd (eA.trans e1);clear CP ho hs hR a0 v0 v1 v2;go_wp2_with fail;refine (CB.out _ _ C1.out hlb).mono ?_;rintro _ w2 ⟨x,hx,rfl,hC2,hg2⟩;have hxl:x<l1.length:=by unfold below at hx;split at hx<;>omega
 have hxi:(x:Int)<(l1.length:Int):=by omega
 have HO2:=lhd (OwnL.moved HO.out hg2 (fun hh=>by have h1:=(World.ownsRow.lt HO.out p hh).1;have h2:=HS.out;omega));obtain ⟨A6,c6,h6,hR6⟩:=OwnL.rd HO2.out (by omega);injection h6 with h6 _ h7
 subst h6;subst h7;obtain ⟨bs,os,hA5,_,hcs⟩:=hR6.at x hxl;subst hA5;have hc0:=hcs _ (Ext.refl _);unfold vstr at hc0;have hsx:=HSS.out l1[x] (List.getElem_mem hxl);have C2:=lhd hC2;have G2:=lhd ((grown_ext E1.out (some p)).trans hg2);generalize l1[x]=s at *;have hs3:s.size≤2200:=by change s.size≤0+21*n at hsx;omega
 clear hC2 hg2 hcs hR6 hx hsx HO HO2 C1;go_wp2_with fail;refine (CB.out _ _ C2.out (by omega)).mono ?_;rintro _ w3 ⟨y,hy,rfl,hC3,hg3⟩;have C3:=lhd hC3;have G3:=lhd (G2.out.trans hg3);clear hC3 hg3 hy hc0 C2;rcases (by omega:y=0∨y=1∨2≤y) with rfl | rfl | hy2
 ·have CL1:=lhd (CL.out [⟨#[47,48]⟩,⟨#[47,42]⟩,⟨#[47,63]⟩,⟨#[47,43]⟩,⟨#[47,112,49]⟩,⟨#[47,48,48]⟩,⟨#[47]⟩,⟨#[120]⟩,⟨#[47,57]⟩] (by simp) (by simp) 9 rfl _ rfl w3 C3.out)
  have HB:Hid (∀ x∈[(⟨#[47,48]⟩:ByteArray),⟨#[47,42]⟩,⟨#[47,63]⟩,⟨#[47,43]⟩,⟨#[47,112,49]⟩,⟨#[47,48,48]⟩,⟨#[47]⟩,⟨#[120]⟩,⟨#[47,57]⟩],x.size≤4):=lhd (by decide)
  go_wp2_with fail;refine CL1.out.mono ?_;rintro _ w4 ⟨x4,hx4,rfl,hC4,hg4⟩;have hx44:=HB.out _ hx4;have HC4:=lhd hC4;have HG4:=lhd (G3.out.trans hg4);have b1:¬ 9223372036854775807<s.size+x4.size:=by omega
  have HSZ:Hid ((s++x4).size≤3000):=by show _≤_;rw [ByteArray.size_append];omega
  clear hx4 hC4 hg4 CL1 HB;go_wp2;go_ret;exact ⟨_,rfl,HSZ.out,HC4.out,HG4.out⟩
 ·have CL1:=lhd (CL.out [⟨#[112,49]⟩,⟨#[47]⟩,⟨#[47,47]⟩,⟨#[47,112,49]⟩,⟨#[47,48]⟩] (by simp) (by simp) 5 rfl _ rfl w3 C3.out)
  have HB:Hid (∀ x∈[(⟨#[112,49]⟩:ByteArray),⟨#[47]⟩,⟨#[47,47]⟩,⟨#[47,112,49]⟩,⟨#[47,48]⟩],x.size≤4):=lhd (by decide)
  go_wp2_with fail;refine CL1.out.mono ?_;rintro _ w4 ⟨x4,hx4,rfl,hC4,hg4⟩;have hx44:=HB.out _ hx4;have HC4:=lhd hC4;have HG4:=lhd (G3.out.trans hg4);clear hx4 hC4 hg4 CL1 HB;go_wp2;go_ret;exact ⟨_,rfl,by omega,HC4.out,HG4.out⟩
 ·have d0:((y:Int)==0)=false:=by simpa using (by omega:¬ (y:Int)=0)
  have d1:((y:Int)==1)=false:=by simpa using (by omega:¬ (y:Int)=1)
  have d0':¬ (y:Int)=0:=by omega
  have d1':¬ (y:Int)=1:=by omega
  have d0'':¬ y=0:=by omega
  have d1'':¬ y=1:=by omega
  go_wp2;go_ret;exact ⟨_,rfl,by omega,C3.out,G3.out⟩
end Go.Proofs.YtlfhealneccdkaaGreatDoor
