/- Texts, laid into one. -/
import Derived.Test.YtlfhealneccdkaaGreatDoorZDf5
import Derived.Test.YtlfhealneccdkaaGreatDoorZDf8
set_option linter.unusedVariables false
set_option linter.unusedSimpArgs false
set_option maxRecDepth 100000
set_option maxHeartbeats 16000000
namespace Go.Proofs.YtlfhealneccdkaaGreatDoor
def allN (n:Nat) (f:Nat→Bool):Bool:=(List.range n).all f
theorem allN_no {n k:Nat} {f:Nat→Bool} (hk:k<n) (h:f k=false):allN n f=false:=by
 unfold allN;rw [Bool.eq_false_iff];intro hall
 have:=List.all_eq_true.1 hall k (by simpa using hk);rw [h] at this;cases this
theorem allN_yes {n:Nat} {f:Nat→Bool} (h:∀ j,j<n→f j=true):allN n f=true:=List.all_eq_true.2 fun j hj=>h j (by simpa using hj)
theorem upTo {k:Nat} {f:Nat→Bool} (h:∀ j,j<k→f j=true) (hk:f k=true):∀ j,j<k+1→f j=true:=by
 intro j hj;rcases (by omega:j<k∨j=k) with hj | rfl
 ·exact h j hj
 ·exact hk
def hasNm (l:List ByteArray) (s:ByteArray):Bool:=l.any fun x=>x.toList==s.toList
theorem hasNm_at {l:List ByteArray} {s:ByteArray} {k:Nat} (hk:k<l.length) (h:(l[k].toList==s.toList)=true):hasNm l s=true:=List.any_eq_true.2 ⟨l[k],List.getElem_mem hk,h⟩
theorem hasNm_none {l:List ByteArray} {s:ByteArray} (h:∀ k (hk:k<l.length),(l[k].toList==s.toList)=false):hasNm l s=false:=by
 unfold hasNm;rw [List.any_eq_false];intro x hx;obtain ⟨k,hk,rfl⟩:=List.getElem_of_mem hx;rw [h k hk];simp
def limR (r:DRule):Int:=if r.kind=1∧1≤r.size∧r.size≤4 then 256^r.size.toNat-1 else -1
def limD (ds:List DRule) (i:Int):Int:=if 0≤i then (match ds[i.toNat]? with | some r=>limR r | none => -1) else -1
theorem limR_cases (r:DRule):limR r = -1∨limR r=255∨limR r=65535∨limR r=16777215∨limR r=4294967295:=by
 unfold limR
 split
 ·rename_i h
  rcases (by omega:r.size=1∨r.size=2∨r.size=3∨r.size=4) with e | e | e | e<;>rw [e]<;>simp
 ·exact .inl rfl
theorem limD_cases (ds:List DRule) (i:Int):limD ds i = -1∨limD ds i=255∨limD ds i=65535∨limD ds i=16777215∨limD ds i=4294967295:=by
 unfold limD
 split
 ·split
  ·exact limR_cases _
  ·exact .inl rfl
 ·exact .inl rfl
def plainB (r:DRule) (size bytes names tags:Bool) (kids:Int):Bool :=
 (size||r.size==0)&&(bytes||r.bytes.length==0)&&(names||r.names.length==0)&&(tags||r.tags.length==0)&&(decide (kids<0)||decide ((r.kids.length:Int)=kids))
def between (n lo hi:Int):Bool:=decide (lo≤n)&&decide (n≤hi)
def nameOk (l:List ByteArray) (i:Nat):Bool:=match l[i]? with | some s=>isName s&&!hasNm (l.take i) s | none=>true
def seqOk (r:DRule):Bool:=plainB r false false true false (-1)&&r.kids.length==r.names.length&&between r.kids.length 1 8&&allN r.names.length (nameOk r.names)
def tagOk (lim:Int) (l:List Int) (i:Nat):Bool:=match l[i]? with | some t=>between t 0 lim&&(i==0||decide (l.getD (i-1) 0<t)) | none=>true
def choOk (ds:List DRule) (r:DRule):Bool:=plainB r false false false true (r.tags.length+1)&&between r.tags.length 1 8&&allN r.tags.length (tagOk (limD ds (r.kids.getD 0 0)) r.tags)
def kindOk (ds:List DRule) (r:DRule):Bool :=
 if r.kind=1 then plainB r true false false false 0&&between r.size 1 4&&(!r.little||decide (1<r.size))
 else if r.kind=2 then plainB r false true false false 0&&between r.bytes.length 1 16
 else if r.kind=3 then plainB r true false false false 0&&between r.size 1 64
 else if r.kind=4 then plainB r false false false false 1&&decide (0<limD ds (r.kids.getD 0 0))
 else if r.kind=5 then plainB r false false false false 2&&decide (0<limD ds (r.kids.getD 0 0))
 else if r.kind=6 then seqOk r
 else if r.kind=7 then choOk ds r
 else if r.kind=8 then plainB r false false false false 1
 else if r.kind=9 then plainB r false false false false 1
 else if r.kind=10 then plainB r false true false false 0&&r.bytes.length==1&&!(r.bytes.getD 0 0==92)
 else false
def freshNm (ds:List DRule) (r:DRule) (j:Nat):Bool:=match ds[j]? with | some q=>!(q.nm.toList==r.nm.toList) | none=>true
def kidOk (l:List Int) (i:Nat) (j:Nat):Bool:=match l[j]? with | some k=>between k 0 ((i:Int)-1) | none=>true
def ruleOk (ds:List DRule) (i:Nat):Bool:=match ds[i]? with
 | some r=>isName r.nm&&(!r.little||r.kind==1)&&allN i (freshNm ds r)&&allN r.kids.length (kidOk r.kids i)&&kindOk ds r
 | none=>false
def ruleOkI (ds:List DRule) (i:Int):Bool:=decide (0≤i)&&ruleOk ds i.toNat
def descOk (ds:List DRule):Bool:=between ds.length 1 24&&allN ds.length (ruleOk ds)
def regOk (gs:List (List DRule)):Bool:=decide (gs.length≤8)&&allN gs.length (fun i=>match gs[i]? with | some d=>descOk d | none=>true)
end Go.Proofs.YtlfhealneccdkaaGreatDoor
namespace Go.Proofs.YtlfhealneccdkaaGreatDoor
open Go.RowKit Go.Sort
theorem sContains_c (A:Option Addr) (l:List ByteArray) (c:Nat) (s:ByteArray) (w:World) (h:Rd0 vstr w A l c) :
 Gives Tryz.prog 113 #[.slice A l.length c,.string s] w (.bool (hasNm l s)):=by
 have hl:=h.len;go_enter Tryz.func113,Tryz.ntmps113;go_wp2;go_loopw [5] (fun i wr=>∃ k:Nat,k≤l.length∧i=.int .i64 k∧Hid (∀ j (hj:j<l.length),j<k→(l[j].toList==s.toList)=false)∧Ext w wr) (fun i _=>l.length-(intOf i).toNat)
 case atStart=>exact ⟨0,by omega,rfl,(fun j _ hj=>by omega),Ext.refl _⟩
 case round =>
  obtain ⟨k,hk,rfl,ht,he⟩:=hrel
  by_cases hlt:k<l.length
  ·obtain ⟨b,off,rfl,hb,hc⟩:=h.at k hlt
   have YES:Hid ((l[k].toList==s.toList)=true→hasNm l s=true):=hasNm_at hlt
   have NO:Hid ((l[k].toList==s.toList)=false→∀ j (hj:j<l.length),j<k+1→(l[j].toList==s.toList)=false):=by
    intro hy j hj hjk;rcases (by omega:j<k∨j=k) with hjk | rfl
    ·exact ht.out j hj hjk
    ·exact hy
   clear h;generalize l[k]=x at *;cases hq:(x.toList==s.toList)
   ·have NO':=lhd (NO.out hq)
    go_wp2;go_roundw
    case rel=>exact ⟨k+1,by omega,by go_num,NO'.out,he⟩
    case measure=>simp [intOf];omega
   ·have YES':=lhd (YES.out hq)
    go_wp2;go_ret;exact ⟨ret_bool YES'.out.symm,he⟩
  ·have HE:Hid (hasNm l s=false):=hasNm_none (fun j hj=>ht.out j hj (by omega))
   go_wp2;go_ret;exact ⟨ret_bool HE.out.symm,he⟩
theorem iContains_c (A:Option Addr) (l:List ByteArray) (c:Nat) (s:ByteArray) (w:World) (h:Rd0 vstr w A l c) :
 Gives Tryz.prog 116 #[.slice A l.length c,.string s] w (.bool (hasNm l s)):=by
 have hl:=h.len;go_enter Tryz.func116,Tryz.ntmps116;go_wp2;go_loopw [9] (fun i wr=>∃ k:Nat,k≤l.length∧i=.int .i64 k∧Hid (∀ j (hj:j<l.length),j<k→(l[j].toList==s.toList)=false)∧Ext w wr) (fun i _=>l.length-(intOf i).toNat)
 case atStart=>exact ⟨0,by omega,rfl,(fun j _ hj=>by omega),Ext.refl _⟩
 case round =>
  obtain ⟨k,hk,rfl,ht,he⟩:=hrel
  by_cases hlt:k<l.length
  ·obtain ⟨b,off,rfl,hb,hc⟩:=h.at k hlt
   have YES:Hid ((l[k].toList==s.toList)=true→hasNm l s=true):=hasNm_at hlt
   have NO:Hid ((l[k].toList==s.toList)=false→∀ j (hj:j<l.length),j<k+1→(l[j].toList==s.toList)=false):=by
    intro hy j hj hjk;rcases (by omega:j<k∨j=k) with hjk | rfl
    ·exact ht.out j hj hjk
    ·exact hy
   clear h;generalize l[k]=x at *;cases hq:(x.toList==s.toList)
   ·have NO':=lhd (NO.out hq)
    go_wp2;go_roundw
    case rel=>exact ⟨k+1,by omega,by go_num,NO'.out,he⟩
    case measure=>simp [intOf];omega
   ·have YES':=lhd (YES.out hq)
    go_wp2;go_ret;exact ⟨ret_bool YES'.out.symm,he⟩
  ·have HE:Hid (hasNm l s=false):=hasNm_none (fun j hj=>ht.out j hj (by omega))
   go_wp2;go_ret;exact ⟨ret_bool HE.out.symm,he⟩
theorem hasRule_c (A:Option Addr) (n c:Nat) (i:Int) (w:World) (hn:n≤9223372036854775807) :
 Gives Tryz.prog 67 #[vdesc (.slice A n c),.int .i64 i] w (.bool (decide (0≤i)&&decide (i<n))):=by
 unfold vdesc
 by_cases h0:0≤i
 ·by_cases h1:i<n
  all_goals
   go_enter Tryz.func67,Tryz.ntmps67;go_wp2;go_ret;exact ⟨ret_bool (by simp [*]),Ext_alloc _ (Ext.refl w)⟩
 ·go_enter Tryz.func67,Tryz.ntmps67
  go_wp2;go_ret;exact ⟨ret_bool (by simp;omega),Ext_alloc _ (Ext.refl w)⟩
theorem limD_out {ds:List DRule} {i:Int} (h:¬ (0≤i∧i<ds.length)):limD ds i = -1:=by
 unfold limD
 split
 ·rw [List.getElem?_eq_none (by omega)]
 ·rfl
theorem limD_in {ds:List DRule} {k:Nat} (h:k<ds.length):limD ds (k:Int)=limR ds[k]:=by
 unfold limD;rw [if_pos (by omega),Int.toNat_natCast,List.getElem?_eq_getElem h]
theorem limR_kind {r:DRule} (h:r.kind≠1):limR r = -1:=by unfold limR;rw [if_neg (by omega)]
theorem limR_size {r:DRule} (h:¬ (1≤r.size∧r.size≤4)):limR r = -1:=by unfold limR;rw [if_neg (by omega)]
theorem limR_yes {r:DRule} (h:r.kind=1) (s:Nat) (h1:1≤s) (h2:s≤4) (e:r.size=s):limR r=256^s-1:=by
 unfold limR;rw [if_pos (by omega),e,Int.toNat_natCast]
theorem iLimit_c (A:Option Addr) (ds:List DRule) (c:Nat) (i:Int) (w:World) (h:RdD w A ds c) :
 Gives Tryz.prog 87 #[vdesc (.slice A ds.length c),.int .i64 i] w (.int .i64 (limD ds i)):=by
 have hl:=h.len;have eb:=Ext_alloc (.cells #[.slice A ds.length c] 26) (Ext.refl w);have BX:=fun w' (e:Ext (w.alloc (.cells #[.slice A ds.length c] 26)) w')=>boxed e 0
 simp only [List.getElem?_toArray,List.getElem?_cons_zero] at BX;have CR:=lhd (fun w=>hasRule_c A ds.length c i w hl);unfold vdesc at *
 by_cases hin:0≤i∧i<ds.length
 ·obtain ⟨k,rfl⟩:=Int.eq_ofNat_of_zero_le hin.1
  have hlt:k<ds.length:=by omega
  have HI:Hid ((decide ((0:Int)≤(k:Int))&&decide ((k:Int)<(ds.length:Int)))=true):=by show _=_;simp;omega
  rw [HI.out] at CR;obtain ⟨b,off,Ab,cb,An,cn,At,ct,Ak,ck,rfl,hb,hS,hR⟩:=h.at k hlt;have HV:=lhd (limD_in hlt);rw [HV.out];have hR':=hR.ext eb;clear hR hS h;generalize ds[k]=r at *;obtain ⟨k0,k1,k2,k3,k4,k5,k6,k7⟩:=hR';clear k0 k3 k4 k5 k6 k7 hin
  by_cases hk:r.kind=1
  ·by_cases hs:1≤r.size∧r.size≤4
   ·have hs4:r.size=((1:Nat):Int)∨r.size=((2:Nat):Int)∨r.size=((3:Nat):Int)∨r.size=((4:Nat):Int):=by omega
    have CI:=lhd (fun w=>iInRange_c r.size 1 4 w);have HJ:Hid ((decide ((1:Int)≤r.size)&&decide (r.size≤4))=true):=by show _=_;simp;omega
    rw [HJ.out] at CI;rcases hs4 with e | e | e | e
    ·have HL:=lhd (limR_yes hk 1 (by omega) (by omega) e)
     rw [HL.out];rw [e] at k2 CI;rw [hk] at k1;clear hs hk e HJ;go_enter Tryz.func87,Tryz.ntmps87;go_wp2_with fail;refine (CR.out _).mono ?_;rintro _ w1 ⟨rfl,he1⟩;go_wp2_with fail;refine (CI.out _).mono ?_;rintro _ w2 ⟨rfl,he2⟩;have e2:=he1.trans he2;go_wp2;go_ret;exact ⟨ret_i64 (by simp),eb.trans e2⟩
    ·have HL:=lhd (limR_yes hk 2 (by omega) (by omega) e)
     rw [HL.out];rw [e] at k2 CI;rw [hk] at k1;clear hs hk e HJ;go_enter Tryz.func87,Tryz.ntmps87;go_wp2_with fail;refine (CR.out _).mono ?_;rintro _ w1 ⟨rfl,he1⟩;go_wp2_with fail;refine (CI.out _).mono ?_;rintro _ w2 ⟨rfl,he2⟩;have e2:=he1.trans he2;go_wp2;go_ret;exact ⟨ret_i64 (by simp),eb.trans e2⟩
    ·have HL:=lhd (limR_yes hk 3 (by omega) (by omega) e)
     rw [HL.out];rw [e] at k2 CI;rw [hk] at k1;clear hs hk e HJ;go_enter Tryz.func87,Tryz.ntmps87;go_wp2_with fail;refine (CR.out _).mono ?_;rintro _ w1 ⟨rfl,he1⟩;go_wp2_with fail;refine (CI.out _).mono ?_;rintro _ w2 ⟨rfl,he2⟩;have e2:=he1.trans he2;go_wp2;go_ret;exact ⟨ret_i64 (by simp),eb.trans e2⟩
    ·have HL:=lhd (limR_yes hk 4 (by omega) (by omega) e)
     rw [HL.out];rw [e] at k2 CI;rw [hk] at k1;clear hs hk e HJ;go_enter Tryz.func87,Tryz.ntmps87;go_wp2_with fail;refine (CR.out _).mono ?_;rintro _ w1 ⟨rfl,he1⟩;go_wp2_with fail;refine (CI.out _).mono ?_;rintro _ w2 ⟨rfl,he2⟩;have e2:=he1.trans he2;go_wp2;go_ret;exact ⟨ret_i64 (by simp),eb.trans e2⟩
   ·have CI:=lhd (fun w=>iInRange_c r.size 1 4 w)
    have HJ:Hid ((decide ((1:Int)≤r.size)&&decide (r.size≤4))=false):=by show _=_;rw [Bool.and_eq_false_iff];simp;omega
    rw [HJ.out] at CI;have HL:=lhd (limR_size hs);rw [HL.out];rw [hk] at k1;clear hs hk HJ;go_enter Tryz.func87,Tryz.ntmps87;go_wp2_with fail;refine (CR.out _).mono ?_;rintro _ w1 ⟨rfl,he1⟩;go_wp2_with fail;refine (CI.out _).mono ?_;rintro _ w2 ⟨rfl,he2⟩;go_wp2;go_ret;exact ⟨rfl,eb.trans (he1.trans he2)⟩
  ·have HL:=lhd (limR_kind hk)
   rw [HL.out];have hk1:(r.kind !=1)=true:=by simpa using hk
   go_enter Tryz.func87,Tryz.ntmps87;go_wp2_with fail;refine (CR.out _).mono ?_;rintro _ w1 ⟨rfl,he1⟩;go_wp2;go_ret;exact ⟨rfl,eb.trans he1⟩
 ·have HI:Hid ((decide ((0:Int)≤i)&&decide (i<(ds.length:Int)))=false):=by show _=_;rw [Bool.and_eq_false_iff];simp;omega
  rw [HI.out] at CR;have HL:=lhd (limD_out hin);rw [HL.out];clear hin;go_enter Tryz.func87,Tryz.ntmps87;go_wp2_with fail;refine (CR.out _).mono ?_;rintro _ w1 ⟨rfl,he1⟩;go_wp2;go_ret;exact ⟨rfl,eb.trans he1⟩
theorem l2PowerN_c (s:Nat) (w:World) (h1:1≤s) (h2:s≤4):Gives Tryz.prog 61 #[.int .i64 (s:Int)] w (.int .i64 (256^s)):=by
 rcases (by omega:s=1∨s=2∨s=3∨s=4) with rfl | rfl | rfl | rfl
 all_goals
  go_enter Tryz.func61,Tryz.ntmps61;go_wp2;go_ret;exact ⟨ret_i64 (by simp),Ext.refl _⟩
theorem sLimit_c (A:Option Addr) (ds:List DRule) (c:Nat) (i:Int) (w:World) (h:RdD w A ds c) :
 Gives Tryz.prog 72 #[vdesc (.slice A ds.length c),.int .i64 i] w (.int .i64 (limD ds i)):=by
 have hl:=h.len;have eb:=Ext_alloc (.cells #[.slice A ds.length c] 26) (Ext.refl w);have BX:=fun w' (e:Ext (w.alloc (.cells #[.slice A ds.length c] 26)) w')=>boxed e 0
 simp only [List.getElem?_toArray,List.getElem?_cons_zero] at BX;have CR:=lhd (fun w=>l1In_c i 0 ((ds.length:Int)-1) w);unfold vdesc at *
 by_cases hin:0≤i∧i<ds.length
 ·obtain ⟨k,rfl⟩:=Int.eq_ofNat_of_zero_le hin.1
  have hlt:k<ds.length:=by omega
  have HI:Hid ((decide ((0:Int)≤(k:Int))&&decide ((k:Int)≤(ds.length:Int)-1))=true):=by show _=_;simp;omega
  rw [HI.out] at CR;obtain ⟨b,off,Ab,cb,An,cn,At,ct,Ak,ck,rfl,hb,hS,hR⟩:=h.at k hlt;have HV:=lhd (limD_in hlt);rw [HV.out];have hR':=hR.ext eb;clear hR hS h;generalize ds[k]=r at *;obtain ⟨k0,k1,k2,k3,k4,k5,k6,k7⟩:=hR';clear k0 k3 k4 k5 k6 k7 hin
  by_cases hk:r.kind=1
  ·by_cases hs:1≤r.size∧r.size≤4
   ·have hs4:r.size=((1:Nat):Int)∨r.size=((2:Nat):Int)∨r.size=((3:Nat):Int)∨r.size=((4:Nat):Int):=by omega
    have CI:=lhd (fun w=>l1In_c r.size 1 4 w);have HJ:Hid ((decide ((1:Int)≤r.size)&&decide (r.size≤4))=true):=by show _=_;simp;omega
    rw [HJ.out] at CI;rcases hs4 with e | e | e | e
    ·have HL:=lhd (limR_yes hk 1 (by omega) (by omega) e)
     rw [HL.out];rw [e] at k2 CI;rw [hk] at k1;clear hs hk e HJ;go_enter Tryz.func72,Tryz.ntmps72;go_wp2_with fail;refine (CR.out _).mono ?_;rintro _ w1 ⟨rfl,he1⟩;go_wp2_with fail;refine (CI.out _).mono ?_;rintro _ w2 ⟨rfl,he2⟩;have e2:=he1.trans he2;go_wp2_with fail;refine (l2PowerN_c 1 _ (by omega) (by omega)).mono ?_;rintro _ w3 ⟨rfl,he3⟩;have e3:=e2.trans he3;go_wp2;go_ret;exact ⟨ret_i64 (by simp),eb.trans e3⟩
    ·have HL:=lhd (limR_yes hk 2 (by omega) (by omega) e)
     rw [HL.out];rw [e] at k2 CI;rw [hk] at k1;clear hs hk e HJ;go_enter Tryz.func72,Tryz.ntmps72;go_wp2_with fail;refine (CR.out _).mono ?_;rintro _ w1 ⟨rfl,he1⟩;go_wp2_with fail;refine (CI.out _).mono ?_;rintro _ w2 ⟨rfl,he2⟩;have e2:=he1.trans he2;go_wp2_with fail;refine (l2PowerN_c 2 _ (by omega) (by omega)).mono ?_;rintro _ w3 ⟨rfl,he3⟩;have e3:=e2.trans he3;go_wp2;go_ret;exact ⟨ret_i64 (by simp),eb.trans e3⟩
    ·have HL:=lhd (limR_yes hk 3 (by omega) (by omega) e)
     rw [HL.out];rw [e] at k2 CI;rw [hk] at k1;clear hs hk e HJ;go_enter Tryz.func72,Tryz.ntmps72;go_wp2_with fail;refine (CR.out _).mono ?_;rintro _ w1 ⟨rfl,he1⟩;go_wp2_with fail;refine (CI.out _).mono ?_;rintro _ w2 ⟨rfl,he2⟩;have e2:=he1.trans he2;go_wp2_with fail;refine (l2PowerN_c 3 _ (by omega) (by omega)).mono ?_;rintro _ w3 ⟨rfl,he3⟩;have e3:=e2.trans he3;go_wp2;go_ret;exact ⟨ret_i64 (by simp),eb.trans e3⟩
    ·have HL:=lhd (limR_yes hk 4 (by omega) (by omega) e)
     rw [HL.out];rw [e] at k2 CI;rw [hk] at k1;clear hs hk e HJ;go_enter Tryz.func72,Tryz.ntmps72;go_wp2_with fail;refine (CR.out _).mono ?_;rintro _ w1 ⟨rfl,he1⟩;go_wp2_with fail;refine (CI.out _).mono ?_;rintro _ w2 ⟨rfl,he2⟩;have e2:=he1.trans he2;go_wp2_with fail;refine (l2PowerN_c 4 _ (by omega) (by omega)).mono ?_;rintro _ w3 ⟨rfl,he3⟩;have e3:=e2.trans he3;go_wp2;go_ret;exact ⟨ret_i64 (by simp),eb.trans e3⟩
   ·have CI:=lhd (fun w=>l1In_c r.size 1 4 w)
    have HJ:Hid ((decide ((1:Int)≤r.size)&&decide (r.size≤4))=false):=by show _=_;rw [Bool.and_eq_false_iff];simp;omega
    rw [HJ.out] at CI;have HL:=lhd (limR_size hs);rw [HL.out];rw [hk] at k1;clear hs hk HJ;go_enter Tryz.func72,Tryz.ntmps72;go_wp2_with fail;refine (CR.out _).mono ?_;rintro _ w1 ⟨rfl,he1⟩;go_wp2_with fail;refine (CI.out _).mono ?_;rintro _ w2 ⟨rfl,he2⟩;go_wp2;go_ret;exact ⟨rfl,eb.trans (he1.trans he2)⟩
  ·have HL:=lhd (limR_kind hk)
   rw [HL.out];have hk1:(r.kind !=1)=true:=by simpa using hk
   go_enter Tryz.func72,Tryz.ntmps72;go_wp2_with fail;refine (CR.out _).mono ?_;rintro _ w1 ⟨rfl,he1⟩;go_wp2;go_ret;exact ⟨rfl,eb.trans he1⟩
 ·have HI:Hid ((decide ((0:Int)≤i)&&decide (i≤(ds.length:Int)-1))=false):=by show _=_;rw [Bool.and_eq_false_iff];simp;omega
  rw [HI.out] at CR;have HL:=lhd (limD_out hin);rw [HL.out];clear hin;go_enter Tryz.func72,Tryz.ntmps72;go_wp2_with fail;refine (CR.out _).mono ?_;rintro _ w1 ⟨rfl,he1⟩;go_wp2;go_ret;exact ⟨rfl,eb.trans he1⟩
end Go.Proofs.YtlfhealneccdkaaGreatDoor
