/- Texts, laid into one. -/
import Derived.Test.YtpmcofmdjckijaaGreatZDg5
import Derived.Test.YtpmcofmdjckijaaGreatZDg7
set_option linter.unusedVariables false
set_option linter.unusedSimpArgs false
set_option maxRecDepth 100000
set_option maxHeartbeats 16000000
namespace Go.Proofs.YtpmcofmdjckijaaGreat
open Go.RowKit Go.Sort
theorem sContains_c (A:Option Addr) (l:List ByteArray) (c:Nat) (s:ByteArray) (w:World) (h:Rd0 vstr w A l c) :
 Gives Tryz.prog 192 #[.slice A l.length c,.string s] w (.bool (hasNm l s)):=by
 have hl:=h.len;go_enter Tryz.func192,Tryz.ntmps192;go_wp2;go_loopw [5] (fun i wr=>∃ k:Nat,k≤l.length∧i=.int .i64 k∧Hid (∀ j (hj:j<l.length),j<k→(l[j].toList==s.toList)=false)∧Ext w wr) (fun i _=>l.length-(intOf i).toNat)
 case atStart=>exact ⟨0,by omega,rfl,(fun j _ hj=>by omega),Ext.refl _⟩
 case round =>
  obtain ⟨k,hk,rfl,ht,he⟩:=hrel
  by_cases hlt:k<l.length
  ·obtain ⟨b,off,rfl,hb,hc⟩:=h.at k hlt
   have YES:Hid ((l[k].toList==s.toList)=true→hasNm l s=true):=hasNm_at hlt
   have NO:Hid ((l[k].toList==s.toList)=false→∀ j (hj:j<l.length),j<k+1→(l[j].toList==s.toList)=false):=by
    intro hy j hj hjk;rcases (by omega:j<k∨j=k) with hjk | rfl
    ·exact ht.out j hj hjk
    ·exact hy
   clear h;generalize l[k]=x at *;cases hq:(x.toList==s.toList)
   ·have NO':=lhd (NO.out hq)
    go_wp2;go_roundw
    case rel=>exact ⟨k+1,by omega,by go_num,NO'.out,he⟩
    case measure=>simp [intOf];omega
   ·have YES':=lhd (YES.out hq)
    go_wp2;go_ret;exact ⟨ret_bool YES'.out.symm,he⟩
  ·have HE:Hid (hasNm l s=false):=hasNm_none (fun j hj=>ht.out j hj (by omega))
   go_wp2;go_ret;exact ⟨ret_bool HE.out.symm,he⟩
theorem limD_out {ds:List DRule} {i:Int} (h:¬ (0≤i∧i<ds.length)):limD ds i = -1:=by
 unfold limD
 split
 ·rw [List.getElem?_eq_none (by omega)]
 ·rfl
theorem limD_in {ds:List DRule} {k:Nat} (h:k<ds.length):limD ds (k:Int)=limR ds[k]:=by
 unfold limD;rw [if_pos (by omega),Int.toNat_natCast,List.getElem?_eq_getElem h]
theorem limR_kind {r:DRule} (h:r.kind≠1):limR r = -1:=by unfold limR;rw [if_neg (by omega)]
theorem limR_size {r:DRule} (h:¬ (1≤r.size∧r.size≤4)):limR r = -1:=by unfold limR;rw [if_neg (by omega)]
theorem limR_yes {r:DRule} (h:r.kind=1) (s:Nat) (h1:1≤s) (h2:s≤4) (e:r.size=s):limR r=256^s-1:=by
 unfold limR;rw [if_pos (by omega),e,Int.toNat_natCast]
theorem l2PowerN_c (s:Nat) (w:World) (h1:1≤s) (h2:s≤4):Gives Tryz.prog 159 #[.int .i64 (s:Int)] w (.int .i64 (256^s)):=by
 rcases (by omega:s=1∨s=2∨s=3∨s=4) with rfl | rfl | rfl | rfl
 all_goals
  go_enter Tryz.func159,Tryz.ntmps159;go_wp2;go_ret;exact ⟨ret_i64 (by simp),Ext.refl _⟩
theorem sLimit_c (A:Option Addr) (ds:List DRule) (c:Nat) (i:Int) (w:World) (h:RdD w A ds c) :
 Gives Tryz.prog 165 #[vdesc (.slice A ds.length c),.int .i64 i] w (.int .i64 (limD ds i)):=by
 have hl:=h.len;have eb:=Ext_alloc (.cells #[.slice A ds.length c] 26) (Ext.refl w);have BX:=fun w' (e:Ext (w.alloc (.cells #[.slice A ds.length c] 26)) w')=>boxed e 0
 simp only [List.getElem?_toArray,List.getElem?_cons_zero] at BX;have CR:=lhd (fun w=>l1In_c i 0 ((ds.length:Int)-1) w);unfold vdesc at *
 by_cases hin:0≤i∧i<ds.length
 ·obtain ⟨k,rfl⟩:=Int.eq_ofNat_of_zero_le hin.1
  have hlt:k<ds.length:=by omega
  have HI:Hid ((decide ((0:Int)≤(k:Int))&&decide ((k:Int)≤(ds.length:Int)-1))=true):=by show _=_;simp;omega
  rw [HI.out] at CR;obtain ⟨b,off,Ab,cb,An,cn,At,ct,Ak,ck,rfl,hb,hS,hR⟩:=h.at k hlt;have HV:=lhd (limD_in hlt);rw [HV.out];have hR':=hR.ext eb;clear hR hS h;generalize ds[k]=r at *;obtain ⟨k0,k1,k2,k3,k4,k5,k6,k7⟩:=hR';clear k0 k3 k4 k5 k6 k7 hin
  by_cases hk:r.kind=1
  ·by_cases hs:1≤r.size∧r.size≤4
   ·have hs4:r.size=((1:Nat):Int)∨r.size=((2:Nat):Int)∨r.size=((3:Nat):Int)∨r.size=((4:Nat):Int):=by omega
    have CI:=lhd (fun w=>l1In_c r.size 1 4 w);have HJ:Hid ((decide ((1:Int)≤r.size)&&decide (r.size≤4))=true):=by show _=_;simp;omega
    rw [HJ.out] at CI;rcases hs4 with e | e | e | e
    ·have HL:=lhd (limR_yes hk 1 (by omega) (by omega) e)
     rw [HL.out];rw [e] at k2 CI;rw [hk] at k1;clear hs hk e HJ;go_enter Tryz.func165,Tryz.ntmps165;go_wp2_with fail;refine (CR.out _).mono ?_;rintro _ w1 ⟨rfl,he1⟩;go_wp2_with fail;refine (CI.out _).mono ?_;rintro _ w2 ⟨rfl,he2⟩;have e2:=he1.trans he2;go_wp2_with fail;refine (l2PowerN_c 1 _ (by omega) (by omega)).mono ?_;rintro _ w3 ⟨rfl,he3⟩;have e3:=e2.trans he3;go_wp2;go_ret;exact ⟨ret_i64 (by simp),eb.trans e3⟩
    ·have HL:=lhd (limR_yes hk 2 (by omega) (by omega) e)
     rw [HL.out];rw [e] at k2 CI;rw [hk] at k1;clear hs hk e HJ;go_enter Tryz.func165,Tryz.ntmps165;go_wp2_with fail;refine (CR.out _).mono ?_;rintro _ w1 ⟨rfl,he1⟩;go_wp2_with fail;refine (CI.out _).mono ?_;rintro _ w2 ⟨rfl,he2⟩;have e2:=he1.trans he2;go_wp2_with fail;refine (l2PowerN_c 2 _ (by omega) (by omega)).mono ?_;rintro _ w3 ⟨rfl,he3⟩;have e3:=e2.trans he3;go_wp2;go_ret;exact ⟨ret_i64 (by simp),eb.trans e3⟩
    ·have HL:=lhd (limR_yes hk 3 (by omega) (by omega) e)
     rw [HL.out];rw [e] at k2 CI;rw [hk] at k1;clear hs hk e HJ;go_enter Tryz.func165,Tryz.ntmps165;go_wp2_with fail;refine (CR.out _).mono ?_;rintro _ w1 ⟨rfl,he1⟩;go_wp2_with fail;refine (CI.out _).mono ?_;rintro _ w2 ⟨rfl,he2⟩;have e2:=he1.trans he2;go_wp2_with fail;refine (l2PowerN_c 3 _ (by omega) (by omega)).mono ?_;rintro _ w3 ⟨rfl,he3⟩;have e3:=e2.trans he3;go_wp2;go_ret;exact ⟨ret_i64 (by simp),eb.trans e3⟩
    ·have HL:=lhd (limR_yes hk 4 (by omega) (by omega) e)
     rw [HL.out];rw [e] at k2 CI;rw [hk] at k1;clear hs hk e HJ;go_enter Tryz.func165,Tryz.ntmps165;go_wp2_with fail;refine (CR.out _).mono ?_;rintro _ w1 ⟨rfl,he1⟩;go_wp2_with fail;refine (CI.out _).mono ?_;rintro _ w2 ⟨rfl,he2⟩;have e2:=he1.trans he2;go_wp2_with fail;refine (l2PowerN_c 4 _ (by omega) (by omega)).mono ?_;rintro _ w3 ⟨rfl,he3⟩;have e3:=e2.trans he3;go_wp2;go_ret;exact ⟨ret_i64 (by simp),eb.trans e3⟩
   ·have CI:=lhd (fun w=>l1In_c r.size 1 4 w)
    have HJ:Hid ((decide ((1:Int)≤r.size)&&decide (r.size≤4))=false):=by show _=_;rw [Bool.and_eq_false_iff];simp;omega
    rw [HJ.out] at CI;have HL:=lhd (limR_size hs);rw [HL.out];rw [hk] at k1;clear hs hk HJ;go_enter Tryz.func165,Tryz.ntmps165;go_wp2_with fail;refine (CR.out _).mono ?_;rintro _ w1 ⟨rfl,he1⟩;go_wp2_with fail;refine (CI.out _).mono ?_;rintro _ w2 ⟨rfl,he2⟩;go_wp2;go_ret;exact ⟨rfl,eb.trans (he1.trans he2)⟩
  ·have HL:=lhd (limR_kind hk)
   rw [HL.out];have hk1:(r.kind !=1)=true:=by simpa using hk
   go_enter Tryz.func165,Tryz.ntmps165;go_wp2_with fail;refine (CR.out _).mono ?_;rintro _ w1 ⟨rfl,he1⟩;go_wp2;go_ret;exact ⟨rfl,eb.trans he1⟩
 ·have HI:Hid ((decide ((0:Int)≤i)&&decide (i≤(ds.length:Int)-1))=false):=by show _=_;rw [Bool.and_eq_false_iff];simp;omega
  rw [HI.out] at CR;have HL:=lhd (limD_out hin);rw [HL.out];clear hin;go_enter Tryz.func165,Tryz.ntmps165;go_wp2_with fail;refine (CR.out _).mono ?_;rintro _ w1 ⟨rfl,he1⟩;go_wp2;go_ret;exact ⟨rfl,eb.trans he1⟩
end Go.Proofs.YtpmcofmdjckijaaGreat
