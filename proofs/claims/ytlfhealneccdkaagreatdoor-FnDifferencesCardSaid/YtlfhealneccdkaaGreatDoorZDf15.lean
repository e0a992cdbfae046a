/- Texts, laid into one. -/
import Derived.Test.YtlfhealneccdkaaGreatDoorZDf11
import Derived.Test.YtlfhealneccdkaaGreatDoorZDf12
set_option linter.unusedVariables false
set_option linter.unusedSimpArgs false
set_option maxRecDepth 100000
set_option maxHeartbeats 16000000
namespace Go.Proofs.YtlfhealneccdkaaGreatDoor
open Go.RowKit Go.Sort
theorem RdS.lens {w:World} {r:DRule} {Ab:Option Addr} {cb:Nat} {An:Option Addr} {cn:Nat} {At:Option Addr} {ct:Nat} {Ak:Option Addr} {ck:Nat} (h:RdS w r Ab cb An cn At ct Ak ck) :
 r.bytes.length≤9223372036854775807∧r.names.length≤9223372036854775807∧r.tags.length≤9223372036854775807∧r.kids.length≤9223372036854775807:=⟨h.b.len,h.n.len,h.t.len,h.k.len⟩
theorem Rd0.take {α:Type} {f:α→Value} {w:World} {A:Option Addr} {l:List α} {c:Nat} (h:Rd0 f w A l c) (n:Nat) (hn:n≤l.length):Rd0 f w A (l.take n) c:=by
 have hl:(l.take n).length=n:=by simp;omega
 refine ⟨by have:=h.cap;omega,by have:=h.len;omega,fun hp=>?_⟩;obtain ⟨b,off,h1,h2,h3⟩:=h.2.2 (by omega);refine ⟨b,off,h1,h2,fun w' e i hi=>?_⟩;rw [h3 w' e i (by omega)];simp
theorem nameOk_at {l:List ByteArray} {k:Nat} (h:k<l.length):nameOk l k=(isName l[k]&&!hasNm (l.take k) l[k]):=by
 unfold nameOk;rw [List.getElem?_eq_getElem h]
theorem tagOk_at {lim:Int} {l:List Int} {k:Nat} (h:k<l.length):tagOk lim l k=(between l[k] 0 lim&&(k==0||decide (l.getD (k-1) 0<l[k]))):=by
 unfold tagOk;rw [List.getElem?_eq_getElem h]
def namesB (l:List ByteArray):Bool:=between l.length 1 8&&allN l.length (nameOk l)
theorem sNames_c (A:Option Addr) (l:List ByteArray) (c:Nat) (w:World) (h:Rd0 vstr w A l c) (hw:∀ s∈l,s.size≤9223372036854775807) :
 Gives Tryz.prog 102 #[.slice A l.length c] w (.bool (namesB l)):=by
 have hl:=h.len;have hcap:=h.cap;go_enter Tryz.func102,Tryz.ntmps102;go_wp2;go_loopw [3] (fun i wr=>∃ k:Nat,k≤l.length∧i=.int .i64 k∧Hid (∀ j,j<k→nameOk l j=true)∧Ext w wr) (fun i _=>l.length-(intOf i).toNat)
 case atStart=>exact ⟨0,by omega,rfl,(fun j hj=>by omega),Ext.refl _⟩
 case round =>
  obtain ⟨k,hk,rfl,ht,he⟩:=hrel
  by_cases hlt:k<l.length
  ·obtain ⟨b,off,hA,hb,hc⟩:=h.at k hlt
   have HT:=h.take k (by omega);have HN:=lhd (nameOk_at hlt);have NO:Hid (nameOk l k=false→namesB l=false):=fun hf=>by unfold namesB;rw [allN_no hlt hf,Bool.and_false]
   have YES:Hid (nameOk l k=true→∀ j,j<k+1→nameOk l j=true):=upTo ht.out
   have CN:=lhd (fun w=>sIsName_c l[k] w (hw _ (List.getElem_mem hlt)));have hlk:(l.take k).length=k:=by simp;omega
   have CC:Hid (∀ w' s,Ext w w'→Gives Tryz.prog 113 #[.slice A k c,.string s] w' (.bool (hasNm (l.take k) s))):=fun w' s e=>by
    have:=sContains_c A (l.take k) c s w' (HT.ext e)
    rwa [hlk] at this
   subst hA;generalize l[k]=x at *;generalize isName x=q1 at *;have hc0:(0:Int)≤(k:Int):=by omega
   have hc1:(k:Int)≤(c:Int):=by omega
   clear HT h hlk;cases q1
   ·have HR:Hid (nameOk l k=false):=by show _=_;rw [HN.out];rfl
    have HE:=lhd (NO.out HR.out);clear NO YES HN HR;go_wp2_with fail;refine wp_region_quiet_below (by kernel_rfl) (by kernel_rfl) ?_;repeat (go_big_quiet_step ((go_at_call 76;exact Calls.regrown_of (CN.out _))))
    refine wpQuiet_nil (qnl ?_);intro w1 ew1;go_wp2;go_ret;exact ⟨ret_bool HE.out.symm,he.trans ew1⟩
   ·have CD:=lhd (fun w' e=>CC.out w' x e)
    generalize hasNm (l.take k) x=q2 at *;cases q2
    ·have HR:Hid (nameOk l k=true):=by show _=_;rw [HN.out];rfl
     have HE:=lhd (YES.out HR.out);clear NO YES HN HR CC;go_wp2_with fail;refine wp_region_quiet_below (by kernel_rfl) (by kernel_rfl) ?_;repeat (go_big_quiet_step ((first | (go_at_call 76;exact Calls.regrown_of (CN.out _)) | (go_at_call 113;exact Calls.regrown_of (CD.out _ (by first | assumption | exact Ext_regrown _ _ he))))))
     refine wpQuiet_nil (qnl ?_);intro w1 ew1;go_wp2;go_roundw
     case rel=>exact ⟨k+1,by omega,by go_num,HE.out,he.trans ew1⟩
     case measure=>simp [intOf];omega
    ·have HR:Hid (nameOk l k=false):=by show _=_;rw [HN.out];rfl
     have HE:=lhd (NO.out HR.out);clear NO YES HN HR CC;go_wp2_with fail;refine wp_region_quiet_below (by kernel_rfl) (by kernel_rfl) ?_;repeat (go_big_quiet_step ((first | (go_at_call 76;exact Calls.regrown_of (CN.out _)) | (go_at_call 113;exact Calls.regrown_of (CD.out _ (by first | assumption | exact Ext_regrown _ _ he))))))
     refine wpQuiet_nil (qnl ?_);intro w1 ew1;go_wp2;go_ret;exact ⟨ret_bool HE.out.symm,he.trans ew1⟩
  ·have HE:Hid (namesB l=(decide ((1:Int)≤(l.length:Int))&&decide ((l.length:Int)≤8))):=by
    show _=_;unfold namesB between;rw [allN_yes (fun j hj=>ht.out j (by omega)),Bool.and_true]
   go_wp2_with (go_at_call 44;refine (l1In_c _ _ _ _).mono ?_;rintro _ w1 ⟨rfl,he1⟩)
   go_ret;exact ⟨ret_bool HE.out.symm,he.trans he1⟩
theorem iSeq_c (r:DRule) (Ab:Option Addr) (cb:Nat) (An:Option Addr) (cn:Nat) (At:Option Addr) (ct:Nat) (Ak:Option Addr) (ck:Nat) (w:World) (h:RdS w r Ab cb An cn At ct Ak ck) (hw:WfR r) :
 Gives Tryz.prog 110 #[vrule r (.slice Ab r.bytes.length cb) (.slice An r.names.length cn) (.slice At r.tags.length ct) (.slice Ak r.kids.length ck)] w (.bool (seqOk r)):=by
 have eb:=Ext_alloc (.cells #[.string r.nm,.int .i64 r.kind,.int .i64 r.size,.bool r.little,.slice Ab r.bytes.length cb,.slice An r.names.length cn,.slice At r.tags.length ct,.slice Ak r.kids.length ck] 67) (Ext.refl w);have B:=fun w' (e:Ext (w.alloc (.cells #[.string r.nm,.int .i64 r.kind,.int .i64 r.size,.bool r.little,.slice Ab r.bytes.length cb,.slice An r.names.length cn,.slice At r.tags.length ct,.slice Ak r.kids.length ck] 67)) w')=>boxed e
 have CP:=lhd (fun w=>iPlain0010_c r Ab cb An cn At ct Ak ck (-1) w h.lens);obtain ⟨hl1,hl2,hl3,hl4⟩:=h.lens;have hN:=h.n;have hcap:=hN.cap;have hwn:=lhd hw.names;clear h hw;unfold seqOk;generalize plainB r false false true false (-1)=p at *;unfold vrule at *;cases p
 ·go_enter Tryz.func110,Tryz.ntmps110
  go_wp2_with fail;refine (CP.out _).mono ?_;rintro _ w1 ⟨rfl,he1⟩;go_wp2;go_ret;exact ⟨ret_bool (by simp),eb.trans he1⟩
 by_cases hlen:r.kids.length=r.names.length
 ·have CI:=lhd (fun w=>iInRange_c (r.kids.length:Int) 1 8 w)
  have HB:Hid (between r.kids.length 1 8=(decide ((1:Int)≤(r.kids.length:Int))&&decide ((r.kids.length:Int)≤8))):=rfl
  have g1:((r.kids.length:Int) !=(r.names.length:Int))=false:=by simp [hlen]
  have g2:(r.kids.length==r.names.length)=true:=by simp [hlen]
  rw [← HB.out] at CI;rw [g2];clear hlen g2 HB;generalize between r.kids.length 1 8=p2 at *;cases p2
  ·go_enter Tryz.func110,Tryz.ntmps110
   go_wp2_with fail;refine (CP.out _).mono ?_;rintro _ w1 ⟨rfl,he1⟩;go_wp2_with fail;refine (CI.out _).mono ?_;rintro _ w2 ⟨rfl,he2⟩;go_wp2;go_ret;exact ⟨ret_bool (by simp),eb.trans (he1.trans he2)⟩
  ·go_enter Tryz.func110,Tryz.ntmps110
   go_wp2_with fail;refine (CP.out _).mono ?_;rintro _ w1 ⟨rfl,he1⟩;go_wp2_with fail;refine (CI.out _).mono ?_;rintro _ w2 ⟨rfl,he2⟩;have e2:=he1.trans he2;clear he1 he2 g1 CP CI;go_wp2;go_loopw [27] (fun i wr=>∃ k:Nat,k≤r.names.length∧i=.int .i64 k∧Hid (∀ j,j<k→nameOk r.names j=true)∧Ext (w.alloc (.cells #[.string r.nm,.int .i64 r.kind,.int .i64 r.size,.bool r.little,.slice Ab r.bytes.length cb,.slice An r.names.length cn,.slice At r.tags.length ct,.slice Ak r.kids.length ck] 67)) wr) (fun i _=>r.names.length-(intOf i).toNat)
   case atStart=>exact ⟨0,by omega,rfl,(fun j hj=>by omega),e2⟩
   case round =>
    clear e2;obtain ⟨k,hk,rfl,ht,he⟩:=hrel
    by_cases hlt:k<r.names.length
    ·have HT:=hN.take k (by omega)
     have HNm:=lhd (nameOk_at hlt);have NO:Hid (nameOk r.names k=false→allN r.names.length (nameOk r.names)=false):=fun hf=>allN_no hlt hf
     have YES:Hid (nameOk r.names k=true→∀ j,j<k+1→nameOk r.names j=true):=upTo ht.out
     have CN:=lhd (fun w=>iIsName_c r.names[k] w (hwn.out _ (List.getElem_mem hlt)));have hlk:(r.names.take k).length=k:=by simp;omega
     have CC:Hid (∀ w' s,Ext w w'→Gives Tryz.prog 116 #[.slice An k cn,.string s] w' (.bool (hasNm (r.names.take k) s))):=fun w' s e=>by
      have:=iContains_c An (r.names.take k) cn s w' (HT.ext e)
      rwa [hlk] at this
     obtain ⟨b,off,rfl,hb,hc⟩:=hN.at k hlt;have hcw:=fun w' (e:Ext _ w')=>hc w' (eb.trans e)
     generalize r.names[k]=x at *;generalize isName x=q1 at *;have hc0:(0:Int)≤(k:Int):=by omega
     have hc1:(k:Int)≤(cn:Int):=by omega
     clear HT hlk hc hN;cases q1
     ·have HR:Hid (nameOk r.names k=false):=by show _=_;rw [HNm.out];rfl
      have HE:=lhd (NO.out HR.out);clear NO YES HNm HR;go_wp2_with fail;refine (CN.out _).mono ?_;rintro _ w3 ⟨rfl,he3⟩;go_wp2;go_ret;exact ⟨ret_bool (by rw [HE.out];simp),eb.trans (he.trans he3)⟩
     ·have CD:=lhd (fun w' e=>CC.out w' x e)
      generalize hasNm (r.names.take k) x=q2 at *;cases q2
      ·have HR:Hid (nameOk r.names k=true):=by show _=_;rw [HNm.out];rfl
       have HE:=lhd (YES.out HR.out);clear NO YES HNm HR CC;go_wp2_with fail;refine (CN.out _).mono ?_;rintro _ w3 ⟨rfl,he3⟩;have e3:=he.trans he3;go_wp2_with fail;refine (CD.out _ (eb.trans e3)).mono ?_;rintro _ w4 ⟨rfl,he4⟩;go_wp2;go_roundw
       case rel=>exact ⟨k+1,by omega,by go_num,HE.out,e3.trans he4⟩
       case measure=>simp [intOf];omega
      ·have HR:Hid (nameOk r.names k=false):=by show _=_;rw [HNm.out];rfl
       have HE:=lhd (NO.out HR.out);clear NO YES HNm HR CC;go_wp2_with fail;refine (CN.out _).mono ?_;rintro _ w3 ⟨rfl,he3⟩;have e3:=he.trans he3;go_wp2_with fail;refine (CD.out _ (eb.trans e3)).mono ?_;rintro _ w4 ⟨rfl,he4⟩;go_wp2;go_ret;exact ⟨ret_bool (by rw [HE.out];simp),eb.trans (e3.trans he4)⟩
    ·have HE:Hid (allN r.names.length (nameOk r.names)=true):=allN_yes (fun j hj=>ht.out j (by omega))
     go_wp2;go_ret;exact ⟨ret_bool (by rw [HE.out];simp),eb.trans he⟩
 ·have g1:((r.kids.length:Int) !=(r.names.length:Int))=true:=by simp;omega
  have g2:(r.kids.length==r.names.length)=false:=by simpa using hlen
  rw [g2];clear hlen g2;go_enter Tryz.func110,Tryz.ntmps110;go_wp2_with fail;refine (CP.out _).mono ?_;rintro _ w1 ⟨rfl,he1⟩;go_wp2;go_ret;exact ⟨ret_bool (by simp),eb.trans he1⟩
def tagsB (ds:List DRule) (r:DRule):Bool:=r.kids.length==r.tags.length+1&&between r.tags.length 1 8&&allN r.tags.length (tagOk (limD ds (r.kids.getD 0 0)) r.tags)
theorem tagOk_zero {lim:Int} {l:List Int} {k:Nat} (h:k<l.length) (hz:k=0):tagOk lim l k=between l[k] 0 lim:=by rw [tagOk_at h];simp [hz]
theorem tagOk_succ {lim:Int} {l:List Int} {m:Nat} (h:m+1<l.length):tagOk lim l (m+1)=(between l[m+1] 0 lim&&!decide (l[m+1]≤l[m])):=by
 rw [tagOk_at h]
 have:l.getD (m+1-1) 0=l[m]:=by simp [List.getD_eq_getElem?_getD,List.getElem?_eq_getElem (show m<l.length by omega)]
 rw [this]
 by_cases h2:l[m]<l[m+1]
 ·rw [decide_eq_true h2,decide_eq_false (show ¬ l[m+1]≤l[m] by omega)];simp
 ·rw [decide_eq_false h2,decide_eq_true (show l[m+1]≤l[m] by omega)];simp
theorem wrap_back (m:Nat) (h:m≤9223372036854775807):IntKind.i64.wrap ((m:Int)+1-1)=(m:Int):=by
 rw [show (m:Int)+1-1=(m:Int) by omega];exact IntWalk.i64_in _ (by omega)
theorem sTags_c (A:Option Addr) (ds:List DRule) (c:Nat) (r:DRule) (Ab:Option Addr) (cb:Nat) (An:Option Addr) (cn:Nat) (At:Option Addr) (ct:Nat) (Ak:Option Addr) (ck:Nat) (w:World) (hd:RdD w A ds c) (h:RdS w r Ab cb An cn At ct Ak ck) (hs:ShortR r) :
 Gives Tryz.prog 103 #[vdesc (.slice A ds.length c),vrule r (.slice Ab r.bytes.length cb) (.slice An r.names.length cn) (.slice At r.tags.length ct) (.slice Ak r.kids.length ck)] w (.bool (tagsB ds r)):=by
 have eb:=Ext_alloc (.cells #[.string r.nm,.int .i64 r.kind,.int .i64 r.size,.bool r.little,.slice Ab r.bytes.length cb,.slice An r.names.length cn,.slice At r.tags.length ct,.slice Ak r.kids.length ck] 67) (Ext_alloc (.cells #[.slice A ds.length c] 26) (Ext.refl w));have BX:=fun w' (e:Ext ((w.alloc (.cells #[.slice A ds.length c] 26)).alloc (.cells #[.string r.nm,.int .i64 r.kind,.int .i64 r.size,.bool r.little,.slice Ab r.bytes.length cb,.slice An r.names.length cn,.slice At r.tags.length ct,.slice Ak r.kids.length ck] 67)) w')=>boxed2 e
 have B0:=fun w' e=>(BX w' e).1
 have B1:=fun w' e=>(BX w' e).2.1
 clear BX;obtain ⟨hl1,hl2,hl3,hl4⟩:=hs;have hT:=h.t;have hK:=h.k;clear h;unfold vrule vdesc at *;unfold tagsB
 by_cases hlen:r.kids.length=r.tags.length+1
 ·have g1:((r.kids.length:Int) !=(r.tags.length:Int)+1)=false:=by simp;omega
  have g2:(r.kids.length==r.tags.length+1)=true:=by simpa using hlen
  rw [g2];have CI:=lhd (fun w=>l1In_c (r.tags.length:Int) 1 8 w);have HB:Hid (between r.tags.length 1 8=(decide ((1:Int)≤(r.tags.length:Int))&&decide ((r.tags.length:Int)≤8))):=rfl
  rw [← HB.out] at CI;have HLEN:=lhd hlen;clear g2 HB hlen;generalize between r.tags.length 1 8=p2 at *;cases p2
  ·go_enter Tryz.func103,Tryz.ntmps103
   go_wp2_with fail;refine (CI.out _).mono ?_;rintro _ w2 ⟨rfl,he2⟩;go_wp2;go_ret;exact ⟨ret_bool (by simp),eb.trans he2⟩
  ·have hk0:0<r.kids.length:=by have:=HLEN.out;omega
   obtain ⟨bk,ok,rfl,hbk,hck⟩:=hK.at 0 hk0;have HG:Hid (r.kids.getD 0 0=r.kids[0]):=by show _=_;simp [List.getD_eq_getElem?_getD,List.getElem?_eq_getElem hk0]
   rw [HG.out];rw [Nat.add_zero] at hck;generalize r.kids[0]=kid at *;have CL:=lhd (fun w h=>sLimit_c A ds c kid w h);unfold vdesc at CL;generalize limD ds kid=lim at *;have hck':=fun w' (e:Ext _ w')=>hck w' (eb.trans e)
   clear hck hK HG;go_enter Tryz.func103,Tryz.ntmps103;go_wp2_with fail;refine (CI.out _).mono ?_;rintro _ w2 ⟨rfl,he2⟩;clear CI g1;go_wp2;go_loopw [5] (fun i wr=>∃ k:Nat,k≤r.tags.length∧i=.int .i64 k∧Hid (∀ j,j<k→tagOk lim r.tags j=true)∧Ext _ wr) (fun i _=>r.tags.length-(intOf i).toNat)
   case atStart=>exact ⟨0,by omega,rfl,(fun j hj=>by omega),he2⟩
   case round =>
    clear he2;obtain ⟨k,hk,rfl,ht,he⟩:=hrel
    by_cases hlt:k<r.tags.length
    ·obtain ⟨b,off,rfl,hb,hc⟩:=hT.at k hlt
     have hc':=fun w' (e:Ext _ w')=>hc w' (eb.trans e)
     have NO:Hid (tagOk lim r.tags k=false→allN r.tags.length (tagOk lim r.tags)=false):=fun hf=>allN_no hlt hf
     have YES:Hid (tagOk lim r.tags k=true→∀ j,j<k+1→tagOk lim r.tags j=true):=upTo ht.out
     have CB:=lhd (fun w=>l1In_c r.tags[k] 0 lim w);have HB:Hid (between r.tags[k] 0 lim=(decide ((0:Int)≤r.tags[k])&&decide (r.tags[k]≤lim))):=rfl
     rw [← HB.out] at CB;clear HB;rcases Nat.eq_zero_or_pos k with hz | hpos
     ·have HN:=lhd (tagOk_zero (lim:=lim) hlt hz)
      have d1:decide ((0:Int)<(k:Int))=false:=by simp;omega
      have d2:decide (0<k)=false:=by simp;omega
      clear hz;generalize r.tags[k]=x at *;generalize between x 0 lim=q1 at *;clear hc hT ht;cases q1
      ·have HE:=lhd (NO.out HN.out);clear NO YES HN
       go_wp2_with fail;refine wp_region_quiet_below (by kernel_rfl) (by kernel_rfl) ?_;repeat (go_big_quiet_step ((first | (go_at_call 72;exact Calls.regrown_of (CL.out _ (hd.ext (eb.trans (by first | assumption | exact Ext_regrown _ _ he))))) | (go_at_call 44;exact Calls.regrown_of (CB.out _)))))
       refine wpQuiet_nil (qnl ?_);intro w1 ew1;go_wp2;go_ret;exact ⟨ret_bool (by rw [HE.out];simp),eb.trans (he.trans ew1)⟩
      ·have HE:=lhd (YES.out HN.out);clear NO YES HN
       go_wp2_with fail;refine wp_region_quiet_below (by kernel_rfl) (by kernel_rfl) ?_;repeat (go_big_quiet_step ((first | (go_at_call 72;exact Calls.regrown_of (CL.out _ (hd.ext (eb.trans (by first | assumption | exact Ext_regrown _ _ he))))) | (go_at_call 44;exact Calls.regrown_of (CB.out _)))))
       refine wpQuiet_nil (qnl ?_);intro w1 ew1;go_wp2;go_roundw
       case rel=>exact ⟨k+1,by omega,by go_num,HE.out,he.trans ew1⟩
       case measure=>simp [intOf];omega
     ·obtain ⟨m,rfl⟩:∃ m,k=m+1:=⟨k-1,by omega⟩
      have HN:=lhd (tagOk_succ (lim:=lim) hlt);obtain ⟨b',off',hh,_,hcm⟩:=hT.at m (by omega);obtain ⟨rfl,rfl⟩:b=b'∧off=off':=by injection hh with hh;injection hh with h1 h2;exact ⟨h1,h2⟩
      have hcm':=fun w' (e:Ext _ w')=>hcm w' (eb.trans e)
      have hwm:=wrap_back m (by omega);generalize r.tags[m+1]=x at *;generalize r.tags[m]=y at *;generalize between x 0 lim=q1 at *;clear hc hT ht hcm hh;cases q1
      ·have HE:=lhd (NO.out (HN.out.trans (by simp)));clear NO YES HN
       go_wp2_with fail;refine wp_region_quiet_below (by kernel_rfl) (by kernel_rfl) ?_;repeat (go_big_quiet_step ((first | (go_at_call 72;exact Calls.regrown_of (CL.out _ (hd.ext (eb.trans (by first | assumption | exact Ext_regrown _ _ he))))) | (go_at_call 44;exact Calls.regrown_of (CB.out _)))))
       refine wpQuiet_nil (qnl ?_);intro w1 ew1;go_wp2;go_ret;exact ⟨ret_bool (by rw [HE.out];simp),eb.trans (he.trans ew1)⟩
      ·cases hq:decide (x≤y)
       ·have HE:=lhd (YES.out (HN.out.trans (by rw [hq];simp)));clear NO YES HN
        go_wp2_with fail;refine wp_region_quiet_below (by kernel_rfl) (by kernel_rfl) ?_;repeat (go_big_quiet_step ((first | (go_at_call 72;exact Calls.regrown_of (CL.out _ (hd.ext (eb.trans (by first | assumption | exact Ext_regrown _ _ he))))) | (go_at_call 44;exact Calls.regrown_of (CB.out _)))))
        refine wpQuiet_nil (qnl ?_);intro w1 ew1;go_wp2;go_roundw
        case rel=>exact ⟨m+2,by omega,by go_num,HE.out,he.trans ew1⟩
        case measure=>simp [intOf];omega
       ·have HE:=lhd (NO.out (HN.out.trans (by rw [hq];simp)));clear NO YES HN
        go_wp2_with fail;refine wp_region_quiet_below (by kernel_rfl) (by kernel_rfl) ?_;repeat (go_big_quiet_step ((first | (go_at_call 72;exact Calls.regrown_of (CL.out _ (hd.ext (eb.trans (by first | assumption | exact Ext_regrown _ _ he))))) | (go_at_call 44;exact Calls.regrown_of (CB.out _)))))
        refine wpQuiet_nil (qnl ?_);intro w1 ew1;go_wp2;go_ret;exact ⟨ret_bool (by rw [HE.out];simp),eb.trans (he.trans ew1)⟩
    ·have HE:Hid (allN r.tags.length (tagOk lim r.tags)=true):=allN_yes (fun j hj=>ht.out j (by omega))
     go_wp2;go_ret;exact ⟨ret_bool (by rw [HE.out];simp),eb.trans he⟩
 ·have g1:((r.kids.length:Int) !=(r.tags.length:Int)+1)=true:=by simp;omega
  have g2:(r.kids.length==r.tags.length+1)=false:=by simpa using hlen
  rw [g2];clear hlen g2;go_enter Tryz.func103,Tryz.ntmps103;go_wp2;go_ret;exact ⟨ret_bool (by simp),eb⟩
theorem plainB_kids {r:DRule} {a b c d:Bool} {k:Nat} (h:plainB r a b c d (k:Int)=true):r.kids.length=k:=by
 unfold plainB at h;simp only [Bool.and_eq_true,Bool.or_eq_true,decide_eq_true_eq] at h
 omega
theorem lim_pos {lim:Int} (hl:lim = -1∨lim=255∨lim=65535∨lim=16777215∨lim=4294967295) {l:List Int} (h:0<l.length) (ht:∀ j,j<l.length→tagOk lim l j=true):decide (0<lim)=true:=by
 have h0:=ht 0 h;rw [tagOk_zero h rfl] at h0;unfold between at h0;simp only [Bool.and_eq_true,decide_eq_true_eq] at h0;simp;omega
theorem iChoice_c (A:Option Addr) (ds:List DRule) (c:Nat) (r:DRule) (Ab:Option Addr) (cb:Nat) (An:Option Addr) (cn:Nat) (At:Option Addr) (ct:Nat) (Ak:Option Addr) (ck:Nat) (w:World) (hd:RdD w A ds c) (h:RdS w r Ab cb An cn At ct Ak ck) (hs:ShortR r) :
 Gives Tryz.prog 111 #[vdesc (.slice A ds.length c),vrule r (.slice Ab r.bytes.length cb) (.slice An r.names.length cn) (.slice At r.tags.length ct) (.slice Ak r.kids.length ck)] w (.bool (choOk ds r)):=by
 have eb:=Ext_alloc (.cells #[.string r.nm,.int .i64 r.kind,.int .i64 r.size,.bool r.little,.slice Ab r.bytes.length cb,.slice An r.names.length cn,.slice At r.tags.length ct,.slice Ak r.kids.length ck] 67) (Ext_alloc (.cells #[.slice A ds.length c] 26) (Ext.refl w));have BX:=fun w' (e:Ext ((w.alloc (.cells #[.slice A ds.length c] 26)).alloc (.cells #[.string r.nm,.int .i64 r.kind,.int .i64 r.size,.bool r.little,.slice Ab r.bytes.length cb,.slice An r.names.length cn,.slice At r.tags.length ct,.slice Ak r.kids.length ck] 67)) w')=>boxed2 e
 have B0:=fun w' e=>(BX w' e).1
 have B1:=fun w' e=>(BX w' e).2.1
 clear BX;have CP:=lhd (fun w=>iPlain0001_c r Ab cb An cn At ct Ak ck ((r.tags.length:Int)+1) w h.lens);obtain ⟨hl1,hl2,hl3,hl4⟩:=hs;have hT:=h.t;have hK:=h.k;clear h;have HK:Hid (plainB r false false false true ((r.tags.length:Int)+1)=true→r.kids.length=r.tags.length+1):=fun hp=>plainB_kids (k:=r.tags.length+1) (by rw [Int.natCast_add];exact hp)
 unfold choOk;generalize plainB r false false false true ((r.tags.length:Int)+1)=p at *;unfold vrule vdesc at *;cases p
 ·go_enter Tryz.func111,Tryz.ntmps111
  go_wp2_with fail;refine (CP.out _).mono ?_;rintro _ w1 ⟨rfl,he1⟩;go_wp2;go_ret;exact ⟨ret_bool (by simp),eb.trans he1⟩
 have hlen:=HK.out rfl;have CI:=lhd (fun w=>iInRange_c (r.tags.length:Int) 1 8 w);have HB:Hid (between r.tags.length 1 8=(decide ((1:Int)≤(r.tags.length:Int))&&decide ((r.tags.length:Int)≤8))):=rfl
 rw [← HB.out] at CI;have HP:Hid (between r.tags.length 1 8=true→0<r.tags.length):=by intro hq;unfold between at hq;simp only [Bool.and_eq_true,decide_eq_true_eq] at hq;omega
 have HLEN:=lhd hlen;clear HB hlen HK;generalize between r.tags.length 1 8=p2 at *;cases p2
 ·go_enter Tryz.func111,Tryz.ntmps111
  go_wp2_with fail;refine (CP.out _).mono ?_;rintro _ w1 ⟨rfl,he1⟩;go_wp2_with fail;refine (CI.out _).mono ?_;rintro _ w2 ⟨rfl,he2⟩;go_wp2;go_ret;exact ⟨ret_bool (by simp),eb.trans (he1.trans he2)⟩
 ·have hpos:=HP.out rfl
  have hk0:0<r.kids.length:=by have:=HLEN.out;omega
  obtain ⟨bk,ok,rfl,hbk,hck⟩:=hK.at 0 hk0;have HG:Hid (r.kids.getD 0 0=r.kids[0]):=by show _=_;simp [List.getD_eq_getElem?_getD,List.getElem?_eq_getElem hk0]
  rw [HG.out];rw [Nat.add_zero] at hck;generalize r.kids[0]=kid at *;have CL:=lhd (fun w h=>iLimit_c A ds c kid w h);have HLC:=lhd (limD_cases ds kid);unfold vdesc at CL;generalize limD ds kid=lim at *;have hck':=fun w' (e:Ext _ w')=>hck w' (eb.trans e)
  clear hck hK HG;go_enter Tryz.func111,Tryz.ntmps111;go_wp2_with fail;refine (CP.out _).mono ?_;rintro _ w1 ⟨rfl,he1⟩;go_wp2_with fail;refine (CI.out _).mono ?_;rintro _ w2 ⟨rfl,he2⟩;have e2:=he1.trans he2;clear CI CP he1 he2;go_wp2_with fail;refine wp_region_quiet_below (by kernel_rfl) (by kernel_rfl) ?_;repeat (go_big_quiet_step ((go_at_call 87;exact Calls.regrown_of (CL.out _ (hd.ext (eb.trans (by first | assumption | exact Ext_regrown _ _ e2)))))))
  refine wpQuiet_nil (qnl ?_);intro w3 ew3;have e3:=e2.trans ew3;clear e2 ew3 CL;go_wp2;go_loopw [31] (fun i wr=>∃ k:Nat,k≤r.tags.length∧i=.int .i64 k∧Hid (∀ j,j<k→tagOk lim r.tags j=true)∧Ext _ wr) (fun i _=>r.tags.length-(intOf i).toNat)
  case atStart=>exact ⟨0,by omega,rfl,(fun j hj=>by omega),e3⟩
  case round =>
   clear e3;obtain ⟨k,hk,rfl,ht,he⟩:=hrel
   by_cases hlt:k<r.tags.length
   ·obtain ⟨b,off,rfl,hb,hc⟩:=hT.at k hlt
    have hc':=fun w' (e:Ext _ w')=>hc w' (eb.trans e)
    have NO:Hid (tagOk lim r.tags k=false→allN r.tags.length (tagOk lim r.tags)=false):=fun hf=>allN_no hlt hf
    have YES:Hid (tagOk lim r.tags k=true→∀ j,j<k+1→tagOk lim r.tags j=true):=upTo ht.out
    have CB:=lhd (fun w=>iInRange_c r.tags[k] 0 lim w);have HB:Hid (between r.tags[k] 0 lim=(decide ((0:Int)≤r.tags[k])&&decide (r.tags[k]≤lim))):=rfl
    rw [← HB.out] at CB;clear HB;rcases Nat.eq_zero_or_pos k with hz | hpos'
    ·have HN:=lhd (tagOk_zero (lim:=lim) hlt hz)
     have d1:decide ((0:Int)<(k:Int))=false:=by simp;omega
     have d2:decide (0<k)=false:=by simp;omega
     clear hz;generalize r.tags[k]=x at *;generalize between x 0 lim=q1 at *;clear hc hT ht;cases q1
     ·have HE:=lhd (NO.out HN.out);clear NO YES HN
      go_wp2_with fail;refine (CB.out _).mono ?_;rintro _ w4 ⟨rfl,he4⟩;go_wp2;go_ret;exact ⟨ret_bool (by rw [HE.out];simp),eb.trans (he.trans he4)⟩
     ·have HE:=lhd (YES.out HN.out);clear NO YES HN
      go_wp2_with fail;refine (CB.out _).mono ?_;rintro _ w4 ⟨rfl,he4⟩;go_wp2;go_roundw
      case rel=>exact ⟨k+1,by omega,by go_num,HE.out,he.trans he4⟩
      case measure=>simp [intOf];omega
    ·obtain ⟨m,rfl⟩:∃ m,k=m+1:=⟨k-1,by omega⟩
     have HN:=lhd (tagOk_succ (lim:=lim) hlt);obtain ⟨b',off',hh,_,hcm⟩:=hT.at m (by omega);obtain ⟨rfl,rfl⟩:b=b'∧off=off':=by injection hh with hh;injection hh with h1 h2;exact ⟨h1,h2⟩
     have hcm':=fun w' (e:Ext _ w')=>hcm w' (eb.trans e)
     have hwm:=wrap_back m (by omega);generalize r.tags[m+1]=x at *;generalize r.tags[m]=y at *;generalize between x 0 lim=q1 at *;clear hc hT ht hcm hh;cases q1
     ·have HE:=lhd (NO.out (HN.out.trans (by simp)));clear NO YES HN
      go_wp2_with fail;refine (CB.out _).mono ?_;rintro _ w4 ⟨rfl,he4⟩;go_wp2;go_ret;exact ⟨ret_bool (by rw [HE.out];simp),eb.trans (he.trans he4)⟩
     ·cases hq:decide (x≤y)
      ·have HE:=lhd (YES.out (HN.out.trans (by rw [hq];simp)));clear NO YES HN
       go_wp2_with fail;refine (CB.out _).mono ?_;rintro _ w4 ⟨rfl,he4⟩;have e4:=he.trans he4;go_wp2;go_roundw
       case rel=>exact ⟨m+2,by omega,by go_num,HE.out,e4⟩
       case measure=>simp [intOf];omega
      ·have HE:=lhd (NO.out (HN.out.trans (by rw [hq];simp)));clear NO YES HN
       go_wp2_with fail;refine (CB.out _).mono ?_;rintro _ w4 ⟨rfl,he4⟩;have e4:=he.trans he4;go_wp2;go_ret;exact ⟨ret_bool (by rw [HE.out];simp),eb.trans e4⟩
   ·have HE:Hid (allN r.tags.length (tagOk lim r.tags)=true):=allN_yes (fun j hj=>ht.out j (by omega))
    have HL0:=lhd (lim_pos HLC.out hpos (fun j hj=>ht.out j (by omega)));have hl0:=HL0.out;go_wp2;go_ret;exact ⟨ret_bool (by rw [HE.out];simp),eb.trans he⟩
end Go.Proofs.YtlfhealneccdkaaGreatDoor
