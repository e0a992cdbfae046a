/- Texts, laid into one. -/
import Derived.Test.YtpmcofmdjckijaaGreatZDg11
import Derived.Test.YtpmcofmdjckijaaGreatZDg16
import Derived.Test.YtpmcofmdjckijaaGreatZDg17
set_option linter.unusedVariables false
set_option linter.unusedSimpArgs false
set_option maxRecDepth 100000
set_option maxHeartbeats 16000000
namespace Go.Proofs.YtpmcofmdjckijaaGreat
open Go.RowKit Go.Sort
theorem sKind_c (A:Option Addr) (ds:List DRule) (c:Nat) (r:DRule) (Ab:Option Addr) (cb:Nat) (An:Option Addr) (cn:Nat) (At:Option Addr) (ct:Nat) (Ak:Option Addr) (ck:Nat) (w:World) (hd:RdD w A ds c) (h:RdS w r Ab cb An cn At ct Ak ck) (hs:ShortR r) (hw:WfR r) :
 Gives Tryz.prog 129 #[vdesc (.slice A ds.length c),vrule r (.slice Ab r.bytes.length cb) (.slice An r.names.length cn) (.slice At r.tags.length ct) (.slice Ak r.kids.length ck)] w (.bool ((!r.little||r.kind==1)&&kindOk ds r)):=by
 rcases (by omega:r.kind=1∨r.kind=2∨r.kind=3∨r.kind=4∨r.kind=5∨r.kind=6∨r.kind=7∨r.kind=8∨r.kind=9∨r.kind=10∨(r.kind<1∨10<r.kind)) with hk | hk | hk | hk | hk | hk | hk | hk | hk | hk | hk
 ·exact sKind1_c A ds c r Ab cb An cn At ct Ak ck w hd h hs hw hk
 ·exact sKind2_c A ds c r Ab cb An cn At ct Ak ck w hd h hs hw hk
 ·exact sKind3_c A ds c r Ab cb An cn At ct Ak ck w hd h hs hw hk
 ·exact sKind4_c A ds c r Ab cb An cn At ct Ak ck w hd h hs hw hk
 ·exact sKind5_c A ds c r Ab cb An cn At ct Ak ck w hd h hs hw hk
 ·exact sKind6_c A ds c r Ab cb An cn At ct Ak ck w hd h hs hw hk
 ·exact sKind7_c A ds c r Ab cb An cn At ct Ak ck w hd h hs hw hk
 ·exact sKind8_c A ds c r Ab cb An cn At ct Ak ck w hd h hs hw hk
 ·exact sKind9_c A ds c r Ab cb An cn At ct Ak ck w hd h hs hw hk
 ·exact sKind10_c A ds c r Ab cb An cn At ct Ak ck w hd h hs hw hk
 ·exact sKindX_c A ds c r Ab cb An cn At ct Ak ck w hd h hs hw hk
theorem freshNm_at {ds:List DRule} {r:DRule} {j:Nat} (h:j<ds.length):freshNm ds r j=!(ds[j].nm.toList==r.nm.toList):=by unfold freshNm;rw [List.getElem?_eq_getElem h]
theorem kidOk_at {l:List Int} {i j:Nat} (h:j<l.length):kidOk l i j=between l[j] 0 ((i:Int)-1):=by unfold kidOk;rw [List.getElem?_eq_getElem h]
theorem ruleOk_at {ds:List DRule} {i:Nat} (h:i<ds.length):ruleOk ds i=(isName ds[i].nm&&(!ds[i].little||ds[i].kind==1)&&allN i (freshNm ds ds[i])&&allN ds[i].kids.length (kidOk ds[i].kids i)&&kindOk ds ds[i]):=by unfold ruleOk;rw [List.getElem?_eq_getElem h]
theorem sRule_c (A:Option Addr) (ds:List DRule) (c:Nat) (i:Nat) (w:World) (hd:RdD w A ds c) (hi:i<ds.length) (hs:ShortD ds) (hw:WfD ds) :
 Gives Tryz.prog 73 #[vdesc (.slice A ds.length c),.int .i64 i] w (.bool (ruleOk ds i)):=by
 have hl:=hd.len;have hcap:=hd.cap;have eb:=Ext_alloc (.cells #[.slice A ds.length c] 26) (Ext.refl w);have BX:=fun w' (e:Ext (w.alloc (.cells #[.slice A ds.length c] 26)) w')=>boxed e
 rw [ruleOk_at hi];obtain ⟨b,off,hA,hb,hall⟩:=hd.cells (by omega);have HALL:=lhd hall;obtain ⟨Ab,cb,An,cn,At,ct,Ak,ck,hS,hRA⟩:=hall i hi;clear hall;have hsr:=hs _ (List.getElem_mem hi);have hwr:=hw _ (List.getElem_mem hi);have HF:Hid (∀ j (h:j<ds.length),freshNm ds ds[i] j=!(ds[j].nm.toList==ds[i].nm.toList)):=fun j h=>freshNm_at h
 generalize ds[i]=r at *;have HKO:Hid (∀ j (h:j<r.kids.length),kidOk r.kids i j=between r.kids[j] 0 ((i:Int)-1)):=fun j h=>kidOk_at h
 have CK:=lhd (fun w h h'=>sKind_c A ds c r Ab cb An cn At ct Ak ck w h h' hsr hwr);have CN:=lhd (fun w=>sIsName_c r.nm w hwr.nm);have HS:=lhd hS;have hK:=hS.k;have hKl:=hK.len;generalize kindOk ds r=KO at *;generalize isName r.nm=NM at *;generalize freshNm ds r=FR at *;have HSX:Hid (∀ w',Ext w w'→RdS w' r Ab cb An cn At ct Ak ck):=fun w' e=>HS.out.ext e
 clear hS hsr hwr HS;unfold vrule vdesc at *;have CK':=lhd (fun w' (e:Ext w w')=>CK.out w' (hd.ext e) (HSX.out w' e));clear CK HSX;replace hRA:=hRA.ext eb;obtain ⟨nm,kind,size,little,bytes,names,tags,kids⟩:=r;obtain ⟨k0,k1,k2,k3,k4,k5,k6,k7⟩:=hRA;dsimp only at *;have hi1:(i:Int)<(ds.length:Int):=by omega
 have hi0:(0:Int)≤(i:Int):=by omega
 have hic:(i:Int)≤(c:Int):=by omega
 have CI:=lhd (fun w=>l1In_c (i:Int) 0 ((ds.length:Int)-1) w);have HI:Hid ((decide ((0:Int)≤(i:Int))&&decide ((i:Int)≤(ds.length:Int)-1))=true):=by show _=_;simp;omega
 rw [HI.out] at CI;clear HI hd;subst hA;go_enter Tryz.func73,Tryz.ntmps73;go_wp2_with fail;refine (CI.out _).mono ?_;rintro _ w1 ⟨rfl,s1⟩;have x1:=Ext_alloc (.cells #[.string nm,.int .i64 kind,.int .i64 size,.bool little,.slice Ab bytes.length cb,.slice An names.length cn,.slice At tags.length ct,.slice Ak kids.length ck] 96) (Ext.refl w1);have BR:=fun w' (e:Ext (w1.alloc (.cells #[.string nm,.int .i64 kind,.int .i64 size,.bool little,.slice Ab bytes.length cb,.slice An names.length cn,.slice At tags.length ct,.slice Ak kids.length ck] 96)) w')=>boxed e
 have e1:=s1.trans x1;have eb1:=eb.trans e1;go_wp2;go_loopw [6] (fun q wr=>∃ k:Nat,k≤i∧q=.int .i64 k∧Hid (∀ j,j<k→FR j=true)∧Ext (w1.alloc (.cells #[.string nm,.int .i64 kind,.int .i64 size,.bool little,.slice Ab bytes.length cb,.slice An names.length cn,.slice At tags.length ct,.slice Ak kids.length ck] 96)) wr) (fun q _=>i-(intOf q).toNat)
 case atStart=>exact ⟨0,by omega,rfl,(fun j hj=>by omega),Ext.refl _⟩
 case round =>
  skip
  obtain ⟨k,hk,rfl,ht,he⟩:=hrel;have hx:=e1.trans he
  by_cases hlt:k<i
  ·have hkd:k<ds.length:=by omega
   obtain ⟨Ab2,cb2,An2,cn2,At2,ct2,Ak2,ck2,_,hR2⟩:=HALL.out k hkd;have HN:=lhd (HF.out k hkd);have NO:Hid (FR k=false→allN i FR=false):=fun hf=>allN_no hlt hf
   have YES:Hid (FR k=true→∀ j,j<k+1→FR j=true):=upTo ht.out
   generalize ds[k]=p at *;obtain ⟨m0,m1,m2,m3,m4,m5,m6,m7⟩:=hR2.ext eb;clear hR2 ht;have hk1:(k:Int)<(ds.length:Int):=by omega
   cases hq:(p.nm.toList==nm.toList)
   ·have HE:=lhd (YES.out (HN.out.trans (by rw [hq];rfl)));clear NO YES HN
    go_wp2_with fail;refine wp_region_quiet_below (by kernel_rfl) (by kernel_rfl) ?_;repeat (go_big_quiet_step (fail))
    refine wpQuiet_nil (qnl ?_);intro w5 ew5;go_wp2;go_roundw
    case rel=>exact ⟨k+1,by omega,by go_num,HE.out,he.trans ew5⟩
    case measure=>simp [intOf];omega
   ·have HE:=lhd (NO.out (HN.out.trans (by rw [hq];rfl)));clear NO YES HN
    go_wp2_with fail;refine wp_region_quiet_below (by kernel_rfl) (by kernel_rfl) ?_;repeat (go_big_quiet_step (fail))
    refine wpQuiet_nil (qnl ?_);intro w5 ew5;go_wp2;go_ret;exact ⟨ret_bool (by rw [HE.out];simp),eb1.trans (he.trans ew5)⟩
  ·have HE1:Hid (allN i FR=true):=allN_yes (fun j hj=>ht.out j (by omega))
   obtain ⟨wo,rfl⟩:∃ wo:World,wo=wr:=⟨_,rfl⟩;clear ht HALL HF;go_wp2;go_loopw [7] (fun q wr=>∃ k:Nat,k≤kids.length∧q=.int .i64 k∧Hid (∀ j,j<k→kidOk kids i j=true)∧Ext (w1.alloc (.cells #[.string nm,.int .i64 kind,.int .i64 size,.bool little,.slice Ab bytes.length cb,.slice An names.length cn,.slice At tags.length ct,.slice Ak kids.length ck] 96)) wr) (fun q _=>kids.length-(intOf q).toNat)
   case atStart=>exact ⟨0,by omega,rfl,(fun j hj=>by omega),he⟩
   case round =>
    clear he hx;obtain ⟨k,hk,rfl,ht,he⟩:=hrel;have hx:=e1.trans he
    by_cases hlt:k<kids.length
    ·have HN:=lhd (HKO.out k hlt)
     have NO:Hid (kidOk kids i k=false→allN kids.length (kidOk kids i)=false):=fun hf=>allN_no hlt hf
     have YES:Hid (kidOk kids i k=true→∀ j,j<k+1→kidOk kids i j=true):=upTo ht.out
     obtain ⟨b2,off2,rfl,hb2,hc2⟩:=hK.at k hlt;have hc3:=fun w' (e:Ext _ w')=>hc2 w' (eb.trans e)
     clear hc2 ht;generalize kids[k]=kid at *;have CB:=lhd (fun w=>l1In_c kid 0 ((i:Int)-1) w);have HB:Hid (between kid 0 ((i:Int)-1)=(decide ((0:Int)≤kid)&&decide (kid≤(i:Int)-1))):=rfl
     rw [← HB.out] at CB;clear HB;generalize between kid 0 ((i:Int)-1)=q1 at *;cases q1
     ·have HE:=lhd (NO.out HN.out);clear NO YES HN
      go_wp2_with fail;refine (CB.out _).mono ?_;rintro _ w6 ⟨rfl,s6⟩;go_wp2;go_ret;exact ⟨ret_bool (by rw [HE.out];simp),eb1.trans (he.trans s6)⟩
     ·have HE:=lhd (YES.out HN.out);clear NO YES HN
      go_wp2_with fail;refine (CB.out _).mono ?_;rintro _ w6 ⟨rfl,s6⟩;go_wp2;go_roundw
      case rel=>exact ⟨k+1,by omega,by go_num,HE.out,he.trans s6⟩
      case measure=>simp [intOf];omega
    ·have HE2:Hid (allN kids.length (kidOk kids i)=true):=allN_yes (fun j hj=>ht.out j (by omega))
     cases NM
     ·go_wp2_with fail
      refine (CN.out _).mono ?_;rintro _ w7 ⟨rfl,s7⟩;go_wp2;go_ret;exact ⟨ret_bool (by simp),eb1.trans (he.trans s7)⟩
     ·go_wp2_with fail
      refine (CN.out _).mono ?_;rintro _ w7 ⟨rfl,s7⟩;have e7:=he.trans s7;have hx7:=hx.trans s7;go_wp2_with fail;refine (CK'.out _ (eb1.trans e7)).mono ?_;rintro _ w8 ⟨rfl,s8⟩;go_wp2;go_ret;exact ⟨ret_bool (by rw [HE1.out,HE2.out];simp),eb1.trans (e7.trans s8)⟩
theorem sValidDesc_c (A:Option Addr) (ds:List DRule) (c:Nat) (w:World) (hd:RdD w A ds c) (hs:ShortD ds) (hw:WfD ds) :
 Gives Tryz.prog 42 #[vdesc (.slice A ds.length c)] w (.bool (descOk ds)):=by
 have hl:=hd.len;have eb:=Ext_alloc (.cells #[.slice A ds.length c] 26) (Ext.refl w);have BX:=fun w' (e:Ext (w.alloc (.cells #[.slice A ds.length c] 26)) w')=>boxed e
 have CI:=lhd (fun w=>l1In_c (ds.length:Int) 1 24 w);have CR:=lhd (fun i w h hi=>sRule_c A ds c i w h hi hs hw);have HB:Hid (between ds.length 1 24=(decide ((1:Int)≤(ds.length:Int))&&decide ((ds.length:Int)≤24))):=rfl
 rw [← HB.out] at CI;unfold descOk;clear HB;generalize between ds.length 1 24=p at *;unfold vdesc at *;go_enter Tryz.func42,Tryz.ntmps42;go_wp2;go_loopw [3] (fun q wr=>∃ k:Nat,k≤ds.length∧q=.int .i64 k∧Hid (∀ j,j<k→ruleOk ds j=true)∧Ext (w.alloc (.cells #[.slice A ds.length c] 26)) wr) (fun q _=>ds.length-(intOf q).toNat)
 case atStart=>exact ⟨0,by omega,rfl,(fun j hj=>by omega),Ext.refl _⟩
 case round =>
  obtain ⟨k,hk,rfl,ht,he⟩:=hrel
  by_cases hlt:k<ds.length
  ·have C:=lhd (fun w h=>CR.out k w h hlt)
   have NO:Hid (ruleOk ds k=false→allN ds.length (ruleOk ds)=false):=fun hf=>allN_no hlt hf
   have YES:Hid (ruleOk ds k=true→∀ j,j<k+1→ruleOk ds j=true):=upTo ht.out
   generalize ruleOk ds k=q at *;clear ht;cases q
   ·have HE:=lhd (NO.out rfl);clear NO YES
    go_wp2_with fail;refine (C.out _ (hd.ext (eb.trans he))).mono ?_;rintro _ w4 ⟨rfl,s4⟩;go_wp2;go_ret;exact ⟨ret_bool (by rw [HE.out];simp),eb.trans (he.trans s4)⟩
   ·have HE:=lhd (YES.out rfl);clear NO YES
    go_wp2_with fail;refine (C.out _ (hd.ext (eb.trans he))).mono ?_;rintro _ w4 ⟨rfl,s4⟩;go_wp2;go_roundw
    case rel=>exact ⟨k+1,by omega,by go_num,HE.out,he.trans s4⟩
    case measure=>simp [intOf];omega
  ·have HE:Hid (allN ds.length (ruleOk ds)=true):=allN_yes (fun j hj=>ht.out j (by omega))
   go_wp2_with fail;refine (CI.out _).mono ?_;rintro _ w5 ⟨rfl,s5⟩;go_wp2;go_ret;exact ⟨ret_bool (by rw [HE.out];simp),eb.trans (he.trans s5)⟩
def regF (gs:List (List DRule)) (i:Nat):Bool:=match gs[i]? with | some d=>descOk d | none=>true
def knownB (ds:List DRule) (i:Int):Bool:=descOk ds&&(decide (0≤i)&&decide (i<ds.length))
theorem sKnown_c (A:Option Addr) (ds:List DRule) (c:Nat) (i:Int) (w:World) (hd:RdD w A ds c) (hs:ShortD ds) (hw:WfD ds) :
 Gives Tryz.prog 70 #[vdesc (.slice A ds.length c),.int .i64 i] w (.bool (knownB ds i)):=by
 have hl:=hd.len;have eb:=Ext_alloc (.cells #[.slice A ds.length c] 26) (Ext.refl w);have BX:=fun w' (e:Ext (w.alloc (.cells #[.slice A ds.length c] 26)) w')=>boxed e
 have CV:=lhd (fun w h=>sValidDesc_c A ds c w h hs hw);have CH:=lhd (fun w=>l1In_c i 0 ((ds.length:Int)-1) w)
 have HQ:Hid ((decide (0≤i)&&decide (i<(ds.length:Int)))=(decide (0≤i)&&decide (i≤(ds.length:Int)-1))):=by
  show _=_;congr 1;rw [Bool.eq_iff_iff];simp;omega
 unfold knownB;rw [HQ.out];clear HQ;unfold vdesc at *;generalize descOk ds=p at *;generalize (decide (0≤i)&&decide (i≤(ds.length:Int)-1))=q at *;cases q
 ·go_enter Tryz.func70,Tryz.ntmps70
  go_wp2_with fail;refine (CH.out _).mono ?_;rintro _ w1 ⟨rfl,e1⟩;go_wp2;go_ret;exact ⟨ret_bool (by simp),eb.trans e1⟩
 ·go_enter Tryz.func70,Tryz.ntmps70
  go_wp2_with fail;refine (CH.out _).mono ?_;rintro _ w1 ⟨rfl,e1⟩;go_wp2_with fail;refine (CV.out _ (hd.ext (eb.trans e1))).mono ?_;rintro _ w2 ⟨rfl,e2⟩;go_wp2;go_ret;exact ⟨ret_bool (by simp),eb.trans (e1.trans e2)⟩
end Go.Proofs.YtpmcofmdjckijaaGreat
namespace Go.Proofs.YtpmcofmdjckijaaGreat
structure RuleFacts (r:DRule):Prop where
 kind:1≤r.kind∧r.kind≤10
 plain:r.kind=1∨r.kind=2∨r.kind=3∨r.kind=10→r.names=[]∧r.kids=[]
 parts:r.kind=4∨r.kind=5∨r.kind=6∨r.kind=7∨r.kind=8∨r.kind=9→r.size=0∧r.little=false∧r.bytes=[]
 cho:r.kind=7→r.kids.length=r.tags.length+1∧r.names=[]
theorem plainB_facts {r:DRule} {s b n t:Bool} {k:Int} (h:plainB r s b n t k=true):(s=false→r.size=0)∧(b=false→r.bytes=[])∧(n=false→r.names=[])∧(0≤k→(r.kids.length:Int)=k):=by
 unfold plainB at h;simp only [Bool.and_eq_true,Bool.or_eq_true,beq_iff_eq,decide_eq_true_eq,List.length_eq_zero_iff] at h;obtain ⟨⟨⟨⟨h1,h2⟩,h3⟩,h4⟩,h5⟩:=h;refine ⟨fun e=>?_,fun e=>?_,fun e=>?_,fun e=>by omega⟩
 ·rw [e] at h1;simpa using h1
 ·rw [e] at h2;simpa using h2
 ·rw [e] at h3;simpa using h3
theorem ruleKind {ds:List DRule} (h:descOk ds=true) (i:Nat) (hi:i<ds.length):kindOk ds ds[i]=true:=by
 unfold descOk at h;rw [Bool.and_eq_true] at h;have h1:=allN_at h.2 hi;unfold ruleOk at h1;rw [List.getElem?_eq_getElem hi] at h1;simp only [Bool.and_eq_true] at h1;exact h1.2
theorem ruleFacts {ds:List DRule} (h:descOk ds=true) (i:Nat) (hi:i<ds.length):RuleFacts ds[i]:=by
 unfold descOk at h;rw [Bool.and_eq_true] at h;have h1:=allN_at h.2 hi;unfold ruleOk at h1;rw [List.getElem?_eq_getElem hi] at h1;simp only [Bool.and_eq_true] at h1;have hk:=h1.2;have hlit:=h1.1.1.1.2;generalize ds[i]=r at *
 have hl:r.kind≠1→r.little=false:=by
  intro hne;cases hq:r.little
  ·rfl
  ·rw [hq] at hlit;simp at hlit;exact absurd hlit hne
 unfold kindOk at hk;have NO:∀ {p:Prop} {k k':Int},k≠k'→r.kind=k→r.kind=k'→p:=fun hne e1 e2=>absurd (e1.symm.trans e2) hne
 split at hk
 ·rename_i e
  simp only [Bool.and_eq_true] at hk;have f:=plainB_facts hk.1.1;exact ⟨by omega,fun _=>⟨f.2.2.1 rfl,by have:=f.2.2.2 (by omega);simpa using this⟩,fun h=>by omega,fun h=>by omega⟩
 split at hk
 ·rename_i e
  simp only [Bool.and_eq_true] at hk;have f:=plainB_facts hk.1;exact ⟨by omega,fun _=>⟨f.2.2.1 rfl,by have:=f.2.2.2 (by omega);simpa using this⟩,fun h=>by omega,fun h=>by omega⟩
 split at hk
 ·rename_i e
  simp only [Bool.and_eq_true] at hk;have f:=plainB_facts hk.1;exact ⟨by omega,fun _=>⟨f.2.2.1 rfl,by have:=f.2.2.2 (by omega);simpa using this⟩,fun h=>by omega,fun h=>by omega⟩
 split at hk
 ·rename_i e
  simp only [Bool.and_eq_true] at hk;have f:=plainB_facts hk.1;exact ⟨by omega,fun h=>by omega,fun _=>⟨f.1 rfl,hl (by omega),f.2.1 rfl⟩,fun h=>by omega⟩
 split at hk
 ·rename_i e
  simp only [Bool.and_eq_true] at hk;have f:=plainB_facts hk.1;exact ⟨by omega,fun h=>by omega,fun _=>⟨f.1 rfl,hl (by omega),f.2.1 rfl⟩,fun h=>by omega⟩
 split at hk
 ·rename_i e
  unfold seqOk at hk;simp only [Bool.and_eq_true] at hk;have f:=plainB_facts hk.1.1.1;exact ⟨by omega,fun h=>by omega,fun _=>⟨f.1 rfl,hl (by omega),f.2.1 rfl⟩,fun h=>by omega⟩
 split at hk
 ·rename_i e
  unfold choOk at hk;simp only [Bool.and_eq_true] at hk;have f:=plainB_facts hk.1.1;exact ⟨by omega,fun h=>by omega,fun _=>⟨f.1 rfl,hl (by omega),f.2.1 rfl⟩,fun _=>⟨by have:=f.2.2.2 (by omega);omega,f.2.2.1 rfl⟩⟩
 split at hk
 ·rename_i e
  have f:=plainB_facts hk;exact ⟨by omega,fun h=>by omega,fun _=>⟨f.1 rfl,hl (by omega),f.2.1 rfl⟩,fun h=>by omega⟩
 split at hk
 ·rename_i e
  have f:=plainB_facts hk;exact ⟨by omega,fun h=>by omega,fun _=>⟨f.1 rfl,hl (by omega),f.2.1 rfl⟩,fun h=>by omega⟩
 split at hk
 ·rename_i e
  simp only [Bool.and_eq_true] at hk;have f:=plainB_facts hk.1.1;exact ⟨by omega,fun _=>⟨f.2.2.1 rfl,by have:=f.2.2.2 (by omega);simpa using this⟩,fun h=>by omega,fun h=>by omega⟩
 ·cases hk
def tagN (l:List Int) (t:Int):Nat:=l.findIdx (·==t)
theorem tagN_at {l:List Int} {t:Int} {k:Nat} (hk:k<l.length) (h:l[k]=t) (hn:∀ j (hj:j<l.length),j<k→l[j]≠t):tagN l t=k:=by
 unfold tagN;rw [List.findIdx_eq hk];exact ⟨by simpa using h,fun j hj=>by have:=hn j (by omega) hj;simpa using this⟩
theorem tagN_none {l:List Int} {t:Int} (hn:∀ j (hj:j<l.length),l[j]≠t):tagN l t=l.length:=by
 unfold tagN;rw [List.findIdx_eq_length];intro x hx;obtain ⟨k,hk,rfl⟩:=List.getElem_of_mem hx
 simpa using hn k hk
theorem tagN_le (l:List Int) (t:Int):tagN l t≤l.length:=List.findIdx_le_length
def kd (r:DRule) (t:Nat):Nat:=(r.kids.getD t 0).toNat
theorem kd_at {r:DRule} {t:Nat} (h:t<r.kids.length):kd r t=r.kids[t].toNat:=by unfold kd;simp [h]
theorem kd_lt {ds:List DRule} (h:descOk ds=true) (i:Nat) (hi:i<ds.length) (t:Nat) (ht:t<ds[i].kids.length):kd ds[i] t<i:=by
 rw [kd_at ht];have:=descOk_kid h i hi t ht;omega
theorem kd_int {ds:List DRule} (h:descOk ds=true) (i:Nat) (hi:i<ds.length) (t:Nat) (ht:t<ds[i].kids.length):ds[i].kids[t]=(kd ds[i] t:Int):=by
 rw [kd_at ht];have:=descOk_kid h i hi t ht;omega
def extHead (x y:DRule):Bool:=x.kind==y.kind&&x.size==y.size&&x.little==y.little&&x.bytes==y.bytes
def extTag (e:Nat→Nat→Bool) (x y:DRule) (t:Nat):Bool:=decide (tagN y.tags (x.tags.getD t 0)<y.tags.length)&&e (kd x (t+1)) (kd y (tagN y.tags (x.tags.getD t 0)+1))
def extTail (e:Nat→Nat→Bool) (x y:DRule):Bool :=
 if x.kind=7 then e (kd x 0) (kd y 0)&&allN x.tags.length (extTag e x y)
 else eqNms x.names y.names&&x.kids.length==y.kids.length&&allN x.kids.length (fun t=>e (kd x t) (kd y t))
def extF (a b:List DRule):Nat→Nat→Nat→Bool
 | 0,_,_=>false
 | n+1,i,j=>match a[i]?,b[j]? with
  | some x,some y=>extHead x y&&extTail (extF a b n) x y
  | _,_=>false
def ext (a b:List DRule) (i j:Nat):Bool:=extF a b (i+1) i j
def extRule (a b:List DRule) (i j:Int):Bool:=knownB a i&&(knownB b j&&ext a b i.toNat j.toNat)
def extD (a b:List DRule):Bool:=extRule a b ((a.length:Int)-1) ((b.length:Int)-1)
def sameF (a b:List DRule):Bool:=extD a b&&extD b a
theorem kids_len {ds:List DRule} (h:descOk ds=true) (i:Nat) (hi:i<ds.length) :
 (ds[i].kind=4→ds[i].kids.length=1∧0<limD ds (ds[i].kids.getD 0 0))∧(ds[i].kind=5→ds[i].kids.length=2∧0<limD ds (ds[i].kids.getD 0 0))∧(ds[i].kind=6→ds[i].names.length=ds[i].kids.length∧∀ s∈ds[i].names,s.size≤12) ∧
 (ds[i].kind=7→ds[i].kids.length=ds[i].tags.length+1∧∀ j (hj:j<ds[i].tags.length),0≤ds[i].tags[j]∧ds[i].tags[j]≤limD ds (ds[i].kids.getD 0 0))∧(ds[i].kind=8∨ds[i].kind=9→ds[i].kids.length=1)∧(ds[i].kind=1→1≤ds[i].size∧ds[i].size≤4)∧(ds[i].kind=3→1≤ds[i].size∧ds[i].size≤64):=by
 have hk:=ruleKind h i hi;generalize ds[i]=r at *;unfold kindOk at hk
 split at hk
 ·rename_i e
  simp only [Bool.and_eq_true,between,decide_eq_true_eq] at hk;exact ⟨fun e'=>by omega,fun e'=>by omega,fun e'=>by omega,fun e'=>by omega,fun e'=>by omega,fun _=>hk.1.2,fun e'=>by omega⟩
 split at hk
 ·rename_i e
  exact ⟨fun e'=>by omega,fun e'=>by omega,fun e'=>by omega,fun e'=>by omega,fun e'=>by omega,fun e'=>by omega,fun e'=>by omega⟩
 split at hk
 ·rename_i e
  simp only [Bool.and_eq_true,between,decide_eq_true_eq] at hk;exact ⟨fun e'=>by omega,fun e'=>by omega,fun e'=>by omega,fun e'=>by omega,fun e'=>by omega,fun e'=>by omega,fun _=>hk.2⟩
 split at hk
 ·rename_i e
  simp only [Bool.and_eq_true,decide_eq_true_eq] at hk;have f:=(plainB_facts hk.1).2.2.2 (by omega);exact ⟨fun _=>⟨by omega,hk.2⟩,fun e'=>by omega,fun e'=>by omega,fun e'=>by omega,fun e'=>by omega,fun e'=>by omega,fun e'=>by omega⟩
 split at hk
 ·rename_i e
  simp only [Bool.and_eq_true,decide_eq_true_eq] at hk;have f:=(plainB_facts hk.1).2.2.2 (by omega);exact ⟨fun e'=>by omega,fun _=>⟨by omega,hk.2⟩,fun e'=>by omega,fun e'=>by omega,fun e'=>by omega,fun e'=>by omega,fun e'=>by omega⟩
 split at hk
 ·rename_i e
  unfold seqOk at hk;simp only [Bool.and_eq_true,beq_iff_eq] at hk;have hn:=hk.2;refine ⟨fun e'=>by omega,fun e'=>by omega,fun _=>⟨hk.1.1.2.symm,fun s hs=>?_⟩,fun e'=>by omega,fun e'=>by omega,fun e'=>by omega,fun e'=>by omega⟩;obtain ⟨k,hk',rfl⟩:=List.getElem_of_mem hs
  have:=allN_at hn hk';unfold nameOk at this;rw [List.getElem?_eq_getElem hk'] at this;simp only [Bool.and_eq_true] at this;have h2:=this.1;unfold isName at h2;simp only [Bool.and_eq_true,decide_eq_true_eq] at h2;exact h2.1.2
 split at hk
 ·rename_i e
  unfold choOk at hk;simp only [Bool.and_eq_true] at hk;have f:=(plainB_facts hk.1.1).2.2.2 (by omega);refine ⟨fun e'=>by omega,fun e'=>by omega,fun e'=>by omega,fun _=>⟨by omega,fun j hj=>?_⟩,fun e'=>by omega,fun e'=>by omega,fun e'=>by omega⟩
  have:=allN_at hk.2 hj;unfold tagOk at this;rw [List.getElem?_eq_getElem hj] at this;simp only [Bool.and_eq_true,between,decide_eq_true_eq] at this;exact this.1
 split at hk
 ·rename_i e
  have f:=(plainB_facts hk).2.2.2 (by omega);exact ⟨fun e'=>by omega,fun e'=>by omega,fun e'=>by omega,fun e'=>by omega,fun _=>by omega,fun e'=>by omega,fun e'=>by omega⟩
 split at hk
 ·rename_i e
  have f:=(plainB_facts hk).2.2.2 (by omega);exact ⟨fun e'=>by omega,fun e'=>by omega,fun e'=>by omega,fun e'=>by omega,fun _=>by omega,fun e'=>by omega,fun e'=>by omega⟩
 split at hk
 ·rename_i e
  exact ⟨fun e'=>by omega,fun e'=>by omega,fun e'=>by omega,fun e'=>by omega,fun e'=>by omega,fun e'=>by omega,fun e'=>by omega⟩
 ·cases hk
abbrev Ins:=Int × Int × Int
def callI (r:DRule) (es:List Int) (t:Nat):Ins:=(9,es.getD (kd r t) 0,0)
def tagsC (r:DRule) (start:Int) (n:Nat):List Ins:=(List.range n).map fun i=>(11,r.tags.getD i 0,start+(r.tags.length:Int)+2+2*(i:Int))
def altsC (r:DRule) (es:List Int) (n:Nat):List Ins:=(List.range n).flatMap fun i=>callI r es (i+1)::(if i+1<r.tags.length then [(10,0,0)] else [])
def choC (r:DRule) (start:Int) (es:List Int):List Ins:=callI r es 0::(tagsC r start r.tags.length++(12,3,0)::altsC r es r.tags.length)
def bodyC (r:DRule) (start:Int) (es:List Int):List Ins :=
 if r.kind=1 then [(1,r.size,if r.little then 1 else 0)]
 else if r.kind=2 then r.bytes.map fun b=>(2,(b.toNat:Int),0)
 else if r.kind=3 then [(3,r.size,0)]
 else if r.kind=4 then [callI r es 0,(4,0,0)]
 else if r.kind=5 then [callI r es 0,(5,40,0),(6,0,0),(7,start+6,0),callI r es 1,(8,start+3,0)]
 else if r.kind=6 then (List.range r.kids.length).map (callI r es)
 else if r.kind=7 then choC r start es
 else if r.kind=8 then [(13,start+2,0),callI r es 0]
 else if r.kind=9 then [(14,0,0),callI r es 0,(15,0,0)]
 else [(16,((r.bytes.getD 0 0).toNat:Int),0)]
def ruleC (r:DRule) (start:Int) (es:List Int):List Ins:=bodyC r start es++[(10,0,0)]
def compN (ds:List DRule):Nat→List Ins × List Int
 | 0=>([(9,0,0),(17,0,0)],[])
 | k+1=>((compN ds k).1++(match ds[k]? with | some r=>ruleC r (compN ds k).1.length (compN ds k).2 | none=>[]),(compN ds k).2++[((compN ds k).1.length:Int)])
def compD (ds:List DRule):List Ins × List Int :=
 if descOk ds then ((compN ds ds.length).1.set 0 (9,(compN ds ds.length).2.getLastD 0,0),(compN ds ds.length).2) else ([],[])
theorem tagsC_succ (r:DRule) (start:Int) (k:Nat):tagsC r start (k+1)=tagsC r start k++[(11,r.tags.getD k 0,start+(r.tags.length:Int)+2+2*(k:Int))]:=by
 unfold tagsC;rw [List.range_succ,List.map_append];rfl
theorem altsC_succ (r:DRule) (es:List Int) (k:Nat):altsC r es (k+1)=altsC r es k++(callI r es (k+1)::(if k+1<r.tags.length then [(10,0,0)] else [])):=by
 unfold altsC;rw [List.range_succ,List.flatMap_append,List.flatMap_cons,List.flatMap_nil,List.append_nil]
theorem tagsC_len (r:DRule) (start:Int) (k:Nat):(tagsC r start k).length=k:=by simp [tagsC]
theorem altsC_len (r:DRule) (es:List Int) (k:Nat):(altsC r es k).length≤2*k:=by
 induction k with
 | zero=>simp [altsC]
 | succ k ih =>
  rw [altsC_succ,List.length_append,List.length_cons]
  split<;>simp<;>omega
theorem compN_ents (ds:List DRule):∀ k,(compN ds k).2.length=k
 | 0=>rfl
 | k+1=>by rw [compN,List.length_append,compN_ents ds k];rfl
theorem compN_succ (ds:List DRule) (k:Nat) (hk:k<ds.length):compN ds (k+1)=((compN ds k).1++ruleC ds[k] (compN ds k).1.length (compN ds k).2,(compN ds k).2++[((compN ds k).1.length:Int)]):=by
 rw [compN,List.getElem?_eq_getElem hk]
def ruleM (r:DRule):Nat:=10+r.bytes.length+r.kids.length+3*r.tags.length
end Go.Proofs.YtpmcofmdjckijaaGreat
