/- Texts, laid into one. -/
import Derived.Test.YtlfhealneccdkaaGreatDoorZDf18
import Derived.Test.YtlfhealneccdkaaGreatDoorZDf17
import Derived.Test.YtlfhealneccdkaaGreatDoorZDf14
set_option linter.unusedVariables false
set_option linter.unusedSimpArgs false
set_option maxRecDepth 100000
set_option maxHeartbeats 16000000
namespace Go.Proofs.YtlfhealneccdkaaGreatDoor
open Go.RowKit Go.Sort
theorem iKind_c (A:Option Addr) (ds:List DRule) (c:Nat) (r:DRule) (Ab:Option Addr) (cb:Nat) (An:Option Addr) (cn:Nat) (At:Option Addr) (ct:Nat) (Ak:Option Addr) (ck:Nat) (w:World) (hd:RdD w A ds c) (h:RdS w r Ab cb An cn At ct Ak ck) (hs:ShortR r) (hw:WfR r) :
 Gives Tryz.prog 97 #[vdesc (.slice A ds.length c),vrule r (.slice Ab r.bytes.length cb) (.slice An r.names.length cn) (.slice At r.tags.length ct) (.slice Ak r.kids.length ck)] w (.bool (kindOk ds r)):=by
 rcases (by omega:r.kind=1∨r.kind=2∨r.kind=3∨r.kind=4∨r.kind=5∨r.kind=6∨r.kind=7∨r.kind=8∨r.kind=9∨r.kind=10∨(r.kind<1∨10<r.kind)) with hk | hk | hk | hk | hk | hk | hk | hk | hk | hk | hk
 ·exact iKind1_c A ds c r Ab cb An cn At ct Ak ck w hd h hs hw hk
 ·exact iKind2_c A ds c r Ab cb An cn At ct Ak ck w hd h hs hw hk
 ·exact iKind3_c A ds c r Ab cb An cn At ct Ak ck w hd h hs hw hk
 ·exact iKind4_c A ds c r Ab cb An cn At ct Ak ck w hd h hs hw hk
 ·exact iKind5_c A ds c r Ab cb An cn At ct Ak ck w hd h hs hw hk
 ·exact iKind6_c A ds c r Ab cb An cn At ct Ak ck w hd h hs hw hk
 ·exact iKind7_c A ds c r Ab cb An cn At ct Ak ck w hd h hs hw hk
 ·exact iKind8_c A ds c r Ab cb An cn At ct Ak ck w hd h hs hw hk
 ·exact iKind9_c A ds c r Ab cb An cn At ct Ak ck w hd h hs hw hk
 ·exact iKind10_c A ds c r Ab cb An cn At ct Ak ck w hd h hs hw hk
 ·exact iKindX_c A ds c r Ab cb An cn At ct Ak ck w hd h hs hw hk
theorem sKind_c (A:Option Addr) (ds:List DRule) (c:Nat) (r:DRule) (Ab:Option Addr) (cb:Nat) (An:Option Addr) (cn:Nat) (At:Option Addr) (ct:Nat) (Ak:Option Addr) (ck:Nat) (w:World) (hd:RdD w A ds c) (h:RdS w r Ab cb An cn At ct Ak ck) (hs:ShortR r) (hw:WfR r) :
 Gives Tryz.prog 90 #[vdesc (.slice A ds.length c),vrule r (.slice Ab r.bytes.length cb) (.slice An r.names.length cn) (.slice At r.tags.length ct) (.slice Ak r.kids.length ck)] w (.bool ((!r.little||r.kind==1)&&kindOk ds r)):=by
 rcases (by omega:r.kind=1∨r.kind=2∨r.kind=3∨r.kind=4∨r.kind=5∨r.kind=6∨r.kind=7∨r.kind=8∨r.kind=9∨r.kind=10∨(r.kind<1∨10<r.kind)) with hk | hk | hk | hk | hk | hk | hk | hk | hk | hk | hk
 ·exact sKind1_c A ds c r Ab cb An cn At ct Ak ck w hd h hs hw hk
 ·exact sKind2_c A ds c r Ab cb An cn At ct Ak ck w hd h hs hw hk
 ·exact sKind3_c A ds c r Ab cb An cn At ct Ak ck w hd h hs hw hk
 ·exact sKind4_c A ds c r Ab cb An cn At ct Ak ck w hd h hs hw hk
 ·exact sKind5_c A ds c r Ab cb An cn At ct Ak ck w hd h hs hw hk
 ·exact sKind6_c A ds c r Ab cb An cn At ct Ak ck w hd h hs hw hk
 ·exact sKind7_c A ds c r Ab cb An cn At ct Ak ck w hd h hs hw hk
 ·exact sKind8_c A ds c r Ab cb An cn At ct Ak ck w hd h hs hw hk
 ·exact sKind9_c A ds c r Ab cb An cn At ct Ak ck w hd h hs hw hk
 ·exact sKind10_c A ds c r Ab cb An cn At ct Ak ck w hd h hs hw hk
 ·exact sKindX_c A ds c r Ab cb An cn At ct Ak ck w hd h hs hw hk
theorem freshNm_at {ds:List DRule} {r:DRule} {j:Nat} (h:j<ds.length):freshNm ds r j=!(ds[j].nm.toList==r.nm.toList):=by unfold freshNm;rw [List.getElem?_eq_getElem h]
theorem kidOk_at {l:List Int} {i j:Nat} (h:j<l.length):kidOk l i j=between l[j] 0 ((i:Int)-1):=by unfold kidOk;rw [List.getElem?_eq_getElem h]
theorem ruleOk_at {ds:List DRule} {i:Nat} (h:i<ds.length):ruleOk ds i=(isName ds[i].nm&&(!ds[i].little||ds[i].kind==1)&&allN i (freshNm ds ds[i])&&allN ds[i].kids.length (kidOk ds[i].kids i)&&kindOk ds ds[i]):=by unfold ruleOk;rw [List.getElem?_eq_getElem h]
theorem iRule_c (A:Option Addr) (ds:List DRule) (c:Nat) (i:Nat) (w:World) (hd:RdD w A ds c) (hi:i<ds.length) (hs:ShortD ds) (hw:WfD ds) :
 Gives Tryz.prog 86 #[vdesc (.slice A ds.length c),.int .i64 i] w (.bool (ruleOk ds i)):=by
 have hl:=hd.len;have hcap:=hd.cap;have eb:=Ext_alloc (.cells #[.slice A ds.length c] 26) (Ext.refl w);have BX:=fun w' (e:Ext (w.alloc (.cells #[.slice A ds.length c] 26)) w')=>boxed e
 rw [ruleOk_at hi];obtain ⟨b,off,hA,hb,hall⟩:=hd.cells (by omega);have HALL:=lhd hall;obtain ⟨Ab,cb,An,cn,At,ct,Ak,ck,hS,hRA⟩:=hall i hi;clear hall;have hsr:=hs _ (List.getElem_mem hi);have hwr:=hw _ (List.getElem_mem hi);have HF:Hid (∀ j (h:j<ds.length),freshNm ds ds[i] j=!(ds[j].nm.toList==ds[i].nm.toList)):=fun j h=>freshNm_at h
 generalize ds[i]=r at *;have HKO:Hid (∀ j (h:j<r.kids.length),kidOk r.kids i j=between r.kids[j] 0 ((i:Int)-1)):=fun j h=>kidOk_at h
 have CK:=lhd (fun w h h'=>iKind_c A ds c r Ab cb An cn At ct Ak ck w h h' hsr hwr);have CN:=lhd (fun w=>iIsName_c r.nm w hwr.nm);have HS:=lhd hS;have hK:=hS.k;have hKl:=hK.len;generalize kindOk ds r=KO at *;generalize isName r.nm=NM at *;generalize freshNm ds r=FR at *;have HSX:Hid (∀ w',Ext w w'→RdS w' r Ab cb An cn At ct Ak ck):=fun w' e=>HS.out.ext e
 clear hS hsr hwr HS;unfold vrule vdesc at *;have CK':=lhd (fun w' (e:Ext w w')=>CK.out w' (hd.ext e) (HSX.out w' e));clear CK HSX;replace hRA:=hRA.ext eb;obtain ⟨nm,kind,size,little,bytes,names,tags,kids⟩:=r;obtain ⟨k0,k1,k2,k3,k4,k5,k6,k7⟩:=hRA;dsimp only at *;have hi1:(i:Int)<(ds.length:Int):=by omega
 have hi0:(0:Int)≤(i:Int):=by omega
 have hic:(i:Int)≤(c:Int):=by omega
 have CI:=lhd (fun w=>hasRule_c A ds.length c (i:Int) w hl);have HI:Hid ((decide ((0:Int)≤(i:Int))&&decide ((i:Int)<(ds.length:Int)))=true):=by show _=_;simp;omega
 rw [HI.out] at CI;unfold vdesc at CI;clear HI hd;subst hA;obtain ⟨kq,hkq⟩:∃ kq,(kind==1)=kq:=⟨_,rfl⟩;have hkn:(kind !=1)=!kq:=by rw [bne,hkq]
 rw [hkq];cases NM
 ·clear hkq hkn
  go_enter Tryz.func86,Tryz.ntmps86;go_wp2_with fail;refine (CI.out _).mono ?_;rintro _ w1 ⟨rfl,s1⟩;have x1:=Ext_alloc (.cells #[.string nm,.int .i64 kind,.int .i64 size,.bool little,.slice Ab bytes.length cb,.slice An names.length cn,.slice At tags.length ct,.slice Ak kids.length ck] 67) (Ext.refl w1);have BR:=fun w' (e:Ext (w1.alloc (.cells #[.string nm,.int .i64 kind,.int .i64 size,.bool little,.slice Ab bytes.length cb,.slice An names.length cn,.slice At tags.length ct,.slice Ak kids.length ck] 67)) w')=>boxed e
  have e1:=s1.trans x1;have eb1:=eb.trans e1;go_wp2_with fail;refine (CN.out _).mono ?_;rintro _ w2 ⟨rfl,s2⟩;go_wp2;go_ret;exact ⟨ret_bool (by simp),eb1.trans s2⟩
 cases little
 ·clear hkq hkn
  go_enter Tryz.func86,Tryz.ntmps86;go_wp2_with fail;refine (CI.out _).mono ?_;rintro _ w1 ⟨rfl,s1⟩;have x1:=Ext_alloc (.cells #[.string nm,.int .i64 kind,.int .i64 size,.bool false,.slice Ab bytes.length cb,.slice An names.length cn,.slice At tags.length ct,.slice Ak kids.length ck] 67) (Ext.refl w1);have BR:=fun w' (e:Ext (w1.alloc (.cells #[.string nm,.int .i64 kind,.int .i64 size,.bool false,.slice Ab bytes.length cb,.slice An names.length cn,.slice At tags.length ct,.slice Ak kids.length ck] 67)) w')=>boxed e
  have e1:=s1.trans x1;have eb1:=eb.trans e1;go_wp2_with fail;refine (CN.out _).mono ?_;rintro _ w2 ⟨rfl,s2⟩;have hx2:=e1.trans s2;go_wp2;go_loopw [37] (fun q wr=>∃ k:Nat,k≤i∧q=.int .i64 k∧Hid (∀ j,j<k→FR j=true)∧Ext (w1.alloc (.cells #[.string nm,.int .i64 kind,.int .i64 size,.bool false,.slice Ab bytes.length cb,.slice An names.length cn,.slice At tags.length ct,.slice Ak kids.length ck] 67)) wr) (fun q _=>i-(intOf q).toNat)
  case atStart=>exact ⟨0,by omega,rfl,(fun j hj=>by omega),s2⟩
  case round =>
   clear hx2 s2;obtain ⟨k,hk,rfl,ht,he⟩:=hrel;have hx:=e1.trans he
   by_cases hlt:k<i
   ·have hkd:k<ds.length:=by omega
    obtain ⟨Ab2,cb2,An2,cn2,At2,ct2,Ak2,ck2,_,hR2⟩:=HALL.out k hkd;have HN:=lhd (HF.out k hkd);have NO:Hid (FR k=false→allN i FR=false):=fun hf=>allN_no hlt hf
    have YES:Hid (FR k=true→∀ j,j<k+1→FR j=true):=upTo ht.out
    generalize ds[k]=p at *;obtain ⟨m0,m1,m2,m3,m4,m5,m6,m7⟩:=hR2.ext eb;clear hR2 ht;have hk1:(k:Int)<(ds.length:Int):=by omega
    cases hq:(p.nm.toList==nm.toList)
    ·have HE:=lhd (YES.out (HN.out.trans (by rw [hq];rfl)));clear NO YES HN
     go_wp2;go_roundw
     case rel=>exact ⟨k+1,by omega,by go_num,HE.out,Ext_alloc _ he⟩
     case measure=>simp [intOf];omega
    ·have HE:=lhd (NO.out (HN.out.trans (by rw [hq];rfl)));clear NO YES HN
     go_wp2;go_ret;exact ⟨ret_bool (by rw [HE.out];simp),eb1.trans (Ext_alloc _ he)⟩
   ·have HE1:Hid (allN i FR=true):=allN_yes (fun j hj=>ht.out j (by omega))
    obtain ⟨wo,rfl⟩:∃ wo:World,wo=wr:=⟨_,rfl⟩;clear ht HALL HF;go_wp2;go_loopw [50] (fun q wr=>∃ k:Nat,k≤kids.length∧q=.int .i64 k∧Hid (∀ j,j<k→kidOk kids i j=true)∧Ext (w1.alloc (.cells #[.string nm,.int .i64 kind,.int .i64 size,.bool false,.slice Ab bytes.length cb,.slice An names.length cn,.slice At tags.length ct,.slice Ak kids.length ck] 67)) wr) (fun q _=>kids.length-(intOf q).toNat)
    case atStart=>exact ⟨0,by omega,rfl,(fun j hj=>by omega),he⟩
    case round =>
     clear he hx;obtain ⟨k,hk,rfl,ht,he⟩:=hrel;have hx:=e1.trans he
     by_cases hlt:k<kids.length
     ·have HN:=lhd (HKO.out k hlt)
      have NO:Hid (kidOk kids i k=false→allN kids.length (kidOk kids i)=false):=fun hf=>allN_no hlt hf
      have YES:Hid (kidOk kids i k=true→∀ j,j<k+1→kidOk kids i j=true):=upTo ht.out
      obtain ⟨b2,off2,rfl,hb2,hc2⟩:=hK.at k hlt;have hc3:=fun w' (e:Ext _ w')=>hc2 w' (eb.trans e)
      clear hc2 ht;generalize kids[k]=kid at *;cases q1:decide (kid<0)
      ·cases q2:decide ((i:Int)≤kid)
       ·have HE:=lhd (YES.out (HN.out.trans (by unfold between;simp at q1 q2 ⊢;omega)));clear NO YES HN
        go_wp2;go_roundw
        case rel=>exact ⟨k+1,by omega,by go_num,HE.out,he⟩
        case measure=>simp [intOf];omega
       ·have HE:=lhd (NO.out (HN.out.trans (by unfold between;simp at q1 q2 ⊢;omega)));clear NO YES HN
        go_wp2;go_ret;exact ⟨ret_bool (by rw [HE.out];simp),eb1.trans he⟩
      ·have HE:=lhd (NO.out (HN.out.trans (by unfold between;simp at q1 ⊢;omega)));clear NO YES HN
       go_wp2;go_ret;exact ⟨ret_bool (by rw [HE.out];simp),eb1.trans he⟩
     ·have HE2:Hid (allN kids.length (kidOk kids i)=true):=allN_yes (fun j hj=>ht.out j (by omega))
      go_wp2_with fail;refine (CK'.out _ (eb1.trans he)).mono ?_;rintro _ w8 ⟨rfl,s8⟩;go_wp2;go_ret;exact ⟨ret_bool (by rw [HE1.out,HE2.out];simp),eb1.trans (he.trans s8)⟩
 cases kq
 ·go_enter Tryz.func86,Tryz.ntmps86
  go_wp2_with fail;refine (CI.out _).mono ?_;rintro _ w1 ⟨rfl,s1⟩;have x1:=Ext_alloc (.cells #[.string nm,.int .i64 kind,.int .i64 size,.bool true,.slice Ab bytes.length cb,.slice An names.length cn,.slice At tags.length ct,.slice Ak kids.length ck] 67) (Ext.refl w1);have BR:=fun w' (e:Ext (w1.alloc (.cells #[.string nm,.int .i64 kind,.int .i64 size,.bool true,.slice Ab bytes.length cb,.slice An names.length cn,.slice At tags.length ct,.slice Ak kids.length ck] 67)) w')=>boxed e
  have e1:=s1.trans x1;have eb1:=eb.trans e1;go_wp2_with fail;refine (CN.out _).mono ?_;rintro _ w2 ⟨rfl,s2⟩;go_wp2;go_ret;exact ⟨ret_bool (by simp),eb1.trans s2⟩
 go_enter Tryz.func86,Tryz.ntmps86;go_wp2_with fail;refine (CI.out _).mono ?_;rintro _ w1 ⟨rfl,s1⟩;have x1:=Ext_alloc (.cells #[.string nm,.int .i64 kind,.int .i64 size,.bool true,.slice Ab bytes.length cb,.slice An names.length cn,.slice At tags.length ct,.slice Ak kids.length ck] 67) (Ext.refl w1);have BR:=fun w' (e:Ext (w1.alloc (.cells #[.string nm,.int .i64 kind,.int .i64 size,.bool true,.slice Ab bytes.length cb,.slice An names.length cn,.slice At tags.length ct,.slice Ak kids.length ck] 67)) w')=>boxed e
 have e1:=s1.trans x1;have eb1:=eb.trans e1;go_wp2_with fail;refine (CN.out _).mono ?_;rintro _ w2 ⟨rfl,s2⟩;have hx2:=e1.trans s2;go_wp2;go_loopw [37] (fun q wr=>∃ k:Nat,k≤i∧q=.int .i64 k∧Hid (∀ j,j<k→FR j=true)∧Ext (w1.alloc (.cells #[.string nm,.int .i64 kind,.int .i64 size,.bool true,.slice Ab bytes.length cb,.slice An names.length cn,.slice At tags.length ct,.slice Ak kids.length ck] 67)) wr) (fun q _=>i-(intOf q).toNat)
 case atStart=>exact ⟨0,by omega,rfl,(fun j hj=>by omega),s2⟩
 case round =>
  clear hx2 s2;obtain ⟨k,hk,rfl,ht,he⟩:=hrel;have hx:=e1.trans he
  by_cases hlt:k<i
  ·have hkd:k<ds.length:=by omega
   obtain ⟨Ab2,cb2,An2,cn2,At2,ct2,Ak2,ck2,_,hR2⟩:=HALL.out k hkd;have HN:=lhd (HF.out k hkd);have NO:Hid (FR k=false→allN i FR=false):=fun hf=>allN_no hlt hf
   have YES:Hid (FR k=true→∀ j,j<k+1→FR j=true):=upTo ht.out
   generalize ds[k]=p at *;obtain ⟨m0,m1,m2,m3,m4,m5,m6,m7⟩:=hR2.ext eb;clear hR2 ht;have hk1:(k:Int)<(ds.length:Int):=by omega
   cases hq:(p.nm.toList==nm.toList)
   ·have HE:=lhd (YES.out (HN.out.trans (by rw [hq];rfl)));clear NO YES HN
    go_wp2;go_roundw
    case rel=>exact ⟨k+1,by omega,by go_num,HE.out,Ext_alloc _ he⟩
    case measure=>simp [intOf];omega
   ·have HE:=lhd (NO.out (HN.out.trans (by rw [hq];rfl)));clear NO YES HN
    go_wp2;go_ret;exact ⟨ret_bool (by rw [HE.out];simp),eb1.trans (Ext_alloc _ he)⟩
  ·have HE1:Hid (allN i FR=true):=allN_yes (fun j hj=>ht.out j (by omega))
   obtain ⟨wo,rfl⟩:∃ wo:World,wo=wr:=⟨_,rfl⟩;clear ht HALL HF;go_wp2;go_loopw [50] (fun q wr=>∃ k:Nat,k≤kids.length∧q=.int .i64 k∧Hid (∀ j,j<k→kidOk kids i j=true)∧Ext (w1.alloc (.cells #[.string nm,.int .i64 kind,.int .i64 size,.bool true,.slice Ab bytes.length cb,.slice An names.length cn,.slice At tags.length ct,.slice Ak kids.length ck] 67)) wr) (fun q _=>kids.length-(intOf q).toNat)
   case atStart=>exact ⟨0,by omega,rfl,(fun j hj=>by omega),he⟩
   case round =>
    clear he hx;obtain ⟨k,hk,rfl,ht,he⟩:=hrel;have hx:=e1.trans he
    by_cases hlt:k<kids.length
    ·have HN:=lhd (HKO.out k hlt)
     have NO:Hid (kidOk kids i k=false→allN kids.length (kidOk kids i)=false):=fun hf=>allN_no hlt hf
     have YES:Hid (kidOk kids i k=true→∀ j,j<k+1→kidOk kids i j=true):=upTo ht.out
     obtain ⟨b2,off2,rfl,hb2,hc2⟩:=hK.at k hlt;have hc3:=fun w' (e:Ext _ w')=>hc2 w' (eb.trans e)
     clear hc2 ht;generalize kids[k]=kid at *;cases q1:decide (kid<0)
     ·cases q2:decide ((i:Int)≤kid)
      ·have HE:=lhd (YES.out (HN.out.trans (by unfold between;simp at q1 q2 ⊢;omega)));clear NO YES HN
       go_wp2;go_roundw
       case rel=>exact ⟨k+1,by omega,by go_num,HE.out,he⟩
       case measure=>simp [intOf];omega
      ·have HE:=lhd (NO.out (HN.out.trans (by unfold between;simp at q1 q2 ⊢;omega)));clear NO YES HN
       go_wp2;go_ret;exact ⟨ret_bool (by rw [HE.out];simp),eb1.trans he⟩
     ·have HE:=lhd (NO.out (HN.out.trans (by unfold between;simp at q1 ⊢;omega)));clear NO YES HN
      go_wp2;go_ret;exact ⟨ret_bool (by rw [HE.out];simp),eb1.trans he⟩
    ·have HE2:Hid (allN kids.length (kidOk kids i)=true):=allN_yes (fun j hj=>ht.out j (by omega))
     go_wp2_with fail;refine (CK'.out _ (eb1.trans he)).mono ?_;rintro _ w8 ⟨rfl,s8⟩;go_wp2;go_ret;exact ⟨ret_bool (by rw [HE1.out,HE2.out];simp),eb1.trans (he.trans s8)⟩
theorem sRule_c (A:Option Addr) (ds:List DRule) (c:Nat) (i:Nat) (w:World) (hd:RdD w A ds c) (hi:i<ds.length) (hs:ShortD ds) (hw:WfD ds) :
 Gives Tryz.prog 71 #[vdesc (.slice A ds.length c),.int .i64 i] w (.bool (ruleOk ds i)):=by
 have hl:=hd.len;have hcap:=hd.cap;have eb:=Ext_alloc (.cells #[.slice A ds.length c] 26) (Ext.refl w);have BX:=fun w' (e:Ext (w.alloc (.cells #[.slice A ds.length c] 26)) w')=>boxed e
 rw [ruleOk_at hi];obtain ⟨b,off,hA,hb,hall⟩:=hd.cells (by omega);have HALL:=lhd hall;obtain ⟨Ab,cb,An,cn,At,ct,Ak,ck,hS,hRA⟩:=hall i hi;clear hall;have hsr:=hs _ (List.getElem_mem hi);have hwr:=hw _ (List.getElem_mem hi);have HF:Hid (∀ j (h:j<ds.length),freshNm ds ds[i] j=!(ds[j].nm.toList==ds[i].nm.toList)):=fun j h=>freshNm_at h
 generalize ds[i]=r at *;have HKO:Hid (∀ j (h:j<r.kids.length),kidOk r.kids i j=between r.kids[j] 0 ((i:Int)-1)):=fun j h=>kidOk_at h
 have CK:=lhd (fun w h h'=>sKind_c A ds c r Ab cb An cn At ct Ak ck w h h' hsr hwr);have CN:=lhd (fun w=>sIsName_c r.nm w hwr.nm);have HS:=lhd hS;have hK:=hS.k;have hKl:=hK.len;generalize kindOk ds r=KO at *;generalize isName r.nm=NM at *;generalize freshNm ds r=FR at *;have HSX:Hid (∀ w',Ext w w'→RdS w' r Ab cb An cn At ct Ak ck):=fun w' e=>HS.out.ext e
 clear hS hsr hwr HS;unfold vrule vdesc at *;have CK':=lhd (fun w' (e:Ext w w')=>CK.out w' (hd.ext e) (HSX.out w' e));clear CK HSX;replace hRA:=hRA.ext eb;obtain ⟨nm,kind,size,little,bytes,names,tags,kids⟩:=r;obtain ⟨k0,k1,k2,k3,k4,k5,k6,k7⟩:=hRA;dsimp only at *;have hi1:(i:Int)<(ds.length:Int):=by omega
 have hi0:(0:Int)≤(i:Int):=by omega
 have hic:(i:Int)≤(c:Int):=by omega
 have CI:=lhd (fun w=>l1In_c (i:Int) 0 ((ds.length:Int)-1) w);have HI:Hid ((decide ((0:Int)≤(i:Int))&&decide ((i:Int)≤(ds.length:Int)-1))=true):=by show _=_;simp;omega
 rw [HI.out] at CI;clear HI hd;subst hA;go_enter Tryz.func71,Tryz.ntmps71;go_wp2_with fail;refine (CI.out _).mono ?_;rintro _ w1 ⟨rfl,s1⟩;have x1:=Ext_alloc (.cells #[.string nm,.int .i64 kind,.int .i64 size,.bool little,.slice Ab bytes.length cb,.slice An names.length cn,.slice At tags.length ct,.slice Ak kids.length ck] 67) (Ext.refl w1);have BR:=fun w' (e:Ext (w1.alloc (.cells #[.string nm,.int .i64 kind,.int .i64 size,.bool little,.slice Ab bytes.length cb,.slice An names.length cn,.slice At tags.length ct,.slice Ak kids.length ck] 67)) w')=>boxed e
 have e1:=s1.trans x1;have eb1:=eb.trans e1;go_wp2;go_loopw [6] (fun q wr=>∃ k:Nat,k≤i∧q=.int .i64 k∧Hid (∀ j,j<k→FR j=true)∧Ext (w1.alloc (.cells #[.string nm,.int .i64 kind,.int .i64 size,.bool little,.slice Ab bytes.length cb,.slice An names.length cn,.slice At tags.length ct,.slice Ak kids.length ck] 67)) wr) (fun q _=>i-(intOf q).toNat)
 case atStart=>exact ⟨0,by omega,rfl,(fun j hj=>by omega),Ext.refl _⟩
 case round =>
  skip
  obtain ⟨k,hk,rfl,ht,he⟩:=hrel;have hx:=e1.trans he
  by_cases hlt:k<i
  ·have hkd:k<ds.length:=by omega
   obtain ⟨Ab2,cb2,An2,cn2,At2,ct2,Ak2,ck2,_,hR2⟩:=HALL.out k hkd;have HN:=lhd (HF.out k hkd);have NO:Hid (FR k=false→allN i FR=false):=fun hf=>allN_no hlt hf
   have YES:Hid (FR k=true→∀ j,j<k+1→FR j=true):=upTo ht.out
   generalize ds[k]=p at *;obtain ⟨m0,m1,m2,m3,m4,m5,m6,m7⟩:=hR2.ext eb;clear hR2 ht;have hk1:(k:Int)<(ds.length:Int):=by omega
   cases hq:(p.nm.toList==nm.toList)
   ·have HE:=lhd (YES.out (HN.out.trans (by rw [hq];rfl)));clear NO YES HN
    go_wp2_with fail;refine wp_region_quiet_below (by kernel_rfl) (by kernel_rfl) ?_;repeat (go_big_quiet_step (fail))
    refine wpQuiet_nil (qnl ?_);intro w5 ew5;go_wp2;go_roundw
    case rel=>exact ⟨k+1,by omega,by go_num,HE.out,he.trans ew5⟩
    case measure=>simp [intOf];omega
   ·have HE:=lhd (NO.out (HN.out.trans (by rw [hq];rfl)));clear NO YES HN
    go_wp2_with fail;refine wp_region_quiet_below (by kernel_rfl) (by kernel_rfl) ?_;repeat (go_big_quiet_step (fail))
    refine wpQuiet_nil (qnl ?_);intro w5 ew5;go_wp2;go_ret;exact ⟨ret_bool (by rw [HE.out];simp),eb1.trans (he.trans ew5)⟩
  ·have HE1:Hid (allN i FR=true):=allN_yes (fun j hj=>ht.out j (by omega))
   obtain ⟨wo,rfl⟩:∃ wo:World,wo=wr:=⟨_,rfl⟩;clear ht HALL HF;go_wp2;go_loopw [7] (fun q wr=>∃ k:Nat,k≤kids.length∧q=.int .i64 k∧Hid (∀ j,j<k→kidOk kids i j=true)∧Ext (w1.alloc (.cells #[.string nm,.int .i64 kind,.int .i64 size,.bool little,.slice Ab bytes.length cb,.slice An names.length cn,.slice At tags.length ct,.slice Ak kids.length ck] 67)) wr) (fun q _=>kids.length-(intOf q).toNat)
   case atStart=>exact ⟨0,by omega,rfl,(fun j hj=>by omega),he⟩
   case round =>
    clear he hx;obtain ⟨k,hk,rfl,ht,he⟩:=hrel;have hx:=e1.trans he
    by_cases hlt:k<kids.length
    ·have HN:=lhd (HKO.out k hlt)
     have NO:Hid (kidOk kids i k=false→allN kids.length (kidOk kids i)=false):=fun hf=>allN_no hlt hf
     have YES:Hid (kidOk kids i k=true→∀ j,j<k+1→kidOk kids i j=true):=upTo ht.out
     obtain ⟨b2,off2,rfl,hb2,hc2⟩:=hK.at k hlt;have hc3:=fun w' (e:Ext _ w')=>hc2 w' (eb.trans e)
     clear hc2 ht;generalize kids[k]=kid at *;have CB:=lhd (fun w=>l1In_c kid 0 ((i:Int)-1) w);have HB:Hid (between kid 0 ((i:Int)-1)=(decide ((0:Int)≤kid)&&decide (kid≤(i:Int)-1))):=rfl
     rw [← HB.out] at CB;clear HB;generalize between kid 0 ((i:Int)-1)=q1 at *;cases q1
     ·have HE:=lhd (NO.out HN.out);clear NO YES HN
      go_wp2_with fail;refine (CB.out _).mono ?_;rintro _ w6 ⟨rfl,s6⟩;go_wp2;go_ret;exact ⟨ret_bool (by rw [HE.out];simp),eb1.trans (he.trans s6)⟩
     ·have HE:=lhd (YES.out HN.out);clear NO YES HN
      go_wp2_with fail;refine (CB.out _).mono ?_;rintro _ w6 ⟨rfl,s6⟩;go_wp2;go_roundw
      case rel=>exact ⟨k+1,by omega,by go_num,HE.out,he.trans s6⟩
      case measure=>simp [intOf];omega
    ·have HE2:Hid (allN kids.length (kidOk kids i)=true):=allN_yes (fun j hj=>ht.out j (by omega))
     cases NM
     ·go_wp2_with fail
      refine (CN.out _).mono ?_;rintro _ w7 ⟨rfl,s7⟩;go_wp2;go_ret;exact ⟨ret_bool (by simp),eb1.trans (he.trans s7)⟩
     ·go_wp2_with fail
      refine (CN.out _).mono ?_;rintro _ w7 ⟨rfl,s7⟩;have e7:=he.trans s7;have hx7:=hx.trans s7;go_wp2_with fail;refine (CK'.out _ (eb1.trans e7)).mono ?_;rintro _ w8 ⟨rfl,s8⟩;go_wp2;go_ret;exact ⟨ret_bool (by rw [HE1.out,HE2.out];simp),eb1.trans (e7.trans s8)⟩
theorem iValidDesc_c (A:Option Addr) (ds:List DRule) (c:Nat) (w:World) (hd:RdD w A ds c) (hs:ShortD ds) (hw:WfD ds) :
 Gives Tryz.prog 66 #[vdesc (.slice A ds.length c)] w (.bool (descOk ds)):=by
 have hl:=hd.len;have eb:=Ext_alloc (.cells #[.slice A ds.length c] 26) (Ext.refl w);have BX:=fun w' (e:Ext (w.alloc (.cells #[.slice A ds.length c] 26)) w')=>boxed e
 have CI:=lhd (fun w=>iInRange_c (ds.length:Int) 1 24 w);have CR:=lhd (fun i w h hi=>iRule_c A ds c i w h hi hs hw);have HB:Hid (between ds.length 1 24=(decide ((1:Int)≤(ds.length:Int))&&decide ((ds.length:Int)≤24))):=rfl
 rw [← HB.out] at CI;unfold descOk;clear HB;generalize between ds.length 1 24=p at *;unfold vdesc at *;cases p
 ·go_enter Tryz.func66,Tryz.ntmps66
  go_wp2_with fail;refine (CI.out _).mono ?_;rintro _ w5 ⟨rfl,s5⟩;go_wp2;go_ret;exact ⟨ret_bool (by simp),eb.trans s5⟩
 ·go_enter Tryz.func66,Tryz.ntmps66
  go_wp2_with fail;refine (CI.out _).mono ?_;rintro _ w5 ⟨rfl,s5⟩;go_wp2;go_loopw [12] (fun q wr=>∃ k:Nat,k≤ds.length∧q=.int .i64 k∧Hid (∀ j,j<k→ruleOk ds j=true)∧Ext (w.alloc (.cells #[.slice A ds.length c] 26)) wr) (fun q _=>ds.length-(intOf q).toNat)
  case atStart=>exact ⟨0,by omega,rfl,(fun j hj=>by omega),s5⟩
  case round =>
   clear s5;obtain ⟨k,hk,rfl,ht,he⟩:=hrel
   by_cases hlt:k<ds.length
   ·have C:=lhd (fun w h=>CR.out k w h hlt)
    have NO:Hid (ruleOk ds k=false→allN ds.length (ruleOk ds)=false):=fun hf=>allN_no hlt hf
    have YES:Hid (ruleOk ds k=true→∀ j,j<k+1→ruleOk ds j=true):=upTo ht.out
    generalize ruleOk ds k=q at *;clear ht;cases q
    ·have HE:=lhd (NO.out rfl);clear NO YES
     go_wp2_with fail;refine (C.out _ (hd.ext (eb.trans he))).mono ?_;rintro _ w4 ⟨rfl,s4⟩;go_wp2;go_ret;exact ⟨ret_bool (by rw [HE.out];simp),eb.trans (he.trans s4)⟩
    ·have HE:=lhd (YES.out rfl);clear NO YES
     go_wp2_with fail;refine (C.out _ (hd.ext (eb.trans he))).mono ?_;rintro _ w4 ⟨rfl,s4⟩;go_wp2;go_roundw
     case rel=>exact ⟨k+1,by omega,by go_num,HE.out,he.trans s4⟩
     case measure=>simp [intOf];omega
   ·have HE:Hid (allN ds.length (ruleOk ds)=true):=allN_yes (fun j hj=>ht.out j (by omega))
    go_wp2;go_ret;exact ⟨ret_bool (by rw [HE.out];simp),eb.trans he⟩
theorem sValidDesc_c (A:Option Addr) (ds:List DRule) (c:Nat) (w:World) (hd:RdD w A ds c) (hs:ShortD ds) (hw:WfD ds) :
 Gives Tryz.prog 45 #[vdesc (.slice A ds.length c)] w (.bool (descOk ds)):=by
 have hl:=hd.len;have eb:=Ext_alloc (.cells #[.slice A ds.length c] 26) (Ext.refl w);have BX:=fun w' (e:Ext (w.alloc (.cells #[.slice A ds.length c] 26)) w')=>boxed e
 have CI:=lhd (fun w=>l1In_c (ds.length:Int) 1 24 w);have CR:=lhd (fun i w h hi=>sRule_c A ds c i w h hi hs hw);have HB:Hid (between ds.length 1 24=(decide ((1:Int)≤(ds.length:Int))&&decide ((ds.length:Int)≤24))):=rfl
 rw [← HB.out] at CI;unfold descOk;clear HB;generalize between ds.length 1 24=p at *;unfold vdesc at *;go_enter Tryz.func45,Tryz.ntmps45;go_wp2;go_loopw [3] (fun q wr=>∃ k:Nat,k≤ds.length∧q=.int .i64 k∧Hid (∀ j,j<k→ruleOk ds j=true)∧Ext (w.alloc (.cells #[.slice A ds.length c] 26)) wr) (fun q _=>ds.length-(intOf q).toNat)
 case atStart=>exact ⟨0,by omega,rfl,(fun j hj=>by omega),Ext.refl _⟩
 case round =>
  obtain ⟨k,hk,rfl,ht,he⟩:=hrel
  by_cases hlt:k<ds.length
  ·have C:=lhd (fun w h=>CR.out k w h hlt)
   have NO:Hid (ruleOk ds k=false→allN ds.length (ruleOk ds)=false):=fun hf=>allN_no hlt hf
   have YES:Hid (ruleOk ds k=true→∀ j,j<k+1→ruleOk ds j=true):=upTo ht.out
   generalize ruleOk ds k=q at *;clear ht;cases q
   ·have HE:=lhd (NO.out rfl);clear NO YES
    go_wp2_with fail;refine (C.out _ (hd.ext (eb.trans he))).mono ?_;rintro _ w4 ⟨rfl,s4⟩;go_wp2;go_ret;exact ⟨ret_bool (by rw [HE.out];simp),eb.trans (he.trans s4)⟩
   ·have HE:=lhd (YES.out rfl);clear NO YES
    go_wp2_with fail;refine (C.out _ (hd.ext (eb.trans he))).mono ?_;rintro _ w4 ⟨rfl,s4⟩;go_wp2;go_roundw
    case rel=>exact ⟨k+1,by omega,by go_num,HE.out,he.trans s4⟩
    case measure=>simp [intOf];omega
  ·have HE:Hid (allN ds.length (ruleOk ds)=true):=allN_yes (fun j hj=>ht.out j (by omega))
   go_wp2_with fail;refine (CI.out _).mono ?_;rintro _ w5 ⟨rfl,s5⟩;go_wp2;go_ret;exact ⟨ret_bool (by rw [HE.out];simp),eb.trans (he.trans s5)⟩
def regF (gs:List (List DRule)) (i:Nat):Bool:=match gs[i]? with | some d=>descOk d | none=>true
def knownB (ds:List DRule) (i:Int):Bool:=descOk ds&&(decide (0≤i)&&decide (i<ds.length))
theorem iKnown_c (A:Option Addr) (ds:List DRule) (c:Nat) (i:Int) (w:World) (hd:RdD w A ds c) (hs:ShortD ds) (hw:WfD ds) :
 Gives Tryz.prog 38 #[vdesc (.slice A ds.length c),.int .i64 i] w (.bool (knownB ds i)):=by
 have hl:=hd.len;have eb:=Ext_alloc (.cells #[.slice A ds.length c] 26) (Ext.refl w);have BX:=fun w' (e:Ext (w.alloc (.cells #[.slice A ds.length c] 26)) w')=>boxed e
 have CV:=lhd (fun w h=>iValidDesc_c A ds c w h hs hw);have CH:=lhd (fun w=>hasRule_c A ds.length c i w hl);unfold knownB;unfold vdesc at *;generalize descOk ds=p at *;generalize (decide (0≤i)&&decide (i<(ds.length:Int)))=q at *;cases p
 ·go_enter Tryz.func38,Tryz.ntmps38
  go_wp2_with fail;refine (CV.out _ (hd.ext eb)).mono ?_;rintro _ w1 ⟨rfl,e1⟩;go_wp2;go_ret;exact ⟨ret_bool (by simp),eb.trans e1⟩
 ·go_enter Tryz.func38,Tryz.ntmps38
  go_wp2_with fail;refine (CV.out _ (hd.ext eb)).mono ?_;rintro _ w1 ⟨rfl,e1⟩;go_wp2_with fail;refine (CH.out _).mono ?_;rintro _ w2 ⟨rfl,e2⟩;go_wp2;go_ret;exact ⟨ret_bool (by simp),eb.trans (e1.trans e2)⟩
theorem sKnown_c (A:Option Addr) (ds:List DRule) (c:Nat) (i:Int) (w:World) (hd:RdD w A ds c) (hs:ShortD ds) (hw:WfD ds) :
 Gives Tryz.prog 19 #[vdesc (.slice A ds.length c),.int .i64 i] w (.bool (knownB ds i)):=by
 have hl:=hd.len;have eb:=Ext_alloc (.cells #[.slice A ds.length c] 26) (Ext.refl w);have BX:=fun w' (e:Ext (w.alloc (.cells #[.slice A ds.length c] 26)) w')=>boxed e
 have CV:=lhd (fun w h=>sValidDesc_c A ds c w h hs hw);have CH:=lhd (fun w=>l1In_c i 0 ((ds.length:Int)-1) w)
 have HQ:Hid ((decide (0≤i)&&decide (i<(ds.length:Int)))=(decide (0≤i)&&decide (i≤(ds.length:Int)-1))):=by
  show _=_;congr 1;rw [Bool.eq_iff_iff];simp;omega
 unfold knownB;rw [HQ.out];clear HQ;unfold vdesc at *;generalize descOk ds=p at *;generalize (decide (0≤i)&&decide (i≤(ds.length:Int)-1))=q at *;cases q
 ·go_enter Tryz.func19,Tryz.ntmps19
  go_wp2_with fail;refine (CH.out _).mono ?_;rintro _ w1 ⟨rfl,e1⟩;go_wp2;go_ret;exact ⟨ret_bool (by simp),eb.trans e1⟩
 ·go_enter Tryz.func19,Tryz.ntmps19
  go_wp2_with fail;refine (CH.out _).mono ?_;rintro _ w1 ⟨rfl,e1⟩;go_wp2_with fail;refine (CV.out _ (hd.ext (eb.trans e1))).mono ?_;rintro _ w2 ⟨rfl,e2⟩;go_wp2;go_ret;exact ⟨ret_bool (by simp),eb.trans (e1.trans e2)⟩
end Go.Proofs.YtlfhealneccdkaaGreatDoor
namespace Go.Proofs.YtlfhealneccdkaaGreatDoor
structure RuleFacts (r:DRule):Prop where
 kind:1≤r.kind∧r.kind≤10
 plain:r.kind=1∨r.kind=2∨r.kind=3∨r.kind=10→r.names=[]∧r.kids=[]
 parts:r.kind=4∨r.kind=5∨r.kind=6∨r.kind=7∨r.kind=8∨r.kind=9→r.size=0∧r.little=false∧r.bytes=[]
 cho:r.kind=7→r.kids.length=r.tags.length+1∧r.names=[]
theorem plainB_facts {r:DRule} {s b n t:Bool} {k:Int} (h:plainB r s b n t k=true):(s=false→r.size=0)∧(b=false→r.bytes=[])∧(n=false→r.names=[])∧(0≤k→(r.kids.length:Int)=k):=by
 unfold plainB at h;simp only [Bool.and_eq_true,Bool.or_eq_true,beq_iff_eq,decide_eq_true_eq,List.length_eq_zero_iff] at h;obtain ⟨⟨⟨⟨h1,h2⟩,h3⟩,h4⟩,h5⟩:=h;refine ⟨fun e=>?_,fun e=>?_,fun e=>?_,fun e=>by omega⟩
 ·rw [e] at h1;simpa using h1
 ·rw [e] at h2;simpa using h2
 ·rw [e] at h3;simpa using h3
theorem ruleKind {ds:List DRule} (h:descOk ds=true) (i:Nat) (hi:i<ds.length):kindOk ds ds[i]=true:=by
 unfold descOk at h;rw [Bool.and_eq_true] at h;have h1:=allN_at h.2 hi;unfold ruleOk at h1;rw [List.getElem?_eq_getElem hi] at h1;simp only [Bool.and_eq_true] at h1;exact h1.2
theorem ruleFacts {ds:List DRule} (h:descOk ds=true) (i:Nat) (hi:i<ds.length):RuleFacts ds[i]:=by
 unfold descOk at h;rw [Bool.and_eq_true] at h;have h1:=allN_at h.2 hi;unfold ruleOk at h1;rw [List.getElem?_eq_getElem hi] at h1;simp only [Bool.and_eq_true] at h1;have hk:=h1.2;have hlit:=h1.1.1.1.2;generalize ds[i]=r at *
 have hl:r.kind≠1→r.little=false:=by
  intro hne;cases hq:r.little
  ·rfl
  ·rw [hq] at hlit;simp at hlit;exact absurd hlit hne
 unfold kindOk at hk;have NO:∀ {p:Prop} {k k':Int},k≠k'→r.kind=k→r.kind=k'→p:=fun hne e1 e2=>absurd (e1.symm.trans e2) hne
 split at hk
 ·rename_i e
  simp only [Bool.and_eq_true] at hk;have f:=plainB_facts hk.1.1;exact ⟨by omega,fun _=>⟨f.2.2.1 rfl,by have:=f.2.2.2 (by omega);simpa using this⟩,fun h=>by omega,fun h=>by omega⟩
 split at hk
 ·rename_i e
  simp only [Bool.and_eq_true] at hk;have f:=plainB_facts hk.1;exact ⟨by omega,fun _=>⟨f.2.2.1 rfl,by have:=f.2.2.2 (by omega);simpa using this⟩,fun h=>by omega,fun h=>by omega⟩
 split at hk
 ·rename_i e
  simp only [Bool.and_eq_true] at hk;have f:=plainB_facts hk.1;exact ⟨by omega,fun _=>⟨f.2.2.1 rfl,by have:=f.2.2.2 (by omega);simpa using this⟩,fun h=>by omega,fun h=>by omega⟩
 split at hk
 ·rename_i e
  simp only [Bool.and_eq_true] at hk;have f:=plainB_facts hk.1;exact ⟨by omega,fun h=>by omega,fun _=>⟨f.1 rfl,hl (by omega),f.2.1 rfl⟩,fun h=>by omega⟩
 split at hk
 ·rename_i e
  simp only [Bool.and_eq_true] at hk;have f:=plainB_facts hk.1;exact ⟨by omega,fun h=>by omega,fun _=>⟨f.1 rfl,hl (by omega),f.2.1 rfl⟩,fun h=>by omega⟩
 split at hk
 ·rename_i e
  unfold seqOk at hk;simp only [Bool.and_eq_true] at hk;have f:=plainB_facts hk.1.1.1;exact ⟨by omega,fun h=>by omega,fun _=>⟨f.1 rfl,hl (by omega),f.2.1 rfl⟩,fun h=>by omega⟩
 split at hk
 ·rename_i e
  unfold choOk at hk;simp only [Bool.and_eq_true] at hk;have f:=plainB_facts hk.1.1;exact ⟨by omega,fun h=>by omega,fun _=>⟨f.1 rfl,hl (by omega),f.2.1 rfl⟩,fun _=>⟨by have:=f.2.2.2 (by omega);omega,f.2.2.1 rfl⟩⟩
 split at hk
 ·rename_i e
  have f:=plainB_facts hk;exact ⟨by omega,fun h=>by omega,fun _=>⟨f.1 rfl,hl (by omega),f.2.1 rfl⟩,fun h=>by omega⟩
 split at hk
 ·rename_i e
  have f:=plainB_facts hk;exact ⟨by omega,fun h=>by omega,fun _=>⟨f.1 rfl,hl (by omega),f.2.1 rfl⟩,fun h=>by omega⟩
 split at hk
 ·rename_i e
  simp only [Bool.and_eq_true] at hk;have f:=plainB_facts hk.1.1;exact ⟨by omega,fun _=>⟨f.2.2.1 rfl,by have:=f.2.2.2 (by omega);simpa using this⟩,fun h=>by omega,fun h=>by omega⟩
 ·cases hk
def tagN (l:List Int) (t:Int):Nat:=l.findIdx (·==t)
theorem tagN_at {l:List Int} {t:Int} {k:Nat} (hk:k<l.length) (h:l[k]=t) (hn:∀ j (hj:j<l.length),j<k→l[j]≠t):tagN l t=k:=by
 unfold tagN;rw [List.findIdx_eq hk];exact ⟨by simpa using h,fun j hj=>by have:=hn j (by omega) hj;simpa using this⟩
theorem tagN_none {l:List Int} {t:Int} (hn:∀ j (hj:j<l.length),l[j]≠t):tagN l t=l.length:=by
 unfold tagN;rw [List.findIdx_eq_length];intro x hx;obtain ⟨k,hk,rfl⟩:=List.getElem_of_mem hx
 simpa using hn k hk
def kd (r:DRule) (t:Nat):Nat:=(r.kids.getD t 0).toNat
theorem kd_at {r:DRule} {t:Nat} (h:t<r.kids.length):kd r t=r.kids[t].toNat:=by unfold kd;simp [h]
theorem kd_lt {ds:List DRule} (h:descOk ds=true) (i:Nat) (hi:i<ds.length) (t:Nat) (ht:t<ds[i].kids.length):kd ds[i] t<i:=by
 rw [kd_at ht];have:=descOk_kid h i hi t ht;omega
theorem kd_int {ds:List DRule} (h:descOk ds=true) (i:Nat) (hi:i<ds.length) (t:Nat) (ht:t<ds[i].kids.length):ds[i].kids[t]=(kd ds[i] t:Int):=by
 rw [kd_at ht];have:=descOk_kid h i hi t ht;omega
def extHead (x y:DRule):Bool:=x.kind==y.kind&&x.size==y.size&&x.little==y.little&&x.bytes==y.bytes
def extTag (e:Nat→Nat→Bool) (x y:DRule) (t:Nat):Bool:=decide (tagN y.tags (x.tags.getD t 0)<y.tags.length)&&e (kd x (t+1)) (kd y (tagN y.tags (x.tags.getD t 0)+1))
def extTail (e:Nat→Nat→Bool) (x y:DRule):Bool :=
 if x.kind=7 then e (kd x 0) (kd y 0)&&allN x.tags.length (extTag e x y)
 else eqNms x.names y.names&&x.kids.length==y.kids.length&&allN x.kids.length (fun t=>e (kd x t) (kd y t))
def extF (a b:List DRule):Nat→Nat→Nat→Bool
 | 0,_,_=>false
 | n+1,i,j=>match a[i]?,b[j]? with
  | some x,some y=>extHead x y&&extTail (extF a b n) x y
  | _,_=>false
def ext (a b:List DRule) (i j:Nat):Bool:=extF a b (i+1) i j
def extRule (a b:List DRule) (i j:Int):Bool:=knownB a i&&(knownB b j&&ext a b i.toNat j.toNat)
def extD (a b:List DRule):Bool:=extRule a b ((a.length:Int)-1) ((b.length:Int)-1)
def sameF (a b:List DRule):Bool:=extD a b&&extD b a
theorem kids_len {ds:List DRule} (h:descOk ds=true) (i:Nat) (hi:i<ds.length) :
 (ds[i].kind=4→ds[i].kids.length=1∧0<limD ds (ds[i].kids.getD 0 0))∧(ds[i].kind=5→ds[i].kids.length=2∧0<limD ds (ds[i].kids.getD 0 0))∧(ds[i].kind=6→ds[i].names.length=ds[i].kids.length∧∀ s∈ds[i].names,s.size≤12) ∧
 (ds[i].kind=7→ds[i].kids.length=ds[i].tags.length+1∧∀ j (hj:j<ds[i].tags.length),0≤ds[i].tags[j]∧ds[i].tags[j]≤limD ds (ds[i].kids.getD 0 0))∧(ds[i].kind=8∨ds[i].kind=9→ds[i].kids.length=1)∧(ds[i].kind=1→1≤ds[i].size∧ds[i].size≤4)∧(ds[i].kind=3→1≤ds[i].size∧ds[i].size≤64):=by
 have hk:=ruleKind h i hi;generalize ds[i]=r at *;unfold kindOk at hk
 split at hk
 ·rename_i e
  simp only [Bool.and_eq_true,between,decide_eq_true_eq] at hk;exact ⟨fun e'=>by omega,fun e'=>by omega,fun e'=>by omega,fun e'=>by omega,fun e'=>by omega,fun _=>hk.1.2,fun e'=>by omega⟩
 split at hk
 ·rename_i e
  exact ⟨fun e'=>by omega,fun e'=>by omega,fun e'=>by omega,fun e'=>by omega,fun e'=>by omega,fun e'=>by omega,fun e'=>by omega⟩
 split at hk
 ·rename_i e
  simp only [Bool.and_eq_true,between,decide_eq_true_eq] at hk;exact ⟨fun e'=>by omega,fun e'=>by omega,fun e'=>by omega,fun e'=>by omega,fun e'=>by omega,fun e'=>by omega,fun _=>hk.2⟩
 split at hk
 ·rename_i e
  simp only [Bool.and_eq_true,decide_eq_true_eq] at hk;have f:=(plainB_facts hk.1).2.2.2 (by omega);exact ⟨fun _=>⟨by omega,hk.2⟩,fun e'=>by omega,fun e'=>by omega,fun e'=>by omega,fun e'=>by omega,fun e'=>by omega,fun e'=>by omega⟩
 split at hk
 ·rename_i e
  simp only [Bool.and_eq_true,decide_eq_true_eq] at hk;have f:=(plainB_facts hk.1).2.2.2 (by omega);exact ⟨fun e'=>by omega,fun _=>⟨by omega,hk.2⟩,fun e'=>by omega,fun e'=>by omega,fun e'=>by omega,fun e'=>by omega,fun e'=>by omega⟩
 split at hk
 ·rename_i e
  unfold seqOk at hk;simp only [Bool.and_eq_true,beq_iff_eq] at hk;have hn:=hk.2;refine ⟨fun e'=>by omega,fun e'=>by omega,fun _=>⟨hk.1.1.2.symm,fun s hs=>?_⟩,fun e'=>by omega,fun e'=>by omega,fun e'=>by omega,fun e'=>by omega⟩;obtain ⟨k,hk',rfl⟩:=List.getElem_of_mem hs
  have:=allN_at hn hk';unfold nameOk at this;rw [List.getElem?_eq_getElem hk'] at this;simp only [Bool.and_eq_true] at this;have h2:=this.1;unfold isName at h2;simp only [Bool.and_eq_true,decide_eq_true_eq] at h2;exact h2.1.2
 split at hk
 ·rename_i e
  unfold choOk at hk;simp only [Bool.and_eq_true] at hk;have f:=(plainB_facts hk.1.1).2.2.2 (by omega);refine ⟨fun e'=>by omega,fun e'=>by omega,fun e'=>by omega,fun _=>⟨by omega,fun j hj=>?_⟩,fun e'=>by omega,fun e'=>by omega,fun e'=>by omega⟩
  have:=allN_at hk.2 hj;unfold tagOk at this;rw [List.getElem?_eq_getElem hj] at this;simp only [Bool.and_eq_true,between,decide_eq_true_eq] at this;exact this.1
 split at hk
 ·rename_i e
  have f:=(plainB_facts hk).2.2.2 (by omega);exact ⟨fun e'=>by omega,fun e'=>by omega,fun e'=>by omega,fun e'=>by omega,fun _=>by omega,fun e'=>by omega,fun e'=>by omega⟩
 split at hk
 ·rename_i e
  have f:=(plainB_facts hk).2.2.2 (by omega);exact ⟨fun e'=>by omega,fun e'=>by omega,fun e'=>by omega,fun e'=>by omega,fun _=>by omega,fun e'=>by omega,fun e'=>by omega⟩
 split at hk
 ·rename_i e
  exact ⟨fun e'=>by omega,fun e'=>by omega,fun e'=>by omega,fun e'=>by omega,fun e'=>by omega,fun e'=>by omega,fun e'=>by omega⟩
 ·cases hk
def noRule:DRule:=⟨⟨#[]⟩,0,0,false,[],[],[],[]⟩
def kidV (r:DRule) (n:Int) (i:Nat):Nat :=
 if r.kind=5 then kd r 1 else if r.kind=6 then kd r i else if r.kind=7 then kd r (tagN r.tags n+1) else kd r 0
def ownV (ds:List DRule) (r:DRule) (n:Int) (b m:Nat):Bool :=
 if r.kind=1 then decide (0≤n)&&decide (n≤limR r)&&b==0&&m==0
 else if r.kind=2 then n==0&&b==0&&m==0
 else if r.kind=3 then n==0&&decide ((b:Int)=r.size)&&m==0
 else if r.kind=4 then n==0&&decide ((b:Int)≤min 400 (limD ds (r.kids.getD 0 0)))&&m==0
 else if r.kind=5 then n==0&&b==0&&decide ((m:Int)≤min 40 (limD ds (r.kids.getD 0 0)))
 else if r.kind=6 then n==0&&b==0&&m==r.kids.length
 else if r.kind=7 then decide (tagN r.tags n<r.tags.length)&&b==0&&m==1
 else if r.kind=8 then n==0&&b==0&&decide (m≤1)
 else if r.kind=9 then n==0&&b==0&&m==1
 else n==0&&decide (b≤400)&&m==0
mutual
def validV (ds:List DRule):Nat→DVal→Bool
 | i,.mk n b its=>match ds[i]? with
  | some r=>ownV ds r n b.length its.length&&validVs ds r n 0 its
  | none=>false
def validVs (ds:List DRule) (r:DRule) (n:Int):Nat→List DVal→Bool
 | _,[]=>true
 | k,x::t=>validV ds (kidV r n k) x&&validVs ds r n (k+1) t
end
theorem validV_eq (ds:List DRule) (i:Nat) (hi:i<ds.length) (v:DVal):validV ds i v=(ownV ds ds[i] v.num v.bytes.length v.items.length&&validVs ds ds[i] v.num 0 v.items):=by
 cases v;rw [validV,List.getElem?_eq_getElem hi];rfl
theorem validVs_iff (ds:List DRule) (r:DRule) (n:Int):∀ (l:List DVal) (k:Nat),validVs ds r n k l=true↔∀ j (hj:j<l.length),validV ds (kidV r n (k+j)) l[j]=true
 | [],k=>by rw [validVs];simp
 | x::t,k=>by
  rw [validVs,Bool.and_eq_true,validVs_iff ds r n t (k+1)]
  constructor
  ·rintro ⟨h1,h2⟩ j hj
   cases j with
   | zero=>exact h1
   | succ j=>have:=h2 j (by simpa using hj);rw [show k+1+j=k+(j+1) by omega] at this;simpa using this
  ·intro h
   refine ⟨h 0 (by simp),fun j hj=>?_⟩
   have:=h (j+1) (by simpa using hj);rw [show k+(j+1)=k+1+j by omega] at this;simpa using this
theorem validV_yes {ds:List DRule} {i:Nat} {hi:i<ds.length} {v:DVal} (ho:ownV ds ds[i] v.num v.bytes.length v.items.length=true) (h:∀ j (hj:j<v.items.length),validV ds (kidV ds[i] v.num j) v.items[j]=true):validV ds i v=true:=by
 rw [validV_eq ds i hi,ho,(validVs_iff _ _ _ _ _).2 (fun j hj=>by rw [Nat.zero_add];exact h j hj)];rfl
theorem validV_own {ds:List DRule} {i:Nat} {hi:i<ds.length} {v:DVal} (ho:ownV ds ds[i] v.num v.bytes.length v.items.length=false):validV ds i v=false:=by
 rw [validV_eq ds i hi,ho];rfl
theorem validV_no {ds:List DRule} {i:Nat} {hi:i<ds.length} {v:DVal} {j:Nat} (hj:j<v.items.length) (h:validV ds (kidV ds[i] v.num j) v.items[j]=false):validV ds i v=false:=by
 rw [validV_eq ds i hi,Bool.and_eq_false_iff];right;cases hh:validVs ds ds[i] v.num 0 v.items
 ·rfl
 ·have:=(validVs_iff _ _ _ _ _).1 hh j hj;rw [Nat.zero_add,h] at this;cases this
theorem validV_lt {ds:List DRule} {i:Nat} {v:DVal} (h:validV ds i v=true):i<ds.length:=by
 cases v;rw [validV] at h
 rcases Nat.lt_or_ge i ds.length with h' | h'
 ·exact h'
 ·rw [List.getElem?_eq_none h'] at h;cases h
theorem validV_item {ds:List DRule} {i:Nat} {v:DVal} (h:validV ds i v=true) (j:Nat) (hj:j<v.items.length):validV ds (kidV (ds[i]'(validV_lt h)) v.num j) v.items[j]=true:=by
 rw [validV_eq ds i (validV_lt h),Bool.and_eq_true] at h
 have:=(validVs_iff _ _ _ _ _).1 h.2 j hj;rwa [Nat.zero_add] at this
theorem validV_fits {ds:List DRule} {i:Nat} {v:DVal} (h:validV ds i v=true):ownV ds (ds[i]'(validV_lt h)) v.num v.bytes.length v.items.length=true:=by
 rw [validV_eq ds i (validV_lt h),Bool.and_eq_true] at h;exact h.1
def stepR (r:DRule) (i:Nat):ByteArray :=
 if r.kind=5 then itoaB i else if r.kind=6 then r.names.getD i ⟨#[]⟩ else if r.kind=7 then ⟨#[42]⟩ else if r.kind=8 then ⟨#[63]⟩ else ⟨#[43]⟩
def under (p:ByteArray) (r:DRule) (i:Nat):ByteArray:=p++⟨#[47]⟩++stepR r i
noncomputable instance:DecidableEq DVal:=fun _ _=>Classical.propDecidable _
noncomputable def eqV (a b:DVal):Bool:=decide (a=b)
theorem eqV_iff {a b:DVal}:eqV a b=true↔a=b:=by unfold eqV;simp
theorem eqV_refl (a:DVal):eqV a a=true:=eqV_iff.2 rfl
theorem eqV_no {a b:DVal} (h:a≠b):eqV a b=false:=by unfold eqV;simp [h]
def alikeV (a b:DVal):Bool:=a.num==b.num&&a.bytes==b.bytes&&a.items.length==b.items.length&&!(a.items.length==0)
mutual
noncomputable def diffV (ds:List DRule):Nat→DVal→DVal→ByteArray→List (ByteArray × DVal)
 | i,.mk n b its,v,p=>if eqV (.mk n b its) v then [] else if alikeV (.mk n b its) v then diffVs ds (ds.getD i noRule) n 0 its v.items p else [(p,v)]
noncomputable def diffVs (ds:List DRule) (r:DRule) (n:Int):Nat→List DVal→List DVal→ByteArray→List (ByteArray × DVal)
 | _,[],_,_=>[]
 | _,_::_,[],_=>[]
 | k,x::t,y::u,p=>diffV ds (kidV r n k) x y (under p r k)++diffVs ds r n (k+1) t u p
end
theorem diffV_same (ds:List DRule) (i:Nat) (a:DVal) (p:ByteArray):diffV ds i a a p=[]:=by cases a;rw [diffV,if_pos (eqV_refl _)]
theorem diffV_whole {ds:List DRule} {i:Nat} {a b:DVal} {p:ByteArray} (h:eqV a b=false) (h2:alikeV a b=false):diffV ds i a b p=[(p,b)]:=by
 cases a;rw [diffV,h,if_neg (by simp),h2,if_neg (by simp)]
theorem diffV_items {ds:List DRule} {i:Nat} (hi:i<ds.length) {a b:DVal} {p:ByteArray} (h:eqV a b=false) (h2:alikeV a b=true):diffV ds i a b p=diffVs ds ds[i] a.num 0 a.items b.items p:=by
 have hg:ds.getD i noRule=ds[i]:=by simp [hi]
 cases a;rw [diffV,h,if_neg (by simp),h2,if_pos rfl,hg];rfl
theorem diffVs_nil (ds:List DRule) (r:DRule) (n:Int) (k:Nat) (u:List DVal) (p:ByteArray):diffVs ds r n k [] u p=[]:=by rw [diffVs]
theorem diffVs_snoc (ds:List DRule) (r:DRule) (n:Int) (p:ByteArray):∀ (l m:List DVal) (k:Nat) (x y:DVal),l.length=m.length→diffVs ds r n k (l++[x]) (m++[y]) p=diffVs ds r n k l m p++diffV ds (kidV r n (k+l.length)) x y (under p r (k+l.length))
 | [],[],k,x,y,_=>by
  show diffVs ds r n k [x] [y] p=_
  rw [diffVs,diffVs,diffVs];simp
 | [],_::_,_,_,_,h=>by simp at h
 | _::_,[],_,_,_,h=>by simp at h
 | a::l,b::m,k,x,y,h=>by
  show diffVs ds r n k (a::(l++[x])) (b::(m++[y])) p=_
  rw [diffVs,diffVs,diffVs_snoc ds r n p l m (k+1) x y (by simpa using h),List.append_assoc,List.length_cons,show k+1+l.length=k+(l.length+1) by omega]
theorem diffVs_take (ds:List DRule) (r:DRule) (n:Int) (p:ByteArray) (l m:List DVal) (k:Nat) (h1:k<l.length) (h2:k<m.length):diffVs ds r n 0 (l.take (k+1)) (m.take (k+1)) p=diffVs ds r n 0 (l.take k) (m.take k) p++diffV ds (kidV r n k) l[k] m[k] (under p r k):=by
 rw [List.take_succ_eq_append_getElem h1,List.take_succ_eq_append_getElem h2,diffVs_snoc _ _ _ _ _ _ _ _ _ (by rw [List.length_take,List.length_take];omega)];rw [List.length_take,Nat.min_eq_left (by omega),Nat.zero_add]
theorem diffV_len (ds:List DRule):∀ (a:DVal) (i:Nat) (b:DVal) (p:ByteArray),(diffV ds i a b p).length≤szV a+1:=by
 intro a
 induction a using DVal.ind with
 | h a ih =>
  intro i b p
  have hs:∀ (l:List DVal) (r:DRule) (n:Int) (k:Nat) (u:List DVal) (p:ByteArray),(∀ x∈l,x∈a.items)→(diffVs ds r n k l u p).length≤szVs l:=by
   intro l
   induction l with
   | nil=>intro r n k u p _;rw [diffVs_nil];simp
   | cons x t iht =>
    intro r n k u p hm;cases u with
    | nil=>rw [diffVs];simp
    | cons y u =>
     rw [diffVs,List.length_append,szVs_cons];have h1:=ih x (hm x (List.mem_cons_self ..)) (kidV r n k) y (under p r k);have h2:=iht r n (k+1) u p (fun z hz=>hm z (List.mem_cons_of_mem _ hz))
     omega
  cases he:eqV a b
  ·cases ha:alikeV a b
   ·rw [diffV_whole he ha];simp
   ·rcases Nat.lt_or_ge i ds.length with hi | hi
    ·rw [diffV_items hi he ha]
     have:=hs a.items ds[i] a.num 0 b.items p (fun _ h=>h);rw [szV_eq];omega
    ·have:=hs a.items (ds.getD i noRule) a.num 0 b.items p (fun _ h=>h)
     have e:diffV ds i a b p=diffVs ds (ds.getD i noRule) a.num 0 a.items b.items p:=by
      cases a;rw [diffV,he,if_neg (by simp),ha,if_pos rfl];rfl
     rw [e,szV_eq];omega
  ·obtain rfl:=eqV_iff.1 he
   rw [diffV_same];simp
theorem own_item {ds:List DRule} (h:descOk ds=true) (i:Nat) (hi:i<ds.length) {n:Int} {b m j:Nat} (ho:ownV ds ds[i] n b m=true) (hj:j<m) :
 kidV ds[i] n j<i∧((ds[i].kind=5∧1<ds[i].kids.length)∨(ds[i].kind=6∧j<ds[i].kids.length∧j<ds[i].names.length)∨(ds[i].kind=7∧j=0∧tagN ds[i].tags n<ds[i].tags.length∧tagN ds[i].tags n+1<ds[i].kids.length)∨((ds[i].kind=8∨ds[i].kind=9)∧j=0∧0<ds[i].kids.length)):=by
 obtain ⟨k4,k5,k6,k7,k8,_,_⟩:=kids_len h i hi;have hlt:=kd_lt h i hi;have hkd:=(ruleFacts h i hi).kind;generalize ds[i]=r at *;unfold ownV at ho
 split at ho
 ·simp only [Bool.and_eq_true,beq_iff_eq] at ho;omega
 split at ho
 ·simp only [Bool.and_eq_true,beq_iff_eq] at ho;omega
 split at ho
 ·simp only [Bool.and_eq_true,beq_iff_eq] at ho;omega
 split at ho
 ·simp only [Bool.and_eq_true,beq_iff_eq] at ho;omega
 split at ho
 ·rename_i e
  have:=(k5 e).1;exact ⟨by unfold kidV;rw [if_pos e];exact hlt _ (by omega),.inl ⟨e,by omega⟩⟩
 split at ho
 ·rename_i e5 e
  simp only [Bool.and_eq_true,beq_iff_eq] at ho
  have:=(k6 e).1;exact ⟨by unfold kidV;rw [if_neg e5,if_pos e];exact hlt _ (by omega),.inr (.inl ⟨e,by omega,by omega⟩)⟩
 split at ho
 ·rename_i e5 e6 e
  simp only [Bool.and_eq_true,beq_iff_eq,decide_eq_true_eq] at ho
  have:=(k7 e).1;exact ⟨by unfold kidV;rw [if_neg e5,if_neg e6,if_pos e];exact hlt _ (by omega),.inr (.inr (.inl ⟨e,by omega,by omega,by omega⟩))⟩
 split at ho
 ·rename_i e5 e6 e7 e
  simp only [Bool.and_eq_true,beq_iff_eq,decide_eq_true_eq] at ho
  have:=k8 (.inl e);exact ⟨by unfold kidV;rw [if_neg e5,if_neg e6,if_neg e7];exact hlt _ (by omega),.inr (.inr (.inr ⟨.inl e,by omega,by omega⟩))⟩
 split at ho
 ·rename_i e5 e6 e7 e8 e
  simp only [Bool.and_eq_true,beq_iff_eq,decide_eq_true_eq] at ho
  have:=k8 (.inr e);exact ⟨by unfold kidV;rw [if_neg e5,if_neg e6,if_neg e7];exact hlt _ (by omega),.inr (.inr (.inr ⟨.inr e,by omega,by omega⟩))⟩
 ·simp only [Bool.and_eq_true,beq_iff_eq] at ho;omega
end Go.Proofs.YtlfhealneccdkaaGreatDoor
namespace Go.Proofs.YtlfhealneccdkaaGreatDoor
open Go.RowKit Go.Sort
theorem sItem_c (p:DRule) (Ab:Option Addr) (cb:Nat) (An:Option Addr) (cn:Nat) (At:Option Addr) (ct:Nat) (Ak:Option Addr) (ck:Nat) (t:Int) (w:World) (h:RdS w p Ab cb An cn At ct Ak ck) (hk7:p.kind=7) (hl:p.kids.length=p.tags.length+1) (hkn:∀ j (hj:j<p.kids.length),p.kids[j]=(kd p j:Int)) :
 Gives Tryz.prog 27 #[vrule p (.slice Ab p.bytes.length cb) (.slice An p.names.length cn) (.slice At p.tags.length ct) (.slice Ak p.kids.length ck),.int .i64 t,.int .i64 0] w (.int .i64 (if tagN p.tags t<p.tags.length then (kd p (tagN p.tags t+1):Int) else -1)):=by
 have hlt:=h.t.len;have hlk:=h.k.len;have eb:=Ext_alloc (.cells #[.string p.nm,.int .i64 p.kind,.int .i64 p.size,.bool p.little,.slice Ab p.bytes.length cb,.slice An p.names.length cn,.slice At p.tags.length ct,.slice Ak p.kids.length ck] 67) (Ext.refl w);have BX:=fun w' (e:Ext (w.alloc (.cells #[.string p.nm,.int .i64 p.kind,.int .i64 p.size,.bool p.little,.slice Ab p.bytes.length cb,.slice An p.names.length cn,.slice At p.tags.length ct,.slice Ak p.kids.length ck] 67)) w')=>boxed e
 have FY:Hid (∀ k (hk:k<p.tags.length),(∀ j (hj:j<p.tags.length),j<k→p.tags[j]≠t)→p.tags[k]=t→(if tagN p.tags t<p.tags.length then (kd p (tagN p.tags t+1):Int) else -1)=(kd p (k+1):Int)):=by
  intro k hk hn he;rw [tagN_at hk he hn,if_pos hk]
 have FN:Hid ((∀ j (hj:j<p.tags.length),p.tags[j]≠t)→(if tagN p.tags t<p.tags.length then (kd p (tagN p.tags t+1):Int) else -1) = -1):=by
  intro hn;rw [tagN_none hn,if_neg (Nat.lt_irrefl _)]
 generalize (if tagN p.tags t<p.tags.length then (kd p (tagN p.tags t+1):Int) else -1)=R at *;have k5:(p.kind==5)=false:=by rw [hk7];rfl
 have k6:(p.kind==6)=false:=by rw [hk7];rfl
 have k7:(p.kind==7)=true:=by rw [hk7];rfl
 have HKN:=lhd hkn;have HL1:=lhd hl;unfold vrule;clear hk7 hkn hl;go_enter Tryz.func27,Tryz.ntmps27;go_wp2;go_loopw [7] (fun ix wr=>∃ k:Nat,k≤p.tags.length∧ix=.int .i64 k∧Hid (∀ j (hj:j<p.tags.length),j<k→p.tags[j]≠t)∧Ext (w.alloc (.cells #[.string p.nm,.int .i64 p.kind,.int .i64 p.size,.bool p.little,.slice Ab p.bytes.length cb,.slice An p.names.length cn,.slice At p.tags.length ct,.slice Ak p.kids.length ck] 67)) wr) (fun ix _=>p.tags.length-(intOf ix).toNat)
 case atStart=>exact ⟨0,by omega,rfl,(fun j _ hj=>by omega),Ext.refl _⟩
 case round =>
  obtain ⟨k,hk,rfl,hn,he⟩:=hrel
  by_cases hlt:k<p.tags.length
  ·obtain ⟨bt,ot,rfl,hbt,hct⟩:=(h.t.ext eb).at k hlt
   obtain ⟨bk,ok,rfl,hbk,hck⟩:=(h.k.ext eb).at (k+1) (by have:=HL1.out;omega);rw [HKN.out (k+1) (by have:=HL1.out;omega)] at hck;have Y:=lhd (FY.out k hlt hn.out)
   have N:Hid (¬ p.tags[k]=t→∀ j (hj:j<p.tags.length),j<k+1→p.tags[j]≠t):=fun hne j hj hjk=>by
    rcases (by omega:j<k∨j=k) with hjk | rfl
    ·exact hn.out j hj hjk
    ·exact hne
   have d1:decide ((k:Int)<(p.tags.length:Int))=true:=decide_eq_true (by omega)
   generalize p.tags[k]=x at *;generalize kd p (k+1)=y at *;have hkl:k+1<p.kids.length:=by have:=HL1.out;omega
   clear FY FN hn h HKN
   by_cases hx:x=t
   ·have HE:=lhd (Y.out hx);clear Y N
    have kx:(x==t)=true:=by simpa using hx
    clear hx;go_wp2;go_ret;exact ⟨ret_i64 HE.out.symm,eb.trans he⟩
   ·have HE:=lhd (N.out hx);clear Y N
    have kx:(x==t)=false:=by simpa using hx
    clear hx;go_wp2;go_roundw
    case rel=>exact ⟨k+1,by omega,by go_num,HE,he⟩
    case measure=>simp [intOf];omega
  ·have HE:=lhd (FN.out (fun j hj=>hn.out j hj (by omega)))
   have d1:decide ((k:Int)<(p.tags.length:Int))=false:=decide_eq_false (by omega)
   clear FY FN;go_wp2;go_ret;exact ⟨ret_i64 HE.out.symm,eb.trans he⟩
end Go.Proofs.YtlfhealneccdkaaGreatDoor
