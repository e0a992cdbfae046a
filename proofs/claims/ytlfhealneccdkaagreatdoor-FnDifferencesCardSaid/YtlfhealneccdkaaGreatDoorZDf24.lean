/- Texts, laid into one. -/
import Derived.Test.YtlfhealneccdkaaGreatDoorZDf23
import Derived.Test.YtlfhealneccdkaaGreatDoorZDf16
set_option linter.unusedVariables false
set_option linter.unusedSimpArgs false
set_option maxRecDepth 100000
set_option maxHeartbeats 16000000
namespace Go.Proofs.YtlfhealneccdkaaGreatDoor
open Go.RowKit Go.Sort
theorem sOwn_c (A:Option Addr) (ds:List DRule) (c:Nat) (i:Nat) (hi:i<ds.length) (Ab:Option Addr) (cb:Nat) (An:Option Addr) (cn:Nat) (At:Option Addr) (ct:Nat) (Ak:Option Addr) (ck:Nat) (v:DVal) (Vb:Option Addr) (vb:Nat) (Vi:Option Addr) (vi:Nat) (w:World) (hok:descOk ds=true) (hd:RdD w A ds c) (h:RdS w ds[i] Ab cb An cn At ct Ak ck) (hb:v.bytes.length≤9223372036854775807) (hm:v.items.length≤9223372036854775807) :
 Gives Tryz.prog 46 #[vdesc (.slice A ds.length c),vrule ds[i] (.slice Ab ds[i].bytes.length cb) (.slice An ds[i].names.length cn) (.slice At ds[i].tags.length ct) (.slice Ak ds[i].kids.length ck),vval v (.slice Vb v.bytes.length vb) (.slice Vi v.items.length vi)] w (.bool (ownV ds ds[i] v.num v.bytes.length v.items.length)):=by
 obtain ⟨k4,k5,k6,k7,k8,k1,k3⟩:=kids_len hok i hi;have hk:=(ruleFacts hok i hi).kind;have hkn:=kd_int hok i hi;rcases (by omega:ds[i].kind=1∨ds[i].kind=2∨ds[i].kind=3∨ds[i].kind=4∨ds[i].kind=5∨ds[i].kind=6∨ds[i].kind=7∨ds[i].kind=8∨ds[i].kind=9∨ds[i].kind=10) with e | e | e | e | e | e | e | e | e | e
 ·exact sOwn_1 A ds c _ Ab cb An cn At ct Ak ck v Vb vb Vi vi w hd h hb hm e (k1 e)
 ·exact sOwn_2 A ds c _ Ab cb An cn At ct Ak ck v Vb vb Vi vi w hd h hb hm e
 ·exact sOwn_3 A ds c _ Ab cb An cn At ct Ak ck v Vb vb Vi vi w hd h hb hm e
 ·exact sOwn_4 A ds c _ Ab cb An cn At ct Ak ck v Vb vb Vi vi w hd h hb hm e (by have:=(k4 e).1;omega)
 ·exact sOwn_5 A ds c _ Ab cb An cn At ct Ak ck v Vb vb Vi vi w hd h hb hm e (by have:=(k5 e).1;omega)
 ·exact sOwn_6 A ds c _ Ab cb An cn At ct Ak ck v Vb vb Vi vi w hd h hb hm e
 ·exact sOwn_7 A ds c _ Ab cb An cn At ct Ak ck v Vb vb Vi vi w hd h hb hm e (k7 e).1 hkn
 ·exact sOwn_8 A ds c _ Ab cb An cn At ct Ak ck v Vb vb Vi vi w hd h hb hm e
 ·exact sOwn_9 A ds c _ Ab cb An cn At ct Ak ck v Vb vb Vi vi w hd h hb hm e
 ·exact sOwn_10 A ds c _ Ab cb An cn At ct Ak ck v Vb vb Vi vi w hd h hb hm e
def sValOk (A:Option Addr) (ds:List DRule) (c:Nat) (v:DVal):Prop:=∀ (i:Nat) (_:i<ds.length) (Vb:Option Addr) (vb:Nat) (Vi:Option Addr) (vi:Nat) (w:World),RdD w A ds c→RdV w v Vb vb Vi vi →
 Gives Tryz.prog 20 #[vdesc (.slice A ds.length c),.int .i64 (i:Int),vval v (.slice Vb v.bytes.length vb) (.slice Vi v.items.length vi)] w (.bool (validV ds i v))
theorem sVal_of (A:Option Addr) (ds:List DRule) (c:Nat) (hok:descOk ds=true) (v:DVal) (H:∀ x∈v.items,sValOk A ds c x):sValOk A ds c v:=by
 intro i hi Vb vb Vi vi w hd hv;have hl:=hd.len;have HOK:=lhd hok;obtain ⟨b,ro,Ab,cb,An,cn,At,ct,Ak,ck,hA,hbb,hS,hR⟩:=hd.at i hi;have hbl:=hv.b.len;have hil:=hv.i.len;have CO:=lhd (fun w h1 h2=>sOwn_c A ds c i hi Ab cb An cn At ct Ak ck v Vb vb Vi vi w hok h1 h2 hbl hil);have NO0:Hid (ownV ds ds[i] v.num v.bytes.length v.items.length=false→validV ds i v=false):=fun h=>validV_own (hi:=hi) h
 have NO1:Hid (∀ j (hj:j<v.items.length),validV ds (kidV ds[i] v.num j) v.items[j]=false→validV ds i v=false):=fun j hj h=>validV_no (hi:=hi) hj h
 have YES:Hid (ownV ds ds[i] v.num v.bytes.length v.items.length=true→(∀ j (hj:j<v.items.length),validV ds (kidV ds[i] v.num j) v.items[j]=true)→validV ds i v=true):=fun h1 h2=>validV_yes (hi:=hi) h1 h2
 have IT:Hid (ownV ds ds[i] v.num v.bytes.length v.items.length=true→∀ j,j<v.items.length→kidV ds[i] v.num j<i∧ItemAt ds[i] v.num j):=fun h j hj=>own_item hok i hi h hj
 have H7:Hid (ds[i].kind=7→ds[i].kids.length=ds[i].tags.length+1):=fun h=>((kids_len hok i hi).2.2.2.1 h).1
 have HKN:=lhd (kd_int hok i hi);have HD:=lhd hd;have HV:=lhd hv;have HS:=lhd hS;have HH:=lhd H;clear hok H hd hv hS;obtain ⟨W0,HW0,BA,BV,BR,eA,hsA⟩:=boxes3' w #[.slice A ds.length c] #[.int .i64 v.num,.slice Vb v.bytes.length vb,.slice Vi v.items.length vi] (rcs ds[i] Ab cb An cn At ct Ak ck) 26 29 67;have B0:=BA.at 0;have B1:=BV.at;have B2:=BR.at;simp only [List.getElem?_toArray,List.getElem?_cons_zero] at B0;clear BA BV BR;unfold vdesc vval;obtain ⟨k0,k1,k2,k3,k4,k5,k6,k7⟩:=hR
 have CX:Hid (∀ j,ItemAt ds[i] v.num j→j≤9223372036854775807→∀ w',Ext W0 w'→Gives Tryz.prog 27 #[.agg (rcs ds[i] Ab cb An cn At ct Ak ck),.int .i64 v.num,.int .i64 (j:Int)] w' (.int .i64 (kidV ds[i] v.num j:Nat))) :=
  fun j hj hjl w' e=>sItemV_c ds[i] Ab cb An cn At ct Ak ck v.num j w' (HS.out.ext (eA.trans e)) hjl hj H7.out HKN.out
 unfold vdesc vval vrule at CO;generalize hKV:(fun j=>kidV ds[i] v.num j)=KV at *;have hKV':∀ j,kidV ds[i] v.num j=KV j:=fun j=>by rw [← hKV]
 simp only [hKV'] at NO1 YES IT CX;clear hKV hKV' H7 HKN;subst hA;generalize ownV ds ds[i] v.num v.bytes.length v.items.length=z at *;generalize ds[i]=r at *;cases z
 ·have E:=lhd (NO0.out rfl)
  rw [E.out];clear NO0 NO1 YES IT CX E;go_enter Tryz.func20,Tryz.ntmps20;go_wp2_with fail;rw [← HW0.out];refine (CO.out _ (HD.out.ext eA) (HS.out.ext eA)).mono ?_;rintro _ w1 ⟨rfl,he1⟩;go_wp2;go_ret;exact ⟨rfl,eA.trans he1⟩
 ·have IT':=lhd (IT.out rfl);have YES':=lhd (YES.out rfl)
  clear NO0 YES IT;generalize hR:validV ds i v=R at *;have HR:=lhd hR;clear hR;go_enter Tryz.func20,Tryz.ntmps20;go_wp2_with fail;rw [← HW0.out];refine (CO.out _ (HD.out.ext eA) (HS.out.ext eA)).mono ?_;rintro _ w1 ⟨rfl,he1⟩;clear CO k0 k1 k2 k3 k4 k5 k6 k7;go_wp2;go_loopw [8] (fun ix wr=>∃ k:Nat,k≤v.items.length∧ix=.int .i64 k∧Hid (∀ j (hj:j<v.items.length),j<k→validV ds (KV j) v.items[j]=true)∧Ext W0 wr) (fun ix _=>v.items.length-(intOf ix).toNat)
  case atStart=>exact ⟨0,by omega,rfl,(fun j _ hj=>by omega),he1⟩
  case round =>
   obtain ⟨k,hk,rfl,ht,he⟩:=hrel
   by_cases hlt:k<v.items.length
   ·obtain ⟨bb,off,A1,c1,D1,d1,hVi,hb,hs,hr⟩:=HV.out.i.at k hlt
    subst hVi;have Hk:=HH.out _ (List.getElem_mem hlt);obtain ⟨hkl,hat⟩:=IT'.out k hlt;have CE:=lhd (fun w' (e:Ext W0 w')=>Hk (KV k) (by omega) A1 c1 D1 d1 w' (HD.out.ext (eA.trans e)) (hs.ext (eA.trans e)));have CJ:=lhd (CX.out k hat (by omega));have NO:Hid (validV ds (KV k) v.items[k]=false→R=false):=fun h=>NO1.out k hlt h
    have YE:Hid (validV ds (KV k) v.items[k]=true→∀ j (h1:j<v.items.length),j<k+1→validV ds (KV j) v.items[j]=true):=by
     intro hy j h1 hj;rcases (by omega:j<k∨j=k) with hj | rfl
     ·exact ht.out j h1 hj
     ·exact hy
    generalize hX:v.items[k]=x at *;clear hX;generalize hY:KV k=y at *;clear hY hkl hat Hk hs;generalize validV ds y x=zz at *;obtain ⟨j0,j1,j2⟩:=hr;replace j0:=kx j0 eA;replace j1:=kx j1 eA;replace j2:=kx j2 eA;unfold vdesc vval at CE;have hkk:(0:Int)≤(k:Int):=by omega
    have hkl:(k:Int)<(v.items.length:Int):=by omega
    have HT:=ht;clear ht;go_wp2_with fail;refine wp_region_quiet_below (by kernel_rfl) (by kernel_rfl) ?_;repeat (go_big_quiet_step ((first | (go_at_call 27;exact Calls.regrown_of (CJ.out _ (Ext.trans he (by first | assumption | exact Ext_regrown _ _ (Ext.refl _))))) | (go_at_call 20;exact Calls.regrown_of (CE.out _ (Ext.trans he (by first | assumption | exact Ext_regrown _ _ (Ext.refl _))))))))
    refine wpQuiet_nil (qnl ?_);intro w2 ew2;have he2:=he.trans ew2;cases zz
    ·have NO':=lhd (NO.out rfl);clear NO YE
     go_wp2;go_ret;exact ⟨ret_bool NO'.out.symm,eA.trans he2⟩
    ·have YE':=lhd (YE.out rfl);clear NO YE
     go_wp2;go_roundw
     case rel=>exact ⟨k+1,by omega,by go_num,YE'.out,he2⟩
     case measure=>simp [intOf];omega
   ·have hk':k=v.items.length:=by omega
    have HE:Hid (R=true):=YES'.out (fun j hj=>ht.out j hj (by omega))
    go_wp2;go_ret;exact ⟨ret_bool HE.out.symm,eA.trans he⟩
theorem sVal_all (A:Option Addr) (ds:List DRule) (c:Nat) (hok:descOk ds=true):∀ v,sValOk A ds c v:=fun v=>DVal.ind (sVal_of A ds c hok) v
def validB (ds:List DRule) (i:Int) (v:DVal):Bool:=knownB ds i&&validV ds i.toNat v
theorem iFit_c (A:Option Addr) (ds:List DRule) (c:Nat) (i:Nat) (hi:i<ds.length) (v:DVal) (Vb:Option Addr) (vb:Nat) (Vi:Option Addr) (vi:Nat) (g off:Nat) (w:World) (hok:descOk ds=true) (hd:RdD w A ds c) (hv:ValAt w g off v (.slice Vb v.bytes.length vb) (.slice Vi v.items.length vi)) (hb:v.bytes.length≤9223372036854775807) (hm:v.items.length≤9223372036854775807) :
 Gives Tryz.prog 68 #[vdesc (.slice A ds.length c),.int .i64 (i:Int),.pointer (some ⟨g,off,none⟩)] w (.bool (fitV ds ds[i] v.num v.bytes.length v.items.length)):=by
 obtain ⟨k4,k5,k6,k7,k8,k1,k3⟩:=kids_len hok i hi;have hk:=(ruleFacts hok i hi).kind;rcases (by omega:ds[i].kind=1∨ds[i].kind=2∨ds[i].kind=3∨ds[i].kind=4∨ds[i].kind=5∨ds[i].kind=6∨ds[i].kind=7∨ds[i].kind=8∨ds[i].kind=9∨ds[i].kind=10) with e | e | e | e | e | e | e | e | e | e
 ·exact iFit_1 A ds c i hi v Vb vb Vi vi g off w hd hv hb hm e (k1 e)
 ·exact iFit_2 A ds c i hi v Vb vb Vi vi g off w hd hv hb hm e
 ·exact iFit_3 A ds c i hi v Vb vb Vi vi g off w hd hv hb hm e
 ·exact iFit_4 A ds c i hi v Vb vb Vi vi g off w hd hv hb hm e (by have:=(k4 e).1;omega)
 ·exact iFit_5 A ds c i hi v Vb vb Vi vi g off w hd hv hb hm e (by have:=(k5 e).1;omega)
 ·exact iFit_6 A ds c i hi v Vb vb Vi vi g off w hd hv hb hm e
 ·exact iFit_7 A ds c i hi v Vb vb Vi vi g off w hd hv hb hm e (by have:=(k7 e).1;omega)
 ·exact iFit_8 A ds c i hi v Vb vb Vi vi g off w hd hv hb hm e
 ·exact iFit_9 A ds c i hi v Vb vb Vi vi g off w hd hv hb hm e
 ·exact iFit_10 A ds c i hi v Vb vb Vi vi g off w hd hv hb hm e
theorem fit_of_own {ds:List DRule} (hok:descOk ds=true) (i:Nat) (hi:i<ds.length) {n:Int} {b m:Nat} (h:ownV ds ds[i] n b m=true):fitV ds ds[i] n b m=true:=by
 unfold fitV
 split
 ·rename_i e
  have h7:=((kids_len hok i hi).2.2.2.1 e).2;unfold ownV at h;rw [if_neg (by omega),if_neg (by omega),if_neg (by omega),if_neg (by omega),if_neg (by omega),if_neg (by omega),if_pos e] at h;simp only [Bool.and_eq_true,beq_iff_eq,decide_eq_true_eq] at h;have h8:=h7 _ h.1.1
  have h9:ds[i].tags[tagN ds[i].tags n]'h.1.1=n:=by
   have:=List.findIdx_getElem (p:=(·==n)) (xs:=ds[i].tags) (w:=h.1.1);exact eq_of_beq this
  rw [h9] at h8;simp only [Bool.and_eq_true,decide_eq_true_eq]
  omega
 ·exact h
theorem fit_not_own {ds:List DRule} {r:DRule} {n:Int} {b m:Nat} (h:fitV ds r n b m=true) (h2:ownV ds r n b m=false):r.kind=7∧m=1∧¬ tagN r.tags n<r.tags.length:=by
 unfold fitV at h
 split at h
 ·rename_i e
  simp only [Bool.and_eq_true,decide_eq_true_eq] at h;refine ⟨e,by omega,fun hlt=>?_⟩;unfold ownV at h2;rw [if_neg (by omega),if_neg (by omega),if_neg (by omega),if_neg (by omega),if_neg (by omega),if_neg (by omega),if_pos e,decide_eq_true hlt,beq_iff_eq.2 (show b=0 by omega),beq_iff_eq.2 (show m=1 by omega)] at h2;simp at h2
 ·rw [h] at h2;cases h2
theorem itemI_of {ds:List DRule} (hok:descOk ds=true) (i:Nat) (hi:i<ds.length) {n:Int} {b m j:Nat} (h:fitV ds ds[i] n b m=true) (hj:j<m) :
 ItemAtI ds[i] j∧((ownV ds ds[i] n b m=true∧kidV ds[i] n j<i∧kidI ds[i] n j=(kidV ds[i] n j:Int))∨(ownV ds ds[i] n b m=false∧kidI ds[i] n j = -1)):=by
 cases ho:ownV ds ds[i] n b m
 ·obtain ⟨e,em,et⟩:=fit_not_own h ho
  exact ⟨.inr (.inr (.inl ⟨e,((kids_len hok i hi).2.2.2.1 e).1⟩)),.inr ⟨rfl,by unfold kidI;rw [if_pos e,if_neg et]⟩⟩
 ·obtain ⟨hlt,hat⟩:=own_item hok i hi ho hj
  refine ⟨?_,.inl ⟨rfl,hlt,?_⟩⟩
  ·rcases hat with ⟨a,b⟩ | ⟨a,b,_⟩ | ⟨a,_,_,_⟩ | ⟨a,_,b⟩
   ·exact .inl ⟨a,b⟩
   ·exact .inr (.inl ⟨a,b⟩)
   ·exact .inr (.inr (.inl ⟨a,((kids_len hok i hi).2.2.2.1 a).1⟩))
   ·exact .inr (.inr (.inr ⟨a,b⟩))
  ·unfold kidI
   rcases hat with ⟨a,b⟩ | ⟨a,b,_⟩ | ⟨a,_,ht,_⟩ | ⟨a,_,b⟩
   ·rw [if_neg (by omega)]
   ·rw [if_neg (by omega)]
   ·rw [if_pos a,if_pos ht,kidV7 a]
   ·rw [if_neg (by omega)]
def iValOk (A:Option Addr) (ds:List DRule) (c:Nat) (v:DVal):Prop:=∀ (i:Nat) (_:i<ds.length) (Vb:Option Addr) (vb:Nat) (Vi:Option Addr) (vi:Nat) (g off:Nat) (w:World),RdD w A ds c→RdV w v Vb vb Vi vi→ValAt w g off v (.slice Vb v.bytes.length vb) (.slice Vi v.items.length vi) →
 Gives Tryz.prog 39 #[vdesc (.slice A ds.length c),.int .i64 (i:Int),.pointer (some ⟨g,off,none⟩)] w (.bool (validV ds i v))
theorem iVal_of (A:Option Addr) (ds:List DRule) (c:Nat) (hok:descOk ds=true) (v:DVal) (H:∀ x∈v.items,iValOk A ds c x):iValOk A ds c v:=by
 intro i hi Vb vb Vi vi g off w hd hv hat;have hbl:=hv.b.len;have hil:=hv.i.len;have CF:=lhd (fun w h1 h2=>iFit_c A ds c i hi v Vb vb Vi vi g off w hok h1 h2 hbl hil)
 have NO0:Hid (fitV ds ds[i] v.num v.bytes.length v.items.length=false→validV ds i v=false):=fun h=>by
  refine validV_own (hi:=hi) ?_;cases ho:ownV ds ds[i] v.num v.bytes.length v.items.length
  ·rfl
  ·rw [fit_of_own hok i hi ho] at h;cases h
 have NO1:Hid (ownV ds ds[i] v.num v.bytes.length v.items.length=false→validV ds i v=false):=fun h=>validV_own (hi:=hi) h
 have NO2:Hid (∀ j (hj:j<v.items.length),validV ds (kidV ds[i] v.num j) v.items[j]=false→validV ds i v=false):=fun j hj h=>validV_no (hi:=hi) hj h
 have YES:Hid (ownV ds ds[i] v.num v.bytes.length v.items.length=true→(∀ j (hj:j<v.items.length),validV ds (kidV ds[i] v.num j) v.items[j]=true)→validV ds i v=true):=fun h1 h2=>validV_yes (hi:=hi) h1 h2
 have EMP:Hid (fitV ds ds[i] v.num v.bytes.length v.items.length=true→ownV ds ds[i] v.num v.bytes.length v.items.length=false→0<v.items.length):=fun h1 h2=>by have:=(fit_not_own h1 h2).2.1;omega
 have IT:Hid (fitV ds ds[i] v.num v.bytes.length v.items.length=true→∀ j,j<v.items.length→ItemAtI ds[i] j∧((ownV ds ds[i] v.num v.bytes.length v.items.length=true∧kidV ds[i] v.num j<i∧kidI ds[i] v.num j=(kidV ds[i] v.num j:Int))∨(ownV ds ds[i] v.num v.bytes.length v.items.length=false∧kidI ds[i] v.num j = -1))):=fun h j hj=>itemI_of hok i hi h hj
 have HKN:=lhd (kd_int hok i hi);have HD:=lhd hd;have HV:=lhd hv;have HAT:=lhd hat;have HH:=lhd H
 have CC:Hid (∀ j w',Ext w w'→j≤9223372036854775807→ItemAtI ds[i] j→Gives Tryz.prog 42 #[vdesc (.slice A ds.length c),.int .i64 (i:Int),.pointer (some ⟨g,off,none⟩),.int .i64 (j:Int)] w' (.int .i64 (kidI ds[i] v.num j))) :=
  fun j w' e hj h=>iChild_c A ds c i hi v.num g off j w' (HD.out.ext e) (fun w2 e2=>HAT.out.c0 w2 (e.trans e2)) hj h HKN.out
 obtain ⟨v0,v1,v2⟩:=hat;clear hok H hd hv HKN v0 v1;have eb:=Ext_alloc (.cells #[.slice A ds.length c] 26) (Ext.refl w);have BX:=fun w' (e:Ext (w.alloc (.cells #[.slice A ds.length c] 26)) w')=>boxed e 0
 simp only [List.getElem?_toArray,List.getElem?_cons_zero] at BX;obtain ⟨W0,hW0⟩:∃ W0,W0=w.alloc (.cells #[.slice A ds.length c] 26):=⟨_,rfl⟩;have HW0:=lhd hW0;rw [← hW0] at eb BX;clear hW0;replace v2:=kx v2 eb;unfold vdesc at *;generalize hKV:(fun j=>kidV ds[i] v.num j)=KV at *;have hKV':∀ j,kidV ds[i] v.num j=KV j:=fun j=>by rw [← hKV]
 simp only [hKV'] at NO2 YES IT;generalize hKI:(fun j=>kidI ds[i] v.num j)=KI at *;have hKI':∀ j,kidI ds[i] v.num j=KI j:=fun j=>by rw [← hKI]
 simp only [hKI'] at CC IT;clear hKV hKV' hKI hKI';generalize ownV ds ds[i] v.num v.bytes.length v.items.length=o at *;generalize fitV ds ds[i] v.num v.bytes.length v.items.length=z at *;generalize ds[i]=r at *;generalize hR:validV ds i v=R at *;have HR:=lhd hR;clear hR;cases z
 ·have E:=lhd (NO0.out rfl)
  clear NO0 NO1 NO2 YES IT CC;go_enter Tryz.func39,Tryz.ntmps39;go_wp2_with fail;rw [← HW0.out];refine (CF.out _ (HD.out.ext eb) (HAT.out.ext eb)).mono ?_;rintro _ w1 ⟨rfl,he1⟩;go_wp2;go_ret;exact ⟨ret_bool E.out.symm,eb.trans he1⟩
 ·have IT':=lhd (IT.out rfl);have EMP':=lhd (EMP.out rfl)
  clear NO0 IT EMP;go_enter Tryz.func39,Tryz.ntmps39;go_wp2_with fail;rw [← HW0.out];refine (CF.out _ (HD.out.ext eb) (HAT.out.ext eb)).mono ?_;rintro _ w1 ⟨rfl,he1⟩;clear CF;go_wp2;go_loopw [19] (fun ix wr=>∃ k:Nat,k≤v.items.length∧ix=.int .i64 k∧Hid (∀ j (hj:j<v.items.length),j<k→o=true∧validV ds (KV j) v.items[j]=true)∧Ext W0 wr) (fun ix _=>v.items.length-(intOf ix).toNat)
  case atStart=>exact ⟨0,by omega,rfl,(fun j _ hj=>by omega),he1⟩
  case round =>
   obtain ⟨k,hk,rfl,ht,he⟩:=hrel
   by_cases hlt:k<v.items.length
   ·obtain ⟨bb,of2,A1,c1,D1,d1,hVi,hb,hs,hr⟩:=HV.out.i.at k hlt
    subst hVi;have Hk:=HH.out _ (List.getElem_mem hlt);obtain ⟨hat,hcase⟩:=IT'.out k hlt;have CJ:=lhd (CC.out k wr (eb.trans he) (by omega) hat);have NO:Hid (validV ds (KV k) v.items[k]=false→R=false):=fun h=>NO2.out k hlt h
    have YE:Hid (o=true→validV ds (KV k) v.items[k]=true→∀ j (h1:j<v.items.length),j<k+1→o=true∧validV ds (KV j) v.items[j]=true):=by
     intro ho hy j h1 hj;rcases (by omega:j<k∨j=k) with hj | rfl
     ·exact ht.out j h1 hj
     ·exact ⟨ho,hy⟩
    have hkk:(0:Int)≤(k:Int):=by omega
    have hkl:(k:Int)<(v.items.length:Int):=by omega
    rcases hcase with ⟨rfl,hlt2,hki⟩ | ⟨rfl,hki⟩
    ·rw [hki] at CJ
     have CE:=lhd (fun w' (e:Ext W0 w')=>Hk (KV k) (by omega) A1 c1 D1 d1 bb (of2+k*3) w' (HD.out.ext (eb.trans e)) (hs.ext (eb.trans e)) (hr.ext (eb.trans e)));generalize hX:v.items[k]=x at *;clear hX;generalize hY:KV k=y at *;clear hY hat Hk hs hr hki hlt2 CC;generalize validV ds y x=zz at *;unfold vdesc at CE;have d0:decide ((y:Int)<0)=false:=decide_eq_false (by omega)
     have HT:=ht;clear ht;go_wp2_with fail;refine CJ.out.mono ?_;rintro _ w3 ⟨rfl,he3⟩;have he13:=he.trans he3;go_wp2_with fail;refine wp_region_quiet_below (by kernel_rfl) (by kernel_rfl) ?_;repeat (go_big_quiet_step ((go_at_call 39;exact Calls.regrown_of (CE.out _ (Ext.trans he13 (by first | assumption | exact Ext_regrown _ _ (Ext.refl _)))))))
     refine wpQuiet_nil (qnl ?_);intro w2 ew2;have he2:=he13.trans ew2;cases zz
     ·have NO':=lhd (NO.out rfl);clear NO YE
      go_wp2;go_ret;exact ⟨ret_bool NO'.out.symm,eb.trans he2⟩
     ·have YE':=lhd (YE.out (by first | exact trivial | rfl) (by first | exact trivial | rfl));clear NO YE
      go_wp2;go_roundw
      case rel=>exact ⟨k+1,by omega,by go_num,YE'.out,he2⟩
      case measure=>simp [intOf];omega
    ·rw [hki] at CJ
     have E:=lhd (NO1.out rfl);clear hat Hk hs hr hki CC NO YE ht;go_wp2_with fail;refine CJ.out.mono ?_;rintro _ w3 ⟨rfl,he3⟩;have he13:=he.trans he3;go_wp2_with fail;refine wp_region_quiet_below (by kernel_rfl) (by kernel_rfl) ?_;repeat (go_big_quiet_step (fail))
     refine wpQuiet_nil (qnl ?_);intro w2 ew2;have he2:=he13.trans ew2;go_wp2;go_ret;exact ⟨ret_bool E.out.symm,eb.trans he2⟩
   ·have hk':k=v.items.length:=by omega
    have HE:Hid (R=true):=by
     have ho:o=true:=by
      cases o
      ·have h0:=EMP'.out rfl
       exact (ht.out 0 h0 (by omega)).1
      ·rfl
     exact YES.out ho (fun j hj=>(ht.out j hj (by omega)).2)
    go_wp2;go_ret;exact ⟨ret_bool HE.out.symm,eb.trans he⟩
theorem iVal_all (A:Option Addr) (ds:List DRule) (c:Nat) (hok:descOk ds=true):∀ v,iValOk A ds c v:=fun v=>DVal.ind (iVal_of A ds c hok) v
theorem validB_no {ds:List DRule} {i:Int} (h:knownB ds i=false) (v:DVal):validB ds i v=false:=by unfold validB;rw [h];rfl
theorem validB_yes {ds:List DRule} {k:Nat} (h:knownB ds (k:Int)=true) (v:DVal):validB ds (k:Int) v=validV ds k v:=by unfold validB;rw [h,Int.toNat_natCast];rfl
theorem knownB_desc {ds:List DRule} {i:Int} (h:knownB ds i=true):descOk ds=true∧∃ k:Nat,∃ _:k<ds.length,i=(k:Int):=by
 unfold knownB at h;simp at h
 exact ⟨h.1,i.toNat,by omega,by omega⟩
theorem l7Rule_c (A:Option Addr) (ds:List DRule) (c:Nat) (i:Int) (w:World) (hd:RdD w A ds c) (hs:ShortD ds) (hw:WfD ds) :
 Gives Tryz.prog 19 #[vdesc (.slice A ds.length c),.int .i64 i] w (.bool (knownB ds i)):=sKnown_c A ds c i w hd hs hw
theorem sValid_c (A:Option Addr) (ds:List DRule) (c:Nat) (i:Int) (v:DVal) (Vb:Option Addr) (vb:Nat) (Vi:Option Addr) (vi:Nat) (w:World) (hd:RdD w A ds c) (hs:ShortD ds) (hw:WfD ds) (hv:RdV w v Vb vb Vi vi) :
 Gives Tryz.prog 7 #[vdesc (.slice A ds.length c),.int .i64 i,vval v (.slice Vb v.bytes.length vb) (.slice Vi v.items.length vi)] w (.bool (validB ds i v)):=by
 obtain ⟨W0,hW0⟩:∃ W0,W0=((w.alloc (.cells #[.slice A ds.length c] 26)).alloc (.cells #[.int .i64 v.num,.slice Vb v.bytes.length vb,.slice Vi v.items.length vi] 29)):=⟨_,rfl⟩;have eb:Ext w W0:=by rw [hW0];exact Ext_alloc _ (Ext_alloc _ (Ext.refl w))
 have BX:=fun w' (e:Ext W0 w')=>boxed2 (hW0▸e)
 have B0:=fun w' e=>(BX w' e).1 0
 have B1:=fun w' e=>(BX w' e).2.1
 simp only [List.getElem?_toArray,List.getElem?_cons_zero] at B0;clear BX;have HW0:=lhd hW0;have CK:=lhd (fun w h=>l7Rule_c A ds c i w h hs hw);have HD:=lhd hd;have HV:=lhd hv;clear hd hv hW0;cases hk:knownB ds i
 ·have HE:=lhd (validB_no hk v)
  rw [HE.out];rw [hk] at CK;unfold vdesc vval at *;clear hk;go_enter Tryz.func7,Tryz.ntmps7;go_wp2_with fail;rw [← HW0.out];refine (CK.out _ (HD.out.ext eb)).mono ?_;rintro _ w1 ⟨rfl,he1⟩;go_wp2;go_ret;exact ⟨rfl,eb.trans he1⟩
 ·obtain ⟨hok,k,hkl,rfl⟩:=knownB_desc hk
  have CV:=lhd (fun w h1 h2=>sVal_all A ds c hok v k hkl Vb vb Vi vi w h1 h2);have HE:=lhd (validB_yes hk v);rw [HE.out];rw [hk] at CK;clear HE;generalize validV ds k v=z at *;unfold vdesc vval at *;clear hk hok;go_enter Tryz.func7,Tryz.ntmps7;go_wp2_with fail;rw [← HW0.out];refine (CK.out _ (HD.out.ext eb)).mono ?_;rintro _ w1 ⟨rfl,he1⟩;have e1:=eb.trans he1;go_wp2_with fail;refine (CV.out _ (HD.out.ext e1) (HV.out.ext e1)).mono ?_;rintro _ w2 ⟨rfl,he2⟩;go_wp2;go_ret;exact ⟨rfl,e1.trans he2⟩
theorem iValid_c (A:Option Addr) (ds:List DRule) (c:Nat) (i:Int) (v:DVal) (Vb:Option Addr) (vb:Nat) (Vi:Option Addr) (vi:Nat) (w:World) (hd:RdD w A ds c) (hs:ShortD ds) (hw:WfD ds) (hv:RdV w v Vb vb Vi vi) :
 Gives Tryz.prog 17 #[vdesc (.slice A ds.length c),.int .i64 i,vval v (.slice Vb v.bytes.length vb) (.slice Vi v.items.length vi)] w (.bool (validB ds i v)):=by
 obtain ⟨W0,HW0',BA,BV,eb,hsz⟩:=boxes2' w #[.slice A ds.length c] #[.int .i64 v.num,.slice Vb v.bytes.length vb,.slice Vi v.items.length vi] 26 29;have B0:=BA.at 0;have B1:=BV.at;simp only [List.getElem?_toArray,List.getElem?_cons_zero] at B0;have HAT:Hid (∀ w',Ext W0 w'→ValAt w' (w.heap.size+1) 0 v (.slice Vb v.bytes.length vb) (.slice Vi v.items.length vi)):=fun w' e=>⟨fun w2 e2=>BV.at 0 w2 (e.trans e2),fun w2 e2=>BV.at 1 w2 (e.trans e2),fun w2 e2=>BV.at 2 w2 (e.trans e2)⟩
 have CK:=lhd (fun w h=>iKnown_c A ds c i w h hs hw);have HD:=lhd hd;have HV:=lhd hv;clear hd hv BA BV hsz;cases hk:knownB ds i
 ·have HE:=lhd (validB_no hk v)
  rw [HE.out];rw [hk] at CK;unfold vdesc vval at *;clear hk;go_enter Tryz.func17,Tryz.ntmps17;go_wp2_with fail;rw [← HW0'.out];refine (CK.out _ (HD.out.ext eb)).mono ?_;rintro _ w1 ⟨rfl,he1⟩;go_wp2;go_ret;exact ⟨rfl,eb.trans he1⟩
 ·obtain ⟨hok,k,hkl,rfl⟩:=knownB_desc hk
  have CV:=lhd (fun w h1 h2 h3=>iVal_all A ds c hok v k hkl Vb vb Vi vi (w.heap.size+1) 0 w h1 h2 h3);have CV':Hid (∀ w',Ext W0 w'→Gives Tryz.prog 39 #[vdesc (.slice A ds.length c),.int .i64 (k:Int),.pointer (some ⟨w.heap.size+1,0,none⟩)] w' (.bool (validV ds k v))):=fun w' e=>iVal_all A ds c hok v k hkl Vb vb Vi vi (w.heap.size+1) 0 w' (HD.out.ext (eb.trans e)) (HV.out.ext (eb.trans e)) (HAT.out w' e)
  have HE:=lhd (validB_yes hk v);rw [HE.out];rw [hk] at CK;clear HE CV;generalize validV ds k v=z at *;unfold vdesc vval at *;clear hk hok;go_enter Tryz.func17,Tryz.ntmps17;go_wp2_with fail;rw [← HW0'.out];refine (CK.out _ (HD.out.ext eb)).mono ?_;rintro _ w1 ⟨rfl,he1⟩;go_wp2_with fail;refine (CV'.out _ he1).mono ?_;rintro _ w2 ⟨rfl,he2⟩;go_wp2;go_ret;exact ⟨rfl,eb.trans (he1.trans he2)⟩
end Go.Proofs.YtlfhealneccdkaaGreatDoor
