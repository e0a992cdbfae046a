/- Texts, laid into one. -/
import Derived.Test.YtpmcofmdjckijaaGreatZDg24
import Derived.Deep.CutBlock
set_option linter.unusedVariables false
set_option linter.unusedSimpArgs false
set_option maxRecDepth 100000
set_option maxHeartbeats 16000000
namespace Go.Proofs.YtpmcofmdjckijaaGreat
open Go.RowKit Go.Sort
theorem sBlockOf_c (Ac:Option Addr) (cs:List Ins) (cc:Nat) (Ae:Option Addr) (es:List Int) (ce:Nat) (x:Int) (w:World) (hC:RdI w Ac cs cc) (hE:Is w Ae es ce) (hel:es.length≤1000000) :
 Gives Tryz.prog 189 #[.agg #[.slice Ac cs.length cc,.slice Ae es.length ce],.int .i64 x] w (.int .i64 (blockOf es x)):=by
 obtain ⟨W0,hW0⟩:=nmw (w.alloc (.cells #[.slice Ac cs.length cc,.slice Ae es.length ce] 55));have e0:Ext w W0:=ka hW0
 have BP:Box W0 w.heap.size #[.slice Ac cs.length cc,.slice Ae es.length ce] 55:=kb hW0
 have p0:∀ w',Ext W0 w'→w'.cell? ⟨w.heap.size,0,none⟩=some (Value.slice Ac cs.length cc):=BP.at 0
 have p1:∀ w',Ext W0 w'→w'.cell? ⟨w.heap.size,1,none⟩=some (Value.slice Ae es.length ce):=BP.at 1
 have d0:=p0 _ (Ext.refl _);have d1:=p1 _ (Ext.refl _);rw [hW0.out] at d0 d1;have HBO:Hid (blockOf es x=blockN es x es.length):=rfl
 go_enter Tryz.func189,Tryz.ntmps189;go_wp2_with fail;rw [← hW0.out];go_loopw [5,6] (fun v q wr=>∃ k:Nat,k≤es.length∧v=.int .i64 (blockN es x k)∧q=.int .i64 (k:Int)∧Ext W0 wr) (fun _ q _=>es.length-(intOf q).toNat)
 case atStart=>exact ⟨0,by omega,rfl,rfl,Ext.refl _⟩
 case round =>
  clear d0 d1;obtain ⟨k,hk,rfl,rfl,he⟩:=hrel
  by_cases hlt:k<es.length
  ·obtain ⟨b,off,rfl,hb,hc⟩:=hE.at k hlt
   have hc':=fun w' (e:Ext W0 w')=>hc w' (e0.trans e)
   have HS:Hid (blockN es x (k+1)=if es[k]≤x then (k:Int) else blockN es x k):=by show _=_;rw [blockN];simp [hlt]
   generalize es[k]=y at *;generalize blockN es x k=z at *;clear hc
   by_cases hy:y≤x
   ·have HS':Hid (blockN es x (k+1)=(k:Int)):=by show _=_;rw [HS.out,if_pos hy]
    clear HS;go_wp2;go_roundw
    case rel=>exact ⟨k+1,by omega,by rw [HS'.out],by go_num,he⟩
    case measure=>simp [intOf];omega
   ·have HS':Hid (blockN es x (k+1)=z):=by show _=_;rw [HS.out,if_neg hy]
    clear HS;go_wp2;go_roundw
    case rel=>exact ⟨k+1,by omega,by rw [HS'.out],by go_num,he⟩
    case measure=>simp [intOf];omega
  ·obtain rfl:k=es.length:=by omega
   go_wp2;go_ret;exact ⟨by rw [HBO.out];rfl,e0.trans he⟩
theorem sInner_17 (Ac:Option Addr) (cs:List Ins) (cc:Nat) (Ae:Option Addr) (es:List Int) (ce:Nat) (j:Nat) (hj:j<cs.length) (start fin:Int) (w:World) (hC:RdI w Ac cs cc) (hE:Is w Ae es ce) (hel:es.length≤1000000) (hs : -100000000≤start∧start≤100000000) (hf : -100000000≤fin∧fin≤100000000) (hop:cs[j].1=17) :
 Gives Tryz.prog 197 #[.agg #[.slice Ac cs.length cc,.slice Ae es.length ce],.int .i64 (j:Int),.int .i64 start,.int .i64 fin] w (.bool (innerOk cs es (j:Int) start fin)):=by
 have hl:=hC.len;have hcp:=hC.cap;obtain ⟨W0,hW0⟩:=nmw (w.alloc (.cells #[.slice Ac cs.length cc,.slice Ae es.length ce] 55));have e0:Ext w W0:=ka hW0
 have BP:Box W0 w.heap.size #[.slice Ac cs.length cc,.slice Ae es.length ce] 55:=kb hW0
 have p0:∀ w',Ext W0 w'→w'.cell? ⟨w.heap.size,0,none⟩=some (Value.slice Ac cs.length cc):=BP.at 0
 have p1:∀ w',Ext W0 w'→w'.cell? ⟨w.heap.size,1,none⟩=some (Value.slice Ae es.length ce):=BP.at 1
 have d0:=p0 _ (Ext.refl _);have d1:=p1 _ (Ext.refl _);rw [hW0.out] at d0 d1;have CI:=lhd (fun x lo hi w=>l1In_c x lo hi w);have CO:=lhd (fun (d o:Int) w' (e:Ext w w') (hd : -1000000000≤d∧d≤1000000000)=>sIsOp_c Ac cs cc Ae es ce d o w' (hC.ext e) (hE.ext e) hd);have CQ:=lhd (fun (d:Int) w' (e:Ext w w') (hd : -100000000≤d∧d≤100000000)=>sLoop_c Ac cs cc Ae es ce d w' (hC.ext e) (hE.ext e) hd);have HI:Hid (insAt cs (j:Int)=cs[j]):=insAt_nat hj
 obtain ⟨b,off,rfl,hb,hc⟩:=hC.at j hj;have c0:∀ w',Ext W0 w'→w'.cell? ⟨b,off+j*3,none⟩=some (.int .i64 cs[j].1):=fun w' e=>(hc w' (e0.trans e)).1
 have c1:∀ w',Ext W0 w'→w'.cell? ⟨b,off+j*3+1,none⟩=some (.int .i64 cs[j].2.1):=fun w' e=>(hc w' (e0.trans e)).2.1
 have c2:∀ w',Ext W0 w'→w'.cell? ⟨b,off+j*3+2,none⟩=some (.int .i64 cs[j].2.2):=fun w' e=>(hc w' (e0.trans e)).2.2
 generalize cs[j]=x at *;obtain ⟨o,a,q⟩:=x;dsimp only at *;subst hop;clear hc;have y0:=c0 W0 (Ext.refl _);have y1:=c1 W0 (Ext.refl _);have y2:=c2 W0 (Ext.refl _);rw [hW0.out] at y0 y1 y2;obtain ⟨W2,hW2⟩:=nmw (W0.alloc (.cells #[.int .i64 17,.int .i64 a,.int .i64 q] 79));have e2:Ext W0 W2:=ka hW2
 have BX:Box W2 W0.heap.size #[.int .i64 17,.int .i64 a,.int .i64 q] 79:=kb hW2
 have hsz:W0.heap.size=w.heap.size+1:=by rw [hW0.out];simp
 rw [hsz] at BX;have f0:∀ w',Ext W2 w'→w'.cell? ⟨w.heap.size+1,0,none⟩=some (.int .i64 17):=BX.at 0
 have f1:∀ w',Ext W2 w'→w'.cell? ⟨w.heap.size+1,1,none⟩=some (.int .i64 a):=BX.at 1
 have f2:∀ w',Ext W2 w'→w'.cell? ⟨w.heap.size+1,2,none⟩=some (.int .i64 q):=BX.at 2
 have E2:=e0.trans e2;have z0:=f0 W2 (Ext.refl _);have z1:=f1 W2 (Ext.refl _);have z2:=f2 W2 (Ext.refl _);rw [hW2.out,hW0.out] at z0 z1 z2;have g0:=p0 W2 e2;have g1:=p1 W2 e2;rw [hW2.out,hW0.out] at g0 g1;have p02:=fun w' (e:Ext W2 w')=>p0 w' (e2.trans e)
 have p12:=fun w' (e:Ext W2 w')=>p1 w' (e2.trans e)
 have hjs:j<1000000:=by omega
 clear hsz BX;have HR:Hid (innerOk cs es (j:Int) start fin=false):=by show _=_;unfold innerOk;rw [HI.out];rfl
 go_enter Tryz.func197,Tryz.ntmps197;go_wp2;go_ret;exact ⟨by rw [HR.out];rfl,by have:=E2;rw [hW2.out,hW0.out] at this;exact this⟩
theorem sInner_6 (Ac:Option Addr) (cs:List Ins) (cc:Nat) (Ae:Option Addr) (es:List Int) (ce:Nat) (j:Nat) (hj:j<cs.length) (start fin:Int) (w:World) (hC:RdI w Ac cs cc) (hE:Is w Ae es ce) (hel:es.length≤1000000) (hs : -100000000≤start∧start≤100000000) (hf : -100000000≤fin∧fin≤100000000) (hop:cs[j].1=6) :
 Gives Tryz.prog 197 #[.agg #[.slice Ac cs.length cc,.slice Ae es.length ce],.int .i64 (j:Int),.int .i64 start,.int .i64 fin] w (.bool (innerOk cs es (j:Int) start fin)):=by
 have hl:=hC.len;have hcp:=hC.cap;obtain ⟨W0,hW0⟩:=nmw (w.alloc (.cells #[.slice Ac cs.length cc,.slice Ae es.length ce] 55));have e0:Ext w W0:=ka hW0
 have BP:Box W0 w.heap.size #[.slice Ac cs.length cc,.slice Ae es.length ce] 55:=kb hW0
 have p0:∀ w',Ext W0 w'→w'.cell? ⟨w.heap.size,0,none⟩=some (Value.slice Ac cs.length cc):=BP.at 0
 have p1:∀ w',Ext W0 w'→w'.cell? ⟨w.heap.size,1,none⟩=some (Value.slice Ae es.length ce):=BP.at 1
 have d0:=p0 _ (Ext.refl _);have d1:=p1 _ (Ext.refl _);rw [hW0.out] at d0 d1;have CI:=lhd (fun x lo hi w=>l1In_c x lo hi w);have CO:=lhd (fun (d o:Int) w' (e:Ext w w') (hd : -1000000000≤d∧d≤1000000000)=>sIsOp_c Ac cs cc Ae es ce d o w' (hC.ext e) (hE.ext e) hd);have CQ:=lhd (fun (d:Int) w' (e:Ext w w') (hd : -100000000≤d∧d≤100000000)=>sLoop_c Ac cs cc Ae es ce d w' (hC.ext e) (hE.ext e) hd);have HI:Hid (insAt cs (j:Int)=cs[j]):=insAt_nat hj
 obtain ⟨b,off,rfl,hb,hc⟩:=hC.at j hj;have c0:∀ w',Ext W0 w'→w'.cell? ⟨b,off+j*3,none⟩=some (.int .i64 cs[j].1):=fun w' e=>(hc w' (e0.trans e)).1
 have c1:∀ w',Ext W0 w'→w'.cell? ⟨b,off+j*3+1,none⟩=some (.int .i64 cs[j].2.1):=fun w' e=>(hc w' (e0.trans e)).2.1
 have c2:∀ w',Ext W0 w'→w'.cell? ⟨b,off+j*3+2,none⟩=some (.int .i64 cs[j].2.2):=fun w' e=>(hc w' (e0.trans e)).2.2
 generalize cs[j]=x at *;obtain ⟨o,a,q⟩:=x;dsimp only at *;subst hop;clear hc;have y0:=c0 W0 (Ext.refl _);have y1:=c1 W0 (Ext.refl _);have y2:=c2 W0 (Ext.refl _);rw [hW0.out] at y0 y1 y2;obtain ⟨W2,hW2⟩:=nmw (W0.alloc (.cells #[.int .i64 6,.int .i64 a,.int .i64 q] 79));have e2:Ext W0 W2:=ka hW2
 have BX:Box W2 W0.heap.size #[.int .i64 6,.int .i64 a,.int .i64 q] 79:=kb hW2
 have hsz:W0.heap.size=w.heap.size+1:=by rw [hW0.out];simp
 rw [hsz] at BX;have f0:∀ w',Ext W2 w'→w'.cell? ⟨w.heap.size+1,0,none⟩=some (.int .i64 6):=BX.at 0
 have f1:∀ w',Ext W2 w'→w'.cell? ⟨w.heap.size+1,1,none⟩=some (.int .i64 a):=BX.at 1
 have f2:∀ w',Ext W2 w'→w'.cell? ⟨w.heap.size+1,2,none⟩=some (.int .i64 q):=BX.at 2
 have E2:=e0.trans e2;have z0:=f0 W2 (Ext.refl _);have z1:=f1 W2 (Ext.refl _);have z2:=f2 W2 (Ext.refl _);rw [hW2.out,hW0.out] at z0 z1 z2;have g0:=p0 W2 e2;have g1:=p1 W2 e2;rw [hW2.out,hW0.out] at g0 g1;have p02:=fun w' (e:Ext W2 w')=>p0 w' (e2.trans e)
 have p12:=fun w' (e:Ext W2 w')=>p1 w' (e2.trans e)
 have hjs:j<1000000:=by omega
 clear hsz BX;have HR:Hid (innerOk cs es (j:Int) start fin=(loopOk cs ((j:Int)+1)&&decide ((j:Int)+4<fin))):=by show _=_;unfold innerOk;rw [HI.out];rfl
 go_enter Tryz.func197,Tryz.ntmps197;go_wp2_with fail;rw [← hW0.out,← hW2.out];refine (CQ.out ((j:Int)+1) _ E2 (by omega)).mono ?_;rintro _ w4 ⟨rfl,e4⟩;have ex0:Ext W2 w4:=e4
 cases Z0:loopOk cs ((j:Int)+1)
 ·go_wp2
  go_ret;have hv:innerOk cs es (j:Int) start fin=false:=by rw [HR.out,Z0];simp
  exact ⟨by rw [hv];rfl,E2.trans e4⟩
 by_cases T0:(j:Int)+4<fin
 ·have hv0:decide ((j:Int)+4<fin)=true:=by simp;omega
  have hv:innerOk cs es (j:Int) start fin=true:=by rw [HR.out,Z0,hv0];rfl
  go_wp2;go_ret;exact ⟨by rw [hv];rfl,E2.trans e4⟩
 ·have hv0:decide ((j:Int)+4<fin)=false:=by simp;omega
  go_wp2;go_ret;have hv:innerOk cs es (j:Int) start fin=false:=by rw [HR.out,Z0,hv0];simp
  exact ⟨by rw [hv];rfl,E2.trans e4⟩
theorem sInner_7 (Ac:Option Addr) (cs:List Ins) (cc:Nat) (Ae:Option Addr) (es:List Int) (ce:Nat) (j:Nat) (hj:j<cs.length) (start fin:Int) (w:World) (hC:RdI w Ac cs cc) (hE:Is w Ae es ce) (hel:es.length≤1000000) (hs : -100000000≤start∧start≤100000000) (hf : -100000000≤fin∧fin≤100000000) (hop:cs[j].1=7) :
 Gives Tryz.prog 197 #[.agg #[.slice Ac cs.length cc,.slice Ae es.length ce],.int .i64 (j:Int),.int .i64 start,.int .i64 fin] w (.bool (innerOk cs es (j:Int) start fin)):=by
 have hl:=hC.len;have hcp:=hC.cap;obtain ⟨W0,hW0⟩:=nmw (w.alloc (.cells #[.slice Ac cs.length cc,.slice Ae es.length ce] 55));have e0:Ext w W0:=ka hW0
 have BP:Box W0 w.heap.size #[.slice Ac cs.length cc,.slice Ae es.length ce] 55:=kb hW0
 have p0:∀ w',Ext W0 w'→w'.cell? ⟨w.heap.size,0,none⟩=some (Value.slice Ac cs.length cc):=BP.at 0
 have p1:∀ w',Ext W0 w'→w'.cell? ⟨w.heap.size,1,none⟩=some (Value.slice Ae es.length ce):=BP.at 1
 have d0:=p0 _ (Ext.refl _);have d1:=p1 _ (Ext.refl _);rw [hW0.out] at d0 d1;have CI:=lhd (fun x lo hi w=>l1In_c x lo hi w);have CO:=lhd (fun (d o:Int) w' (e:Ext w w') (hd : -1000000000≤d∧d≤1000000000)=>sIsOp_c Ac cs cc Ae es ce d o w' (hC.ext e) (hE.ext e) hd);have CQ:=lhd (fun (d:Int) w' (e:Ext w w') (hd : -100000000≤d∧d≤100000000)=>sLoop_c Ac cs cc Ae es ce d w' (hC.ext e) (hE.ext e) hd);have HI:Hid (insAt cs (j:Int)=cs[j]):=insAt_nat hj
 obtain ⟨b,off,rfl,hb,hc⟩:=hC.at j hj;have c0:∀ w',Ext W0 w'→w'.cell? ⟨b,off+j*3,none⟩=some (.int .i64 cs[j].1):=fun w' e=>(hc w' (e0.trans e)).1
 have c1:∀ w',Ext W0 w'→w'.cell? ⟨b,off+j*3+1,none⟩=some (.int .i64 cs[j].2.1):=fun w' e=>(hc w' (e0.trans e)).2.1
 have c2:∀ w',Ext W0 w'→w'.cell? ⟨b,off+j*3+2,none⟩=some (.int .i64 cs[j].2.2):=fun w' e=>(hc w' (e0.trans e)).2.2
 generalize cs[j]=x at *;obtain ⟨o,a,q⟩:=x;dsimp only at *;subst hop;clear hc;have y0:=c0 W0 (Ext.refl _);have y1:=c1 W0 (Ext.refl _);have y2:=c2 W0 (Ext.refl _);rw [hW0.out] at y0 y1 y2;obtain ⟨W2,hW2⟩:=nmw (W0.alloc (.cells #[.int .i64 7,.int .i64 a,.int .i64 q] 79));have e2:Ext W0 W2:=ka hW2
 have BX:Box W2 W0.heap.size #[.int .i64 7,.int .i64 a,.int .i64 q] 79:=kb hW2
 have hsz:W0.heap.size=w.heap.size+1:=by rw [hW0.out];simp
 rw [hsz] at BX;have f0:∀ w',Ext W2 w'→w'.cell? ⟨w.heap.size+1,0,none⟩=some (.int .i64 7):=BX.at 0
 have f1:∀ w',Ext W2 w'→w'.cell? ⟨w.heap.size+1,1,none⟩=some (.int .i64 a):=BX.at 1
 have f2:∀ w',Ext W2 w'→w'.cell? ⟨w.heap.size+1,2,none⟩=some (.int .i64 q):=BX.at 2
 have E2:=e0.trans e2;have z0:=f0 W2 (Ext.refl _);have z1:=f1 W2 (Ext.refl _);have z2:=f2 W2 (Ext.refl _);rw [hW2.out,hW0.out] at z0 z1 z2;have g0:=p0 W2 e2;have g1:=p1 W2 e2;rw [hW2.out,hW0.out] at g0 g1;have p02:=fun w' (e:Ext W2 w')=>p0 w' (e2.trans e)
 have p12:=fun w' (e:Ext W2 w')=>p1 w' (e2.trans e)
 have hjs:j<1000000:=by omega
 clear hsz BX;have HR:Hid (innerOk cs es (j:Int) start fin=(loopOk cs (j:Int)&&decide (start≤(j:Int)-1)&&decide ((j:Int)+3<fin))):=by show _=_;unfold innerOk;rw [HI.out];rfl
 go_enter Tryz.func197,Tryz.ntmps197;go_wp2_with fail;rw [← hW0.out,← hW2.out];refine (CQ.out (j:Int) _ E2 (by omega)).mono ?_;rintro _ w4 ⟨rfl,e4⟩;have ex0:Ext W2 w4:=e4
 cases Z0:loopOk cs (j:Int)
 ·go_wp2
  go_ret;have hv:innerOk cs es (j:Int) start fin=false:=by rw [HR.out,Z0];simp
  exact ⟨by rw [hv];rfl,E2.trans e4⟩
 by_cases T0:start≤(j:Int)-1
 ·have hv0:decide (start≤(j:Int)-1)=true:=by simp;omega
  by_cases T1:(j:Int)+3<fin
  ·have hv1:decide ((j:Int)+3<fin)=true:=by simp;omega
   have hv:innerOk cs es (j:Int) start fin=true:=by rw [HR.out,Z0,hv0,hv1];rfl
   go_wp2;go_ret;exact ⟨by rw [hv];rfl,E2.trans e4⟩
  ·have hv1:decide ((j:Int)+3<fin)=false:=by simp;omega
   go_wp2;go_ret;have hv:innerOk cs es (j:Int) start fin=false:=by rw [HR.out,Z0,hv0,hv1];simp
   exact ⟨by rw [hv];rfl,E2.trans e4⟩
 ·have hv0:decide (start≤(j:Int)-1)=false:=by simp;omega
  go_wp2;go_ret;have hv:innerOk cs es (j:Int) start fin=false:=by rw [HR.out,Z0,hv0];simp
  exact ⟨by rw [hv];rfl,E2.trans e4⟩
theorem sInner_8 (Ac:Option Addr) (cs:List Ins) (cc:Nat) (Ae:Option Addr) (es:List Int) (ce:Nat) (j:Nat) (hj:j<cs.length) (start fin:Int) (w:World) (hC:RdI w Ac cs cc) (hE:Is w Ae es ce) (hel:es.length≤1000000) (hs : -100000000≤start∧start≤100000000) (hf : -100000000≤fin∧fin≤100000000) (hop:cs[j].1=8) :
 Gives Tryz.prog 197 #[.agg #[.slice Ac cs.length cc,.slice Ae es.length ce],.int .i64 (j:Int),.int .i64 start,.int .i64 fin] w (.bool (innerOk cs es (j:Int) start fin)):=by
 have hl:=hC.len;have hcp:=hC.cap;obtain ⟨W0,hW0⟩:=nmw (w.alloc (.cells #[.slice Ac cs.length cc,.slice Ae es.length ce] 55));have e0:Ext w W0:=ka hW0
 have BP:Box W0 w.heap.size #[.slice Ac cs.length cc,.slice Ae es.length ce] 55:=kb hW0
 have p0:∀ w',Ext W0 w'→w'.cell? ⟨w.heap.size,0,none⟩=some (Value.slice Ac cs.length cc):=BP.at 0
 have p1:∀ w',Ext W0 w'→w'.cell? ⟨w.heap.size,1,none⟩=some (Value.slice Ae es.length ce):=BP.at 1
 have d0:=p0 _ (Ext.refl _);have d1:=p1 _ (Ext.refl _);rw [hW0.out] at d0 d1;have CI:=lhd (fun x lo hi w=>l1In_c x lo hi w);have CO:=lhd (fun (d o:Int) w' (e:Ext w w') (hd : -1000000000≤d∧d≤1000000000)=>sIsOp_c Ac cs cc Ae es ce d o w' (hC.ext e) (hE.ext e) hd);have CQ:=lhd (fun (d:Int) w' (e:Ext w w') (hd : -100000000≤d∧d≤100000000)=>sLoop_c Ac cs cc Ae es ce d w' (hC.ext e) (hE.ext e) hd);have HI:Hid (insAt cs (j:Int)=cs[j]):=insAt_nat hj
 obtain ⟨b,off,rfl,hb,hc⟩:=hC.at j hj;have c0:∀ w',Ext W0 w'→w'.cell? ⟨b,off+j*3,none⟩=some (.int .i64 cs[j].1):=fun w' e=>(hc w' (e0.trans e)).1
 have c1:∀ w',Ext W0 w'→w'.cell? ⟨b,off+j*3+1,none⟩=some (.int .i64 cs[j].2.1):=fun w' e=>(hc w' (e0.trans e)).2.1
 have c2:∀ w',Ext W0 w'→w'.cell? ⟨b,off+j*3+2,none⟩=some (.int .i64 cs[j].2.2):=fun w' e=>(hc w' (e0.trans e)).2.2
 generalize cs[j]=x at *;obtain ⟨o,a,q⟩:=x;dsimp only at *;subst hop;clear hc;have y0:=c0 W0 (Ext.refl _);have y1:=c1 W0 (Ext.refl _);have y2:=c2 W0 (Ext.refl _);rw [hW0.out] at y0 y1 y2;obtain ⟨W2,hW2⟩:=nmw (W0.alloc (.cells #[.int .i64 8,.int .i64 a,.int .i64 q] 79));have e2:Ext W0 W2:=ka hW2
 have BX:Box W2 W0.heap.size #[.int .i64 8,.int .i64 a,.int .i64 q] 79:=kb hW2
 have hsz:W0.heap.size=w.heap.size+1:=by rw [hW0.out];simp
 rw [hsz] at BX;have f0:∀ w',Ext W2 w'→w'.cell? ⟨w.heap.size+1,0,none⟩=some (.int .i64 8):=BX.at 0
 have f1:∀ w',Ext W2 w'→w'.cell? ⟨w.heap.size+1,1,none⟩=some (.int .i64 a):=BX.at 1
 have f2:∀ w',Ext W2 w'→w'.cell? ⟨w.heap.size+1,2,none⟩=some (.int .i64 q):=BX.at 2
 have E2:=e0.trans e2;have z0:=f0 W2 (Ext.refl _);have z1:=f1 W2 (Ext.refl _);have z2:=f2 W2 (Ext.refl _);rw [hW2.out,hW0.out] at z0 z1 z2;have g0:=p0 W2 e2;have g1:=p1 W2 e2;rw [hW2.out,hW0.out] at g0 g1;have p02:=fun w' (e:Ext W2 w')=>p0 w' (e2.trans e)
 have p12:=fun w' (e:Ext W2 w')=>p1 w' (e2.trans e)
 have hjs:j<1000000:=by omega
 clear hsz BX;have HR:Hid (innerOk cs es (j:Int) start fin=(loopOk cs ((j:Int)-2)&&decide (start≤(j:Int)-3))):=by show _=_;unfold innerOk;rw [HI.out];rfl
 go_enter Tryz.func197,Tryz.ntmps197;go_wp2_with fail;rw [← hW0.out,← hW2.out];refine (CQ.out ((j:Int)-2) _ E2 (by omega)).mono ?_;rintro _ w4 ⟨rfl,e4⟩;have ex0:Ext W2 w4:=e4
 cases Z0:loopOk cs ((j:Int)-2)
 ·go_wp2
  go_ret;have hv:innerOk cs es (j:Int) start fin=false:=by rw [HR.out,Z0];simp
  exact ⟨by rw [hv];rfl,E2.trans e4⟩
 by_cases T0:start≤(j:Int)-3
 ·have hv0:decide (start≤(j:Int)-3)=true:=by simp;omega
  have hv:innerOk cs es (j:Int) start fin=true:=by rw [HR.out,Z0,hv0];rfl
  go_wp2;go_ret;exact ⟨by rw [hv];rfl,E2.trans e4⟩
 ·have hv0:decide (start≤(j:Int)-3)=false:=by simp;omega
  go_wp2;go_ret;have hv:innerOk cs es (j:Int) start fin=false:=by rw [HR.out,Z0,hv0];simp
  exact ⟨by rw [hv];rfl,E2.trans e4⟩
theorem sInner_14 (Ac:Option Addr) (cs:List Ins) (cc:Nat) (Ae:Option Addr) (es:List Int) (ce:Nat) (j:Nat) (hj:j<cs.length) (start fin:Int) (w:World) (hC:RdI w Ac cs cc) (hE:Is w Ae es ce) (hel:es.length≤1000000) (hs : -100000000≤start∧start≤100000000) (hf : -100000000≤fin∧fin≤100000000) (hop:cs[j].1=14) :
 Gives Tryz.prog 197 #[.agg #[.slice Ac cs.length cc,.slice Ae es.length ce],.int .i64 (j:Int),.int .i64 start,.int .i64 fin] w (.bool (innerOk cs es (j:Int) start fin)):=by
 have hl:=hC.len;have hcp:=hC.cap;obtain ⟨W0,hW0⟩:=nmw (w.alloc (.cells #[.slice Ac cs.length cc,.slice Ae es.length ce] 55));have e0:Ext w W0:=ka hW0
 have BP:Box W0 w.heap.size #[.slice Ac cs.length cc,.slice Ae es.length ce] 55:=kb hW0
 have p0:∀ w',Ext W0 w'→w'.cell? ⟨w.heap.size,0,none⟩=some (Value.slice Ac cs.length cc):=BP.at 0
 have p1:∀ w',Ext W0 w'→w'.cell? ⟨w.heap.size,1,none⟩=some (Value.slice Ae es.length ce):=BP.at 1
 have d0:=p0 _ (Ext.refl _);have d1:=p1 _ (Ext.refl _);rw [hW0.out] at d0 d1;have CI:=lhd (fun x lo hi w=>l1In_c x lo hi w);have CO:=lhd (fun (d o:Int) w' (e:Ext w w') (hd : -1000000000≤d∧d≤1000000000)=>sIsOp_c Ac cs cc Ae es ce d o w' (hC.ext e) (hE.ext e) hd);have CQ:=lhd (fun (d:Int) w' (e:Ext w w') (hd : -100000000≤d∧d≤100000000)=>sLoop_c Ac cs cc Ae es ce d w' (hC.ext e) (hE.ext e) hd);have HI:Hid (insAt cs (j:Int)=cs[j]):=insAt_nat hj
 obtain ⟨b,off,rfl,hb,hc⟩:=hC.at j hj;have c0:∀ w',Ext W0 w'→w'.cell? ⟨b,off+j*3,none⟩=some (.int .i64 cs[j].1):=fun w' e=>(hc w' (e0.trans e)).1
 have c1:∀ w',Ext W0 w'→w'.cell? ⟨b,off+j*3+1,none⟩=some (.int .i64 cs[j].2.1):=fun w' e=>(hc w' (e0.trans e)).2.1
 have c2:∀ w',Ext W0 w'→w'.cell? ⟨b,off+j*3+2,none⟩=some (.int .i64 cs[j].2.2):=fun w' e=>(hc w' (e0.trans e)).2.2
 generalize cs[j]=x at *;obtain ⟨o,a,q⟩:=x;dsimp only at *;subst hop;clear hc;have y0:=c0 W0 (Ext.refl _);have y1:=c1 W0 (Ext.refl _);have y2:=c2 W0 (Ext.refl _);rw [hW0.out] at y0 y1 y2;obtain ⟨W2,hW2⟩:=nmw (W0.alloc (.cells #[.int .i64 14,.int .i64 a,.int .i64 q] 79));have e2:Ext W0 W2:=ka hW2
 have BX:Box W2 W0.heap.size #[.int .i64 14,.int .i64 a,.int .i64 q] 79:=kb hW2
 have hsz:W0.heap.size=w.heap.size+1:=by rw [hW0.out];simp
 rw [hsz] at BX;have f0:∀ w',Ext W2 w'→w'.cell? ⟨w.heap.size+1,0,none⟩=some (.int .i64 14):=BX.at 0
 have f1:∀ w',Ext W2 w'→w'.cell? ⟨w.heap.size+1,1,none⟩=some (.int .i64 a):=BX.at 1
 have f2:∀ w',Ext W2 w'→w'.cell? ⟨w.heap.size+1,2,none⟩=some (.int .i64 q):=BX.at 2
 have E2:=e0.trans e2;have z0:=f0 W2 (Ext.refl _);have z1:=f1 W2 (Ext.refl _);have z2:=f2 W2 (Ext.refl _);rw [hW2.out,hW0.out] at z0 z1 z2;have g0:=p0 W2 e2;have g1:=p1 W2 e2;rw [hW2.out,hW0.out] at g0 g1;have p02:=fun w' (e:Ext W2 w')=>p0 w' (e2.trans e)
 have p12:=fun w' (e:Ext W2 w')=>p1 w' (e2.trans e)
 have hjs:j<1000000:=by omega
 clear hsz BX;have HR:Hid (innerOk cs es (j:Int) start fin=(isOp cs ((j:Int)+1) 9&&isOp cs ((j:Int)+2) 15&&decide ((j:Int)+2<fin))):=by show _=_;unfold innerOk;rw [HI.out];rfl
 go_enter Tryz.func197,Tryz.ntmps197;go_wp2_with fail;rw [← hW0.out,← hW2.out];refine (CO.out ((j:Int)+1) 9 _ E2 (by omega)).mono ?_;rintro _ w4 ⟨rfl,e4⟩;have ex0:Ext W2 w4:=e4
 cases Z0:isOp cs ((j:Int)+1) 9
 ·go_wp2
  go_ret;have hv:innerOk cs es (j:Int) start fin=false:=by rw [HR.out,Z0];simp
  exact ⟨by rw [hv];rfl,E2.trans e4⟩
 go_wp2_with fail;refine (CO.out ((j:Int)+2) 15 _ (E2.trans e4) (by omega)).mono ?_;rintro _ w5 ⟨rfl,e5⟩;have ex1:Ext W2 w5:=(e4.trans e5)
 cases Z1:isOp cs ((j:Int)+2) 15
 ·go_wp2
  go_ret;have hv:innerOk cs es (j:Int) start fin=false:=by rw [HR.out,Z0,Z1];simp
  exact ⟨by rw [hv];rfl,E2.trans (e4.trans e5)⟩
 by_cases T0:(j:Int)+2<fin
 ·have hv0:decide ((j:Int)+2<fin)=true:=by simp;omega
  have hv:innerOk cs es (j:Int) start fin=true:=by rw [HR.out,Z0,Z1,hv0];rfl
  go_wp2;go_ret;exact ⟨by rw [hv];rfl,E2.trans (e4.trans e5)⟩
 ·have hv0:decide ((j:Int)+2<fin)=false:=by simp;omega
  go_wp2;go_ret;have hv:innerOk cs es (j:Int) start fin=false:=by rw [HR.out,Z0,Z1,hv0];simp
  exact ⟨by rw [hv];rfl,E2.trans (e4.trans e5)⟩
theorem sInner_15 (Ac:Option Addr) (cs:List Ins) (cc:Nat) (Ae:Option Addr) (es:List Int) (ce:Nat) (j:Nat) (hj:j<cs.length) (start fin:Int) (w:World) (hC:RdI w Ac cs cc) (hE:Is w Ae es ce) (hel:es.length≤1000000) (hs : -100000000≤start∧start≤100000000) (hf : -100000000≤fin∧fin≤100000000) (hop:cs[j].1=15) :
 Gives Tryz.prog 197 #[.agg #[.slice Ac cs.length cc,.slice Ae es.length ce],.int .i64 (j:Int),.int .i64 start,.int .i64 fin] w (.bool (innerOk cs es (j:Int) start fin)):=by
 have hl:=hC.len;have hcp:=hC.cap;obtain ⟨W0,hW0⟩:=nmw (w.alloc (.cells #[.slice Ac cs.length cc,.slice Ae es.length ce] 55));have e0:Ext w W0:=ka hW0
 have BP:Box W0 w.heap.size #[.slice Ac cs.length cc,.slice Ae es.length ce] 55:=kb hW0
 have p0:∀ w',Ext W0 w'→w'.cell? ⟨w.heap.size,0,none⟩=some (Value.slice Ac cs.length cc):=BP.at 0
 have p1:∀ w',Ext W0 w'→w'.cell? ⟨w.heap.size,1,none⟩=some (Value.slice Ae es.length ce):=BP.at 1
 have d0:=p0 _ (Ext.refl _);have d1:=p1 _ (Ext.refl _);rw [hW0.out] at d0 d1;have CI:=lhd (fun x lo hi w=>l1In_c x lo hi w);have CO:=lhd (fun (d o:Int) w' (e:Ext w w') (hd : -1000000000≤d∧d≤1000000000)=>sIsOp_c Ac cs cc Ae es ce d o w' (hC.ext e) (hE.ext e) hd);have CQ:=lhd (fun (d:Int) w' (e:Ext w w') (hd : -100000000≤d∧d≤100000000)=>sLoop_c Ac cs cc Ae es ce d w' (hC.ext e) (hE.ext e) hd);have HI:Hid (insAt cs (j:Int)=cs[j]):=insAt_nat hj
 obtain ⟨b,off,rfl,hb,hc⟩:=hC.at j hj;have c0:∀ w',Ext W0 w'→w'.cell? ⟨b,off+j*3,none⟩=some (.int .i64 cs[j].1):=fun w' e=>(hc w' (e0.trans e)).1
 have c1:∀ w',Ext W0 w'→w'.cell? ⟨b,off+j*3+1,none⟩=some (.int .i64 cs[j].2.1):=fun w' e=>(hc w' (e0.trans e)).2.1
 have c2:∀ w',Ext W0 w'→w'.cell? ⟨b,off+j*3+2,none⟩=some (.int .i64 cs[j].2.2):=fun w' e=>(hc w' (e0.trans e)).2.2
 generalize cs[j]=x at *;obtain ⟨o,a,q⟩:=x;dsimp only at *;subst hop;clear hc;have y0:=c0 W0 (Ext.refl _);have y1:=c1 W0 (Ext.refl _);have y2:=c2 W0 (Ext.refl _);rw [hW0.out] at y0 y1 y2;obtain ⟨W2,hW2⟩:=nmw (W0.alloc (.cells #[.int .i64 15,.int .i64 a,.int .i64 q] 79));have e2:Ext W0 W2:=ka hW2
 have BX:Box W2 W0.heap.size #[.int .i64 15,.int .i64 a,.int .i64 q] 79:=kb hW2
 have hsz:W0.heap.size=w.heap.size+1:=by rw [hW0.out];simp
 rw [hsz] at BX;have f0:∀ w',Ext W2 w'→w'.cell? ⟨w.heap.size+1,0,none⟩=some (.int .i64 15):=BX.at 0
 have f1:∀ w',Ext W2 w'→w'.cell? ⟨w.heap.size+1,1,none⟩=some (.int .i64 a):=BX.at 1
 have f2:∀ w',Ext W2 w'→w'.cell? ⟨w.heap.size+1,2,none⟩=some (.int .i64 q):=BX.at 2
 have E2:=e0.trans e2;have z0:=f0 W2 (Ext.refl _);have z1:=f1 W2 (Ext.refl _);have z2:=f2 W2 (Ext.refl _);rw [hW2.out,hW0.out] at z0 z1 z2;have g0:=p0 W2 e2;have g1:=p1 W2 e2;rw [hW2.out,hW0.out] at g0 g1;have p02:=fun w' (e:Ext W2 w')=>p0 w' (e2.trans e)
 have p12:=fun w' (e:Ext W2 w')=>p1 w' (e2.trans e)
 have hjs:j<1000000:=by omega
 clear hsz BX;have HR:Hid (innerOk cs es (j:Int) start fin=(isOp cs ((j:Int)-1) 9&&isOp cs ((j:Int)-2) 14&&decide (start≤(j:Int)-2))):=by show _=_;unfold innerOk;rw [HI.out];rfl
 go_enter Tryz.func197,Tryz.ntmps197;go_wp2_with fail;rw [← hW0.out,← hW2.out];refine (CO.out ((j:Int)-1) 9 _ E2 (by omega)).mono ?_;rintro _ w4 ⟨rfl,e4⟩;have ex0:Ext W2 w4:=e4
 cases Z0:isOp cs ((j:Int)-1) 9
 ·go_wp2
  go_ret;have hv:innerOk cs es (j:Int) start fin=false:=by rw [HR.out,Z0];simp
  exact ⟨by rw [hv];rfl,E2.trans e4⟩
 go_wp2_with fail;refine (CO.out ((j:Int)-2) 14 _ (E2.trans e4) (by omega)).mono ?_;rintro _ w5 ⟨rfl,e5⟩;have ex1:Ext W2 w5:=(e4.trans e5)
 cases Z1:isOp cs ((j:Int)-2) 14
 ·go_wp2
  go_ret;have hv:innerOk cs es (j:Int) start fin=false:=by rw [HR.out,Z0,Z1];simp
  exact ⟨by rw [hv];rfl,E2.trans (e4.trans e5)⟩
 by_cases T0:start≤(j:Int)-2
 ·have hv0:decide (start≤(j:Int)-2)=true:=by simp;omega
  have hv:innerOk cs es (j:Int) start fin=true:=by rw [HR.out,Z0,Z1,hv0];rfl
  go_wp2;go_ret;exact ⟨by rw [hv];rfl,E2.trans (e4.trans e5)⟩
 ·have hv0:decide (start≤(j:Int)-2)=false:=by simp;omega
  go_wp2;go_ret;have hv:innerOk cs es (j:Int) start fin=false:=by rw [HR.out,Z0,Z1,hv0];simp
  exact ⟨by rw [hv];rfl,E2.trans (e4.trans e5)⟩
theorem sInner_13 (Ac:Option Addr) (cs:List Ins) (cc:Nat) (Ae:Option Addr) (es:List Int) (ce:Nat) (j:Nat) (hj:j<cs.length) (start fin:Int) (w:World) (hC:RdI w Ac cs cc) (hE:Is w Ae es ce) (hel:es.length≤1000000) (hs : -100000000≤start∧start≤100000000) (hf : -100000000≤fin∧fin≤100000000) (hop:cs[j].1=13) :
 Gives Tryz.prog 197 #[.agg #[.slice Ac cs.length cc,.slice Ae es.length ce],.int .i64 (j:Int),.int .i64 start,.int .i64 fin] w (.bool (innerOk cs es (j:Int) start fin)):=by
 have hl:=hC.len;have hcp:=hC.cap;obtain ⟨W0,hW0⟩:=nmw (w.alloc (.cells #[.slice Ac cs.length cc,.slice Ae es.length ce] 55));have e0:Ext w W0:=ka hW0
 have BP:Box W0 w.heap.size #[.slice Ac cs.length cc,.slice Ae es.length ce] 55:=kb hW0
 have p0:∀ w',Ext W0 w'→w'.cell? ⟨w.heap.size,0,none⟩=some (Value.slice Ac cs.length cc):=BP.at 0
 have p1:∀ w',Ext W0 w'→w'.cell? ⟨w.heap.size,1,none⟩=some (Value.slice Ae es.length ce):=BP.at 1
 have d0:=p0 _ (Ext.refl _);have d1:=p1 _ (Ext.refl _);rw [hW0.out] at d0 d1;have CI:=lhd (fun x lo hi w=>l1In_c x lo hi w);have CO:=lhd (fun (d o:Int) w' (e:Ext w w') (hd : -1000000000≤d∧d≤1000000000)=>sIsOp_c Ac cs cc Ae es ce d o w' (hC.ext e) (hE.ext e) hd);have CQ:=lhd (fun (d:Int) w' (e:Ext w w') (hd : -100000000≤d∧d≤100000000)=>sLoop_c Ac cs cc Ae es ce d w' (hC.ext e) (hE.ext e) hd);have HI:Hid (insAt cs (j:Int)=cs[j]):=insAt_nat hj
 obtain ⟨b,off,rfl,hb,hc⟩:=hC.at j hj;have c0:∀ w',Ext W0 w'→w'.cell? ⟨b,off+j*3,none⟩=some (.int .i64 cs[j].1):=fun w' e=>(hc w' (e0.trans e)).1
 have c1:∀ w',Ext W0 w'→w'.cell? ⟨b,off+j*3+1,none⟩=some (.int .i64 cs[j].2.1):=fun w' e=>(hc w' (e0.trans e)).2.1
 have c2:∀ w',Ext W0 w'→w'.cell? ⟨b,off+j*3+2,none⟩=some (.int .i64 cs[j].2.2):=fun w' e=>(hc w' (e0.trans e)).2.2
 generalize cs[j]=x at *;obtain ⟨o,a,q⟩:=x;dsimp only at *;subst hop;clear hc;have y0:=c0 W0 (Ext.refl _);have y1:=c1 W0 (Ext.refl _);have y2:=c2 W0 (Ext.refl _);rw [hW0.out] at y0 y1 y2;obtain ⟨W2,hW2⟩:=nmw (W0.alloc (.cells #[.int .i64 13,.int .i64 a,.int .i64 q] 79));have e2:Ext W0 W2:=ka hW2
 have BX:Box W2 W0.heap.size #[.int .i64 13,.int .i64 a,.int .i64 q] 79:=kb hW2
 have hsz:W0.heap.size=w.heap.size+1:=by rw [hW0.out];simp
 rw [hsz] at BX;have f0:∀ w',Ext W2 w'→w'.cell? ⟨w.heap.size+1,0,none⟩=some (.int .i64 13):=BX.at 0
 have f1:∀ w',Ext W2 w'→w'.cell? ⟨w.heap.size+1,1,none⟩=some (.int .i64 a):=BX.at 1
 have f2:∀ w',Ext W2 w'→w'.cell? ⟨w.heap.size+1,2,none⟩=some (.int .i64 q):=BX.at 2
 have E2:=e0.trans e2;have z0:=f0 W2 (Ext.refl _);have z1:=f1 W2 (Ext.refl _);have z2:=f2 W2 (Ext.refl _);rw [hW2.out,hW0.out] at z0 z1 z2;have g0:=p0 W2 e2;have g1:=p1 W2 e2;rw [hW2.out,hW0.out] at g0 g1;have p02:=fun w' (e:Ext W2 w')=>p0 w' (e2.trans e)
 have p12:=fun w' (e:Ext W2 w')=>p1 w' (e2.trans e)
 have hjs:j<1000000:=by omega
 clear hsz BX;have HR:Hid (innerOk cs es (j:Int) start fin=(inB a ((j:Int)+1) (fin-1))):=by show _=_;unfold innerOk;rw [HI.out];rfl
 go_enter Tryz.func197,Tryz.ntmps197;go_wp2_with fail;rw [← hW0.out,← hW2.out];refine (CI.out a ((j:Int)+1) (fin-1) _).mono ?_;rintro _ w4 ⟨rfl,e4⟩;go_wp2;go_ret;exact ⟨by rw [HR.out];rfl,E2.trans e4⟩
theorem sInner_11 (Ac:Option Addr) (cs:List Ins) (cc:Nat) (Ae:Option Addr) (es:List Int) (ce:Nat) (j:Nat) (hj:j<cs.length) (start fin:Int) (w:World) (hC:RdI w Ac cs cc) (hE:Is w Ae es ce) (hel:es.length≤1000000) (hs : -100000000≤start∧start≤100000000) (hf : -100000000≤fin∧fin≤100000000) (hop:cs[j].1=11) :
 Gives Tryz.prog 197 #[.agg #[.slice Ac cs.length cc,.slice Ae es.length ce],.int .i64 (j:Int),.int .i64 start,.int .i64 fin] w (.bool (innerOk cs es (j:Int) start fin)):=by
 have hl:=hC.len;have hcp:=hC.cap;obtain ⟨W0,hW0⟩:=nmw (w.alloc (.cells #[.slice Ac cs.length cc,.slice Ae es.length ce] 55));have e0:Ext w W0:=ka hW0
 have BP:Box W0 w.heap.size #[.slice Ac cs.length cc,.slice Ae es.length ce] 55:=kb hW0
 have p0:∀ w',Ext W0 w'→w'.cell? ⟨w.heap.size,0,none⟩=some (Value.slice Ac cs.length cc):=BP.at 0
 have p1:∀ w',Ext W0 w'→w'.cell? ⟨w.heap.size,1,none⟩=some (Value.slice Ae es.length ce):=BP.at 1
 have d0:=p0 _ (Ext.refl _);have d1:=p1 _ (Ext.refl _);rw [hW0.out] at d0 d1;have CI:=lhd (fun x lo hi w=>l1In_c x lo hi w);have CO:=lhd (fun (d o:Int) w' (e:Ext w w') (hd : -1000000000≤d∧d≤1000000000)=>sIsOp_c Ac cs cc Ae es ce d o w' (hC.ext e) (hE.ext e) hd);have CQ:=lhd (fun (d:Int) w' (e:Ext w w') (hd : -100000000≤d∧d≤100000000)=>sLoop_c Ac cs cc Ae es ce d w' (hC.ext e) (hE.ext e) hd);have HI:Hid (insAt cs (j:Int)=cs[j]):=insAt_nat hj
 obtain ⟨b,off,rfl,hb,hc⟩:=hC.at j hj;have c0:∀ w',Ext W0 w'→w'.cell? ⟨b,off+j*3,none⟩=some (.int .i64 cs[j].1):=fun w' e=>(hc w' (e0.trans e)).1
 have c1:∀ w',Ext W0 w'→w'.cell? ⟨b,off+j*3+1,none⟩=some (.int .i64 cs[j].2.1):=fun w' e=>(hc w' (e0.trans e)).2.1
 have c2:∀ w',Ext W0 w'→w'.cell? ⟨b,off+j*3+2,none⟩=some (.int .i64 cs[j].2.2):=fun w' e=>(hc w' (e0.trans e)).2.2
 generalize cs[j]=x at *;obtain ⟨o,a,q⟩:=x;dsimp only at *;subst hop;clear hc;have y0:=c0 W0 (Ext.refl _);have y1:=c1 W0 (Ext.refl _);have y2:=c2 W0 (Ext.refl _);rw [hW0.out] at y0 y1 y2;obtain ⟨W2,hW2⟩:=nmw (W0.alloc (.cells #[.int .i64 11,.int .i64 a,.int .i64 q] 79));have e2:Ext W0 W2:=ka hW2
 have BX:Box W2 W0.heap.size #[.int .i64 11,.int .i64 a,.int .i64 q] 79:=kb hW2
 have hsz:W0.heap.size=w.heap.size+1:=by rw [hW0.out];simp
 rw [hsz] at BX;have f0:∀ w',Ext W2 w'→w'.cell? ⟨w.heap.size+1,0,none⟩=some (.int .i64 11):=BX.at 0
 have f1:∀ w',Ext W2 w'→w'.cell? ⟨w.heap.size+1,1,none⟩=some (.int .i64 a):=BX.at 1
 have f2:∀ w',Ext W2 w'→w'.cell? ⟨w.heap.size+1,2,none⟩=some (.int .i64 q):=BX.at 2
 have E2:=e0.trans e2;have z0:=f0 W2 (Ext.refl _);have z1:=f1 W2 (Ext.refl _);have z2:=f2 W2 (Ext.refl _);rw [hW2.out,hW0.out] at z0 z1 z2;have g0:=p0 W2 e2;have g1:=p1 W2 e2;rw [hW2.out,hW0.out] at g0 g1;have p02:=fun w' (e:Ext W2 w')=>p0 w' (e2.trans e)
 have p12:=fun w' (e:Ext W2 w')=>p1 w' (e2.trans e)
 have hjs:j<1000000:=by omega
 clear hsz BX;have HR:Hid (innerOk cs es (j:Int) start fin=(inB q ((j:Int)+1) (fin-1))):=by show _=_;unfold innerOk;rw [HI.out];rfl
 go_enter Tryz.func197,Tryz.ntmps197;go_wp2_with fail;rw [← hW0.out,← hW2.out];refine (CI.out q ((j:Int)+1) (fin-1) _).mono ?_;rintro _ w4 ⟨rfl,e4⟩;go_wp2;go_ret;exact ⟨by rw [HR.out];rfl,E2.trans e4⟩
theorem sInner_else (Ac:Option Addr) (cs:List Ins) (cc:Nat) (Ae:Option Addr) (es:List Int) (ce:Nat) (j:Nat) (hj:j<cs.length) (start fin:Int) (w:World) (hC:RdI w Ac cs cc) (hE:Is w Ae es ce) (hel:es.length≤1000000) (hs : -100000000≤start∧start≤100000000) (hf : -100000000≤fin∧fin≤100000000) (hop:cs[j].1≠17∧cs[j].1≠9∧cs[j].1≠6∧cs[j].1≠7∧cs[j].1≠8∧cs[j].1≠13∧cs[j].1≠11∧cs[j].1≠14∧cs[j].1≠15) :
 Gives Tryz.prog 197 #[.agg #[.slice Ac cs.length cc,.slice Ae es.length ce],.int .i64 (j:Int),.int .i64 start,.int .i64 fin] w (.bool (innerOk cs es (j:Int) start fin)):=by
 have hl:=hC.len;have hcp:=hC.cap;obtain ⟨W0,hW0⟩:=nmw (w.alloc (.cells #[.slice Ac cs.length cc,.slice Ae es.length ce] 55));have e0:Ext w W0:=ka hW0
 have BP:Box W0 w.heap.size #[.slice Ac cs.length cc,.slice Ae es.length ce] 55:=kb hW0
 have p0:∀ w',Ext W0 w'→w'.cell? ⟨w.heap.size,0,none⟩=some (Value.slice Ac cs.length cc):=BP.at 0
 have p1:∀ w',Ext W0 w'→w'.cell? ⟨w.heap.size,1,none⟩=some (Value.slice Ae es.length ce):=BP.at 1
 have d0:=p0 _ (Ext.refl _);have d1:=p1 _ (Ext.refl _);rw [hW0.out] at d0 d1;have CI:=lhd (fun x lo hi w=>l1In_c x lo hi w);have CO:=lhd (fun (d o:Int) w' (e:Ext w w') (hd : -1000000000≤d∧d≤1000000000)=>sIsOp_c Ac cs cc Ae es ce d o w' (hC.ext e) (hE.ext e) hd);have CQ:=lhd (fun (d:Int) w' (e:Ext w w') (hd : -100000000≤d∧d≤100000000)=>sLoop_c Ac cs cc Ae es ce d w' (hC.ext e) (hE.ext e) hd);have HI:Hid (insAt cs (j:Int)=cs[j]):=insAt_nat hj
 obtain ⟨b,off,rfl,hb,hc⟩:=hC.at j hj;have c0:∀ w',Ext W0 w'→w'.cell? ⟨b,off+j*3,none⟩=some (.int .i64 cs[j].1):=fun w' e=>(hc w' (e0.trans e)).1
 have c1:∀ w',Ext W0 w'→w'.cell? ⟨b,off+j*3+1,none⟩=some (.int .i64 cs[j].2.1):=fun w' e=>(hc w' (e0.trans e)).2.1
 have c2:∀ w',Ext W0 w'→w'.cell? ⟨b,off+j*3+2,none⟩=some (.int .i64 cs[j].2.2):=fun w' e=>(hc w' (e0.trans e)).2.2
 generalize cs[j]=x at *;obtain ⟨o,a,q⟩:=x;dsimp only at *;have n17:(o==17)=false:=by simp [hop]
 have n9:(o==9)=false:=by simp [hop]
 have n6:(o==6)=false:=by simp [hop]
 have n7:(o==7)=false:=by simp [hop]
 have n8:(o==8)=false:=by simp [hop]
 have n13:(o==13)=false:=by simp [hop]
 have n11:(o==11)=false:=by simp [hop]
 have n14:(o==14)=false:=by simp [hop]
 have n15:(o==15)=false:=by simp [hop]
 clear hc;have y0:=c0 W0 (Ext.refl _);have y1:=c1 W0 (Ext.refl _);have y2:=c2 W0 (Ext.refl _);rw [hW0.out] at y0 y1 y2;obtain ⟨W2,hW2⟩:=nmw (W0.alloc (.cells #[.int .i64 o,.int .i64 a,.int .i64 q] 79));have e2:Ext W0 W2:=ka hW2
 have BX:Box W2 W0.heap.size #[.int .i64 o,.int .i64 a,.int .i64 q] 79:=kb hW2
 have hsz:W0.heap.size=w.heap.size+1:=by rw [hW0.out];simp
 rw [hsz] at BX;have f0:∀ w',Ext W2 w'→w'.cell? ⟨w.heap.size+1,0,none⟩=some (.int .i64 o):=BX.at 0
 have f1:∀ w',Ext W2 w'→w'.cell? ⟨w.heap.size+1,1,none⟩=some (.int .i64 a):=BX.at 1
 have f2:∀ w',Ext W2 w'→w'.cell? ⟨w.heap.size+1,2,none⟩=some (.int .i64 q):=BX.at 2
 have E2:=e0.trans e2;have z0:=f0 W2 (Ext.refl _);have z1:=f1 W2 (Ext.refl _);have z2:=f2 W2 (Ext.refl _);rw [hW2.out,hW0.out] at z0 z1 z2;have g0:=p0 W2 e2;have g1:=p1 W2 e2;rw [hW2.out,hW0.out] at g0 g1;have p02:=fun w' (e:Ext W2 w')=>p0 w' (e2.trans e)
 have p12:=fun w' (e:Ext W2 w')=>p1 w' (e2.trans e)
 have hjs:j<1000000:=by omega
 clear hsz BX
 have HR:Hid (innerOk cs es (j:Int) start fin=true):=by
  show _=_;unfold innerOk;rw [HI.out]
  obtain ⟨h1,h2,h3,h4,h5,h6,h7,h8,h9⟩:=hop;rw [if_neg h1,if_neg h2,if_neg h3,if_neg h4,if_neg h5,if_neg h6,if_neg h7,if_neg h8,if_neg h9]
 clear hop;go_enter Tryz.func197,Tryz.ntmps197;go_wp2;go_ret;exact ⟨by rw [HR.out];rfl,by have:=E2;rw [hW2.out,hW0.out] at this;exact this⟩
theorem callOk_drop {es:List Int} {a start:Int} {k:Nat} (hk:k<es.length):callOk es a start (es.drop k)=if es[k]<start then (if es[k]=a then true else callOk es a start (es.drop (k+1))) else false:=by
 rw [List.drop_eq_getElem_cons hk,callOk]
theorem sInner_9 (Ac:Option Addr) (cs:List Ins) (cc:Nat) (Ae:Option Addr) (es:List Int) (ce:Nat) (j:Nat) (hj:j<cs.length) (start fin:Int) (w:World) (hC:RdI w Ac cs cc) (hE:Is w Ae es ce) (hel:es.length≤1000000) (hs : -100000000≤start∧start≤100000000) (hf : -100000000≤fin∧fin≤100000000) (hop:cs[j].1=9) :
 Gives Tryz.prog 197 #[.agg #[.slice Ac cs.length cc,.slice Ae es.length ce],.int .i64 (j:Int),.int .i64 start,.int .i64 fin] w (.bool (innerOk cs es (j:Int) start fin)):=by
 have hl:=hC.len;have hcp:=hC.cap;obtain ⟨W0,hW0⟩:=nmw (w.alloc (.cells #[.slice Ac cs.length cc,.slice Ae es.length ce] 55));have e0:Ext w W0:=ka hW0
 have BP:Box W0 w.heap.size #[.slice Ac cs.length cc,.slice Ae es.length ce] 55:=kb hW0
 have p0:∀ w',Ext W0 w'→w'.cell? ⟨w.heap.size,0,none⟩=some (Value.slice Ac cs.length cc):=BP.at 0
 have p1:∀ w',Ext W0 w'→w'.cell? ⟨w.heap.size,1,none⟩=some (Value.slice Ae es.length ce):=BP.at 1
 have d0:=p0 _ (Ext.refl _);have d1:=p1 _ (Ext.refl _);rw [hW0.out] at d0 d1;have CI:=lhd (fun x lo hi w=>l1In_c x lo hi w);have CO:=lhd (fun (d o:Int) w' (e:Ext w w') (hd : -1000000000≤d∧d≤1000000000)=>sIsOp_c Ac cs cc Ae es ce d o w' (hC.ext e) (hE.ext e) hd);have CQ:=lhd (fun (d:Int) w' (e:Ext w w') (hd : -100000000≤d∧d≤100000000)=>sLoop_c Ac cs cc Ae es ce d w' (hC.ext e) (hE.ext e) hd);have HI:Hid (insAt cs (j:Int)=cs[j]):=insAt_nat hj
 obtain ⟨b,off,rfl,hb,hc⟩:=hC.at j hj;have c0:∀ w',Ext W0 w'→w'.cell? ⟨b,off+j*3,none⟩=some (.int .i64 cs[j].1):=fun w' e=>(hc w' (e0.trans e)).1
 have c1:∀ w',Ext W0 w'→w'.cell? ⟨b,off+j*3+1,none⟩=some (.int .i64 cs[j].2.1):=fun w' e=>(hc w' (e0.trans e)).2.1
 have c2:∀ w',Ext W0 w'→w'.cell? ⟨b,off+j*3+2,none⟩=some (.int .i64 cs[j].2.2):=fun w' e=>(hc w' (e0.trans e)).2.2
 generalize cs[j]=x at *;obtain ⟨o,a,q⟩:=x;dsimp only at *;subst hop;clear hc;have y0:=c0 W0 (Ext.refl _);have y1:=c1 W0 (Ext.refl _);have y2:=c2 W0 (Ext.refl _);rw [hW0.out] at y0 y1 y2;obtain ⟨W2,hW2⟩:=nmw (W0.alloc (.cells #[.int .i64 9,.int .i64 a,.int .i64 q] 79));have e2:Ext W0 W2:=ka hW2
 have BX:Box W2 W0.heap.size #[.int .i64 9,.int .i64 a,.int .i64 q] 79:=kb hW2
 have hsz:W0.heap.size=w.heap.size+1:=by rw [hW0.out];simp
 rw [hsz] at BX;have f0:∀ w',Ext W2 w'→w'.cell? ⟨w.heap.size+1,0,none⟩=some (.int .i64 9):=BX.at 0
 have f1:∀ w',Ext W2 w'→w'.cell? ⟨w.heap.size+1,1,none⟩=some (.int .i64 a):=BX.at 1
 have f2:∀ w',Ext W2 w'→w'.cell? ⟨w.heap.size+1,2,none⟩=some (.int .i64 q):=BX.at 2
 have E2:=e0.trans e2;have z0:=f0 W2 (Ext.refl _);have z1:=f1 W2 (Ext.refl _);have z2:=f2 W2 (Ext.refl _);rw [hW2.out,hW0.out] at z0 z1 z2;have g0:=p0 W2 e2;have g1:=p1 W2 e2;rw [hW2.out,hW0.out] at g0 g1;have p02:=fun w' (e:Ext W2 w')=>p0 w' (e2.trans e)
 have p12:=fun w' (e:Ext W2 w')=>p1 w' (e2.trans e)
 have hjs:j<1000000:=by omega
 clear hsz BX;have HR:Hid (innerOk cs es (j:Int) start fin=(callOk es a start es)):=by show _=_;unfold innerOk;rw [HI.out];rfl
 have HR0:Hid (callOk es a start (es.drop 0)=innerOk cs es (j:Int) start fin):=by show _=_;rw [HR.out,List.drop_zero]
 go_enter Tryz.func197,Tryz.ntmps197;go_wp2_with fail;rw [← hW0.out,← hW2.out];go_loopw [10] (fun q' wr=>∃ k:Nat,k≤es.length∧q'=.int .i64 (k:Int)∧Hid (callOk es a start (es.drop k)=innerOk cs es (j:Int) start fin)∧Ext W2 wr) (fun q' _=>es.length-(intOf q').toNat)
 case atStart=>exact ⟨0,by omega,rfl,HR0.out,Ext.refl _⟩
 case round =>
  clear HR HR0 d0 d1 y0 y1 y2 z0 z1 z2 g0 g1 c0 c1 c2 p0 p1 CI CO CQ;obtain ⟨k,hk,rfl,hv,he⟩:=hrel
  by_cases hlt:k<es.length
  ·obtain ⟨be,oe,rfl,hbe,hce⟩:=hE.at k hlt
   have hc':=fun w' (e:Ext W2 w')=>hce w' (E2.trans e)
   have HS:=lhd (callOk_drop (a:=a) (start:=start) hlt);generalize es[k]=y at *;clear hce
   by_cases hy:y<start
   ·have HS1:Hid (callOk es a start (es.drop k)=if y=a then true else callOk es a start (es.drop (k+1))):=by show _=_;rw [HS.out,if_pos hy]
    clear HS;have q0:=fun w' (e:Ext wr w')=>p12 w' (he.trans e)
    have q1:=fun w' (e:Ext wr w')=>f1 w' (he.trans e)
    have q2:=fun w' (e:Ext wr w')=>hc' w' (he.trans e)
    by_cases hya:y=a
    ·have HF:Hid (innerOk cs es (j:Int) start fin=true):=by show _=_;rw [← hv.out,HS1.out,if_pos hya]
     clear hv HS1;go_wp2_with fail;refine wp_region_quiet_below (by kernel_rfl) (by kernel_rfl) ?_;repeat (go_big_quiet_step ((fail)))
     refine wpQuiet_nil (qnl ?_);intro w5 ew5;go_wp2;go_ret;exact ⟨by rw [HF.out];rfl,E2.trans (he.trans ew5)⟩
    ·have HN:Hid (callOk es a start (es.drop (k+1))=innerOk cs es (j:Int) start fin):=by show _=_;rw [← hv.out,HS1.out,if_neg hya]
     clear hv HS1;go_wp2_with fail;refine wp_region_quiet_below (by kernel_rfl) (by kernel_rfl) ?_;repeat (go_big_quiet_step ((fail)))
     refine wpQuiet_nil (qnl ?_);intro w5 ew5;go_wp2;go_roundw
     case rel=>exact ⟨k+1,by omega,by go_num,HN.out,he.trans ew5⟩
     case measure=>simp [intOf];omega
   ·have HF:Hid (innerOk cs es (j:Int) start fin=false):=by show _=_;rw [← hv.out,HS.out,if_neg hy]
    clear hv HS;go_wp2;go_ret;exact ⟨by rw [HF.out];rfl,E2.trans he⟩
  ·have HF:Hid (innerOk cs es (j:Int) start fin=false):=by show _=_;rw [← hv.out,List.drop_eq_nil_of_le (by omega)];rfl
   clear hv;go_wp2;go_ret;exact ⟨by rw [HF.out];rfl,E2.trans he⟩
theorem sInner_c (Ac:Option Addr) (cs:List Ins) (cc:Nat) (Ae:Option Addr) (es:List Int) (ce:Nat) (j:Nat) (hj:j<cs.length) (start fin:Int) (w:World) (hC:RdI w Ac cs cc) (hE:Is w Ae es ce) (hel:es.length≤1000000) (hs : -100000000≤start∧start≤100000000) (hf : -100000000≤fin∧fin≤100000000) :
 Gives Tryz.prog 197 #[.agg #[.slice Ac cs.length cc,.slice Ae es.length ce],.int .i64 (j:Int),.int .i64 start,.int .i64 fin] w (.bool (innerOk cs es (j:Int) start fin)):=by
 by_cases h17:cs[j].1=17
 ·exact sInner_17 Ac cs cc Ae es ce j hj start fin w hC hE hel hs hf h17
 by_cases h9:cs[j].1=9
 ·exact sInner_9 Ac cs cc Ae es ce j hj start fin w hC hE hel hs hf h9
 by_cases h6:cs[j].1=6
 ·exact sInner_6 Ac cs cc Ae es ce j hj start fin w hC hE hel hs hf h6
 by_cases h7:cs[j].1=7
 ·exact sInner_7 Ac cs cc Ae es ce j hj start fin w hC hE hel hs hf h7
 by_cases h8:cs[j].1=8
 ·exact sInner_8 Ac cs cc Ae es ce j hj start fin w hC hE hel hs hf h8
 by_cases h13:cs[j].1=13
 ·exact sInner_13 Ac cs cc Ae es ce j hj start fin w hC hE hel hs hf h13
 by_cases h11:cs[j].1=11
 ·exact sInner_11 Ac cs cc Ae es ce j hj start fin w hC hE hel hs hf h11
 by_cases h14:cs[j].1=14
 ·exact sInner_14 Ac cs cc Ae es ce j hj start fin w hC hE hel hs hf h14
 by_cases h15:cs[j].1=15
 ·exact sInner_15 Ac cs cc Ae es ce j hj start fin w hC hE hel hs hf h15
 exact sInner_else Ac cs cc Ae es ce j hj start fin w hC hE hel hs hf ⟨h17,h9,h6,h7,h8,h13,h11,h14,h15⟩
def EntIn (cs:List Ins) (es:List Int):Prop:=es.length≤1000000∧∀ b (h:b<es.length),0≤es[b]∧es[b]≤(cs.length:Int)
theorem endOf_in {cs:List Ins} {es:List Int} (h:EntIn cs es) (b:Nat):0≤endOf cs es b∧endOf cs es b≤(cs.length:Int):=by
 unfold endOf
 split
 ·rename_i hb
  have:=h.2 (b+1) hb;rw [List.getD_eq_getElem?_getD,List.getElem?_eq_getElem hb];exact this
 ·omega
theorem rowOk_step {cs:List Ins} {es:List Int} {start fin k:Int} (h:k<fin):rowOk cs es start fin (fin-k).toNat k=(innerOk cs es k start fin&&rowOk cs es start fin (fin-(k+1)).toNat (k+1)):=by
 have:(fin-k).toNat=(fin-(k+1)).toNat+1:=by omega
 rw [this,rowOk]
theorem blockOk_eq (cs:List Ins) (es:List Int) (b:Nat) (hb:b<es.length):blockOk cs es b=(!(decide (endOf cs es b≤es[b])||!isOp cs (endOf cs es b-1) 10)&&rowOk cs es es[b] (endOf cs es b) (endOf cs es b-es[b]).toNat es[b]):=by
 have:es.getD b 0=es[b]:=by simp [hb]
 unfold blockOk;rw [this]
theorem blocks_step (cs:List Ins) (es:List Int) {b:Nat} (hb:b<es.length):allFrom (blockOk cs es) (es.length-b) b=(blockOk cs es b&&allFrom (blockOk cs es) (es.length-(b+1)) (b+1)):=by
 have:es.length-b=(es.length-(b+1))+1:=by omega
 rw [this,allFrom]
theorem sBlocks_c (Ac:Option Addr) (cs:List Ins) (cc:Nat) (Ae:Option Addr) (es:List Int) (ce:Nat) (w:World) (hC:RdI w Ac cs cc) (hE:Is w Ae es ce) (hin:EntIn cs es) :
 Gives Tryz.prog 188 #[.agg #[.slice Ac cs.length cc,.slice Ae es.length ce]] w (.bool (blocksOk cs es)):=by
 have hl:=hC.len;have hcp:=hC.cap;have hel:=hin.1;obtain ⟨W0,hW0⟩:=nmw (w.alloc (.cells #[.slice Ac cs.length cc,.slice Ae es.length ce] 55));have e0:Ext w W0:=ka hW0
 have BP:Box W0 w.heap.size #[.slice Ac cs.length cc,.slice Ae es.length ce] 55:=kb hW0
 have p0:∀ w',Ext W0 w'→w'.cell? ⟨w.heap.size,0,none⟩=some (Value.slice Ac cs.length cc):=BP.at 0
 have p1:∀ w',Ext W0 w'→w'.cell? ⟨w.heap.size,1,none⟩=some (Value.slice Ae es.length ce):=BP.at 1
 have d0:=p0 _ (Ext.refl _);have d1:=p1 _ (Ext.refl _);rw [hW0.out] at d0 d1;have CO:=lhd (fun (d o:Int) w' (e:Ext w w') (hd : -1000000000≤d∧d≤1000000000)=>sIsOp_c Ac cs cc Ae es ce d o w' (hC.ext e) (hE.ext e) hd);have CN:=lhd (fun (j:Nat) (hj:j<cs.length) (start fin:Int) w' (e:Ext w w') hs hf=>sInner_c Ac cs cc Ae es ce j hj start fin w' (hC.ext e) (hE.ext e) hel hs hf);have HEI:=lhd hE;have HIN:=lhd hin;have HB0:Hid (allFrom (blockOk cs es) (es.length-0) 0=blocksOk cs es):=rfl
 clear hC hE hin hcp;go_enter Tryz.func188,Tryz.ntmps188;go_wp2_with fail;rw [← hW0.out];go_loopw [3] (fun q wr=>∃ b:Nat,b≤es.length∧q=.int .i64 (b:Int)∧Hid (allFrom (blockOk cs es) (es.length-b) b=blocksOk cs es)∧Ext W0 wr) (fun q _=>es.length-(intOf q).toNat)
 case atStart=>exact ⟨0,by omega,rfl,HB0.out,Ext.refl _⟩
 case round =>
  clear HB0 d0 d1;obtain ⟨b,hb,rfl,hv,he⟩:=hrel
  by_cases hlt:b<es.length
  ·obtain ⟨be,oe,hAe,hbe,hce⟩:=HEI.out.at b hlt
   have hHIN:=HIN.out.2 b hlt;have hfin:=endOf_in HIN.out b;have HS:=lhd (blocks_step cs es hlt);have HBK:=lhd (blockOk_eq cs es b hlt);have HEN:Hid (endOf cs es b=if b+1<es.length then es.getD (b+1) 0 else (cs.length:Int)):=rfl
   have hcn:∀ hb1:b+1<es.length,∀ w',Ext wr w'→w'.cell? ⟨be,oe+(b+1),none⟩=some (.int .i64 (es.getD (b+1) 0)):=fun hb1 w' e=>by
    obtain ⟨be',oe',hAe',_,hce'⟩:=HEI.out.at (b+1) hb1;rw [hAe] at hAe';injection hAe' with hAe';injection hAe' with i1 i2;subst i1;subst i2
    have:=hce' w' (e0.trans (he.trans e));rw [this];simp [hb1];rfl
   have HCN:=lhd hcn;clear hcn;subst hAe;have hc':∀ w',Ext wr w'→w'.cell? ⟨be,oe+b,none⟩=some (.int .i64 es[b]):=fun w' e=>hce w' (e0.trans (he.trans e))
   have q0:=fun w' (e:Ext wr w')=>p0 w' (he.trans e)
   have q1:=fun w' (e:Ext wr w')=>p1 w' (he.trans e)
   generalize es[b]=y at *;generalize endOf cs es b=fin at *;clear hce;go_upto_if 21 with (fail);go_cut [4] from 22 to 27 (fun s4 wx=>s4=.int .i64 fin∧Ext wr wx)
   case first =>
    by_cases hb1:b+1<es.length
    ·have hcx:=HCN.out hb1
     have HF:Hid (fin=es.getD (b+1) 0):=by show _=_;rw [HEN.out,if_pos hb1]
     generalize es.getD (b+1) 0=z at *;have hbi:(b:Int)+1<(es.length:Int):=by omega
     have hbn:((b:Int)+1).toNat=b+1:=by omega
     go_wp2;go_meet;exact ⟨by rw [HF.out],Ext.refl _⟩
    ·have HF:Hid (fin=(cs.length:Int)):=by show _=_;rw [HEN.out,if_neg hb1]
     have hbi:¬ (b:Int)+1<(es.length:Int):=by omega
     go_wp2;go_meet;exact ⟨by rw [HF.out],Ext.refl _⟩
   case rest =>
    obtain ⟨rfl,hwc⟩:=hcut;clear HCN HEN;have q0:=fun w' (e:Ext wc w')=>q0 w' (hwc.trans e)
    have q1:=fun w' (e:Ext wc w')=>q1 w' (hwc.trans e)
    have hc':=fun w' (e:Ext wc w')=>hc' w' (hwc.trans e)
    have EW:Ext w wc:=e0.trans (he.trans hwc)
    by_cases hge:fin≤y
    ·have HF:Hid (blocksOk cs es=false):=by show _=_;rw [← hv.out,HS.out,HBK.out,decide_eq_true hge];rfl
     clear hv HS HBK;go_wp2;go_ret;exact ⟨by rw [HF.out];rfl,EW⟩
    ·have hdg:decide (fin≤y)=false:=decide_eq_false hge
     go_wp2_with fail;refine (CO.out (fin-1) 10 _ EW (by omega)).mono ?_;rintro _ w5 ⟨rfl,e5⟩;cases Z:isOp cs (fin-1) 10
     ·have HF:Hid (blocksOk cs es=false):=by show _=_;rw [← hv.out,HS.out,HBK.out,hdg,Z];rfl
      clear hv HS HBK;go_wp2;go_ret;exact ⟨by rw [HF.out];rfl,EW.trans e5⟩
     ·have HV:Hid ((rowOk cs es y fin (fin-y).toNat y&&allFrom (blockOk cs es) (es.length-(b+1)) (b+1))=blocksOk cs es):=by show _=_;rw [← hv.out,HS.out,HBK.out,hdg,Z];rfl
      clear hv HS HBK;go_wp2_with fail;go_loopw [5] (fun q wr=>∃ k:Nat,y≤(k:Int)∧(k:Int)≤fin∧q=.int .i64 (k:Int)∧Hid ((rowOk cs es y fin (fin-(k:Int)).toNat (k:Int)&&allFrom (blockOk cs es) (es.length-(b+1)) (b+1))=blocksOk cs es)∧Ext wc wr) (fun q _=>(fin-intOf q).toNat)
      case atStart=>exact ⟨y.toNat,by omega,by omega,by congr 1;omega,by show _=_;rw [show ((y.toNat:Nat):Int)=y by omega];exact HV.out,e5⟩
      case round =>
       clear HV;obtain ⟨k,hk1,hk2,rfl,hv,he5⟩:=hrel;have q0:=fun w' (e:Ext wr w')=>q0 w' (he5.trans e)
       have q1:=fun w' (e:Ext wr w')=>q1 w' (he5.trans e)
       have hc':=fun w' (e:Ext wr w')=>hc' w' (he5.trans e)
       have EW5:=EW.trans he5
       by_cases hkl:(k:Int)<fin
       ·have HS:=lhd (rowOk_step (cs:=cs) (es:=es) (start:=y) hkl)
        have CN1:=lhd (fun w' (e:Ext w w')=>CN.out k (by omega) y fin w' e (by omega) (by omega));generalize hz:innerOk cs es (k:Int) y fin=z at *;clear hz;cases z
        ·have HF:Hid (blocksOk cs es=false):=by show _=_;rw [← hv.out,HS.out];rfl
         clear hv HS;go_wp2_with fail;refine wp_region_quiet_below (by kernel_rfl) (by kernel_rfl) ?_;repeat (go_big_quiet_step (((go_at_call 197;exact Calls.regrown_of (CN1.out _ (EW5.trans (Ext_regrown _ _ (Ext.refl _))))))))
         refine wpQuiet_nil (qnl ?_);intro w7 ew7;go_wp2;go_ret;exact ⟨by rw [HF.out];rfl,EW5.trans ew7⟩
        ·have HN:Hid ((rowOk cs es y fin (fin-((k:Int)+1)).toNat ((k:Int)+1)&&allFrom (blockOk cs es) (es.length-(b+1)) (b+1))=blocksOk cs es):=by show _=_;rw [← hv.out,HS.out];rfl
         clear hv HS;go_wp2_with fail;refine wp_region_quiet_below (by kernel_rfl) (by kernel_rfl) ?_;repeat (go_big_quiet_step (((go_at_call 197;exact Calls.regrown_of (CN1.out _ (EW5.trans (Ext_regrown _ _ (Ext.refl _))))))))
         refine wpQuiet_nil (qnl ?_);intro w7 ew7;go_wp2;go_roundw
         case rel=>exact ⟨k+1,by omega,by omega,by go_num,by show _=_;rw [show ((k+1:Nat):Int)=(k:Int)+1 by omega];exact HN.out,he5.trans ew7⟩
         case measure=>simp [intOf];omega
       ·have HN:Hid (allFrom (blockOk cs es) (es.length-(b+1)) (b+1)=blocksOk cs es):=by show _=_;rw [← hv.out,show (fin-(k:Int)).toNat=0 by omega,rowOk,Bool.true_and]
        clear hv;go_wp2;go_roundw
        case rel=>exact ⟨b+1,by omega,by go_num,HN.out,he.trans (hwc.trans he5)⟩
        case measure=>simp [intOf];omega
  ·have HF:Hid (blocksOk cs es=true):=by show _=_;rw [← hv.out,show es.length-b=0 by omega];rfl
   clear hv;go_wp2;go_ret;exact ⟨by rw [HF.out];rfl,e0.trans he⟩
theorem safe_eq {cs:List Ins} {es:List Int} (h:headOk cs es=true):safeOk cs es=(allFrom (fun i=>insOk cs (i:Int)) cs.length 0&&(allFrom (ascOk cs es) (es.length-1) 0&&blocksOk cs es)):=by
 unfold safeOk;rw [h,Bool.true_and,Bool.and_assoc]
theorem allFrom_step {p:Nat→Bool} {n k:Nat} (h:k<n):allFrom p (n-k) k=(p k&&allFrom p (n-(k+1)) (k+1)):=by
 have:n-k=(n-(k+1))+1:=by omega
 rw [this,allFrom]
theorem head_facts {cs:List Ins} {es:List Int} (h:headOk cs es=true):0<es.length∧es.getD 0 0=2∧2≤cs.length∧cs.length≤700:=by
 unfold headOk at h;simp only [Bool.not_eq_true',Bool.or_eq_false_iff,decide_eq_false_iff_not,Bool.not_eq_false'] at h;obtain ⟨⟨⟨⟨⟨h1,h2⟩,h3⟩,h4⟩,h5⟩,h6⟩:=h;obtain ⟨j,hj,hj1⟩:=isOp_in h5;refine ⟨?_,by simpa using h3,by omega,by omega⟩;rcases Nat.eq_zero_or_pos es.length with h0 | h0
 ·rw [h0] at h2;simp at h2
 ·exact h0
theorem entIn_of {cs:List Ins} {es:List Int} (h:headOk cs es=true) (hel:es.length≤1000000) (ha:∀ i,i<es.length-1→ascOk cs es i=true):EntIn cs es∧∀ b (hb:b<es.length),2≤es[b]:=by
 obtain ⟨h0,h2,hn,_⟩:=head_facts h
 have key:∀ b (hb:b<es.length),2≤es[b]∧es[b]≤(cs.length:Int):=by
  intro b
  induction b with
  | zero => intro hb; have : es.getD 0 0 = es[0] := by simp [hb]
            rw [this] at h2;omega
  | succ b ih =>
   intro hb;have h1:=ih (by omega);have h3:=ha b (by omega);unfold ascOk at h3;have e1:es.getD b 0=es[b]:=by simp [show b<es.length by omega]
   have e2:es.getD (b+1) 0=es[b+1]:=by simp [hb]
   rw [e1,e2] at h3;simp only [Bool.not_eq_true',Bool.or_eq_false_iff,decide_eq_false_iff_not] at h3
   omega
 exact ⟨⟨hel,fun b hb=>⟨by have:=(key b hb).1;omega,(key b hb).2⟩⟩,fun b hb=>(key b hb).1⟩
theorem sSafe_c (Ac:Option Addr) (cs:List Ins) (cc:Nat) (Ae:Option Addr) (es:List Int) (ce:Nat) (w:World) (hC:RdI w Ac cs cc) (hE:Is w Ae es ce) (hel:es.length≤1000000) :
 Gives Tryz.prog 161 #[.agg #[.slice Ac cs.length cc,.slice Ae es.length ce]] w (.bool (safeOk cs es)):=by
 have hl:=hC.len;have hcp:=hC.cap;obtain ⟨W0,hW0⟩:=nmw (w.alloc (.cells #[.slice Ac cs.length cc,.slice Ae es.length ce] 55));have e0:Ext w W0:=ka hW0
 have BP:Box W0 w.heap.size #[.slice Ac cs.length cc,.slice Ae es.length ce] 55:=kb hW0
 have p0:∀ w',Ext W0 w'→w'.cell? ⟨w.heap.size,0,none⟩=some (Value.slice Ac cs.length cc):=BP.at 0
 have p1:∀ w',Ext W0 w'→w'.cell? ⟨w.heap.size,1,none⟩=some (Value.slice Ae es.length ce):=BP.at 1
 have d0:=p0 _ (Ext.refl _);have d1:=p1 _ (Ext.refl _);rw [hW0.out] at d0 d1;have C0:Hid (∀ w',Ext w w'→Calls Tryz.prog 186 #[.agg #[.slice Ac cs.length cc,.slice Ae es.length ce],.int .i64 0,.int .i64 9] w' fun e w''=>e=.returned (.bool (isOp cs 0 9))∧Ext w' w''):=fun w' e=>sIsOp_c Ac cs cc Ae es ce 0 9 w' (hC.ext e) (hE.ext e) (by omega)
 have C1:Hid (∀ w',Ext w w'→Calls Tryz.prog 186 #[.agg #[.slice Ac cs.length cc,.slice Ae es.length ce],.int .i64 1,.int .i64 17] w' fun e w''=>e=.returned (.bool (isOp cs 1 17))∧Ext w' w''):=fun w' e=>sIsOp_c Ac cs cc Ae es ce 1 17 w' (hC.ext e) (hE.ext e) (by omega)
 have CS:=lhd (fun (k:Int) w' (e:Ext w w') hk=>sInsOk_c Ac cs cc Ae es ce k w' (hC.ext e) (hE.ext e) hk);have CB:=lhd (fun hin w' (e:Ext w w')=>sBlocks_c Ac cs cc Ae es ce w' (hC.ext e) (hE.ext e) hin);have HEI:=lhd hE;have HCI:=lhd hC;clear hC hE;go_enter Tryz.func161,Tryz.ntmps161;go_wp2_with fail;rw [← hW0.out];clear d0 d1
 by_cases A1:700<cs.length
 ·have hA1:decide ((700:Int)<(cs.length:Int))=true:=by simp;omega
  have hA1':decide (700<cs.length)=true:=by simp;omega
  have HF:Hid (safeOk cs es=false):=by show _=_;unfold safeOk headOk;rw [hA1];simp
  refine wp_region_quiet_below (by kernel_rfl) (by kernel_rfl) ?_;repeat (go_big_quiet_step ((fail)))
  refine wpQuiet_nil (qnl ?_);intro w4 ew4;go_wp2;go_ret;exact ⟨by rw [HF.out];rfl,e0.trans ew4⟩
 have hA1:decide ((700:Int)<(cs.length:Int))=false:=by simp;omega
 have hA1':decide (700<cs.length)=false:=by simp;omega
 by_cases A2:es.length=0
 ·have hA2:((es.length:Int)==0)=true:=by rw [A2];rfl
  have HF:Hid (safeOk cs es=false):=by show _=_;unfold safeOk headOk;rw [hA1,hA2];simp
  refine wp_region_quiet_below (by kernel_rfl) (by kernel_rfl) ?_;repeat (go_big_quiet_step ((fail)))
  refine wpQuiet_nil (qnl ?_);intro w4 ew4;go_wp2;go_ret;exact ⟨by rw [HF.out];rfl,e0.trans ew4⟩
 have hA2:((es.length:Int)==0)=false:=by rw [beq_eq_false_iff_ne];omega
 have hA2n:(es.length==0)=false:=by rw [beq_eq_false_iff_ne];omega
 have h0:0<es.length:=by omega
 have h0i:(0:Int)<(es.length:Int):=by omega
 obtain ⟨be,oe,hAe,hbe,hce⟩:=HEI.out.at 0 h0;subst hAe;have hc0:∀ w',Ext W0 w'→w'.cell? ⟨be,oe,none⟩=some (.int .i64 es[0]):=fun w' e=>hce w' (e0.trans e)
 have HG0:Hid (es.getD 0 0=es[0]):=by show _=_;simp [h0]
 have hcl:∀ w',Ext W0 w'→w'.cell? ⟨be,oe+(es.length-1),none⟩=some (.int .i64 (es.getD (es.length-1) 0)):=fun w' e=>by
  obtain ⟨be',oe',hAe',_,hce'⟩:=HEI.out.at (es.length-1) (by omega);injection hAe' with hAe';injection hAe' with i1 i2;subst i1;subst i2
  rw [hce' w' (e0.trans e)];simp [show es.length-1<es.length by omega];rfl
 clear hce;generalize es[0]=y0 at *
 by_cases A3:y0=2
 rotate_left
 ·have hA3:(y0==2)=false:=by simp [A3]
  have hA3b:(y0 !=2)=true:=by simp [A3]
  have HF:Hid (safeOk cs es=false):=by show _=_;unfold safeOk headOk;rw [hA1,hA2,HG0.out,hA3];simp
  refine wp_region_quiet_below (by kernel_rfl) (by kernel_rfl) ?_;repeat (go_big_quiet_step ((fail)))
  refine wpQuiet_nil (qnl ?_);intro w4 ew4;go_wp2;go_ret;exact ⟨by rw [HF.out];rfl,e0.trans ew4⟩
 subst A3;have hA3:((2:Int)==2)=true:=rfl
 cases A4:isOp cs 0 9
 ·rw [A4] at C0
  have HF:Hid (safeOk cs es=false):=by show _=_;unfold safeOk headOk;rw [hA1,hA2,HG0.out,hA3,A4];simp
  refine wp_region_quiet_below (by kernel_rfl) (by kernel_rfl) ?_;repeat (go_big_quiet_step ((go_at_call 186;first | with_reducible exact Calls.regrown_of (C0.out _ (e0.trans (Ext_regrown _ _ (Ext.refl _)))) | with_reducible exact Calls.regrown_of (C1.out _ (e0.trans (Ext_regrown _ _ (Ext.refl _)))))))
  refine wpQuiet_nil (qnl ?_);intro w4 ew4;go_wp2;go_ret;exact ⟨by rw [HF.out];rfl,e0.trans ew4⟩
 rw [A4] at C0;cases A5:isOp cs 1 17
 ·rw [A5] at C1
  have HF:Hid (safeOk cs es=false):=by show _=_;unfold safeOk headOk;rw [hA1,hA2,HG0.out,hA3,A4,A5];simp
  refine wp_region_quiet_below (by kernel_rfl) (by kernel_rfl) ?_;repeat (go_big_quiet_step ((go_at_call 186;first | with_reducible exact Calls.regrown_of (C0.out _ (e0.trans (Ext_regrown _ _ (Ext.refl _)))) | with_reducible exact Calls.regrown_of (C1.out _ (e0.trans (Ext_regrown _ _ (Ext.refl _)))))))
  refine wpQuiet_nil (qnl ?_);intro w4 ew4;go_wp2;go_ret;exact ⟨by rw [HF.out];rfl,e0.trans ew4⟩
 rw [A5] at C1;obtain ⟨j1,hj1,hjj⟩:=isOp_in A5;have hcs0:0<cs.length:=by omega
 obtain ⟨b,off,hAc,hb,hc⟩:=HCI.out.at 0 hcs0;subst hAc;have HI0:Hid (insAt cs 0=cs[0]):=insAt_nat (j:=0) hcs0
 have hc1:∀ w',Ext W0 w'→w'.cell? ⟨b,off+1,none⟩=some (.int .i64 cs[0].2.1):=fun w' e=>by have:=(hc w' (e0.trans e)).2.1;rwa [Nat.zero_mul,Nat.add_zero] at this
 have hcsi:(0:Int)<(cs.length:Int):=by omega
 generalize cs[0]=x0 at *;generalize hz:x0.2.1=z0 at *;generalize hl2:es.getD (es.length-1) 0=z1 at *;have HZ:=lhd hz;have HL2:=lhd hl2;clear hz hl2 hc hjj hj1 j1;have hi0:(0:Int)≤(es.length:Int)-1:=by omega
 have hi1:(es.length:Int)-1<(es.length:Int):=by omega
 have hi2:((es.length:Int)-1).toNat=es.length-1:=by omega
 have hiw:IntKind.i64.wrap ((es.length:Int)-1)=(es.length:Int)-1:=IntWalk.i64_in _ (by omega)
 by_cases A6:z0=z1
 rotate_left
 ·have hA6:(z0==z1)=false:=by simp [A6]
  have hA6b:(z0 !=z1)=true:=by simp [A6]
  have HF:Hid (safeOk cs es=false):=by show _=_;unfold safeOk headOk;rw [hA1,hA2,HG0.out,hA3,A4,A5,HI0.out,HZ.out,HL2.out,hA6];simp
  refine wp_region_quiet_below (by kernel_rfl) (by kernel_rfl) ?_;repeat (go_big_quiet_step ((go_at_call 186;first | with_reducible exact Calls.regrown_of (C0.out _ (e0.trans (Ext_regrown _ _ (Ext.refl _)))) | with_reducible exact Calls.regrown_of (C1.out _ (e0.trans (Ext_regrown _ _ (Ext.refl _)))))))
  refine wpQuiet_nil (qnl ?_);intro w4 ew4;go_wp2;go_ret;exact ⟨by rw [HF.out];rfl,e0.trans ew4⟩
 have HH:Hid (headOk cs es=true):=by
  show _=_
  unfold headOk;rw [hA1,hA2,HG0.out,hA3,A4,A5,HI0.out,HZ.out,HL2.out,show (z0==z1)=true by simp [A6]];rfl
 subst A6;refine wp_region_quiet_below (by kernel_rfl) (by kernel_rfl) ?_;repeat (go_big_quiet_step ((go_at_call 186;first | with_reducible exact Calls.regrown_of (C0.out _ (e0.trans (Ext_regrown _ _ (Ext.refl _)))) | with_reducible exact Calls.regrown_of (C1.out _ (e0.trans (Ext_regrown _ _ (Ext.refl _)))))))
 refine wpQuiet_nil (qnl ?_);intro w4 ew4;clear hi0 hi1 hi2 hiw hA1 hA2 hA3 hcl hc0 hc1 HG0 HI0 HZ HL2 A4 A5 C0 C1;have HS0:Hid ((allFrom (fun i=>insOk cs (i:Int)) (cs.length-0) 0&&(allFrom (ascOk cs es) (es.length-1) 0&&blocksOk cs es))=safeOk cs es):=by show _=_;rw [safe_eq HH.out];rfl
 have HEL:=lhd hel;clear hA1' hA2n h0i hcsi hel;go_wp2_with fail;go_loopw [4] (fun q wr=>∃ k:Nat,k≤cs.length∧q=.int .i64 (k:Int)∧Hid ((allFrom (fun i=>insOk cs (i:Int)) (cs.length-k) k&&(allFrom (ascOk cs es) (es.length-1) 0&&blocksOk cs es))=safeOk cs es)∧Ext W0 wr) (fun q _=>cs.length-(intOf q).toNat)
 case atStart=>exact ⟨0,by omega,rfl,HS0.out,ew4⟩
 case round =>
  clear HS0 ew4;obtain ⟨k,hk,rfl,hv,he⟩:=hrel
  by_cases hlt:k<cs.length
  ·have HS:=lhd (allFrom_step (p:=fun i=>insOk cs (i:Int)) hlt)
   cases Z:insOk cs (k:Int)
   ·have HF:Hid (safeOk cs es=false):=by show _=_;rw [← hv.out,HS.out,Z];rfl
    have HZ:=lhd Z;clear hv HS Z;go_wp2_with fail;refine (CS.out (k:Int) _ (e0.trans he) (by omega)).mono ?_;rintro _ w5 ⟨rfl,e5⟩;rw [HZ.out];go_wp2;go_ret;exact ⟨by rw [HF.out];rfl,(e0.trans he).trans e5⟩
   ·have HN:Hid ((allFrom (fun i=>insOk cs (i:Int)) (cs.length-(k+1)) (k+1)&&(allFrom (ascOk cs es) (es.length-1) 0&&blocksOk cs es))=safeOk cs es):=by show _=_;rw [← hv.out,HS.out,Z];rfl
    have HZ:=lhd Z;clear hv HS Z;go_wp2_with fail;refine (CS.out (k:Int) _ (e0.trans he) (by omega)).mono ?_;rintro _ w5 ⟨rfl,e5⟩;rw [HZ.out];go_wp2;go_roundw
    case rel=>exact ⟨k+1,by omega,by go_num,HN.out,he.trans e5⟩
    case measure=>simp [intOf];omega
  ·have HV:Hid ((allFrom (ascOk cs es) (es.length-1-0) 0&&blocksOk cs es)=safeOk cs es):=by show _=_;rw [← hv.out,show cs.length-k=0 by omega,allFrom,Bool.true_and];rfl
   clear hv;go_wp2_with fail;go_loopw [5] (fun q wr=>∃ k:Nat,k+1≤es.length∧q=.int .i64 ((k:Int)+1)∧Hid ((allFrom (ascOk cs es) (es.length-1-k) k&&blocksOk cs es)=safeOk cs es)∧Hid (∀ i,i<k→ascOk cs es i=true)∧Ext W0 wr) (fun q _=>es.length-(intOf q).toNat)
   case atStart=>exact ⟨0,by omega,rfl,HV.out,fun i hi=>by omega,he⟩
   case round =>
    clear HV he hlt hk;obtain ⟨k,hk,rfl,hv,ha,he⟩:=hrel
    by_cases hlt:k+1<es.length
    ·obtain ⟨be1,oe1,hA1,_,hcA⟩:=HEI.out.at k (by omega)
     injection hA1 with hA1;injection hA1 with i1 i2;subst i1;subst i2
     obtain ⟨be1,oe1,hA1,_,hcB⟩:=HEI.out.at (k+1) hlt;injection hA1 with hA1;injection hA1 with i1 i2;subst i1;subst i2
     have HS:=lhd (allFrom_step (p:=ascOk cs es) (show k<es.length-1 by omega))
     have HAS:Hid (ascOk cs es k=!(decide (es[k+1]≤es[k])||decide ((cs.length:Int)≤es[k+1]))):=by
      show _=_
      unfold ascOk;rw [show es.getD (k+1) 0=es[k+1] by simp [hlt],show es.getD k 0=es[k] by simp [show k<es.length by omega]]
     have hcA':∀ w',Ext wr w'→w'.cell? ⟨be,oe+k,none⟩=some (.int .i64 es[k]):=fun w' e=>hcA w' (e0.trans (he.trans e))
     have hcB':∀ w',Ext wr w'→w'.cell? ⟨be,oe+(k+1),none⟩=some (.int .i64 es[k+1]):=fun w' e=>hcB w' (e0.trans (he.trans e))
     have q0:=fun w' (e:Ext wr w')=>p0 w' (he.trans e)
     have q1:=fun w' (e:Ext wr w')=>p1 w' (he.trans e)
     generalize es[k]=y1 at *;generalize es[k+1]=y2 at *;have hki:(k:Int)+1<(es.length:Int):=by omega
     have hki0:(k:Int)<(es.length:Int):=by omega
     have hkn:((k:Int)+1).toNat=k+1:=by omega
     have hk0:(0:Int)≤(k:Int)+1:=by omega
     have hw1:IntKind.i64.wrap ((k:Int)+1-1)=(k:Int):=by rw [show (k:Int)+1-1=(k:Int) by omega];exact IntWalk.i64_in _ (by have:=HEL.out;omega)
     have hw2:IntKind.i64.wrap (k:Int)=(k:Int):=IntWalk.i64_in _ (by have:=HEL.out;omega)
     clear hcA hcB
     by_cases h1:y2≤y1
     ·have hd1:decide (y2≤y1)=true:=decide_eq_true h1
      have HF:Hid (safeOk cs es=false):=by show _=_;rw [← hv.out,show es.length-1-k=(es.length-1)-k by omega,HS.out,HAS.out,hd1];rfl
      clear hv HS HAS;go_wp2_with fail;refine wp_region_quiet_below (by kernel_rfl) (by kernel_rfl) ?_;repeat (go_big_quiet_step ((fail)))
      refine wpQuiet_nil (qnl ?_);intro w6 ew6;go_wp2;go_ret;exact ⟨by rw [HF.out];rfl,(e0.trans he).trans ew6⟩
     have hd1:decide (y2≤y1)=false:=decide_eq_false h1
     by_cases h2:(cs.length:Int)≤y2
     ·have hd2:decide ((cs.length:Int)≤y2)=true:=decide_eq_true h2
      have HF:Hid (safeOk cs es=false):=by show _=_;rw [← hv.out,HS.out,HAS.out,hd1,hd2];rfl
      clear hv HS HAS;go_wp2_with fail;refine wp_region_quiet_below (by kernel_rfl) (by kernel_rfl) ?_;repeat (go_big_quiet_step ((fail)))
      refine wpQuiet_nil (qnl ?_);intro w6 ew6;go_wp2;go_ret;exact ⟨by rw [HF.out];rfl,(e0.trans he).trans ew6⟩
     have hd2:decide ((cs.length:Int)≤y2)=false:=decide_eq_false h2
     have HK:Hid (ascOk cs es k=true):=by show _=_;rw [HAS.out,hd1,hd2];rfl
     have HN:Hid ((allFrom (ascOk cs es) (es.length-1-(k+1)) (k+1)&&blocksOk cs es)=safeOk cs es):=by show _=_;rw [← hv.out,HS.out,HK.out];rfl
     have HA':Hid (∀ i,i<k+1→ascOk cs es i=true):=fun i hi=>by
      rcases Nat.lt_or_ge i k with h | h
      ·exact ha.out i h
      ·rw [show i=k by omega];exact HK.out
     clear hv HS HAS ha;go_wp2_with fail;refine wp_region_quiet_below (by kernel_rfl) (by kernel_rfl) ?_;repeat (go_big_quiet_step ((fail)))
     refine wpQuiet_nil (qnl ?_);intro w6 ew6;clear hw1 hw2;have hel2:es.length≤1000000:=HEL.out
     go_wp2;go_roundw
     case rel=>exact ⟨k+1,by omega,by go_num,HN.out,HA'.out,he.trans ew6⟩
     case measure=>simp [intOf];omega
    ·have HIN:=entIn_of HH.out HEL.out (fun i hi=>ha.out i (by omega))
     have CB1:=lhd (fun w' (e:Ext w w')=>CB.out HIN.1 w' e);have HF:Hid (safeOk cs es=blocksOk cs es):=by show _=_;rw [← hv.out,show es.length-1-k=0 by omega,allFrom,Bool.true_and]
     clear hv HIN;go_wp2_with fail;refine (CB1.out _ (e0.trans he)).mono ?_;rintro _ w6 ⟨rfl,e6⟩;go_wp2;go_ret;exact ⟨by rw [HF.out];rfl,(e0.trans he).trans e6⟩
end Go.Proofs.YtpmcofmdjckijaaGreat
namespace Go.Proofs.YtpmcofmdjckijaaGreat
theorem blockN_spec {es:List Int} {x:Int}:∀ M,M≤es.length→(∃ j,j<M∧es.getD j 0≤x)→∃ b:Nat,b<M∧blockN es x M=(b:Int)∧es.getD b 0≤x∧∀ j,b<j→j<M→x<es.getD j 0
 | 0,_,⟨j,hj,_⟩=>by omega
 | M+1,hM,⟨j,hj,hjx⟩=>by
  by_cases h:es.getD M 0≤x
  ·exact ⟨M,by omega,by rw [blockN,if_pos h],h,fun j' h1 h2=>by omega⟩
  ·have hj':j<M:=by
    rcases Nat.lt_or_ge j M with h' | h'
    ·exact h'
    ·rw [show j=M by omega] at hjx;exact absurd hjx h
   obtain ⟨b,h1,h2,h3,h4⟩:=blockN_spec M (by omega) ⟨j,hj',hjx⟩;refine ⟨b,by omega,by rw [blockN,if_neg h,h2],h3,fun j' a1 a2=>?_⟩;rcases Nat.lt_or_ge j' M with h' | h'
   ·exact h4 j' a1 h'
   ·rw [show j'=M by omega];omega
theorem blockOf_at {es:List Int} {x:Int} (h0:0<es.length) (h2:es.getD 0 0=2) (hx:2≤x):∃ b:Nat,b<es.length∧blockOf es x=(b:Int)∧es.getD b 0≤x∧∀ j,b<j→j<es.length→x<es.getD j 0 :=
 blockN_spec es.length (Nat.le_refl _) ⟨0,h0,by omega⟩
theorem rowOk_at {cs:List Ins} {es:List Int} {s f:Int}:∀ {F:Nat} {k0:Int},rowOk cs es s f F k0=true→∀ k,k0≤k→k<k0+F→innerOk cs es k s f=true
 | 0,k0,_,k,h1,h2=>by omega
 | F+1,k0,h,k,h1,h2=>by
  rw [rowOk,Bool.and_eq_true] at h;rcases Int.lt_or_eq_of_le h1 with h3 | h3
  ·exact rowOk_at h.2 k (by omega) (by omega)
  ·rw [← h3];exact h.1
theorem callOk_mem {es:List Int} {a s:Int}:∀ {l:List Int},callOk es a s l=true→a∈l
 | [],h=>by cases h
 | e::t,h=>by
  rw [callOk] at h
  split at h
  ·split at h
   ·rename_i h1;rw [← h1];exact List.mem_cons_self ..
   ·exact List.mem_cons_of_mem _ (callOk_mem h)
  ·cases h
theorem safe_parts {cs:List Ins} {es:List Int} (h:safeOk cs es=true):headOk cs es=true∧(∀ i,i<es.length-1→ascOk cs es i=true)∧∀ b,b<es.length→blockOk cs es b=true:=by
 unfold safeOk at h;simp only [Bool.and_eq_true] at h
 exact ⟨h.1.1.1,fun i hi=>allFrom_at h.1.2 i (Nat.zero_le _) (by omega),fun b hb=>by
  have:=h.2;unfold blocksOk at this;exact allFrom_at this b (Nat.zero_le _) (by omega)⟩
theorem safe_calls {cs:List Ins} {es:List Int} (h:safeOk cs es=true) (hel:es.length≤1000000) (k:Nat) (hk:2≤k) (hkn:k<cs.length) (hop:(insAt cs (k:Int)).1=9):2≤(insAt cs (k:Int)).2.1:=by
 obtain ⟨hh,ha,hb⟩:=safe_parts h;obtain ⟨h0,h2,_,_⟩:=head_facts hh;obtain ⟨_,h22⟩:=entIn_of hh hel ha;obtain ⟨b,hbl,_,hb1,hb2⟩:=blockOf_at (x:=(k:Int)) h0 h2 (by omega);have hB:=hb b hbl;unfold blockOk at hB;rw [Bool.and_eq_true] at hB
 have hend:(k:Int)<endOf cs es b:=by
  unfold endOf
  split
  ·rename_i h';exact hb2 (b+1) (by omega) h'
  ·omega
 have hI:=rowOk_at hB.2 (k:Int) hb1 (by omega);unfold innerOk at hI;rw [if_neg (by omega),if_pos hop] at hI;obtain ⟨j,hj,hje⟩:=List.getElem_of_mem (callOk_mem hI);rw [← hje];exact h22 j hj
def needS (cs:List Ins) (es:List Int) (k:Int) (l:List Int):List Int :=
 if (insAt cs k).1=9 then l.set (blockOf es k).toNat (max (l.getD (blockOf es k).toNat 0) ((if isOp cs (k-1) 7 then 2 else 1)+l.getD (blockOf es (insAt cs k).2.1).toNat 0)) else l
def needN (cs:List Ins) (es:List Int):Nat→List Int
 | 0=>List.replicate es.length 0
 | k+1=>needS cs es ((k:Int)+2) (needN cs es k)
def stackN (cs:List Ins) (es:List Int):Int:=if safeOk cs es then 1+(needN cs es (cs.length-2)).getD (es.length-1) 0 else -1
def fitsOk (cs:List Ins) (es:List Int):Bool:=safeOk cs es&&decide (stackN cs es≤60)
theorem needN_len (cs:List Ins) (es:List Int):∀ k,(needN cs es k).length=es.length
 | 0=>by simp [needN]
 | k+1=>by rw [needN,needS];split<;>simp [needN_len cs es k]
theorem needN_in (cs:List Ins) (es:List Int):∀ k i,0≤(needN cs es k).getD i 0∧(needN cs es k).getD i 0≤2*(k:Int)
 | 0,i=>by
  simp only [needN,List.getD_eq_getElem?_getD,List.getElem?_replicate]
  split<;>simp
 | k+1,i=>by
  have ih:=needN_in cs es k;rw [needN,needS]
  split
  ·generalize (blockOf es ((k:Int)+2)).toNat=b
   generalize (blockOf es (insAt cs ((k:Int)+2)).2.1).toNat=b2;have h1:=ih i;have h2:=ih b;have h3:=ih b2;rw [List.getD_eq_getElem?_getD,List.getElem?_set]
   split
   ·split
    ·simp only [Option.getD_some]
     rw [Int.max_def]
     split<;>split<;>omega
    ·simp;omega
   ·rw [← List.getD_eq_getElem?_getD];omega
  ·have:=ih i;omega
end Go.Proofs.YtpmcofmdjckijaaGreat
namespace Go.Proofs.YtpmcofmdjckijaaGreat
open Go.RowKit Go.Sort
theorem sStack_c (Ac:Option Addr) (cs:List Ins) (cc:Nat) (Ae:Option Addr) (es:List Int) (ce:Nat) (w:World) (hC:RdI w Ac cs cc) (hE:Is w Ae es ce) (hel:es.length≤1000000) :
 Gives Tryz.prog 162 #[.agg #[.slice Ac cs.length cc,.slice Ae es.length ce]] w (.int .i64 (stackN cs es)):=by
 have hl:=hC.len;have hcp:=hC.cap;obtain ⟨W0,hW0⟩:=nmw (w.alloc (.cells #[.slice Ac cs.length cc,.slice Ae es.length ce] 55));have e0:Ext w W0:=ka hW0
 have BP:Box W0 w.heap.size #[.slice Ac cs.length cc,.slice Ae es.length ce] 55:=kb hW0
 have p0:∀ w',Ext W0 w'→w'.cell? ⟨w.heap.size,0,none⟩=some (Value.slice Ac cs.length cc):=BP.at 0
 have p1:∀ w',Ext W0 w'→w'.cell? ⟨w.heap.size,1,none⟩=some (Value.slice Ae es.length ce):=BP.at 1
 have d0:=p0 _ (Ext.refl _);have d1:=p1 _ (Ext.refl _);rw [hW0.out] at d0 d1;have CS:=lhd (fun w' (e:Ext w w')=>sSafe_c Ac cs cc Ae es ce w' (hC.ext e) (hE.ext e) hel);have CO:=lhd (fun (d:Int) w' (e:Ext w w') hd=>sIsOp_c Ac cs cc Ae es ce d 7 w' (hC.ext e) (hE.ext e) hd);have CB:=lhd (fun (x:Int) w' (e:Ext w w')=>sBlockOf_c Ac cs cc Ae es ce x w' (hC.ext e) (hE.ext e) hel);have CM:=lhd (fun (a b:Int) w'=>sMax_c a b w');have HCI:=lhd hC;cases hsafe:safeOk cs es
 ·rw [hsafe] at CS
  have HF:Hid (stackN cs es = -1):=by show _=_;unfold stackN;rw [hsafe];rfl
  clear hsafe;go_enter Tryz.func162,Tryz.ntmps162;go_wp2_with fail;rw [← hW0.out];refine (CS.out _ e0).mono ?_;rintro _ w1 ⟨rfl,e1⟩;go_wp2;go_ret;exact ⟨by rw [HF.out];rfl,e0.trans e1⟩
 have HSF:=lhd hsafe;rw [hsafe] at CS;have HF:Hid (stackN cs es=1+(needN cs es (cs.length-2)).getD (es.length-1) 0):=by show _=_;unfold stackN;rw [hsafe];rfl
 obtain ⟨hh,ha,hb⟩:=safe_parts hsafe;obtain ⟨h0,h2,hn2,hn7⟩:=head_facts hh;have HBA:=lhd (fun x (hx:(2:Int)≤x)=>blockOf_at (es:=es) (x:=x) h0 h2 hx);have HCA:=lhd (safe_calls hsafe hel);have HLN:=lhd (needN_len cs es);have HNI:=lhd (needN_in cs es);clear hC hE hsafe hh ha hb h2;go_enter Tryz.func162,Tryz.ntmps162;go_wp2_with fail;rw [← hW0.out];refine (CS.out _ e0).mono ?_;rintro _ w1 ⟨rfl,e1⟩;have q1:=p1 w1 e1;clear CS d0 d1
 go_wp2_with (first
  | (at_make;refine wpList_mk rfl _ _ _ rfl E_int W0 w1 e1 es.length rfl rfl (by omega) (by simp only [maxLen];omega) ?_;intro w2 ho2 he2 _;rw [made_one _ rfl] at ho2))
 have HO2:Hid (OwnL vint 3 W0 w2 (.slice (some ⟨w1.heap.size,0,none⟩) es.length es.length) (needN cs es 0)):=by
  show OwnL _ _ _ _ _ _
  unfold OwnL needN
  simpa [vint] using ho2
 clear ho2;go_loopw [4] (fun q wr=>∃ k:Nat,k+2≤cs.length∧q=.int .i64 ((k:Int)+2)∧Hid (OwnL vint 3 W0 wr (.slice (some ⟨w1.heap.size,0,none⟩) es.length es.length) (needN cs es k))∧Ext W0 wr) (fun q _=>cs.length-(intOf q).toNat)
 case atStart=>exact ⟨0,by omega,rfl,HO2.out,he2⟩
 case round =>
  clear HO2 he2;obtain ⟨k,hk,rfl,ho,he⟩:=hrel;have q0:=fun w' (e:Ext wr w')=>p0 w' (he.trans e)
  have v0:=fun w' (e:Ext wr w')=>p1 w' (he.trans e)
  by_cases hlt:k+2<cs.length
  ·obtain ⟨b,off,hAc,hb,hc⟩:=HCI.out.at (k+2) hlt
   have HI:Hid (insAt cs ((k:Int)+2)=cs[k+2]):=by show _=_;rw [show (k:Int)+2=((k+2:Nat):Int) by omega];exact insAt_nat hlt
   have HA2:Hid (cs[k+2].1=9→2≤cs[k+2].2.1):=fun h=>by
    have:=HCA.out (k+2) (by omega) hlt;rw [show ((k+2:Nat):Int)=(k:Int)+2 by omega,HI.out] at this;exact this h
   have HST:Hid (needN cs es (k+1)=needS cs es ((k:Int)+2) (needN cs es k)):=rfl
   subst hAc;have hc0:∀ w',Ext wr w'→w'.cell? ⟨b,off+(k+2)*3,none⟩=some (.int .i64 cs[k+2].1):=fun w' e=>(hc w' (e0.trans (he.trans e))).1
   have hc1:∀ w',Ext wr w'→w'.cell? ⟨b,off+(k+2)*3+1,none⟩=some (.int .i64 cs[k+2].2.1):=fun w' e=>(hc w' (e0.trans (he.trans e))).2.1
   have hki:(k:Int)+2<(cs.length:Int):=by omega
   have hkn:((k:Int)+2).toNat=k+2:=by omega
   generalize cs[k+2]=x at *;obtain ⟨o,a,z⟩:=x;dsimp only at *;clear hc
   by_cases hop:o=9
   ·subst hop
    obtain ⟨b1,hb1,hB1,_⟩:=HBA.out ((k:Int)+2) (by omega);obtain ⟨b2,hb2,hB2,_⟩:=HBA.out a (HA2.out rfl);have hln:=HLN.out k;have hn1:=HNI.out k b1;have hn2:=HNI.out k b2;obtain ⟨A',c',hsl,rL⟩:=OwnL.rd ho.out (by rw [hln];omega);injection hsl with i1 i2 i3;subst i1
    obtain ⟨g1,o1,hg1,_,r1⟩:=rL.at b1 (by omega);injection hg1 with hg1;injection hg1 with j1 j2;subst j1;subst j2
    obtain ⟨g2,o2,hg2,_,r2⟩:=rL.at b2 (by omega);injection hg2 with hg2;injection hg2 with j1 j2;subst j1;subst j2
    have HG1:Hid ((needN cs es k).getD b1 0=(needN cs es k)[b1]'(by omega)):=by show _=_;simp [show b1<(needN cs es k).length by omega]
    have HG2:Hid ((needN cs es k).getD b2 0=(needN cs es k)[b2]'(by omega)):=by show _=_;simp [show b2<(needN cs es k).length by omega]
    rw [HG1.out] at hn1;rw [HG2.out] at hn2;have s1:∀ w',Ext wr w'→w'.cell? ⟨w1.heap.size,b1,none⟩=some (.int .i64 ((needN cs es k)[b1]'(by omega))):=fun w' e=>by have:=r1 w' e;rwa [Nat.zero_add] at this
    have s2:∀ w',Ext wr w'→w'.cell? ⟨w1.heap.size,b2,none⟩=some (.int .i64 ((needN cs es k)[b2]'(by omega))):=fun w' e=>by have:=r2 w' e;rwa [Nat.zero_add] at this
    have HSTn:Hid (needN cs es (k+1)=(needN cs es k).set b1 (max ((needN cs es k)[b1]'(by omega)) ((if isOp cs ((k:Int)+1) 7 then 2 else 1)+(needN cs es k)[b2]'(by omega)))):=by
     show _=_
     rw [HST.out,needS,HI.out,if_pos rfl,hB1,hB2,Int.toNat_natCast,Int.toNat_natCast,HG1.out,HG2.out,show (k:Int)+2-1=(k:Int)+1 by omega]
    generalize (needN cs es k)[b1]'(by omega)=y1 at *;generalize (needN cs es k)[b2]'(by omega)=y2 at *;have HHO:=lhd ho.out;have HLL:=lhd hln;have CB1:=lhd (fun w' (e:Ext w w')=>CB.out ((k:Int)+2) w' e);have CB2:=lhd (fun w' (e:Ext w w')=>CB.out a w' e);rw [hB1] at CB1;rw [hB2] at CB2;clear hln r1 r2 rL i2 i3 HG1 HG2 hB1 hB2 HST HI ho CB;have hbi1:(b1:Int)<(es.length:Int):=by omega
    have hbi2:(b2:Int)<(es.length:Int):=by omega
    cases Z:isOp cs ((k:Int)+1) 7
    ·rw [Z] at HSTn
     have HZ:=lhd Z;clear Z;have hmx:(if y1<1+y2 then 1+y2 else y1)=max y1 (1+y2):=by rw [Int.max_def];split<;>split<;>omega
     have CM1:=lhd (fun w'=>CM.out y1 (1+y2) w');rw [hmx] at CM1;have HST2:Hid (needN cs es (k+1)=(needN cs es k).set b1 (max y1 (1+y2))):=by show _=_;rw [HSTn.out];rfl
     generalize max y1 (1+y2)=mx at *;clear hmx HSTn;go_wp2_with fail;refine (CO.out ((k:Int)+2-1) _ (e0.trans he) (by omega)).mono ?_;rintro _ w5 ⟨rfl,e5⟩;rw [show (k:Int)+2-1=(k:Int)+1 by omega,HZ.out];have q05:=fun w' (e:Ext w5 w')=>q0 w' (e5.trans e)
     have v5:=fun w' (e:Ext w5 w')=>v0 w' (e5.trans e)
     go_wp2_with fail;refine (CB1.out _ (e0.trans (he.trans e5))).mono ?_;rintro _ w6 ⟨rfl,e6⟩;have e56:=e5.trans e6;have q06:=fun w' (e:Ext w6 w')=>q0 w' (e56.trans e)
     have v6:=fun w' (e:Ext w6 w')=>v0 w' (e56.trans e)
     have t1:=fun w' (e:Ext w6 w')=>s1 w' (e56.trans e)
     have t2:=fun w' (e:Ext w6 w')=>s2 w' (e56.trans e)
     have t3:=fun w' (e:Ext w6 w')=>hc1 w' (e56.trans e)
     have hwo:IntKind.i64.wrap (1+y2)=1+y2:=IntWalk.i64_in _ (by omega)
     have E6:=e0.trans (he.trans e56);go_wp2_with fail;refine region_qtail_below 21 (by kernel_rfl) (by kernel_rfl) ?_;simp only [List.take_succ_cons,List.take_zero,List.drop_succ_cons,List.drop_zero]
     repeat (go_big_quiet_step (first
      | (go_at_call 189;exact Calls.regrown_of (CB2.out _ (E6.trans (Ext_regrown _ _ (Ext.refl _)))))
      | (go_at_call 25;exact Calls.regrown_of (CM1.out _))))
     refine wpQuiet_nil ?_;rintro w7 ⟨⟨nq,osq⟩,hq⟩;have e7:=ext_of_q hq;clear hq nq osq hwo;have ho7:=HHO.out.ext (e56.trans e7);obtain ⟨⟨u1,hu1⟩,hf1⟩:=Own.slot (show Own 3 1 W0 w7 (.slice (some ⟨w1.heap.size,0,none⟩) es.length es.length) es.length ((needN cs es k).map vint) by have:=ho7;unfold OwnL at this;rwa [HLL.out] at this) b1 (by rw [List.length_map,HLL.out];exact hb1);have hst:=Own.store (show Own 3 1 W0 w7 (.slice (some ⟨w1.heap.size,0,none⟩) es.length es.length) es.length ((needN cs es k).map vint) by have:=ho7;unfold OwnL at this;rwa [HLL.out] at this) (he.trans (e56.trans e7)) b1 (.int .i64 mx)
     have HN:Hid (OwnL vint 3 W0 (w7.setCell ⟨w1.heap.size,b1,none⟩ (.int .i64 mx)) (.slice (some ⟨w1.heap.size,0,none⟩) es.length es.length) (needN cs es (k+1))):=by
      show OwnL _ _ _ _ _ _
      unfold OwnL;rw [HLN.out,HST2.out,List.map_set];exact hst.1
     have HE:=lhd hst.2;clear hst ho7;go_wp2;go_roundw
     case rel=>exact ⟨k+1,by omega,by go_num,HN.out,HE.out⟩
     case measure=>simp [intOf];omega
    ·rw [Z] at HSTn
     have HZ:=lhd Z;clear Z;have hmx:(if y1<2+y2 then 2+y2 else y1)=max y1 (2+y2):=by rw [Int.max_def];split<;>split<;>omega
     have CM1:=lhd (fun w'=>CM.out y1 (2+y2) w');rw [hmx] at CM1;have HST2:Hid (needN cs es (k+1)=(needN cs es k).set b1 (max y1 (2+y2))):=by show _=_;rw [HSTn.out];rfl
     generalize max y1 (2+y2)=mx at *;clear hmx HSTn;go_wp2_with fail;refine (CO.out ((k:Int)+2-1) _ (e0.trans he) (by omega)).mono ?_;rintro _ w5 ⟨rfl,e5⟩;rw [show (k:Int)+2-1=(k:Int)+1 by omega,HZ.out];have q05:=fun w' (e:Ext w5 w')=>q0 w' (e5.trans e)
     have v5:=fun w' (e:Ext w5 w')=>v0 w' (e5.trans e)
     go_wp2_with fail;refine (CB1.out _ (e0.trans (he.trans e5))).mono ?_;rintro _ w6 ⟨rfl,e6⟩;have e56:=e5.trans e6;have q06:=fun w' (e:Ext w6 w')=>q0 w' (e56.trans e)
     have v6:=fun w' (e:Ext w6 w')=>v0 w' (e56.trans e)
     have t1:=fun w' (e:Ext w6 w')=>s1 w' (e56.trans e)
     have t2:=fun w' (e:Ext w6 w')=>s2 w' (e56.trans e)
     have t3:=fun w' (e:Ext w6 w')=>hc1 w' (e56.trans e)
     have hwo:IntKind.i64.wrap (2+y2)=2+y2:=IntWalk.i64_in _ (by omega)
     have E6:=e0.trans (he.trans e56);go_wp2_with fail;refine region_qtail_below 21 (by kernel_rfl) (by kernel_rfl) ?_;simp only [List.take_succ_cons,List.take_zero,List.drop_succ_cons,List.drop_zero]
     repeat (go_big_quiet_step (first
      | (go_at_call 189;exact Calls.regrown_of (CB2.out _ (E6.trans (Ext_regrown _ _ (Ext.refl _)))))
      | (go_at_call 25;exact Calls.regrown_of (CM1.out _))))
     refine wpQuiet_nil ?_;rintro w7 ⟨⟨nq,osq⟩,hq⟩;have e7:=ext_of_q hq;clear hq nq osq hwo;have ho7:=HHO.out.ext (e56.trans e7);obtain ⟨⟨u1,hu1⟩,hf1⟩:=Own.slot (show Own 3 1 W0 w7 (.slice (some ⟨w1.heap.size,0,none⟩) es.length es.length) es.length ((needN cs es k).map vint) by have:=ho7;unfold OwnL at this;rwa [HLL.out] at this) b1 (by rw [List.length_map,HLL.out];exact hb1);have hst:=Own.store (show Own 3 1 W0 w7 (.slice (some ⟨w1.heap.size,0,none⟩) es.length es.length) es.length ((needN cs es k).map vint) by have:=ho7;unfold OwnL at this;rwa [HLL.out] at this) (he.trans (e56.trans e7)) b1 (.int .i64 mx)
     have HN:Hid (OwnL vint 3 W0 (w7.setCell ⟨w1.heap.size,b1,none⟩ (.int .i64 mx)) (.slice (some ⟨w1.heap.size,0,none⟩) es.length es.length) (needN cs es (k+1))):=by
      show OwnL _ _ _ _ _ _
      unfold OwnL;rw [HLN.out,HST2.out,List.map_set];exact hst.1
     have HE:=lhd hst.2;clear hst ho7;go_wp2;go_roundw
     case rel=>exact ⟨k+1,by omega,by go_num,HN.out,HE.out⟩
     case measure=>simp [intOf];omega
   ·have HN:Hid (needN cs es (k+1)=needN cs es k):=by show _=_;rw [HST.out,needS,HI.out,if_neg hop]
    clear HST HI HA2;have hob:(o !=9)=true:=by simp [hop]
    go_wp2;go_roundw
    case rel=>exact ⟨k+1,by omega,by go_num,by show OwnL _ _ _ _ _ _;rw [HN.out];exact ho.out,he⟩
    case measure=>simp [intOf];omega
  ·obtain hkn:k=cs.length-2:=by omega
   have hln:=HLN.out k;have hnl:=HNI.out k (es.length-1);obtain ⟨A',c',hsl,rL⟩:=OwnL.rd ho.out (by rw [hln];omega);injection hsl with i1 i2 i3;subst i1
   obtain ⟨g1,o1,hg1,_,r1⟩:=rL.at (es.length-1) (by omega);injection hg1 with hg1;injection hg1 with j1 j2;subst j1;subst j2
   have hgd:(needN cs es k).getD (es.length-1) 0=(needN cs es k)[es.length-1]'(by omega):=by simp [show es.length-1<(needN cs es k).length by omega]
   have hF:stackN cs es=1+(needN cs es k)[es.length-1]'(by omega):=by rw [HF.out,← hkn,hgd]
   have HFF:=lhd hF;have s1:∀ w',Ext wr w'→w'.cell? ⟨w1.heap.size,es.length-1,none⟩=some (.int .i64 ((needN cs es k)[es.length-1]'(by omega))):=fun w' e=>by have:=r1 w' e;rwa [Nat.zero_add] at this
   rw [hgd] at hnl;generalize (needN cs es k)[es.length-1]'(by omega)=y at *;have hi0:(0:Int)≤(es.length:Int)-1:=by omega
   have hi1:(es.length:Int)-1<(es.length:Int):=by omega
   have hi2:((es.length:Int)-1).toNat=es.length-1:=by omega
   clear hF hgd r1 rL i2 i3 hln;go_wp2;go_ret;exact ⟨by rw [HFF.out];rfl,e0.trans he⟩
theorem sFits_c (Ac:Option Addr) (cs:List Ins) (cc:Nat) (Ae:Option Addr) (es:List Int) (ce:Nat) (w:World) (hC:RdI w Ac cs cc) (hE:Is w Ae es ce) (hel:es.length≤1000000) :
 Gives Tryz.prog 126 #[.agg #[.slice Ac cs.length cc,.slice Ae es.length ce]] w (.bool (fitsOk cs es)):=by
 have hl:=hC.len;obtain ⟨W0,hW0⟩:=nmw (w.alloc (.cells #[.slice Ac cs.length cc,.slice Ae es.length ce] 55));have e0:Ext w W0:=ka hW0
 have BP:Box W0 w.heap.size #[.slice Ac cs.length cc,.slice Ae es.length ce] 55:=kb hW0
 have p0:∀ w',Ext W0 w'→w'.cell? ⟨w.heap.size,0,none⟩=some (Value.slice Ac cs.length cc):=BP.at 0
 have p1:∀ w',Ext W0 w'→w'.cell? ⟨w.heap.size,1,none⟩=some (Value.slice Ae es.length ce):=BP.at 1
 have d0:=p0 _ (Ext.refl _);have d1:=p1 _ (Ext.refl _);rw [hW0.out] at d0 d1;have CS:=lhd (fun w' (e:Ext w w')=>sSafe_c Ac cs cc Ae es ce w' (hC.ext e) (hE.ext e) hel);have CT:=lhd (fun w' (e:Ext w w')=>sStack_c Ac cs cc Ae es ce w' (hC.ext e) (hE.ext e) hel);have HF:Hid (fitsOk cs es=(safeOk cs es&&decide (stackN cs es≤60))):=rfl
 generalize safeOk cs es=z at *;generalize stackN cs es=n at *;cases z
 all_goals
  go_enter Tryz.func126,Tryz.ntmps126;go_wp2_with fail;rw [← hW0.out];refine (CS.out _ e0).mono ?_;rintro _ w1 ⟨rfl,e1⟩;have r0:=p0 w1 e1;have r1:=p1 w1 e1
  first
   | (go_wp2_with fail
      refine (CT.out _ (e0.trans e1)).mono ?_;rintro _ w2 ⟨rfl,e2⟩;go_wp2;go_ret;exact ⟨by rw [HF.out];rfl,(e0.trans e1).trans e2⟩)
   | (go_wp2
      go_ret;exact ⟨by rw [HF.out];rfl,e0.trans e1⟩)
end Go.Proofs.YtpmcofmdjckijaaGreat
