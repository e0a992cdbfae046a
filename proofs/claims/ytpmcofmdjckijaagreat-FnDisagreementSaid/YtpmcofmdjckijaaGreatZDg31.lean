/- Texts, laid into one. -/
import Derived.Test.YtpmcofmdjckijaaGreatZDg28
set_option linter.unusedVariables false
set_option linter.unusedSimpArgs false
set_option maxRecDepth 100000
set_option maxHeartbeats 16000000
namespace Go.Proofs.YtpmcofmdjckijaaGreat
open Go.RowKit Go.Sort
theorem sByteM_c (X:Nat→Prop) (W0:World) (p:Nat) (m:Mach) (Ac:Option Addr) (cs:List Ins) (cc:Nat) (Ae:Option Addr) (es:List Int) (ce:Nat) (b:Int) (w:World) (h:MV X W0 w p m) (hm:m.Ok) (hC:∀ w',MR X w w'→RdI w' Ac cs cc) (hop:∀ j,j<cs.length→(insAt cs (j:Int)).1=1→1≤(insAt cs (j:Int)).2.1∧(insAt cs (j:Int)).2.1≤4) (hb:0≤b∧b≤255) :
 Calls Tryz.prog 94 #[.agg #[.slice Ac cs.length cc,.slice Ae es.length ce],.pointer (some ⟨p,0,none⟩),.int .i64 b] w fun e w'=>e=.returned (.tuple #[])∧MV X W0 w' p (Mach.byte cs m b)∧MR X w w':=by
 obtain ⟨R,HRV⟩:∃ R,Hid (Mach.byte cs m b=R):=⟨_,rfl⟩;rw [HRV.out];obtain ⟨vs,vq,hB⟩:=h;have hC0:=hC w (MR.refl _ _);have hl:=hC0.len;have hcp:=hC0.cap;obtain ⟨W1,hW1⟩:=nmw (w.alloc (.cells #[.slice Ac cs.length cc,.slice Ae es.length ce] 55));have e1:Ext w W1:=ka hW1
 have HB:Hid (MB (fun k=>X k∨k=w.heap.size) W0 W1 p m vs vq):=by rw [hW1.out];exact hB.guard _
 have HR1:Hid (MR X w W1):=MR.of_ext e1 hB.low
 have HBP:Hid (Box W1 w.heap.size #[.slice Ac cs.length cc,.slice Ae es.length ce] 55):=by rw [hW1.out];exact Box.new _ _ _
 have CF:=lhd (fun c w' h=>sFail_c (fun k=>X k∨k=w.heap.size) W0 p m c w' h);have CI:=lhd (fun x lo hi w=>l1In_c x lo hi w);have HXW:Hid (∀ k,X k→X k∨k=w.heap.size):=fun k hk=>.inl hk
 have HC:=lhd hC;have HOK:=lhd hm;have HB0:=lhd hb;have j0:∀ w',Ext W1 w'→w'.cell? ⟨w.heap.size,0,none⟩=some (Value.slice Ac cs.length cc):=HBP.out.at 0
 have s0:∀ w',Ext W1 w'→w'.cell? ⟨p,0,none⟩=some (.int .i64 m.pc):=fun w' e=>(HB.out.box.ext e).cell 0
 have s4:∀ w',Ext W1 w'→w'.cell? ⟨p,4,none⟩=some (.int .i64 m.left):=fun w' e=>(HB.out.box.ext e).cell 4
 have hiw:IntKind.i64.wrap ((cs.length:Int)-1)=(cs.length:Int)-1:=IntWalk.i64_in _ (by omega)
 have CI1:=lhd (fun w'=>CI.out m.pc 0 ((cs.length:Int)-1) w');have HLEN:=lhd hl;clear hB hC0 e1 hm hC hb;cases hin:(decide ((0:Int)≤m.pc)&&decide (m.pc≤(cs.length:Int)-1))
 ·have HF:Hid (R=m.fail 8):=by show _=_;rw [← HRV.out];unfold Mach.byte inB;rw [hin];rfl
  rw [hin] at CI1;clear hin hop;go_enter Tryz.func94,Tryz.ntmps94;go_wp2_with fail;rw [← hW1.out];refine wp_region_quiet_below (by kernel_rfl) (by kernel_rfl) ?_;repeat (go_big_quiet_step ((go_at_call 71;exact Calls.regrown_of (CI1.out _))))
  refine wpQuiet_nil (qnl ?_);intro w4 ew4;go_wp2_with fail;refine (CF.out 8 _ ⟨_,_,HB.out.next ew4⟩).mono ?_;rintro _ w5 ⟨rfl,⟨vs5,vq5,hm5⟩,hr5⟩;have HRE:=HR1.out.trans (((MR.of_ext ew4 HB.out.low).trans hr5).weak HXW.out);go_wp2
  first
   | exact bodyPost_end (results_none rfl _ _ _) rfl ⟨rfl,(by rw [HF.out];exact ⟨_,_,hm5.weak HXW.out⟩),HRE⟩
   | exact bodyPost_ret (results_none rfl _ _ _) rfl ⟨rfl,(by rw [HF.out];exact ⟨_,_,hm5.weak HXW.out⟩),HRE⟩
 rw [hin] at CI1
 obtain ⟨j,hj,hjp⟩:∃ j:Nat,∃ _:j<cs.length,m.pc=(j:Int):=by
  simp only [Bool.and_eq_true,decide_eq_true_eq] at hin;exact ⟨m.pc.toNat,by omega,by omega⟩
 have HI:Hid (insAt cs m.pc=cs[j]):=by show _=_;rw [hjp];exact insAt_nat hj
 have HBY:Hid (R=m.byteI cs[j] b):=by show _=_;rw [← HRV.out];unfold Mach.byte inB;rw [hin,if_pos rfl,HI.out]
 clear HRV;have hopj:=hop j hj;rw [insAt_nat hj] at hopj;have hIw:=HC.out W1 HR1.out;obtain ⟨g,off,hAc,_,hcc⟩:=hIw.at j hj;subst hAc;have c0:∀ w',Ext W1 w'→w'.cell? ⟨g,off+j*3,none⟩=some (.int .i64 cs[j].1):=fun w' e=>(hcc w' e).1
 have c1:∀ w',Ext W1 w'→w'.cell? ⟨g,off+j*3+1,none⟩=some (.int .i64 cs[j].2.1):=fun w' e=>(hcc w' e).2.1
 have c2:∀ w',Ext W1 w'→w'.cell? ⟨g,off+j*3+2,none⟩=some (.int .i64 cs[j].2.2):=fun w' e=>(hcc w' e).2.2
 rw [hjp] at s0 CI1;have hji:(j:Int)<(cs.length:Int):=by omega
 generalize cs[j]=x at *;obtain ⟨o,a,z⟩:=x;dsimp only at *;clear hin hcc hIw hjp HI hop;go_enter Tryz.func94,Tryz.ntmps94;go_wp2_with fail;rw [← hW1.out];refine wp_region_quiet_below (by kernel_rfl) (by kernel_rfl) ?_;repeat (go_big_quiet_step ((go_at_call 71;exact Calls.regrown_of (CI1.out _))))
 refine wpQuiet_nil (qnl ?_);intro w4 ew4;clear hiw;replace j0:=kx j0 ew4;replace s0:=kx s0 ew4;replace s4:=kx s4 ew4;replace c0:=kx c0 ew4;replace c1:=kx c1 ew4;replace c2:=kx c2 ew4;go_wp2_with fail;have SY:Hid (∀ w',Ext w4 w'→Ext w4 w'∧True):=fun _ h1=>⟨h1,trivial⟩
 go_region_held3 (fun w'=>Ext w4 w'∧True) (first | exact SY.out _ (Ext_drew (Ext.refl _)) | exact SY.out _ (by assumption) | exact SY.out _ (Ext_alloc _ (Ext_drew (Ext.refl _)))) (fail)
 clear SY;obtain ⟨W5,hW5⟩:=nmw ((w4.alloc (.cells #[.int .i64 o,.int .i64 a,.int .i64 z] 79)).drew);rw [← hW5.out];have e45:Ext w4 W5:=by rw [hW5.out];exact Ext_drew (Ext_alloc _ (Ext.refl _))
 have HB5:Hid (MB (fun k=>(X k∨k=w.heap.size)∨k=w4.heap.size) W0 W5 p m vs vq):=by rw [hW5.out];exact ((HB.out.next ew4).guard _).next (Ext_drew (Ext.refl _))
 have HBI:Hid (Box W5 w4.heap.size #[.int .i64 o,.int .i64 a,.int .i64 z] 79):=by rw [hW5.out];exact (Box.new _ _ _).ext (Ext_drew (Ext.refl _))
 have HR5:Hid (MR X w W5):=HR1.out.trans (MR.of_ext (ew4.trans e45) (fun k hk=>HB.out.low k (.inl hk)))
 have HX2:Hid (∀ k,X k→(X k∨k=w.heap.size)∨k=w4.heap.size):=fun k hk=>.inl (.inl hk)
 have HX1:Hid (∀ k,X k∨k=w.heap.size→(X k∨k=w.heap.size)∨k=w4.heap.size):=fun k hk=>.inl hk
 have hne4:p≠w4.heap.size:=by have:=(HB.out.box.ext ew4).lt;omega
 have hne4':w4.heap.size≠p:=fun hh=>hne4 hh.symm
 clear j0 s0 c0 c1 c2 e45 s4 hW5 HB HC ew4;have f0:∀ w',Ext W5 w'→w'.cell? ⟨w4.heap.size,0,none⟩=some (.int .i64 o):=HBI.out.at 0
 have f1:∀ w',Ext W5 w'→w'.cell? ⟨w4.heap.size,1,none⟩=some (.int .i64 a):=HBI.out.at 1
 have f2:∀ w',Ext W5 w'→w'.cell? ⟨w4.heap.size,2,none⟩=some (.int .i64 z):=HBI.out.at 2
 have s4:∀ w',Ext W5 w'→w'.cell? ⟨p,4,none⟩=some (.int .i64 m.left):=fun w' e=>(HB5.out.box.ext e).cell 4
 have CF2:=lhd (fun c w' h=>sFail_c (fun k=>(X k∨k=w.heap.size)∨k=w4.heap.size) W0 p m c w' h);clear CF
 by_cases h1:o=1
 ·subst h1
  have HI1:=lhd hopj;cases hz:(decide ((1:Int)≤m.left)&&decide (m.left≤a))
  ·have HF:Hid (R=m.fail 8):=by show _=_;rw [HBY.out];unfold Mach.byteI;rw [if_pos ⟨rfl,hz⟩]
   have CI2:=lhd (fun w'=>CI.out m.left 1 a w');rw [hz] at CI2;clear hz;go_wp2_with fail;refine wp_region_quiet_below (by kernel_rfl) (by kernel_rfl) ?_;repeat (go_big_quiet_step ((go_at_call 71;exact Calls.regrown_of (CI2.out _))))
   refine wpQuiet_nil (qnl ?_);intro w6 ew6;go_wp2_with fail;refine (CF2.out 8 _ ⟨_,_,HB5.out.next ew6⟩).mono ?_;rintro _ w7 ⟨rfl,⟨vs7,vq7,hm7⟩,hr7⟩;have HRE:=HR5.out.trans (((MR.of_ext ew6 HB5.out.low).trans hr7).weak HX2.out);go_wp2
   first
    | exact bodyPost_end (results_none rfl _ _ _) rfl ⟨rfl,(by rw [HF.out];exact ⟨_,_,hm7.weak HX2.out⟩),HRE⟩
    | exact bodyPost_ret (results_none rfl _ _ _) rfl ⟨rfl,(by rw [HF.out];exact ⟨_,_,hm7.weak HX2.out⟩),HRE⟩
  have HF1:Hid (R=(m.eat b).take (1,a,z) b):=by show _=_;rw [HBY.out];unfold Mach.byteI;rw [if_neg (by intro hh;have:=hh.2;unfold inB at this;rw [hz] at this;cases this),if_neg (by show ¬ (1:Int)=15;decide)]
  have CI2:=lhd (fun w'=>CI.out m.left 1 a w');rw [hz] at CI2;have hzz:1≤m.left∧m.left≤a:=by simpa using hz
  have HHI0:Hid ((1:Int)=1→1≤a∧a≤4∧0≤(m.eat b).left∧(m.eat b).left+1≤a):=fun _=>by
   have:=HI1.out rfl;have hl1:(m.eat b).left=m.left-1:=by show wrap64 (m.left-1)=_;unfold wrap64;omega
   rw [hl1];omega
  clear hz hzz;go_wp2_with fail;refine wp_region_quiet_below (by kernel_rfl) (by kernel_rfl) ?_;repeat (go_big_quiet_step ((go_at_call 71;exact Calls.regrown_of (CI2.out _))))
  refine wpQuiet_nil (qnl ?_);intro w6 ew6;have HB6:=lhd (HB5.out.next ew6);have HR6:=lhd (HR5.out.trans (MR.of_ext ew6 (fun k hk=>HB5.out.low k (HX2.out k hk))));have HBIn:=lhd (HBI.out.ext ew6);have HOK1:=HOK;replace f0:=kx f0 ew6;replace f1:=kx f1 ew6;replace f2:=kx f2 ew6;have hs3:=HB6.out.box.cell 3;obtain ⟨Aq,cq,hvq⟩:=HB6.out.oq.len_shape;subst hvq;have r3:w6.cell? ⟨p,3,none⟩=some (Value.slice Aq m.sums.length cq):=hs3
  clear hs3;have HM1:Hid (R=((m:Mach).eat b).take (1,a,z) b):=HF1.out
  have HSL:Hid ((m:Mach).sums.length≤30):=HOK1.out.sm
  have HBI1:Hid (Box w6 w4.heap.size #[.int .i64 1,.int .i64 a,.int .i64 z] 79):=HBIn.out
  have HHI:=lhd (HHI0.out);have CR:=lhd (fun m' w' h hi=>sReadM_c (fun k=>(X k∨k=w.heap.size)∨k=w4.heap.size) W0 p m' (1,a,z) b w' h hi HB0.out);have HMV:Hid (MV (fun k=>(X k∨k=w.heap.size)∨k=w4.heap.size) W0 w6 p m):=⟨_,_,HB6.out⟩
  have HRN:=lhd HR6.out;clear HF1 HOK1 HBIn HB6 HR6 CF2 s4 HOK HI1;generalize hm1:(m:Mach)=m1 at *;clear hm1;go_wp2_with fail;go_loopw [7] (fun q wr=>∃ k:Nat,k≤m1.sums.length∧q=.int .i64 (k:Int)∧Hid (MV (fun k=>(X k∨k=w.heap.size)∨k=w4.heap.size) W0 wr p { m1 with sums:=(m1.sums.take k).map (sumUp · b)++m1.sums.drop k })∧Hid (MR (fun k=>(X k∨k=w.heap.size)∨k=w4.heap.size) w6 wr)) (fun q _=>m1.sums.length-(intOf q).toNat)
  case atStart=>exact ⟨0,by omega,rfl,by show MV _ _ _ _ _;simpa using HMV.out,MR.refl _ _⟩
  case round =>
   clear HMV;obtain ⟨k,hk,rfl,hmv,hr⟩:=hrel;obtain ⟨vs',vq',hb'⟩:=hmv.out;clear hmv;have HL:Hid (((m1.sums.take k).map (sumUp · b)++m1.sums.drop k).length=m1.sums.length):=by show _=_;simp;omega
   by_cases hlt:k<m1.sums.length
   ·have HNX:=lhd (map_take_succ m1.sums [] (sumUp · b) k hlt)
    have HGET:Hid (∀ h,((m1.sums.take k).map (sumUp · b)++m1.sums.drop k)[k]'h=m1.sums[k]):=fun h=>by
     rw [List.getElem_append_right (by simp;omega)];simp [Nat.min_eq_left (by omega:k≤m1.sums.length)]
    have HLK:Hid (k<((m1.sums.take k).map (sumUp · b)++m1.sums.drop k).length):=by show _<_;rw [HL.out];exact hlt
    generalize ((m1.sums.take k).map (sumUp · b)++m1.sums.drop k)=L at *;obtain ⟨gq,cq,hvq,hcq1,hcq2⟩:=hb'.oq.base (by show 0<L.length;have:=HLK.out;omega);have hvq':vq'=.slice (some ⟨gq,0,none⟩) m1.sums.length cq:=by rw [hvq];show Value.slice _ L.length _=_;rw [HL.out]
    subst hvq';clear hvq;have HBK:=lhd hb';have r3:∀ w',Ext wr w'→w'.cell? ⟨p,3,none⟩=some (Value.slice (some ⟨gq,0,none⟩) m1.sums.length cq):=fun w' e=>(HBK.out.box.ext e).cell 3
    have hcl:∀ w',Ext wr w'→w'.cell? ⟨gq,k,none⟩=some (.int .i64 m1.sums[k]):=fun w' e=>by
     have:=OwnL.cellN (HBK.out.oq.ext e) k HLK.out;rw [this];show some (Value.int .i64 (L[k]'_))=_;rw [HGET.out]
    have hfr:=OwnL.freeN HBK.out.oq k;generalize m1.sums[k]=y at *;have HB6:=lhd (HBK.out.rowQ k (sumUp y b));have HR6:=lhd (hr.out.trans (MR.set (i:=k) (Value.int .i64 (sumUp y b)) HBK.out.gQ));have hki:(k:Int)<(m1.sums.length:Int):=by omega
    have hk30:(k:Int)+1≤30:=by have:=HSL.out;omega
    clear HGET HLK HL hb';go_wp2_with fail;refine region_qtail_below 16 (by kernel_rfl) (by kernel_rfl) ?_;simp only [List.take_succ_cons,List.take_zero,List.drop_succ_cons,List.drop_zero];repeat (go_big_quiet_step (fail))
    refine wpQuiet_nil (qnl ?_);intro w6 e6;have HB7:=lhd ((HBK.out.next e6).rowQ k (sumUp y b));have HR7:=lhd ((hr.out.trans (MR.of_ext e6 HBK.out.low)).trans (MR.set (i:=k) (Value.int .i64 (sumUp y b)) HBK.out.gQ));have hfr6:=OwnL.freeN (HBK.out.oq.ext e6) k;clear HB6 HR6;go_wp2;go_roundw
    case rel=>exact ⟨k+1,by omega,by go_num,(by show MV _ _ _ _ _;rw [← HNX.out];exact ⟨_,_,HB7.out⟩),HR7.out⟩
    case measure=>simp [intOf];omega
   ·have HE:Hid ((m1.sums.take k).map (sumUp · b)++m1.sums.drop k=m1.sums.map (sumUp · b)):=by
     show _=_;rw [List.take_of_length_le (by omega),List.drop_eq_nil_of_le (by omega),List.append_nil]
    rw [HE.out] at hb';have hle:m1.sums.length≤k:=by omega
    have HLM:Hid ((m1.sums.map (sumUp · b)).length=m1.sums.length):=by show _=_;simp
    obtain ⟨A3,c3,hv3⟩:=hb'.oq.len_shape;subst hv3;rw [show ({ m1 with sums:=m1.sums.map (sumUp · b) }:Mach).sums.length=m1.sums.length from HLM.out] at hb';have HBK:=lhd hb';have r3:wr.cell? ⟨p,3,none⟩=some (Value.slice A3 m1.sums.length c3):=HBK.out.box.cell 3
    have r9:wr.cell? ⟨p,9,none⟩=some (.int .i64 m1.read):=HBK.out.box.cell 9
    have f9:=HBK.out.box.free 9;have f4:=HBK.out.box.free 4;have HB6:=HBK.out.put (m':={ m1 with sums:=m1.sums.map (sumUp · b),read:=wrap64 (m1.read+1) }) 9 (.int .i64 (wrap64 (m1.read+1))) rfl rfl rfl;have t4:(wr.setCell ⟨p,9,none⟩ (.int .i64 (wrap64 (m1.read+1)))).cell? ⟨p,4,none⟩=some (.int .i64 m1.left):=HB6.box.cell 4
    have HB7:=HB6.put (m':=m1.eat b) 4 (.int .i64 (wrap64 (m1.left-1))) rfl rfl rfl;have HR7:=hr.out.trans ((MR.set (i:=9) (Value.int .i64 (wrap64 (m1.read+1))) HBK.out.xp).trans (MR.set (i:=4) (Value.int .i64 (wrap64 (m1.left-1))) HBK.out.xp));have hbx:Box _ w4.heap.size #[.int .i64 1,.int .i64 a,.int .i64 z] 79:=(HR7.kept _ (.inr rfl)).trans HBI1.out
    have u0:=hbx.cell 0;have u1:=hbx.cell 1;have u2:=hbx.cell 2;have hki:¬ (k:Int)<(m1.sums.length:Int):=by omega
    have hkd:decide ((k:Int)<(m1.sums.length:Int))=false:=decide_eq_false hki
    obtain ⟨w7,hw7⟩:=nmw ((wr.setCell ⟨p,9,none⟩ (.int .i64 (wrap64 (m1.read+1)))).setCell ⟨p,4,none⟩ (.int .i64 (wrap64 (m1.left-1))));have HB8:=lhd HB7;have HR8:=lhd HR7;rw [← hw7.out] at HB8 HR8;clear HB6 HB7 HR7 hbx HBK hb' HE HLM;go_wp2_with fail;rw [← hw7.out];refine (CR.out (m1.eat b) _ ⟨_,_,HB8.out⟩ HHI.out).mono ?_;rintro _ w8 ⟨rfl,⟨vs8,vq8,hm8⟩,hr8⟩;have HRE:=HRN.out.trans ((HR8.out.trans hr8).weak HX2.out);have HF:=HM1;go_wp2
    first
     | exact bodyPost_end (results_none rfl _ _ _) rfl ⟨rfl,(by rw [HF.out];exact ⟨_,_,hm8.weak HX2.out⟩),HRE⟩
     | exact bodyPost_ret (results_none rfl _ _ _) rfl ⟨rfl,(by rw [HF.out];exact ⟨_,_,hm8.weak HX2.out⟩),HRE⟩
 have HI1:Hid (o=1→1≤a∧a≤4):=fun hh=>absurd hh h1
 have n1:(o==1)=false:=by simp [h1]
 have hs3:=HB5.out.box.cell 3;obtain ⟨Aq,cq,hvq⟩:=HB5.out.oq.len_shape;subst hvq;have r3':W5.cell? ⟨p,3,none⟩=some (Value.slice Aq m.sums.length cq):=hs3
 have r3:∀ w',Ext W5 w'→w'.cell? ⟨p,3,none⟩=some (Value.slice Aq m.sums.length cq):=fun w' e=>(HB5.out.box.ext e).cell 3
 clear hs3
 by_cases h15:o=15
 ·subst h15
  by_cases hz:m.sums.length=0
  ·have HF:Hid (R=m.fail 8):=by show _=_;rw [HBY.out];unfold Mach.byteI;rw [if_neg (by intro hh;exact absurd hh.1 h1),if_pos rfl,if_pos hz]
   have hzb:((m.sums.length:Int)==0)=true:=by simp [hz]
   go_wp2_with fail;refine wp_region_quiet_below (by kernel_rfl) (by kernel_rfl) ?_;repeat (go_big_quiet_step ((fail)))
   refine wpQuiet_nil (qnl ?_);intro w6 ew6;go_wp2_with fail;refine (CF2.out 8 _ ⟨_,_,HB5.out.next ew6⟩).mono ?_;rintro _ w7 ⟨rfl,⟨vs7,vq7,hm7⟩,hr7⟩;have HRE:=HR5.out.trans (((MR.of_ext ew6 HB5.out.low).trans hr7).weak HX2.out);go_wp2
   first
    | exact bodyPost_end (results_none rfl _ _ _) rfl ⟨rfl,(by rw [HF.out];exact ⟨_,_,hm7.weak HX2.out⟩),HRE⟩
    | exact bodyPost_ret (results_none rfl _ _ _) rfl ⟨rfl,(by rw [HF.out];exact ⟨_,_,hm7.weak HX2.out⟩),HRE⟩
  have hpos:0<m.sums.length:=by omega
  obtain ⟨gq,cq',hvq,hcq1,hcq2⟩:=HB5.out.oq.base hpos;injection hvq with hvA hvn hvc
  subst hvA;subst hvc;have hlast:=last_at m.sums hpos
  have hcl:∀ w',Ext W5 w'→w'.cell? ⟨gq,m.sums.length-1,none⟩=some (.int .i64 (m.sums.getLastD 0)):=fun w' e=>by
   rw [OwnL.cellN (HB5.out.oq.ext e) (m.sums.length-1) (by omega),hlast]
  have HB15:Hid (R=if m.sums.getLastD 0=b then (({ m with sums:=m.sums.dropLast }:Mach).eat b).take (15,a,z) b else m.fail 5):=by
   show _=_;rw [HBY.out];unfold Mach.byteI;rw [if_neg (by intro hh;exact absurd hh.1 h1),if_pos rfl,if_neg hz]
  have hzb:((m.sums.length:Int)==0)=false:=by rw [beq_eq_false_iff_ne];omega
  have HPOS:=lhd hpos;have hi0:(0:Int)≤(m.sums.length:Int)-1:=by omega
  have hi1:(m.sums.length:Int)-1<(m.sums.length:Int):=by omega
  have hi2:((m.sums.length:Int)-1).toNat=m.sums.length-1:=by omega
  have hi3:(m.sums.length:Int)-1≤(cq:Int):=by omega
  have hsl:=HOK.out.sm;have hiw:IntKind.i64.wrap ((m.sums.length:Int)-1)=(m.sums.length:Int)-1:=IntWalk.i64_in _ (by omega)
  generalize m.sums.getLastD 0=y at *;clear hlast hz hpos hcq1 hcq2
  by_cases hy:y=b
  rotate_left
  ·have HF:Hid (R=m.fail 5):=by show _=_;rw [HB15.out,if_neg hy]
   have hyb:(y !=b)=true:=by simp [hy]
   clear HB15;go_wp2_with fail;refine wp_region_quiet_below (by kernel_rfl) (by kernel_rfl) ?_;repeat (go_big_quiet_step ((fail)))
   refine wpQuiet_nil (qnl ?_);intro w6 ew6;replace r3:=kx r3 ew6;replace hcl:=kx hcl ew6;go_wp2_with fail;refine wp_region_quiet_below (by kernel_rfl) (by kernel_rfl) ?_;repeat (go_big_quiet_step ((fail)))
   refine wpQuiet_nil (qnl ?_);intro w7 ew7;have ew67:=ew6.trans ew7;go_wp2_with fail;refine (CF2.out 5 _ ⟨_,_,HB5.out.next ew67⟩).mono ?_;rintro _ w8 ⟨rfl,⟨vs7,vq7,hm7⟩,hr7⟩;have HRE:=HR5.out.trans (((MR.of_ext ew67 HB5.out.low).trans hr7).weak HX2.out);go_wp2
   first
    | exact bodyPost_end (results_none rfl _ _ _) rfl ⟨rfl,(by rw [HF.out];exact ⟨_,_,hm7.weak HX2.out⟩),HRE⟩
    | exact bodyPost_ret (results_none rfl _ _ _) rfl ⟨rfl,(by rw [HF.out];exact ⟨_,_,hm7.weak HX2.out⟩),HRE⟩
  obtain rfl:b=y:=hy.symm
  have HF1:Hid (R=(({ m with sums:=m.sums.dropLast }:Mach).eat b).take (15,a,z) b):=by show _=_;rw [HB15.out,if_pos rfl]
  have hyb:(b !=b)=false:=by simp
  clear HB15;go_wp2_with fail;refine wp_region_quiet_below (by kernel_rfl) (by kernel_rfl) ?_;repeat (go_big_quiet_step ((fail)))
  refine wpQuiet_nil (qnl ?_);intro w6 ew6;replace r3:=kx r3 ew6;replace hcl:=kx hcl ew6;replace f0:=kx f0 ew6;go_wp2_with fail;refine wp_region_quiet_below (by kernel_rfl) (by kernel_rfl) ?_;repeat (go_big_quiet_step ((fail)))
  refine wpQuiet_nil (qnl ?_);intro w7 ew7;have ew67:=ew6.trans ew7;replace r3:=kx r3 ew7;go_wp2_with fail;refine region_qtail_below 14 (by kernel_rfl) (by kernel_rfl) ?_;simp only [List.take_succ_cons,List.take_zero,List.drop_succ_cons,List.drop_zero];repeat (go_big_quiet_step (fail))
  refine wpQuiet_nil ?_;rintro w8 ⟨⟨nq,osq⟩,hq⟩;have ew68:=ew67.trans (ext_of_q hq);clear hq nq osq hiw r3 r3' hcl;have HB8:=lhd (HB5.out.next ew68);have f3:=HB8.out.box.free 3;have q3:w8.cell? ⟨p,3,none⟩=some (Value.slice (some ⟨gq,0,none⟩) m.sums.length cq):=HB8.out.box.cell 3
  have HB9:=HB8.out.popQ HPOS.out;have HR9:=HR5.out.trans (((MR.of_ext ew68 HB5.out.low).trans (MR.set (i:=3) (Value.slice (some ⟨gq,0,none⟩) (m.sums.length-1) cq) HB5.out.xp)).weak HX2.out);have HBI9:Box _ w4.heap.size #[.int .i64 15,.int .i64 a,.int .i64 z] 79:=(((MR.of_ext ew68 HB5.out.low).trans (MR.set (i:=3) (Value.slice (some ⟨gq,0,none⟩) (m.sums.length-1) cq) HB5.out.xp)).kept _ (.inr rfl)).trans HBI.out
  obtain ⟨w9,hw9⟩:=nmw (w8.setCell ⟨p,3,none⟩ (.slice (some ⟨gq,0,none⟩) (m.sums.length-1) cq));rw [← hw9.out] at HB9 HR9 HBI9;have HB10:=lhd HB9;have HR10:=lhd HR9;have HBIn:=lhd HBI9;clear HB9 HR9 HBI9;go_upto_region 12 with (fail);rw [← hw9.out];clear hi0 hi1 hi2 hi3 f3 q3 f0 f1 f2;have HOK1:Hid (Mach.Ok { m with sums:=m.sums.dropLast }):=⟨HOK.out.st,by have:=HOK.out.sm;show m.sums.dropLast.length≤30;rw [List.length_dropLast];omega⟩
  have hdl:({ m with sums:=m.sums.dropLast }:Mach).sums.length=m.sums.length-1:=by simp
  have r3:w9.cell? ⟨p,3,none⟩=some (Value.slice (some ⟨gq,0,none⟩) ({ m with sums:=m.sums.dropLast }:Mach).sums.length cq):=by rw [hdl];exact HB10.out.box.cell 3
  clear hdl;have HM1:Hid (R=(({ m with sums:=m.sums.dropLast }:Mach).eat b).take (15,a,z) b):=HF1.out
  have HSL:Hid (({ m with sums:=m.sums.dropLast }:Mach).sums.length≤30):=HOK1.out.sm
  have HBI1:Hid (Box w9 w4.heap.size #[.int .i64 15,.int .i64 a,.int .i64 z] 79):=HBIn.out
  have HHI:=lhd ((fun hh=>absurd hh (by decide):(15:Int)=1→1≤a∧a≤4∧0≤(({ m with sums:=m.sums.dropLast }:Mach).eat b).left∧(({ m with sums:=m.sums.dropLast }:Mach).eat b).left+1≤a));have CR:=lhd (fun m' w' h hi=>sReadM_c (fun k=>(X k∨k=w.heap.size)∨k=w4.heap.size) W0 p m' (15,a,z) b w' h hi HB0.out);have HMV:Hid (MV (fun k=>(X k∨k=w.heap.size)∨k=w4.heap.size) W0 w9 p { m with sums:=m.sums.dropLast }):=⟨_,_,HB10.out⟩
  have HRN:=lhd HR10.out;clear HF1 HOK1 HBIn HB10 HR10 CF2 s4 HOK HI1;generalize hm1:({ m with sums:=m.sums.dropLast }:Mach)=m1 at *;clear hm1;go_wp2_with fail;go_loopw [7] (fun q wr=>∃ k:Nat,k≤m1.sums.length∧q=.int .i64 (k:Int)∧Hid (MV (fun k=>(X k∨k=w.heap.size)∨k=w4.heap.size) W0 wr p { m1 with sums:=(m1.sums.take k).map (sumUp · b)++m1.sums.drop k })∧Hid (MR (fun k=>(X k∨k=w.heap.size)∨k=w4.heap.size) w9 wr)) (fun q _=>m1.sums.length-(intOf q).toNat)
  case atStart=>exact ⟨0,by omega,rfl,by show MV _ _ _ _ _;simpa using HMV.out,MR.refl _ _⟩
  case round =>
   clear HMV;obtain ⟨k,hk,rfl,hmv,hr⟩:=hrel;obtain ⟨vs',vq',hb'⟩:=hmv.out;clear hmv;have HL:Hid (((m1.sums.take k).map (sumUp · b)++m1.sums.drop k).length=m1.sums.length):=by show _=_;simp;omega
   by_cases hlt:k<m1.sums.length
   ·have HNX:=lhd (map_take_succ m1.sums [] (sumUp · b) k hlt)
    have HGET:Hid (∀ h,((m1.sums.take k).map (sumUp · b)++m1.sums.drop k)[k]'h=m1.sums[k]):=fun h=>by
     rw [List.getElem_append_right (by simp;omega)];simp [Nat.min_eq_left (by omega:k≤m1.sums.length)]
    have HLK:Hid (k<((m1.sums.take k).map (sumUp · b)++m1.sums.drop k).length):=by show _<_;rw [HL.out];exact hlt
    generalize ((m1.sums.take k).map (sumUp · b)++m1.sums.drop k)=L at *;obtain ⟨gq,cq,hvq,hcq1,hcq2⟩:=hb'.oq.base (by show 0<L.length;have:=HLK.out;omega);have hvq':vq'=.slice (some ⟨gq,0,none⟩) m1.sums.length cq:=by rw [hvq];show Value.slice _ L.length _=_;rw [HL.out]
    subst hvq';clear hvq;have HBK:=lhd hb';have r3:∀ w',Ext wr w'→w'.cell? ⟨p,3,none⟩=some (Value.slice (some ⟨gq,0,none⟩) m1.sums.length cq):=fun w' e=>(HBK.out.box.ext e).cell 3
    have hcl:∀ w',Ext wr w'→w'.cell? ⟨gq,k,none⟩=some (.int .i64 m1.sums[k]):=fun w' e=>by
     have:=OwnL.cellN (HBK.out.oq.ext e) k HLK.out;rw [this];show some (Value.int .i64 (L[k]'_))=_;rw [HGET.out]
    have hfr:=OwnL.freeN HBK.out.oq k;generalize m1.sums[k]=y at *;have HB6:=lhd (HBK.out.rowQ k (sumUp y b));have HR6:=lhd (hr.out.trans (MR.set (i:=k) (Value.int .i64 (sumUp y b)) HBK.out.gQ));have hki:(k:Int)<(m1.sums.length:Int):=by omega
    have hk30:(k:Int)+1≤30:=by have:=HSL.out;omega
    clear HGET HLK HL hb';go_wp2_with fail;refine region_qtail_below 16 (by kernel_rfl) (by kernel_rfl) ?_;simp only [List.take_succ_cons,List.take_zero,List.drop_succ_cons,List.drop_zero];repeat (go_big_quiet_step (fail))
    refine wpQuiet_nil (qnl ?_);intro w6 e6;have HB7:=lhd ((HBK.out.next e6).rowQ k (sumUp y b));have HR7:=lhd ((hr.out.trans (MR.of_ext e6 HBK.out.low)).trans (MR.set (i:=k) (Value.int .i64 (sumUp y b)) HBK.out.gQ));have hfr6:=OwnL.freeN (HBK.out.oq.ext e6) k;clear HB6 HR6;go_wp2;go_roundw
    case rel=>exact ⟨k+1,by omega,by go_num,(by show MV _ _ _ _ _;rw [← HNX.out];exact ⟨_,_,HB7.out⟩),HR7.out⟩
    case measure=>simp [intOf];omega
   ·have HE:Hid ((m1.sums.take k).map (sumUp · b)++m1.sums.drop k=m1.sums.map (sumUp · b)):=by
     show _=_;rw [List.take_of_length_le (by omega),List.drop_eq_nil_of_le (by omega),List.append_nil]
    rw [HE.out] at hb';have hle:m1.sums.length≤k:=by omega
    have HLM:Hid ((m1.sums.map (sumUp · b)).length=m1.sums.length):=by show _=_;simp
    obtain ⟨A3,c3,hv3⟩:=hb'.oq.len_shape;subst hv3;rw [show ({ m1 with sums:=m1.sums.map (sumUp · b) }:Mach).sums.length=m1.sums.length from HLM.out] at hb';have HBK:=lhd hb';have r3:wr.cell? ⟨p,3,none⟩=some (Value.slice A3 m1.sums.length c3):=HBK.out.box.cell 3
    have r9:wr.cell? ⟨p,9,none⟩=some (.int .i64 m1.read):=HBK.out.box.cell 9
    have f9:=HBK.out.box.free 9;have f4:=HBK.out.box.free 4;have HB6:=HBK.out.put (m':={ m1 with sums:=m1.sums.map (sumUp · b),read:=wrap64 (m1.read+1) }) 9 (.int .i64 (wrap64 (m1.read+1))) rfl rfl rfl;have t4:(wr.setCell ⟨p,9,none⟩ (.int .i64 (wrap64 (m1.read+1)))).cell? ⟨p,4,none⟩=some (.int .i64 m1.left):=HB6.box.cell 4
    have HB7:=HB6.put (m':=m1.eat b) 4 (.int .i64 (wrap64 (m1.left-1))) rfl rfl rfl;have HR7:=hr.out.trans ((MR.set (i:=9) (Value.int .i64 (wrap64 (m1.read+1))) HBK.out.xp).trans (MR.set (i:=4) (Value.int .i64 (wrap64 (m1.left-1))) HBK.out.xp));have hbx:Box _ w4.heap.size #[.int .i64 15,.int .i64 a,.int .i64 z] 79:=(HR7.kept _ (.inr rfl)).trans HBI1.out
    have u0:=hbx.cell 0;have u1:=hbx.cell 1;have u2:=hbx.cell 2;have hki:¬ (k:Int)<(m1.sums.length:Int):=by omega
    have hkd:decide ((k:Int)<(m1.sums.length:Int))=false:=decide_eq_false hki
    obtain ⟨w7,hw7⟩:=nmw ((wr.setCell ⟨p,9,none⟩ (.int .i64 (wrap64 (m1.read+1)))).setCell ⟨p,4,none⟩ (.int .i64 (wrap64 (m1.left-1))));have HB8:=lhd HB7;have HR8:=lhd HR7;rw [← hw7.out] at HB8 HR8;clear HB6 HB7 HR7 hbx HBK hb' HE HLM;go_wp2_with fail;rw [← hw7.out];refine (CR.out (m1.eat b) _ ⟨_,_,HB8.out⟩ HHI.out).mono ?_;rintro _ w8 ⟨rfl,⟨vs8,vq8,hm8⟩,hr8⟩;have HRE:=HRN.out.trans ((HR8.out.trans hr8).weak HX2.out);have HF:=HM1;go_wp2
    first
     | exact bodyPost_end (results_none rfl _ _ _) rfl ⟨rfl,(by rw [HF.out];exact ⟨_,_,hm8.weak HX2.out⟩),HRE⟩
     | exact bodyPost_ret (results_none rfl _ _ _) rfl ⟨rfl,(by rw [HF.out];exact ⟨_,_,hm8.weak HX2.out⟩),HRE⟩
 have n15:(o==15)=false:=by simp [h15]
 have HF1:Hid (R=(m.eat b).take (o,a,z) b):=by show _=_;rw [HBY.out];unfold Mach.byteI;rw [if_neg (by intro hh;exact absurd hh.1 h1),if_neg h15]
 go_wp2_with fail;refine wp_region_quiet_below (by kernel_rfl) (by kernel_rfl) ?_;repeat (go_big_quiet_step ((fail)))
 refine wpQuiet_nil (qnl ?_);intro w6 ew6;have HB6:=lhd (HB5.out.next ew6);have HR6:=lhd (HR5.out.trans (MR.of_ext ew6 (fun k hk=>HB5.out.low k (HX2.out k hk))));have HBIn:=lhd (HBI.out.ext ew6);have HOK1:=HOK;replace f0:=kx f0 ew6;replace f1:=kx f1 ew6;replace f2:=kx f2 ew6;replace r3:=r3 w6 ew6;clear r3';have HM1:Hid (R=((m:Mach).eat b).take (o,a,z) b):=HF1.out
 have HSL:Hid ((m:Mach).sums.length≤30):=HOK1.out.sm
 have HBI1:Hid (Box w6 w4.heap.size #[.int .i64 o,.int .i64 a,.int .i64 z] 79):=HBIn.out
 have HHI:=lhd ((fun hh=>absurd hh h1:o=1→1≤a∧a≤4∧0≤(m.eat b).left∧(m.eat b).left+1≤a));have CR:=lhd (fun m' w' h hi=>sReadM_c (fun k=>(X k∨k=w.heap.size)∨k=w4.heap.size) W0 p m' (o,a,z) b w' h hi HB0.out);have HMV:Hid (MV (fun k=>(X k∨k=w.heap.size)∨k=w4.heap.size) W0 w6 p m):=⟨_,_,HB6.out⟩
 have HRN:=lhd HR6.out;clear HF1 HOK1 HBIn HB6 HR6 CF2 s4 HOK HI1;generalize hm1:(m:Mach)=m1 at *;clear hm1;go_wp2_with fail;go_loopw [7] (fun q wr=>∃ k:Nat,k≤m1.sums.length∧q=.int .i64 (k:Int)∧Hid (MV (fun k=>(X k∨k=w.heap.size)∨k=w4.heap.size) W0 wr p { m1 with sums:=(m1.sums.take k).map (sumUp · b)++m1.sums.drop k })∧Hid (MR (fun k=>(X k∨k=w.heap.size)∨k=w4.heap.size) w6 wr)) (fun q _=>m1.sums.length-(intOf q).toNat)
 case atStart=>exact ⟨0,by omega,rfl,by show MV _ _ _ _ _;simpa using HMV.out,MR.refl _ _⟩
 case round =>
  clear HMV;obtain ⟨k,hk,rfl,hmv,hr⟩:=hrel;obtain ⟨vs',vq',hb'⟩:=hmv.out;clear hmv;have HL:Hid (((m1.sums.take k).map (sumUp · b)++m1.sums.drop k).length=m1.sums.length):=by show _=_;simp;omega
  by_cases hlt:k<m1.sums.length
  ·have HNX:=lhd (map_take_succ m1.sums [] (sumUp · b) k hlt)
   have HGET:Hid (∀ h,((m1.sums.take k).map (sumUp · b)++m1.sums.drop k)[k]'h=m1.sums[k]):=fun h=>by
    rw [List.getElem_append_right (by simp;omega)];simp [Nat.min_eq_left (by omega:k≤m1.sums.length)]
   have HLK:Hid (k<((m1.sums.take k).map (sumUp · b)++m1.sums.drop k).length):=by show _<_;rw [HL.out];exact hlt
   generalize ((m1.sums.take k).map (sumUp · b)++m1.sums.drop k)=L at *;obtain ⟨gq,cq,hvq,hcq1,hcq2⟩:=hb'.oq.base (by show 0<L.length;have:=HLK.out;omega);have hvq':vq'=.slice (some ⟨gq,0,none⟩) m1.sums.length cq:=by rw [hvq];show Value.slice _ L.length _=_;rw [HL.out]
   subst hvq';clear hvq;have HBK:=lhd hb';have r3:∀ w',Ext wr w'→w'.cell? ⟨p,3,none⟩=some (Value.slice (some ⟨gq,0,none⟩) m1.sums.length cq):=fun w' e=>(HBK.out.box.ext e).cell 3
   have hcl:∀ w',Ext wr w'→w'.cell? ⟨gq,k,none⟩=some (.int .i64 m1.sums[k]):=fun w' e=>by
    have:=OwnL.cellN (HBK.out.oq.ext e) k HLK.out;rw [this];show some (Value.int .i64 (L[k]'_))=_;rw [HGET.out]
   have hfr:=OwnL.freeN HBK.out.oq k;generalize m1.sums[k]=y at *;have HB6:=lhd (HBK.out.rowQ k (sumUp y b));have HR6:=lhd (hr.out.trans (MR.set (i:=k) (Value.int .i64 (sumUp y b)) HBK.out.gQ));have hki:(k:Int)<(m1.sums.length:Int):=by omega
   have hk30:(k:Int)+1≤30:=by have:=HSL.out;omega
   clear HGET HLK HL hb';go_wp2_with fail;refine region_qtail_below 16 (by kernel_rfl) (by kernel_rfl) ?_;simp only [List.take_succ_cons,List.take_zero,List.drop_succ_cons,List.drop_zero];repeat (go_big_quiet_step (fail))
   refine wpQuiet_nil (qnl ?_);intro w6 e6;have HB7:=lhd ((HBK.out.next e6).rowQ k (sumUp y b));have HR7:=lhd ((hr.out.trans (MR.of_ext e6 HBK.out.low)).trans (MR.set (i:=k) (Value.int .i64 (sumUp y b)) HBK.out.gQ));have hfr6:=OwnL.freeN (HBK.out.oq.ext e6) k;clear HB6 HR6;go_wp2;go_roundw
   case rel=>exact ⟨k+1,by omega,by go_num,(by show MV _ _ _ _ _;rw [← HNX.out];exact ⟨_,_,HB7.out⟩),HR7.out⟩
   case measure=>simp [intOf];omega
  ·have HE:Hid ((m1.sums.take k).map (sumUp · b)++m1.sums.drop k=m1.sums.map (sumUp · b)):=by
    show _=_;rw [List.take_of_length_le (by omega),List.drop_eq_nil_of_le (by omega),List.append_nil]
   rw [HE.out] at hb';have hle:m1.sums.length≤k:=by omega
   have HLM:Hid ((m1.sums.map (sumUp · b)).length=m1.sums.length):=by show _=_;simp
   obtain ⟨A3,c3,hv3⟩:=hb'.oq.len_shape;subst hv3;rw [show ({ m1 with sums:=m1.sums.map (sumUp · b) }:Mach).sums.length=m1.sums.length from HLM.out] at hb';have HBK:=lhd hb';have r3:wr.cell? ⟨p,3,none⟩=some (Value.slice A3 m1.sums.length c3):=HBK.out.box.cell 3
   have r9:wr.cell? ⟨p,9,none⟩=some (.int .i64 m1.read):=HBK.out.box.cell 9
   have f9:=HBK.out.box.free 9;have f4:=HBK.out.box.free 4;have HB6:=HBK.out.put (m':={ m1 with sums:=m1.sums.map (sumUp · b),read:=wrap64 (m1.read+1) }) 9 (.int .i64 (wrap64 (m1.read+1))) rfl rfl rfl;have t4:(wr.setCell ⟨p,9,none⟩ (.int .i64 (wrap64 (m1.read+1)))).cell? ⟨p,4,none⟩=some (.int .i64 m1.left):=HB6.box.cell 4
   have HB7:=HB6.put (m':=m1.eat b) 4 (.int .i64 (wrap64 (m1.left-1))) rfl rfl rfl;have HR7:=hr.out.trans ((MR.set (i:=9) (Value.int .i64 (wrap64 (m1.read+1))) HBK.out.xp).trans (MR.set (i:=4) (Value.int .i64 (wrap64 (m1.left-1))) HBK.out.xp));have hbx:Box _ w4.heap.size #[.int .i64 o,.int .i64 a,.int .i64 z] 79:=(HR7.kept _ (.inr rfl)).trans HBI1.out
   have u0:=hbx.cell 0;have u1:=hbx.cell 1;have u2:=hbx.cell 2;have hki:¬ (k:Int)<(m1.sums.length:Int):=by omega
   have hkd:decide ((k:Int)<(m1.sums.length:Int))=false:=decide_eq_false hki
   obtain ⟨w7,hw7⟩:=nmw ((wr.setCell ⟨p,9,none⟩ (.int .i64 (wrap64 (m1.read+1)))).setCell ⟨p,4,none⟩ (.int .i64 (wrap64 (m1.left-1))));have HB8:=lhd HB7;have HR8:=lhd HR7;rw [← hw7.out] at HB8 HR8;clear HB6 HB7 HR7 hbx HBK hb' HE HLM;go_wp2_with fail;rw [← hw7.out];refine (CR.out (m1.eat b) _ ⟨_,_,HB8.out⟩ HHI.out).mono ?_;rintro _ w8 ⟨rfl,⟨vs8,vq8,hm8⟩,hr8⟩;have HRE:=HRN.out.trans ((HR8.out.trans hr8).weak HX2.out);have HF:=HM1;go_wp2
   first
    | exact bodyPost_end (results_none rfl _ _ _) rfl ⟨rfl,(by rw [HF.out];exact ⟨_,_,hm8.weak HX2.out⟩),HRE⟩
    | exact bodyPost_ret (results_none rfl _ _ _) rfl ⟨rfl,(by rw [HF.out];exact ⟨_,_,hm8.weak HX2.out⟩),HRE⟩
theorem advM_eq (cs:List Ins) (es:List Int) (m:Mach):advM cs es m=advF (fitsOk cs es) cs m:=rfl
theorem fits_op {cs:List Ins} {es:List Int} (h:fitsOk cs es=true) (j:Nat) (hj:j<cs.length) (h1:(insAt cs (j:Int)).1=1):1≤(insAt cs (j:Int)).2.1∧(insAt cs (j:Int)).2.1≤4:=by
 unfold fitsOk safeOk at h;simp only [Bool.and_eq_true] at h;have h2:=allFrom_at (p:=fun i=>insOk cs (i:Int)) h.1.1.1.2 j (Nat.zero_le _) (by omega);unfold insOk at h2;simp only [Bool.and_eq_true] at h2;have h3:=h2.2;unfold operOk at h3;rw [if_pos h1] at h3;unfold inB at h3;simp only [Bool.and_eq_true,decide_eq_true_eq] at h3;exact h3.1
theorem MB.laid {W1 w2:World} {m:Mach} {vs vq:Value} (ho1:OwnL vint 3 W1 w2 vs m.stack) (ho2:OwnL vint 3 W1 w2 vq m.sums) (hfar:∀ b,vs.ownBlock=some b→vq.ownBlock≠some b) (e2:Ext W1 w2) :
 MB (·<W1.heap.size) W1 (w2.alloc (.cells (mcells m vs vq) 67)) w2.heap.size m vs vq:=by
 have h2:=e2.size;exact ⟨h2,Box.new _ _ _,ho1.ext (Ext_alloc _ (Ext.refl _)),ho2.ext (Ext_alloc _ (Ext.refl _)),fun hh=>by have:=(World.ownsRow.lt ho1 _ hh).2;omega,fun hh=>by have:=(World.ownsRow.lt ho2 _ hh).2;omega,hfar,by show ¬ _<_;omega,fun b hb hx=>by have:=(World.ownsRow.lt ho1 b hb).1;have hx':b<W1.heap.size:=hx;omega,fun b hb hx=>by have:=(World.ownsRow.lt ho2 b hb).1;have hx':b<W1.heap.size:=hx;omega,fun k hk=>by have hk':k<W1.heap.size:=hk;simp;omega,Ext_alloc _ e2⟩
theorem sFeed_c (m:Mach) (A1:Option Addr) (c1:Nat) (A2:Option Addr) (c2:Nat) (Ac:Option Addr) (cs:List Ins) (cc:Nat) (Ae:Option Addr) (es:List Int) (ce:Nat) (b:Int) (w:World) (hC:RdI w Ac cs cc) (hE:Is w Ae es ce) (hel:es.length≤1000000) (hS:Is w A1 m.stack c1) (hQ:Is w A2 m.sums c2) (hm:m.Ok) (hb:0≤b∧b≤255) :
 Calls Tryz.prog 52 #[.agg #[.slice Ac cs.length cc,.slice Ae es.length ce],mval m (.slice A1 m.stack.length c1) (.slice A2 m.sums.length c2),.int .i64 b] w (MRes (feedF (fitsOk cs es) cs m b) w):=by
 unfold MRes;have hl:=hC.len;have hcp:=hC.cap;obtain ⟨W1,hW1,B1,B2,B3,e1,hsz⟩:=boxes3' w #[.slice Ac cs.length cc,.slice Ae es.length ce] (mcells m (.slice A1 m.stack.length c1) (.slice A2 m.sums.length c2)) (mcells ⟨0,0,[],[],0,false,false,0,0,0⟩ (.slice none 0 0) (.slice none 0 0)) 55 67 67;have CA0:=lhd (fun w' (e:Ext W1 w')=>sAdvM_c m A1 c1 A2 c2 Ac cs cc Ae es ce w' (hC.ext (e1.trans e)) (hE.ext (e1.trans e)) hel (hS.ext (e1.trans e)) (hQ.ext (e1.trans e)) hm);have CI:=lhd (fun w'=>l1In_c b 0 255 w');have HD:Hid ((decide ((0:Int)≤b)&&decide (b≤255))=true):=by show _=_;simp;omega
 have HC:=lhd (hC.ext e1);have HOK:=lhd (advF_ok (f:=fitsOk cs es) (cs:=cs) hm);have HFE:Hid (feedF (fitsOk cs es) cs m b=feedO cs (advF (fitsOk cs es) cs m) b):=rfl
 have HRUN:Hid ((advF (fitsOk cs es) cs m).state=0→∀ j,j<cs.length→(insAt cs (j:Int)).1=1→1≤(insAt cs (j:Int)).2.1∧(insAt cs (j:Int)).2.1≤4):=fun h j hj h1=>fits_op (advF_run h).1 j hj h1
 have HSZ:=lhd hsz;have HE1:=lhd e1;have HB3:=lhd B3;have HBB:=lhd hb;have p0:∀ w',Ext W1 w'→w'.cell? ⟨w.heap.size,0,none⟩=some (Value.slice Ac cs.length cc):=B1.at 0
 have p1:∀ w',Ext W1 w'→w'.cell? ⟨w.heap.size,1,none⟩=some (Value.slice Ae es.length ce):=B1.at 1
 have t2w:=fun i w' e=>B2.at i w' e
 clear B1 B3 hsz hS hQ hC hE hm hb;unfold MRes mval at CA0;unfold mval;rw [advM_eq] at CA0;rw [HFE.out];generalize advF (fitsOk cs es) cs m=q at *;unfold mcells at hW1 t2w;dsimp only at hW1;have k0:=t2w 0;have k1:=t2w 1;have k2:=t2w 2;have k3:=t2w 3;have k4:=t2w 4;have k5:=t2w 5;have k6:=t2w 6;have k7:=t2w 7;have k8:=t2w 8;have k9:=t2w 9;clear t2w B2 HFE;simp only [List.getElem?_toArray,List.getElem?_cons_zero,List.getElem?_cons_succ] at k0 k1 k2 k3 k4 k5 k6 k7 k8 k9;obtain ⟨R,HRV⟩:∃ R,Hid (feedO cs q b=R):=⟨_,rfl⟩;rw [HRV.out];unfold mcells at *;go_enter Tryz.func52,Tryz.ntmps52;go_wp2_with fail;rw [← hW1.out];refine (CI.out _).mono ?_;rintro _ w0 ⟨rfl,e0⟩;rw [HD.out];replace p0:=kx p0 e0;replace p1:=kx p1 e0;replace k0:=kx k0 e0;replace k1:=kx k1 e0;replace k2:=kx k2 e0;replace k3:=kx k3 e0;replace k4:=kx k4 e0;replace k5:=kx k5 e0;replace k6:=kx k6 e0;replace k7:=kx k7 e0;replace k8:=kx k8 e0;replace k9:=kx k9 e0;go_wp2_with fail;refine (CA0.out w0 e0).mono ?_;rintro _ w2 ⟨vs,vq,rfl,ho1,ho2,hfar,e2⟩;obtain ⟨S1,d1',hvs⟩:=ho1.len_shape;obtain ⟨S2,d2',hvq⟩:=ho2.len_shape;subst hvs;subst hvq;have HB:=lhd (MB.laid (ho1.down e0.size) (ho2.down e0.size) hfar (e0.trans e2));obtain ⟨W3,hW3⟩:=nmw (w2.alloc (.cells (mcells q (.slice S1 q.stack.length d1') (.slice S2 q.sums.length d2')) 67));rw [← hW3.out] at HB;unfold mcells at hW3;clear ho1 ho2 hfar k0 k1 k2 k3 k4 k5 k6 k7 k8 k9;have E3:=HB.out.ext;have e23:Ext w2 W3:=ka hW3
 replace p0:=fun w' (e:Ext W3 w')=>p0 w' (e2.trans (e23.trans e))
 replace p1:=fun w' (e:Ext W3 w')=>p1 w' (e2.trans (e23.trans e))
 go_upto_if 18 with (fail);rw [← hW3.out];have HCR:Hid (∀ w',MR (·<W1.heap.size) W3 w'→RdI w' Ac cs cc):=fun w' hr=>HC.out.ext (MR.to_ext ((MR.of_ext E3 (fun k hk=>hk)).trans hr))
 have CFA:=lhd (fun w' h=>sFail_c (·<W1.heap.size) W1 w2.heap.size q 7 w' h)
 by_cases h1:q.state=1
 ·have HA:Hid (R=q.fail 7):=by show _=_;rw [← HRV.out];unfold feedO;rw [if_pos h1]
  have hb1:(q.state==1)=true:=by simp [h1]
  go_wp2_with fail;refine (CFA.out _ ⟨_,_,HB.out⟩).mono ?_;rintro _ w5 ⟨rfl,⟨vs5,vq5,hm5⟩,hr5⟩;generalize q.fail 7=r at *;obtain ⟨S5,d5,hvs5⟩:=hm5.os.len_shape;obtain ⟨S6,d6,hvq5⟩:=hm5.oq.len_shape;subst hvs5;subst hvq5;have HB5:=lhd hm5;clear hm5 hr5;have bx:=HB5.out.box;have u0:w5.cell? ⟨w2.heap.size,0,none⟩=some (.int .i64 r.pc):=bx.cell 0
  have u1:w5.cell? ⟨w2.heap.size,1,none⟩=some (.int .i64 r.reg):=bx.cell 1
  have u2:w5.cell? ⟨w2.heap.size,2,none⟩=some (Value.slice S5 r.stack.length d5):=bx.cell 2
  have u3:w5.cell? ⟨w2.heap.size,3,none⟩=some (Value.slice S6 r.sums.length d6):=bx.cell 3
  have u4:w5.cell? ⟨w2.heap.size,4,none⟩=some (.int .i64 r.left):=bx.cell 4
  have u5:w5.cell? ⟨w2.heap.size,5,none⟩=some (.bool r.started):=bx.cell 5
  have u6:w5.cell? ⟨w2.heap.size,6,none⟩=some (.bool r.escaped):=bx.cell 6
  have u7:w5.cell? ⟨w2.heap.size,7,none⟩=some (.int .i64 r.state):=bx.cell 7
  have u8:w5.cell? ⟨w2.heap.size,8,none⟩=some (.int .i64 r.code):=bx.cell 8
  have u9:w5.cell? ⟨w2.heap.size,9,none⟩=some (.int .i64 r.read):=bx.cell 9
  have br:=HB3.out.ext HB5.out.ext;have t2:=br.cell;have tf:=br.free;unfold mcells at t2;have FN:=lhd (HB5.out.fin HE1.out (g:=w.heap.size+1+1) (by omega) (by rw [HSZ.out];omega));clear bx br;go_wp2;refine bodyPost_ret (v:=.agg #[.int .i64 r.pc,.int .i64 r.reg,(Value.slice S5 r.stack.length d5),(Value.slice S6 r.sums.length d6),.int .i64 r.left,.bool r.started,.bool r.escaped,.int .i64 r.state,.int .i64 r.code,.int .i64 r.read]) (by simp [results,Tryz.results52,go_sem,t2,tf]) rfl ?_;rw [HA.out];exact ⟨_,_,rfl,FN.out.1,FN.out.2.1,HB5.out.far,FN.out.2.2⟩
 have n1:(q.state==1)=false:=by simp [h1]
 by_cases h0:q.state=0
 ·have HA:Hid (R=Mach.byte cs q b):=by show _=_;rw [← HRV.out];unfold feedO;rw [if_neg h1,if_pos h0]
  have hb0:(q.state==0)=true:=by simp [h0]
  have CBY:=lhd (fun w' h hC=>sByteM_c (·<W1.heap.size) W1 w2.heap.size q Ac cs cc Ae es ce b w' h HOK.out hC (HRUN.out h0) HBB.out);have u7:W3.cell? ⟨w2.heap.size,7,none⟩=some (.int .i64 q.state):=HB.out.box.cell 7
  go_wp2_with fail;refine (CBY.out _ ⟨_,_,HB.out⟩ HCR.out).mono ?_;rintro _ w5 ⟨rfl,⟨vs5,vq5,hm5⟩,hr5⟩;generalize Mach.byte cs q b=r at *;clear u7;obtain ⟨S5,d5,hvs5⟩:=hm5.os.len_shape;obtain ⟨S6,d6,hvq5⟩:=hm5.oq.len_shape;subst hvs5;subst hvq5;have HB5:=lhd hm5;clear hm5 hr5;have bx:=HB5.out.box;have u0:w5.cell? ⟨w2.heap.size,0,none⟩=some (.int .i64 r.pc):=bx.cell 0
  have u1:w5.cell? ⟨w2.heap.size,1,none⟩=some (.int .i64 r.reg):=bx.cell 1
  have u2:w5.cell? ⟨w2.heap.size,2,none⟩=some (Value.slice S5 r.stack.length d5):=bx.cell 2
  have u3:w5.cell? ⟨w2.heap.size,3,none⟩=some (Value.slice S6 r.sums.length d6):=bx.cell 3
  have u4:w5.cell? ⟨w2.heap.size,4,none⟩=some (.int .i64 r.left):=bx.cell 4
  have u5:w5.cell? ⟨w2.heap.size,5,none⟩=some (.bool r.started):=bx.cell 5
  have u6:w5.cell? ⟨w2.heap.size,6,none⟩=some (.bool r.escaped):=bx.cell 6
  have u7:w5.cell? ⟨w2.heap.size,7,none⟩=some (.int .i64 r.state):=bx.cell 7
  have u8:w5.cell? ⟨w2.heap.size,8,none⟩=some (.int .i64 r.code):=bx.cell 8
  have u9:w5.cell? ⟨w2.heap.size,9,none⟩=some (.int .i64 r.read):=bx.cell 9
  have br:=HB3.out.ext HB5.out.ext;have t2:=br.cell;have tf:=br.free;unfold mcells at t2;have FN:=lhd (HB5.out.fin HE1.out (g:=w.heap.size+1+1) (by omega) (by rw [HSZ.out];omega));clear bx br;go_wp2;refine bodyPost_ret (v:=.agg #[.int .i64 r.pc,.int .i64 r.reg,(Value.slice S5 r.stack.length d5),(Value.slice S6 r.sums.length d6),.int .i64 r.left,.bool r.started,.bool r.escaped,.int .i64 r.state,.int .i64 r.code,.int .i64 r.read]) (by simp [results,Tryz.results52,go_sem,t2,tf]) rfl ?_;rw [HA.out];exact ⟨_,_,rfl,FN.out.1,FN.out.2.1,HB5.out.far,FN.out.2.2⟩
 have HA:Hid (R=q):=by show _=_;rw [← HRV.out];unfold feedO;rw [if_neg h1,if_neg h0]
 have n0:(q.state==0)=false:=by simp [h0]
 have bx:=HB.out.box;have u0:W3.cell? ⟨w2.heap.size,0,none⟩=some (.int .i64 q.pc):=bx.cell 0
 have u1:W3.cell? ⟨w2.heap.size,1,none⟩=some (.int .i64 q.reg):=bx.cell 1
 have u2:W3.cell? ⟨w2.heap.size,2,none⟩=some (Value.slice S1 q.stack.length d1'):=bx.cell 2
 have u3:W3.cell? ⟨w2.heap.size,3,none⟩=some (Value.slice S2 q.sums.length d2'):=bx.cell 3
 have u4:W3.cell? ⟨w2.heap.size,4,none⟩=some (.int .i64 q.left):=bx.cell 4
 have u5:W3.cell? ⟨w2.heap.size,5,none⟩=some (.bool q.started):=bx.cell 5
 have u6:W3.cell? ⟨w2.heap.size,6,none⟩=some (.bool q.escaped):=bx.cell 6
 have u7:W3.cell? ⟨w2.heap.size,7,none⟩=some (.int .i64 q.state):=bx.cell 7
 have u8:W3.cell? ⟨w2.heap.size,8,none⟩=some (.int .i64 q.code):=bx.cell 8
 have u9:W3.cell? ⟨w2.heap.size,9,none⟩=some (.int .i64 q.read):=bx.cell 9
 have br:=HB3.out.ext HB.out.ext;have t2:=br.cell;have tf:=br.free;unfold mcells at t2;have FN:=lhd (HB.out.fin HE1.out (g:=w.heap.size+1+1) (by omega) (by rw [HSZ.out];omega));clear bx br;go_wp2;refine bodyPost_ret (v:=.agg #[.int .i64 q.pc,.int .i64 q.reg,(Value.slice S1 q.stack.length d1'),(Value.slice S2 q.sums.length d2'),.int .i64 q.left,.bool q.started,.bool q.escaped,.int .i64 q.state,.int .i64 q.code,.int .i64 q.read]) (by simp [results,Tryz.results52,go_sem,t2,tf]) rfl ?_;rw [HA.out];exact ⟨_,_,rfl,FN.out.1,FN.out.2.1,HB.out.far,FN.out.2.2⟩
end Go.Proofs.YtpmcofmdjckijaaGreat
