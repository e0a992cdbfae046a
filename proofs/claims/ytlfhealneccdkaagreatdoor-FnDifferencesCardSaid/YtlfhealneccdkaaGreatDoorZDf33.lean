/- Texts, laid into one. -/
import Derived.Test.YtlfhealneccdkaaGreatDoorZDf28
set_option linter.unusedVariables false
set_option linter.unusedSimpArgs false
set_option maxRecDepth 100000
set_option maxHeartbeats 16000000
namespace Go.Proofs.YtlfhealneccdkaaGreatDoor
open Go.RowKit Go.Sort
theorem l9Make2_c (Ad:Option Addr) (ds:List DRule) (cd:Nat) (hok:descOk ds=true) (i:Nat) (hi:i<ds.length) (hk:ds[i].kind=2) (wb:World) (p:Nat) (A:Option Addr) (l:List UInt8) (c:Nat) (hA:Bs wb A l c) (HR:∀ j,j<i→MakeOk Ad ds cd wb p A l c j):MakeOk Ad ds cd wb p A l c i:=by
 intro m hm w hC hD;have hplt:=hC.lt;have hbw:=hC.2.1.size;have hdl:=(descOk_len hok).2;have CBe:=lhd (fun n w h hn=>l1Below_c n wb w p A l c hA h hn);have COn:=lhd (fun n w h hn=>l1Once_c n wb w p A l c hA h hn);obtain ⟨g,off,hAd,hgw,hall⟩:=hD.out;obtain ⟨Ab,cb,An,cn,At,ct,Ak,ck,hst⟩:=hall i hi;subst hAd;have hS:=(hst w (World.grownBy.refl _ _)).1;obtain ⟨r0,r1,r2,r3,r4,r5,r6,r7⟩:=(hst w (World.grownBy.refl _ _)).2;have HST:=lhd hst;have HD:=lhd hD;have HC:=lhd hC;have hii:(i:Int)<(ds.length:Int):=by omega
 have hi0:(0:Int)≤(i:Int):=by omega
 clear hall hst hD;have t1:=kfF hk 1;have t3:=kfF hk 3;have t4:=kfF hk 4;have t10:=kfF hk 10;have t5:=kfF hk 5;have t6:=kfF hk 6;have t7:=kfF hk 7;have t8:=kfF hk 8;have t9:=kfF hk 9;have HFT:Hid (FitV ds i (.mk 0 [] [])):=made2 hi hk
 generalize ds[i]=r at *;obtain ⟨W0,W1,HW0,HW1,B1,B2,B3,B4,e0,x1,hs0,hs1⟩:=boxes4' w #[Value.slice (some ⟨g,off,none⟩) ds.length cd] val0 (rcs r Ab cb An cn At ct Ak ck) val0 26 29 67 29;have e01:=e0.trans x1
 have M0:Hid (VM wb w W1 p A l c (Value.slice (some ⟨g,off,none⟩) ds.length cd) (rcs r Ab cb An cn At ct Ak ck) 0 (.slice none 0 0) [] (.slice none 0 0) []) :=
  ⟨B1.ext x1,B2.ext x1,B3.ext x1,B4,OwnL.nil _ _,OwnTs.nil _ _,by simp [Far,Value.ownBlock],by simp [Value.ownBlock],HC.out.ext e01,grown_ext e01 _⟩
 have q0:∀ w',Ext W0 w'→_=some (Value.slice (some ⟨g,off,none⟩) ds.length cd):=B1.at 0
 have k0:∀ w',Ext W0 w'→_=some (Value.string r.nm):=B3.at 0
 have k1:∀ w',Ext W0 w'→_=some (Value.int .i64 r.kind):=B3.at 1
 have k2:∀ w',Ext W0 w'→_=some (Value.int .i64 r.size):=B3.at 2
 have k3:∀ w',Ext W0 w'→_=some (Value.bool r.little):=B3.at 3
 have k4:∀ w',Ext W0 w'→_=some (Value.slice Ab r.bytes.length cb):=B3.at 4
 have k5:∀ w',Ext W0 w'→_=some (Value.slice An r.names.length cn):=B3.at 5
 have k6:∀ w',Ext W0 w'→_=some (Value.slice At r.tags.length ct):=B3.at 6
 have k7:∀ w',Ext W0 w'→_=some (Value.slice Ak r.kids.length ck):=B3.at 7
 have HWM:Hid (IntKind.i64.wrap ((m:Int) / 2)=((m / 2:Nat):Int)):=by
  show _=_
  rw [IntWalk.i64_in _ (by omega)];omega
 have HS1:=lhd hs1;have HX1:=lhd x1;clear B1 B2 B3 B4 hs0 hs1 hk;unfold val0 at *;go_enter Tryz.func33,Tryz.ntmps33;rw [HW1.out,HW0.out] at M0;have HOUT:=lhd M0.out.asis;have m0:_=some (Value.int .i64 0):=M0.out.box.cell 0
 have m1:_=some (Value.slice none 0 0):=M0.out.box.cell 1
 have m2:_=some (Value.slice none 0 0):=M0.out.box.cell 2
 have f1:=M0.out.res.cell;have f2:=M0.out.res.free;go_wp2;obtain ⟨hO,hF,hN,hCc,hG⟩:=HOUT.out;exact bodyPost_ret (v:=.agg #[.int .i64 0,.slice none 0 0,.slice none 0 0]) (by simp [results,Tryz.results33,go_sem,f1,f2]) rfl ⟨.mk 0 [] (.slice none 0 0) [] (.slice none 0 0),_,_,_,_,_,_,rfl,⟨rfl,rfl⟩,⟨HFT.out.1,HFT.out.2,hO,hF,hN,hCc,hG⟩⟩
theorem l9Make1_c (Ad:Option Addr) (ds:List DRule) (cd:Nat) (hok:descOk ds=true) (i:Nat) (hi:i<ds.length) (hk:ds[i].kind=1) (wb:World) (p:Nat) (A:Option Addr) (l:List UInt8) (c:Nat) (hA:Bs wb A l c) (HR:∀ j,j<i→MakeOk Ad ds cd wb p A l c j):MakeOk Ad ds cd wb p A l c i:=by
 intro m hm w hC hD;have hplt:=hC.lt;have hbw:=hC.2.1.size;have hdl:=(descOk_len hok).2;have CBe:=lhd (fun n w h hn=>l1Below_c n wb w p A l c hA h hn);have COn:=lhd (fun n w h hn=>l1Once_c n wb w p A l c hA h hn);obtain ⟨g,off,hAd,hgw,hall⟩:=hD.out;obtain ⟨Ab,cb,An,cn,At,ct,Ak,ck,hst⟩:=hall i hi;subst hAd;have hS:=(hst w (World.grownBy.refl _ _)).1;obtain ⟨r0,r1,r2,r3,r4,r5,r6,r7⟩:=(hst w (World.grownBy.refl _ _)).2;have HST:=lhd hst;have HD:=lhd hD;have HC:=lhd hC;have hii:(i:Int)<(ds.length:Int):=by omega
 have hi0:(0:Int)≤(i:Int):=by omega
 clear hall hst hD;have t1:=kfT hk 1;have t3:=kfF hk 3;have t4:=kfF hk 4;have t10:=kfF hk 10;have t5:=kfF hk 5;have t6:=kfF hk 6;have t7:=kfF hk 7;have t8:=kfF hk 8;have t9:=kfF hk 9;obtain ⟨s,hs,hs1,hs4,hft⟩:=made1 hok hi hk;have HFT:=lhd hft;clear hft;have CP:Hid (∀ w,Gives Tryz.prog 61 #[.int .i64 ds[i].size] w (.int .i64 (256^s))):=fun w=>by rw [hs];exact l2PowerN_c s w hs1 hs4
 clear hs;have CM:=lhd (fun w=>sMin_c (256^s) 70000 w);generalize ds[i]=r at *;obtain ⟨W0,W1,HW0,HW1,B1,B2,B3,B4,e0,x1,hs0,hs1⟩:=boxes4' w #[Value.slice (some ⟨g,off,none⟩) ds.length cd] val0 (rcs r Ab cb An cn At ct Ak ck) val0 26 29 67 29;have e01:=e0.trans x1
 have M0:Hid (VM wb w W1 p A l c (Value.slice (some ⟨g,off,none⟩) ds.length cd) (rcs r Ab cb An cn At ct Ak ck) 0 (.slice none 0 0) [] (.slice none 0 0) []) :=
  ⟨B1.ext x1,B2.ext x1,B3.ext x1,B4,OwnL.nil _ _,OwnTs.nil _ _,by simp [Far,Value.ownBlock],by simp [Value.ownBlock],HC.out.ext e01,grown_ext e01 _⟩
 have q0:∀ w',Ext W0 w'→_=some (Value.slice (some ⟨g,off,none⟩) ds.length cd):=B1.at 0
 have k0:∀ w',Ext W0 w'→_=some (Value.string r.nm):=B3.at 0
 have k1:∀ w',Ext W0 w'→_=some (Value.int .i64 r.kind):=B3.at 1
 have k2:∀ w',Ext W0 w'→_=some (Value.int .i64 r.size):=B3.at 2
 have k3:∀ w',Ext W0 w'→_=some (Value.bool r.little):=B3.at 3
 have k4:∀ w',Ext W0 w'→_=some (Value.slice Ab r.bytes.length cb):=B3.at 4
 have k5:∀ w',Ext W0 w'→_=some (Value.slice An r.names.length cn):=B3.at 5
 have k6:∀ w',Ext W0 w'→_=some (Value.slice At r.tags.length ct):=B3.at 6
 have k7:∀ w',Ext W0 w'→_=some (Value.slice Ak r.kids.length ck):=B3.at 7
 have HWM:Hid (IntKind.i64.wrap ((m:Int) / 2)=((m / 2:Nat):Int)):=by
  show _=_
  rw [IntWalk.i64_in _ (by omega)];omega
 have HS1:=lhd hs1;have HX1:=lhd x1;clear B1 B2 B3 B4 hs0 hs1 hk;obtain ⟨N,hN⟩:∃ N:Int,N=(if (70000:Int)<256^s then 70000 else 256^s):=⟨_,rfl⟩
 have HN:Hid (N≤70000∧∀ x:Nat,below N x→x<256^s):=by
  have hp:(256:Int)^s=((256^s:Nat):Int):=by push_cast;rfl
  have hp1:0<256^s:=Nat.pow_pos (by omega)
  rw [hN,hp]
  split
  ·exact ⟨by omega,fun x hx=>by unfold below at hx;rw [if_neg (by omega)] at hx;omega⟩
  ·exact ⟨by omega,fun x hx=>by unfold below at hx;rw [if_neg (by omega)] at hx;omega⟩
 rw [← hN] at CM;clear hN;generalize (256:Int)^s=Z at *;have hN7:=HN.out.1;unfold val0 at *;go_enter Tryz.func33,Tryz.ntmps33;go_wp2_with fail;rw [← HW0.out,← HW1.out];refine (CP.out _).mono ?_;rintro _ w1 ⟨rfl,he1⟩;have M1:=lhd (M0.out.ext hplt he1);clear M0;go_wp2_with fail;refine (CM.out _).mono ?_;rintro _ w2 ⟨rfl,he2⟩;have M2:=lhd (M1.out.ext hplt he2);clear M1;go_wp2_with fail;refine (CBe.out N _ M2.out.cur (by omega)).mono ?_;rintro _ w3 ⟨x,hx,rfl,hC3,hg3⟩;have M3:=lhd (M2.out.moved hplt hC3 hg3);have HX:=lhd (HN.out.2 x hx);have z0:_=some (Value.int .i64 0):=M3.out.box.cell 0
 have y0:=M3.out.box.free 0;have M4:=lhd (M3.out.num hplt hbw (x:Int));have kk:=M3.out.rb.cell 1;clear M2 hC3 hg3 hx HN;have m0:_=some (Value.int .i64 (x:Int)):=M4.out.box.cell 0
 have m1:_=some (Value.slice none 0 0):=M4.out.box.cell 1
 have m2:_=some (Value.slice none 0 0):=M4.out.box.cell 2
 have f1:=M4.out.res.cell;have f2:=M4.out.res.free;have HOUT:=lhd (M4.out.out hplt hbw (.int .i64 (x:Int)) (Value.slice none 0 0) (Value.slice none 0 0));have HV:=lhd (HFT.out x HX.out);go_wp2_with fail;obtain ⟨hO,hF,hN,hCc,hG⟩:=HOUT.out;exact bodyPost_ret (v:=.agg #[.int .i64 (x:Int),Value.slice none 0 0,Value.slice none 0 0]) (by simp [results,Tryz.results33,go_sem,f1,f2]) rfl ⟨.mk (x:Int) [] (Value.slice none 0 0) [] (Value.slice none 0 0),_,_,_,_,_,_,rfl,⟨rfl,rfl⟩,⟨HV.out.1,HV.out.2,hO,hF,hN,hCc,hG⟩⟩
theorem l9Make3_c (Ad:Option Addr) (ds:List DRule) (cd:Nat) (hok:descOk ds=true) (i:Nat) (hi:i<ds.length) (hk:ds[i].kind=3) (wb:World) (p:Nat) (A:Option Addr) (l:List UInt8) (c:Nat) (hA:Bs wb A l c) (HR:∀ j,j<i→MakeOk Ad ds cd wb p A l c j):MakeOk Ad ds cd wb p A l c i:=by
 intro m hm w hC hD;have hplt:=hC.lt;have hbw:=hC.2.1.size;have hdl:=(descOk_len hok).2;have CBe:=lhd (fun n w h hn=>l1Below_c n wb w p A l c hA h hn);have COn:=lhd (fun n w h hn=>l1Once_c n wb w p A l c hA h hn);obtain ⟨g,off,hAd,hgw,hall⟩:=hD.out;obtain ⟨Ab,cb,An,cn,At,ct,Ak,ck,hst⟩:=hall i hi;subst hAd;have hS:=(hst w (World.grownBy.refl _ _)).1;obtain ⟨r0,r1,r2,r3,r4,r5,r6,r7⟩:=(hst w (World.grownBy.refl _ _)).2;have HST:=lhd hst;have HD:=lhd hD;have HC:=lhd hC;have hii:(i:Int)<(ds.length:Int):=by omega
 have hi0:(0:Int)≤(i:Int):=by omega
 clear hall hst hD;have t1:=kfF hk 1;have t3:=kfT hk 3;have t4:=kfF hk 4;have t10:=kfF hk 10;have t5:=kfF hk 5;have t6:=kfF hk 6;have t7:=kfF hk 7;have t8:=kfF hk 8;have t9:=kfF hk 9;obtain ⟨s,hs,hs64,hft⟩:=made3 hok hi hk;have HFT:=lhd hft;clear hft;have CB:=fun w h=>l1Bytes_c s hs64 wb w p A l c hA h
 rw [← hs] at CB;have CB:=lhd CB;clear hs;generalize ds[i]=r at *;obtain ⟨W0,W1,HW0,HW1,B1,B2,B3,B4,e0,x1,hs0,hs1⟩:=boxes4' w #[Value.slice (some ⟨g,off,none⟩) ds.length cd] val0 (rcs r Ab cb An cn At ct Ak ck) val0 26 29 67 29;have e01:=e0.trans x1
 have M0:Hid (VM wb w W1 p A l c (Value.slice (some ⟨g,off,none⟩) ds.length cd) (rcs r Ab cb An cn At ct Ak ck) 0 (.slice none 0 0) [] (.slice none 0 0) []) :=
  ⟨B1.ext x1,B2.ext x1,B3.ext x1,B4,OwnL.nil _ _,OwnTs.nil _ _,by simp [Far,Value.ownBlock],by simp [Value.ownBlock],HC.out.ext e01,grown_ext e01 _⟩
 have q0:∀ w',Ext W0 w'→_=some (Value.slice (some ⟨g,off,none⟩) ds.length cd):=B1.at 0
 have k0:∀ w',Ext W0 w'→_=some (Value.string r.nm):=B3.at 0
 have k1:∀ w',Ext W0 w'→_=some (Value.int .i64 r.kind):=B3.at 1
 have k2:∀ w',Ext W0 w'→_=some (Value.int .i64 r.size):=B3.at 2
 have k3:∀ w',Ext W0 w'→_=some (Value.bool r.little):=B3.at 3
 have k4:∀ w',Ext W0 w'→_=some (Value.slice Ab r.bytes.length cb):=B3.at 4
 have k5:∀ w',Ext W0 w'→_=some (Value.slice An r.names.length cn):=B3.at 5
 have k6:∀ w',Ext W0 w'→_=some (Value.slice At r.tags.length ct):=B3.at 6
 have k7:∀ w',Ext W0 w'→_=some (Value.slice Ak r.kids.length ck):=B3.at 7
 have HWM:Hid (IntKind.i64.wrap ((m:Int) / 2)=((m / 2:Nat):Int)):=by
  show _=_
  rw [IntWalk.i64_in _ (by omega)];omega
 have HS1:=lhd hs1;have HX1:=lhd x1;clear B1 B2 B3 B4 hs0 hs1 hk;unfold val0 at *;go_enter Tryz.func33,Tryz.ntmps33;go_wp2_with fail;rw [← HW0.out,← HW1.out];refine (CB.out _ M0.out.cur).mono ?_;rintro _ w3 ⟨v,bs,hbl,rfl,hO3,hn3,hC3,hg3⟩;obtain ⟨A3,c3,hsh⟩:=Own.shape hO3;subst hsh;have M3:=lhd (M0.out.moved hplt hC3 hg3);have HX:=lhd (HFT.out bs hbl);have z0:_=some (Value.slice none 0 0):=M3.out.box.cell 1
 have y0:=M3.out.box.free 1;have M4:=lhd (M3.out.bytes hplt hbw hO3 hn3 (by simp [Value.ownBlock]) (by have:=M0.out.size;omega));clear M0 M3 hC3 hg3 hO3 hn3 hbl;have m0:_=some (Value.int .i64 0):=M4.out.box.cell 0
 have m1:_=some (Value.slice A3 bs.length c3):=M4.out.box.cell 1
 have m2:_=some (Value.slice none 0 0):=M4.out.box.cell 2
 have f1:=M4.out.res.cell;have f2:=M4.out.res.free;have HOUT:=lhd (M4.out.out hplt hbw (.int .i64 0) (Value.slice A3 bs.length c3) (Value.slice none 0 0));have HV:=lhd (HX.out);go_wp2_with fail;obtain ⟨hO,hF,hN,hCc,hG⟩:=HOUT.out;exact bodyPost_ret (v:=.agg #[.int .i64 0,Value.slice A3 bs.length c3,Value.slice none 0 0]) (by simp [results,Tryz.results33,go_sem,f1,f2]) rfl ⟨.mk 0 bs (Value.slice A3 bs.length c3) [] (Value.slice none 0 0),_,_,_,_,_,_,rfl,⟨rfl,rfl⟩,⟨HV.out.1,HV.out.2,hO,hF,hN,hCc,hG⟩⟩
theorem l9Make9_c (Ad:Option Addr) (ds:List DRule) (cd:Nat) (hok:descOk ds=true) (i:Nat) (hi:i<ds.length) (hk:ds[i].kind=9) (wb:World) (p:Nat) (A:Option Addr) (l:List UInt8) (c:Nat) (hA:Bs wb A l c) (HR:∀ j,j<i→MakeOk Ad ds cd wb p A l c j):MakeOk Ad ds cd wb p A l c i:=by
 intro m hm w hC hD;have hplt:=hC.lt;have hbw:=hC.2.1.size;have hdl:=(descOk_len hok).2;have CBe:=lhd (fun n w h hn=>l1Below_c n wb w p A l c hA h hn);have COn:=lhd (fun n w h hn=>l1Once_c n wb w p A l c hA h hn);obtain ⟨g,off,hAd,hgw,hall⟩:=hD.out;obtain ⟨Ab,cb,An,cn,At,ct,Ak,ck,hst⟩:=hall i hi;subst hAd;have hS:=(hst w (World.grownBy.refl _ _)).1;obtain ⟨r0,r1,r2,r3,r4,r5,r6,r7⟩:=(hst w (World.grownBy.refl _ _)).2;have HST:=lhd hst;have HD:=lhd hD;have HC:=lhd hC;have hii:(i:Int)<(ds.length:Int):=by omega
 have hi0:(0:Int)≤(i:Int):=by omega
 clear hall hst hD;have t1:=kfF hk 1;have t3:=kfF hk 3;have t4:=kfF hk 4;have t10:=kfF hk 10;have t5:=kfF hk 5;have t6:=kfF hk 6;have t7:=kfF hk 7;have t8:=kfF hk 8;have t9:=kfT hk 9;obtain ⟨hjl,hft⟩:=made9 hok hi (.inr hk);have hkl:=(kids_len hok i hi).2.2.2.2.1 (.inr hk);obtain ⟨bk,ok,hAk,hbk,hcel⟩:=hS.k.at 0 (by omega);subst hAk;clear hcel
 have HK:Hid (∀ w',w.grownBy w' (some p)→w'.cell? ⟨bk,ok,none⟩=some (Value.int .i64 ((kd ds[i] 0:Nat):Int))):=fun w' hg=>by
  have h1:=(HST.out w' hg).1.k.cellAt 0 (by omega);rw [kd_int hok i hi 0 (by omega)] at h1;exact h1
 have CR:Hid (∀ w',w.grownBy w' (some p)→Cur wb w' p A l c→∀ x:Int,x=((m / 2:Nat):Int)→Calls Tryz.prog 33 #[.pointer (some ⟨p,0,none⟩),.agg #[Value.slice (some ⟨g,off,none⟩) ds.length cd],.int .i64 ((kd ds[i] 0:Nat):Int),.int .i64 x] w' fun e w''=>∃ (t:VT) (A1:Option Addr) (n1 c1:Nat) (A2:Option Addr) (n2 c2:Nat),e=.returned (.agg #[.int .i64 t.num,.slice A1 n1 c1,.slice A2 n2 c2])∧Hid (t.vb=.slice A1 n1 c1∧t.vi=.slice A2 n2 c2)∧DrawnV ds (kd ds[i] 0) wb w' w'' p A l c t):=fun w' hg hc x hx=>by
  subst hx;exact HR _ hjl (m / 2) (by omega) w' hc (HD.out.mono hg)
 have HFT:=lhd hft;clear hft;generalize kd ds[i] 0=kj at *;have hkl0:0<ds[i].kids.length:=by omega
 have hkl1:(0:Int)<(ds[i].kids.length:Int):=by omega
 clear hkl;generalize ds[i]=r at *;obtain ⟨W0,W1,HW0,HW1,B1,B2,B3,B4,e0,x1,hs0,hs1⟩:=boxes4' w #[Value.slice (some ⟨g,off,none⟩) ds.length cd] val0 (rcs r Ab cb An cn At ct (some ⟨bk,ok,none⟩) ck) val0 26 29 67 29;have e01:=e0.trans x1
 have M0:Hid (VM wb w W1 p A l c (Value.slice (some ⟨g,off,none⟩) ds.length cd) (rcs r Ab cb An cn At ct (some ⟨bk,ok,none⟩) ck) 0 (.slice none 0 0) [] (.slice none 0 0) []) :=
  ⟨B1.ext x1,B2.ext x1,B3.ext x1,B4,OwnL.nil _ _,OwnTs.nil _ _,by simp [Far,Value.ownBlock],by simp [Value.ownBlock],HC.out.ext e01,grown_ext e01 _⟩
 have q0:∀ w',Ext W0 w'→_=some (Value.slice (some ⟨g,off,none⟩) ds.length cd):=B1.at 0
 have k0:∀ w',Ext W0 w'→_=some (Value.string r.nm):=B3.at 0
 have k1:∀ w',Ext W0 w'→_=some (Value.int .i64 r.kind):=B3.at 1
 have k2:∀ w',Ext W0 w'→_=some (Value.int .i64 r.size):=B3.at 2
 have k3:∀ w',Ext W0 w'→_=some (Value.bool r.little):=B3.at 3
 have k4:∀ w',Ext W0 w'→_=some (Value.slice Ab r.bytes.length cb):=B3.at 4
 have k5:∀ w',Ext W0 w'→_=some (Value.slice An r.names.length cn):=B3.at 5
 have k6:∀ w',Ext W0 w'→_=some (Value.slice At r.tags.length ct):=B3.at 6
 have k7:∀ w',Ext W0 w'→_=some (Value.slice (some ⟨bk,ok,none⟩) r.kids.length ck):=B3.at 7
 have HWM:Hid (IntKind.i64.wrap ((m:Int) / 2)=((m / 2:Nat):Int)):=by
  show _=_
  rw [IntWalk.i64_in _ (by omega)];omega
 have HS1:=lhd hs1;have HX1:=lhd x1;clear B1 B2 B3 B4 hs0 hs1 hk;unfold val0 at *;go_enter Tryz.func33,Tryz.ntmps33;go_wp2_with fail;rw [← HW0.out,← HW1.out];have MD:=lhd (M0.out.ext hplt (Ext_drew (Ext.refl W1)));have HAB:lv2 (fun w'=>w'.cell? ⟨w.heap.size,0,none⟩=some (Value.slice (some ⟨g,off,none⟩) ds.length cd)∧w'.cell? ⟨w.heap.size+1+1,7,none⟩=some (Value.slice (some ⟨bk,ok,none⟩) r.kids.length ck)∧w'.cell? ⟨bk,ok,none⟩=some (Value.int .i64 (kj:Int))) (fun _=>True) 1 (W1).drew:=⟨MD.out.db.cell 0,MD.out.rb.cell 7,HK.out _ MD.out.grow⟩
 clear M0;refine wp_region_C (C:=fun j=>lv2 (fun w'=>w'.cell? ⟨w.heap.size,0,none⟩=some (Value.slice (some ⟨g,off,none⟩) ds.length cd)∧w'.cell? ⟨w.heap.size+1+1,7,none⟩=some (Value.slice (some ⟨bk,ok,none⟩) r.kids.length ck)∧w'.cell? ⟨bk,ok,none⟩=some (Value.int .i64 (kj:Int))) (fun _=>True) (([0,1,0,1,0,1,0,0,0,0,0,0]:List Nat).getD j 0)) (by kernel_rfl) ?_;refine tkD 0 (i:=0) (v:=?_) rfl trivial ?_ ?_;rotate_left
 ·(intro w9 hSw;clear hSw;go_simp;try with_reducible rfl)
 try simp only [Act.put,lpa,lpz,lps]
 refine tkD 0 (i:=2) (v:=?_) rfl trivial ?_ ?_;rotate_left
 ·(intro w9 hSw;clear hSw;go_simp;try with_reducible rfl)
 try simp only [Act.put,lpa,lpz,lps]
 refine tkD 0 (i:=6) (v:=?_) rfl trivial ?_ ?_;rotate_left
 ·(intro w9 hSw;clear hSw;go_simp;try with_reducible rfl)
 try simp only [Act.put,lpa,lpz,lps]
 refine tkD 0 (i:=7) (v:=?_) rfl trivial ?_ ?_;rotate_left
 ·(intro w9 hSw;clear hSw;go_simp;try with_reducible rfl)
 try simp only [Act.put,lpa,lpz,lps]
 refine tkD 1 (i:=3) (v:=?_) rfl HAB ?_ ?_;rotate_left
 ·(intro w9 hSw;have hfact:w9.cell? ⟨w.heap.size+1+1,7,none⟩=some (Value.slice (some ⟨bk,ok,none⟩) r.kids.length ck):=hSw.2.1;clear hSw;go_simp;try with_reducible rfl)
 try simp only [Act.put,lpa,lpz,lps]
 refine tkD 0 (i:=4) (v:=?_) rfl trivial ?_ ?_;rotate_left
 ·(intro w9 hSw;clear hSw;go_simp;try with_reducible rfl)
 try simp only [Act.put,lpa,lpz,lps]
 refine tkD 1 (i:=1) (v:=?_) rfl HAB ?_ ?_;rotate_left
 ·(intro w9 hSw;have hfact:w9.cell? ⟨w.heap.size,0,none⟩=some (Value.slice (some ⟨g,off,none⟩) ds.length cd):=hSw.1;clear hSw;go_simp;try with_reducible rfl)
 try simp only [Act.put,lpa,lpz,lps]
 refine tkD 1 (i:=5) (v:=?_) rfl HAB ?_ ?_;rotate_left
 ·(intro w9 hSw;have hfact:w9.cell? ⟨bk,ok,none⟩=some (Value.int .i64 (kj:Int)):=hSw.2.2;clear hSw;go_simp;try with_reducible rfl)
 try simp only [Act.put,lpa,lpz,lps]
 refine wpAnyC_one (i:=8) (by kernel_rfl) rfl (fun K hK=>?_);go_simp;go_at_call 33;refine (CR.out _ MD.out.grow MD.out.cur _ (by first | exact HWM.out | omega)).mono ?_;rintro _ w6 ⟨t,A1,n1,c1,A2,n2,c2,rfl,hsh,hdv⟩;have hsz6:=hdv.grow.size;have M6:=MD.out.moved hplt hdv.cur hdv.grow;have z2:_=some (Value.slice none 0 0):=(M6.ext hplt (Ext_alloc (.cells #[.int .i64 t.num,.slice A1 n1 c1,.slice A2 n2 c2] 29) (Ext.refl w6))).box.cell 2
 have y2:=(M6.ext hplt (Ext_alloc (.cells #[.int .i64 t.num,.slice A1 n1 c1,.slice A2 n2 c2] 29) (Ext.refl w6))).box.free 2;have hms:=M6.size;have M7:=M6.single hplt hbw hdv.own hdv.far hdv.new (by simp [Value.ownBlock]) (by have:=MD.out.size;omega) (cs:=#[.int .i64 t.num,.slice A1 n1 c1,.slice A2 n2 c2]) (by unfold VT.cells;rw [hsh.out.1,hsh.out.2]);have M7:=lhd M7;have HFT':=lhd (HFT.out t.val ⟨hdv.valid,hdv.sz⟩);clear hdv M6;refine Shut.out hK _ _ trivial ?_;try simp only [Act.put,lpa,lpz,lps]
 refine wpAnyC_one (i:=9) (by kernel_rfl) rfl (fun K hK=>?_);go_simp;refine Shut.out hK _ _ trivial ?_;try simp only [Act.put,lpa,lpz,lps]
 refine wpAnyC_one (i:=10) (by kernel_rfl) rfl (fun K hK=>?_);go_simp;refine Shut.out hK _ _ trivial ?_;try simp only [Act.put,lpa,lpz,lps]
 refine wpAnyC_one (i:=11) (by kernel_rfl) rfl (fun K hK=>?_);go_simp;refine Shut.out hK _ _ trivial ?_;try simp only [Act.put,lpa,lpz,lps]
 refine wpAnyC_done (by kernel_rfl) ?_ _;clear HAB;have m0:_=some (Value.int .i64 0):=M7.out.box.cell 0
 have m1:_=some (Value.slice none 0 0):=M7.out.box.cell 1
 have m2:_=some (Value.slice (some ⟨w6.heap.size,0,none⟩) 1 1):=M7.out.box.cell 2
 have f1:=M7.out.res.cell;have f2:=M7.out.res.free;have HOUT:=lhd (M7.out.out hplt hbw (.int .i64 0) (Value.slice none 0 0) (Value.slice (some ⟨w6.heap.size,0,none⟩) 1 1));have HV:=lhd (HFT'.out);go_wp2_with fail;obtain ⟨hO,hF,hN,hCc,hG⟩:=HOUT.out;exact bodyPost_ret (v:=.agg #[.int .i64 0,Value.slice none 0 0,Value.slice (some ⟨w6.heap.size,0,none⟩) 1 1]) (by simp [results,Tryz.results33,go_sem,f1,f2]) rfl ⟨VT.mk 0 [] (Value.slice none 0 0) [t] (Value.slice (some ⟨w6.heap.size,0,none⟩) 1 1),_,_,_,_,_,_,rfl,⟨rfl,rfl⟩,⟨HV.out.1,HV.out.2,hO,hF,hN,hCc,hG⟩⟩
theorem l9Make8_c (Ad:Option Addr) (ds:List DRule) (cd:Nat) (hok:descOk ds=true) (i:Nat) (hi:i<ds.length) (hk:ds[i].kind=8) (wb:World) (p:Nat) (A:Option Addr) (l:List UInt8) (c:Nat) (hA:Bs wb A l c) (HR:∀ j,j<i→MakeOk Ad ds cd wb p A l c j):MakeOk Ad ds cd wb p A l c i:=by
 intro m hm w hC hD;have hplt:=hC.lt;have hbw:=hC.2.1.size;have hdl:=(descOk_len hok).2;have CBe:=lhd (fun n w h hn=>l1Below_c n wb w p A l c hA h hn);have COn:=lhd (fun n w h hn=>l1Once_c n wb w p A l c hA h hn);obtain ⟨g,off,hAd,hgw,hall⟩:=hD.out;obtain ⟨Ab,cb,An,cn,At,ct,Ak,ck,hst⟩:=hall i hi;subst hAd;have hS:=(hst w (World.grownBy.refl _ _)).1;obtain ⟨r0,r1,r2,r3,r4,r5,r6,r7⟩:=(hst w (World.grownBy.refl _ _)).2;have HST:=lhd hst;have HD:=lhd hD;have HC:=lhd hC;have hii:(i:Int)<(ds.length:Int):=by omega
 have hi0:(0:Int)≤(i:Int):=by omega
 clear hall hst hD;have t1:=kfF hk 1;have t3:=kfF hk 3;have t4:=kfF hk 4;have t10:=kfF hk 10;have t5:=kfF hk 5;have t6:=kfF hk 6;have t7:=kfF hk 7;have t8:=kfT hk 8;have t9:=kfF hk 9;obtain ⟨hjl,hft⟩:=made9 hok hi (.inl hk);have hkl:=(kids_len hok i hi).2.2.2.2.1 (.inl hk);obtain ⟨bk,ok,hAk,hbk,hcel⟩:=hS.k.at 0 (by omega);subst hAk;clear hcel
 have HK:Hid (∀ w',w.grownBy w' (some p)→w'.cell? ⟨bk,ok,none⟩=some (Value.int .i64 ((kd ds[i] 0:Nat):Int))):=fun w' hg=>by
  have h1:=(HST.out w' hg).1.k.cellAt 0 (by omega);rw [kd_int hok i hi 0 (by omega)] at h1;exact h1
 have CR:Hid (∀ w',w.grownBy w' (some p)→Cur wb w' p A l c→∀ x:Int,x=((m / 2:Nat):Int)→Calls Tryz.prog 33 #[.pointer (some ⟨p,0,none⟩),.agg #[Value.slice (some ⟨g,off,none⟩) ds.length cd],.int .i64 ((kd ds[i] 0:Nat):Int),.int .i64 x] w' fun e w''=>∃ (t:VT) (A1:Option Addr) (n1 c1:Nat) (A2:Option Addr) (n2 c2:Nat),e=.returned (.agg #[.int .i64 t.num,.slice A1 n1 c1,.slice A2 n2 c2])∧Hid (t.vb=.slice A1 n1 c1∧t.vi=.slice A2 n2 c2)∧DrawnV ds (kd ds[i] 0) wb w' w'' p A l c t):=fun w' hg hc x hx=>by
  subst hx;exact HR _ hjl (m / 2) (by omega) w' hc (HD.out.mono hg)
 have HFT:=lhd hft;clear hft;generalize kd ds[i] 0=kj at *;have hkl0:0<ds[i].kids.length:=by omega
 have hkl1:(0:Int)<(ds[i].kids.length:Int):=by omega
 clear hkl;have HF0:Hid (FitV ds i (.mk 0 [] [])):=made8n hi hk
 generalize ds[i]=r at *;obtain ⟨W0,W1,HW0,HW1,B1,B2,B3,B4,e0,x1,hs0,hs1⟩:=boxes4' w #[Value.slice (some ⟨g,off,none⟩) ds.length cd] val0 (rcs r Ab cb An cn At ct (some ⟨bk,ok,none⟩) ck) val0 26 29 67 29;have e01:=e0.trans x1
 have M0:Hid (VM wb w W1 p A l c (Value.slice (some ⟨g,off,none⟩) ds.length cd) (rcs r Ab cb An cn At ct (some ⟨bk,ok,none⟩) ck) 0 (.slice none 0 0) [] (.slice none 0 0) []) :=
  ⟨B1.ext x1,B2.ext x1,B3.ext x1,B4,OwnL.nil _ _,OwnTs.nil _ _,by simp [Far,Value.ownBlock],by simp [Value.ownBlock],HC.out.ext e01,grown_ext e01 _⟩
 have q0:∀ w',Ext W0 w'→_=some (Value.slice (some ⟨g,off,none⟩) ds.length cd):=B1.at 0
 have k0:∀ w',Ext W0 w'→_=some (Value.string r.nm):=B3.at 0
 have k1:∀ w',Ext W0 w'→_=some (Value.int .i64 r.kind):=B3.at 1
 have k2:∀ w',Ext W0 w'→_=some (Value.int .i64 r.size):=B3.at 2
 have k3:∀ w',Ext W0 w'→_=some (Value.bool r.little):=B3.at 3
 have k4:∀ w',Ext W0 w'→_=some (Value.slice Ab r.bytes.length cb):=B3.at 4
 have k5:∀ w',Ext W0 w'→_=some (Value.slice An r.names.length cn):=B3.at 5
 have k6:∀ w',Ext W0 w'→_=some (Value.slice At r.tags.length ct):=B3.at 6
 have k7:∀ w',Ext W0 w'→_=some (Value.slice (some ⟨bk,ok,none⟩) r.kids.length ck):=B3.at 7
 have HWM:Hid (IntKind.i64.wrap ((m:Int) / 2)=((m / 2:Nat):Int)):=by
  show _=_
  rw [IntWalk.i64_in _ (by omega)];omega
 have HS1:=lhd hs1;have HX1:=lhd x1;clear B1 B2 B3 B4 hs0 hs1 hk;unfold val0 at *;go_enter Tryz.func33,Tryz.ntmps33;go_wp2_with fail;rw [← HW0.out,← HW1.out];refine (COn.out 2 _ M0.out.cur (by omega)).mono ?_;rintro _ w1 ⟨b,rfl,hC1,hg1⟩;have M1:=lhd (M0.out.moved hplt hC1 hg1);clear M0 hC1 hg1;cases b with
 | false =>
  have m0:_=some (Value.int .i64 0):=M1.out.box.cell 0
  have m1:_=some (Value.slice none 0 0):=M1.out.box.cell 1
  have m2:_=some (Value.slice none 0 0):=M1.out.box.cell 2
  have f1:=M1.out.res.cell;have f2:=M1.out.res.free;have HOUT:=lhd (M1.out.out hplt hbw (.int .i64 0) (Value.slice none 0 0) (Value.slice none 0 0));have HV:=lhd (HF0.out);go_wp2_with fail;obtain ⟨hO,hF,hN,hCc,hG⟩:=HOUT.out;exact bodyPost_ret (v:=.agg #[.int .i64 0,Value.slice none 0 0,Value.slice none 0 0]) (by simp [results,Tryz.results33,go_sem,f1,f2]) rfl ⟨.mk 0 [] (Value.slice none 0 0) [] (Value.slice none 0 0),_,_,_,_,_,_,rfl,⟨rfl,rfl⟩,⟨HV.out.1,HV.out.2,hO,hF,hN,hCc,hG⟩⟩
 | true =>
  go_wp2_with fail;have MD:=lhd (M1.out.ext hplt (Ext_drew (Ext.refl w1)));have HAB:lv2 (fun w'=>w'.cell? ⟨w.heap.size,0,none⟩=some (Value.slice (some ⟨g,off,none⟩) ds.length cd)∧w'.cell? ⟨w.heap.size+1+1,7,none⟩=some (Value.slice (some ⟨bk,ok,none⟩) r.kids.length ck)∧w'.cell? ⟨bk,ok,none⟩=some (Value.int .i64 (kj:Int))) (fun _=>True) 1 (w1).drew:=⟨MD.out.db.cell 0,MD.out.rb.cell 7,HK.out _ MD.out.grow⟩
  clear M1;refine wp_region_C (C:=fun j=>lv2 (fun w'=>w'.cell? ⟨w.heap.size,0,none⟩=some (Value.slice (some ⟨g,off,none⟩) ds.length cd)∧w'.cell? ⟨w.heap.size+1+1,7,none⟩=some (Value.slice (some ⟨bk,ok,none⟩) r.kids.length ck)∧w'.cell? ⟨bk,ok,none⟩=some (Value.int .i64 (kj:Int))) (fun _=>True) (([0,1,0,1,0,1,0,0,0,0,0,0]:List Nat).getD j 0)) (by kernel_rfl) ?_;refine tkD 0 (i:=0) (v:=?_) rfl trivial ?_ ?_;rotate_left
  ·(intro w9 hSw;clear hSw;go_simp;try with_reducible rfl)
  try simp only [Act.put,lpa,lpz,lps]
  refine tkD 0 (i:=2) (v:=?_) rfl trivial ?_ ?_;rotate_left
  ·(intro w9 hSw;clear hSw;go_simp;try with_reducible rfl)
  try simp only [Act.put,lpa,lpz,lps]
  refine tkD 0 (i:=6) (v:=?_) rfl trivial ?_ ?_;rotate_left
  ·(intro w9 hSw;clear hSw;go_simp;try with_reducible rfl)
  try simp only [Act.put,lpa,lpz,lps]
  refine tkD 0 (i:=7) (v:=?_) rfl trivial ?_ ?_;rotate_left
  ·(intro w9 hSw;clear hSw;go_simp;try with_reducible rfl)
  try simp only [Act.put,lpa,lpz,lps]
  refine tkD 1 (i:=3) (v:=?_) rfl HAB ?_ ?_;rotate_left
  ·(intro w9 hSw;have hfact:w9.cell? ⟨w.heap.size+1+1,7,none⟩=some (Value.slice (some ⟨bk,ok,none⟩) r.kids.length ck):=hSw.2.1;clear hSw;go_simp;try with_reducible rfl)
  try simp only [Act.put,lpa,lpz,lps]
  refine tkD 0 (i:=4) (v:=?_) rfl trivial ?_ ?_;rotate_left
  ·(intro w9 hSw;clear hSw;go_simp;try with_reducible rfl)
  try simp only [Act.put,lpa,lpz,lps]
  refine tkD 1 (i:=1) (v:=?_) rfl HAB ?_ ?_;rotate_left
  ·(intro w9 hSw;have hfact:w9.cell? ⟨w.heap.size,0,none⟩=some (Value.slice (some ⟨g,off,none⟩) ds.length cd):=hSw.1;clear hSw;go_simp;try with_reducible rfl)
  try simp only [Act.put,lpa,lpz,lps]
  refine tkD 1 (i:=5) (v:=?_) rfl HAB ?_ ?_;rotate_left
  ·(intro w9 hSw;have hfact:w9.cell? ⟨bk,ok,none⟩=some (Value.int .i64 (kj:Int)):=hSw.2.2;clear hSw;go_simp;try with_reducible rfl)
  try simp only [Act.put,lpa,lpz,lps]
  refine wpAnyC_one (i:=8) (by kernel_rfl) rfl (fun K hK=>?_);go_simp;go_at_call 33;refine (CR.out _ MD.out.grow MD.out.cur _ (by first | exact HWM.out | omega)).mono ?_;rintro _ w6 ⟨t,A1,n1,c1,A2,n2,c2,rfl,hsh,hdv⟩;have hsz6:=hdv.grow.size;have M6:=MD.out.moved hplt hdv.cur hdv.grow;have z2:_=some (Value.slice none 0 0):=(M6.ext hplt (Ext_alloc (.cells #[.int .i64 t.num,.slice A1 n1 c1,.slice A2 n2 c2] 29) (Ext.refl w6))).box.cell 2
  have y2:=(M6.ext hplt (Ext_alloc (.cells #[.int .i64 t.num,.slice A1 n1 c1,.slice A2 n2 c2] 29) (Ext.refl w6))).box.free 2;have hms:=M6.size;have M7:=M6.single hplt hbw hdv.own hdv.far hdv.new (by simp [Value.ownBlock]) (by have:=MD.out.size;omega) (cs:=#[.int .i64 t.num,.slice A1 n1 c1,.slice A2 n2 c2]) (by unfold VT.cells;rw [hsh.out.1,hsh.out.2]);have M7:=lhd M7;have HFT':=lhd (HFT.out t.val ⟨hdv.valid,hdv.sz⟩);clear hdv M6;refine Shut.out hK _ _ trivial ?_;try simp only [Act.put,lpa,lpz,lps]
  refine wpAnyC_one (i:=9) (by kernel_rfl) rfl (fun K hK=>?_);go_simp;refine Shut.out hK _ _ trivial ?_;try simp only [Act.put,lpa,lpz,lps]
  refine wpAnyC_one (i:=10) (by kernel_rfl) rfl (fun K hK=>?_);go_simp;refine Shut.out hK _ _ trivial ?_;try simp only [Act.put,lpa,lpz,lps]
  refine wpAnyC_one (i:=11) (by kernel_rfl) rfl (fun K hK=>?_);go_simp;refine Shut.out hK _ _ trivial ?_;try simp only [Act.put,lpa,lpz,lps]
  refine wpAnyC_done (by kernel_rfl) ?_ _;clear HAB;have m0:_=some (Value.int .i64 0):=M7.out.box.cell 0
  have m1:_=some (Value.slice none 0 0):=M7.out.box.cell 1
  have m2:_=some (Value.slice (some ⟨w6.heap.size,0,none⟩) 1 1):=M7.out.box.cell 2
  have f1:=M7.out.res.cell;have f2:=M7.out.res.free;have HOUT:=lhd (M7.out.out hplt hbw (.int .i64 0) (Value.slice none 0 0) (Value.slice (some ⟨w6.heap.size,0,none⟩) 1 1));have HV:=lhd (HFT'.out);go_wp2_with fail;obtain ⟨hO,hF,hN,hCc,hG⟩:=HOUT.out;exact bodyPost_ret (v:=.agg #[.int .i64 0,Value.slice none 0 0,Value.slice (some ⟨w6.heap.size,0,none⟩) 1 1]) (by simp [results,Tryz.results33,go_sem,f1,f2]) rfl ⟨VT.mk 0 [] (Value.slice none 0 0) [t] (Value.slice (some ⟨w6.heap.size,0,none⟩) 1 1),_,_,_,_,_,_,rfl,⟨rfl,rfl⟩,⟨HV.out.1,HV.out.2,hO,hF,hN,hCc,hG⟩⟩
theorem l9Make7_c (Ad:Option Addr) (ds:List DRule) (cd:Nat) (hok:descOk ds=true) (i:Nat) (hi:i<ds.length) (hk:ds[i].kind=7) (wb:World) (p:Nat) (A:Option Addr) (l:List UInt8) (c:Nat) (hA:Bs wb A l c) (HR:∀ j,j<i→MakeOk Ad ds cd wb p A l c j):MakeOk Ad ds cd wb p A l c i:=by
 intro m hm w hC hD;have hplt:=hC.lt;have hbw:=hC.2.1.size;have hdl:=(descOk_len hok).2;have CBe:=lhd (fun n w h hn=>l1Below_c n wb w p A l c hA h hn);have COn:=lhd (fun n w h hn=>l1Once_c n wb w p A l c hA h hn);obtain ⟨g,off,hAd,hgw,hall⟩:=hD.out;obtain ⟨Ab,cb,An,cn,At,ct,Ak,ck,hst⟩:=hall i hi;subst hAd;have hS:=(hst w (World.grownBy.refl _ _)).1;obtain ⟨r0,r1,r2,r3,r4,r5,r6,r7⟩:=(hst w (World.grownBy.refl _ _)).2;have HST:=lhd hst;have HD:=lhd hD;have HC:=lhd hC;have hii:(i:Int)<(ds.length:Int):=by omega
 have hi0:(0:Int)≤(i:Int):=by omega
 clear hall hst hD;have t1:=kfF hk 1;have t3:=kfF hk 3;have t4:=kfF hk 4;have t10:=kfF hk 10;have t5:=kfF hk 5;have t6:=kfF hk 6;have t7:=kfT hk 7;have t8:=kfF hk 8;have t9:=kfF hk 9;have hkt:=((kids_len hok i hi).2.2.2.1 hk).1;have htn:0<ds[i].tags.length∧ds[i].tags.length≤8:=choice_tags hok hi hk
 obtain ⟨bk,ok,hAk,hbk,hcel⟩:=hS.k.at 0 (by omega);subst hAk;clear hcel;obtain ⟨bt,ot,hAt,hbt,hcel⟩:=hS.t.at 0 (by omega);subst hAt;clear hcel
 have HTG:Hid (∀ x,x<ds[i].tags.length→∃ (n:Int) (kj:Nat),kj<i∧(∀ w',w.grownBy w' (some p)→w'.cell? ⟨bt,ot+x,none⟩=some (Value.int .i64 n)∧w'.cell? ⟨bk,ok+(x+1),none⟩=some (Value.int .i64 (kj:Int)))∧∀ d:DVal,FitV ds kj d→FitV ds i (.mk n [] [d])):=fun x hx=>by
  refine ⟨ds[i].tags[x],kd ds[i] (x+1),kd_lt hok i hi _ (by omega),fun w' hg=>⟨(HST.out w' hg).1.t.cellAt x hx,?_⟩,made7 hok hi hk x hx⟩;have h1:=(HST.out w' hg).1.k.cellAt (x+1) (by omega);rw [kd_int hok i hi (x+1) (by omega)] at h1;exact h1
 have CR0:Hid (∀ kj,kj<i→∀ w',w.grownBy w' (some p)→Cur wb w' p A l c→∀ x:Int,x=((m / 2:Nat):Int)→Calls Tryz.prog 33 #[.pointer (some ⟨p,0,none⟩),.agg #[Value.slice (some ⟨g,off,none⟩) ds.length cd],.int .i64 ((kj:Nat):Int),.int .i64 x] w' fun e w''=>∃ (t:VT) (A1:Option Addr) (n1 c1:Nat) (A2:Option Addr) (n2 c2:Nat),e=.returned (.agg #[.int .i64 t.num,.slice A1 n1 c1,.slice A2 n2 c2])∧Hid (t.vb=.slice A1 n1 c1∧t.vi=.slice A2 n2 c2)∧DrawnV ds (kj) wb w' w'' p A l c t):=fun kj hj w' hg hc x hx=>by
  subst hx;exact HR _ hj (m / 2) (by omega) w' hc (HD.out.mono hg)
 have HKT:=lhd hkt;clear hkt;generalize ds[i]=r at *;obtain ⟨W0,W1,HW0,HW1,B1,B2,B3,B4,e0,x1,hs0,hs1⟩:=boxes4' w #[Value.slice (some ⟨g,off,none⟩) ds.length cd] val0 (rcs r Ab cb An cn (some ⟨bt,ot,none⟩) ct (some ⟨bk,ok,none⟩) ck) val0 26 29 67 29;have e01:=e0.trans x1
 have M0:Hid (VM wb w W1 p A l c (Value.slice (some ⟨g,off,none⟩) ds.length cd) (rcs r Ab cb An cn (some ⟨bt,ot,none⟩) ct (some ⟨bk,ok,none⟩) ck) 0 (.slice none 0 0) [] (.slice none 0 0) []) :=
  ⟨B1.ext x1,B2.ext x1,B3.ext x1,B4,OwnL.nil _ _,OwnTs.nil _ _,by simp [Far,Value.ownBlock],by simp [Value.ownBlock],HC.out.ext e01,grown_ext e01 _⟩
 have q0:∀ w',Ext W0 w'→_=some (Value.slice (some ⟨g,off,none⟩) ds.length cd):=B1.at 0
 have k0:∀ w',Ext W0 w'→_=some (Value.string r.nm):=B3.at 0
 have k1:∀ w',Ext W0 w'→_=some (Value.int .i64 r.kind):=B3.at 1
 have k2:∀ w',Ext W0 w'→_=some (Value.int .i64 r.size):=B3.at 2
 have k3:∀ w',Ext W0 w'→_=some (Value.bool r.little):=B3.at 3
 have k4:∀ w',Ext W0 w'→_=some (Value.slice Ab r.bytes.length cb):=B3.at 4
 have k5:∀ w',Ext W0 w'→_=some (Value.slice An r.names.length cn):=B3.at 5
 have k6:∀ w',Ext W0 w'→_=some (Value.slice (some ⟨bt,ot,none⟩) r.tags.length ct):=B3.at 6
 have k7:∀ w',Ext W0 w'→_=some (Value.slice (some ⟨bk,ok,none⟩) r.kids.length ck):=B3.at 7
 have HWM:Hid (IntKind.i64.wrap ((m:Int) / 2)=((m / 2:Nat):Int)):=by
  show _=_
  rw [IntWalk.i64_in _ (by omega)];omega
 have HS1:=lhd hs1;have HX1:=lhd x1;clear B1 B2 B3 B4 hs0 hs1 hk;unfold val0 at *;go_enter Tryz.func33,Tryz.ntmps33;go_wp2_with fail;rw [← HW0.out,← HW1.out];refine (CBe.out _ _ M0.out.cur (by omega)).mono ?_;rintro _ w1 ⟨y,hy,rfl,hC1,hg1⟩;have hyt:y<r.tags.length:=by unfold below at hy;rw [if_neg (by omega)] at hy;omega
 obtain ⟨n,kj,hjl,htk,hft⟩:=HTG.out y hyt;have M1:=lhd (M0.out.moved hplt hC1 hg1);have CR:=lhd (CR0.out kj hjl);have HFT:=lhd hft;have HK:Hid (∀ w',w.grownBy w' (some p)→w'.cell? ⟨bk,ok+(y+1),none⟩=some (Value.int .i64 (kj:Int))):=fun w' hg=>(htk w' hg).2
 have tc:=(htk w1 M1.out.grow).1;have u6:_=some (Value.slice (some ⟨bt,ot,none⟩) r.tags.length ct):=M1.out.rb.cell 6
 have z0:_=some (Value.int .i64 0):=M1.out.box.cell 0
 have y0:=M1.out.box.free 0;have hkt:=HKT.out;have hy1:(y:Int)<(r.tags.length:Int):=by omega
 have hy2:(y:Int)+1<(r.kids.length:Int):=by omega
 have hy3:y+1<r.kids.length:=by omega
 have hy4:(0:Int)≤(y:Int)+1:=by omega
 have hyw:IntKind.i64.wrap ((y:Int)+1)=(y:Int)+1:=IntWalk.i64_in _ (by omega)
 have M2:=lhd (M1.out.num hplt hbw n);clear M0 hC1 hg1 htk hft hy CR0 HTG hkt;go_wp2_with fail;have MD:=lhd (M2.out.ext hplt (Ext_drew (Ext.refl (w1.setCell ⟨w.heap.size+1+1+1,0,none⟩ (.int .i64 n)))));have HAB:lv2 (fun w'=>w'.cell? ⟨w.heap.size,0,none⟩=some (Value.slice (some ⟨g,off,none⟩) ds.length cd)∧w'.cell? ⟨w.heap.size+1+1,7,none⟩=some (Value.slice (some ⟨bk,ok,none⟩) r.kids.length ck)∧w'.cell? ⟨bk,ok+(y+1),none⟩=some (Value.int .i64 (kj:Int))) (fun _=>True) 1 ((w1.setCell ⟨w.heap.size+1+1+1,0,none⟩ (.int .i64 n))).drew:=⟨MD.out.db.cell 0,MD.out.rb.cell 7,HK.out _ MD.out.grow⟩
 clear M2;refine wp_region_C (C:=fun j=>lv2 (fun w'=>w'.cell? ⟨w.heap.size,0,none⟩=some (Value.slice (some ⟨g,off,none⟩) ds.length cd)∧w'.cell? ⟨w.heap.size+1+1,7,none⟩=some (Value.slice (some ⟨bk,ok,none⟩) r.kids.length ck)∧w'.cell? ⟨bk,ok+(y+1),none⟩=some (Value.int .i64 (kj:Int))) (fun _=>True) (([0,1,0,1,0,0,0,1,0,0,0,0,0,0]:List Nat).getD j 0)) (by kernel_rfl) ?_;refine tkD 0 (i:=0) (v:=?_) rfl trivial ?_ ?_;rotate_left
 ·(intro w9 hSw;clear hSw;go_simp;try with_reducible rfl)
 try simp only [Act.put,lpa,lpz,lps]
 refine tkD 0 (i:=2) (v:=?_) rfl trivial ?_ ?_;rotate_left
 ·(intro w9 hSw;clear hSw;go_simp;try with_reducible rfl)
 try simp only [Act.put,lpa,lpz,lps]
 refine tkD 0 (i:=4) (v:=?_) rfl trivial ?_ ?_;rotate_left
 ·(intro w9 hSw;clear hSw;go_simp;try with_reducible rfl)
 try simp only [Act.put,lpa,lpz,lps]
 refine tkD 0 (i:=5) (v:=?_) rfl trivial ?_ ?_;rotate_left
 ·(intro w9 hSw;clear hSw;go_simp;try with_reducible rfl)
 try simp only [Act.put,lpa,lpz,lps]
 refine tkD 0 (i:=8) (v:=?_) rfl trivial ?_ ?_;rotate_left
 ·(intro w9 hSw;clear hSw;go_simp;try with_reducible rfl)
 try simp only [Act.put,lpa,lpz,lps]
 refine tkD 0 (i:=9) (v:=?_) rfl trivial ?_ ?_;rotate_left
 ·(intro w9 hSw;clear hSw;go_simp;try with_reducible rfl)
 try simp only [Act.put,lpa,lpz,lps]
 refine tkD 1 (i:=3) (v:=?_) rfl HAB ?_ ?_;rotate_left
 ·(intro w9 hSw;have hfact:w9.cell? ⟨w.heap.size+1+1,7,none⟩=some (Value.slice (some ⟨bk,ok,none⟩) r.kids.length ck):=hSw.2.1;clear hSw;go_simp;try with_reducible rfl)
 try simp only [Act.put,lpa,lpz,lps]
 refine tkD 0 (i:=6) (v:=?_) rfl trivial ?_ ?_;rotate_left
 ·(intro w9 hSw;clear hSw;go_simp;try with_reducible rfl)
 try simp only [Act.put,lpa,lpz,lps]
 refine tkD 1 (i:=1) (v:=?_) rfl HAB ?_ ?_;rotate_left
 ·(intro w9 hSw;have hfact:w9.cell? ⟨w.heap.size,0,none⟩=some (Value.slice (some ⟨g,off,none⟩) ds.length cd):=hSw.1;clear hSw;go_simp;try with_reducible rfl)
 try simp only [Act.put,lpa,lpz,lps]
 refine tkD 1 (i:=7) (v:=?_) rfl HAB ?_ ?_;rotate_left
 ·(intro w9 hSw;have hfact:w9.cell? ⟨bk,ok+(y+1),none⟩=some (Value.int .i64 (kj:Int)):=hSw.2.2;clear hSw;go_simp;try with_reducible rfl)
 try simp only [Act.put,lpa,lpz,lps]
 refine wpAnyC_one (i:=10) (by kernel_rfl) rfl (fun K hK=>?_);go_simp;go_at_call 33;refine (CR.out _ MD.out.grow MD.out.cur _ (by first | exact HWM.out | omega)).mono ?_;rintro _ w6 ⟨t,A1,n1,c1,A2,n2,c2,rfl,hsh,hdv⟩;have hsz6:=hdv.grow.size;have M6:=MD.out.moved hplt hdv.cur hdv.grow;have z2:_=some (Value.slice none 0 0):=(M6.ext hplt (Ext_alloc (.cells #[.int .i64 t.num,.slice A1 n1 c1,.slice A2 n2 c2] 29) (Ext.refl w6))).box.cell 2
 have y2:=(M6.ext hplt (Ext_alloc (.cells #[.int .i64 t.num,.slice A1 n1 c1,.slice A2 n2 c2] 29) (Ext.refl w6))).box.free 2;have hms:=M6.size;have M7:=M6.single hplt hbw hdv.own hdv.far hdv.new (by simp [Value.ownBlock]) (by have:=MD.out.size;omega) (cs:=#[.int .i64 t.num,.slice A1 n1 c1,.slice A2 n2 c2]) (by unfold VT.cells;rw [hsh.out.1,hsh.out.2]);have M7:=lhd M7;have HFT':=lhd (HFT.out t.val ⟨hdv.valid,hdv.sz⟩);clear hdv M6;refine Shut.out hK _ _ trivial ?_;try simp only [Act.put,lpa,lpz,lps]
 refine wpAnyC_one (i:=11) (by kernel_rfl) rfl (fun K hK=>?_);go_simp;refine Shut.out hK _ _ trivial ?_;try simp only [Act.put,lpa,lpz,lps]
 refine wpAnyC_one (i:=12) (by kernel_rfl) rfl (fun K hK=>?_);go_simp;refine Shut.out hK _ _ trivial ?_;try simp only [Act.put,lpa,lpz,lps]
 refine wpAnyC_one (i:=13) (by kernel_rfl) rfl (fun K hK=>?_);go_simp;refine Shut.out hK _ _ trivial ?_;try simp only [Act.put,lpa,lpz,lps]
 refine wpAnyC_done (by kernel_rfl) ?_ _;clear HAB;have m0:_=some (Value.int .i64 n):=M7.out.box.cell 0
 have m1:_=some (Value.slice none 0 0):=M7.out.box.cell 1
 have m2:_=some (Value.slice (some ⟨w6.heap.size,0,none⟩) 1 1):=M7.out.box.cell 2
 have f1:=M7.out.res.cell;have f2:=M7.out.res.free;have HOUT:=lhd (M7.out.out hplt hbw (.int .i64 n) (Value.slice none 0 0) (Value.slice (some ⟨w6.heap.size,0,none⟩) 1 1));have HV:=lhd (HFT'.out);go_wp2_with fail;obtain ⟨hO,hF,hN,hCc,hG⟩:=HOUT.out;exact bodyPost_ret (v:=.agg #[.int .i64 n,Value.slice none 0 0,Value.slice (some ⟨w6.heap.size,0,none⟩) 1 1]) (by simp [results,Tryz.results33,go_sem,f1,f2]) rfl ⟨VT.mk n [] (Value.slice none 0 0) [t] (Value.slice (some ⟨w6.heap.size,0,none⟩) 1 1),_,_,_,_,_,_,rfl,⟨rfl,rfl⟩,⟨HV.out.1,HV.out.2,hO,hF,hN,hCc,hG⟩⟩
theorem l9Make4_c (Ad:Option Addr) (ds:List DRule) (cd:Nat) (hok:descOk ds=true) (i:Nat) (hi:i<ds.length) (hk:ds[i].kind=4) (wb:World) (p:Nat) (A:Option Addr) (l:List UInt8) (c:Nat) (hA:Bs wb A l c) (HR:∀ j,j<i→MakeOk Ad ds cd wb p A l c j):MakeOk Ad ds cd wb p A l c i:=by
 intro m hm w hC hD;have hplt:=hC.lt;have hbw:=hC.2.1.size;have hdl:=(descOk_len hok).2;have CBe:=lhd (fun n w h hn=>l1Below_c n wb w p A l c hA h hn);have COn:=lhd (fun n w h hn=>l1Once_c n wb w p A l c hA h hn);obtain ⟨g,off,hAd,hgw,hall⟩:=hD.out;obtain ⟨Ab,cb,An,cn,At,ct,Ak,ck,hst⟩:=hall i hi;subst hAd;have hS:=(hst w (World.grownBy.refl _ _)).1;obtain ⟨r0,r1,r2,r3,r4,r5,r6,r7⟩:=(hst w (World.grownBy.refl _ _)).2;have HST:=lhd hst;have HD:=lhd hD;have HC:=lhd hC;have hii:(i:Int)<(ds.length:Int):=by omega
 have hi0:(0:Int)≤(i:Int):=by omega
 clear hall hst hD;have t1:=kfF hk 1;have t3:=kfF hk 3;have t4:=kfT hk 4;have t10:=kfF hk 10;have t5:=kfF hk 5;have t6:=kfF hk 6;have t7:=kfF hk 7;have t8:=kfF hk 8;have t9:=kfF hk 9;have HFT:Hid (∀ b:List UInt8,b.length≤6→FitV ds i (.mk 0 b [])):=made4 hok hi hk
 obtain ⟨q,hq⟩:∃ q:Nat,q=(if m<6 then m else 6):=⟨_,rfl⟩;have hq6:q≤6:=by rw [hq];split<;>omega
 have CM:Hid (∀ w,Gives Tryz.prog 60 #[.int .i64 (m:Int),.int .i64 6] w (.int .i64 (q:Int))):=fun w=>by
  have h:=sMin_c (m:Int) 6 w;have e:(if (6:Int)<(m:Int) then (6:Int) else (m:Int))=(q:Int):=by rw [hq];split<;>split<;>omega
  rwa [e] at h
 clear hq;have CB:=lhd (fun n (hn:n≤64) w h=>l1Bytes_c n hn wb w p A l c hA h);generalize ds[i]=r at *;obtain ⟨W0,W1,HW0,HW1,B1,B2,B3,B4,e0,x1,hs0,hs1⟩:=boxes4' w #[Value.slice (some ⟨g,off,none⟩) ds.length cd] val0 (rcs r Ab cb An cn At ct Ak ck) val0 26 29 67 29;have e01:=e0.trans x1
 have M0:Hid (VM wb w W1 p A l c (Value.slice (some ⟨g,off,none⟩) ds.length cd) (rcs r Ab cb An cn At ct Ak ck) 0 (.slice none 0 0) [] (.slice none 0 0) []) :=
  ⟨B1.ext x1,B2.ext x1,B3.ext x1,B4,OwnL.nil _ _,OwnTs.nil _ _,by simp [Far,Value.ownBlock],by simp [Value.ownBlock],HC.out.ext e01,grown_ext e01 _⟩
 have q0:∀ w',Ext W0 w'→_=some (Value.slice (some ⟨g,off,none⟩) ds.length cd):=B1.at 0
 have k0:∀ w',Ext W0 w'→_=some (Value.string r.nm):=B3.at 0
 have k1:∀ w',Ext W0 w'→_=some (Value.int .i64 r.kind):=B3.at 1
 have k2:∀ w',Ext W0 w'→_=some (Value.int .i64 r.size):=B3.at 2
 have k3:∀ w',Ext W0 w'→_=some (Value.bool r.little):=B3.at 3
 have k4:∀ w',Ext W0 w'→_=some (Value.slice Ab r.bytes.length cb):=B3.at 4
 have k5:∀ w',Ext W0 w'→_=some (Value.slice An r.names.length cn):=B3.at 5
 have k6:∀ w',Ext W0 w'→_=some (Value.slice At r.tags.length ct):=B3.at 6
 have k7:∀ w',Ext W0 w'→_=some (Value.slice Ak r.kids.length ck):=B3.at 7
 have HWM:Hid (IntKind.i64.wrap ((m:Int) / 2)=((m / 2:Nat):Int)):=by
  show _=_
  rw [IntWalk.i64_in _ (by omega)];omega
 have HS1:=lhd hs1;have HX1:=lhd x1;clear B1 B2 B3 B4 hs0 hs1 hk;unfold val0 at *;go_enter Tryz.func33,Tryz.ntmps33;go_wp2_with fail;rw [← HW0.out,← HW1.out];refine (CM.out _).mono ?_;rintro _ w1 ⟨rfl,he1⟩;have M1:=lhd (M0.out.ext hplt he1);clear M0 he1;go_wp2_with fail;refine (CBe.out ((q:Int)+1) _ M1.out.cur (by omega)).mono ?_;rintro _ w2 ⟨x,hx,rfl,hC2,hg2⟩;have hx6:x≤6:=by unfold below at hx;rw [if_neg (by omega)] at hx;omega
 have M2:=lhd (M1.out.moved hplt hC2 hg2);clear M1 hC2 hg2 hx;go_wp2_with fail;refine (CB.out x (by omega) _ M2.out.cur).mono ?_;rintro _ w3 ⟨v,bs,hbl,rfl,hO3,hn3,hC3,hg3⟩;obtain ⟨A3,c3,hsh⟩:=Own.shape hO3;subst hsh;have M3:=lhd (M2.out.moved hplt hC3 hg3);have z0:_=some (Value.slice none 0 0):=M3.out.box.cell 1
 have y0:=M3.out.box.free 1;have M4:=lhd (M3.out.bytes hplt hbw hO3 hn3 (by simp [Value.ownBlock]) (by have:=M2.out.size;omega));have HX:=lhd (HFT.out bs (by omega));have kk:_=some (Value.int .i64 r.kind):=M4.out.rb.cell 1
 clear M2 M3 hC3 hg3 hO3 hn3 hbl;have m0:_=some (Value.int .i64 0):=M4.out.box.cell 0
 have m1:_=some (Value.slice A3 bs.length c3):=M4.out.box.cell 1
 have m2:_=some (Value.slice none 0 0):=M4.out.box.cell 2
 have f1:=M4.out.res.cell;have f2:=M4.out.res.free;have HOUT:=lhd (M4.out.out hplt hbw (.int .i64 0) (Value.slice A3 bs.length c3) (Value.slice none 0 0));have HV:=lhd (HX.out);go_wp2_with fail;obtain ⟨hO,hF,hN,hCc,hG⟩:=HOUT.out;exact bodyPost_ret (v:=.agg #[.int .i64 0,Value.slice A3 bs.length c3,Value.slice none 0 0]) (by simp [results,Tryz.results33,go_sem,f1,f2]) rfl ⟨.mk 0 bs (Value.slice A3 bs.length c3) [] (Value.slice none 0 0),_,_,_,_,_,_,rfl,⟨rfl,rfl⟩,⟨HV.out.1,HV.out.2,hO,hF,hN,hCc,hG⟩⟩
theorem l9Make10_c (Ad:Option Addr) (ds:List DRule) (cd:Nat) (hok:descOk ds=true) (i:Nat) (hi:i<ds.length) (hk:ds[i].kind=10) (wb:World) (p:Nat) (A:Option Addr) (l:List UInt8) (c:Nat) (hA:Bs wb A l c) (HR:∀ j,j<i→MakeOk Ad ds cd wb p A l c j):MakeOk Ad ds cd wb p A l c i:=by
 intro m hm w hC hD;have hplt:=hC.lt;have hbw:=hC.2.1.size;have hdl:=(descOk_len hok).2;have CBe:=lhd (fun n w h hn=>l1Below_c n wb w p A l c hA h hn);have COn:=lhd (fun n w h hn=>l1Once_c n wb w p A l c hA h hn);obtain ⟨g,off,hAd,hgw,hall⟩:=hD.out;obtain ⟨Ab,cb,An,cn,At,ct,Ak,ck,hst⟩:=hall i hi;subst hAd;have hS:=(hst w (World.grownBy.refl _ _)).1;obtain ⟨r0,r1,r2,r3,r4,r5,r6,r7⟩:=(hst w (World.grownBy.refl _ _)).2;have HST:=lhd hst;have HD:=lhd hD;have HC:=lhd hC;have hii:(i:Int)<(ds.length:Int):=by omega
 have hi0:(0:Int)≤(i:Int):=by omega
 clear hall hst hD;have t1:=kfF hk 1;have t3:=kfF hk 3;have t4:=kfF hk 4;have t10:=kfT hk 10;have t5:=kfF hk 5;have t6:=kfF hk 6;have t7:=kfF hk 7;have t8:=kfF hk 8;have t9:=kfF hk 9;have HFT:Hid (∀ b:List UInt8,b.length≤6→FitV ds i (.mk 0 b [])):=made10 hi hk
 obtain ⟨q,hq⟩:∃ q:Nat,q=(if m<6 then m else 6):=⟨_,rfl⟩;have hq6:q≤6:=by rw [hq];split<;>omega
 have CM:Hid (∀ w,Gives Tryz.prog 60 #[.int .i64 (m:Int),.int .i64 6] w (.int .i64 (q:Int))):=fun w=>by
  have h:=sMin_c (m:Int) 6 w;have e:(if (6:Int)<(m:Int) then (6:Int) else (m:Int))=(q:Int):=by rw [hq];split<;>split<;>omega
  rwa [e] at h
 clear hq;have CB:=lhd (fun n (hn:n≤64) w h=>l1Bytes_c n hn wb w p A l c hA h);have hb1:=(term_byte hok i hi hk).2;obtain ⟨bb,ob,hAb,hbb,hcel⟩:=hS.b.at 0 (by omega);subst hAb;clear hcel;have HBC:Hid (∃ tb:UInt8,∀ w',w.grownBy w' (some p)→w'.cell? ⟨bb,ob,none⟩=some (Value.int .u8 (tb.toNat:Int))):=⟨ds[i].bytes[0]'(by omega),fun w' hg=>(HST.out w' hg).1.b.cellAt 0 (by omega)⟩
 have hbl0:0<ds[i].bytes.length:=by omega
 have hbl1:(0:Int)<(ds[i].bytes.length:Int):=by omega
 clear hb1;obtain ⟨tb,hbc⟩:=HBC.out;replace HBC:=lhd hbc;clear hbc;generalize ds[i]=r at *;obtain ⟨W0,W1,HW0,HW1,B1,B2,B3,B4,e0,x1,hs0,hs1⟩:=boxes4' w #[Value.slice (some ⟨g,off,none⟩) ds.length cd] val0 (rcs r (some ⟨bb,ob,none⟩) cb An cn At ct Ak ck) val0 26 29 67 29;have e01:=e0.trans x1
 have M0:Hid (VM wb w W1 p A l c (Value.slice (some ⟨g,off,none⟩) ds.length cd) (rcs r (some ⟨bb,ob,none⟩) cb An cn At ct Ak ck) 0 (.slice none 0 0) [] (.slice none 0 0) []) :=
  ⟨B1.ext x1,B2.ext x1,B3.ext x1,B4,OwnL.nil _ _,OwnTs.nil _ _,by simp [Far,Value.ownBlock],by simp [Value.ownBlock],HC.out.ext e01,grown_ext e01 _⟩
 have q0:∀ w',Ext W0 w'→_=some (Value.slice (some ⟨g,off,none⟩) ds.length cd):=B1.at 0
 have k0:∀ w',Ext W0 w'→_=some (Value.string r.nm):=B3.at 0
 have k1:∀ w',Ext W0 w'→_=some (Value.int .i64 r.kind):=B3.at 1
 have k2:∀ w',Ext W0 w'→_=some (Value.int .i64 r.size):=B3.at 2
 have k3:∀ w',Ext W0 w'→_=some (Value.bool r.little):=B3.at 3
 have k4:∀ w',Ext W0 w'→_=some (Value.slice (some ⟨bb,ob,none⟩) r.bytes.length cb):=B3.at 4
 have k5:∀ w',Ext W0 w'→_=some (Value.slice An r.names.length cn):=B3.at 5
 have k6:∀ w',Ext W0 w'→_=some (Value.slice At r.tags.length ct):=B3.at 6
 have k7:∀ w',Ext W0 w'→_=some (Value.slice Ak r.kids.length ck):=B3.at 7
 have HWM:Hid (IntKind.i64.wrap ((m:Int) / 2)=((m / 2:Nat):Int)):=by
  show _=_
  rw [IntWalk.i64_in _ (by omega)];omega
 have HS1:=lhd hs1;have HX1:=lhd x1;clear B1 B2 B3 B4 hs0 hs1 hk;unfold val0 at *;go_enter Tryz.func33,Tryz.ntmps33;go_wp2_with fail;rw [← HW0.out,← HW1.out];refine (CM.out _).mono ?_;rintro _ w1 ⟨rfl,he1⟩;have M1:=lhd (M0.out.ext hplt he1);clear M0 he1;go_wp2_with fail;refine (CBe.out ((q:Int)+1) _ M1.out.cur (by omega)).mono ?_;rintro _ w2 ⟨x,hx,rfl,hC2,hg2⟩;have hx6:x≤6:=by unfold below at hx;rw [if_neg (by omega)] at hx;omega
 have M2:=lhd (M1.out.moved hplt hC2 hg2);clear M1 hC2 hg2 hx;go_wp2_with fail;refine (CB.out x (by omega) _ M2.out.cur).mono ?_;rintro _ w3 ⟨v,bs,hbl,rfl,hO3,hn3,hC3,hg3⟩;obtain ⟨A3,c3,hsh⟩:=Own.shape hO3;subst hsh;have M3:=lhd (M2.out.moved hplt hC3 hg3);have z0:_=some (Value.slice none 0 0):=M3.out.box.cell 1
 have y0:=M3.out.box.free 1;have M4:=lhd (M3.out.bytes hplt hbw hO3 hn3 (by simp [Value.ownBlock]) (by have:=M2.out.size;omega));have kk:_=some (Value.int .i64 r.kind):=M4.out.rb.cell 1
 have u1:_=some (Value.slice A3 bs.length c3):=M4.out.box.cell 1
 have hbx:bs.length≤6:=by omega
 clear M2 M3 hC3 hg3 hO3 hn3 hbl
 by_cases hb0:0<bs.length
 ·have hb1:(0:Int)<(bs.length:Int):=by omega
  go_wp2_with fail;refine (COn.out 2 _ M4.out.cur (by omega)).mono ?_;rintro _ w5 ⟨b,rfl,hC5,hg5⟩;have M5:=lhd (M4.out.moved hplt hC5 hg5);clear M4 hC5 hg5 kk u1;cases b with
  | false =>
   have HX:=lhd (HFT.out bs hbx);have m0:_=some (Value.int .i64 0):=M5.out.box.cell 0
   have m1:_=some (Value.slice A3 bs.length c3):=M5.out.box.cell 1
   have m2:_=some (Value.slice none 0 0):=M5.out.box.cell 2
   have f1:=M5.out.res.cell;have f2:=M5.out.res.free;have HOUT:=lhd (M5.out.out hplt hbw (.int .i64 0) (Value.slice A3 bs.length c3) (Value.slice none 0 0));have HV:=lhd (HX.out);go_wp2_with fail;obtain ⟨hO,hF,hN,hCc,hG⟩:=HOUT.out;exact bodyPost_ret (v:=.agg #[.int .i64 0,Value.slice A3 bs.length c3,Value.slice none 0 0]) (by simp [results,Tryz.results33,go_sem,f1,f2]) rfl ⟨.mk 0 bs (Value.slice A3 bs.length c3) [] (Value.slice none 0 0),_,_,_,_,_,_,rfl,⟨rfl,rfl⟩,⟨HV.out.1,HV.out.2,hO,hF,hN,hCc,hG⟩⟩
  | true =>
   obtain ⟨g3,cap3,hv3,_,_⟩:=World.ownsRow.form M5.out.own hb0;injection hv3 with hv31 _ hv33
   subst hv31;subst hv33;have htb:IntKind.i64.wrap (tb.toNat:Int)=(tb.toNat:Int):=IntWalk.i64_in _ (by have:=tb.toNat_lt;omega)
   go_wp2_with fail;have MD:=lhd (M5.out.ext hplt (Ext_drew (Ext.refl w5)));have HAB:lv2 (fun w'=>w'.cell? ⟨w.heap.size+1+1+1,1,none⟩=some (Value.slice (some ⟨g3,0,none⟩) bs.length c3)∧w'.cell? ⟨w.heap.size+1+1,4,none⟩=some (Value.slice (some ⟨bb,ob,none⟩) r.bytes.length cb)∧w'.cell? ⟨bb,ob,none⟩=some (Value.int .u8 (tb.toNat:Int))) (fun _=>True) 1 w5.drew:=⟨MD.out.box.cell 1,MD.out.rb.cell 4,HBC.out _ MD.out.grow⟩
   clear M5;refine wp_region_C (C:=fun j=>lv2 (fun w'=>w'.cell? ⟨w.heap.size+1+1+1,1,none⟩=some (Value.slice (some ⟨g3,0,none⟩) bs.length c3)∧w'.cell? ⟨w.heap.size+1+1,4,none⟩=some (Value.slice (some ⟨bb,ob,none⟩) r.bytes.length cb)∧w'.cell? ⟨bb,ob,none⟩=some (Value.int .u8 (tb.toNat:Int))) (fun _=>True) (([0,1,0,0,1,0,1,0,1,1,1,0,0]:List Nat).getD j 0)) (by kernel_rfl) ?_;refine tkD 0 (i:=0) (v:=?_) rfl trivial ?_ ?_;rotate_left
   ·(intro w9 hSw;clear hSw;go_simp;try with_reducible rfl)
   try simp only [Act.put,lpa,lpz,lps]
   refine tkD 0 (i:=2) (v:=?_) rfl trivial ?_ ?_;rotate_left
   ·(intro w9 hSw;clear hSw;go_simp;try with_reducible rfl)
   try simp only [Act.put,lpa,lpz,lps]
   refine tkD 0 (i:=3) (v:=?_) rfl trivial ?_ ?_;rotate_left
   ·(intro w9 hSw;clear hSw;go_simp;try with_reducible rfl)
   try simp only [Act.put,lpa,lpz,lps]
   refine tkD 1 (i:=4) (v:=?_) rfl HAB ?_ ?_;rotate_left
   ·(intro w9 hSw;have hfact:w9.cell? ⟨w.heap.size+1+1,4,none⟩=some (Value.slice (some ⟨bb,ob,none⟩) r.bytes.length cb):=hSw.2.1;clear hSw;go_simp;try with_reducible rfl)
   try simp only [Act.put,lpa,lpz,lps]
   refine tkD 0 (i:=5) (v:=?_) rfl trivial ?_ ?_;rotate_left
   ·(intro w9 hSw;clear hSw;go_simp;try with_reducible rfl)
   try simp only [Act.put,lpa,lpz,lps]
   refine tkD 1 (i:=6) (v:=?_) rfl HAB ?_ ?_;rotate_left
   ·(intro w9 hSw;have hfact:w9.cell? ⟨bb,ob,none⟩=some (Value.int .u8 (tb.toNat:Int)):=hSw.2.2;clear hSw;go_simp;try with_reducible rfl)
   try simp only [Act.put,lpa,lpz,lps]
   refine tkD 0 (i:=7) (v:=?_) rfl trivial ?_ ?_;rotate_left
   ·(intro w9 hSw;clear hSw;go_simp;try with_reducible rfl)
   try simp only [Act.put,lpa,lpz,lps]
   refine tkD 1 (i:=1) (v:=?_) rfl HAB ?_ ?_;rotate_left
   ·(intro w9 hSw;have hfact:w9.cell? ⟨w.heap.size+1+1+1,1,none⟩=some (Value.slice (some ⟨g3,0,none⟩) bs.length c3):=hSw.1;clear hSw;go_simp;try with_reducible rfl)
   try simp only [Act.put,lpa,lpz,lps]
   refine wpAnyC_one (i:=8) (by kernel_rfl) rfl (fun K hK=>?_);go_simp;have M7:=lhd (MD.out.ext hplt (Ext_alloc (.cells #[.int .i64 (tb.toNat:Int),.int .i64 92] 3) (Ext.refl _)));refine Shut.out hK _ _ ⟨M7.out.box.cell 1,M7.out.rb.cell 4,HBC.out _ M7.out.grow⟩ ?_;(try simp only [Act.put,lpa,lpz,lps]);refine wpAnyC_one (i:=9) (by kernel_rfl) rfl (fun K hK=>?_);go_simp;go_at_call 57;refine (l1IntBox_c [(tb.toNat:Int),92] (by simp) (by simp) 2 rfl #[.int .i64 (tb.toNat:Int),.int .i64 92] rfl wb _ p A l c hA _ M7.out.cur (by first | (refine Box.newd' _ _ _ _ ?_;first | rfl | (simp;done)) | (refine Box.new' _ _ _ _ ?_;first | rfl | (simp;done)))).mono ?_;rintro _ w8 ⟨x,hx,rfl,hC8,hg8⟩;have M8:=lhd (M7.out.moved hplt hC8 hg8)
   obtain ⟨y,hyw⟩:∃ y:UInt8,IntKind.u8.wrap x=(y.toNat:Int):=(by
    simp only [List.mem_cons,List.not_mem_nil,or_false] at hx;rcases hx with rfl | rfl
    ·exact ⟨tb,IntWalk.u8_in _ (by have:=tb.toNat_lt;omega)⟩
    ·exact ⟨92,IntWalk.u8_in _ (by omega)⟩)
   obtain ⟨⟨u0,zz⟩,yy,M9⟩:=M8.out.byte0 hplt hbw hb0 y _ rfl;have M9:=lhd M9;have HX:=lhd (HFT.out (bs.set 0 y) (by rw [List.length_set];omega));clear hC8 hg8 hx;refine Shut.out hK _ _ ⟨M8.out.box.cell 1,M8.out.rb.cell 4,HBC.out _ M8.out.grow⟩ ?_;(try simp only [Act.put,lpa,lpz,lps]);refine wpAnyC_one (i:=10) (by kernel_rfl) rfl (fun K hK=>?_);go_simp;refine Shut.out hK _ _ ⟨M8.out.box.cell 1,M8.out.rb.cell 4,HBC.out _ M8.out.grow⟩ ?_;(try simp only [Act.put,lpa,lpz,lps]);refine wpAnyC_one (i:=11) (by kernel_rfl) rfl (fun K hK=>?_);go_simp;refine Shut.out hK _ _ trivial ?_;(try simp only [Act.put,lpa,lpz,lps]);refine wpAnyC_one (i:=12) (by kernel_rfl) rfl (fun K hK=>?_);go_simp;refine Shut.out hK _ _ trivial ?_;(try simp only [Act.put,lpa,lpz,lps]);refine wpAnyC_done (by kernel_rfl) ?_ _;clear HAB MD M7 M8;have m0:_=some (Value.int .i64 0):=M9.out.box.cell 0
   have m1:_=some (Value.slice (some ⟨g3,0,none⟩) bs.length c3):=M9.out.box.cell 1
   have m2:_=some (Value.slice none 0 0):=M9.out.box.cell 2
   have f1:=M9.out.res.cell;have f2:=M9.out.res.free;have HOUT:=lhd (M9.out.out hplt hbw (.int .i64 0) (Value.slice (some ⟨g3,0,none⟩) bs.length c3) (Value.slice none 0 0));have HV:=lhd (HX.out);go_wp2_with fail;obtain ⟨hO,hF,hN,hCc,hG⟩:=HOUT.out;exact bodyPost_ret (v:=.agg #[.int .i64 0,Value.slice (some ⟨g3,0,none⟩) bs.length c3,Value.slice none 0 0]) (by simp [results,Tryz.results33,go_sem,f1,f2]) rfl ⟨.mk 0 (bs.set 0 y) (Value.slice (some ⟨g3,0,none⟩) bs.length c3) [] (Value.slice none 0 0),_,_,_,_,_,_,rfl,⟨rfl,rfl⟩,⟨HV.out.1,HV.out.2,hO,hF,hN,hCc,hG⟩⟩
 ·have HX:=lhd (HFT.out bs hbx)
  have hb1:¬ (0:Int)<(bs.length:Int):=by omega
  have m0:_=some (Value.int .i64 0):=M4.out.box.cell 0
  have m1:_=some (Value.slice A3 bs.length c3):=M4.out.box.cell 1
  have m2:_=some (Value.slice none 0 0):=M4.out.box.cell 2
  have f1:=M4.out.res.cell;have f2:=M4.out.res.free;have HOUT:=lhd (M4.out.out hplt hbw (.int .i64 0) (Value.slice A3 bs.length c3) (Value.slice none 0 0));have HV:=lhd (HX.out);go_wp2_with fail;obtain ⟨hO,hF,hN,hCc,hG⟩:=HOUT.out;exact bodyPost_ret (v:=.agg #[.int .i64 0,Value.slice A3 bs.length c3,Value.slice none 0 0]) (by simp [results,Tryz.results33,go_sem,f1,f2]) rfl ⟨.mk 0 bs (Value.slice A3 bs.length c3) [] (Value.slice none 0 0),_,_,_,_,_,_,rfl,⟨rfl,rfl⟩,⟨HV.out.1,HV.out.2,hO,hF,hN,hCc,hG⟩⟩
theorem l9Make6_c (Ad:Option Addr) (ds:List DRule) (cd:Nat) (hok:descOk ds=true) (i:Nat) (hi:i<ds.length) (hk:ds[i].kind=6) (wb:World) (p:Nat) (A:Option Addr) (l:List UInt8) (c:Nat) (hA:Bs wb A l c) (HR:∀ j,j<i→MakeOk Ad ds cd wb p A l c j):MakeOk Ad ds cd wb p A l c i:=by
 intro m hm w hC hD;have hplt:=hC.lt;have hbw:=hC.2.1.size;have hdl:=(descOk_len hok).2;have CBe:=lhd (fun n w h hn=>l1Below_c n wb w p A l c hA h hn);have COn:=lhd (fun n w h hn=>l1Once_c n wb w p A l c hA h hn);obtain ⟨g,off,hAd,hgw,hall⟩:=hD.out;obtain ⟨Ab,cb,An,cn,At,ct,Ak,ck,hst⟩:=hall i hi;subst hAd;have hS:=(hst w (World.grownBy.refl _ _)).1;obtain ⟨r0,r1,r2,r3,r4,r5,r6,r7⟩:=(hst w (World.grownBy.refl _ _)).2;have HST:=lhd hst;have HD:=lhd hD;have HC:=lhd hC;have hii:(i:Int)<(ds.length:Int):=by omega
 have hi0:(0:Int)≤(i:Int):=by omega
 clear hall hst hD;have t1:=kfF hk 1;have t3:=kfF hk 3;have t4:=kfF hk 4;have t10:=kfF hk 10;have t5:=kfF hk 5;have t6:=kfT hk 6;have t7:=kfF hk 7;have t8:=kfF hk 8;have t9:=kfF hk 9;obtain ⟨hk8,hft⟩:=made6 hok hi hk;obtain ⟨bk,ok,hAk,hbk,hcel⟩:=hS.k.at 0 (by omega);subst hAk;clear hcel
 have HTK:Hid (∀ k,k<ds[i].kids.length→∀ w',w.grownBy w' (some p)→w'.cell? ⟨bk,ok+k,none⟩=some (Value.int .i64 ((kd ds[i] k:Nat):Int))):=fun k hk' w' hg=>by
  have h1:=(HST.out w' hg).1.k.cellAt k hk';rw [kd_int hok i hi k hk'] at h1;exact h1
 have CR:Hid (∀ k,k<ds[i].kids.length→∀ w',w.grownBy w' (some p)→Cur wb w' p A l c→∀ x:Int,x=((m / 2:Nat):Int)→Calls Tryz.prog 33 #[.pointer (some ⟨p,0,none⟩),.agg #[Value.slice (some ⟨g,off,none⟩) ds.length cd],.int .i64 ((kd ds[i] k:Nat):Int),.int .i64 x] w' fun e w''=>∃ (t:VT) (A1:Option Addr) (n1 c1:Nat) (A2:Option Addr) (n2 c2:Nat),e=.returned (.agg #[.int .i64 t.num,.slice A1 n1 c1,.slice A2 n2 c2])∧Hid (t.vb=.slice A1 n1 c1∧t.vi=.slice A2 n2 c2)∧DrawnV ds (kd ds[i] k) wb w' w'' p A l c t):=fun k hk' w' hg hc x hx=>by
  subst hx;exact HR _ (kd_lt hok i hi k hk') (m / 2) (by omega) w' hc (HD.out.mono hg)
 have HFT:=lhd hft;clear hft;obtain ⟨KD,hKD⟩:∃ KD:Nat→Nat,KD=fun k=>kd ds[i] k:=⟨_,rfl⟩
 have e:∀ k,kd ds[i] k=KD k:=fun k=>by rw [hKD]
 simp only [e] at HTK CR HFT;clear e hKD;generalize ds[i]=r at *;obtain ⟨W0,W1,HW0,HW1,B1,B2,B3,B4,e0,x1,hs0,hs1⟩:=boxes4' w #[Value.slice (some ⟨g,off,none⟩) ds.length cd] val0 (rcs r Ab cb An cn At ct (some ⟨bk,ok,none⟩) ck) val0 26 29 67 29;have e01:=e0.trans x1
 have M0:Hid (VM wb w W1 p A l c (Value.slice (some ⟨g,off,none⟩) ds.length cd) (rcs r Ab cb An cn At ct (some ⟨bk,ok,none⟩) ck) 0 (.slice none 0 0) [] (.slice none 0 0) []) :=
  ⟨B1.ext x1,B2.ext x1,B3.ext x1,B4,OwnL.nil _ _,OwnTs.nil _ _,by simp [Far,Value.ownBlock],by simp [Value.ownBlock],HC.out.ext e01,grown_ext e01 _⟩
 have q0:∀ w',Ext W0 w'→_=some (Value.slice (some ⟨g,off,none⟩) ds.length cd):=B1.at 0
 have k0:∀ w',Ext W0 w'→_=some (Value.string r.nm):=B3.at 0
 have k1:∀ w',Ext W0 w'→_=some (Value.int .i64 r.kind):=B3.at 1
 have k2:∀ w',Ext W0 w'→_=some (Value.int .i64 r.size):=B3.at 2
 have k3:∀ w',Ext W0 w'→_=some (Value.bool r.little):=B3.at 3
 have k4:∀ w',Ext W0 w'→_=some (Value.slice Ab r.bytes.length cb):=B3.at 4
 have k5:∀ w',Ext W0 w'→_=some (Value.slice An r.names.length cn):=B3.at 5
 have k6:∀ w',Ext W0 w'→_=some (Value.slice At r.tags.length ct):=B3.at 6
 have k7:∀ w',Ext W0 w'→_=some (Value.slice (some ⟨bk,ok,none⟩) r.kids.length ck):=B3.at 7
 have HWM:Hid (IntKind.i64.wrap ((m:Int) / 2)=((m / 2:Nat):Int)):=by
  show _=_
  rw [IntWalk.i64_in _ (by omega)];omega
 have HS1:=lhd hs1;have HX1:=lhd x1;clear B1 B2 B3 B4 hs0 hs1 hk;unfold val0 at *;go_enter Tryz.func33,Tryz.ntmps33;go_wp2;rw [← HW0.out,← HW1.out];go_loopw [12] (fun t wr=>∃ (k:Nat) (vi:Value) (ps:List VT),t=.int .i64 k∧(k=ps.length∧k≤r.kids.length)∧Hid (FitL ds (KD) (valsOf ps))∧Hid (VM wb w wr p A l c (Value.slice (some ⟨g,off,none⟩) ds.length cd) (rcs r Ab cb An cn At ct (some ⟨bk,ok,none⟩) ck) 0 (.slice none 0 0) [] vi ps)) (fun t _=>r.kids.length-(intOf t).toNat)
 case atStart=>exact ⟨0,_,[],rfl,⟨rfl,by omega⟩,FitL.nil _ _,M0⟩
 case round =>
  clear M0;obtain ⟨k,vi,ps,rfl,⟨hkp,hkl⟩,HF,M1⟩:=hrel;subst hkp;obtain ⟨Ai,ci,hvi⟩:=M1.out.its.shape;subst hvi;have u7:_=some (Value.slice (some ⟨bk,ok,none⟩) r.kids.length ck):=M1.out.rb.cell 7
  by_cases hlt:ps.length<r.kids.length
  ·have HKC:=lhd (HTK.out _ hlt)
   have HMX:Hid (ps.length+1≤maxLen∧(ps.length+1)*56≤140737488355328):=⟨by simp only [maxLen];omega,by omega⟩
   have hi1:(ps.length:Int)<(r.kids.length:Int):=by omega
   go_wp2_with fail;have MD:=lhd (M1.out.ext hplt (Ext_drew (Ext.refl wr)));have HOLD:=lhd MD.out.old;have HAB:lv2 (fun w'=>w'.cell? ⟨w.heap.size,0,none⟩=some (Value.slice (some ⟨g,off,none⟩) ds.length cd)∧w'.cell? ⟨w.heap.size+1+1,7,none⟩=some (Value.slice (some ⟨bk,ok,none⟩) r.kids.length ck)∧w'.cell? ⟨bk,ok+ps.length,none⟩=some (Value.int .i64 (KD ps.length:Int))∧w'.cell? ⟨w.heap.size+1+1+1,2,none⟩=some (Value.slice Ai ps.length ci)) (fun _=>True) 1 wr.drew:=⟨MD.out.db.cell 0,MD.out.rb.cell 7,HKC.out _ MD.out.grow,MD.out.box.cell 2⟩
   clear M1;refine wp_region_C (C:=fun j=>lv2 (fun w'=>w'.cell? ⟨w.heap.size,0,none⟩=some (Value.slice (some ⟨g,off,none⟩) ds.length cd)∧w'.cell? ⟨w.heap.size+1+1,7,none⟩=some (Value.slice (some ⟨bk,ok,none⟩) r.kids.length ck)∧w'.cell? ⟨bk,ok+ps.length,none⟩=some (Value.int .i64 (KD ps.length:Int))∧w'.cell? ⟨w.heap.size+1+1+1,2,none⟩=some (Value.slice Ai ps.length ci)) (fun _=>True) (([0,1,0,1,0,1,0,0,1,0,0,1,1,0,0,0]:List Nat).getD j 0)) (by kernel_rfl) ?_;refine tkD 0 (i:=0) (v:=?_) rfl trivial ?_ ?_;rotate_left
   ·(intro w9 hSw;clear hSw;go_simp;try with_reducible rfl)
   try simp only [Act.put,lpa,lpz,lps]
   refine tkD 0 (i:=2) (v:=?_) rfl trivial ?_ ?_;rotate_left
   ·(intro w9 hSw;clear hSw;go_simp;try with_reducible rfl)
   try simp only [Act.put,lpa,lpz,lps]
   refine tkD 0 (i:=4) (v:=?_) rfl trivial ?_ ?_;rotate_left
   ·(intro w9 hSw;clear hSw;go_simp;try with_reducible rfl)
   try simp only [Act.put,lpa,lpz,lps]
   refine tkD 0 (i:=6) (v:=?_) rfl trivial ?_ ?_;rotate_left
   ·(intro w9 hSw;clear hSw;go_simp;try with_reducible rfl)
   try simp only [Act.put,lpa,lpz,lps]
   refine tkD 0 (i:=9) (v:=?_) rfl trivial ?_ ?_;rotate_left
   ·(intro w9 hSw;clear hSw;go_simp;try with_reducible rfl)
   try simp only [Act.put,lpa,lpz,lps]
   refine tkD 0 (i:=10) (v:=?_) rfl trivial ?_ ?_;rotate_left
   ·(intro w9 hSw;clear hSw;go_simp;try with_reducible rfl)
   try simp only [Act.put,lpa,lpz,lps]
   refine tkD 1 (i:=5) (v:=?_) rfl HAB ?_ ?_;rotate_left
   ·(intro w9 hSw;have hfact:w9.cell? ⟨w.heap.size+1+1,7,none⟩=some (Value.slice (some ⟨bk,ok,none⟩) r.kids.length ck):=hSw.2.1;clear hSw;go_simp;try with_reducible rfl)
   try simp only [Act.put,lpa,lpz,lps]
   refine tkD 0 (i:=7) (v:=?_) rfl trivial ?_ ?_;rotate_left
   ·(intro w9 hSw;clear hSw;go_simp;try with_reducible rfl)
   try simp only [Act.put,lpa,lpz,lps]
   refine tkD 1 (i:=1) (v:=?_) rfl HAB ?_ ?_;rotate_left
   ·(intro w9 hSw;have hfact:w9.cell? ⟨w.heap.size+1+1+1,2,none⟩=some (Value.slice Ai ps.length ci):=hSw.2.2.2;clear hSw;go_simp;try with_reducible rfl)
   try simp only [Act.put,lpa,lpz,lps]
   refine tkD 1 (i:=3) (v:=?_) rfl HAB ?_ ?_;rotate_left
   ·(intro w9 hSw;have hfact:w9.cell? ⟨w.heap.size,0,none⟩=some (Value.slice (some ⟨g,off,none⟩) ds.length cd):=hSw.1;clear hSw;go_simp;try with_reducible rfl)
   try simp only [Act.put,lpa,lpz,lps]
   refine tkD 1 (i:=8) (v:=?_) rfl HAB ?_ ?_;rotate_left
   ·(intro w9 hSw;have hfact:w9.cell? ⟨bk,ok+ps.length,none⟩=some (Value.int .i64 (KD ps.length:Int)):=hSw.2.2.1;clear hSw;go_simp;try with_reducible rfl)
   try simp only [Act.put,lpa,lpz,lps]
   refine wpAnyC_one (i:=11) (by kernel_rfl) rfl (fun K hK=>?_);go_simp;go_at_call 33;refine (CR.out _ hlt _ MD.out.grow MD.out.cur _ (by first | exact HWM.out | omega)).mono ?_;rintro _ w6 ⟨t,A1,n1,c1,A2,n2,c2,rfl,hsh,hdv⟩;have M6:=lhd (MD.out.moved hplt hdv.cur hdv.grow);have HDV:=lhd hdv;clear hdv;refine Shut.out hK _ _ ⟨M6.out.db.cell 0,M6.out.rb.cell 7,HKC.out _ M6.out.grow,M6.out.box.cell 2⟩ ?_;(try simp only [Act.put,lpa,lpz,lps]);refine wpAnyC_one (i:=12) (by kernel_rfl) rfl (fun K hK=>?_);go_simp;have M6':=lhd (M6.out.ext hplt (Ext_alloc (.cells #[.int .i64 t.num,.slice A1 n1 c1,.slice A2 n2 c2] 29) (Ext.refl w6)));have hcs:t.cells=[.int .i64 t.num,.slice A1 n1 c1,.slice A2 n2 c2]:=by unfold VT.cells;rw [hsh.out.1,hsh.out.2]
   have HCS:=lhd hcs;have hone:=lhd HDV.out.own.one;rw [hcs] at hone;clear hcs;refine Shut.out hK _ _ ⟨M6'.out.db.cell 0,M6'.out.rb.cell 7,HKC.out _ M6'.out.grow,M6'.out.box.cell 2⟩ ?_;(try simp only [Act.put,lpa,lpz,lps]);refine wpAnyC_one (i:=13) (by kernel_rfl) rfl (fun K hK=>?_);refine step_app8 rfl (.tmp 109) (.tmp 120) _ rfl E_val wb (w6.alloc (.cells #[.int .i64 t.num,.slice A1 n1 c1,.slice A2 n2 c2] 29)) (Value.slice Ai ps.length ci) ps.length (ps.flatMap VT.cells) rfl M6'.out.its.row M6'.out.cur.2.1.size ⟨w6.heap.size,0,none⟩ 1 1 [.int .i64 t.num,.slice A1 n1 c1,.slice A2 n2 c2] rfl rfl (fun j u hu=>(World.cell?_alloc_at' w6 [.int .i64 t.num,.slice A1 n1 c1,.slice A2 n2 c2] 29 j).trans hu) hone.out HMX.out.1 HMX.out.2 ?_;intro v7 w7 ho7 hg7 hv7;rw [← HCS.out] at ho7;obtain ⟨⟨z7,y7⟩,M7⟩:=VM.snoc M6'.out hplt hbw (HDV.out.own.ext (Ext_alloc (.cells #[.int .i64 t.num,.slice A1 n1 c1,.slice A2 n2 c2] 29) (Ext.refl w6))) HDV.out.far HDV.out.new HOLD.out MD.out.size (by have:=HDV.out.grow.size;rw [World.size_alloc];omega) ho7 (M6'.out.cur.2.1.grown hg7 (fun k hk=>(World.ownsRow.lt M6'.out.its.row k hk).1)) hg7 hv7;obtain ⟨A7,c7,hsh7⟩:=M7.its.shape;replace hsh7:v7=.slice A7 (ps.length+1) c7:=(by rw [hsh7,List.length_append];rfl);subst hsh7;have M7:=lhd M7;have HX:=lhd (HF.out.put ⟨HDV.out.valid,HDV.out.sz⟩);clear ho7 hg7 hv7;refine Shut.out hK _ _ trivial ?_;(try simp only [Act.put,lpa,lpz,lps]);refine wpAnyC_one (i:=14) (by kernel_rfl) rfl (fun K hK=>?_);go_simp;refine Shut.out hK _ _ trivial ?_;(try simp only [Act.put,lpa,lpz,lps]);refine wpAnyC_one (i:=15) (by kernel_rfl) rfl (fun K hK=>?_);go_simp;refine Shut.out hK _ _ trivial ?_;(try simp only [Act.put,lpa,lpz,lps]);refine wpAnyC_done (by kernel_rfl) ?_ _;clear HAB MD M6 M6' HDV HOLD;clear u7 HKC HMX z7 y7;go_wp2;go_roundw
   case rel=>exact ⟨ps.length+1,_,ps++[t],by go_num,⟨by simp,by omega⟩,HX,M7⟩
   case measure=>simp [intOf];omega
  ·have hle:ps.length=r.kids.length:=by omega
   have HV6:=lhd (HFT.out (valsOf ps) (by rw [valsOf_len];exact hle) HF.out);clear hle;have m0:_=some (Value.int .i64 0):=M1.out.box.cell 0
   have m1:_=some (Value.slice none 0 0):=M1.out.box.cell 1
   have m2:_=some (Value.slice Ai ps.length ci):=M1.out.box.cell 2
   have f1:=M1.out.res.cell;have f2:=M1.out.res.free;have HOUT:=lhd (M1.out.out hplt hbw (.int .i64 0) (Value.slice none 0 0) (Value.slice Ai ps.length ci));have HV:=lhd (HV6.out);go_wp2_with fail;obtain ⟨hO,hF,hN,hCc,hG⟩:=HOUT.out;exact bodyPost_ret (v:=.agg #[.int .i64 0,Value.slice none 0 0,Value.slice Ai ps.length ci]) (by simp [results,Tryz.results33,go_sem,f1,f2]) rfl ⟨.mk 0 [] (Value.slice none 0 0) ps (Value.slice Ai ps.length ci),_,_,_,_,_,_,rfl,⟨rfl,rfl⟩,⟨HV.out.1,HV.out.2,hO,hF,hN,hCc,hG⟩⟩
theorem l9Make5_c (Ad:Option Addr) (ds:List DRule) (cd:Nat) (hok:descOk ds=true) (i:Nat) (hi:i<ds.length) (hk:ds[i].kind=5) (wb:World) (p:Nat) (A:Option Addr) (l:List UInt8) (c:Nat) (hA:Bs wb A l c) (HR:∀ j,j<i→MakeOk Ad ds cd wb p A l c j):MakeOk Ad ds cd wb p A l c i:=by
 intro m hm w hC hD;have hplt:=hC.lt;have hbw:=hC.2.1.size;have hdl:=(descOk_len hok).2;have CBe:=lhd (fun n w h hn=>l1Below_c n wb w p A l c hA h hn);have COn:=lhd (fun n w h hn=>l1Once_c n wb w p A l c hA h hn);obtain ⟨g,off,hAd,hgw,hall⟩:=hD.out;obtain ⟨Ab,cb,An,cn,At,ct,Ak,ck,hst⟩:=hall i hi;subst hAd;have hS:=(hst w (World.grownBy.refl _ _)).1;obtain ⟨r0,r1,r2,r3,r4,r5,r6,r7⟩:=(hst w (World.grownBy.refl _ _)).2;have HST:=lhd hst;have HD:=lhd hD;have HC:=lhd hC;have hii:(i:Int)<(ds.length:Int):=by omega
 have hi0:(0:Int)≤(i:Int):=by omega
 clear hall hst hD;have t1:=kfF hk 1;have t3:=kfF hk 3;have t4:=kfF hk 4;have t10:=kfF hk 10;have t5:=kfT hk 5;have t6:=kfF hk 6;have t7:=kfF hk 7;have t8:=kfF hk 8;have t9:=kfF hk 9;have hkl5:=((kids_len hok i hi).2.1 hk).1;have hft:=made5 hok hi hk;obtain ⟨bk,ok,hAk,hbk,hcel⟩:=hS.k.at 0 (by omega);subst hAk;clear hcel
 have HKC:Hid (∀ w',w.grownBy w' (some p)→w'.cell? ⟨bk,ok+1,none⟩=some (Value.int .i64 ((kd ds[i] 1:Nat):Int))):=fun w' hg=>by
  have h1:=(HST.out w' hg).1.k.cellAt 1 (by omega);rw [kd_int hok i hi 1 (by omega)] at h1;exact h1
 have CR:Hid (∀ w',w.grownBy w' (some p)→Cur wb w' p A l c→∀ x:Int,x=((m / 2:Nat):Int)→Calls Tryz.prog 33 #[.pointer (some ⟨p,0,none⟩),.agg #[Value.slice (some ⟨g,off,none⟩) ds.length cd],.int .i64 ((kd ds[i] 1:Nat):Int),.int .i64 x] w' fun e w''=>∃ (t:VT) (A1:Option Addr) (n1 c1:Nat) (A2:Option Addr) (n2 c2:Nat),e=.returned (.agg #[.int .i64 t.num,.slice A1 n1 c1,.slice A2 n2 c2])∧Hid (t.vb=.slice A1 n1 c1∧t.vi=.slice A2 n2 c2)∧DrawnV ds (kd ds[i] 1) wb w' w'' p A l c t):=fun w' hg hc x hx=>by
  subst hx;exact HR _ (kd_lt hok i hi 1 (by omega)) (m / 2) (by omega) w' hc (HD.out.mono hg)
 have HFT:=lhd hft;clear hft;generalize kd ds[i] 1=kj at *;have hkl0:1<ds[i].kids.length:=by omega
 have hkl1:(1:Int)<(ds[i].kids.length:Int):=by omega
 clear hkl5;obtain ⟨q,hq⟩:∃ q:Nat,q=(if m<3 then m else 3):=⟨_,rfl⟩;have hq3:q≤3:=by rw [hq];split<;>omega
 have CM:Hid (∀ w,Gives Tryz.prog 60 #[.int .i64 (m:Int),.int .i64 3] w (.int .i64 (q:Int))):=fun w=>by
  have h:=sMin_c (m:Int) 3 w;have e:(if (3:Int)<(m:Int) then (3:Int) else (m:Int))=(q:Int):=by rw [hq];split<;>split<;>omega
  rwa [e] at h
 clear hq;generalize ds[i]=r at *;obtain ⟨W0,W1,HW0,HW1,B1,B2,B3,B4,e0,x1,hs0,hs1⟩:=boxes4' w #[Value.slice (some ⟨g,off,none⟩) ds.length cd] val0 (rcs r Ab cb An cn At ct (some ⟨bk,ok,none⟩) ck) val0 26 29 67 29;have e01:=e0.trans x1
 have M0:Hid (VM wb w W1 p A l c (Value.slice (some ⟨g,off,none⟩) ds.length cd) (rcs r Ab cb An cn At ct (some ⟨bk,ok,none⟩) ck) 0 (.slice none 0 0) [] (.slice none 0 0) []) :=
  ⟨B1.ext x1,B2.ext x1,B3.ext x1,B4,OwnL.nil _ _,OwnTs.nil _ _,by simp [Far,Value.ownBlock],by simp [Value.ownBlock],HC.out.ext e01,grown_ext e01 _⟩
 have q0:∀ w',Ext W0 w'→_=some (Value.slice (some ⟨g,off,none⟩) ds.length cd):=B1.at 0
 have k0:∀ w',Ext W0 w'→_=some (Value.string r.nm):=B3.at 0
 have k1:∀ w',Ext W0 w'→_=some (Value.int .i64 r.kind):=B3.at 1
 have k2:∀ w',Ext W0 w'→_=some (Value.int .i64 r.size):=B3.at 2
 have k3:∀ w',Ext W0 w'→_=some (Value.bool r.little):=B3.at 3
 have k4:∀ w',Ext W0 w'→_=some (Value.slice Ab r.bytes.length cb):=B3.at 4
 have k5:∀ w',Ext W0 w'→_=some (Value.slice An r.names.length cn):=B3.at 5
 have k6:∀ w',Ext W0 w'→_=some (Value.slice At r.tags.length ct):=B3.at 6
 have k7:∀ w',Ext W0 w'→_=some (Value.slice (some ⟨bk,ok,none⟩) r.kids.length ck):=B3.at 7
 have HWM:Hid (IntKind.i64.wrap ((m:Int) / 2)=((m / 2:Nat):Int)):=by
  show _=_
  rw [IntWalk.i64_in _ (by omega)];omega
 have HS1:=lhd hs1;have HX1:=lhd x1;clear B1 B2 B3 B4 hs0 hs1 hk;unfold val0 at *;go_enter Tryz.func33,Tryz.ntmps33;go_wp2_with fail;rw [← HW0.out,← HW1.out];refine (CM.out _).mono ?_;rintro _ w1 ⟨rfl,he1⟩;have M1:=lhd (M0.out.ext hplt he1);clear M0 he1;go_wp2_with fail;refine (CBe.out ((q:Int)+1) _ M1.out.cur (by omega)).mono ?_;rintro _ w2 ⟨x,hx,rfl,hC2,hg2⟩;have hx3:x≤3:=by unfold below at hx;rw [if_neg (by omega)] at hx;omega
 have M2:=lhd (M1.out.moved hplt hC2 hg2);clear M1 hC2 hg2 hx;go_wp2;go_loopw [11] (fun t wr=>∃ (k:Nat) (vi:Value) (ps:List VT),t=.int .i64 k∧(k+ps.length≤3)∧Hid (FitL ds (fun _=>kj) (valsOf ps))∧Hid (VM wb w wr p A l c (Value.slice (some ⟨g,off,none⟩) ds.length cd) (rcs r Ab cb An cn At ct (some ⟨bk,ok,none⟩) ck) 0 (.slice none 0 0) [] vi ps)) (fun t _=>(intOf t).toNat)
 case atStart=>exact ⟨x,_,[],rfl,by simpa using hx3,FitL.nil _ _,M2⟩
 case round =>
  clear M2;obtain ⟨k,vi,ps,rfl,hkp,HF,M1⟩:=hrel;obtain ⟨Ai,ci,hvi⟩:=M1.out.its.shape;subst hvi
  by_cases hlt:0<k
  ·have HMX:Hid (ps.length+1≤maxLen∧(ps.length+1)*56≤140737488355328):=⟨by simp only [maxLen];omega,by omega⟩
   go_wp2_with fail;have MD:=lhd (M1.out.ext hplt (Ext_drew (Ext.refl wr)));have HOLD:=lhd MD.out.old;have HAB:lv2 (fun w'=>w'.cell? ⟨w.heap.size,0,none⟩=some (Value.slice (some ⟨g,off,none⟩) ds.length cd)∧w'.cell? ⟨w.heap.size+1+1,7,none⟩=some (Value.slice (some ⟨bk,ok,none⟩) r.kids.length ck)∧w'.cell? ⟨bk,ok+1,none⟩=some (Value.int .i64 (kj:Int))∧w'.cell? ⟨w.heap.size+1+1+1,2,none⟩=some (Value.slice Ai ps.length ci)) (fun _=>True) 1 wr.drew:=⟨MD.out.db.cell 0,MD.out.rb.cell 7,HKC.out _ MD.out.grow,MD.out.box.cell 2⟩
   clear M1;refine wp_region_C (C:=fun j=>lv2 (fun w'=>w'.cell? ⟨w.heap.size,0,none⟩=some (Value.slice (some ⟨g,off,none⟩) ds.length cd)∧w'.cell? ⟨w.heap.size+1+1,7,none⟩=some (Value.slice (some ⟨bk,ok,none⟩) r.kids.length ck)∧w'.cell? ⟨bk,ok+1,none⟩=some (Value.int .i64 (kj:Int))∧w'.cell? ⟨w.heap.size+1+1+1,2,none⟩=some (Value.slice Ai ps.length ci)) (fun _=>True) (([0,1,0,1,0,1,0,1,0,0,1,1,0,0,0]:List Nat).getD j 0)) (by kernel_rfl) ?_;refine tkD 0 (i:=0) (v:=?_) rfl trivial ?_ ?_;rotate_left
   ·(intro w9 hSw;clear hSw;go_simp;try with_reducible rfl)
   try simp only [Act.put,lpa,lpz,lps]
   refine tkD 0 (i:=2) (v:=?_) rfl trivial ?_ ?_;rotate_left
   ·(intro w9 hSw;clear hSw;go_simp;try with_reducible rfl)
   try simp only [Act.put,lpa,lpz,lps]
   refine tkD 0 (i:=4) (v:=?_) rfl trivial ?_ ?_;rotate_left
   ·(intro w9 hSw;clear hSw;go_simp;try with_reducible rfl)
   try simp only [Act.put,lpa,lpz,lps]
   refine tkD 0 (i:=8) (v:=?_) rfl trivial ?_ ?_;rotate_left
   ·(intro w9 hSw;clear hSw;go_simp;try with_reducible rfl)
   try simp only [Act.put,lpa,lpz,lps]
   refine tkD 0 (i:=9) (v:=?_) rfl trivial ?_ ?_;rotate_left
   ·(intro w9 hSw;clear hSw;go_simp;try with_reducible rfl)
   try simp only [Act.put,lpa,lpz,lps]
   refine tkD 1 (i:=5) (v:=?_) rfl HAB ?_ ?_;rotate_left
   ·(intro w9 hSw;have hfact:w9.cell? ⟨w.heap.size+1+1,7,none⟩=some (Value.slice (some ⟨bk,ok,none⟩) r.kids.length ck):=hSw.2.1;clear hSw;go_simp;try with_reducible rfl)
   try simp only [Act.put,lpa,lpz,lps]
   refine tkD 0 (i:=6) (v:=?_) rfl trivial ?_ ?_;rotate_left
   ·(intro w9 hSw;clear hSw;go_simp;try with_reducible rfl)
   try simp only [Act.put,lpa,lpz,lps]
   refine tkD 1 (i:=1) (v:=?_) rfl HAB ?_ ?_;rotate_left
   ·(intro w9 hSw;have hfact:w9.cell? ⟨w.heap.size+1+1+1,2,none⟩=some (Value.slice Ai ps.length ci):=hSw.2.2.2;clear hSw;go_simp;try with_reducible rfl)
   try simp only [Act.put,lpa,lpz,lps]
   refine tkD 1 (i:=3) (v:=?_) rfl HAB ?_ ?_;rotate_left
   ·(intro w9 hSw;have hfact:w9.cell? ⟨w.heap.size,0,none⟩=some (Value.slice (some ⟨g,off,none⟩) ds.length cd):=hSw.1;clear hSw;go_simp;try with_reducible rfl)
   try simp only [Act.put,lpa,lpz,lps]
   refine tkD 1 (i:=7) (v:=?_) rfl HAB ?_ ?_;rotate_left
   ·(intro w9 hSw;have hfact:w9.cell? ⟨bk,ok+1,none⟩=some (Value.int .i64 (kj:Int)):=hSw.2.2.1;clear hSw;go_simp;try with_reducible rfl)
   try simp only [Act.put,lpa,lpz,lps]
   refine wpAnyC_one (i:=10) (by kernel_rfl) rfl (fun K hK=>?_);go_simp;go_at_call 33;refine (CR.out _ MD.out.grow MD.out.cur _ (by first | exact HWM.out | omega)).mono ?_;rintro _ w6 ⟨t,A1,n1,c1,A2,n2,c2,rfl,hsh,hdv⟩;have M6:=lhd (MD.out.moved hplt hdv.cur hdv.grow);have HDV:=lhd hdv;clear hdv;refine Shut.out hK _ _ ⟨M6.out.db.cell 0,M6.out.rb.cell 7,HKC.out _ M6.out.grow,M6.out.box.cell 2⟩ ?_;(try simp only [Act.put,lpa,lpz,lps]);refine wpAnyC_one (i:=11) (by kernel_rfl) rfl (fun K hK=>?_);go_simp;have M6':=lhd (M6.out.ext hplt (Ext_alloc (.cells #[.int .i64 t.num,.slice A1 n1 c1,.slice A2 n2 c2] 29) (Ext.refl w6)));have hcs:t.cells=[.int .i64 t.num,.slice A1 n1 c1,.slice A2 n2 c2]:=by unfold VT.cells;rw [hsh.out.1,hsh.out.2]
   have HCS:=lhd hcs;have hone:=lhd HDV.out.own.one;rw [hcs] at hone;clear hcs;refine Shut.out hK _ _ ⟨M6'.out.db.cell 0,M6'.out.rb.cell 7,HKC.out _ M6'.out.grow,M6'.out.box.cell 2⟩ ?_;(try simp only [Act.put,lpa,lpz,lps]);refine wpAnyC_one (i:=12) (by kernel_rfl) rfl (fun K hK=>?_);refine step_app8 rfl (.tmp 86) (.tmp 96) _ rfl E_val wb (w6.alloc (.cells #[.int .i64 t.num,.slice A1 n1 c1,.slice A2 n2 c2] 29)) (Value.slice Ai ps.length ci) ps.length (ps.flatMap VT.cells) rfl M6'.out.its.row M6'.out.cur.2.1.size ⟨w6.heap.size,0,none⟩ 1 1 [.int .i64 t.num,.slice A1 n1 c1,.slice A2 n2 c2] rfl rfl (fun j u hu=>(World.cell?_alloc_at' w6 [.int .i64 t.num,.slice A1 n1 c1,.slice A2 n2 c2] 29 j).trans hu) hone.out HMX.out.1 HMX.out.2 ?_;intro v7 w7 ho7 hg7 hv7;rw [← HCS.out] at ho7;obtain ⟨⟨z7,y7⟩,M7⟩:=VM.snoc M6'.out hplt hbw (HDV.out.own.ext (Ext_alloc (.cells #[.int .i64 t.num,.slice A1 n1 c1,.slice A2 n2 c2] 29) (Ext.refl w6))) HDV.out.far HDV.out.new HOLD.out MD.out.size (by have:=HDV.out.grow.size;rw [World.size_alloc];omega) ho7 (M6'.out.cur.2.1.grown hg7 (fun k hk=>(World.ownsRow.lt M6'.out.its.row k hk).1)) hg7 hv7;obtain ⟨A7,c7,hsh7⟩:=M7.its.shape;replace hsh7:v7=.slice A7 (ps.length+1) c7:=(by rw [hsh7,List.length_append];rfl);subst hsh7;have M7:=lhd M7;have HX:=lhd (HF.out.put ⟨HDV.out.valid,HDV.out.sz⟩);clear ho7 hg7 hv7;refine Shut.out hK _ _ trivial ?_;(try simp only [Act.put,lpa,lpz,lps]);refine wpAnyC_one (i:=13) (by kernel_rfl) rfl (fun K hK=>?_);go_simp;refine Shut.out hK _ _ trivial ?_;(try simp only [Act.put,lpa,lpz,lps]);refine wpAnyC_one (i:=14) (by kernel_rfl) rfl (fun K hK=>?_);go_simp;refine Shut.out hK _ _ trivial ?_;(try simp only [Act.put,lpa,lpz,lps]);refine wpAnyC_done (by kernel_rfl) ?_ _;clear HAB MD M6 M6' HDV HOLD;clear HMX z7 y7;go_wp2;go_roundw
   case rel=>exact ⟨k-1,_,ps++[t],by go_num,by simp;omega,HX,M7⟩
   case measure=>simp [intOf];omega
  ·obtain rfl:k=0:=by omega
   have HV6:=lhd (HFT.out (valsOf ps) (by rw [valsOf_len];omega) HF.out);have m0:_=some (Value.int .i64 0):=M1.out.box.cell 0
   have m1:_=some (Value.slice none 0 0):=M1.out.box.cell 1
   have m2:_=some (Value.slice Ai ps.length ci):=M1.out.box.cell 2
   have f1:=M1.out.res.cell;have f2:=M1.out.res.free;have HOUT:=lhd (M1.out.out hplt hbw (.int .i64 0) (Value.slice none 0 0) (Value.slice Ai ps.length ci));have HV:=lhd (HV6.out);go_wp2_with fail;obtain ⟨hO,hF,hN,hCc,hG⟩:=HOUT.out;exact bodyPost_ret (v:=.agg #[.int .i64 0,Value.slice none 0 0,Value.slice Ai ps.length ci]) (by simp [results,Tryz.results33,go_sem,f1,f2]) rfl ⟨.mk 0 [] (Value.slice none 0 0) ps (Value.slice Ai ps.length ci),_,_,_,_,_,_,rfl,⟨rfl,rfl⟩,⟨HV.out.1,HV.out.2,hO,hF,hN,hCc,hG⟩⟩
end Go.Proofs.YtlfhealneccdkaaGreatDoor
