/- Texts, laid into one. -/
import Derived.Test.YtpmcofmdjckijaaGreatZDg23
import Derived.Test.YtpmcofmdjckijaaGreatZDg22
import Derived.Test.YtpmcofmdjckijaaGreatZDg24
set_option linter.unusedVariables false
set_option linter.unusedSimpArgs false
set_option maxRecDepth 100000
set_option maxHeartbeats 16000000
namespace Go.Proofs.YtpmcofmdjckijaaGreat
open Go.RowKit Go.Sort
theorem decI_lt (r:DRule) (l:List UInt8) (h:l.length≤4):decI r l<4294967296:=by
 unfold decI
 split
 ·exact rdN_lt _ (by simpa using h)
 ·exact rdN_lt _ h
theorem intAt_lt {r:DRule} {b:List UInt8} {a n:Nat} (hs:r.size≤4) (h:intAt r b a=some n):n<4294967296:=by
 unfold intAt at h
 split at h
 ·cases h
 ·injection h with h
  subst h;exact decI_lt _ _ (by simp;omega)
theorem seq_kids {ds:List DRule} (h:descOk ds=true) (i:Nat) (hi:i<ds.length) (h6:ds[i].kind=6):ds[i].kids.length≤1000000:=by
 have hk:=ruleKind h i hi;unfold kindOk at hk;rw [if_neg (by omega),if_neg (by omega),if_neg (by omega),if_neg (by omega),if_neg (by omega),if_pos h6] at hk;unfold seqOk at hk;simp only [Bool.and_eq_true,between_iff] at hk
 omega
theorem sRead2_c (A:Option Addr) (ds:List DRule) (c:Nat) (hok:descOk ds=true) (i:Nat) (hi:i<ds.length) (hk:ds[i].kind=2) (Ab:Option Addr) (b:List UInt8) (cb:Nat) (HR:∀ j,j<i→sReadOk A ds c Ab b cb j):sReadOk A ds c Ab b cb i:=by
 intro a w ha hd hb;have hl:=hd.len;have hbl:=hb.len;obtain ⟨bR,oR,Rb,rb,Rn,rn,Rt,rt,Rk,rk,hA,hbR,hS,hRR⟩:=hd.at i hi;obtain ⟨r0,r1,r2,r3,r4,r5,r6,r7⟩:=hRR;subst hA;have hii:(i:Int)<(ds.length:Int):=by omega
 have hi0:(0:Int)≤(i:Int):=by omega
 rw [readV_step hok b i a hi];have t1:=kfF hk 1;have t2:=kfT hk 2;have t3:=kfF hk 3;have t10:=kfF hk 10;have t6:=kfF hk 6;have t7:=kfF hk 7;have t8:=kfF hk 8;have t9:=kfF hk 9;have t4:=kfF hk 4
 have hY:readR ds (readV ds b) ds[i] b a=⟨v0,(constF b a ds[i].bytes 0).next,(constF b a ds[i].bytes 0).code⟩:=by
  unfold readR;rw [if_neg (by omega),if_pos hk];exact constF_v _ _ _ _
 rw [hY]
 have CC:Hid (∀ w',Ext w w'→Gives Tryz.prog 83 #[.agg (rcs ds[i] Rb rb Rn rn Rt rt Rk rk),.slice Ab b.length cb,.int .i64 (a:Int)] w' (.tuple #[.agg #[.int .i64 0,.slice none 0 0,.slice none 0 0],.int .i64 ((constF b a ds[i].bytes 0).next:Int),.int .i64 ((constF b a ds[i].bytes 0).code:Int)])):=fun w' e =>
  sConst_c ds[i] Rb rb Rn rn Rt rt Rk rk Ab b cb a ha w' (hS.ext e) (hb.ext e)
 generalize (constF b a ds[i].bytes 0).next=nx at *;generalize (constF b a ds[i].bytes 0).code=cd at *;generalize ds[i]=r at *;obtain ⟨W0,HW0,B1,B2,B3,e0,hs0⟩:=boxes3' w #[.slice (some ⟨bR,oR,none⟩) ds.length c] #[.int .i64 0,.slice none 0 0,.slice none 0 0] (rcs r Rb rb Rn rn Rt rt Rk rk) 26 46 96;have d0:∀ w',Ext W0 w'→_=some (Value.slice (some ⟨bR,oR,none⟩) ds.length c):=B1.at 0
 have q0:∀ w',Ext W0 w'→_=some (Value.string r.nm):=B3.at 0
 have q1:∀ w',Ext W0 w'→_=some (Value.int .i64 r.kind):=B3.at 1
 have q2:∀ w',Ext W0 w'→_=some (Value.int .i64 r.size):=B3.at 2
 have q3:∀ w',Ext W0 w'→_=some (Value.bool r.little):=B3.at 3
 have q4:∀ w',Ext W0 w'→_=some (Value.slice Rb r.bytes.length rb):=B3.at 4
 have q5:∀ w',Ext W0 w'→_=some (Value.slice Rn r.names.length rn):=B3.at 5
 have q6:∀ w',Ext W0 w'→_=some (Value.slice Rt r.tags.length rt):=B3.at 6
 have q7:∀ w',Ext W0 w'→_=some (Value.slice Rk r.kids.length rk):=B3.at 7
 have HB2:=lhd B2;have HS0:=lhd hs0;clear B1 B2 B3 hs0;clear hd hb hS HR hk hY;unfold vdesc;go_enter Tryz.func49,Tryz.ntmps49;go_wp2_with fail;rw [← HW0.out];refine (CC.out _ e0).mono ?_;rintro _ w1 ⟨rfl,he1⟩;have hbq:=HB2.out.ext he1;have f1:=hbq.cell;have f2:=hbq.free;have hs0':=HS0.out;have hput:=(e0.trans he1).grown (grown_put3 _ (w.heap.size+1) 0 t0) (fun g hg=>by injection hg with hg;omega);have HPUT:=lhd hput;clear hput hs0';go_wp2;exact bodyPost_ret (v:=badRes nx cd) (by simp [results,Tryz.results49,go_sem,f1,f2,badRes,zeroV]) rfl ⟨t0,rfl,GotV.zero _ _,HPUT.out⟩
theorem sRead1_c (A:Option Addr) (ds:List DRule) (c:Nat) (hok:descOk ds=true) (i:Nat) (hi:i<ds.length) (hk:ds[i].kind=1) (Ab:Option Addr) (b:List UInt8) (cb:Nat) (HR:∀ j,j<i→sReadOk A ds c Ab b cb j):sReadOk A ds c Ab b cb i:=by
 intro a w ha hd hb;have hl:=hd.len;have hbl:=hb.len;obtain ⟨bR,oR,Rb,rb,Rn,rn,Rt,rt,Rk,rk,hA,hbR,hS,hRR⟩:=hd.at i hi;obtain ⟨r0,r1,r2,r3,r4,r5,r6,r7⟩:=hRR;subst hA;have hii:(i:Int)<(ds.length:Int):=by omega
 have hi0:(0:Int)≤(i:Int):=by omega
 rw [readV_step hok b i a hi];have t1:=kfT hk 1;have t2:=kfF hk 2;have t3:=kfF hk 3;have t10:=kfF hk 10;have t6:=kfF hk 6;have t7:=kfF hk 7;have t8:=kfF hk 8;have t9:=kfF hk 9;have t4:=kfF hk 4;have hs14:=(kids_len hok i hi).2.2.2.2.2.1 hk
 have hY:readR ds (readV ds b) ds[i] b a=(match intAt ds[i] b a with | none=>.bad a 1 | some n=>⟨.mk n [] [],a+ds[i].size.toNat,0⟩):=by
  unfold readR;rw [if_pos hk];rfl
 rw [hY]
 have CC:Hid (∀ w',Ext w w'→Gives Tryz.prog 77 #[.agg #[.slice (some ⟨bR,oR,none⟩) ds.length c],.int .i64 (i:Int),.slice Ab b.length cb,.int .i64 (a:Int)] w' (intRes (intAt ds[i] b a) a (a+ds[i].size.toNat))):=fun w' e =>
  sInteger_c _ ds c i hi hs14 Ab b cb a ha w' (hd.ext e) (hb.ext e)
 generalize intAt ds[i] b a=O at *;generalize a+ds[i].size.toNat=nx at *;generalize ds[i]=r at *;obtain ⟨W0,HW0,B1,B2,B3,e0,hs0⟩:=boxes3' w #[.slice (some ⟨bR,oR,none⟩) ds.length c] #[.int .i64 0,.slice none 0 0,.slice none 0 0] (rcs r Rb rb Rn rn Rt rt Rk rk) 26 46 96;have d0:∀ w',Ext W0 w'→_=some (Value.slice (some ⟨bR,oR,none⟩) ds.length c):=B1.at 0
 have q0:∀ w',Ext W0 w'→_=some (Value.string r.nm):=B3.at 0
 have q1:∀ w',Ext W0 w'→_=some (Value.int .i64 r.kind):=B3.at 1
 have q2:∀ w',Ext W0 w'→_=some (Value.int .i64 r.size):=B3.at 2
 have q3:∀ w',Ext W0 w'→_=some (Value.bool r.little):=B3.at 3
 have q4:∀ w',Ext W0 w'→_=some (Value.slice Rb r.bytes.length rb):=B3.at 4
 have q5:∀ w',Ext W0 w'→_=some (Value.slice Rn r.names.length rn):=B3.at 5
 have q6:∀ w',Ext W0 w'→_=some (Value.slice Rt r.tags.length rt):=B3.at 6
 have q7:∀ w',Ext W0 w'→_=some (Value.slice Rk r.kids.length rk):=B3.at 7
 have HB2:=lhd B2;have HS0:=lhd hs0;clear B1 B2 B3 hs0;clear hd hb hS HR hk hY hs14;cases O with
 | none =>
  simp only [intRes] at CC;unfold vdesc;go_enter Tryz.func49,Tryz.ntmps49;go_wp2_with fail;rw [← HW0.out];refine (CC.out _ e0).mono ?_;rintro _ w1 ⟨rfl,he1⟩;have hbq:=HB2.out.ext he1;have f1:=hbq.cell;have f2:=hbq.free;have hs0':=HS0.out;have hput:=(e0.trans he1).grown (grown_put3 _ (w.heap.size+1) 0 t0) (fun g hg=>by injection hg with hg;omega);have HPUT:=lhd hput;clear hput hs0';go_wp2;exact bodyPost_ret (v:=badRes a 1) (by simp [results,Tryz.results49,go_sem,f1,f2,badRes,zeroV]) rfl (RdOut.bad HPUT.out)
 | some n =>
  simp only [intRes] at CC;unfold vdesc;go_enter Tryz.func49,Tryz.ntmps49;go_wp2_with fail;rw [← HW0.out];refine (CC.out _ e0).mono ?_;rintro _ w1 ⟨rfl,he1⟩;have hbq:=HB2.out.ext he1;have f1:=hbq.cell;have f2:=hbq.free;have hs0':=HS0.out;have hG:=val_out3 (w:=w) (g:=w.heap.size+1) (by omega) (e0.trans he1) ((GotV.zero w w1).renum (n:Int)) (fun u hu g hg=>by rw [vals_renum] at hu;simp [VT.vals_eq,t0,VT.vb,VT.vi,VT.its] at hu;subst hu;cases hg) (.int .i64 (n:Int)) (.slice none 0 0) (.slice none 0 0);have HG:=lhd hG;clear hG hs0';go_wp2;exact bodyPost_ret (v:=.tuple #[.agg #[.int .i64 (n:Int),.slice none 0 0,.slice none 0 0],.int .i64 (nx:Int),.int .i64 0]) (by simp [results,Tryz.results49,go_sem,f1,f2]) rfl ⟨_,rfl,HG.out.1,HG.out.2⟩
theorem sRead3_c (A:Option Addr) (ds:List DRule) (c:Nat) (hok:descOk ds=true) (i:Nat) (hi:i<ds.length) (hk:ds[i].kind=3) (Ab:Option Addr) (b:List UInt8) (cb:Nat) (HR:∀ j,j<i→sReadOk A ds c Ab b cb j):sReadOk A ds c Ab b cb i:=by
 intro a w ha hd hb;have hl:=hd.len;have hbl:=hb.len;obtain ⟨bR,oR,Rb,rb,Rn,rn,Rt,rt,Rk,rk,hA,hbR,hS,hRR⟩:=hd.at i hi;obtain ⟨r0,r1,r2,r3,r4,r5,r6,r7⟩:=hRR;subst hA;have hii:(i:Int)<(ds.length:Int):=by omega
 have hi0:(0:Int)≤(i:Int):=by omega
 rw [readV_step hok b i a hi];have t1:=kfF hk 1;have t2:=kfF hk 2;have t3:=kfT hk 3;have t10:=kfF hk 10;have t6:=kfF hk 6;have t7:=kfF hk 7;have t8:=kfF hk 8;have t9:=kfF hk 9;have t4:=kfF hk 4;have hs3:=(kids_len hok i hi).2.2.2.2.2.2 hk
 have CB:∀ w',Ext w w'→Calls Tryz.prog 84 #[.slice Ab b.length cb,.int .i64 (a:Int),.int .i64 ds[i].size] w' (RdOut (bytesF b a ds[i].size.toNat) w'):=fun w' e=>by
  have h:=sBytes_c Ab b cb a ds[i].size.toNat ha (by omega) w' (hb.ext e)
  rwa [Int.toNat_of_nonneg (by omega)] at h
 have hY:readR ds (readV ds b) ds[i] b a=(bytesF b a ds[i].size.toNat):=by
  unfold readR;rw [if_neg (by omega),if_neg (by omega),if_pos hk]
 rw [hY]
 have CC:Hid (∀ w',Ext w w'→Calls Tryz.prog 84 #[.slice Ab b.length cb,.int .i64 (a:Int),.int .i64 ds[i].size] w' fun e w''=>∃ (t:VT) (A1:Option Addr) (n1 c1:Nat) (A2:Option Addr) (n2 c2:Nat),e=.returned (.tuple #[.agg #[.int .i64 ((bytesF b a ds[i].size.toNat)).v.num,.slice A1 n1 c1,.slice A2 n2 c2],.int .i64 (((bytesF b a ds[i].size.toNat)).next:Int),.int .i64 (((bytesF b a ds[i].size.toNat)).code:Int)])∧Hid (t.vb=.slice A1 n1 c1∧t.vi=.slice A2 n2 c2)∧Hid (GotV w' w'' t ((bytesF b a ds[i].size.toNat)).v)∧Ext w' w''):=fun w' e =>
  (CB w' e).mono fun e' w'' h=>RdOut.shape h
 generalize (bytesF b a ds[i].size.toNat)=Y at *;clear hs3 CB;generalize ds[i]=r at *;obtain ⟨W0,HW0,B1,B2,B3,e0,hs0⟩:=boxes3' w #[.slice (some ⟨bR,oR,none⟩) ds.length c] #[.int .i64 0,.slice none 0 0,.slice none 0 0] (rcs r Rb rb Rn rn Rt rt Rk rk) 26 46 96;have d0:∀ w',Ext W0 w'→_=some (Value.slice (some ⟨bR,oR,none⟩) ds.length c):=B1.at 0
 have q0:∀ w',Ext W0 w'→_=some (Value.string r.nm):=B3.at 0
 have q1:∀ w',Ext W0 w'→_=some (Value.int .i64 r.kind):=B3.at 1
 have q2:∀ w',Ext W0 w'→_=some (Value.int .i64 r.size):=B3.at 2
 have q3:∀ w',Ext W0 w'→_=some (Value.bool r.little):=B3.at 3
 have q4:∀ w',Ext W0 w'→_=some (Value.slice Rb r.bytes.length rb):=B3.at 4
 have q5:∀ w',Ext W0 w'→_=some (Value.slice Rn r.names.length rn):=B3.at 5
 have q6:∀ w',Ext W0 w'→_=some (Value.slice Rt r.tags.length rt):=B3.at 6
 have q7:∀ w',Ext W0 w'→_=some (Value.slice Rk r.kids.length rk):=B3.at 7
 have HB2:=lhd B2;have HS0:=lhd hs0;clear B1 B2 B3 hs0;clear hd hb hS HR hk hY;unfold vdesc;go_enter Tryz.func49,Tryz.ntmps49;go_wp2_with fail;rw [← HW0.out];refine (CC.out _ e0).mono ?_;rintro _ w5 ⟨t,A1,n1,c1,A2,n2,c2,rfl,hsh,hgt,he5⟩;have hbq:=HB2.out.ext he5;have f1:=hbq.cell;have f2:=hbq.free;have hs0':=HS0.out;have hG:=val_out3 (w:=w) (g:=w.heap.size+1) (by omega) (e0.trans he5) (hgt.out.down (by omega)) (fun u hu g hg=>by have:=(hgt.out.own.block u hu g hg).1;omega) (.int .i64 Y.v.num) (.slice A1 n1 c1) (.slice A2 n2 c2);have HG:=lhd hG;clear hG hs0';go_wp2;exact bodyPost_ret (v:=.tuple #[.agg #[.int .i64 Y.v.num,.slice A1 n1 c1,.slice A2 n2 c2],.int .i64 (Y.next:Int),.int .i64 (Y.code:Int)]) (by simp [results,Tryz.results49,go_sem,f1,f2]) rfl ⟨_,by unfold rrVal vval;rw [hsh.out.1,hsh.out.2],HG.out.1,HG.out.2⟩
theorem sRead6_c (A:Option Addr) (ds:List DRule) (c:Nat) (hok:descOk ds=true) (i:Nat) (hi:i<ds.length) (hk:ds[i].kind=6) (Ab:Option Addr) (b:List UInt8) (cb:Nat) (HR:∀ j,j<i→sReadOk A ds c Ab b cb j):sReadOk A ds c Ab b cb i:=by
 intro a w ha hd hb;have hl:=hd.len;have hbl:=hb.len;obtain ⟨bR,oR,Rb,rb,Rn,rn,Rt,rt,Rk,rk,hA,hbR,hS,hRR⟩:=hd.at i hi;obtain ⟨r0,r1,r2,r3,r4,r5,r6,r7⟩:=hRR;subst hA;have hii:(i:Int)<(ds.length:Int):=by omega
 have hi0:(0:Int)≤(i:Int):=by omega
 rw [readV_step hok b i a hi];have t1:=kfF hk 1;have t2:=kfF hk 2;have t3:=kfF hk 3;have t10:=kfF hk 10;have t6:=kfT hk 6;have t7:=kfF hk 7;have t8:=kfF hk 8;have t9:=kfF hk 9;have t4:=kfF hk 4;have hkl:ds[i].kids.length≤1000000:=seq_kids hok i hi hk
 have hY:readR ds (readV ds b) ds[i] b a=(itemsF (readV ds b) ds[i] 0 ds[i].kids.length 0 a []):=by
  unfold readR;rw [if_neg (by omega),if_neg (by omega),if_neg (by omega),if_neg (by omega),if_pos hk]
 rw [hY]
 have CC:Hid (∀ w',Ext w w'→Calls Tryz.prog 86 #[.agg #[.slice (some ⟨bR,oR,none⟩) ds.length c],.agg (rcs ds[i] Rb rb Rn rn Rt rt Rk rk),.int .i64 0,.int .i64 (ds[i].kids.length:Int),.slice Ab b.length cb,.int .i64 (a:Int)] w' fun e w''=>∃ (t:VT) (A1:Option Addr) (n1 c1:Nat) (A2:Option Addr) (n2 c2:Nat),e=.returned (.tuple #[.agg #[.int .i64 ((itemsF (readV ds b) ds[i] 0 ds[i].kids.length 0 a [])).v.num,.slice A1 n1 c1,.slice A2 n2 c2],.int .i64 (((itemsF (readV ds b) ds[i] 0 ds[i].kids.length 0 a [])).next:Int),.int .i64 (((itemsF (readV ds b) ds[i] 0 ds[i].kids.length 0 a [])).code:Int)])∧Hid (t.vb=.slice A1 n1 c1∧t.vi=.slice A2 n2 c2)∧Hid (GotV w' w'' t ((itemsF (readV ds b) ds[i] 0 ds[i].kids.length 0 a [])).v)∧Ext w' w''):=fun w' e =>
  (sItems_c _ ds c hok i hi Rb rb Rn rn Rt rt Rk rk Ab b cb 0 ds[i].kids.length (by omega) (fun k hk'=>(readsOk hok i hi).seq hk k hk') HR a ha w' (hd.ext e) (hb.ext e) (hS.ext e)).mono fun e' w'' h=>RdOut.shape h
 generalize (itemsF (readV ds b) ds[i] 0 ds[i].kids.length 0 a [])=Y at *;have hkl2:=hS.k.len;generalize ds[i]=r at *;obtain ⟨W0,HW0,B1,B2,B3,e0,hs0⟩:=boxes3' w #[.slice (some ⟨bR,oR,none⟩) ds.length c] #[.int .i64 0,.slice none 0 0,.slice none 0 0] (rcs r Rb rb Rn rn Rt rt Rk rk) 26 46 96;have d0:∀ w',Ext W0 w'→_=some (Value.slice (some ⟨bR,oR,none⟩) ds.length c):=B1.at 0
 have q0:∀ w',Ext W0 w'→_=some (Value.string r.nm):=B3.at 0
 have q1:∀ w',Ext W0 w'→_=some (Value.int .i64 r.kind):=B3.at 1
 have q2:∀ w',Ext W0 w'→_=some (Value.int .i64 r.size):=B3.at 2
 have q3:∀ w',Ext W0 w'→_=some (Value.bool r.little):=B3.at 3
 have q4:∀ w',Ext W0 w'→_=some (Value.slice Rb r.bytes.length rb):=B3.at 4
 have q5:∀ w',Ext W0 w'→_=some (Value.slice Rn r.names.length rn):=B3.at 5
 have q6:∀ w',Ext W0 w'→_=some (Value.slice Rt r.tags.length rt):=B3.at 6
 have q7:∀ w',Ext W0 w'→_=some (Value.slice Rk r.kids.length rk):=B3.at 7
 have HB2:=lhd B2;have HS0:=lhd hs0;clear B1 B2 B3 hs0;clear hd hb hS HR hk hY;unfold vdesc;go_enter Tryz.func49,Tryz.ntmps49;go_wp2_with fail;rw [← HW0.out];refine (CC.out _ e0).mono ?_;rintro _ w5 ⟨t,A1,n1,c1,A2,n2,c2,rfl,hsh,hgt,he5⟩;have hbq:=HB2.out.ext he5;have f1:=hbq.cell;have f2:=hbq.free;have hs0':=HS0.out;have hG:=val_out3 (w:=w) (g:=w.heap.size+1) (by omega) (e0.trans he5) (hgt.out.down (by omega)) (fun u hu g hg=>by have:=(hgt.out.own.block u hu g hg).1;omega) (.int .i64 Y.v.num) (.slice A1 n1 c1) (.slice A2 n2 c2);have HG:=lhd hG;clear hG hs0';go_wp2;exact bodyPost_ret (v:=.tuple #[.agg #[.int .i64 Y.v.num,.slice A1 n1 c1,.slice A2 n2 c2],.int .i64 (Y.next:Int),.int .i64 (Y.code:Int)]) (by simp [results,Tryz.results49,go_sem,f1,f2]) rfl ⟨_,by unfold rrVal vval;rw [hsh.out.1,hsh.out.2],HG.out.1,HG.out.2⟩
theorem sRead7_c (A:Option Addr) (ds:List DRule) (c:Nat) (hok:descOk ds=true) (i:Nat) (hi:i<ds.length) (hk:ds[i].kind=7) (Ab:Option Addr) (b:List UInt8) (cb:Nat) (HR:∀ j,j<i→sReadOk A ds c Ab b cb j):sReadOk A ds c Ab b cb i:=by
 intro a w ha hd hb;have hl:=hd.len;have hbl:=hb.len;obtain ⟨bR,oR,Rb,rb,Rn,rn,Rt,rt,Rk,rk,hA,hbR,hS,hRR⟩:=hd.at i hi;obtain ⟨r0,r1,r2,r3,r4,r5,r6,r7⟩:=hRR;subst hA;have hii:(i:Int)<(ds.length:Int):=by omega
 have hi0:(0:Int)≤(i:Int):=by omega
 rw [readV_step hok b i a hi];have t1:=kfF hk 1;have t2:=kfF hk 2;have t3:=kfF hk 3;have t10:=kfF hk 10;have t6:=kfF hk 6;have t7:=kfT hk 7;have t8:=kfF hk 8;have t9:=kfF hk 9;have t4:=kfF hk 4
 have hY:readR ds (readV ds b) ds[i] b a=(choiceF ds (readV ds b) ds[i] b a):=by
  unfold readR;rw [if_neg (by omega),if_neg (by omega),if_neg (by omega),if_neg (by omega),if_neg (by omega),if_pos hk]
 rw [hY]
 have CC:Hid (∀ w',Ext w w'→Calls Tryz.prog 87 #[.agg #[.slice (some ⟨bR,oR,none⟩) ds.length c],.agg (rcs ds[i] Rb rb Rn rn Rt rt Rk rk),.slice Ab b.length cb,.int .i64 (a:Int)] w' fun e w''=>∃ (t:VT) (A1:Option Addr) (n1 c1:Nat) (A2:Option Addr) (n2 c2:Nat),e=.returned (.tuple #[.agg #[.int .i64 ((choiceF ds (readV ds b) ds[i] b a)).v.num,.slice A1 n1 c1,.slice A2 n2 c2],.int .i64 (((choiceF ds (readV ds b) ds[i] b a)).next:Int),.int .i64 (((choiceF ds (readV ds b) ds[i] b a)).code:Int)])∧Hid (t.vb=.slice A1 n1 c1∧t.vi=.slice A2 n2 c2)∧Hid (GotV w' w'' t ((choiceF ds (readV ds b) ds[i] b a)).v)∧Ext w' w''):=fun w' e =>
  (sChoice_c _ ds c hok i hi hk Rb rb Rn rn Rt rt Rk rk Ab b cb HR a ha w' (hd.ext e) (hb.ext e) (hS.ext e)).mono fun e' w'' h=>RdOut.shape h
 generalize (choiceF ds (readV ds b) ds[i] b a)=Y at *;generalize ds[i]=r at *;obtain ⟨W0,HW0,B1,B2,B3,e0,hs0⟩:=boxes3' w #[.slice (some ⟨bR,oR,none⟩) ds.length c] #[.int .i64 0,.slice none 0 0,.slice none 0 0] (rcs r Rb rb Rn rn Rt rt Rk rk) 26 46 96;have d0:∀ w',Ext W0 w'→_=some (Value.slice (some ⟨bR,oR,none⟩) ds.length c):=B1.at 0
 have q0:∀ w',Ext W0 w'→_=some (Value.string r.nm):=B3.at 0
 have q1:∀ w',Ext W0 w'→_=some (Value.int .i64 r.kind):=B3.at 1
 have q2:∀ w',Ext W0 w'→_=some (Value.int .i64 r.size):=B3.at 2
 have q3:∀ w',Ext W0 w'→_=some (Value.bool r.little):=B3.at 3
 have q4:∀ w',Ext W0 w'→_=some (Value.slice Rb r.bytes.length rb):=B3.at 4
 have q5:∀ w',Ext W0 w'→_=some (Value.slice Rn r.names.length rn):=B3.at 5
 have q6:∀ w',Ext W0 w'→_=some (Value.slice Rt r.tags.length rt):=B3.at 6
 have q7:∀ w',Ext W0 w'→_=some (Value.slice Rk r.kids.length rk):=B3.at 7
 have HB2:=lhd B2;have HS0:=lhd hs0;clear B1 B2 B3 hs0;clear hd hb hS HR hk hY;unfold vdesc;go_enter Tryz.func49,Tryz.ntmps49;go_wp2_with fail;rw [← HW0.out];refine (CC.out _ e0).mono ?_;rintro _ w5 ⟨t,A1,n1,c1,A2,n2,c2,rfl,hsh,hgt,he5⟩;have hbq:=HB2.out.ext he5;have f1:=hbq.cell;have f2:=hbq.free;have hs0':=HS0.out;have hG:=val_out3 (w:=w) (g:=w.heap.size+1) (by omega) (e0.trans he5) (hgt.out.down (by omega)) (fun u hu g hg=>by have:=(hgt.out.own.block u hu g hg).1;omega) (.int .i64 Y.v.num) (.slice A1 n1 c1) (.slice A2 n2 c2);have HG:=lhd hG;clear hG hs0';go_wp2;exact bodyPost_ret (v:=.tuple #[.agg #[.int .i64 Y.v.num,.slice A1 n1 c1,.slice A2 n2 c2],.int .i64 (Y.next:Int),.int .i64 (Y.code:Int)]) (by simp [results,Tryz.results49,go_sem,f1,f2]) rfl ⟨_,by unfold rrVal vval;rw [hsh.out.1,hsh.out.2],HG.out.1,HG.out.2⟩
theorem sRead8_c (A:Option Addr) (ds:List DRule) (c:Nat) (hok:descOk ds=true) (i:Nat) (hi:i<ds.length) (hk:ds[i].kind=8) (Ab:Option Addr) (b:List UInt8) (cb:Nat) (HR:∀ j,j<i→sReadOk A ds c Ab b cb j):sReadOk A ds c Ab b cb i:=by
 intro a w ha hd hb;have hl:=hd.len;have hbl:=hb.len;obtain ⟨bR,oR,Rb,rb,Rn,rn,Rt,rt,Rk,rk,hA,hbR,hS,hRR⟩:=hd.at i hi;obtain ⟨r0,r1,r2,r3,r4,r5,r6,r7⟩:=hRR;subst hA;have hii:(i:Int)<(ds.length:Int):=by omega
 have hi0:(0:Int)≤(i:Int):=by omega
 rw [readV_step hok b i a hi];have t1:=kfF hk 1;have t2:=kfF hk 2;have t3:=kfF hk 3;have t10:=kfF hk 10;have t6:=kfF hk 6;have t7:=kfF hk 7;have t8:=kfT hk 8;have t9:=kfF hk 9;have t4:=kfF hk 4
 have hY:readR ds (readV ds b) ds[i] b a=(optionF (readV ds b) ds[i] b a):=by
  unfold readR;rw [if_neg (by omega),if_neg (by omega),if_neg (by omega),if_neg (by omega),if_neg (by omega),if_neg (by omega),if_pos hk]
 rw [hY]
 have CC:Hid (∀ w',Ext w w'→Calls Tryz.prog 88 #[.agg #[.slice (some ⟨bR,oR,none⟩) ds.length c],.agg (rcs ds[i] Rb rb Rn rn Rt rt Rk rk),.slice Ab b.length cb,.int .i64 (a:Int)] w' fun e w''=>∃ (t:VT) (A1:Option Addr) (n1 c1:Nat) (A2:Option Addr) (n2 c2:Nat),e=.returned (.tuple #[.agg #[.int .i64 ((optionF (readV ds b) ds[i] b a)).v.num,.slice A1 n1 c1,.slice A2 n2 c2],.int .i64 (((optionF (readV ds b) ds[i] b a)).next:Int),.int .i64 (((optionF (readV ds b) ds[i] b a)).code:Int)])∧Hid (t.vb=.slice A1 n1 c1∧t.vi=.slice A2 n2 c2)∧Hid (GotV w' w'' t ((optionF (readV ds b) ds[i] b a)).v)∧Ext w' w''):=fun w' e =>
  (sOption_c _ ds c hok i hi hk Rb rb Rn rn Rt rt Rk rk Ab b cb HR a ha w' (hd.ext e) (hb.ext e) (hS.ext e)).mono fun e' w'' h=>RdOut.shape h
 generalize (optionF (readV ds b) ds[i] b a)=Y at *;generalize ds[i]=r at *;obtain ⟨W0,HW0,B1,B2,B3,e0,hs0⟩:=boxes3' w #[.slice (some ⟨bR,oR,none⟩) ds.length c] #[.int .i64 0,.slice none 0 0,.slice none 0 0] (rcs r Rb rb Rn rn Rt rt Rk rk) 26 46 96;have d0:∀ w',Ext W0 w'→_=some (Value.slice (some ⟨bR,oR,none⟩) ds.length c):=B1.at 0
 have q0:∀ w',Ext W0 w'→_=some (Value.string r.nm):=B3.at 0
 have q1:∀ w',Ext W0 w'→_=some (Value.int .i64 r.kind):=B3.at 1
 have q2:∀ w',Ext W0 w'→_=some (Value.int .i64 r.size):=B3.at 2
 have q3:∀ w',Ext W0 w'→_=some (Value.bool r.little):=B3.at 3
 have q4:∀ w',Ext W0 w'→_=some (Value.slice Rb r.bytes.length rb):=B3.at 4
 have q5:∀ w',Ext W0 w'→_=some (Value.slice Rn r.names.length rn):=B3.at 5
 have q6:∀ w',Ext W0 w'→_=some (Value.slice Rt r.tags.length rt):=B3.at 6
 have q7:∀ w',Ext W0 w'→_=some (Value.slice Rk r.kids.length rk):=B3.at 7
 have HB2:=lhd B2;have HS0:=lhd hs0;clear B1 B2 B3 hs0;clear hd hb hS HR hk hY;unfold vdesc;go_enter Tryz.func49,Tryz.ntmps49;go_wp2_with fail;rw [← HW0.out];refine (CC.out _ e0).mono ?_;rintro _ w5 ⟨t,A1,n1,c1,A2,n2,c2,rfl,hsh,hgt,he5⟩;have hbq:=HB2.out.ext he5;have f1:=hbq.cell;have f2:=hbq.free;have hs0':=HS0.out;have hG:=val_out3 (w:=w) (g:=w.heap.size+1) (by omega) (e0.trans he5) (hgt.out.down (by omega)) (fun u hu g hg=>by have:=(hgt.out.own.block u hu g hg).1;omega) (.int .i64 Y.v.num) (.slice A1 n1 c1) (.slice A2 n2 c2);have HG:=lhd hG;clear hG hs0';go_wp2;exact bodyPost_ret (v:=.tuple #[.agg #[.int .i64 Y.v.num,.slice A1 n1 c1,.slice A2 n2 c2],.int .i64 (Y.next:Int),.int .i64 (Y.code:Int)]) (by simp [results,Tryz.results49,go_sem,f1,f2]) rfl ⟨_,by unfold rrVal vval;rw [hsh.out.1,hsh.out.2],HG.out.1,HG.out.2⟩
theorem sRead9_c (A:Option Addr) (ds:List DRule) (c:Nat) (hok:descOk ds=true) (i:Nat) (hi:i<ds.length) (hk:ds[i].kind=9) (Ab:Option Addr) (b:List UInt8) (cb:Nat) (HR:∀ j,j<i→sReadOk A ds c Ab b cb j):sReadOk A ds c Ab b cb i:=by
 intro a w ha hd hb;have hl:=hd.len;have hbl:=hb.len;obtain ⟨bR,oR,Rb,rb,Rn,rn,Rt,rt,Rk,rk,hA,hbR,hS,hRR⟩:=hd.at i hi;obtain ⟨r0,r1,r2,r3,r4,r5,r6,r7⟩:=hRR;subst hA;have hii:(i:Int)<(ds.length:Int):=by omega
 have hi0:(0:Int)≤(i:Int):=by omega
 rw [readV_step hok b i a hi];have t1:=kfF hk 1;have t2:=kfF hk 2;have t3:=kfF hk 3;have t10:=kfF hk 10;have t6:=kfF hk 6;have t7:=kfF hk 7;have t8:=kfF hk 8;have t9:=kfT hk 9;have t4:=kfF hk 4
 have hY:readR ds (readV ds b) ds[i] b a=(checkedF (readV ds b) ds[i] b a):=by
  unfold readR;rw [if_neg (by omega),if_neg (by omega),if_neg (by omega),if_neg (by omega),if_neg (by omega),if_neg (by omega),if_neg (by omega),if_pos hk]
 rw [hY]
 have CC:Hid (∀ w',Ext w w'→Calls Tryz.prog 89 #[.agg #[.slice (some ⟨bR,oR,none⟩) ds.length c],.agg (rcs ds[i] Rb rb Rn rn Rt rt Rk rk),.slice Ab b.length cb,.int .i64 (a:Int)] w' fun e w''=>∃ (t:VT) (A1:Option Addr) (n1 c1:Nat) (A2:Option Addr) (n2 c2:Nat),e=.returned (.tuple #[.agg #[.int .i64 ((checkedF (readV ds b) ds[i] b a)).v.num,.slice A1 n1 c1,.slice A2 n2 c2],.int .i64 (((checkedF (readV ds b) ds[i] b a)).next:Int),.int .i64 (((checkedF (readV ds b) ds[i] b a)).code:Int)])∧Hid (t.vb=.slice A1 n1 c1∧t.vi=.slice A2 n2 c2)∧Hid (GotV w' w'' t ((checkedF (readV ds b) ds[i] b a)).v)∧Ext w' w''):=fun w' e =>
  (sChecked_c _ ds c hok i hi hk Rb rb Rn rn Rt rt Rk rk Ab b cb HR a ha w' (hd.ext e) (hb.ext e) (hS.ext e)).mono fun e' w'' h=>RdOut.shape h
 generalize (checkedF (readV ds b) ds[i] b a)=Y at *;generalize ds[i]=r at *;obtain ⟨W0,HW0,B1,B2,B3,e0,hs0⟩:=boxes3' w #[.slice (some ⟨bR,oR,none⟩) ds.length c] #[.int .i64 0,.slice none 0 0,.slice none 0 0] (rcs r Rb rb Rn rn Rt rt Rk rk) 26 46 96;have d0:∀ w',Ext W0 w'→_=some (Value.slice (some ⟨bR,oR,none⟩) ds.length c):=B1.at 0
 have q0:∀ w',Ext W0 w'→_=some (Value.string r.nm):=B3.at 0
 have q1:∀ w',Ext W0 w'→_=some (Value.int .i64 r.kind):=B3.at 1
 have q2:∀ w',Ext W0 w'→_=some (Value.int .i64 r.size):=B3.at 2
 have q3:∀ w',Ext W0 w'→_=some (Value.bool r.little):=B3.at 3
 have q4:∀ w',Ext W0 w'→_=some (Value.slice Rb r.bytes.length rb):=B3.at 4
 have q5:∀ w',Ext W0 w'→_=some (Value.slice Rn r.names.length rn):=B3.at 5
 have q6:∀ w',Ext W0 w'→_=some (Value.slice Rt r.tags.length rt):=B3.at 6
 have q7:∀ w',Ext W0 w'→_=some (Value.slice Rk r.kids.length rk):=B3.at 7
 have HB2:=lhd B2;have HS0:=lhd hs0;clear B1 B2 B3 hs0;clear hd hb hS HR hk hY;unfold vdesc;go_enter Tryz.func49,Tryz.ntmps49;go_wp2_with fail;rw [← HW0.out];refine (CC.out _ e0).mono ?_;rintro _ w5 ⟨t,A1,n1,c1,A2,n2,c2,rfl,hsh,hgt,he5⟩;have hbq:=HB2.out.ext he5;have f1:=hbq.cell;have f2:=hbq.free;have hs0':=HS0.out;have hG:=val_out3 (w:=w) (g:=w.heap.size+1) (by omega) (e0.trans he5) (hgt.out.down (by omega)) (fun u hu g hg=>by have:=(hgt.out.own.block u hu g hg).1;omega) (.int .i64 Y.v.num) (.slice A1 n1 c1) (.slice A2 n2 c2);have HG:=lhd hG;clear hG hs0';go_wp2;exact bodyPost_ret (v:=.tuple #[.agg #[.int .i64 Y.v.num,.slice A1 n1 c1,.slice A2 n2 c2],.int .i64 (Y.next:Int),.int .i64 (Y.code:Int)]) (by simp [results,Tryz.results49,go_sem,f1,f2]) rfl ⟨_,by unfold rrVal vval;rw [hsh.out.1,hsh.out.2],HG.out.1,HG.out.2⟩
theorem sRead10_c (A:Option Addr) (ds:List DRule) (c:Nat) (hok:descOk ds=true) (i:Nat) (hi:i<ds.length) (hk:ds[i].kind=10) (Ab:Option Addr) (b:List UInt8) (cb:Nat) (HR:∀ j,j<i→sReadOk A ds c Ab b cb j):sReadOk A ds c Ab b cb i:=by
 intro a w ha hd hb;have hl:=hd.len;have hbl:=hb.len;obtain ⟨bR,oR,Rb,rb,Rn,rn,Rt,rt,Rk,rk,hA,hbR,hS,hRR⟩:=hd.at i hi;obtain ⟨r0,r1,r2,r3,r4,r5,r6,r7⟩:=hRR;subst hA;have hii:(i:Int)<(ds.length:Int):=by omega
 have hi0:(0:Int)≤(i:Int):=by omega
 rw [readV_step hok b i a hi];have t1:=kfF hk 1;have t2:=kfF hk 2;have t3:=kfF hk 3;have t10:=kfT hk 10;have t6:=kfF hk 6;have t7:=kfF hk 7;have t8:=kfF hk 8;have t9:=kfF hk 9;have t4:=kfF hk 4;have hlen1:=(term_byte hok i hi hk).2;have hgd:ds[i].bytes.getD 0 0=ds[i].bytes[0]'(by omega):=by simp [hlen1]
 have hY:readR ds (readV ds b) ds[i] b a=(match untilL (ds[i].bytes[0]'(by omega)) (b.drop a) with | none=>.bad a 1 | some q=>⟨.mk 0 q.1 [],a+q.2,0⟩):=by
  unfold readR;rw [if_neg (by omega),if_neg (by omega),if_neg (by omega),if_pos hk,hgd];rfl
 rw [hY];obtain ⟨bb,ob,hRb,_,hcb⟩:=hS.b.at 0 (by omega);subst hRb;simp only [Nat.add_zero,vu8] at hcb
 have CC:Hid (∀ w',Ext w w'→Calls Tryz.prog 85 #[.slice Ab b.length cb,.int .i64 (a:Int),.int .u8 ((ds[i].bytes[0]'(by omega)).toNat:Int)] w' fun e w''=>∃ A4 n4 c4,e=.returned (.tuple #[.slice A4 n4 c4,.int .i64 ((untilRes (untilL (ds[i].bytes[0]'(by omega)) (b.drop a)) a).2.1:Int),.bool (untilRes (untilL (ds[i].bytes[0]'(by omega)) (b.drop a)) a).2.2])∧OwnL vu8 5 w' w'' (.slice A4 n4 c4) (untilRes (untilL (ds[i].bytes[0]'(by omega)) (b.drop a)) a).1∧Ext w' w''):=fun w' e =>
  (sUntil_c Ab b cb a (ds[i].bytes[0]'(by omega)) ha w' (hb.ext e)).mono fun e' w'' ⟨v,h1,h2,h3⟩=>by
   obtain ⟨A4,c4,hv⟩:=Own.shape h2;subst hv;exact ⟨A4,_,c4,h1,h2,h3⟩
 generalize untilL (ds[i].bytes[0]'(by omega)) (b.drop a)=O at *;have pt:=hcb;generalize ds[i].bytes[0]'(by omega)=tb at *;have hl01:(0:Int)<(ds[i].bytes.length:Int):=by omega
 generalize ds[i]=r at *;obtain ⟨W0,HW0,B1,B2,B3,e0,hs0⟩:=boxes3' w #[.slice (some ⟨bR,oR,none⟩) ds.length c] #[.int .i64 0,.slice none 0 0,.slice none 0 0] #[.string r.nm,.int .i64 r.kind,.int .i64 r.size,.bool r.little,.slice (some ⟨bb,ob,none⟩) r.bytes.length rb,.slice Rn r.names.length rn,.slice Rt r.tags.length rt,.slice Rk r.kids.length rk] 26 46 96;have d0:∀ w',Ext W0 w'→_=some (Value.slice (some ⟨bR,oR,none⟩) ds.length c):=B1.at 0
 have q0:∀ w',Ext W0 w'→_=some (Value.string r.nm):=B3.at 0
 have q1:∀ w',Ext W0 w'→_=some (Value.int .i64 r.kind):=B3.at 1
 have q2:∀ w',Ext W0 w'→_=some (Value.int .i64 r.size):=B3.at 2
 have q3:∀ w',Ext W0 w'→_=some (Value.bool r.little):=B3.at 3
 have q4:∀ w',Ext W0 w'→_=some (Value.slice (some ⟨bb,ob,none⟩) r.bytes.length rb):=B3.at 4
 have q5:∀ w',Ext W0 w'→_=some (Value.slice Rn r.names.length rn):=B3.at 5
 have q6:∀ w',Ext W0 w'→_=some (Value.slice Rt r.tags.length rt):=B3.at 6
 have q7:∀ w',Ext W0 w'→_=some (Value.slice Rk r.kids.length rk):=B3.at 7
 have HB2:=lhd B2;have HS0:=lhd hs0;clear B1 B2 B3 hs0;clear hd hb hS HR hk hY hgd hlen1;have pt':=fun w' (e:Ext W0 w')=>pt w' (e0.trans e)
 have pc:=pt _ e0;rw [HW0.out] at pc;clear hcb pt;cases O with
 | none =>
  simp only [untilRes] at CC;unfold vdesc;go_enter Tryz.func49,Tryz.ntmps49;go_wp2_with fail;rw [← HW0.out];refine (CC.out _ e0).mono ?_;rintro _ w1 ⟨A4,n4,c4,rfl,ho,he1⟩;have hbq:=HB2.out.ext he1;have f1:=hbq.cell;have f2:=hbq.free;have hs0':=HS0.out;have hput:=(e0.trans he1).grown (grown_put3 _ (w.heap.size+1) 0 t0) (fun g hg=>by injection hg with hg;omega);have HPUT:=lhd hput;clear hput hs0';go_wp2;exact bodyPost_ret (v:=badRes a 1) (by simp [results,Tryz.results49,go_sem,f1,f2,badRes,zeroV]) rfl (RdOut.bad HPUT.out)
 | some q =>
  simp only [untilRes] at CC;unfold vdesc;go_enter Tryz.func49,Tryz.ntmps49;go_wp2_with fail;rw [← HW0.out];refine (CC.out _ e0).mono ?_;rintro _ w1 ⟨A4,n4,c4,rfl,ho,he1⟩;have hob:=World.ownsRow.lt ho;have hgt:Hid (GotV W0 w1 (.mk 0 q.1 (.slice A4 n4 c4) [] (.slice none 0 0)) (.mk 0 q.1 [])):=⟨by show DVal.mk 0 _ (valsOf [])=_;rfl,.mk ho ⟨by simp [VT.its],.inl ⟨rfl,rfl⟩⟩ (fun x hx=>by simp [VT.its] at hx),by rw [VT.vals_eq];simp [Far,VT.vb,VT.vi,VT.its,Value.ownBlock]⟩
  clear ho hob;have hbq:=HB2.out.ext he1;have f1:=hbq.cell;have f2:=hbq.free;have hs0':=HS0.out;have hG:=val_out3 (w:=w) (g:=w.heap.size+1) (by omega) (e0.trans he1) (hgt.out.down (by omega)) (fun u hu g hg=>by have:=(hgt.out.own.block u hu g hg).1;omega) (.int .i64 0) (.slice A4 n4 c4) (.slice none 0 0);have HG:=lhd hG;clear hG hs0';go_wp2;exact bodyPost_ret (v:=.tuple #[.agg #[.int .i64 0,.slice A4 n4 c4,.slice none 0 0],.int .i64 ((a:Int)+(q.2:Int)),.int .i64 0]) (by simp [results,Tryz.results49,go_sem,f1,f2]) rfl ⟨_,by first | rfl | (unfold rrVal vval;simp [DVal.num,VT.vb,VT.vi]),HG.out.1,HG.out.2⟩
theorem sRead4_c (A:Option Addr) (ds:List DRule) (c:Nat) (hok:descOk ds=true) (i:Nat) (hi:i<ds.length) (hk:ds[i].kind=4) (Ab:Option Addr) (b:List UInt8) (cb:Nat) (HR:∀ j,j<i→sReadOk A ds c Ab b cb j):sReadOk A ds c Ab b cb i:=by
 intro a w ha hd hb;have hl:=hd.len;have hbl:=hb.len;obtain ⟨bR,oR,Rb,rb,Rn,rn,Rt,rt,Rk,rk,hA,hbR,hS,hRR⟩:=hd.at i hi;obtain ⟨r0,r1,r2,r3,r4,r5,r6,r7⟩:=hRR;subst hA;have hii:(i:Int)<(ds.length:Int):=by omega
 have hi0:(0:Int)≤(i:Int):=by omega
 rw [readV_step hok b i a hi];have t1:=kfF hk 1;have t2:=kfF hk 2;have t3:=kfF hk 3;have t10:=kfF hk 10;have t6:=kfF hk 6;have t7:=kfF hk 7;have t8:=kfF hk 8;have t9:=kfF hk 9;have t4:=kfT hk 4;obtain ⟨g0,g1,gk,g2,g3,g4,_⟩:=kid0 hok i hi (.inl hk);have hx0:ds.getD (kd ds[i] 0) noRule=ds[kd ds[i] 0]:=by simp [g0]
 have hY:readR ds (readV ds b) ds[i] b a=(match intAt ds[kd ds[i] 0] b a with | none=>.bad a 1 | some n=>bytesF b (a+ds[kd ds[i] 0].size.toNat) n):=by
  unfold readR;rw [if_neg (by omega),if_neg (by omega),if_neg (by omega),if_neg (by omega),if_neg (by omega),if_neg (by omega),if_neg (by omega),if_neg (by omega),hx0];cases intAt ds[kd ds[i] 0] b a with
  | none=>rfl
  | some n=>dsimp only;rw [if_pos hk]
 rw [hY];have hkn:=kd_int hok i hi 0 gk;obtain ⟨bk,ok,hRk,_,hck⟩:=hS.k.at 0 gk;rw [hkn] at hck;subst hRk;simp only [Nat.add_zero,vint] at hck
 have CI:Hid (∀ w',Ext w w'→Gives Tryz.prog 77 #[.agg #[.slice (some ⟨bR,oR,none⟩) ds.length c],.int .i64 ((kd ds[i] 0:Nat):Int),.slice Ab b.length cb,.int .i64 (a:Int)] w' (intRes (intAt ds[kd ds[i] 0] b a) a (a+ds[kd ds[i] 0].size.toNat))):=fun w' e =>
  sInteger_c _ ds c (kd ds[i] 0) g0 ⟨g3,g4⟩ Ab b cb a ha w' (hd.ext e) (hb.ext e)
 have HLE:Hid (∀ n,intAt ds[kd ds[i] 0] b a=some n→a+ds[kd ds[i] 0].size.toNat≤b.length∧n<4294967296):=fun n h=>⟨intAt_le ha h,intAt_lt g4 h⟩
 have CC:Hid (∀ (n:Nat) (a':Nat) w',n<4294967296→a'≤b.length→Ext w w'→Calls Tryz.prog 84 #[.slice Ab b.length cb,.int .i64 (a':Int),.int .i64 (n:Int)] w' fun e w''=>∃ (t:VT) (A1:Option Addr) (n1 c1:Nat) (A2:Option Addr) (n2 c2:Nat),e=.returned (.tuple #[.agg #[.int .i64 (bytesF b a' n).v.num,.slice A1 n1 c1,.slice A2 n2 c2],.int .i64 ((bytesF b a' n).next:Int),.int .i64 ((bytesF b a' n).code:Int)])∧Hid (t.vb=.slice A1 n1 c1∧t.vi=.slice A2 n2 c2)∧Hid (GotV w' w'' t (bytesF b a' n).v)∧Ext w' w''):=fun n a' w' hn ha' e =>
  (sBytes_c Ab b cb a' n ha' (by omega) w' (hb.ext e)).mono fun e' w'' h=>RdOut.shape h
 generalize ds[kd ds[i] 0].size.toNat=sz at *;generalize intAt ds[kd ds[i] 0] b a=O at *;generalize kd ds[i] 0=k0 at *;generalize ds[i]=r at *;obtain ⟨W0,HW0,B1,B2,B3,e0,hs0⟩:=boxes3' w #[.slice (some ⟨bR,oR,none⟩) ds.length c] #[.int .i64 0,.slice none 0 0,.slice none 0 0] (rcs r Rb rb Rn rn Rt rt (some ⟨bk,ok,none⟩) rk) 26 46 96;have d0:∀ w',Ext W0 w'→_=some (Value.slice (some ⟨bR,oR,none⟩) ds.length c):=B1.at 0
 have q0:∀ w',Ext W0 w'→_=some (Value.string r.nm):=B3.at 0
 have q1:∀ w',Ext W0 w'→_=some (Value.int .i64 r.kind):=B3.at 1
 have q2:∀ w',Ext W0 w'→_=some (Value.int .i64 r.size):=B3.at 2
 have q3:∀ w',Ext W0 w'→_=some (Value.bool r.little):=B3.at 3
 have q4:∀ w',Ext W0 w'→_=some (Value.slice Rb r.bytes.length rb):=B3.at 4
 have q5:∀ w',Ext W0 w'→_=some (Value.slice Rn r.names.length rn):=B3.at 5
 have q6:∀ w',Ext W0 w'→_=some (Value.slice Rt r.tags.length rt):=B3.at 6
 have q7:∀ w',Ext W0 w'→_=some (Value.slice (some ⟨bk,ok,none⟩) r.kids.length rk):=B3.at 7
 have HB2:=lhd B2;have HS0:=lhd hs0;clear B1 B2 B3 hs0;have qk:=fun w' (e:Ext W0 w')=>hck w' (e0.trans e)
 have gki:(0:Int)<(r.kids.length:Int):=by omega
 clear hd hb hS HR hk hY hck hkn;cases O with
 | none =>
  simp only [intRes] at CI;unfold vdesc;go_enter Tryz.func49,Tryz.ntmps49;go_wp2_with fail;rw [← HW0.out];refine wp_region_quiet_below (by kernel_rfl) (by kernel_rfl) ?_;repeat (go_big_quiet_step ((go_at_call 77;exact Calls.regrown_of (CI.out _ (e0.trans (by first | assumption | exact Ext_regrown _ _ (Ext.refl _)))))))
  refine wpQuiet_nil (qnl ?_);intro w1 ew1;have hbq:=HB2.out.ext ew1;have f1:=hbq.cell;have f2:=hbq.free;have hs0':=HS0.out;have hput:=(e0.trans ew1).grown (grown_put3 _ (w.heap.size+1) 0 t0) (fun g hg=>by injection hg with hg;omega);have HPUT:=lhd hput;clear hput hs0';go_wp2;exact bodyPost_ret (v:=badRes a 1) (by simp [results,Tryz.results49,go_sem,f1,f2,badRes,zeroV]) rfl (RdOut.bad HPUT.out)
 | some n =>
  obtain ⟨hle,hn32⟩:=HLE.out n rfl;simp only [intRes] at CI;dsimp only;have CC1:=lhd (fun w' e=>CC.out n (a+sz) w' hn32 hle e);clear CC;generalize bytesF b (a+sz) n=Y at *;have e01:=e0;unfold vdesc;go_enter Tryz.func49,Tryz.ntmps49;go_wp2_with fail;rw [← HW0.out];refine wp_region_quiet_below (by kernel_rfl) (by kernel_rfl) ?_;repeat (go_big_quiet_step ((go_at_call 77;exact Calls.regrown_of (CI.out _ (e0.trans (by first | assumption | exact Ext_regrown _ _ (Ext.refl _)))))))
  refine wpQuiet_nil (qnl ?_);intro w1 ew1;have e01:=e0.trans ew1;go_wp2_with fail;refine (CC1.out _ e01).mono ?_;rintro _ w5 ⟨t,A1,n1,c1,A2,n2,c2,rfl,hsh,hgt,he5⟩;have e05:=ew1.trans he5;have hw1:=ew1.size;have hbq:=HB2.out.ext e05;have f1:=hbq.cell;have f2:=hbq.free;have hs0':=HS0.out;have hG:=val_out3 (w:=w) (g:=w.heap.size+1) (by omega) (e0.trans e05) (hgt.out.down (by omega)) (fun u hu g hg=>by have:=(hgt.out.own.block u hu g hg).1;omega) (.int .i64 Y.v.num) (.slice A1 n1 c1) (.slice A2 n2 c2);have HG:=lhd hG;clear hG hs0';go_wp2;exact bodyPost_ret (v:=.tuple #[.agg #[.int .i64 Y.v.num,.slice A1 n1 c1,.slice A2 n2 c2],.int .i64 (Y.next:Int),.int .i64 (Y.code:Int)]) (by simp [results,Tryz.results49,go_sem,f1,f2]) rfl ⟨_,by unfold rrVal vval;rw [hsh.out.1,hsh.out.2],HG.out.1,HG.out.2⟩
theorem sRead5_c (A:Option Addr) (ds:List DRule) (c:Nat) (hok:descOk ds=true) (i:Nat) (hi:i<ds.length) (hk:ds[i].kind=5) (Ab:Option Addr) (b:List UInt8) (cb:Nat) (HR:∀ j,j<i→sReadOk A ds c Ab b cb j):sReadOk A ds c Ab b cb i:=by
 intro a w ha hd hb;have hl:=hd.len;have hbl:=hb.len;obtain ⟨bR,oR,Rb,rb,Rn,rn,Rt,rt,Rk,rk,hA,hbR,hS,hRR⟩:=hd.at i hi;obtain ⟨r0,r1,r2,r3,r4,r5,r6,r7⟩:=hRR;subst hA;have hii:(i:Int)<(ds.length:Int):=by omega
 have hi0:(0:Int)≤(i:Int):=by omega
 rw [readV_step hok b i a hi];have t1:=kfF hk 1;have t2:=kfF hk 2;have t3:=kfF hk 3;have t10:=kfF hk 10;have t6:=kfF hk 6;have t7:=kfF hk 7;have t8:=kfF hk 8;have t9:=kfF hk 9;have t4:=kfF hk 4;obtain ⟨g0,g1,gk,g2,g3,g4,_⟩:=kid0 hok i hi (.inr (.inl hk));have hx0:ds.getD (kd ds[i] 0) noRule=ds[kd ds[i] 0]:=by simp [g0]
 have hY:readR ds (readV ds b) ds[i] b a=(match intAt ds[kd ds[i] 0] b a with | none=>.bad a 1 | some n=>if 40<n then .bad a 6 else itemsF (readV ds b) ds[i] 0 n 0 (a+ds[kd ds[i] 0].size.toNat) []):=by
  unfold readR;rw [if_neg (by omega),if_neg (by omega),if_neg (by omega),if_neg (by omega),if_neg (by omega),if_neg (by omega),if_neg (by omega),if_neg (by omega),hx0];cases intAt ds[kd ds[i] 0] b a with
  | none=>rfl
  | some n=>dsimp only;rw [if_neg (by omega)]
 rw [hY];have hkn:=kd_int hok i hi 0 gk;obtain ⟨bk,ok,hRk,_,hck⟩:=hS.k.at 0 gk;rw [hkn] at hck;subst hRk;simp only [Nat.add_zero,vint] at hck
 have CI:Hid (∀ w',Ext w w'→Gives Tryz.prog 77 #[.agg #[.slice (some ⟨bR,oR,none⟩) ds.length c],.int .i64 ((kd ds[i] 0:Nat):Int),.slice Ab b.length cb,.int .i64 (a:Int)] w' (intRes (intAt ds[kd ds[i] 0] b a) a (a+ds[kd ds[i] 0].size.toNat))):=fun w' e =>
  sInteger_c _ ds c (kd ds[i] 0) g0 ⟨g3,g4⟩ Ab b cb a ha w' (hd.ext e) (hb.ext e)
 have HLE:Hid (∀ n,intAt ds[kd ds[i] 0] b a=some n→a+ds[kd ds[i] 0].size.toNat≤b.length∧n<4294967296):=fun n h=>⟨intAt_le ha h,intAt_lt g4 h⟩
 have CC:Hid (∀ (n:Nat) (a':Nat) w',n≤40→a'≤b.length→Ext w w'→Calls Tryz.prog 86 #[.agg #[.slice (some ⟨bR,oR,none⟩) ds.length c],.agg (rcs ds[i] Rb rb Rn rn Rt rt (some ⟨bk,ok,none⟩) rk),.int .i64 0,.int .i64 (n:Int),.slice Ab b.length cb,.int .i64 (a':Int)] w' fun e w''=>∃ (t:VT) (A1:Option Addr) (n1 c1:Nat) (A2:Option Addr) (n2 c2:Nat),e=.returned (.tuple #[.agg #[.int .i64 (itemsF (readV ds b) ds[i] 0 n 0 a' []).v.num,.slice A1 n1 c1,.slice A2 n2 c2],.int .i64 ((itemsF (readV ds b) ds[i] 0 n 0 a' []).next:Int),.int .i64 ((itemsF (readV ds b) ds[i] 0 n 0 a' []).code:Int)])∧Hid (t.vb=.slice A1 n1 c1∧t.vi=.slice A2 n2 c2)∧Hid (GotV w' w'' t (itemsF (readV ds b) ds[i] 0 n 0 a' []).v)∧Ext w' w''):=fun n a' w' hn ha' e =>
  (sItems_c _ ds c hok i hi Rb rb Rn rn Rt rt (some ⟨bk,ok,none⟩) rk Ab b cb 0 n (by omega) (fun k _=>(readsOk hok i hi).arr hk k) HR a' ha' w' (hd.ext e) (hb.ext e) (hS.ext e)).mono fun e' w'' h=>RdOut.shape h
 generalize ds[kd ds[i] 0].size.toNat=sz at *;generalize intAt ds[kd ds[i] 0] b a=O at *;generalize kd ds[i] 0=k0 at *;generalize ds[i]=r at *;obtain ⟨W0,HW0,B1,B2,B3,e0,hs0⟩:=boxes3' w #[.slice (some ⟨bR,oR,none⟩) ds.length c] #[.int .i64 0,.slice none 0 0,.slice none 0 0] (rcs r Rb rb Rn rn Rt rt (some ⟨bk,ok,none⟩) rk) 26 46 96;have d0:∀ w',Ext W0 w'→_=some (Value.slice (some ⟨bR,oR,none⟩) ds.length c):=B1.at 0
 have q0:∀ w',Ext W0 w'→_=some (Value.string r.nm):=B3.at 0
 have q1:∀ w',Ext W0 w'→_=some (Value.int .i64 r.kind):=B3.at 1
 have q2:∀ w',Ext W0 w'→_=some (Value.int .i64 r.size):=B3.at 2
 have q3:∀ w',Ext W0 w'→_=some (Value.bool r.little):=B3.at 3
 have q4:∀ w',Ext W0 w'→_=some (Value.slice Rb r.bytes.length rb):=B3.at 4
 have q5:∀ w',Ext W0 w'→_=some (Value.slice Rn r.names.length rn):=B3.at 5
 have q6:∀ w',Ext W0 w'→_=some (Value.slice Rt r.tags.length rt):=B3.at 6
 have q7:∀ w',Ext W0 w'→_=some (Value.slice (some ⟨bk,ok,none⟩) r.kids.length rk):=B3.at 7
 have HB2:=lhd B2;have HS0:=lhd hs0;clear B1 B2 B3 hs0;have qk:=fun w' (e:Ext W0 w')=>hck w' (e0.trans e)
 have gki:(0:Int)<(r.kids.length:Int):=by omega
 clear hd hb hS HR hk hY hck hkn;cases O with
 | none =>
  simp only [intRes] at CI;unfold vdesc;go_enter Tryz.func49,Tryz.ntmps49;go_wp2_with fail;rw [← HW0.out];refine wp_region_quiet_below (by kernel_rfl) (by kernel_rfl) ?_;repeat (go_big_quiet_step ((go_at_call 77;exact Calls.regrown_of (CI.out _ (e0.trans (by first | assumption | exact Ext_regrown _ _ (Ext.refl _)))))))
  refine wpQuiet_nil (qnl ?_);intro w1 ew1;have hbq:=HB2.out.ext ew1;have f1:=hbq.cell;have f2:=hbq.free;have hs0':=HS0.out;have hput:=(e0.trans ew1).grown (grown_put3 _ (w.heap.size+1) 0 t0) (fun g hg=>by injection hg with hg;omega);have HPUT:=lhd hput;clear hput hs0';go_wp2;exact bodyPost_ret (v:=badRes a 1) (by simp [results,Tryz.results49,go_sem,f1,f2,badRes,zeroV]) rfl (RdOut.bad HPUT.out)
 | some n =>
  obtain ⟨hle,hn32⟩:=HLE.out n rfl;simp only [intRes] at CI;dsimp only
  by_cases h40:40<n
  ·rw [if_pos h40]
   have hi40:(40:Int)<(n:Int):=by omega
   unfold vdesc;go_enter Tryz.func49,Tryz.ntmps49;go_wp2_with fail;rw [← HW0.out];refine wp_region_quiet_below (by kernel_rfl) (by kernel_rfl) ?_;repeat (go_big_quiet_step ((go_at_call 77;exact Calls.regrown_of (CI.out _ (e0.trans (by first | assumption | exact Ext_regrown _ _ (Ext.refl _)))))))
   refine wpQuiet_nil (qnl ?_);intro w1 ew1;have hbq:=HB2.out.ext ew1;have f1:=hbq.cell;have f2:=hbq.free;have hs0':=HS0.out;have hput:=(e0.trans ew1).grown (grown_put3 _ (w.heap.size+1) 0 t0) (fun g hg=>by injection hg with hg;omega);have HPUT:=lhd hput;clear hput hs0';go_wp2;exact bodyPost_ret (v:=badRes a 6) (by simp [results,Tryz.results49,go_sem,f1,f2,badRes,zeroV]) rfl (RdOut.bad HPUT.out)
  ·rw [if_neg h40]
   have hi40:¬ (40:Int)<(n:Int):=by omega
   have CC1:=lhd (fun w' e=>CC.out n (a+sz) w' (by omega) hle e);clear CC;generalize itemsF (readV ds b) r 0 n 0 (a+sz) []=Y at *;unfold vdesc;go_enter Tryz.func49,Tryz.ntmps49;go_wp2_with fail;rw [← HW0.out];refine wp_region_quiet_below (by kernel_rfl) (by kernel_rfl) ?_;repeat (go_big_quiet_step ((go_at_call 77;exact Calls.regrown_of (CI.out _ (e0.trans (by first | assumption | exact Ext_regrown _ _ (Ext.refl _)))))))
   refine wpQuiet_nil (qnl ?_);intro w1 ew1;have e01:=e0.trans ew1;go_wp2_with fail;refine (CC1.out _ e01).mono ?_;rintro _ w5 ⟨t,A1,n1,c1,A2,n2,c2,rfl,hsh,hgt,he5⟩;have e05:=ew1.trans he5;have hw1:=ew1.size;have hbq:=HB2.out.ext e05;have f1:=hbq.cell;have f2:=hbq.free;have hs0':=HS0.out;have hG:=val_out3 (w:=w) (g:=w.heap.size+1) (by omega) (e0.trans e05) (hgt.out.down (by omega)) (fun u hu g hg=>by have:=(hgt.out.own.block u hu g hg).1;omega) (.int .i64 Y.v.num) (.slice A1 n1 c1) (.slice A2 n2 c2);have HG:=lhd hG;clear hG hs0';go_wp2;exact bodyPost_ret (v:=.tuple #[.agg #[.int .i64 Y.v.num,.slice A1 n1 c1,.slice A2 n2 c2],.int .i64 (Y.next:Int),.int .i64 (Y.code:Int)]) (by simp [results,Tryz.results49,go_sem,f1,f2]) rfl ⟨_,by unfold rrVal vval;rw [hsh.out.1,hsh.out.2],HG.out.1,HG.out.2⟩
theorem sRead_all (A:Option Addr) (ds:List DRule) (c:Nat) (hok:descOk ds=true) (Ab:Option Addr) (b:List UInt8) (cb:Nat):∀ i,i<ds.length→sReadOk A ds c Ab b cb i:=by
 intro i
 induction i using Nat.strongRecOn with
 | ind i ih =>
  intro hi;have HR:∀ j,j<i→sReadOk A ds c Ab b cb j:=fun j hj=>ih j hj (by omega)
  have hk:=(ruleFacts hok i hi).kind;rcases (by omega:ds[i].kind=1∨ds[i].kind=2∨ds[i].kind=3∨ds[i].kind=4∨ds[i].kind=5∨ds[i].kind=6∨ds[i].kind=7∨ds[i].kind=8∨ds[i].kind=9∨ds[i].kind=10) with h | h | h | h | h | h | h | h | h | h
  ·exact sRead1_c A ds c hok i hi h Ab b cb HR
  ·exact sRead2_c A ds c hok i hi h Ab b cb HR
  ·exact sRead3_c A ds c hok i hi h Ab b cb HR
  ·exact sRead4_c A ds c hok i hi h Ab b cb HR
  ·exact sRead5_c A ds c hok i hi h Ab b cb HR
  ·exact sRead6_c A ds c hok i hi h Ab b cb HR
  ·exact sRead7_c A ds c hok i hi h Ab b cb HR
  ·exact sRead8_c A ds c hok i hi h Ab b cb HR
  ·exact sRead9_c A ds c hok i hi h Ab b cb HR
  ·exact sRead10_c A ds c hok i hi h Ab b cb HR
theorem sAdv_c (X:Nat→Prop) (W0:World) (p:Nat) (m:Mach) (Ac:Option Addr) (cs:List Ins) (cc:Nat) (Ae:Option Addr) (es:List Int) (ce:Nat) (w:World) (h:MV X W0 w p m) (hm:m.Ok) (hC:∀ w',MR X w w'→RdI w' Ac cs cc) :
 Calls Tryz.prog 127 #[.agg #[.slice Ac cs.length cc,.slice Ae es.length ce],.pointer (some ⟨p,0,none⟩)] w fun e w'=>e=.returned (.tuple #[])∧MV X W0 w' p (advN cs 100001 m)∧MR X w w':=by
 obtain ⟨vs,vq,hb⟩:=h;have hC0:=hC w (MR.refl _ _);have hl:=hC0.len;have hcp:=hC0.cap;obtain ⟨W1,hW1⟩:=nmw (w.alloc (.cells #[.slice Ac cs.length cc,.slice Ae es.length ce] 55));have e1:Ext w W1:=ka hW1
 have HB:Hid (MB (fun k=>X k∨k=w.heap.size) W0 W1 p m vs vq):=by rw [hW1.out];exact hb.guard _
 have HR1:Hid (MR X w W1):=MR.of_ext e1 hb.low
 have HBP:Hid (Box W1 w.heap.size #[.slice Ac cs.length cc,.slice Ae es.length ce] 55):=by rw [hW1.out];exact Box.new _ _ _
 have CF:=lhd (fun m' w' h=>sFail_c (fun k=>X k∨k=w.heap.size) W0 p m' 8 w' h);have CT:=lhd (fun m' x w' h hs hq=>sStep_c (fun k=>X k∨k=w.heap.size) W0 p m' x w' h hs hq);have CI:=lhd (fun x lo hi w=>l1In_c x lo hi w);have HXW:Hid (∀ k,X k→X k∨k=w.heap.size):=fun k hk=>.inl hk
 have HC:=lhd hC;have HV0:Hid (MV (fun k=>X k∨k=w.heap.size) W0 W1 p m):=⟨_,_,HB.out⟩
 have HOK:=lhd hm;clear hb hC hC0 e1 hm;go_enter Tryz.func127,Tryz.ntmps127;go_wp2_with fail;rw [← hW1.out];go_loopw [4] (fun q wr=>∃ (k:Nat) (m':Mach),k≤100001∧q=.int .i64 (k:Int)∧Hid m'.Ok∧Hid (advN cs (100001-k) m'=advN cs 100001 m)∧Hid (MV (fun k=>X k∨k=w.heap.size) W0 wr p m')∧Hid (MR (fun k=>X k∨k=w.heap.size) W1 wr)) (fun q _=>100002-(intOf q).toNat)
 case atStart=>exact ⟨0,m,by omega,rfl,HOK.out,rfl,HV0.out,MR.refl _ _⟩
 case round =>
  clear HV0 HB HOK;obtain ⟨k,m',hk,rfl,hok,hv,hmv,hr⟩:=hrel;obtain ⟨vs',vq',hb'⟩:=hmv.out;have HB:=lhd hb';have hbp:Box wr w.heap.size #[.slice Ac cs.length cc,.slice Ae es.length ce] 55:=(hr.out.kept _ (.inr rfl)).trans HBP.out
  have j0:∀ w',Ext wr w'→w'.cell? ⟨w.heap.size,0,none⟩=some (Value.slice Ac cs.length cc):=hbp.at 0
  have s0:∀ w',Ext wr w'→w'.cell? ⟨p,0,none⟩=some (.int .i64 m'.pc):=fun w' e=>(HB.out.box.ext e).cell 0
  have s5:wr.cell? ⟨p,5,none⟩=some (.bool m'.started):=HB.out.box.cell 5
  have s7:wr.cell? ⟨p,7,none⟩=some (.int .i64 m'.state):=HB.out.box.cell 7
  have HRR:=lhd (HR1.out.trans (hr.out.weak HXW.out));clear hb' hbp hmv
  by_cases hrun:m'.state=0
  rotate_left
  ·have HF:Hid (advN cs 100001 m=m'):=by show _=_;rw [← hv.out,advN_stop (by simp [hrun])]
   have hrb:(m'.state==0)=false:=by simp [hrun]
   clear hv;go_wp2
   first
    | exact bodyPost_end (results_none rfl _ _ _) rfl ⟨rfl,(by rw [HF.out];exact ⟨_,_,HB.out.weak HXW.out⟩),HRR.out⟩
    | exact bodyPost_ret (results_none rfl _ _ _) rfl ⟨rfl,(by rw [HF.out];exact ⟨_,_,HB.out.weak HXW.out⟩),HRR.out⟩
  rw [hrun] at s7;cases hst:m'.started
  rotate_left
  ·have HF:Hid (advN cs 100001 m=m'):=by show _=_;rw [← hv.out,advN_stop (by simp [hst])]
   rw [hst] at s5;clear hv hst;go_wp2
   first
    | exact bodyPost_end (results_none rfl _ _ _) rfl ⟨rfl,(by rw [HF.out];exact ⟨_,_,HB.out.weak HXW.out⟩),HRR.out⟩
    | exact bodyPost_ret (results_none rfl _ _ _) rfl ⟨rfl,(by rw [HF.out];exact ⟨_,_,HB.out.weak HXW.out⟩),HRR.out⟩
  rw [hst] at s5;have HRUN:=lhd (And.intro hrun hst);clear hrun hst;have hiw:IntKind.i64.wrap ((cs.length:Int)-1)=(cs.length:Int)-1:=IntWalk.i64_in _ (by omega)
  have CI1:=lhd (fun w'=>CI.out m'.pc 0 ((cs.length:Int)-1) w');cases hin:(decide ((0:Int)≤m'.pc)&&decide (m'.pc≤(cs.length:Int)-1))
  ·have HF:Hid (advN cs 100001 m=m'.fail 8):=by show _=_;rw [← hv.out,advN_out HRUN.out hin]
   rw [hin] at CI1;clear hv hin;go_wp2_with fail;refine wp_region_quiet_below (by kernel_rfl) (by kernel_rfl) ?_;repeat (go_big_quiet_step ((go_at_call 71;exact Calls.regrown_of (CI1.out _))))
   refine wpQuiet_nil (qnl ?_);intro w4 ew4;go_wp2_with fail;refine (CF.out m' _ ⟨_,_,HB.out.next ew4⟩).mono ?_;rintro _ w5 ⟨rfl,⟨vs5,vq5,hm5⟩,hr5⟩;have HRE:=HRR.out.trans (((MR.of_ext ew4 HB.out.low).trans hr5).weak HXW.out);go_wp2
   first
    | exact bodyPost_end (results_none rfl _ _ _) rfl ⟨rfl,(by rw [HF.out];exact ⟨_,_,hm5.weak HXW.out⟩),HRE⟩
    | exact bodyPost_ret (results_none rfl _ _ _) rfl ⟨rfl,(by rw [HF.out];exact ⟨_,_,hm5.weak HXW.out⟩),HRE⟩
  rw [hin] at CI1
  by_cases hk1:k=100001
  ·subst hk1
   have HF:Hid (advN cs 100001 m=m'.fail 8):=by show _=_;rw [← hv.out];show advN cs 0 m'=_;rw [advN,if_pos HRUN.out]
   clear hv hin;go_wp2_with fail;refine wp_region_quiet_below (by kernel_rfl) (by kernel_rfl) ?_;repeat (go_big_quiet_step ((go_at_call 71;exact Calls.regrown_of (CI1.out _))))
   refine wpQuiet_nil (qnl ?_);intro w4 ew4;go_wp2_with fail;refine (CF.out m' _ ⟨_,_,HB.out.next ew4⟩).mono ?_;rintro _ w5 ⟨rfl,⟨vs5,vq5,hm5⟩,hr5⟩;have HRE:=HRR.out.trans (((MR.of_ext ew4 HB.out.low).trans hr5).weak HXW.out);go_wp2
   first
    | exact bodyPost_end (results_none rfl _ _ _) rfl ⟨rfl,(by rw [HF.out];exact ⟨_,_,hm5.weak HXW.out⟩),HRE⟩
    | exact bodyPost_ret (results_none rfl _ _ _) rfl ⟨rfl,(by rw [HF.out];exact ⟨_,_,hm5.weak HXW.out⟩),HRE⟩
  have hk2:k≤100000:=by omega
  have hkd:decide ((100000:Int)<(k:Int))=false:=by simp;omega
  have hkd2:decide (100000<k)=false:=by simp;omega
  have HN:Hid (advN cs (100001-(k+1)) (m'.step (insAt cs m'.pc))=advN cs 100001 m):=by show _=_;rw [← hv.out,show 100001-k=(100001-(k+1))+1 by omega,advN_go HRUN.out hin]
  obtain ⟨j,hj,hjp⟩:∃ j:Nat,∃ _:j<cs.length,m'.pc=(j:Int):=by
   simp only [Bool.and_eq_true,decide_eq_true_eq] at hin;exact ⟨m'.pc.toNat,by omega,by omega⟩
  have HI:Hid (insAt cs m'.pc=cs[j]):=by show _=_;rw [hjp];exact insAt_nat hj
  have hIw:=HC.out wr HRR.out;obtain ⟨b,off,hAc,_,hcc⟩:=hIw.at j hj;subst hAc;have HOK2:=lhd (hok.out.step (insAt cs m'.pc));rw [HI.out] at HOK2;replace HN:=lhd HN.out;rw [HI.out] at HN;have c0:∀ w',Ext wr w'→w'.cell? ⟨b,off+j*3,none⟩=some (.int .i64 cs[j].1):=fun w' e=>(hcc w' e).1
  have c1:∀ w',Ext wr w'→w'.cell? ⟨b,off+j*3+1,none⟩=some (.int .i64 cs[j].2.1):=fun w' e=>(hcc w' e).2.1
  have c2:∀ w',Ext wr w'→w'.cell? ⟨b,off+j*3+2,none⟩=some (.int .i64 cs[j].2.2):=fun w' e=>(hcc w' e).2.2
  rw [hjp] at s0 CI1;have hji:(j:Int)<(cs.length:Int):=by omega
  generalize cs[j]=x at *;clear hv hin hcc hIw hjp HI;go_wp2_with fail;refine wp_region_quiet_below (by kernel_rfl) (by kernel_rfl) ?_;repeat (go_big_quiet_step ((go_at_call 71;exact Calls.regrown_of (CI1.out _))))
  refine wpQuiet_nil (qnl ?_);intro w4 ew4;clear hiw;have j04:=fun w' (e:Ext w4 w')=>j0 w' (ew4.trans e)
  have s04:=fun w' (e:Ext w4 w')=>s0 w' (ew4.trans e)
  have c04:=fun w' (e:Ext w4 w')=>c0 w' (ew4.trans e)
  have c14:=fun w' (e:Ext w4 w')=>c1 w' (ew4.trans e)
  have c24:=fun w' (e:Ext w4 w')=>c2 w' (ew4.trans e)
  go_wp2_with fail;refine region_qtail_below 9 (by kernel_rfl) (by kernel_rfl) ?_;simp only [List.take_succ_cons,List.take_zero,List.drop_succ_cons,List.drop_zero];repeat (go_big_quiet_step (fail))
  refine wpQuiet_nil ?_;rintro w5 ⟨⟨nq,osq⟩,hq⟩;have e5:=ext_of_q hq;have e45:=ew4.trans e5;clear hq nq osq;go_wp2_with fail;refine (CT.out m' x _ ⟨_,_,HB.out.next e45⟩ hok.out.st hok.out.sm).mono ?_;rintro _ w6 ⟨rfl,hm6,hr6⟩;have HM6:=lhd hm6;have HR6:=lhd (hr.out.trans ((MR.of_ext e45 HB.out.low).trans hr6));clear hm6 hr6;go_wp2;go_roundw
  case rel=>exact ⟨k+1,m'.step x,by omega,by go_num,HOK2.out,HN.out,HM6.out,HR6.out⟩
  case measure=>simp [intOf];omega
theorem Rd.srcM {α:Type} {f:α→Value} {w w':World} {A:Option Addr} {l:List α} {c:Nat} (h:Rd f w A l c) (e:Ext w w') :
 0<l.length→∃ ad,A=some ad∧∀ j u,(l.map f)[j]?=some u→w'.cell? (ad.add j)=some u:=by
 intro hp;obtain ⟨b,off,h1,_,h3⟩:=h.base hp;refine ⟨_,h1,fun j u hu=>?_⟩
 have:=part_cells (h3 w' e) 0 l.length j u (by simpa using hu)
 simpa using this
theorem put10_ext {w0 w:World} {g:Nat} (e:Ext w0 w) (hg:w0.heap.size≤g) (u0 u1 u2 u3 u4 u5 u6 u7 u8 u9:Value):Ext w0 ((((((((((w.setCell ⟨g,0,none⟩ u0).setCell ⟨g,1,none⟩ u1).setCell ⟨g,2,none⟩ u2).setCell ⟨g,3,none⟩ u3).setCell ⟨g,4,none⟩ u4).setCell ⟨g,5,none⟩ u5).setCell ⟨g,6,none⟩ u6).setCell ⟨g,7,none⟩ u7).setCell ⟨g,8,none⟩ u8).setCell ⟨g,9,none⟩ u9):=((((((((((e.setCell (p:=⟨g,0,none⟩) hg u0).setCell (p:=⟨g,1,none⟩) hg u1).setCell (p:=⟨g,2,none⟩) hg u2).setCell (p:=⟨g,3,none⟩) hg u3).setCell (p:=⟨g,4,none⟩) hg u4).setCell (p:=⟨g,5,none⟩) hg u5).setCell (p:=⟨g,6,none⟩) hg u6).setCell (p:=⟨g,7,none⟩) hg u7).setCell (p:=⟨g,8,none⟩) hg u8).setCell (p:=⟨g,9,none⟩) hg u9)
theorem put10_own {w0 w:World} {g:Nat} {v:Value} {l:List Int} (h:OwnL vint 3 w0 w v l) (hne:v.ownBlock≠some g) (u0 u1 u2 u3 u4 u5 u6 u7 u8 u9:Value):OwnL vint 3 w0 ((((((((((w.setCell ⟨g,0,none⟩ u0).setCell ⟨g,1,none⟩ u1).setCell ⟨g,2,none⟩ u2).setCell ⟨g,3,none⟩ u3).setCell ⟨g,4,none⟩ u4).setCell ⟨g,5,none⟩ u5).setCell ⟨g,6,none⟩ u6).setCell ⟨g,7,none⟩ u7).setCell ⟨g,8,none⟩ u8).setCell ⟨g,9,none⟩ u9) v l:=((((((((((h.other ⟨g,0,none⟩ u0 hne).other ⟨g,1,none⟩ u1 hne).other ⟨g,2,none⟩ u2 hne).other ⟨g,3,none⟩ u3 hne).other ⟨g,4,none⟩ u4 hne).other ⟨g,5,none⟩ u5 hne).other ⟨g,6,none⟩ u6 hne).other ⟨g,7,none⟩ u7 hne).other ⟨g,8,none⟩ u8 hne).other ⟨g,9,none⟩ u9 hne)
def mval (m:Mach) (vs vq:Value):Value:=.agg (mcells m vs vq)
theorem sCopyM_c (m:Mach) (A1:Option Addr) (c1:Nat) (A2:Option Addr) (c2:Nat) (w:World) (hS:Is w A1 m.stack c1) (hQ:Is w A2 m.sums c2) (hm:m.Ok) :
 Calls Tryz.prog 51 #[mval m (.slice A1 m.stack.length c1) (.slice A2 m.sums.length c2)] w fun e w'=>∃ vs vq,e=.returned (mval m vs vq)∧OwnL vint 3 w w' vs m.stack∧OwnL vint 3 w w' vq m.sums∧(∀ b,vs.ownBlock=some b→vq.ownBlock≠some b)∧Ext w w':=by
 have hs:=hm.st;have hq:=hm.sm;obtain ⟨Wb,hWb,B1,B2,eb,hszb⟩:=boxes2' w (mcells m (.slice A1 m.stack.length c1) (.slice A2 m.sums.length c2)) (mcells ⟨0,0,[],[],0,false,false,0,0,0⟩ (.slice none 0 0) (.slice none 0 0)) 67 67;obtain ⟨W0,hW0⟩:=nmw (Wb.alloc (.cells (mcells m (.slice A1 m.stack.length c1) (.slice A2 m.sums.length c2)) 67));have e0b:Ext Wb W0:=ka hW0
 have B3:Box W0 (w.heap.size+1+1) (mcells m (.slice A1 m.stack.length c1) (.slice A2 m.sums.length c2)) 67:=by have:=Box.new Wb (mcells m (.slice A1 m.stack.length c1) (.slice A2 m.sums.length c2)) 67;rw [hszb] at this;rw [hW0.out];exact this
 have hsz:W0.heap.size=w.heap.size+3:=by rw [hW0.out];simp;omega
 have HW:Hid (W0=((w.alloc (.cells (mcells m (.slice A1 m.stack.length c1) (.slice A2 m.sums.length c2)) 67)).alloc (.cells (mcells ⟨0,0,[],[],0,false,false,0,0,0⟩ (.slice none 0 0) (.slice none 0 0)) 67)).alloc (.cells (mcells m (.slice A1 m.stack.length c1) (.slice A2 m.sums.length c2)) 67)):=by show _=_;rw [hW0.out,hWb.out]
 have k2:∀ w',Ext Wb w'→w'.cell? ⟨w.heap.size,2,none⟩=some (Value.slice A1 m.stack.length c1):=B1.at 2
 have k3:∀ w',Ext Wb w'→w'.cell? ⟨w.heap.size,3,none⟩=some (Value.slice A2 m.sums.length c2):=B1.at 3
 have HB2:=lhd B2;have HB3:=lhd B3;have HSZ:=lhd hsz;have HSB:=lhd hszb;have e1:=Ext_alloc (.cells #[] 3) (Ext.refl W0);have E1:=e0b.trans e1;have HOE:Hid (OwnL vint 3 Wb W0 (.slice none 0 0) []):=OwnL.nil _ _
 have OE:=OwnL.empty (f:=vint) (e:=3) e0b;rw [hsz] at OE;have HOE:=lhd OE;have HS:=lhd (((hS.ext eb).ext e0b).ext e1);have HQ0:=lhd (hQ.ext eb);have a2:=k2 _ E1;have HEB:=lhd eb;clear B1 B2 B3 OE hsz hS hQ e0b hszb hW0 hWb eb;unfold mval mcells at *;go_enter Tryz.func51,Tryz.ntmps51
 go_wp2_with (first
  | (at_builtin;rw [← HW.out];go_must (refine wpList_appL rfl (.tmp 5) (.tmp 7) _ rfl E_int (by omega) Wb _ vint (fun _=>rfl) (.slice (some ⟨w.heap.size+3,0,none⟩) 0 0) rfl A1 m.stack.length c1 rfl [] m.stack HOE.out E1 rfl (Rd.srcM HS.out (Ext.refl _)) (by simp;omega) ?_);intro v4 w4 ho4 he4 hv4 hg4;obtain ⟨A4,n4,c4,hv4'⟩:=Own.slice2 ho4;subst hv4';have bx4:=(HB3.out.ext e1).moved hg4 (show some (w.heap.size+3)≠some (w.heap.size+1+1) from fun hh=>by have:=Option.some.inj hh;omega);have HX4:=lhd bx4;have q2:w4.cell? ⟨w.heap.size+1+1,2,none⟩=some (Value.slice A1 m.stack.length c1):=bx4.cell 2;have q2f:=bx4.free 2;have E5:Ext Wb (w4.setCell ⟨w.heap.size+1+1,2,none⟩ (.slice A4 n4 c4)):=he4.setCell (p:=⟨w.heap.size+1+1,2,none⟩) (by have:=HSB.out;show _≤_+1+1;omega) _;have e6:=Ext_alloc (.cells #[] 3) (Ext.refl (w4.setCell ⟨w.heap.size+1+1,2,none⟩ (.slice A4 n4 c4)));have E6:=E5.trans e6;have a3:=k3 _ E6;have HO4:=lhd ho4;have OE5:=OwnL.empty (f:=vint) (e:=3) E5;rw [show (w4.setCell ⟨w.heap.size+1+1,2,none⟩ (.slice A4 n4 c4)).heap.size=w4.heap.size by simp] at OE5;have HOE5:=lhd OE5;have HQ6:=lhd (HQ0.out.ext E6);clear bx4 OE5)
  | (at_builtin;go_must (refine wpList_appL rfl (.tmp 10) (.tmp 12) _ rfl E_int (by omega) Wb _ vint (fun _=>rfl) (.slice (some ⟨w4.heap.size,0,none⟩) 0 0) rfl A2 m.sums.length c2 rfl [] m.sums HOE5.out E6 rfl (Rd.srcM HQ6.out (Ext.refl _)) (by simp;omega) ?_);intro v6 w6 ho6 he6 hv6 hg6;obtain ⟨A6,n6,c6,hv6'⟩:=Own.slice2 ho6;subst hv6';have hl4:=HX4.out.lt;have bx5:=HX4.out.set 2 (Value.slice A4 n4 c4);have bx6:=(bx5.ext e6).moved hg6 (show some w4.heap.size≠some (w.heap.size+1+1) from fun hh=>by have:=Option.some.inj hh;omega);have HX6:=lhd bx6;have q3:w6.cell? ⟨w.heap.size+1+1,3,none⟩=some (Value.slice A2 m.sums.length c2):=bx6.cell 3;have q3f:=bx6.free 3;have HO6:=lhd ho6;have bx7:=bx6.set 3 (Value.slice A6 n6 c6);have HX7:=lhd bx7;have E7:Ext Wb (w6.setCell ⟨w.heap.size+1+1,3,none⟩ (.slice A6 n6 c6)):=he6.setCell (p:=⟨w.heap.size+1+1,3,none⟩) (by have:=HSB.out;show _≤_+1+1;omega) _;have br:=HB2.out.ext he6;have HE7:=lhd E7;have HG6:=lhd hg6;have r0:w6.cell? ⟨w.heap.size+1+1,0,none⟩=some (.int .i64 m.pc):=bx6.cell 0;have r1:w6.cell? ⟨w.heap.size+1+1,1,none⟩=some (.int .i64 m.reg):=bx6.cell 1;have r2:w6.cell? ⟨w.heap.size+1+1,2,none⟩=some (Value.slice A4 n4 c4):=bx6.cell 2;have r4:w6.cell? ⟨w.heap.size+1+1,4,none⟩=some (.int .i64 m.left):=bx6.cell 4;have r5:w6.cell? ⟨w.heap.size+1+1,5,none⟩=some (.bool m.started):=bx6.cell 5;have r6:w6.cell? ⟨w.heap.size+1+1,6,none⟩=some (.bool m.escaped):=bx6.cell 6;have r7:w6.cell? ⟨w.heap.size+1+1,7,none⟩=some (.int .i64 m.state):=bx6.cell 7;have r8:w6.cell? ⟨w.heap.size+1+1,8,none⟩=some (.int .i64 m.code):=bx6.cell 8;have r9:w6.cell? ⟨w.heap.size+1+1,9,none⟩=some (.int .i64 m.read):=bx6.cell 9;have t2:=br.cell;have tf:=br.free;clear bx5 bx6 bx7 br E5 E6 E7 k2 k3 a2 a3 q2 q2f hg6 hg4))
 have h4:∀ b,(Value.slice A4 n4 c4).ownBlock=some b→w.heap.size+3≤b∧b<w4.heap.size:=by
  intro b hb;refine ⟨?_,(World.ownsRow.lt HO4.out b hb).2⟩;rcases hv4 with hv | hv
  ·rw [hb] at hv;have h1:b=w.heap.size+3:=Option.some.inj hv;omega
  ·rw [hb] at hv;have h1:=Option.some.inj hv;rw [World.size_alloc,HSZ.out] at h1;omega
 have h6:∀ b,(Value.slice A6 n6 c6).ownBlock=some b→w4.heap.size≤b:=by
  intro b hb;rcases hv6 with hv | hv
  ·rw [hb] at hv;have h1:b=w4.heap.size:=Option.some.inj hv;omega
  ·rw [hb] at hv;have h1:=Option.some.inj hv;simp at h1;omega
 have hl4:=HX4.out.lt;have hb1:=HSB.out
 have o4:OwnL vint 3 Wb (w6.setCell ⟨w.heap.size+1+1,3,none⟩ (.slice A6 n6 c6)) (.slice A4 n4 c4) m.stack:=by
  have a1:=(HO4.out.other ⟨w.heap.size+1+1,2,none⟩ (.slice A4 n4 c4) (fun hh=>by have:=(h4 _ hh).1;have h9:(⟨w.heap.size+1+1,2,none⟩:Addr).block=w.heap.size+1+1:=rfl;rw [h9] at this;omega)).ext e6;have a2:=a1.keep HG6.out (fun b hb hr=>by have:=(h4 b hb).2;have h1:w4.heap.size=b:=Option.some.inj hr;omega);exact a2.other ⟨w.heap.size+1+1,3,none⟩ _ (fun hh=>by have:=(h4 _ hh).1;have h9:(⟨w.heap.size+1+1,3,none⟩:Addr).block=w.heap.size+1+1:=rfl;rw [h9] at this;omega)
 have o6:OwnL vint 3 Wb (w6.setCell ⟨w.heap.size+1+1,3,none⟩ (.slice A6 n6 c6)) (.slice A6 n6 c6) m.sums :=
  HO6.out.other ⟨w.heap.size+1+1,3,none⟩ _ (fun hh=>by have:=h6 _ hh;have h9:(⟨w.heap.size+1+1,3,none⟩:Addr).block=w.heap.size+1+1:=rfl;rw [h9] at this;omega)
 have F4:=put10_own (g:=w.heap.size+1) o4 (fun hh=>by have:=(h4 _ hh).1;omega) (.int .i64 m.pc) (.int .i64 m.reg) (.slice A4 n4 c4) (.slice A6 n6 c6) (.int .i64 m.left) (.bool m.started) (.bool m.escaped) (.int .i64 m.state) (.int .i64 m.code) (.int .i64 m.read);have F6:=put10_own (g:=w.heap.size+1) o6 (fun hh=>by have:=h6 _ hh;omega) (.int .i64 m.pc) (.int .i64 m.reg) (.slice A4 n4 c4) (.slice A6 n6 c6) (.int .i64 m.left) (.bool m.started) (.bool m.escaped) (.int .i64 m.state) (.int .i64 m.code) (.int .i64 m.read);have FE:=put10_ext (g:=w.heap.size+1) (HEB.out.trans HE7.out) (by omega) (.int .i64 m.pc) (.int .i64 m.reg) (.slice A4 n4 c4) (.slice A6 n6 c6) (.int .i64 m.left) (.bool m.started) (.bool m.escaped) (.int .i64 m.state) (.int .i64 m.code) (.int .i64 m.read);refine bodyPost_ret (v:=.agg #[.int .i64 m.pc,.int .i64 m.reg,.slice A4 n4 c4,.slice A6 n6 c6,.int .i64 m.left,.bool m.started,.bool m.escaped,.int .i64 m.state,.int .i64 m.code,.int .i64 m.read]) (by simp [results,Tryz.results51,go_sem,t2,tf]) rfl ?_;exact ⟨_,_,rfl,F4.down HEB.out.size,F6.down HEB.out.size,fun b hb hh=>by have:=(h4 b hb).2;have:=h6 b hh;omega,FE⟩
end Go.Proofs.YtpmcofmdjckijaaGreat
