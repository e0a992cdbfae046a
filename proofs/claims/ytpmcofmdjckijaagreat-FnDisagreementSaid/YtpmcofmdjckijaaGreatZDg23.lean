/- Texts, laid into one. -/
import Derived.Test.YtpmcofmdjckijaaGreatZDg20
import Derived.Test.YtpmcofmdjckijaaGreatZDg15
set_option linter.unusedVariables false
set_option linter.unusedSimpArgs false
set_option maxRecDepth 100000
set_option maxHeartbeats 16000000
namespace Go.Proofs.YtpmcofmdjckijaaGreat
open Go.RowKit Go.Sort
theorem rdN_take {l:List UInt8} {k:Nat} (h:k<l.length):rdN (l.take (k+1))=rdN (l.take k)*256+l[k].toNat:=by
 rw [List.take_succ_eq_append_getElem h,rdN_snoc]
theorem rdN_lt:∀ (l:List UInt8),l.length≤4→rdN l<4294967296:=by
 intro l h;have h8:=fun (x:UInt8)=>x.toNat_lt
 match l,h with
 | [],_=>decide
 | [a],_=>have:=h8 a;simp [rdN];omega
 | [a,b],_=>have:=h8 a;have:=h8 b;simp [rdN];omega
 | [a,b,c],_=>have:=h8 a;have:=h8 b;have:=h8 c;simp [rdN];omega
 | [a,b,c,d],_=>have:=h8 a;have:=h8 b;have:=h8 c;have:=h8 d;simp [rdN];omega
theorem readInt_c (A:Option Addr) (l:List UInt8) (c:Nat) (t:Bool) (w:World) (h:Bs w A l c) (hl:l.length≤4) :
 Gives Tryz.prog 130 #[.slice A l.length c,.bool t] w (.int .i64 (rdN (if t then l.reverse else l):Nat)):=by
 obtain ⟨L,hL⟩:∃ L,L=(if t then l.reverse else l):=⟨_,rfl⟩;have hLl:L.length=l.length:=by rw [hL];cases t<;>simp
 have hLk:∀ k (hk:k<l.length) ,L[k]'(by omega)=if t then l[l.length-1-k]'(by omega) else l[k]:=by
  intro k hk;subst hL;cases t<;>simp
 rw [← hL];have HLL:=lhd hLl;clear hL;cases t
 all_goals
  simp only [if_true,if_false,Bool.false_eq_true] at hLk;have HLK:=lhd hLk;clear hLk;go_enter Tryz.func130,Tryz.ntmps130;go_wp2;go_loopw [5,6,7] (fun n i _ wr=>∃ k:Nat,k≤l.length∧i=.int .i64 k∧n=.int .i64 (rdN (L.take k):Nat)∧Ext w wr) (fun _ i _ _=>l.length-(intOf i).toNat)
  case atStart=>exact ⟨0,by omega,rfl,by simp [rdN],Ext.refl _⟩
  case round =>
   obtain ⟨k,hk,rfl,rfl,he⟩:=hrel
   by_cases hlt:k<l.length
   ·have hst:=lhd (rdN_take (l:=L) (k:=k) (by have:=HLL.out;omega))
    have hg:=HLK.out k hlt;have h1:=rdN_lt (L.take k) (by have:=HLL.out;simp;omega)
    first
     | (obtain ⟨b, off, rfl, hb, hc⟩ := h.at k hlt
        rw [← hg] at hc)
     | (obtain ⟨b, off, rfl, hb, hc⟩ := h.at (l.length - 1 - k) (by omega)
        rw [← hg] at hc)
    have h3:=(L[k]'(by have:=HLL.out;omega)).toNat_lt;generalize hs:rdN (L.take k)=s at *;generalize L[k]'(by have:=HLL.out;omega)=y at *;have hci:=fun w' (e:Ext w w')=>hc w' e
    clear hs hg hc;have hsub:(l.length:Int)-1-(k:Int)=((l.length-1-k:Nat):Int):=by omega
    go_wp2;go_roundw
    case rel=>exact ⟨k+1,by omega,by go_num,by rw [hst.out];go_num,he⟩
    case measure=>simp [intOf];omega
   ·obtain rfl:k=l.length:=by omega
    have ht:rdN (L.take l.length)=rdN L:=by rw [List.take_of_length_le (by have:=HLL.out;omega)]
    have HT:=lhd ht;clear ht;go_wp2;go_ret;exact ⟨ret_i64 (by rw [HT.out]),he⟩
theorem rd_sub {w:World} {b off:Nat} {l:List UInt8} {c:Nat} (h:Bs w (some ⟨b,off,none⟩) l c) {i n:Nat} (hp:0<l.length) (hn:i+n≤l.length):Bs w (some ⟨b,off+i,none⟩) ((l.drop i).take n) (c-i):=by
 obtain ⟨b',off',h1,hb,hcs⟩:=h.1.2.2 hp;injection h1 with h1
 injection h1 with q1 q2 q3
 subst q1;subst q2;have hc:=h.cap;have hl:=h.len;have hlen:((l.drop i).take n).length=n:=by simp;omega
 refine ⟨⟨by omega,by omega,fun h0=>⟨b,off+i,rfl,hb,fun w' e j hj=>?_⟩⟩,by omega⟩;rw [hlen] at hj
 have:=hcs w' e (i+j) (by omega);rw [← Nat.add_assoc] at this;rw [this];simp
def intRes (o:Option Nat) (a n:Nat):Value:=match o with
 | some k=>.tuple #[.int .i64 (k:Int),.int .i64 (n:Int),.bool true]
 | none=>.tuple #[.int .i64 0,.int .i64 (a:Int),.bool false]
theorem sInteger_c (A:Option Addr) (ds:List DRule) (c:Nat) (i:Nat) (hi:i<ds.length) (hs:1≤ds[i].size∧ds[i].size≤4) (Ab:Option Addr) (b:List UInt8) (cb a:Nat) (ha:a≤b.length) (w:World) (hd:RdD w A ds c) (hb:Bs w Ab b cb) :
 Gives Tryz.prog 77 #[vdesc (.slice A ds.length c),.int .i64 (i:Int),.slice Ab b.length cb,.int .i64 (a:Int)] w (intRes (intAt ds[i] b a) a (a+ds[i].size.toNat)):=by
 have hl:=hd.len;have hbl:=hb.len;have hcap:=hb.cap;obtain ⟨bR,oR,Rb,rb,Rn,rn,Rt,rt,Rk,rk,hA,hbR,hS,hR⟩:=hd.at i hi;obtain ⟨r0,r1,r2,r3,r4,r5,r6,r7⟩:=hR;subst hA;obtain ⟨s,hs0⟩:∃ s:Nat,ds[i].size=(s:Int):=⟨ds[i].size.toNat,by omega⟩;have hii:(i:Int)<(ds.length:Int):=by omega
 unfold vdesc intAt;have hst:ds[i].size.toNat=s:=by omega
 rw [hst];rw [hs0] at r2;have hs4:s≤4:=by omega
 have hs1:1≤s:=by omega
 by_cases hlt:b.length-a<s
 ·rw [if_pos hlt]
  have hlt':(b.length:Int)-(a:Int)<(s:Int):=by omega
  generalize ds[i]=r at *;unfold intRes;go_enter Tryz.func77,Tryz.ntmps77;go_wp2;exact bodyPost_ret (v:=.tuple #[.int .i64 0,.int .i64 (a:Int),.bool false]) (by simp [results,Tryz.results77,go_sem]) rfl ⟨rfl,Ext_alloc _ (Ext_alloc _ (Ext.refl w))⟩
 ·rw [if_neg hlt]
  obtain ⟨b',off,hAb,_,_⟩:=hb.1.2.2 (by omega);subst hAb
  have CR:Hid (∀ w',Ext w w'→Gives Tryz.prog 130 #[.slice (some ⟨b',off+a,none⟩) s (cb-a),.bool ds[i].little] w' (.int .i64 (decI ds[i] ((b.drop a).take s):Nat))):=fun w' e=>by
   have hsub:=rd_sub (hb.ext e) (i:=a) (n:=s) (by omega) (by omega);have hlen:((b.drop a).take s).length=s:=by simp;omega
   have:=readInt_c _ _ _ ds[i].little w' hsub (by omega);rw [hlen] at this;exact this
  obtain ⟨n,hn⟩:∃ n,decI ds[i] ((b.drop a).take s)=n:=⟨_,rfl⟩;rw [hn] at CR ⊢;unfold intRes;have hge:¬ (b.length:Int)-(a:Int)<(s:Int):=by omega
  have hc1:(a:Int)≤(a:Int)+(s:Int):=by omega
  have hc2:(a:Int)+(s:Int)≤(cb:Int):=by omega
  have hc3:a≤cb:=by omega
  have hca:¬ cb=a:=by omega
  generalize ds[i]=r at *;obtain ⟨W0,HW0,B1,B2,e0,hsA⟩:=boxes2' w #[.slice (some ⟨bR,oR,none⟩) ds.length c] #[.string r.nm,.int .i64 r.kind,.int .i64 (s:Int),.bool r.little,.slice Rb r.bytes.length rb,.slice Rn r.names.length rn,.slice Rt r.tags.length rt,.slice Rk r.kids.length rk] 26 96;have k2:∀ w',Ext W0 w'→_=some (Value.int .i64 (s:Int)):=B2.at 2
  have k3:∀ w',Ext W0 w'→_=some (Value.bool r.little):=B2.at 3
  clear hn hs hs0 hst hb B1 B2;go_enter Tryz.func77,Tryz.ntmps77;go_wp2_with fail;rw [← HW0.out];refine wp_region_quiet_below (by kernel_rfl) (by kernel_rfl) ?_;repeat (go_big_quiet_step ((go_at_call 130;exact Calls.regrown_of (CR.out _ (e0.trans (by first | assumption | exact Ext_regrown _ _ (Ext.refl _)))))))
  refine wpQuiet_nil (qnl ?_);intro w1 ew1;go_wp2_with fail;exact bodyPost_ret (v:=.tuple #[.int .i64 (n:Int),.int .i64 ((a:Int)+(s:Int)),.bool true]) (by simp [results,Tryz.results77,go_sem]) rfl ⟨by simp,e0.trans ew1⟩
def rrVal (R:RR) (t:VT):Value:=.tuple #[vval R.v t.vb t.vi,.int .i64 (R.next:Int),.int .i64 (R.code:Int)]
def RdOut (R:RR) (w:World) (e:Ending) (w':World):Prop:=∃ t,e=.returned (rrVal R t)∧GotV w w' t R.v∧Ext w w'
def t0:VT:=.mk 0 [] (.slice none 0 0) [] (.slice none 0 0)
theorem GotV.zero (w w':World):GotV w w' t0 v0:=by
 refine ⟨rfl,.mk (OwnL.nil _ _) ⟨by simp [t0,VT.its],.inl ⟨rfl,rfl⟩⟩ (fun x hx=>by simp [t0,VT.its] at hx),?_⟩;rw [VT.vals_eq];simp [Far,t0,VT.vb,VT.vi,VT.its,Value.ownBlock]
theorem val_out {w wr:World} {g:Nat} {t:VT} {v:DVal} (hg:w.heap.size≤g) (e:Ext w wr) (h:GotV w wr t v) (hne:∀ u∈t.vals,∀ b,u.ownBlock=some b→b≠g):GotV w (put3 wr g 0 t) t v∧Ext w (put3 wr g 0 t) :=
 ⟨⟨h.val,h.own.keep (grown_put3 wr g 0 t) (fun u hu b hb he=>by injection he with he;exact hne u hu b hb he.symm),h.far⟩,e.grown (grown_put3 wr g 0 t) (fun b hb=>by injection hb with hb;omega)⟩
theorem sBytes_c (Ab:Option Addr) (b:List UInt8) (cb a n:Nat) (ha:a≤b.length) (hn:n≤4294967296) (w:World) (hb:Bs w Ab b cb) :
 Calls Tryz.prog 84 #[.slice Ab b.length cb,.int .i64 (a:Int),.int .i64 (n:Int)] w (RdOut (bytesF b a n) w):=by
 have hbl:=hb.len;have hcap:=hb.cap;obtain ⟨W0,HW0,e1,hs0,BR⟩:∃ W0,Hid (W0=w.alloc (.cells #[.int .i64 0,.slice none 0 0,.slice none 0 0] 46))∧Ext w W0∧W0.heap.size=w.heap.size+1∧Box W0 w.heap.size #[.int .i64 0,.slice none 0 0,.slice none 0 0] 46:=⟨_,rfl,Ext_alloc _ (Ext.refl w),by simp,Box.new w _ _⟩;unfold bytesF
 by_cases hlt:b.length-a<n
 ·rw [if_pos hlt]
  have hlt':(b.length:Int)-(a:Int)<(n:Int):=by omega
  have r2:=BR.cell;have f2:=BR.free;have e2:=HW0.out▸e1;go_enter Tryz.func84,Tryz.ntmps84;go_wp2;exact bodyPost_ret (v:=rrVal (.bad a 1) t0) (by simp [results,Tryz.results84,go_sem,rrVal,vval,RR.bad,v0,t0,DVal.num,VT.vb,VT.vi]) rfl ⟨t0,rfl,GotV.zero _ _,e2⟩
 ·rw [if_neg hlt]
  have hge:¬ (b.length:Int)-(a:Int)<(n:Int):=by omega
  have hc1:(a:Int)≤(a:Int)+(n:Int):=by omega
  have hc2:(a:Int)+(n:Int)≤(cb:Int):=by omega
  have HL:Hid (((b.drop a).take n).length=n):=by show _=_;simp;omega
  have hE:=OwnL.empty (f:=vu8) (e:=5) e1;rw [hs0] at hE;have HE:=lhd hE;clear hE;have HB:Hid ((([]:List UInt8).length+((b.drop a).take n).length)*1≤140737488355328):=by show _≤_;rw [HL.out];simp;omega
  have x2:=Ext_alloc (.cells #[] 5) e1;have BR2:=lhd (BR.ext (Ext_alloc (.cells #[] 5) (Ext.refl _)))
  have HF:Hid (∀ (v4:Value) (w4:World),OwnL vu8 5 w w4 v4 ((b.drop a).take n)→v4.ownBlock=some (w.heap.size+1)∨v4.ownBlock=some (W0.alloc (.cells #[] 5)).heap.size→Ext w w4→GotV w (put3 w4 w.heap.size 0 (.mk 0 ((b.drop a).take n) v4 [] (.slice none 0 0))) (.mk 0 ((b.drop a).take n) v4 [] (.slice none 0 0)) (.mk 0 ((b.drop a).take n) [])∧Ext w (put3 w4 w.heap.size 0 (.mk 0 ((b.drop a).take n) v4 [] (.slice none 0 0)))):=by
   intro v4 w4 ho hv e;refine val_out (Nat.le_refl _) e ⟨?_,.mk ho ⟨by simp [VT.its],.inl ⟨rfl,rfl⟩⟩ (fun x hx=>by simp [VT.its] at hx),?_⟩ ?_
   ·show DVal.mk 0 _ (valsOf [])=_;rfl
   ·rw [VT.vals_eq];simp [Far,VT.vb,VT.vi,VT.its,Value.ownBlock]
   ·intro u hu g hg
    rw [VT.vals_eq] at hu;simp [VT.vb,VT.vi,VT.its] at hu
    rcases hu with rfl | rfl
    ·rcases hv with hv | hv<;>rw [hv] at hg<;>injection hg with hg
     ·omega
     ·rw [World.size_alloc] at hg;omega
    ·cases hg
  have key:∀ (A':Option Addr) (c':Nat),(0<((b.drop a).take n).length→∃ ad,A'=some ad∧∀ j u,(((b.drop a).take n).map vu8)[j]?=some u→(W0.alloc (.cells #[] 5)).cell? (ad.add j)=some u)→True:=fun _ _ _=>trivial
  have HS:Hid (0<n→∃ b' off,Ab=some ⟨b',off,none⟩∧(0<((b.drop a).take n).length→∃ ad,some (⟨b',off+a,none⟩:Addr)=some ad∧∀ j u,(((b.drop a).take n).map vu8)[j]?=some u→(W0.alloc (.cells #[] 5)).cell? (ad.add j)=some u)):=fun h=>by
   obtain ⟨b',off,hAb,_,_⟩:=hb.1.2.2 (by omega);refine ⟨b',off,hAb,?_⟩;subst hAb;exact Rd.src (rd_sub hb (i:=a) (n:=n) (by omega) (by omega)) x2
  generalize (b.drop a).take n=q at *;clear key;have HNE:Hid ((Value.slice (some ⟨w.heap.size+1,0,none⟩) 0 0).ownBlock≠some w.heap.size):=fun hh=>by injection hh with hh;simp at hh
  have HL3:Hid (([]++q:List UInt8).length≤140737488351232):=by show _≤_;rw [List.nil_append,HL.out];omega
  rcases Nat.eq_zero_or_pos n with hn0 | hn0
  ·subst hn0
   have HLQ:Hid (0=q.length):=HL.out.symm
   have HSRC:∀ {A':Option Addr} {W:World},0<q.length→∃ ad,A'=some ad∧∀ j u,(q.map vu8)[j]?=some u→W.cell? (ad.add j)=some u:=fun h=>by have:=HL.out;omega
   clear HS HL;rcases Ab with _ | ad
   ·go_enter Tryz.func84,Tryz.ntmps84
    go_wp2_with (first
     | (at_builtin;rw [← HW0.out];refine wpList_appL rfl (.tmp 17) (.tmp 23) _ rfl E_u8 (by omega) w _ vu8 (fun _=>rfl) (.slice (some ⟨w.heap.size+1,0,none⟩) 0 0) rfl _ _ _ rfl [] q HE.out x2 HLQ.out HSRC HB.out ?_;intro v4 w4 ho4 he4 hv4 hg4;obtain ⟨A4,c4,hvv,_⟩:=OwnL.rd ho4 HL3.out;rw [List.nil_append] at hvv ho4;rw [← HLQ.out] at hvv;subst hvv;have HB4:=BR2.out.moved hg4 HNE.out;have z0:_=some (Value.int .i64 0):=HB4.cell 0;have z1:_=some (Value.slice none 0 0):=HB4.cell 1;have z2:_=some (Value.slice none 0 0):=HB4.cell 2;have y0:=HB4.free 0;have y1:=HB4.free 1;have y2:=HB4.free 2;have HG:=HF.out _ _ ho4 hv4 he4))
    exact bodyPost_ret (v:=.tuple #[.agg #[.int .i64 0,.slice A4 0 c4,.slice none 0 0],.int .i64 ((a:Int)),.int .i64 0]) (by simp [results,Tryz.results84,go_sem,z0,z1,z2,y0,y1,y2]) rfl ⟨_,by first | rfl | simp [rrVal,vval,DVal.num,VT.vb,VT.vi],HG.1,HG.2⟩
   ·by_cases hca:cb=a
    ·go_enter Tryz.func84,Tryz.ntmps84
     go_wp2_with (first
      | (at_builtin;rw [← HW0.out];refine wpList_appL rfl (.tmp 17) (.tmp 23) _ rfl E_u8 (by omega) w _ vu8 (fun _=>rfl) (.slice (some ⟨w.heap.size+1,0,none⟩) 0 0) rfl _ _ _ rfl [] q HE.out x2 HLQ.out HSRC HB.out ?_;intro v4 w4 ho4 he4 hv4 hg4;obtain ⟨A4,c4,hvv,_⟩:=OwnL.rd ho4 HL3.out;rw [List.nil_append] at hvv ho4;rw [← HLQ.out] at hvv;subst hvv;have HB4:=BR2.out.moved hg4 HNE.out;have z0:_=some (Value.int .i64 0):=HB4.cell 0;have z1:_=some (Value.slice none 0 0):=HB4.cell 1;have z2:_=some (Value.slice none 0 0):=HB4.cell 2;have y0:=HB4.free 0;have y1:=HB4.free 1;have y2:=HB4.free 2;have HG:=HF.out _ _ ho4 hv4 he4))
     exact bodyPost_ret (v:=.tuple #[.agg #[.int .i64 0,.slice A4 0 c4,.slice none 0 0],.int .i64 ((a:Int)),.int .i64 0]) (by simp [results,Tryz.results84,go_sem,z0,z1,z2,y0,y1,y2]) rfl ⟨_,by first | rfl | simp [rrVal,vval,DVal.num,VT.vb,VT.vi],HG.1,HG.2⟩
    ·go_enter Tryz.func84,Tryz.ntmps84
     go_wp2_with (first
      | (at_builtin;rw [← HW0.out];refine wpList_appL rfl (.tmp 17) (.tmp 23) _ rfl E_u8 (by omega) w _ vu8 (fun _=>rfl) (.slice (some ⟨w.heap.size+1,0,none⟩) 0 0) rfl _ _ _ rfl [] q HE.out x2 HLQ.out HSRC HB.out ?_;intro v4 w4 ho4 he4 hv4 hg4;obtain ⟨A4,c4,hvv,_⟩:=OwnL.rd ho4 HL3.out;rw [List.nil_append] at hvv ho4;rw [← HLQ.out] at hvv;subst hvv;have HB4:=BR2.out.moved hg4 HNE.out;have z0:_=some (Value.int .i64 0):=HB4.cell 0;have z1:_=some (Value.slice none 0 0):=HB4.cell 1;have z2:_=some (Value.slice none 0 0):=HB4.cell 2;have y0:=HB4.free 0;have y1:=HB4.free 1;have y2:=HB4.free 2;have HG:=HF.out _ _ ho4 hv4 he4))
     exact bodyPost_ret (v:=.tuple #[.agg #[.int .i64 0,.slice A4 0 c4,.slice none 0 0],.int .i64 ((a:Int)),.int .i64 0]) (by simp [results,Tryz.results84,go_sem,z0,z1,z2,y0,y1,y2]) rfl ⟨_,by first | rfl | simp [rrVal,vval,DVal.num,VT.vb,VT.vi],HG.1,HG.2⟩
  ·obtain ⟨b',off,hAb,hsrc⟩:=HS.out hn0
   subst hAb;have HLQ:Hid (n=q.length):=HL.out.symm
   have HSRC:=hsrc;have hca:¬ cb=a:=by omega
   clear HS HL hsrc
   ·go_enter Tryz.func84,Tryz.ntmps84
    go_wp2_with (first
     | (at_builtin;rw [← HW0.out];refine wpList_appL rfl (.tmp 17) (.tmp 23) _ rfl E_u8 (by omega) w _ vu8 (fun _=>rfl) (.slice (some ⟨w.heap.size+1,0,none⟩) 0 0) rfl _ _ _ rfl [] q HE.out x2 (by have:=HLQ.out;omega) HSRC HB.out ?_;intro v4 w4 ho4 he4 hv4 hg4;obtain ⟨A4,c4,hvv,_⟩:=OwnL.rd ho4 HL3.out;rw [List.nil_append] at hvv ho4;rw [← HLQ.out] at hvv;subst hvv;have HB4:=BR2.out.moved hg4 HNE.out;have z0:_=some (Value.int .i64 0):=HB4.cell 0;have z1:_=some (Value.slice none 0 0):=HB4.cell 1;have z2:_=some (Value.slice none 0 0):=HB4.cell 2;have y0:=HB4.free 0;have y1:=HB4.free 1;have y2:=HB4.free 2;have HG:=HF.out _ _ ho4 hv4 he4))
    exact bodyPost_ret (v:=.tuple #[.agg #[.int .i64 0,.slice A4 n c4,.slice none 0 0],.int .i64 ((a:Int)+(n:Int)),.int .i64 0]) (by simp [results,Tryz.results84,go_sem,z0,z1,z2,y0,y1,y2]) rfl ⟨_,by first | rfl | simp [rrVal,vval,DVal.num,VT.vb,VT.vi],HG.1,HG.2⟩
theorem u8_eq (x y:UInt8):((x.toNat:Int)==(y.toNat:Int))=decide (x=y):=by
 by_cases h:x=y
 ·subst h;simp
 ·rw [decide_eq_false h]
  have:x.toNat≠y.toNat:=fun e=>h (UInt8.toNat_inj.1 e)
  simp;omega
theorem u8_ne (x y:UInt8):((x.toNat:Int) !=(y.toNat:Int))=decide (x≠y):=by
 rw [bne,u8_eq];simp
def zeroV:Value:=.agg #[.int .i64 0,.slice none 0 0,.slice none 0 0]
def badRes (next code:Nat):Value:=.tuple #[zeroV,.int .i64 (next:Int),.int .i64 (code:Int)]
theorem RdOut.bad {w w':World} {next code:Nat} (e:Ext w w'):RdOut (.bad next code) w (.returned (badRes next code)) w':=⟨t0,rfl,GotV.zero _ _,e⟩
theorem constF_v (b:List UInt8) (a:Nat):∀ (c:List UInt8) (i:Nat),constF b a c i=⟨v0,(constF b a c i).next,(constF b a c i).code⟩
 | [],i=>by rw [constF]
 | c::t,i=>by
  rw [constF]
  split
  ·rfl
  ·split
   ·exact constF_v b a t (i+1)
   ·rfl
theorem sConst_c (r:DRule) (Rb:Option Addr) (rb:Nat) (Rn:Option Addr) (rn:Nat) (Rt:Option Addr) (rt:Nat) (Rk:Option Addr) (rk:Nat) (Ab:Option Addr) (b:List UInt8) (cb a:Nat) (ha:a≤b.length) (w:World) (hS:RdS w r Rb rb Rn rn Rt rt Rk rk) (hb:Bs w Ab b cb) :
 Gives Tryz.prog 83 #[vrule r (.slice Rb r.bytes.length rb) (.slice Rn r.names.length rn) (.slice Rt r.tags.length rt) (.slice Rk r.kids.length rk),.slice Ab b.length cb,.int .i64 (a:Int)] w (badRes (constF b a r.bytes 0).next (constF b a r.bytes 0).code):=by
 have hbl:=hb.len;have hrl:=hS.b.len;obtain ⟨W0,HW0,B1,B2,e0,hsA⟩:=boxes2' w #[.string r.nm,.int .i64 r.kind,.int .i64 r.size,.bool r.little,.slice Rb r.bytes.length rb,.slice Rn r.names.length rn,.slice Rt r.tags.length rt,.slice Rk r.kids.length rk] #[.int .i64 0,.slice none 0 0,.slice none 0 0] 96 46;have k4:∀ w',Ext W0 w'→_=some (Value.slice Rb r.bytes.length rb):=B1.at 4
 have HB2:=lhd B2;have HSZ:=lhd hsA;have HSB:=lhd hS.b;clear B1 B2 hS hsA;unfold vrule;obtain ⟨R,hR⟩:∃ R,constF b a r.bytes 0=R:=⟨_,rfl⟩;rw [hR];have HR0:Hid (constF b a (r.bytes.drop 0) 0=R):=by rw [List.drop_zero];exact hR
 clear hR;generalize r.bytes=bs at *;go_enter Tryz.func83,Tryz.ntmps83;go_wp2;rw [← HW0.out];go_loopw [9] (fun ix wr=>∃ k:Nat,k≤bs.length∧a+k≤b.length∧ix=.int .i64 k∧Hid (constF b a (bs.drop k) k=R)∧Ext W0 wr) (fun ix _=>bs.length-(intOf ix).toNat)
 case atStart=>exact ⟨0,by omega,by omega,rfl,HR0,Ext.refl _⟩
 case round =>
  clear HR0;obtain ⟨k,hk,hak,rfl,hst,he⟩:=hrel;have hbx:=HB2.out.ext he;have r2:=hbx.cell;have f2:=hbx.free;have hE:=e0.trans he;have hput:Hid (Ext w (put3 wr (w.heap.size+1) 0 t0)):=hE.grown (grown_put3 wr (w.heap.size+1) 0 t0) (fun g hg=>by injection hg with hg;omega)
  by_cases hlt:k<bs.length
  ·have hstep:constF b a (bs.drop k) k=match b[a+k]? with
    | none=>RR.bad a 1
    | some x=>if x=bs[k] then constF b a (bs.drop (k+1)) (k+1) else RR.bad (a+k) 2:=by
    rw [List.drop_eq_getElem_cons hlt,constF];rfl
   by_cases hge:b.length≤a+k
   ·rw [List.getElem?_eq_none hge] at hstep
    have hRR:R=RR.bad a 1:=by rw [← hst.out,hstep]
    subst hRR;clear hst hstep;go_wp2;exact bodyPost_ret (v:=badRes a 1) (by simp [results,Tryz.results83,go_sem,r2,f2,badRes,zeroV]) rfl ⟨rfl,hput.out⟩
   ·rw [List.getElem?_eq_getElem (show a+k<b.length by omega)] at hstep
    dsimp only at hstep;obtain ⟨b1,o1,rfl,hb1,hc1⟩:=hb.at (a+k) (by omega);obtain ⟨b2,o2,hRb,hb2,hc2⟩:=HSB.out.at k hlt;subst hRb;have q1:=fun w' (e:Ext wr w')=>hc1 w' (hE.trans e)
    have q2:=fun w' (e:Ext wr w')=>hc2 w' (hE.trans e)
    have hne:=u8_ne b[a+k] bs[k];have HST:=lhd hstep;have hlt1:(a:Int)+(k:Int)<(b.length:Int):=by omega
    generalize b[a+k]=x at *;generalize bs[k]=y at *;simp only [vu8] at q1 q2;clear hc1 hc2 hstep
    by_cases hxy:x=y
    ·rw [if_pos hxy] at HST
     have HN:Hid (constF b a (bs.drop (k+1)) (k+1)=R):=by show _=_;rw [← HST.out,hst.out]
     subst hxy;have hne':((x.toNat:Int) !=(x.toNat:Int))=false:=by simp
     clear hne hst HST;go_wp2_with fail;refine wp_region_quiet_below (by kernel_rfl) (by kernel_rfl) ?_;repeat (go_big_quiet_step (fail))
     refine wpQuiet_nil (qnl ?_);intro w1 ew1;go_wp2;go_roundw
     case rel=>exact ⟨k+1,by omega,by omega,by go_num,HN,he.trans ew1⟩
     case measure=>simp [intOf];omega
    ·rw [if_neg hxy] at HST
     have hRR:R=RR.bad (a+k) 2:=by rw [← HST.out,hst.out]
     subst hRR;rw [decide_eq_true hxy] at hne;clear hst HST;go_wp2_with fail;refine wp_region_quiet_below (by kernel_rfl) (by kernel_rfl) ?_;repeat (go_big_quiet_step (fail))
     refine wpQuiet_nil (qnl ?_);intro w1 ew1;have hbx1:=hbx.ext ew1;have r3:=hbx1.cell;have f3:=hbx1.free;have hput1:Hid (Ext w (put3 w1 (w.heap.size+1) 0 t0)):=(hE.trans ew1).grown (grown_put3 w1 (w.heap.size+1) 0 t0) (fun g hg=>by injection hg with hg;omega)
     go_wp2;exact bodyPost_ret (v:=.tuple #[zeroV,.int .i64 ((a:Int)+(k:Int)),.int .i64 2]) (by simp [results,Tryz.results83,go_sem,r3,f3,zeroV]) rfl ⟨by simp [badRes,RR.bad],hput1.out⟩
  ·obtain rfl:k=bs.length:=by omega
   have hRR:R=⟨v0,a+bs.length,0⟩:=by rw [← hst.out,List.drop_length,constF]
   subst hRR;clear hst;have SZ:Hid (∀ w',Ext wr w'→Box w' (w.heap.size+1) #[.int .i64 0,.slice none 0 0,.slice none 0 0] 46∧Ext w (put3 w' (w.heap.size+1) 0 t0)):=fun w' e=>⟨hbx.ext e,(hE.trans e).grown (grown_put3 w' (w.heap.size+1) 0 t0) (fun g hg=>by injection hg with hg;omega)⟩
   go_wp2_with fail;go_region
   all_goals
    go_wp2_with fail;refine bodyPost_ret (v:=.tuple #[zeroV,.int .i64 ((a:Int)+(bs.length:Int)),.int .i64 0]) (by simp [results,Tryz.results83,go_sem,r2,f2,zeroV]) rfl ⟨by simp [badRes],?_⟩;exact Ext_drew hput.out
end Go.Proofs.YtpmcofmdjckijaaGreat
namespace Go.Proofs.YtpmcofmdjckijaaGreat
theorem itemsF_congr {rd rd':Nat→Nat→RR} {r:DRule} {n:Int} {M:Nat} (h:∀ k,k<M→∀ a,rd (kidV r n k) a=rd' (kidV r n k) a):∀ (m k a:Nat) (acc:List DVal),k+m≤M→itemsF rd r n m k a acc=itemsF rd' r n m k a acc
 | 0,_,_,_,_=>rfl
 | m+1,k,a,acc,hk=>by
  rw [itemsF,itemsF,h k (by omega)]
  split
  ·exact itemsF_congr h m (k+1) _ _ (by omega)
  ·rfl
theorem kid_below {ds:List DRule} (h:descOk ds=true) (i:Nat) (hi:i<ds.length) {n:Int} {k:Nat} (hat:ItemAt ds[i] n k):kidV ds[i] n k<i:=by
 have hl:=kd_lt h i hi;rcases hat with ⟨e,c⟩ | ⟨e,c,_⟩ | ⟨e,_,_,c⟩ | ⟨e,_,c⟩
 ·rw [kidV5 e];exact hl 1 c
 ·rw [kidV6 e];exact hl k c
 ·rw [kidV7 e];exact hl _ c
 ·rw [kidV8 e];exact hl 0 c
structure ReadsOk (r:DRule) (ok:Int→Nat→Prop):Prop where
 arr:r.kind=5→∀ k,ok 0 k
 seq:r.kind=6→∀ k,k<r.kids.length→ok 0 k
 cho:r.kind=7→∀ n,tagN r.tags n<r.tags.length→ok n 0
 opt:r.kind=8∨r.kind=9→ok 0 0
theorem readsOk {ds:List DRule} (h:descOk ds=true) (i:Nat) (hi:i<ds.length):ReadsOk ds[i] (ItemAt ds[i]):=by
 obtain ⟨k4,k5,k6,k7,k8,_,_⟩:=kids_len h i hi;refine ⟨fun e k=>.inl ⟨e,by have:=k5 e;omega⟩,fun e k hk=>.inr (.inl ⟨e,hk,by have:=(k6 e).1;omega⟩),fun e n hn=>.inr (.inr (.inl ⟨e,rfl,hn,by have:=(k7 e).1;omega⟩)),fun e=>.inr (.inr (.inr ⟨e,rfl,by have:=k8 e;omega⟩))⟩
theorem readR_congr {ds:List DRule} {r:DRule} {rd rd':Nat→Nat→RR} (hk:1≤r.kind∧r.kind≤10) (h:ReadsOk r (fun n k=>∀ a,rd (kidV r n k) a=rd' (kidV r n k) a)) (b:List UInt8) (a:Nat):readR ds rd r b a=readR ds rd' r b a:=by
 unfold readR
 by_cases c1:r.kind=1
 ·rw [if_pos c1,if_pos c1]
 rw [if_neg c1,if_neg c1]
 by_cases c2:r.kind=2
 ·rw [if_pos c2,if_pos c2]
 rw [if_neg c2,if_neg c2]
 by_cases c3:r.kind=3
 ·rw [if_pos c3,if_pos c3]
 rw [if_neg c3,if_neg c3]
 by_cases c10:r.kind=10
 ·rw [if_pos c10,if_pos c10]
 rw [if_neg c10,if_neg c10]
 by_cases c6:r.kind=6
 ·rw [if_pos c6,if_pos c6]
  exact itemsF_congr (M:=r.kids.length) (fun k hk a=>h.seq c6 k hk a) _ _ _ _ (by omega)
 rw [if_neg c6,if_neg c6]
 by_cases c7:r.kind=7
 ·rw [if_pos c7,if_pos c7]
  unfold choiceF;cases intAt (ds.getD (kd r 0) noRule) b a with
  | none=>rfl
  | some n =>
   dsimp only
   by_cases ht:tagN r.tags (n:Int)<r.tags.length
   ·rw [if_pos ht,if_pos ht]
    have hc:itemsF rd r n 1 0 (a+(ds.getD (kd r 0) noRule).size.toNat) []=itemsF rd' r n 1 0 (a+(ds.getD (kd r 0) noRule).size.toNat) [] :=
     itemsF_congr (M := 1) (fun k hk a => by obtain rfl : k = 0 := by omega
                                             exact h.cho c7 n ht a) _ _ _ _ (by omega)
    rw [hc]
   ·rw [if_neg ht,if_neg ht]
 rw [if_neg c7,if_neg c7]
 by_cases c8:r.kind=8
 ·rw [if_pos c8,if_pos c8]
  unfold optionF;cases b[a]? with
  | none=>rfl
  | some x =>
   dsimp only
   by_cases hx:1<x.toNat
   ·rw [if_pos hx,if_pos hx]
   ·rw [if_neg hx,if_neg hx]
    exact itemsF_congr (M := 1) (fun k hk a => by obtain rfl : k = 0 := by omega
                                                  exact h.opt (.inl c8) a) _ _ _ _ (by omega)
 rw [if_neg c8,if_neg c8]
 by_cases c9:r.kind=9
 ·rw [if_pos c9,if_pos c9]
  unfold checkedF
  have hc:itemsF rd r 0 1 0 a []=itemsF rd' r 0 1 0 a [] :=
   itemsF_congr (M := 1) (fun k hk a => by obtain rfl : k = 0 := by omega
                                           exact h.opt (.inr c9) a) _ _ _ _ (by omega)
  rw [hc]
 rw [if_neg c9,if_neg c9];cases intAt (ds.getD (kd r 0) noRule) b a with
 | none=>rfl
 | some n =>
  dsimp only
  by_cases c4:r.kind=4
  ·rw [if_pos c4,if_pos c4]
  rw [if_neg c4,if_neg c4]
  by_cases hn:40<n
  ·rw [if_pos hn,if_pos hn]
  ·rw [if_neg hn,if_neg hn]
   exact itemsF_congr (M:=n) (fun k hk a=>h.arr (by omega) k a) _ _ _ _ (by omega)
theorem rdF_fuel {ds:List DRule} (h:descOk ds=true) (b:List UInt8):∀ f f' i a,i<f→i<f'→i<ds.length→rdF ds b f i a=rdF ds b f' i a:=by
 intro f
 induction f with
 | zero=>intro f' i a hf;omega
 | succ f ih =>
  intro f' i a hf hf' hi;obtain ⟨g,rfl⟩:∃ g,f'=g+1:=⟨f'-1,by omega⟩;have hg:ds.getD i noRule=ds[i]:=by simp [hi]
  rw [rdF,rdF,hg];have hR:=readsOk h i hi
  have key:∀ n k,ItemAt ds[i] n k→∀ a,rdF ds b f (kidV ds[i] n k) a=rdF ds b g (kidV ds[i] n k) a:=fun n k hat a=>by
   have:=kid_below h i hi hat;exact ih g _ a (by omega) (by omega) (by omega)
  exact readR_congr (ruleFacts h i hi).kind ⟨fun e k=>key _ _ (hR.arr e k),fun e k hk=>key _ _ (hR.seq e k hk),fun e n hn=>key _ _ (hR.cho e n hn),fun e=>key _ _ (hR.opt e)⟩ b a
theorem readV_step {ds:List DRule} (h:descOk ds=true) (b:List UInt8) (i a:Nat) (hi:i<ds.length):readV ds b i a=readR ds (readV ds b) ds[i] b a:=by
 have hg:ds.getD i noRule=ds[i]:=by simp [hi]
 show rdF ds b (i+1) i a=_
 rw [rdF,hg];have hR:=readsOk h i hi
 have key:∀ n k,ItemAt ds[i] n k→∀ a,rdF ds b i (kidV ds[i] n k) a=readV ds b (kidV ds[i] n k) a:=fun n k hat a=>by
  have:=kid_below h i hi hat;exact rdF_fuel h b _ _ _ a (by omega) (by omega) (by omega)
 exact readR_congr (ruleFacts h i hi).kind ⟨fun e k=>key _ _ (hR.arr e k),fun e k hk=>key _ _ (hR.seq e k hk),fun e n hn=>key _ _ (hR.cho e n hn),fun e=>key _ _ (hR.opt e)⟩ b a
theorem itemsF_next {rd:Nat→Nat→RR} {L:Nat} (h:∀ i a,a≤L→(rd i a).next≤L) (r:DRule) (n:Int):∀ (m k a:Nat) (acc:List DVal),a≤L→(itemsF rd r n m k a acc).next≤L
 | 0,_,_,_,ha=>ha
 | m+1,k,a,acc,ha=>by
  rw [itemsF]
  split
  ·exact itemsF_next h r n m (k+1) _ _ (h _ _ ha)
  ·exact h _ _ ha
theorem constF_next (b:List UInt8) (a:Nat):∀ (c:List UInt8) (i:Nat),a+i≤b.length→(constF b a c i).next≤b.length
 | [],i,h=>by rw [constF];exact h
 | c::t,i,h=>by
  rw [constF]
  split
  ·show a≤_;omega
  ·rename_i x hx
   have hlt:=(List.getElem?_eq_some_iff.1 hx).1
   split
   ·exact constF_next b a t (i+1) (by omega)
   ·exact h
theorem untilL_le (t:UInt8):∀ (n:Nat) (l:List UInt8) (q:List UInt8 × Nat),l.length≤n→untilL t l=some q→q.2≤l.length∧q.1.length<l.length
 | 0,l,q,hn,h=>by
  obtain rfl:l=[]:=List.eq_nil_of_length_eq_zero (by omega)
  rw [untilL] at h;cases h
 | n+1,[],q,hn,h=>by rw [untilL] at h;cases h
 | n+1,[x],q,hn,h=>by
  rw [untilL] at h
  split at h
  ·injection h with h;subst h;simp
  ·cases h
 | n+1,x::y::l,q,hn,h=>by
  rw [untilL] at h;simp only [List.length_cons] at hn
  split at h
  ·injection h with h;subst h;simp
  ·split at h
   ·rw [Option.map_eq_some_iff] at h
    obtain ⟨p,hp,rfl⟩:=h
    have:=untilL_le t n l p (by omega) hp;simp;omega
   ·rw [Option.map_eq_some_iff] at h
    obtain ⟨p,hp,rfl⟩:=h
    have:=untilL_le t n (y::l) p (by simp;omega) hp;simp at this ⊢;omega
theorem bytesF_next (b:List UInt8) (a n:Nat) (ha:a≤b.length):(bytesF b a n).next≤b.length:=by
 unfold bytesF
 split
 ·exact ha
 ·show a+n≤_;omega
theorem intAt_le {r:DRule} {b:List UInt8} {a n:Nat} (ha:a≤b.length) (h:intAt r b a=some n):a+r.size.toNat≤b.length:=by
 unfold intAt at h
 split at h
 ·cases h
 ·omega
theorem readR_next {ds:List DRule} {r:DRule} {rd:Nat→Nat→RR} {b:List UInt8} (h:∀ i a,a≤b.length→(rd i a).next≤b.length) (a:Nat) (ha:a≤b.length):(readR ds rd r b a).next≤b.length:=by
 have hI:=fun n m k a acc ha=>itemsF_next h r n m k a acc ha
 unfold readR
 by_cases c1:r.kind=1
 ·rw [if_pos c1]
  cases hn:intAt r b a with
  | none=>exact ha
  | some n=>exact intAt_le ha hn
 rw [if_neg c1]
 by_cases c2:r.kind=2
 ·rw [if_pos c2];exact constF_next b a _ 0 (by omega)
 rw [if_neg c2]
 by_cases c3:r.kind=3
 ·rw [if_pos c3];exact bytesF_next b a _ ha
 rw [if_neg c3]
 by_cases c10:r.kind=10
 ·rw [if_pos c10]
  cases hq:untilL (r.bytes.getD 0 0) (b.drop a) with
  | none=>exact ha
  | some q =>
   have:=untilL_le _ _ _ q (Nat.le_refl _) hq;rw [List.length_drop] at this;show a+q.2≤_;omega
 rw [if_neg c10]
 by_cases c6:r.kind=6
 ·rw [if_pos c6];exact hI _ _ _ _ _ ha
 rw [if_neg c6]
 by_cases c7:r.kind=7
 ·rw [if_pos c7]
  unfold choiceF;cases hn:intAt (ds.getD (kd r 0) noRule) b a with
  | none=>exact ha
  | some n =>
   have h2:=intAt_le ha hn;dsimp only
   split
   ·split
    ·exact hI _ _ _ _ _ h2
    ·exact hI _ _ _ _ _ h2
   ·exact ha
 rw [if_neg c7]
 by_cases c8:r.kind=8
 ·rw [if_pos c8]
  unfold optionF;cases hx:b[a]? with
  | none=>exact ha
  | some x =>
   have hlt:=(List.getElem?_eq_some_iff.1 hx).1;dsimp only
   split
   ·exact ha
   ·exact hI _ _ _ _ _ (by omega)
 rw [if_neg c8]
 by_cases c9:r.kind=9
 ·rw [if_pos c9]
  unfold checkedF
  split
  ·cases hx:b[(itemsF rd r 0 1 0 a []).next]? with
   | none=>exact hI _ _ _ _ _ ha
   | some x =>
    have hlt:=(List.getElem?_eq_some_iff.1 hx).1;dsimp only
    split
    ·show _+1≤_;omega
    ·exact hI _ _ _ _ _ ha
  ·exact hI _ _ _ _ _ ha
 rw [if_neg c9];cases hn:intAt (ds.getD (kd r 0) noRule) b a with
 | none=>exact ha
 | some n =>
  have h2:=intAt_le ha hn;dsimp only
  split
  ·exact bytesF_next b _ _ h2
  split
  ·exact ha
  ·exact hI _ _ _ _ _ h2
theorem rdF_next {ds:List DRule} {b:List UInt8}:∀ f i a,a≤b.length→(rdF ds b f i a).next≤b.length
 | 0,_,_,ha=>ha
 | f+1,i,a,ha=>by rw [rdF];exact readR_next (fun i a ha=>rdF_next f i a ha) a ha
theorem readV_next {ds:List DRule} {b:List UInt8} {i a:Nat} (ha:a≤b.length):(readV ds b i a).next≤b.length:=rdF_next _ _ _ ha
theorem itemsF_ge {rd:Nat→Nat→RR} (h:∀ i a,a≤(rd i a).next) (r:DRule) (n:Int):∀ (m k a:Nat) (acc:List DVal),a≤(itemsF rd r n m k a acc).next
 | 0,_,_,_=>Nat.le_refl _
 | m+1,k,a,acc=>by
  rw [itemsF]
  split
  ·exact Nat.le_trans (h _ a) (itemsF_ge h r n m (k+1) _ _)
  ·exact h _ _
theorem constF_ge (b:List UInt8) (a:Nat):∀ (c:List UInt8) (i:Nat),a≤(constF b a c i).next
 | [],i=>by rw [constF];exact Nat.le_add_right _ _
 | c::t,i=>by
  rw [constF]
  split
  ·exact Nat.le_refl _
  ·split
   ·exact constF_ge b a t (i+1)
   ·exact Nat.le_add_right _ _
theorem readR_ge {ds:List DRule} {r:DRule} {rd:Nat→Nat→RR} {b:List UInt8} (h:∀ i a,a≤(rd i a).next) (a:Nat):a≤(readR ds rd r b a).next:=by
 have hI:=fun n m k a acc=>itemsF_ge h r n m k a acc
 have hB:∀ a n,a≤(bytesF b a n).next:=fun a n=>by
  unfold bytesF;split
  ·exact Nat.le_refl _
  ·exact Nat.le_add_right _ _
 unfold readR
 by_cases c1:r.kind=1
 ·rw [if_pos c1]
  cases intAt r b a with
  | none=>exact Nat.le_refl _
  | some n=>exact Nat.le_add_right _ _
 rw [if_neg c1]
 by_cases c2:r.kind=2
 ·rw [if_pos c2];exact constF_ge b a _ 0
 rw [if_neg c2]
 by_cases c3:r.kind=3
 ·rw [if_pos c3];exact hB _ _
 rw [if_neg c3]
 by_cases c10:r.kind=10
 ·rw [if_pos c10]
  cases untilL (r.bytes.getD 0 0) (b.drop a) with
  | none=>exact Nat.le_refl _
  | some q=>exact Nat.le_add_right _ _
 rw [if_neg c10]
 by_cases c6:r.kind=6
 ·rw [if_pos c6];exact hI _ _ _ _ _
 rw [if_neg c6]
 by_cases c7:r.kind=7
 ·rw [if_pos c7]
  unfold choiceF;cases intAt (ds.getD (kd r 0) noRule) b a with
  | none=>exact Nat.le_refl _
  | some n =>
   have h2:=hI n 1 0 (a+(ds.getD (kd r 0) noRule).size.toNat) [];dsimp only
   split
   ·split
    ·dsimp only;omega
    ·omega
   ·exact Nat.le_refl _
 rw [if_neg c7]
 by_cases c8:r.kind=8
 ·rw [if_pos c8]
  unfold optionF;cases b[a]? with
  | none=>exact Nat.le_refl _
  | some x =>
   dsimp only
   split
   ·exact Nat.le_refl _
   ·have:=hI 0 x.toNat 0 (a+1) [];omega
 rw [if_neg c8]
 by_cases c9:r.kind=9
 ·rw [if_pos c9]
  unfold checkedF;have h2:=hI 0 1 0 a []
  split
  ·cases b[(itemsF rd r 0 1 0 a []).next]? with
   | none=>exact h2
   | some x =>
    dsimp only
    split
    ·dsimp only;omega
    ·exact h2
  ·exact h2
 rw [if_neg c9];cases intAt (ds.getD (kd r 0) noRule) b a with
 | none=>exact Nat.le_refl _
 | some n =>
  have h2:=hB (a+(ds.getD (kd r 0) noRule).size.toNat) n;have h3:=hI 0 n 0 (a+(ds.getD (kd r 0) noRule).size.toNat) [];dsimp only
  split
  ·omega
  split
  ·exact Nat.le_refl _
  ·omega
theorem rdF_ge {ds:List DRule} {b:List UInt8}:∀ f i a,a≤(rdF ds b f i a).next
 | 0,_,_=>Nat.le_refl _
 | f+1,i,a=>by rw [rdF];exact readR_ge (fun i a=>rdF_ge f i a) a
theorem readV_ge {ds:List DRule} {b:List UInt8} {i a:Nat}:a≤(readV ds b i a).next:=rdF_ge _ _ _
end Go.Proofs.YtpmcofmdjckijaaGreat
namespace Go.Proofs.YtpmcofmdjckijaaGreat
open Go.RowKit Go.Sort
def untilRes (o:Option (List UInt8 × Nat)) (a:Nat):List UInt8 × Nat × Bool:=match o with
 | some q=>(q.1,a+q.2,true)
 | none=>([],a,false)
theorem sUntil_c (Ab:Option Addr) (b:List UInt8) (cb a:Nat) (t:UInt8) (ha:a≤b.length) (w:World) (hb:Bs w Ab b cb) :
 Calls Tryz.prog 85 #[.slice Ab b.length cb,.int .i64 (a:Int),.int .u8 (t.toNat:Int)] w fun e w'=>∃ v,e=.returned (.tuple #[v,.int .i64 ((untilRes (untilL t (b.drop a)) a).2.1:Int),.bool (untilRes (untilL t (b.drop a)) a).2.2])∧OwnL vu8 5 w w' v (untilRes (untilL t (b.drop a)) a).1∧Ext w w':=by
 have hbl:=hb.len;have CI:=lhd (fun (x lo hi:Int) w'=>l1In_c x lo hi w');obtain ⟨O,hO⟩:∃ O,untilRes (untilL t (b.drop a)) a=O:=⟨_,rfl⟩;rw [hO];have HE:=OwnL.empty (f:=vu8) (e:=5) (Ext.refl w);have HE:=lhd HE;have x0:=Ext_alloc (.cells #[] 5) (Ext.refl w)
 have H0:Hid (untilRes ((untilL t (b.drop a)).map fun q=>([]++q.1,q.2+(a-a))) a=O):=by
  show _=_
  rw [← hO];congr 1;cases untilL t (b.drop a) with
  | none=>rfl
  | some q=>simp
 clear hO;have hin:(decide ((0:Int)≤(a:Int))&&decide ((a:Int)≤(b.length:Int)))=true:=by simp;omega
 go_enter Tryz.func85,Tryz.ntmps85;go_wp2;go_loopw [9,10] (fun o' ix wr=>∃ (o:Value) (k:Nat) (l:List UInt8),o=o'∧a≤k∧k≤b.length∧l.length≤k∧ix=.int .i64 k∧Hid (OwnL vu8 5 w wr o l)∧Hid (untilRes ((untilL t (b.drop k)).map fun q=>(l++q.1,q.2+(k-a))) a=O)∧Ext w wr) (fun _ ix _=>b.length-(intOf ix).toNat)
 case atStart=>exact ⟨_,a,[],rfl,by omega,ha,by simp,rfl,HE,H0,x0⟩
 case round =>
  clear HE H0 x0;obtain ⟨o,k,l,rfl,hka,hk,hll,rfl,ho,hst,he⟩:=hrel
  by_cases hlt:k<b.length
  ·obtain ⟨b1,o1,rfl,hb1,hc1⟩:=hb.at k hlt
   have q1:=fun w' (e:Ext wr w')=>hc1 w' (he.trans e)
   have hdk:b.drop k=b[k]::b.drop (k+1):=List.drop_eq_getElem_cons hlt
   have hxt:=u8_eq b[k] t;have hx9:=u8_eq b[k] 92;rw [show ((92:UInt8).toNat:Int)=92 from rfl] at hx9;have h8:=b[k].toNat_lt;simp only [vu8] at q1
   by_cases hx:b[k]=t
   ·have hO:O=(l,k+1,true):=by
     rw [← hst.out,hdk,hx,untilL_hit];simp [untilRes];omega
    subst hO;rw [hx] at q1 h8;have hxx:((t.toNat:Int)==(t.toNat:Int))=true:=by simp
    clear hst hxt hx9 hdk hc1 hx hb;go_wp2_with fail;refine (CI.out _ _ _ _).mono ?_;rintro _ w1 ⟨rfl,he1⟩;rw [hin];have ho1:=lhd (OwnL.ext ho.out he1);have e1:=he.trans he1;go_wp2;exact bodyPost_ret (v:=.tuple #[o,.int .i64 ((k:Int)+1),.bool true]) (by simp [results,Tryz.results85,go_sem]) rfl ⟨_,by simp,ho1.out,e1⟩
   ·rw [decide_eq_false hx] at hxt
    by_cases hx2:b[k]=92
    ·have ht9:t≠92:=fun e=>hx (by rw [hx2,e])
     rw [decide_eq_true hx2] at hx9
     by_cases hk1:k+1=b.length
     ·have hO:O=([],a,false):=by
       rw [← hst.out,hdk,hx2,List.drop_eq_nil_of_le (by omega),untilL_end t ht9];rfl
      subst hO;have hkk:((k:Int)+1==(b.length:Int))=true:=by simp;omega
      generalize b[k]=x at *;clear hst hdk hc1 hx hx2 hb hk1;go_wp2_with fail;refine (CI.out _ _ _ _).mono ?_;rintro _ w1 ⟨rfl,he1⟩;rw [hin];have e1:=he.trans he1;go_wp2;exact bodyPost_ret (v:=.tuple #[.slice (some ⟨w1.heap.size,0,none⟩) 0 0,.int .i64 (a:Int),.bool false]) (by simp [results,Tryz.results85,go_sem]) rfl ⟨_,rfl,OwnL.empty e1,Ext_alloc _ e1⟩
     ·obtain ⟨b2,o2,hA2,hb2,hc2⟩:=hb.at (k+1) (by omega)
      injection hA2 with hA2;injection hA2 with z1 z2 _;subst z1;subst z2
      have q2:=fun w' (e:Ext wr w')=>hc2 w' (he.trans e)
      simp only [vu8] at q2;have hdk2:b.drop (k+1)=b[k+1]::b.drop (k+2):=List.drop_eq_getElem_cons (by omega)
      have HN:Hid (untilRes ((untilL t (b.drop (k+2))).map fun q=>((l++[b[k+1]])++q.1,q.2+(k+2-a))) a=O):=by
       show _=_
       rw [← hst.out,hdk,hx2,hdk2,untilL_two t ht9,Option.map_map]
       congr 1
       cases untilL t (b.drop (k+2)) with
       | none=>rfl
       | some q=>simp;omega
      have hkk:((k:Int)+1==(b.length:Int))=false:=by simp;omega
      have hY:Hid (#[Value.int .u8 (b[k+1].toNat:Int)]=([b[k+1]].map vu8).toArray):=rfl
      have HB:Hid ((l.length+[b[k+1]].length)*1≤140737488355328):=by show _≤_;simp;omega
      have hlt2:(k:Int)+1<(b.length:Int):=by omega
      generalize b[k]=x at *;generalize b[k+1]=y at *;clear hst hdk hdk2 hc1 hc2 hx hx2 hb hk1;go_wp2_with fail;refine (CI.out _ _ _ _).mono ?_;rintro _ w1 ⟨rfl,he1⟩;rw [hin];have ho1:=lhd (OwnL.ext ho.out he1);have e1:=he.trans he1
      go_wp2_with (first
       | (at_builtin;refine wpList_appN rfl (.tmp 45) (.tmp 50) _ rfl E_u8 (by omega) w _ vu8 (fun _=>rfl) _ rfl _ _ rfl l [y] _ hY.out ho1.out e1 rfl HB.out ?_;intro v4 w4 ho4 he4))
      have HO4:=lhd ho4;clear ho4;go_wp2;go_roundw
      case rel=>exact ⟨_,k+2,l++[y],rfl,by omega,by omega,by simp;omega,by go_num,HO4,HN,he4⟩
      case measure=>simp [intOf];omega
    ·rw [decide_eq_false hx2] at hx9
     have HN:Hid (untilRes ((untilL t (b.drop (k+1))).map fun q=>((l++[b[k]])++q.1,q.2+(k+1-a))) a=O):=by
      show _=_
      rw [← hst.out,hdk,untilL_one t _ hx hx2,Option.map_map]
      congr 1
      cases untilL t (b.drop (k+1)) with
      | none=>rfl
      | some q=>simp;omega
     have hY:Hid (#[Value.int .u8 (b[k].toNat:Int)]=([b[k]].map vu8).toArray):=rfl
     have HB:Hid ((l.length+[b[k]].length)*1≤140737488355328):=by show _≤_;simp;omega
     generalize b[k]=x at *;clear hst hdk hc1 hx hx2 hb;go_wp2_with fail;refine (CI.out _ _ _ _).mono ?_;rintro _ w1 ⟨rfl,he1⟩;rw [hin];have ho1:=lhd (OwnL.ext ho.out he1);have e1:=he.trans he1;replace q1:=kx q1 he1
     go_wp2_with (first
      | (at_builtin;refine wpList_appN rfl (.tmp 45) (.tmp 50) _ rfl E_u8 (by omega) w _ vu8 (fun _=>rfl) _ rfl _ _ rfl l [x] _ hY.out ho1.out e1 rfl HB.out ?_;intro v4 w4 ho4 he4))
     have HO4:=lhd ho4;clear ho4;go_wp2;go_roundw
     case rel=>exact ⟨_,k+1,l++[x],rfl,by omega,by omega,by simp;omega,by go_num,HO4,HN,he4⟩
     case measure=>simp [intOf];omega
  ·obtain rfl:k=b.length:=by omega
   have hO:O=([],a,false):=by
    rw [← hst.out,List.drop_length,untilL];rfl
   subst hO;clear hst;go_wp2_with fail;refine (CI.out _ _ _ _).mono ?_;rintro _ w1 ⟨rfl,he1⟩;rw [hin];have e1:=he.trans he1;go_wp2;exact bodyPost_ret (v:=.tuple #[.slice (some ⟨w1.heap.size,0,none⟩) 0 0,.int .i64 (a:Int),.bool false]) (by simp [results,Tryz.results85,go_sem]) rfl ⟨_,rfl,OwnL.empty e1,Ext_alloc _ e1⟩
section
variable {P:Program} {ops:Array Oper} {rest:List Oper} {o:Oper} {a:Act} {Q:Exit→Act→World→Prop}
theorem wpList_app8 (hgd:o.guard=none) (s x:Operand) (t:TypeId) (ho:o.op=.call { callee:=.builtin .append,args:=#[s,x],argTypes:=#[t,t] })
 {e:TypeId} {size bytes:Nat} {z:Value} (hE:Elem P t e size bytes z) (w0 w:World) (v:Value) (n:Nat) (xs:List Value) (hs:a.eval s=v) (hown:Own e size w0 w v n xs) (he:w0.heap.size≤w.heap.size)
 (ad:Addr) (m c:Nat) (news:List Value) (hx:a.eval x=.slice (some ad) m c) (hl:news.length=m*size) (hA:∀ j u,news[j]?=some u→w.cell? (ad.add j)=some u) (h1:∀ u∈news,u.oneCell'=true)
 (hm:n+m≤maxLen) (hb:(n+m)*bytes≤140737488355328)
 (h:∀ v' w',Own e size w0 w' v' (n+m) (xs++news)→w.grownBy w' v.ownBlock→(v'.ownBlock=v.ownBlock∨v'.ownBlock=some w.heap.size)→wpList P ops Q rest (a.put o.dst v') w') :
 wpList P ops Q (o::rest) a w:=by
 obtain ⟨i0,hi0,hz0,hz1,hz2⟩:=info_parts hE.hi;exact wpList_append_own_at _ hgd s x t ho w0.heap.size e i0 z size bytes hE.ht hi0 hz0 hz1 hz2 hE.hz hE.hs v n xs hs hown ad m c news hx hl hA h1 hm hb he (fun v' w' ho' hg _ hat=>h v' w' ho' hg hat)
end
theorem boxes4' (w:World) (c0 c1 c2 c3:Array Value) (T0 T1 T2 T3:TypeId) :
 ∃ W0 W1,Hid (W0=(((w.alloc (.cells c0 T0)).alloc (.cells c1 T1)).alloc (.cells c2 T2)))∧Hid (W1=W0.alloc (.cells c3 T3))∧Box W0 w.heap.size c0 T0∧Box W0 (w.heap.size+1) c1 T1∧Box W0 (w.heap.size+1+1) c2 T2∧Box W1 (w.heap.size+1+1+1) c3 T3∧Ext w W0∧Ext W0 W1∧W0.heap.size=w.heap.size+1+1+1∧W1.heap.size=w.heap.size+1+1+1+1:=by
 obtain ⟨W0,h1,h2,h3,h4,h5,h6⟩:=boxes3' w c0 c1 c2 T0 T1 T2;have h6':W0.heap.size=w.heap.size+1+1+1:=by omega
 have h7:=Box.new W0 c3 T3;rw [h6'] at h7;exact ⟨W0,_,h1,rfl,h2,h3,h4,h7,h5,Ext_alloc _ (Ext.refl W0),h6',by rw [World.size_alloc,h6']⟩
theorem RdOut.shape {R:RR} {w w':World} {e:Ending} (h:RdOut R w e w'):∃ (t:VT) (A1:Option Addr) (n1 c1:Nat) (A2:Option Addr) (n2 c2:Nat),e=.returned (.tuple #[.agg #[.int .i64 R.v.num,.slice A1 n1 c1,.slice A2 n2 c2],.int .i64 (R.next:Int),.int .i64 (R.code:Int)])∧Hid (t.vb=.slice A1 n1 c1∧t.vi=.slice A2 n2 c2)∧Hid (GotV w w' t R.v)∧Ext w w':=by
 obtain ⟨t,he,hg,hx⟩:=h;obtain ⟨A1,c1,h1⟩:=Own.shape (show Own _ 1 w w' t.vb t.bs.length _ from hg.own.b);obtain ⟨A2,c2,h2⟩:=Own.shape hg.own.i;refine ⟨t,A1,_,c1,A2,_,c2,?_,⟨h1,h2⟩,hg,hx⟩;rw [he];unfold rrVal vval;rw [h1,h2]
theorem box_laid {w:World} {g:Nat} {T:TypeId} {a b c:Value} (h:Box w g #[a,b,c] T) (x y z:Value):Box (((w.setCell ⟨g,0,none⟩ x).setCell ⟨g,1,none⟩ y).setCell ⟨g,2,none⟩ z) g #[x,y,z] T:=by
 have:=((h.set 0 x).set 1 y).set 2 z
 simpa using this
theorem got_laid {w w5:World} {g:Nat} {t:VT} {v:DVal} (h:GotV w w5 t v) (hg:g<w.heap.size) (x y z:Value):GotV w (((w5.setCell ⟨g,0,none⟩ x).setCell ⟨g,1,none⟩ y).setCell ⟨g,2,none⟩ z) t v :=
 ⟨h.val,h.own.keep (((grown_set w5 ⟨g,0,none⟩ x).trans (grown_set _ ⟨g,1,none⟩ y)).trans (grown_set _ ⟨g,2,none⟩ z)) (fun u hu b hb he=>by have:=(h.own.block u hu b hb).1;injection he with he;simp at he;omega),h.far⟩
def sReadOk (A:Option Addr) (ds:List DRule) (c:Nat) (Ab:Option Addr) (b:List UInt8) (cb:Nat) (i:Nat):Prop:=∀ (a:Nat) (w:World),a≤b.length→RdD w A ds c→Bs w Ab b cb →
 Calls Tryz.prog 49 #[vdesc (.slice A ds.length c),.int .i64 (i:Int),.slice Ab b.length cb,.int .i64 (a:Int)] w (RdOut (readV ds b i a) w)
theorem itemsF_step (rd:Nat→Nat→RR) (r:DRule) (n:Int) {m k:Nat} (h:k<m) (a:Nat) (acc:List DVal):itemsF rd r n (m-k) k a acc=if (rd (kidV r n k) a).code=0 then itemsF rd r n (m-(k+1)) (k+1) (rd (kidV r n k) a).next (acc++[(rd (kidV r n k) a).v]) else .bad (rd (kidV r n k) a).next (rd (kidV r n k) a).code:=by
 rw [show m-k=(m-(k+1))+1 by omega,itemsF]
theorem sItems_c (A:Option Addr) (ds:List DRule) (c:Nat) (hok:descOk ds=true) (i:Nat) (hi:i<ds.length) (Rb:Option Addr) (rb:Nat) (Rn:Option Addr) (rn:Nat) (Rt:Option Addr) (rt:Nat) (Rk:Option Addr) (rk:Nat)
 (Ab:Option Addr) (b:List UInt8) (cb:Nat) (n:Int) (m:Nat) (hm:m≤1000000) (HI:∀ k,k<m→ItemAt ds[i] n k) (HR:∀ j,j<i→sReadOk A ds c Ab b cb j) (a:Nat) (ha:a≤b.length) (w:World) (hd:RdD w A ds c) (hb:Bs w Ab b cb) (hS:RdS w ds[i] Rb rb Rn rn Rt rt Rk rk) :
 Calls Tryz.prog 86 #[vdesc (.slice A ds.length c),vrule ds[i] (.slice Rb ds[i].bytes.length rb) (.slice Rn ds[i].names.length rn) (.slice Rt ds[i].tags.length rt) (.slice Rk ds[i].kids.length rk),.int .i64 n,.int .i64 (m:Int),.slice Ab b.length cb,.int .i64 (a:Int)] w (RdOut (itemsF (readV ds b) ds[i] n m 0 a []) w):=by
 have hl:=hd.len;have hbl:=hb.len;have H7:ds[i].kind=7→ds[i].kids.length=ds[i].tags.length+1:=fun h=>((kids_len hok i hi).2.2.2.1 h).1
 have HKN:=kd_int hok i hi
 have CI:Hid (∀ k,k<m→∀ w',Ext w w'→Gives Tryz.prog 78 #[.agg (rcs ds[i] Rb rb Rn rn Rt rt Rk rk),.int .i64 n,.int .i64 (k:Int)] w' (.int .i64 (kidV ds[i] n k:Nat))):=fun k hk w' e =>
  sItemV_c ds[i] Rb rb Rn rn Rt rt Rk rk n k w' (hS.ext e) (by omega) (HI k hk) H7 HKN
 have CR:Hid (∀ k,k<m→∀ (a:Nat) (w':World),a≤b.length→Ext w w'→Calls Tryz.prog 49 #[.agg #[.slice A ds.length c],.int .i64 ((kidV ds[i] n k:Nat):Int),.slice Ab b.length cb,.int .i64 (a:Int)] w' fun e w''=>∃ (t:VT) (A1:Option Addr) (n1 c1:Nat) (A2:Option Addr) (n2 c2:Nat),e=.returned (.tuple #[.agg #[.int .i64 (readV ds b (kidV ds[i] n k) a).v.num,.slice A1 n1 c1,.slice A2 n2 c2],.int .i64 ((readV ds b (kidV ds[i] n k) a).next:Int),.int .i64 ((readV ds b (kidV ds[i] n k) a).code:Int)])∧Hid (t.vb=.slice A1 n1 c1∧t.vi=.slice A2 n2 c2)∧Hid (GotV w' w'' t (readV ds b (kidV ds[i] n k) a).v)∧Ext w' w''):=fun k hk a w' ha e =>
  (HR _ (kid_below hok i hi (HI k hk)) a w' ha (hd.ext e) (hb.ext e)).mono fun e' w'' h=>RdOut.shape h
 have HNX:Hid (∀ k a,a≤b.length→(readV ds b k a).next≤b.length):=fun k a ha=>readV_next ha
 obtain ⟨R,hR⟩:∃ R,itemsF (readV ds b) ds[i] n m 0 a []=R:=⟨_,rfl⟩;rw [hR];have HR0:Hid (itemsF (readV ds b) ds[i] n (m-0) 0 a (valsOf [])=R):=hR
 have HST:Hid (∀ k,k<m→∀ a acc,itemsF (readV ds b) ds[i] n (m-k) k a acc=if (readV ds b (kidV ds[i] n k) a).code=0 then itemsF (readV ds b) ds[i] n (m-(k+1)) (k+1) (readV ds b (kidV ds[i] n k) a).next (acc++[(readV ds b (kidV ds[i] n k) a).v]) else .bad (readV ds b (kidV ds[i] n k) a).next (readV ds b (kidV ds[i] n k) a).code):=fun k hk a acc=>itemsF_step _ _ _ hk a acc
 clear hR HI HR H7 HKN hd hb hS;obtain ⟨W0,W1,HW0,HW1,B1,B2,B3,B4,e0,x1,hs0,hs1⟩:=boxes4' w #[.slice A ds.length c] (rcs ds[i] Rb rb Rn rn Rt rt Rk rk) #[.int .i64 0,.slice none 0 0,.slice none 0 0] #[.int .i64 0,.slice none 0 0,.slice none 0 0] 26 96 46 46;have d0:∀ w',Ext W0 w'→_=some (Value.slice A ds.length c):=B1.at 0
 have k0:∀ w',Ext W0 w'→_=some (Value.string ds[i].nm):=B2.at 0
 have k1:∀ w',Ext W0 w'→_=some (Value.int .i64 ds[i].kind):=B2.at 1
 have k2:∀ w',Ext W0 w'→_=some (Value.int .i64 ds[i].size):=B2.at 2
 have k3:∀ w',Ext W0 w'→_=some (Value.bool ds[i].little):=B2.at 3
 have k4:∀ w',Ext W0 w'→_=some (Value.slice Rb ds[i].bytes.length rb):=B2.at 4
 have k5:∀ w',Ext W0 w'→_=some (Value.slice Rn ds[i].names.length rn):=B2.at 5
 have k6:∀ w',Ext W0 w'→_=some (Value.slice Rt ds[i].tags.length rt):=B2.at 6
 have k7:∀ w',Ext W0 w'→_=some (Value.slice Rk ds[i].kids.length rk):=B2.at 7
 have HB3:=lhd B3;have HB4:=lhd B4;have HS0:=lhd hs0;have HS1:=lhd hs1;clear B1 B2 B3 B4 hs0 hs1;generalize (fun k=>kidV ds[i] n k)=KV at *;unfold vdesc vrule;generalize ds[i]=r at *;have OD0:Hid (OwnTs W1 W1 (.slice none 0 0) []):=OwnTs.nil W1 W1
 go_enter Tryz.func86,Tryz.ntmps86;go_wp2;rw [← HW0.out,← HW1.out];go_loopw [5,16] (fun at' ix wr=>∃ (k a':Nat) (ps:List VT) (v:Value),k≤m∧a'≤b.length∧at'=.int .i64 a'∧ix=.int .i64 k∧ps.length≤k∧k≤ps.length∧Hid (itemsF (readV ds b) r n (m-k) k a' (valsOf ps)=R)∧Hid (OwnTs W1 wr v ps)∧Hid (Box wr (w.heap.size+1+1+1) #[.int .i64 0,.slice none 0 0,v] 46)∧Ext W0 wr∧Hid (W1.heap.size≤wr.heap.size)) (fun _ ix _=>m-(intOf ix).toNat)
 case atStart=>exact ⟨0,a,[],_,by omega,ha,rfl,rfl,by simp,by simp,HR0,OD0,HB4,x1,Nat.le_refl _⟩
 case round =>
  clear HR0 OD0 HB4 x1;obtain ⟨k,a',ps,v,hk,ha',rfl,rfl,hl1,hl2,hst,hod,hbo,he,hsz⟩:=hrel
  by_cases hlt:k<m
  ·have HX:=lhd (HST.out k hlt a' (valsOf ps))
   have CI1:=lhd (CI.out k hlt);have CR1:=lhd (CR.out k hlt a');have hnx:=HNX.out (kidV r n k) a' ha';obtain ⟨X,hX⟩:∃ X,readV ds b (kidV r n k) a'=X:=⟨_,rfl⟩;rw [hX] at HX CR1 hnx;generalize kidV r n k=kk at *;clear hX;have SX:Hid (∀ w',Ext wr w'→Ext W0 w'→Ext wr w'∧Ext W0 w'):=fun _ h1 h2=>⟨h1,h2⟩
   have SY:Hid (∀ w',Ext wr w'→Ext wr w'∧Ext W0 w'):=fun _ h1=>⟨h1,he.trans h1⟩
   have hed:=Ext_drew he;go_wp2_with fail;go_cut [17,18,19] (fun s17 s18 s19 wx=>∃ g t,s17=.pointer (some ⟨g,0,none⟩)∧s18=.int .i64 (X.next:Int)∧s19=.int .i64 (X.code:Int)∧Hid (∃ vb vi,t.vb=vb∧t.vi=vi∧Box wx g #[.int .i64 X.v.num,vb,vi] 46)∧Hid (GotV wr wx t X.v)∧Ext wr wx)
   case first =>
    go_region_held3 (fun w'=>Ext wr w'∧Ext W0 w') (first | exact SY.out _ (Ext_drew (Ext.refl _)) | exact SY.out _ (by assumption) | exact SY.out _ (Ext_alloc _ (And.left (by assumption))) | exact SY.out _ (Ext_alloc _ (by assumption)) | exact SY.out _ (((Ext.setCell hE5 (by first | exact Nat.le_refl _ | exact hE4.size) _).setCell (by first | exact Nat.le_refl _ | exact hE4.size) _).setCell (by first | exact Nat.le_refl _ | exact hE4.size) _)) (first
     | (go_at_call 78;have hq:=‹Ext wr _∧Ext W0 _›;refine (CI1.out _ (e0.trans hq.2)).mono ?_;rintro _ w4 ⟨rfl,he4⟩;have hE4:=hq.1.trans he4;(try (have hbx:Box w4 wr.heap.size #[.int .i64 0,.slice none 0 0,.slice none 0 0] 46:=Box.ext (Box.new wr.drew #[.int .i64 0,.slice none 0 0,.slice none 0 0] 46) he4)))
     | (go_at_call 49;have hq:=‹Ext wr _∧Ext W0 _›;refine (CR1.out _ ha' (e0.trans hq.2)).mono ?_;rintro _ w5 ⟨t,A1,n1,c1,A2,n2,c2,rfl,hsh,hgt,he5⟩;have hE5:=hq.1.trans he5;(first | (have hbz:Box w5 wr.heap.size #[.int .i64 0,.slice none 0 0,.slice none 0 0] 46:=Box.ext hbx he5;have z0:w5.cell? ⟨wr.heap.size,0,none⟩=some (Value.int .i64 0):=hbz.cell 0;have z1:w5.cell? ⟨wr.heap.size,1,none⟩=some (Value.slice none 0 0):=hbz.cell 1;have z2:w5.cell? ⟨wr.heap.size,2,none⟩=some (Value.slice none 0 0):=hbz.cell 2;have y0:w5.frozen? ⟨wr.heap.size,0,none⟩=false:=hbz.free 0;have y1:w5.frozen? ⟨wr.heap.size,1,none⟩=false:=hbz.free 1;have y2:w5.frozen? ⟨wr.heap.size,2,none⟩=false:=hbz.free 2) | (have hbz:Box w5 w4.heap.size #[.int .i64 0,.slice none 0 0,.slice none 0 0] 46:=Box.ext (Box.new w4 #[.int .i64 0,.slice none 0 0,.slice none 0 0] 46) he5;have z0:w5.cell? ⟨w4.heap.size,0,none⟩=some (Value.int .i64 0):=hbz.cell 0;have z1:w5.cell? ⟨w4.heap.size,1,none⟩=some (Value.slice none 0 0):=hbz.cell 1;have z2:w5.cell? ⟨w4.heap.size,2,none⟩=some (Value.slice none 0 0):=hbz.cell 2;have y0:w5.frozen? ⟨w4.heap.size,0,none⟩=false:=hbz.free 0;have y1:w5.frozen? ⟨w4.heap.size,1,none⟩=false:=hbz.free 1;have y2:w5.frozen? ⟨w4.heap.size,2,none⟩=false:=hbz.free 2) | skip)))
    all_goals
     go_wp2_with fail;go_meet
    all_goals
     first
      | exact ⟨_,t,rfl,rfl,rfl,⟨_,_,hsh.out.1,hsh.out.2,Box.new w5 _ _⟩,GotV.down (GotV.ext hgt.out (Ext_alloc _ (Ext.refl _))) hE4.size,Ext_alloc _ hE5⟩
      | exact ⟨_,t,rfl,rfl,rfl,⟨_,_,hsh.out.1,hsh.out.2,box_laid hbz _ _ _⟩,GotV.down (got_laid hgt.out (by rw [World.size_alloc];omega) _ _ _) (by rw [World.size_alloc];have:=hE4.size;omega),((hE5.setCell (by exact hE4.size) _).setCell (by exact hE4.size) _).setCell (by exact hE4.size) _⟩
      | exact ⟨_,t,rfl,rfl,rfl,⟨_,_,hsh.out.1,hsh.out.2,box_laid hbz _ _ _⟩,GotV.down (got_laid hgt.out (by have h1:=he4.size;simp at h1;omega) _ _ _) hE4.size,((hE5.setCell (by exact Nat.le_refl _) _).setCell (by exact Nat.le_refl _) _).setCell (by exact Nat.le_refl _) _⟩
   case rest =>
    obtain ⟨g,t,rfl,rfl,rfl,hgb,hgt,hewc⟩:=hcut;obtain ⟨vb,vi,hvb,hvi,hbg⟩:=hgb.out;have hEc:=he.trans hewc;have hHc:=lhd hEc;have hb12:=HB3.out.ext hEc;have hb15:=hbo.out.ext hewc;have HVB:Hid (t.vb=vb∧t.vi=vi):=⟨hvb,hvi⟩
    clear SX SY hed CI1 CR1 hgb hvb hvi
    by_cases hc:X.code=0
    ·rw [if_pos hc] at HX
     have hne:((X.code:Int) !=0)=false:=by simp [hc]
     have cv:_=some v:=hb15.cell 2
     have p0:_=some (Value.int .i64 X.v.num):=hbg.cell 0
     have p1:_=some vb:=hbg.cell 1
     have p2:_=some vi:=hbg.cell 2
     have x5:=Ext_alloc (.cells #[.int .i64 X.v.num,vb,vi] 46) (Ext.refl wc)
     have hone:Hid (∀ u∈[Value.int .i64 X.v.num,vb,vi],u.oneCell'=true):=by
      have:=hgt.out.own.one;unfold VT.cells at this;rw [hgt.out.num,HVB.out.1,HVB.out.2] at this;exact this
     have HSZ2:Hid (W1.heap.size≤(wc.alloc (.cells #[.int .i64 X.v.num,vb,vi] 46)).heap.size):=by
      have h1:=hewc.size;have h2:=hsz.out;show _≤_;rw [World.size_alloc];omega
     have bV:Hid (∀ b,v.ownBlock=some b→W1.heap.size≤b∧b<wr.heap.size):=fun b hb=>hod.out.block v (List.mem_cons_self ..) b hb
     have HS0':=HS0.out;have HS1':=HS1.out;have hNv:Hid (v.ownBlock≠some (w.heap.size+1+1+1)):=fun hh=>by have:=(bV.out _ hh).1;omega
     have hN12:Hid (v.ownBlock≠some (w.heap.size+1+1)):=fun hh=>by have:=(bV.out _ hh).1;omega
     have HB15:=lhd (hb15.ext x5);have HOR:=lhd (Own.ext (Own.ext hod.out.row hewc) x5);have HX5:=lhd x5;clear hbg hb12 hb15 x5 hc HS0' HS1' hEc
     go_wp2_with (first
      | (at_builtin;refine wpList_app8 rfl (.tmp 44) (.tmp 46) _ rfl E_val W1 (wc.alloc (.cells #[.int .i64 X.v.num,vb,vi] 46)) v ps.length (ps.flatMap VT.cells) rfl HOR.out HSZ2.out ⟨wc.heap.size,0,none⟩ 1 1 [.int .i64 X.v.num,vb,vi] rfl rfl (fun j u hu=>(World.cell?_alloc_at' wc [.int .i64 X.v.num,vb,vi] 46 j).trans hu) hone.out (by simp [maxLen];omega) (by omega) ?_;intro v4 w4 ho4 hg4 hv4;have hbo4:=lhd (Box.moved HB15.out hg4 hNv.out);have c4':=hbo4.out.cell 2;have f4:=hbo4.out.free 2;have HO4:Hid (OwnTs W1 w4 v4 (ps++[t])):=OwnTs.snoc hod.out hewc hgt.out.own hgt.out.far hsz.out (by unfold VT.cells at ho4 ⊢;rw [hgt.out.num,HVB.out.1,HVB.out.2];exact ho4) hg4 hv4;have HG4:=lhd hg4;clear ho4 hg4 hv4;obtain ⟨A5,q5,hA5⟩:=HO4.out.shape;replace hA5:v4=.slice A5 (ps.length+1) q5:=(by rw [hA5,List.length_append];rfl);subst hA5))
     have HS0':=HS0.out;have HS1':=HS1.out;have e4:=(hHc.out.trans HX5.out).grown HG4.out (fun b hb=>by have:=(bV.out b hb).1;omega);have O5:Hid (Box (w4.setCell ⟨w.heap.size+1+1+1,2,none⟩ (.slice A5 (ps.length+1) q5)) (w.heap.size+1+1+1) #[.int .i64 0,.slice none 0 0,.slice A5 (ps.length+1) q5] 46):=hbo4.out.set 2 (.slice A5 (ps.length+1) q5)
     have D5:Hid (OwnTs W1 (w4.setCell ⟨w.heap.size+1+1+1,2,none⟩ (.slice A5 (ps.length+1) q5)) (.slice A5 (ps.length+1) q5) (ps++[t])):=HO4.out.keep (grown_set w4 ⟨w.heap.size+1+1+1,2,none⟩ _) (fun u hu b hb hh=>by have h1:=(HO4.out.block u hu b hb).1;injection hh with hh;simp at hh;omega)
     have E5:=e4.setCell (p:=⟨w.heap.size+1+1+1,2,none⟩) (by show W0.heap.size≤w.heap.size+1+1+1;omega) (.slice A5 (ps.length+1) q5)
     have S5:Hid (W1.heap.size≤(w4.setCell ⟨w.heap.size+1+1+1,2,none⟩ (.slice A5 (ps.length+1) q5)).heap.size):=by
      have h1:=HG4.out.size;have h2:=HSZ2.out;show _≤_;simp only [World.size_setCell];omega
     have N5:Hid (itemsF (readV ds b) r n (m-(k+1)) (k+1) X.next (valsOf (ps++[t]))=R):=by
      show _=_;rw [valsOf_append,valsOf,valsOf,hgt.out.val,← HX.out,hst.out]
     have E5':=lhd E5;clear e4 HS0' HS1' E5;go_wp2;go_roundw
     case rel=>exact ⟨k+1,X.next,ps++[t],_,by omega,hnx,rfl,by go_num,by simp;omega,by simp;omega,N5,D5,O5,E5'.out,S5⟩
     case measure=>simp [intOf];omega
    ·rw [if_neg hc] at HX
     have hne:((X.code:Int) !=0)=true:=by simp [hc]
     have hRR:R=RR.bad X.next X.code:=by rw [← hst.out,HX.out]
     subst hRR;have r2:=hb12.cell;have f2:=hb12.free;have HS0':=HS0.out;have hput:Hid (Ext w (put3 wc (w.heap.size+1+1) 0 t0)):=(e0.trans hEc).grown (grown_put3 wc (w.heap.size+1+1) 0 t0) (fun g hg=>by injection hg with hg;omega)
     clear hst HX hbg hb15 HS0' hc;go_wp2;exact bodyPost_ret (v:=badRes X.next X.code) (by simp [results,Tryz.results86,go_sem,r2,f2,badRes,zeroV]) rfl (RdOut.bad hput.out)
  ·obtain rfl:k=m:=by omega
   have hRR:R=⟨.mk 0 [] (valsOf ps),a',0⟩:=by rw [← hst.out,Nat.sub_self,itemsF]
   subst hRR;obtain ⟨A5,c5,hA5⟩:=hod.out.shape;subst hA5;have hb12:=HB3.out.ext he;have r2:=hb12.cell;have f2:=hb12.free;have p2:=hbo.out.cell;have HS0':=HS0.out;have HS1':=HS1.out
   have hG:Hid (GotV w (put3 wr (w.heap.size+1+1) 0 (.mk 0 [] (.slice none 0 0) ps (.slice A5 ps.length c5))) (.mk 0 [] (.slice none 0 0) ps (.slice A5 ps.length c5)) (.mk 0 [] (valsOf ps))∧Ext w (put3 wr (w.heap.size+1+1) 0 (.mk 0 [] (.slice none 0 0) ps (.slice A5 ps.length c5)))):=by
    have o2:=hod.out.down (w0:=w) (by omega);refine val_out (by omega) (e0.trans he) ⟨by rw [VT.val],.mk (OwnL.nil _ _) o2.row o2.each,?_⟩ ?_
    ·rw [VT.vals_eq]
     refine Far.cons hod.out.far ?_;intro u hu b h1 h2;cases h1
    ·intro u hu b hb
     rw [VT.vals_eq] at hu;rcases List.mem_cons.1 hu with rfl | hu
     ·cases hb
     ·have:=(hod.out.block u hu b hb).1;omega
   clear hst hod hbo hb12 HS0' HS1';go_wp2;exact bodyPost_ret (v:=.tuple #[.agg #[.int .i64 0,.slice none 0 0,.slice A5 ps.length c5],.int .i64 (a':Int),.int .i64 0]) (by simp [results,Tryz.results86,go_sem,p2,r2,f2]) rfl ⟨.mk 0 [] (.slice none 0 0) ps (.slice A5 ps.length c5),rfl,hG.out.1,hG.out.2⟩
theorem GotV.renum {w w':World} {t:VT} {v:DVal} (h:GotV w w' t v) (n:Int):GotV w w' (.mk n t.bs t.vb t.its t.vi) (.mk n v.bytes v.items):=by
 obtain ⟨e,o,f⟩:=h;subst e;refine ⟨?_,.mk o.b o.i o.kids,?_⟩
 ·rw [VT.val,VT.val_bytes,VT.val_items]
 ·rw [VT.vals_eq] at f ⊢;exact f
theorem vals_renum (t:VT) (n:Int):(VT.mk n t.bs t.vb t.its t.vi).vals=t.vals:=by rw [VT.vals_eq,VT.vals_eq];rfl
theorem val_out3 {w wr:World} {g:Nat} {t:VT} {v:DVal} (hg:w.heap.size≤g) (e:Ext w wr) (h:GotV w wr t v) (hne:∀ u∈t.vals,∀ b,u.ownBlock=some b→b≠g) (x y z:Value) :
 GotV w (((wr.setCell ⟨g,0,none⟩ x).setCell ⟨g,1,none⟩ y).setCell ⟨g,2,none⟩ z) t v∧Ext w (((wr.setCell ⟨g,0,none⟩ x).setCell ⟨g,1,none⟩ y).setCell ⟨g,2,none⟩ z):=by
 have G:=((grown_set wr ⟨g,0,none⟩ x).trans (grown_set _ ⟨g,1,none⟩ y)).trans (grown_set _ ⟨g,2,none⟩ z);exact ⟨⟨h.val,h.own.keep G (fun u hu b hb he=>by injection he with he;exact hne u hu b hb he.symm),h.far⟩,e.grown G (fun b hb=>by injection hb with hb;simp at hb;omega)⟩
theorem sChoice_c (A:Option Addr) (ds:List DRule) (c:Nat) (hok:descOk ds=true) (i:Nat) (hi:i<ds.length) (hk:ds[i].kind=7) (Rb:Option Addr) (rb:Nat) (Rn:Option Addr) (rn:Nat) (Rt:Option Addr) (rt:Nat) (Rk:Option Addr) (rk:Nat)
 (Ab:Option Addr) (b:List UInt8) (cb:Nat) (HR:∀ j,j<i→sReadOk A ds c Ab b cb j) (a:Nat) (ha:a≤b.length) (w:World) (hd:RdD w A ds c) (hb:Bs w Ab b cb) (hS:RdS w ds[i] Rb rb Rn rn Rt rt Rk rk) :
 Calls Tryz.prog 87 #[vdesc (.slice A ds.length c),vrule ds[i] (.slice Rb ds[i].bytes.length rb) (.slice Rn ds[i].names.length rn) (.slice Rt ds[i].tags.length rt) (.slice Rk ds[i].kids.length rk),.slice Ab b.length cb,.int .i64 (a:Int)] w (RdOut (choiceF ds (readV ds b) ds[i] b a) w):=by
 have hl:=hd.len;have hbl:=hb.len;obtain ⟨g0,g1,gk,g2,g3,g4,_⟩:=kid0 hok i hi (.inr (.inr hk));have hx0:ds.getD (kd ds[i] 0) noRule=ds[kd ds[i] 0]:=by simp [g0]
 have H7:ds[i].kids.length=ds[i].tags.length+1:=((kids_len hok i hi).2.2.2.1 hk).1
 have HKN:=kd_int hok i hi;obtain ⟨bk,ok,hRk,_,hck⟩:=hS.k.at 0 gk;rw [HKN 0 gk] at hck;subst hRk
 have CI:Hid (∀ w',Ext w w'→Gives Tryz.prog 77 #[.agg #[.slice A ds.length c],.int .i64 ((kd ds[i] 0:Nat):Int),.slice Ab b.length cb,.int .i64 (a:Int)] w' (intRes (intAt ds[kd ds[i] 0] b a) a (a+ds[kd ds[i] 0].size.toNat))):=fun w' e =>
  sInteger_c A ds c (kd ds[i] 0) g0 ⟨g3,g4⟩ Ab b cb a ha w' (hd.ext e) (hb.ext e)
 have CT:Hid (∀ (n:Int) w',Ext w w'→Gives Tryz.prog 78 #[.agg (rcs ds[i] Rb rb Rn rn Rt rt (some ⟨bk,ok,none⟩) rk),.int .i64 n,.int .i64 0] w' (.int .i64 (if tagN ds[i].tags n<ds[i].tags.length then (kd ds[i] (tagN ds[i].tags n+1):Int) else -1))):=fun n w' e =>
  sItem_c ds[i] Rb rb Rn rn Rt rt (some ⟨bk,ok,none⟩) rk n w' (hS.ext e) hk H7 HKN
 have HAT:∀ n:Nat,tagN ds[i].tags (n:Int)<ds[i].tags.length→∀ k,k<1→ItemAt ds[i] (n:Int) k:=by
  intro n ht k hk';obtain rfl:k=0:=by omega
  exact .inr (.inr (.inl ⟨hk,rfl,ht,by omega⟩))
 have CM:Hid (∀ (n:Nat) (a':Nat) w',tagN ds[i].tags n<ds[i].tags.length→a'≤b.length→Ext w w'→Calls Tryz.prog 86 #[.agg #[.slice A ds.length c],.agg (rcs ds[i] Rb rb Rn rn Rt rt (some ⟨bk,ok,none⟩) rk),.int .i64 (n:Int),.int .i64 1,.slice Ab b.length cb,.int .i64 (a':Int)] w' fun e w''=>∃ (t:VT) (A1:Option Addr) (n1 c1:Nat) (A2:Option Addr) (n2 c2:Nat),e=.returned (.tuple #[.agg #[.int .i64 (itemsF (readV ds b) ds[i] n 1 0 a' []).v.num,.slice A1 n1 c1,.slice A2 n2 c2],.int .i64 ((itemsF (readV ds b) ds[i] n 1 0 a' []).next:Int),.int .i64 ((itemsF (readV ds b) ds[i] n 1 0 a' []).code:Int)])∧Hid (t.vb=.slice A1 n1 c1∧t.vi=.slice A2 n2 c2)∧Hid (GotV w' w'' t (itemsF (readV ds b) ds[i] n 1 0 a' []).v)∧Ext w' w''):=fun n a' w' ht ha' e =>
  (sItems_c A ds c hok i hi Rb rb Rn rn Rt rt (some ⟨bk,ok,none⟩) rk Ab b cb n 1 (by omega) (HAT n ht) HR a' ha' w' (hd.ext e) (hb.ext e) (hS.ext e)).mono fun e' w'' h=>RdOut.shape h
 have HLE:Hid (∀ n,intAt ds[kd ds[i] 0] b a=some n→a+ds[kd ds[i] 0].size.toNat≤b.length):=fun n h=>intAt_le ha h
 unfold choiceF;rw [hx0];generalize ds[kd ds[i] 0].size.toNat=sz at *;generalize intAt ds[kd ds[i] 0] b a=O at *;generalize kd ds[i] 0=k0 at *;generalize ds[i]=r at *;obtain ⟨W0,HW0,B1,B2,B3,e0,hs0⟩:=boxes3' w #[.slice A ds.length c] (rcs r Rb rb Rn rn Rt rt (some ⟨bk,ok,none⟩) rk) #[.int .i64 0,.slice none 0 0,.slice none 0 0] 26 96 46;have d0:∀ w',Ext W0 w'→_=some (Value.slice A ds.length c):=B1.at 0
 have q0:∀ w',Ext W0 w'→_=some (Value.string r.nm):=B2.at 0
 have q1:∀ w',Ext W0 w'→_=some (Value.int .i64 r.kind):=B2.at 1
 have q2:∀ w',Ext W0 w'→_=some (Value.int .i64 r.size):=B2.at 2
 have q3:∀ w',Ext W0 w'→_=some (Value.bool r.little):=B2.at 3
 have q4:∀ w',Ext W0 w'→_=some (Value.slice Rb r.bytes.length rb):=B2.at 4
 have q5:∀ w',Ext W0 w'→_=some (Value.slice Rn r.names.length rn):=B2.at 5
 have q6:∀ w',Ext W0 w'→_=some (Value.slice Rt r.tags.length rt):=B2.at 6
 have q7:∀ w',Ext W0 w'→_=some (Value.slice (some ⟨bk,ok,none⟩) r.kids.length rk):=B2.at 7
 have qk:∀ w',Ext W0 w'→_=some (vint (k0:Int)):=fun w' e=>hck w' (e0.trans e)
 simp only [Nat.add_zero,vint] at qk;have HB3:=lhd B3;have HS0:=lhd hs0;have gki:(0:Int)<(r.kids.length:Int):=by omega
 clear B1 B2 B3 hs0 hd hb hS HR hck HKN H7 hk HAT;unfold vdesc vrule;cases O with
 | none =>
  simp only [intRes] at CI;go_enter Tryz.func87,Tryz.ntmps87;go_wp2_with fail;rw [← HW0.out];refine wp_region_quiet_below (by kernel_rfl) (by kernel_rfl) ?_;repeat (go_big_quiet_step ((go_at_call 77;exact Calls.regrown_of (CI.out _ (e0.trans (by first | assumption | exact Ext_regrown _ _ (Ext.refl _)))))))
  refine wpQuiet_nil (qnl ?_);intro w1 ew1;have hb1:=HB3.out.ext ew1;have r2:=hb1.cell;have f2:=hb1.free;have hput:Hid (Ext w (put3 w1 (w.heap.size+1+1) 0 t0)):=(e0.trans ew1).grown (grown_put3 w1 (w.heap.size+1+1) 0 t0) (fun g hg=>by injection hg with hg;omega)
  go_wp2;exact bodyPost_ret (v:=badRes a 1) (by simp [results,Tryz.results87,go_sem,r2,f2,badRes,zeroV]) rfl (RdOut.bad hput.out)
 | some n =>
  have hle:=HLE.out n rfl;simp only [intRes] at CI;dsimp only
  by_cases ht:tagN r.tags (n:Int)<r.tags.length
  ·rw [if_pos ht]
   have CT1:Hid (∀ w',Ext w w'→Gives Tryz.prog 78 #[.agg (rcs r Rb rb Rn rn Rt rt (some ⟨bk,ok,none⟩) rk),.int .i64 n,.int .i64 0] w' (.int .i64 ((kd r (tagN r.tags n+1):Nat):Int))):=fun w' e=>by have:=CT.out n w' e;rwa [if_pos ht] at this
   have CM1:=lhd (fun w' e=>CM.out n (a+sz) w' ht hle e);clear CT CM;generalize itemsF (readV ds b) r n 1 0 (a+sz) []=Y at *;generalize kd r (tagN r.tags n+1)=kt at *;obtain ⟨R,hR⟩:∃ R,(if Y.code=0 then (⟨.mk n Y.v.bytes Y.v.items,Y.next,0⟩:RR) else Y)=R:=⟨_,rfl⟩;rw [hR];have HRR:=lhd hR;clear hR;go_enter Tryz.func87,Tryz.ntmps87;go_wp2_with fail;rw [← HW0.out];refine wp_region_quiet_below (by kernel_rfl) (by kernel_rfl) ?_;repeat (go_big_quiet_step ((go_at_call 77;exact Calls.regrown_of (CI.out _ (e0.trans (by first | assumption | exact Ext_regrown _ _ (Ext.refl _)))))))
   refine wpQuiet_nil (qnl ?_);intro w1 ew1;have e1:=e0.trans ew1;go_wp2_with fail;refine (CT1.out _ e1).mono ?_;rintro _ w2 ⟨rfl,he2⟩;have e02:=ew1.trans he2;have hCX:=CM1.out _ (e1.trans he2)
   by_cases hc:Y.code=0
   ·have hq:=HRR.out;rw [if_pos hc] at hq;subst hq
    clear HRR;have hcc:((Y.code:Int)==0)=true:=by simp [hc]
    have HC:=lhd hc;clear hc;go_wp2_with fail;refine hCX.mono ?_;rintro _ w3 ⟨t,A1,n1,c1,A2,n2,c2,rfl,hsh,hgt,he3⟩;have e03:=e02.trans he3;have x4:=Ext_alloc (.cells #[.int .i64 (n:Int),.slice A1 n1 c1,.slice A2 n2 c2] 46) (Ext.refl w3);have hb3:=(HB3.out.ext e03).ext x4;have r2:=hb3.cell;have f2:=hb3.free;have hw2:w.heap.size+1+1<w2.heap.size:=(HB3.out.ext e02).lt
    have hww:w.heap.size≤w2.heap.size:=by omega
    have hG:=val_out3 (g:=w.heap.size+1+1) (by omega) ((e0.trans e03).trans x4) (((hgt.out.renum (n:Int)).ext x4).down hww) (fun u hu g hg=>by rw [vals_renum] at hu;have:=(hgt.out.own.block u hu g hg).1;omega) (.int .i64 (n:Int)) (.slice A1 n1 c1) (.slice A2 n2 c2);have HG:=lhd hG;clear hG x4 hb3 hCX;go_wp2;exact bodyPost_ret (v:=.tuple #[.agg #[.int .i64 (n:Int),.slice A1 n1 c1,.slice A2 n2 c2],.int .i64 (Y.next:Int),.int .i64 (Y.code:Int)]) (by simp [results,Tryz.results87,go_sem,r2,f2]) rfl ⟨.mk n t.bs t.vb t.its t.vi,by rw [HC.out];unfold rrVal vval;simp only [VT.vb,VT.vi,DVal.num];have h1:=hsh.out.1;have h2:=hsh.out.2;unfold VT.vb at h1;unfold VT.vi at h2;rw [h1,h2],HG.out.1,HG.out.2⟩
   ·have hq:=HRR.out;rw [if_neg hc] at hq;subst hq
    clear HRR;have hcc:((Y.code:Int)==0)=false:=by simp [hc]
    clear hc;go_wp2_with fail;refine hCX.mono ?_;rintro _ w3 ⟨t,A1,n1,c1,A2,n2,c2,rfl,hsh,hgt,he3⟩;have e03:=e02.trans he3;have x4:=Ext_alloc (.cells #[.int .i64 Y.v.num,.slice A1 n1 c1,.slice A2 n2 c2] 46) (Ext.refl w3);have hb3:=(HB3.out.ext e03).ext x4;have r2:=hb3.cell;have f2:=hb3.free;have hw2:w.heap.size+1+1<w2.heap.size:=(HB3.out.ext e02).lt
    have hww:w.heap.size≤w2.heap.size:=by omega
    have hG:=val_out3 (g:=w.heap.size+1+1) (by omega) ((e0.trans e03).trans x4) ((hgt.out.ext x4).down hww) (fun u hu g hg=>by have:=(hgt.out.own.block u hu g hg).1;omega) (.int .i64 Y.v.num) (.slice A1 n1 c1) (.slice A2 n2 c2);have HG:=lhd hG;clear hG x4 hb3 hCX;go_wp2;exact bodyPost_ret (v:=.tuple #[.agg #[.int .i64 Y.v.num,.slice A1 n1 c1,.slice A2 n2 c2],.int .i64 (Y.next:Int),.int .i64 (Y.code:Int)]) (by simp [results,Tryz.results87,go_sem,r2,f2]) rfl ⟨t,by unfold rrVal vval;rw [hsh.out.1,hsh.out.2],HG.out.1,HG.out.2⟩
  ·rw [if_neg ht]
   have CT1:Hid (∀ w',Ext w w'→Gives Tryz.prog 78 #[.agg (rcs r Rb rb Rn rn Rt rt (some ⟨bk,ok,none⟩) rk),.int .i64 n,.int .i64 0] w' (.int .i64 (-1))):=fun w' e=>by have:=CT.out n w' e;rwa [if_neg ht] at this
   clear CT CM;go_enter Tryz.func87,Tryz.ntmps87;go_wp2_with fail;rw [← HW0.out];refine wp_region_quiet_below (by kernel_rfl) (by kernel_rfl) ?_;repeat (go_big_quiet_step ((go_at_call 77;exact Calls.regrown_of (CI.out _ (e0.trans (by first | assumption | exact Ext_regrown _ _ (Ext.refl _)))))))
   refine wpQuiet_nil (qnl ?_);intro w1 ew1;have e1:=e0.trans ew1;go_wp2_with fail;refine (CT1.out _ e1).mono ?_;rintro _ w2 ⟨rfl,he2⟩;have e02:=ew1.trans he2;have hb1:=HB3.out.ext e02;have r2:=hb1.cell;have f2:=hb1.free;have hput:Hid (Ext w (put3 w2 (w.heap.size+1+1) 0 t0)):=(e0.trans e02).grown (grown_put3 w2 (w.heap.size+1+1) 0 t0) (fun g hg=>by injection hg with hg;omega)
   go_wp2;exact bodyPost_ret (v:=badRes a 3) (by simp [results,Tryz.results87,go_sem,r2,f2,badRes,zeroV]) rfl (RdOut.bad hput.out)
theorem sOption_c (A:Option Addr) (ds:List DRule) (c:Nat) (hok:descOk ds=true) (i:Nat) (hi:i<ds.length) (hk:ds[i].kind=8) (Rb:Option Addr) (rb:Nat) (Rn:Option Addr) (rn:Nat) (Rt:Option Addr) (rt:Nat) (Rk:Option Addr) (rk:Nat)
 (Ab:Option Addr) (b:List UInt8) (cb:Nat) (HR:∀ j,j<i→sReadOk A ds c Ab b cb j) (a:Nat) (ha:a≤b.length) (w:World) (hd:RdD w A ds c) (hb:Bs w Ab b cb) (hS:RdS w ds[i] Rb rb Rn rn Rt rt Rk rk) :
 Calls Tryz.prog 88 #[vdesc (.slice A ds.length c),vrule ds[i] (.slice Rb ds[i].bytes.length rb) (.slice Rn ds[i].names.length rn) (.slice Rt ds[i].tags.length rt) (.slice Rk ds[i].kids.length rk),.slice Ab b.length cb,.int .i64 (a:Int)] w (RdOut (optionF (readV ds b) ds[i] b a) w):=by
 have hl:=hd.len;have hbl:=hb.len;have HK1:=(kids_len hok i hi).2.2.2.2.1 (.inl hk)
 have CM:Hid (∀ (m:Nat) (a':Nat) w',m≤1→a'≤b.length→Ext w w'→Calls Tryz.prog 86 #[.agg #[.slice A ds.length c],.agg (rcs ds[i] Rb rb Rn rn Rt rt Rk rk),.int .i64 0,.int .i64 (m:Int),.slice Ab b.length cb,.int .i64 (a':Int)] w' fun e w''=>∃ (t:VT) (A1:Option Addr) (n1 c1:Nat) (A2:Option Addr) (n2 c2:Nat),e=.returned (.tuple #[.agg #[.int .i64 (itemsF (readV ds b) ds[i] 0 m 0 a' []).v.num,.slice A1 n1 c1,.slice A2 n2 c2],.int .i64 ((itemsF (readV ds b) ds[i] 0 m 0 a' []).next:Int),.int .i64 ((itemsF (readV ds b) ds[i] 0 m 0 a' []).code:Int)])∧Hid (t.vb=.slice A1 n1 c1∧t.vi=.slice A2 n2 c2)∧Hid (GotV w' w'' t (itemsF (readV ds b) ds[i] 0 m 0 a' []).v)∧Ext w' w''):=fun m a' w' hm ha' e =>
  (sItems_c A ds c hok i hi Rb rb Rn rn Rt rt Rk rk Ab b cb 0 m (by omega) (by
   intro k hk';obtain rfl:k=0:=by omega
   exact .inr (.inr (.inr ⟨.inl hk,rfl,by omega⟩))) HR a' ha' w' (hd.ext e) (hb.ext e) (hS.ext e)).mono fun e' w'' h=>RdOut.shape h
 unfold optionF;generalize ds[i]=r at *;obtain ⟨W0,HW0,B1,B2,e0,hs0⟩:=boxes2' w #[.slice A ds.length c] (rcs r Rb rb Rn rn Rt rt Rk rk) 26 96;have B3:=Box.new W0 #[.int .i64 0,.slice none 0 0,.slice none 0 0] 46;have x1:=Ext_alloc (.cells #[.int .i64 0,.slice none 0 0,.slice none 0 0] 46) (Ext.refl W0);obtain ⟨W1,hW1⟩:∃ W1,W1=W0.alloc (.cells #[.int .i64 0,.slice none 0 0,.slice none 0 0] 46):=⟨_,rfl⟩;rw [← hW1] at B3 x1;have hs0':W0.heap.size=w.heap.size+1+1:=by omega
 rw [hs0'] at B3;have d0:∀ w',Ext W0 w'→_=some (Value.slice A ds.length c):=B1.at 0
 have q0:∀ w',Ext W0 w'→_=some (Value.string r.nm):=B2.at 0
 have q1:∀ w',Ext W0 w'→_=some (Value.int .i64 r.kind):=B2.at 1
 have q2:∀ w',Ext W0 w'→_=some (Value.int .i64 r.size):=B2.at 2
 have q3:∀ w',Ext W0 w'→_=some (Value.bool r.little):=B2.at 3
 have q4:∀ w',Ext W0 w'→_=some (Value.slice Rb r.bytes.length rb):=B2.at 4
 have q5:∀ w',Ext W0 w'→_=some (Value.slice Rn r.names.length rn):=B2.at 5
 have q6:∀ w',Ext W0 w'→_=some (Value.slice Rt r.tags.length rt):=B2.at 6
 have q7:∀ w',Ext W0 w'→_=some (Value.slice Rk r.kids.length rk):=B2.at 7
 have HB3:=lhd B3;have HS0:=lhd hs0';have HWW:Hid (W1=(((w.alloc (.cells #[.slice A ds.length c] 26)).alloc (.cells (rcs r Rb rb Rn rn Rt rt Rk rk) 96)).alloc (.cells #[.int .i64 0,.slice none 0 0,.slice none 0 0] 46))):=by show _=_;rw [hW1,HW0.out]
 have hx:=x1.size;clear B1 B2 B3 hs0 hs0' hW1;clear hd hS HR hk HK1;unfold vdesc vrule
 by_cases hge:b.length≤a
 ·rw [List.getElem?_eq_none hge]
  have hgi:(b.length:Int)≤(a:Int):=by omega
  have hput:Hid (Ext w W1):=e0.trans x1
  rw [HWW.out] at hput;go_enter Tryz.func88,Tryz.ntmps88;go_wp2;exact bodyPost_ret (v:=badRes a 1) (by simp [results,Tryz.results88,go_sem,badRes,zeroV]) rfl (RdOut.bad hput.out)
 ·rw [List.getElem?_eq_getElem (show a<b.length by omega)]
  have hgi:¬ (b.length:Int)≤(a:Int):=by omega
  obtain ⟨b1,o1,rfl,hb1,hc1⟩:=hb.at a (by omega);simp only [vu8] at hc1;have h8:=b[a].toNat_lt;dsimp only
  by_cases hx1:1<b[a].toNat
  ·rw [if_pos hx1]
   have hxi:(1:Int)<(b[a].toNat:Int):=by omega
   generalize b[a]=x at *;have hput:=e0.trans x1;have pc:=hc1 _ hput;rw [HWW.out] at hput pc;go_enter Tryz.func88,Tryz.ntmps88;go_wp2;exact bodyPost_ret (v:=badRes a 4) (by simp [results,Tryz.results88,go_sem,badRes,zeroV]) rfl (RdOut.bad hput)
  ·rw [if_neg hx1]
   have hxi:¬ (1:Int)<(b[a].toNat:Int):=by omega
   have CM1:=lhd (fun w' e=>CM.out b[a].toNat (a+1) w' (by omega) (by omega) e);clear CM;generalize b[a]=x at *;generalize itemsF (readV ds b) r 0 x.toNat 0 (a+1) []=Y at *;have hput:=e0.trans x1;have pc:=hc1 _ hput;have p1:=fun w' (e:Ext W0 w')=>hc1 w' (e0.trans e)
   have hwr:IntKind.i64.wrap ((a:Int)+1)=(a:Int)+1:=IntWalk.i64_in _ (by omega)
   have hwx:IntKind.i64.wrap (x.toNat:Int)=(x.toNat:Int):=IntWalk.i64_in _ (by omega)
   have HX1:=lhd x1;rw [HWW.out] at pc;have hlt1:(a:Int)<(b.length:Int):=by omega
   have h0a:(0:Int)≤(a:Int):=by omega
   have SY:Hid (∀ w',Ext W0 w'→Ext W0 w'∧True):=fun _ h1=>⟨h1,trivial⟩
   have hed:=Ext_drew x1;clear hput hx hb hc1;go_enter Tryz.func88,Tryz.ntmps88;go_wp2_with fail;rw [← HWW.out]
   go_region_held3 (fun w'=>Ext W0 w'∧True) (first | exact SY.out _ (Ext_drew x1) | exact SY.out _ (by assumption) | exact SY.out _ (((Ext.setCell hE5 (by have:=HS0.out;simp;omega) _).setCell (by have:=HS0.out;simp;omega) _).setCell (by have:=HS0.out;simp;omega) _)) (first
    | (go_at_call 86;refine (CM1.out _ (e0.trans (Ext_drew x1))).mono ?_;rintro _ w5 ⟨t,A1,n1,c1,A2,n2,c2,rfl,hsh,hgt,he5⟩;have hE5:=(Ext_drew x1).trans he5;have hbz:=HB3.out.ext ((Ext_drew (Ext.refl W1)).trans he5);have z0:w5.cell? ⟨w.heap.size+1+1,0,none⟩=some (Value.int .i64 0):=hbz.cell 0;have z1:w5.cell? ⟨w.heap.size+1+1,1,none⟩=some (Value.slice none 0 0):=hbz.cell 1;have z2:w5.cell? ⟨w.heap.size+1+1,2,none⟩=some (Value.slice none 0 0):=hbz.cell 2;have y0:w5.frozen? ⟨w.heap.size+1+1,0,none⟩=false:=hbz.free 0;have y1:w5.frozen? ⟨w.heap.size+1+1,1,none⟩=false:=hbz.free 1;have y2:w5.frozen? ⟨w.heap.size+1+1,2,none⟩=false:=hbz.free 2))
   all_goals
    have hlw:w.heap.size+1+1<W1.heap.size:=HB3.out.lt
    have hG:=val_out3 (w:=w) (g:=w.heap.size+1+1) (by omega) (e0.trans hE5) (hgt.out.down (w0:=w) (by show w.heap.size≤W1.heap.size;omega)) (fun u hu g hg=>by have h1:=(hgt.out.own.block u hu g hg).1;have h2:W1.heap.size≤g:=h1;omega) (.int .i64 Y.v.num) (.slice A1 n1 c1) (.slice A2 n2 c2);have HG:=lhd hG;clear hG;go_wp2;exact bodyPost_ret (v:=.tuple #[.agg #[.int .i64 Y.v.num,.slice A1 n1 c1,.slice A2 n2 c2],.int .i64 (Y.next:Int),.int .i64 (Y.code:Int)]) (by simp [results,Tryz.results88,go_sem,z0,z1,z2,y0,y1,y2]) rfl ⟨t,by unfold rrVal vval;rw [hsh.out.1,hsh.out.2],HG.out.1,HG.out.2⟩
theorem u8_ne' (x:UInt8) (n:Nat):((x.toNat:Int) !=(n:Int))=decide (x.toNat≠n):=by
 by_cases h:x.toNat=n
 ·rw [h];simp
 ·rw [decide_eq_true h];simp;omega
theorem sChecked_c (A:Option Addr) (ds:List DRule) (c:Nat) (hok:descOk ds=true) (i:Nat) (hi:i<ds.length) (hk:ds[i].kind=9) (Rb:Option Addr) (rb:Nat) (Rn:Option Addr) (rn:Nat) (Rt:Option Addr) (rt:Nat) (Rk:Option Addr) (rk:Nat)
 (Ab:Option Addr) (b:List UInt8) (cb:Nat) (HR:∀ j,j<i→sReadOk A ds c Ab b cb j) (a:Nat) (ha:a≤b.length) (w:World) (hd:RdD w A ds c) (hb:Bs w Ab b cb) (hS:RdS w ds[i] Rb rb Rn rn Rt rt Rk rk) :
 Calls Tryz.prog 89 #[vdesc (.slice A ds.length c),vrule ds[i] (.slice Rb ds[i].bytes.length rb) (.slice Rn ds[i].names.length rn) (.slice Rt ds[i].tags.length rt) (.slice Rk ds[i].kids.length rk),.slice Ab b.length cb,.int .i64 (a:Int)] w (RdOut (checkedF (readV ds b) ds[i] b a) w):=by
 have hl:=hd.len;have hbl:=hb.len;have hbc:=hb.cap;have HK1:=(kids_len hok i hi).2.2.2.2.1 (.inr hk)
 have HAT:∀ k,k<1→ItemAt ds[i] 0 k:=by
  intro k hk';obtain rfl:k=0:=by omega
  exact .inr (.inr (.inr ⟨.inr hk,rfl,by omega⟩))
 have CM1:Hid (∀ w',Ext w w'→Calls Tryz.prog 86 #[.agg #[.slice A ds.length c],.agg (rcs ds[i] Rb rb Rn rn Rt rt Rk rk),.int .i64 0,.int .i64 1,.slice Ab b.length cb,.int .i64 (a:Int)] w' fun e w''=>∃ (t:VT) (A1:Option Addr) (n1 c1:Nat) (A2:Option Addr) (n2 c2:Nat),e=.returned (.tuple #[.agg #[.int .i64 (itemsF (readV ds b) ds[i] 0 1 0 a []).v.num,.slice A1 n1 c1,.slice A2 n2 c2],.int .i64 ((itemsF (readV ds b) ds[i] 0 1 0 a []).next:Int),.int .i64 ((itemsF (readV ds b) ds[i] 0 1 0 a []).code:Int)])∧Hid (t.vb=.slice A1 n1 c1∧t.vi=.slice A2 n2 c2)∧Hid (GotV w' w'' t (itemsF (readV ds b) ds[i] 0 1 0 a []).v)∧Ext w' w''):=fun w' e =>
  (sItems_c A ds c hok i hi Rb rb Rn rn Rt rt Rk rk Ab b cb 0 1 (by omega) HAT HR a ha w' (hd.ext e) (hb.ext e) (hS.ext e)).mono fun e' w'' h=>RdOut.shape h
 have HGE:Hid (a≤(itemsF (readV ds b) ds[i] 0 1 0 a []).next):=itemsF_ge (fun _ _=>readV_ge) _ _ _ _ _ _
 obtain ⟨R,hR⟩:∃ R,checkedF (readV ds b) ds[i] b a=R:=⟨_,rfl⟩;rw [hR];unfold checkedF at hR;generalize ds[i]=r at *;generalize itemsF (readV ds b) r 0 1 0 a []=Y at *;have HRR:=lhd hR;clear hR;obtain ⟨W0,HW0,B1,B2,e0,hs0⟩:=boxes2' w #[.slice A ds.length c] (rcs r Rb rb Rn rn Rt rt Rk rk) 26 96;have B3:=Box.new W0 #[.int .i64 0,.slice none 0 0,.slice none 0 0] 46;have x1:=Ext_alloc (.cells #[.int .i64 0,.slice none 0 0,.slice none 0 0] 46) (Ext.refl W0);obtain ⟨W1,hW1⟩:∃ W1,W1=W0.alloc (.cells #[.int .i64 0,.slice none 0 0,.slice none 0 0] 46):=⟨_,rfl⟩;rw [← hW1] at B3 x1;have hs0':W0.heap.size=w.heap.size+1+1:=by omega
 rw [hs0'] at B3;have d0:∀ w',Ext W0 w'→_=some (Value.slice A ds.length c):=B1.at 0
 have q0:∀ w',Ext W0 w'→_=some (Value.string r.nm):=B2.at 0
 have q1:∀ w',Ext W0 w'→_=some (Value.int .i64 r.kind):=B2.at 1
 have q2:∀ w',Ext W0 w'→_=some (Value.int .i64 r.size):=B2.at 2
 have q3:∀ w',Ext W0 w'→_=some (Value.bool r.little):=B2.at 3
 have q4:∀ w',Ext W0 w'→_=some (Value.slice Rb r.bytes.length rb):=B2.at 4
 have q5:∀ w',Ext W0 w'→_=some (Value.slice Rn r.names.length rn):=B2.at 5
 have q6:∀ w',Ext W0 w'→_=some (Value.slice Rt r.tags.length rt):=B2.at 6
 have q7:∀ w',Ext W0 w'→_=some (Value.slice Rk r.kids.length rk):=B2.at 7
 have HB3:=lhd B3;have HS0:=lhd hs0';have HWW:Hid (W1=(((w.alloc (.cells #[.slice A ds.length c] 26)).alloc (.cells (rcs r Rb rb Rn rn Rt rt Rk rk) 96)).alloc (.cells #[.int .i64 0,.slice none 0 0,.slice none 0 0] 46))):=by show _=_;rw [hW1,HW0.out]
 have hx:=x1.size;clear B1 B2 B3 hs0 hs0' hW1;have e01:=e0.trans x1;clear hd hS HR hk HK1 HAT hx;unfold vdesc vrule
 by_cases hc:Y.code=0
 ·have hcc:((Y.code:Int) !=0)=false:=by simp [hc]
  have hq:=HRR.out;rw [if_pos hc] at hq;clear HRR hc
  by_cases hge:b.length≤Y.next
  ·rw [List.getElem?_eq_none hge] at hq
   subst hq;have hgi:(b.length:Int)≤(Y.next:Int):=by omega
   go_enter Tryz.func89,Tryz.ntmps89;go_wp2_with fail;rw [← HWW.out];refine (CM1.out _ e01).mono ?_;rintro _ w5 ⟨t,A1,n1,c1,A2,n2,c2,rfl,hsh,hgt,he5⟩;have x6:=Ext_alloc (.cells #[.int .i64 Y.v.num,.slice A1 n1 c1,.slice A2 n2 c2] 46) (Ext.refl w5);have e16:=he5.trans x6;have HGT:Hid (∀ w',Ext (w5.alloc (.cells #[.int .i64 Y.v.num,.slice A1 n1 c1,.slice A2 n2 c2] 46)) w'→GotV w w' t Y.v∧∀ u∈t.vals,∀ b,u.ownBlock=some b→b≠w.heap.size+1+1):=fun w' e=>⟨((hgt.out.ext x6).ext e).down (by show w.heap.size≤W1.heap.size;have:=HB3.out.lt;omega),fun u hu g hg=>by have h1:=(hgt.out.own.block u hu g hg).1;have h2:W1.heap.size≤g:=h1;have:=HB3.out.lt;omega⟩
   have HTS:Hid (t.vb=.slice A1 n1 c1∧t.vi=.slice A2 n2 c2):=hsh
   have HE16:=lhd e16;have hbq:=HB3.out.ext HE16.out;have r2:=hbq.cell;have f2:=hbq.free;have hput:=(e01.trans HE16.out).grown (grown_put3 _ (w.heap.size+1+1) 0 t0) (fun g hg=>by injection hg with hg;omega);have HPUT:=lhd hput;clear hput;go_wp2;exact bodyPost_ret (v:=badRes Y.next 1) (by simp [results,Tryz.results89,go_sem,r2,f2,badRes,zeroV]) rfl (RdOut.bad HPUT.out)
  ·rw [List.getElem?_eq_getElem (show Y.next<b.length by omega)] at hq
   dsimp only at hq;have hgi:¬ (b.length:Int)≤(Y.next:Int):=by omega
   have hge0:=HGE.out;obtain ⟨b1,o1,rfl,hb1,hc1⟩:=hb.at Y.next (by omega);simp only [vu8] at hc1
   have CS:Hid (∀ w',Ext w w'→Gives Tryz.prog 133 #[.slice (some ⟨b1,o1+a,none⟩) (Y.next-a) (cb-a)] w' (.int .i64 ((sumB ((b.drop a).take (Y.next-a))%256:Nat):Int))):=fun w' e=>by
    have h1:=rd_sub (hb.ext e) (i:=a) (n:=Y.next-a) (by omega) (by omega);have h2:=sSumOfBytes_c _ _ _ w' h1
    rwa [show ((b.drop a).take (Y.next-a)).length=Y.next-a by simp;omega] at h2
   generalize sumB ((b.drop a).take (Y.next-a))%256=sm at *;have hne:=u8_ne' b[Y.next] sm;have h8:=b[Y.next].toNat_lt;have hs1:(a:Int)≤(Y.next:Int):=by omega
   have hs2:(Y.next:Int)≤(cb:Int):=by omega
   have hca:¬ cb=a:=by omega
   have hnl:(Y.next:Int)<(b.length:Int):=by omega
   have hn0:(0:Int)≤(Y.next:Int):=by omega
   generalize b[Y.next]=x at *
   by_cases hxs:x.toNat=sm
   ·rw [if_pos hxs] at hq
    rw [decide_eq_false (by simpa using hxs)] at hne;subst hq;go_enter Tryz.func89,Tryz.ntmps89;go_wp2_with fail;rw [← HWW.out];refine (CM1.out _ e01).mono ?_;rintro _ w5 ⟨t,A1,n1,c1,A2,n2,c2,rfl,hsh,hgt,he5⟩;have e5:=x1.trans he5;have BX:=Box.new w5 #[.int .i64 Y.v.num,.slice A1 n1 c1,.slice A2 n2 c2] 46;have x6:=Ext_alloc (.cells #[.int .i64 Y.v.num,.slice A1 n1 c1,.slice A2 n2 c2] 46) (Ext.refl w5);obtain ⟨W6,hW6⟩:∃ W6,W6=w5.alloc (.cells #[.int .i64 Y.v.num,.slice A1 n1 c1,.slice A2 n2 c2] 46):=⟨_,rfl⟩;rw [← hW6] at BX x6;have HW6:=lhd hW6;clear hW6;have p0:∀ w',Ext W6 w'→_=some (Value.int .i64 Y.v.num):=BX.at 0
    have p1:∀ w',Ext W6 w'→_=some (Value.slice A1 n1 c1):=BX.at 1
    have p2:∀ w',Ext W6 w'→_=some (Value.slice A2 n2 c2):=BX.at 2
    have e6:=e5.trans x6;have e16:=he5.trans x6;have HGT:Hid (∀ w',Ext W6 w'→GotV w w' t Y.v∧∀ u∈t.vals,∀ b,u.ownBlock=some b→b≠w.heap.size+1+1):=fun w' e=>⟨((hgt.out.ext x6).ext e).down (by show w.heap.size≤W1.heap.size;have:=HB3.out.lt;omega),fun u hu g hg=>by have h1:=(hgt.out.own.block u hu g hg).1;have h2:W1.heap.size≤g:=h1;have:=HB3.out.lt;omega⟩
    clear BX x6 he5;have HTS:Hid (t.vb=.slice A1 n1 c1∧t.vi=.slice A2 n2 c2):=hsh
    go_wp2_with fail;rw [← HW6.out];have px:=fun w' (e:Ext W6 w')=>hc1 w' ((e0.trans e6).trans e)
    refine wp_region_quiet_below (by kernel_rfl) (by kernel_rfl) ?_;repeat (go_big_quiet_step ((go_at_call 133;exact Calls.regrown_of (CS.out _ ((e0.trans e6).trans (by first | assumption | exact Ext_regrown _ _ (Ext.refl _)))))))
    refine wpQuiet_nil (qnl ?_);intro w7 ew7;have hbq:=HB3.out.ext (e16.trans ew7);have r2:=hbq.cell;have f2:=hbq.free;have hG:=val_out3 (w:=w) (g:=w.heap.size+1+1) (by omega) (e01.trans (e16.trans ew7)) (HGT.out w7 ew7).1 (HGT.out w7 ew7).2 (.int .i64 Y.v.num) (.slice A1 n1 c1) (.slice A2 n2 c2);have HG:=lhd hG;clear hG;go_wp2;exact bodyPost_ret (v:=.tuple #[.agg #[.int .i64 Y.v.num,.slice A1 n1 c1,.slice A2 n2 c2],.int .i64 ((Y.next:Int)+1),.int .i64 0]) (by simp [results,Tryz.results89,go_sem,r2,f2]) rfl ⟨t,by first | (unfold rrVal vval;rw [HTS.out.1,HTS.out.2];done) | (unfold rrVal vval;rw [HTS.out.1,HTS.out.2];simp),HG.out.1,HG.out.2⟩
   ·rw [if_neg hxs] at hq
    rw [decide_eq_true (by simpa using hxs)] at hne;subst hq;go_enter Tryz.func89,Tryz.ntmps89;go_wp2_with fail;rw [← HWW.out];refine (CM1.out _ e01).mono ?_;rintro _ w5 ⟨t,A1,n1,c1,A2,n2,c2,rfl,hsh,hgt,he5⟩;have e5:=x1.trans he5;have BX:=Box.new w5 #[.int .i64 Y.v.num,.slice A1 n1 c1,.slice A2 n2 c2] 46;have x6:=Ext_alloc (.cells #[.int .i64 Y.v.num,.slice A1 n1 c1,.slice A2 n2 c2] 46) (Ext.refl w5);obtain ⟨W6,hW6⟩:∃ W6,W6=w5.alloc (.cells #[.int .i64 Y.v.num,.slice A1 n1 c1,.slice A2 n2 c2] 46):=⟨_,rfl⟩;rw [← hW6] at BX x6;have HW6:=lhd hW6;clear hW6;have p0:∀ w',Ext W6 w'→_=some (Value.int .i64 Y.v.num):=BX.at 0
    have p1:∀ w',Ext W6 w'→_=some (Value.slice A1 n1 c1):=BX.at 1
    have p2:∀ w',Ext W6 w'→_=some (Value.slice A2 n2 c2):=BX.at 2
    have e6:=e5.trans x6;have e16:=he5.trans x6;have HGT:Hid (∀ w',Ext W6 w'→GotV w w' t Y.v∧∀ u∈t.vals,∀ b,u.ownBlock=some b→b≠w.heap.size+1+1):=fun w' e=>⟨((hgt.out.ext x6).ext e).down (by show w.heap.size≤W1.heap.size;have:=HB3.out.lt;omega),fun u hu g hg=>by have h1:=(hgt.out.own.block u hu g hg).1;have h2:W1.heap.size≤g:=h1;have:=HB3.out.lt;omega⟩
    clear BX x6 he5;have HTS:Hid (t.vb=.slice A1 n1 c1∧t.vi=.slice A2 n2 c2):=hsh
    go_wp2_with fail;rw [← HW6.out];have px:=fun w' (e:Ext W6 w')=>hc1 w' ((e0.trans e6).trans e)
    refine wp_region_quiet_below (by kernel_rfl) (by kernel_rfl) ?_;repeat (go_big_quiet_step ((go_at_call 133;exact Calls.regrown_of (CS.out _ ((e0.trans e6).trans (by first | assumption | exact Ext_regrown _ _ (Ext.refl _)))))))
    refine wpQuiet_nil (qnl ?_);intro w7 ew7;have hbq:=HB3.out.ext (e16.trans ew7);have r2:=hbq.cell;have f2:=hbq.free;have hput:=(e01.trans (e16.trans ew7)).grown (grown_put3 _ (w.heap.size+1+1) 0 t0) (fun g hg=>by injection hg with hg;omega);have HPUT:=lhd hput;clear hput;go_wp2;exact bodyPost_ret (v:=badRes Y.next 5) (by simp [results,Tryz.results89,go_sem,r2,f2,badRes,zeroV]) rfl (RdOut.bad HPUT.out)
 ·have hcc:((Y.code:Int) !=0)=true:=by simp [hc]
  have hq:=HRR.out;rw [if_neg hc] at hq;subst hq;clear HRR hc;go_enter Tryz.func89,Tryz.ntmps89;go_wp2_with fail;rw [← HWW.out];refine (CM1.out _ e01).mono ?_;rintro _ w5 ⟨t,A1,n1,c1,A2,n2,c2,rfl,hsh,hgt,he5⟩;have x6:=Ext_alloc (.cells #[.int .i64 Y.v.num,.slice A1 n1 c1,.slice A2 n2 c2] 46) (Ext.refl w5);have e16:=he5.trans x6;have HGT:Hid (∀ w',Ext (w5.alloc (.cells #[.int .i64 Y.v.num,.slice A1 n1 c1,.slice A2 n2 c2] 46)) w'→GotV w w' t Y.v∧∀ u∈t.vals,∀ b,u.ownBlock=some b→b≠w.heap.size+1+1):=fun w' e=>⟨((hgt.out.ext x6).ext e).down (by show w.heap.size≤W1.heap.size;have:=HB3.out.lt;omega),fun u hu g hg=>by have h1:=(hgt.out.own.block u hu g hg).1;have h2:W1.heap.size≤g:=h1;have:=HB3.out.lt;omega⟩
  have HTS:Hid (t.vb=.slice A1 n1 c1∧t.vi=.slice A2 n2 c2):=hsh
  have HE16:=lhd e16;have hbq:=HB3.out.ext HE16.out;have r2:=hbq.cell;have f2:=hbq.free;have hG:=val_out3 (w:=w) (g:=w.heap.size+1+1) (by omega) (e01.trans HE16.out) (HGT.out _ (Ext.refl _)).1 (HGT.out _ (Ext.refl _)).2 (.int .i64 Y.v.num) (.slice A1 n1 c1) (.slice A2 n2 c2);have HG:=lhd hG;clear hG;go_wp2;exact bodyPost_ret (v:=.tuple #[.agg #[.int .i64 Y.v.num,.slice A1 n1 c1,.slice A2 n2 c2],.int .i64 (Y.next:Int),.int .i64 (Y.code:Int)]) (by simp [results,Tryz.results89,go_sem,r2,f2]) rfl ⟨t,by first | (unfold rrVal vval;rw [HTS.out.1,HTS.out.2];done) | (unfold rrVal vval;rw [HTS.out.1,HTS.out.2];simp),HG.out.1,HG.out.2⟩
end Go.Proofs.YtpmcofmdjckijaaGreat
