/- Texts, laid into one. -/
import Derived.Test.YtpmcofmdjckijaaGreatZDg31
import Derived.Test.YtpmcofmdjckijaaGreatZDg32
set_option linter.unusedVariables false
set_option linter.unusedSimpArgs false
set_option maxRecDepth 100000
set_option maxHeartbeats 16000000
namespace Go.Proofs.YtpmcofmdjckijaaGreat
open Go.RowKit Go.Sort
theorem box10 {w:World} {g:Nat} {T:TypeId} (a0 a1 a2 a3 a4 a5 a6 a7 a8 a9:Value) (h:Box w g #[a0,a1,a2,a3,a4,a5,a6,a7,a8,a9] T) (u0 u1 u2 u3 u4 u5 u6 u7 u8 u9:Value) :
 Box ((((((((((w.setCell ⟨g,0,none⟩ u0).setCell ⟨g,1,none⟩ u1).setCell ⟨g,2,none⟩ u2).setCell ⟨g,3,none⟩ u3).setCell ⟨g,4,none⟩ u4).setCell ⟨g,5,none⟩ u5).setCell ⟨g,6,none⟩ u6).setCell ⟨g,7,none⟩ u7).setCell ⟨g,8,none⟩ u8).setCell ⟨g,9,none⟩ u9) g #[u0,u1,u2,u3,u4,u5,u6,u7,u8,u9] T:=by
 have h0:Box _ g #[u0,a1,a2,a3,a4,a5,a6,a7,a8,a9] T:=h.set 0 u0
 have h1:Box _ g #[u0,u1,a2,a3,a4,a5,a6,a7,a8,a9] T:=h0.set 1 u1
 have h2:Box _ g #[u0,u1,u2,a3,a4,a5,a6,a7,a8,a9] T:=h1.set 2 u2
 have h3:Box _ g #[u0,u1,u2,u3,a4,a5,a6,a7,a8,a9] T:=h2.set 3 u3
 have h4:Box _ g #[u0,u1,u2,u3,u4,a5,a6,a7,a8,a9] T:=h3.set 4 u4
 have h5:Box _ g #[u0,u1,u2,u3,u4,u5,a6,a7,a8,a9] T:=h4.set 5 u5
 have h6:Box _ g #[u0,u1,u2,u3,u4,u5,u6,a7,a8,a9] T:=h5.set 6 u6
 have h7:Box _ g #[u0,u1,u2,u3,u4,u5,u6,u7,a8,a9] T:=h6.set 7 u7
 have h8:Box _ g #[u0,u1,u2,u3,u4,u5,u6,u7,u8,a9] T:=h7.set 8 u8
 have h9:Box _ g #[u0,u1,u2,u3,u4,u5,u6,u7,u8,u9] T:=h8.set 9 u9
 exact h9
theorem MB.all {W1 wr wc w5:World} {p:Nat} {m q:Mach} {vs vq vs' vq':Value} (h:MB (·<W1.heap.size) W1 wr p m vs vq) (ec:Ext wr wc) (ho1:OwnL vint 3 wc w5 vs' q.stack) (ho2:OwnL vint 3 wc w5 vq' q.sums) (hfar:∀ b,vs'.ownBlock=some b→vq'.ownBlock≠some b) (e5:Ext wc w5) :
 MB (·<W1.heap.size) W1 ((((((((((w5.setCell ⟨p,0,none⟩ (.int .i64 q.pc)).setCell ⟨p,1,none⟩ (.int .i64 q.reg)).setCell ⟨p,2,none⟩ vs').setCell ⟨p,3,none⟩ vq').setCell ⟨p,4,none⟩ (.int .i64 q.left)).setCell ⟨p,5,none⟩ (.bool q.started)).setCell ⟨p,6,none⟩ (.bool q.escaped)).setCell ⟨p,7,none⟩ (.int .i64 q.state)).setCell ⟨p,8,none⟩ (.int .i64 q.code)).setCell ⟨p,9,none⟩ (.int .i64 q.read)) p q vs' vq':=by
 have hp:=(h.box.ext ec).lt;have hs:W1.heap.size≤wc.heap.size:=Nat.le_trans h.ext.size ec.size
 have n1:vs'.ownBlock≠some p:=fun hh=>by have:=(World.ownsRow.lt ho1 _ hh).1;omega
 have n2:vq'.ownBlock≠some p:=fun hh=>by have:=(World.ownsRow.lt ho2 _ hh).1;omega
 have hz:W1.heap.size≤w5.heap.size:=Nat.le_trans hs e5.size
 exact ⟨h.lo,box10 _ _ _ _ _ _ _ _ _ _ (h.box.ext (ec.trans e5)) _ _ _ _ _ _ _ _ _ _,(put10_own ho1 n1 _ _ _ _ _ _ _ _ _ _).down hs,(put10_own ho2 n2 _ _ _ _ _ _ _ _ _ _).down hs,n1,n2,hfar,h.xp,
  fun b hb hx=>by have:=(World.ownsRow.lt ho1 b hb).1;have hx':b<W1.heap.size:=hx;omega,fun b hb hx=>by have:=(World.ownsRow.lt ho2 b hb).1;have hx':b<W1.heap.size:=hx;omega,fun k hk=>by have hk':k<W1.heap.size:=hk;simp;omega,put10_ext (h.ext.trans (ec.trans e5)) h.lo _ _ _ _ _ _ _ _ _ _⟩
theorem sFeedL_c (m:Mach) (A1:Option Addr) (c1:Nat) (A2:Option Addr) (c2:Nat) (Ac:Option Addr) (cs:List Ins) (cc:Nat) (Ae:Option Addr) (es:List Int) (ce:Nat) (Ab:Option Addr) (l:List UInt8) (cb:Nat) (w:World) (hC:RdI w Ac cs cc) (hE:Is w Ae es ce) (hel:es.length≤1000000) (hS:Is w A1 m.stack c1) (hQ:Is w A2 m.sums c2) (hm:m.Ok) (hBs:Bs w Ab l cb) :
 Calls Tryz.prog 27 #[.agg #[.slice Ac cs.length cc,.slice Ae es.length ce],mval m (.slice A1 m.stack.length c1) (.slice A2 m.sums.length c2),.slice Ab l.length cb] w (MRes (feedL (fitsOk cs es) cs m l) w):=by
 unfold MRes;have hl:=hC.len;have hcp:=hC.cap;obtain ⟨W1,hW1,B1,B2,B3,e1,hsz⟩:=boxes3' w #[.slice Ac cs.length cc,.slice Ae es.length ce] (mcells m (.slice A1 m.stack.length c1) (.slice A2 m.sums.length c2)) (mcells ⟨0,0,[],[],0,false,false,0,0,0⟩ (.slice none 0 0) (.slice none 0 0)) 55 67 67;have CC:=lhd (sCopyM_c m A1 c1 A2 c2 W1 (hS.ext e1) (hQ.ext e1) hm);have CF:=lhd (fun (q:Mach) B1 d1 B2 d2 (b:UInt8) w' (e:Ext W1 w') (h1:Is w' B1 q.stack d1) (h2:Is w' B2 q.sums d2) (hq:q.Ok)=>sFeed_c q B1 d1 B2 d2 Ac cs cc Ae es ce (b.toNat:Int) w' (hC.ext (e1.trans e)) (hE.ext (e1.trans e)) hel h1 h2 hq ⟨by omega,by have:=b.toNat_lt;omega⟩);have HOK:Hid (∀ k,(feedL (fitsOk cs es) cs m (l.take k)).Ok):=fun k=>feedL_ok hm
 have HSN:Hid (∀ k (hk:k<l.length),feedL (fitsOk cs es) cs m (l.take (k+1))=feedF (fitsOk cs es) cs (feedL (fitsOk cs es) cs m (l.take k)) (l[k].toNat:Int)):=fun k hk=>feedL_snoc _ _ _ _ k hk
 have H0:Hid (feedL (fitsOk cs es) cs m (l.take 0)=m):=rfl
 have HALL:Hid (feedL (fitsOk cs es) cs m (l.take l.length)=feedL (fitsOk cs es) cs m l):=by show _=_;rw [List.take_length]
 have HBS:=lhd (hBs.ext e1);have hll:=hBs.len;have hlc:=hBs.cap;have HSZ:=lhd hsz;have HE1:=lhd e1;have HB3:=lhd B3;have p0:∀ w',Ext W1 w'→w'.cell? ⟨w.heap.size,0,none⟩=some (Value.slice Ac cs.length cc):=B1.at 0
 have p1:∀ w',Ext W1 w'→w'.cell? ⟨w.heap.size,1,none⟩=some (Value.slice Ae es.length ce):=B1.at 1
 have bx:=B2;unfold mcells at bx;have k0:∀ w',Ext W1 w'→w'.cell? ⟨w.heap.size+1,0,none⟩=some (.int .i64 m.pc):=fun w' e=>(bx.ext e).cell 0
 have k1:∀ w',Ext W1 w'→w'.cell? ⟨w.heap.size+1,1,none⟩=some (.int .i64 m.reg):=fun w' e=>(bx.ext e).cell 1
 have k2:∀ w',Ext W1 w'→w'.cell? ⟨w.heap.size+1,2,none⟩=some (Value.slice A1 m.stack.length c1):=fun w' e=>(bx.ext e).cell 2
 have k3:∀ w',Ext W1 w'→w'.cell? ⟨w.heap.size+1,3,none⟩=some (Value.slice A2 m.sums.length c2):=fun w' e=>(bx.ext e).cell 3
 have k4:∀ w',Ext W1 w'→w'.cell? ⟨w.heap.size+1,4,none⟩=some (.int .i64 m.left):=fun w' e=>(bx.ext e).cell 4
 have k5:∀ w',Ext W1 w'→w'.cell? ⟨w.heap.size+1,5,none⟩=some (.bool m.started):=fun w' e=>(bx.ext e).cell 5
 have k6:∀ w',Ext W1 w'→w'.cell? ⟨w.heap.size+1,6,none⟩=some (.bool m.escaped):=fun w' e=>(bx.ext e).cell 6
 have k7:∀ w',Ext W1 w'→w'.cell? ⟨w.heap.size+1,7,none⟩=some (.int .i64 m.state):=fun w' e=>(bx.ext e).cell 7
 have k8:∀ w',Ext W1 w'→w'.cell? ⟨w.heap.size+1,8,none⟩=some (.int .i64 m.code):=fun w' e=>(bx.ext e).cell 8
 have k9:∀ w',Ext W1 w'→w'.cell? ⟨w.heap.size+1,9,none⟩=some (.int .i64 m.read):=fun w' e=>(bx.ext e).cell 9
 clear B1 B2 B3 hsz hS hQ hC hE hm hBs bx;generalize hf:fitsOk cs es=f at *;clear hf;generalize hFL:(fun t=>feedL f cs m (l.take t))=FL at *;have HFL:Hid (∀ t,feedL f cs m (l.take t)=FL t):=fun t=>by rw [← hFL]
 clear hFL;simp only [HFL.out] at HOK HSN H0 HALL;clear HFL;obtain ⟨R,HRV⟩:∃ R,Hid (feedL f cs m l=R):=⟨_,rfl⟩;rw [HRV.out] at HALL ⊢;clear HRV;unfold MRes mval at CF;unfold mval at *;unfold mcells at *;dsimp only at hW1;go_enter Tryz.func27,Tryz.ntmps27;go_wp2_with fail;rw [← hW1.out];refine CC.out.mono ?_;rintro _ w2 ⟨vs,vq,rfl,ho1,ho2,hfar,e2⟩;obtain ⟨S1,d1',hvs⟩:=ho1.len_shape;obtain ⟨S2,d2',hvq⟩:=ho2.len_shape;subst hvs;subst hvq;have HB:=lhd (MB.laid ho1 ho2 hfar e2);obtain ⟨W3,hW3⟩:=nmw (w2.alloc (.cells (mcells m (.slice S1 m.stack.length d1') (.slice S2 m.sums.length d2')) 67));rw [← hW3.out] at HB;unfold mcells at hW3;clear ho1 ho2 hfar k0 k1 k2 k3 k4 k5 k6 k7 k8 k9 CC;have E3:=HB.out.ext;have e23:Ext w2 W3:=ka hW3
 have HMV:Hid (MV (·<W1.heap.size) W1 W3 w2.heap.size (FL 0)):=by show MV _ _ _ _ _;rw [H0.out];exact ⟨_,_,HB.out⟩
 clear HB E3;go_upto_region 2 with (fail);rw [← hW3.out];clear hW3 e23 e2 H0;go_wp2_with fail;go_loopw [8] (fun q wr=>∃ k:Nat,k≤l.length∧q=.int .i64 (k:Int)∧Hid (MV (·<W1.heap.size) W1 wr w2.heap.size (FL k))) (fun q _=>l.length-(intOf q).toNat)
 case atStart=>exact ⟨0,by omega,rfl,HMV.out⟩
 case round =>
  clear HMV;obtain ⟨k,hk,rfl,hmv⟩:=hrel;obtain ⟨vs3,vq3,hb3⟩:=hmv.out;have hOK:=HOK.out k;obtain ⟨S3,d3,hvs3,hS3⟩:=OwnL.rd hb3.os (by have:=hOK.st;omega);obtain ⟨S4,d4,hvq3,hS4⟩:=OwnL.rd hb3.oq (by have:=hOK.sm;omega);subst hvs3;subst hvq3;have HB:=lhd hb3;have HS3:=lhd hS3;have HS4:=lhd hS4;have HOKk:=lhd hOK;clear hmv hb3 hS3 hS4 hOK;have ER:=HB.out.ext;have hpw:=HB.out.box.lt;have bx:=HB.out.box;unfold mcells at bx
  by_cases hlt:k<l.length
  ·have HNX:=lhd (HSN.out k hlt)
   have u0:∀ w',Ext wr w'→w'.cell? ⟨w2.heap.size,0,none⟩=some (.int .i64 (FL k).pc):=fun w' e=>(bx.ext e).cell 0
   have u1:∀ w',Ext wr w'→w'.cell? ⟨w2.heap.size,1,none⟩=some (.int .i64 (FL k).reg):=fun w' e=>(bx.ext e).cell 1
   have u2:∀ w',Ext wr w'→w'.cell? ⟨w2.heap.size,2,none⟩=some (Value.slice S3 (FL k).stack.length d3):=fun w' e=>(bx.ext e).cell 2
   have u3:∀ w',Ext wr w'→w'.cell? ⟨w2.heap.size,3,none⟩=some (Value.slice S4 (FL k).sums.length d4):=fun w' e=>(bx.ext e).cell 3
   have u4:∀ w',Ext wr w'→w'.cell? ⟨w2.heap.size,4,none⟩=some (.int .i64 (FL k).left):=fun w' e=>(bx.ext e).cell 4
   have u5:∀ w',Ext wr w'→w'.cell? ⟨w2.heap.size,5,none⟩=some (.bool (FL k).started):=fun w' e=>(bx.ext e).cell 5
   have u6:∀ w',Ext wr w'→w'.cell? ⟨w2.heap.size,6,none⟩=some (.bool (FL k).escaped):=fun w' e=>(bx.ext e).cell 6
   have u7:∀ w',Ext wr w'→w'.cell? ⟨w2.heap.size,7,none⟩=some (.int .i64 (FL k).state):=fun w' e=>(bx.ext e).cell 7
   have u8:∀ w',Ext wr w'→w'.cell? ⟨w2.heap.size,8,none⟩=some (.int .i64 (FL k).code):=fun w' e=>(bx.ext e).cell 8
   have u9:∀ w',Ext wr w'→w'.cell? ⟨w2.heap.size,9,none⟩=some (.int .i64 (FL k).read):=fun w' e=>(bx.ext e).cell 9
   obtain ⟨gb,ob,hAb,_,hcb⟩:=HBS.out.at k hlt;subst hAb;have hcl:∀ w',Ext wr w'→w'.cell? ⟨gb,ob+k,none⟩=some (.int .u8 (l[k].toNat:Int)):=fun w' e=>hcb w' (ER.trans e)
   have q0:=fun w' (e:Ext wr w')=>p0 w' (ER.trans e)
   have q1:=fun w' (e:Ext wr w')=>p1 w' (ER.trans e)
   have CF1:=lhd (fun w' (e:Ext wr w')=>CF.out (FL k) S3 d3 S4 d4 l[k] w' (ER.trans e) (HS3.out.ext e) (HS4.out.ext e) HOKk.out);have hki:(k:Int)<(l.length:Int):=by omega
   have hkb:=l[k].toNat_lt;have hcv:IntKind.i64.wrap (l[k].toNat:Int)=(l[k].toNat:Int):=IntWalk.i64_in _ (by omega)
   have hkl:(k:Int)+1≤140737488351232:=by omega
   generalize l[k]=y at *;generalize hq:FL k=q at *;clear hq hcb bx HSN HALL HBS CF p0 p1;have HNX2:Hid (FL (k+1)=feedF f cs q (y.toNat:Int)):=HNX.out
   clear HNX;generalize feedF f cs q (y.toNat:Int)=r at *;go_wp2_with fail;refine region_qtail_below 7 (by kernel_rfl) (by kernel_rfl) ?_;simp only [List.take_succ_cons,List.take_zero,List.drop_succ_cons,List.drop_zero];repeat (go_big_quiet_step (fail))
   refine wpQuiet_nil (qnl ?_);intro w4 e4;go_wp2_with fail;refine (CF1.out w4 e4).mono ?_;rintro _ w5 ⟨vs5,vq5,rfl,ho1,ho2,hfar,e5⟩;obtain ⟨S5,d5,hvs5⟩:=ho1.len_shape;obtain ⟨S6,d6,hvq5⟩:=ho2.len_shape;subst hvs5;subst hvq5;have HB5:=lhd (HB.out.all e4 ho1 ho2 hfar e5);have bx5:=HB.out.box.ext (e4.trans e5);have tt:=bx5.cell;have tf:=bx5.free;unfold mcells at tt;clear ho1 ho2 hfar bx5;go_wp2;go_roundw
   case rel=>exact ⟨k+1,by omega,by go_num,(by show MV _ _ _ _ _;rw [HNX2.out];exact ⟨_,_,HB5.out⟩)⟩
   case measure=>simp [intOf];omega
  ·have hkl:k=l.length:=by omega
   subst hkl;have HA:Hid (R=FL l.length):=by show _=_;exact HALL.out.symm
   have hkd:decide ((l.length:Int)<(l.length:Int))=false:=by simp
   generalize FL l.length=r at *;clear bx;have bx:=HB.out.box;have u0:wr.cell? ⟨w2.heap.size,0,none⟩=some (.int .i64 r.pc):=bx.cell 0
   have u1:wr.cell? ⟨w2.heap.size,1,none⟩=some (.int .i64 r.reg):=bx.cell 1
   have u2:wr.cell? ⟨w2.heap.size,2,none⟩=some (Value.slice S3 r.stack.length d3):=bx.cell 2
   have u3:wr.cell? ⟨w2.heap.size,3,none⟩=some (Value.slice S4 r.sums.length d4):=bx.cell 3
   have u4:wr.cell? ⟨w2.heap.size,4,none⟩=some (.int .i64 r.left):=bx.cell 4
   have u5:wr.cell? ⟨w2.heap.size,5,none⟩=some (.bool r.started):=bx.cell 5
   have u6:wr.cell? ⟨w2.heap.size,6,none⟩=some (.bool r.escaped):=bx.cell 6
   have u7:wr.cell? ⟨w2.heap.size,7,none⟩=some (.int .i64 r.state):=bx.cell 7
   have u8:wr.cell? ⟨w2.heap.size,8,none⟩=some (.int .i64 r.code):=bx.cell 8
   have u9:wr.cell? ⟨w2.heap.size,9,none⟩=some (.int .i64 r.read):=bx.cell 9
   have br:=HB3.out.ext HB.out.ext;have t2:=br.cell;have tf:=br.free;unfold mcells at t2;have FN:=lhd (HB.out.fin HE1.out (g:=w.heap.size+1+1) (by omega) (by rw [HSZ.out];omega));clear bx br;go_wp2;refine bodyPost_ret (v:=.agg #[.int .i64 r.pc,.int .i64 r.reg,(Value.slice S3 r.stack.length d3),(Value.slice S4 r.sums.length d4),.int .i64 r.left,.bool r.started,.bool r.escaped,.int .i64 r.state,.int .i64 r.code,.int .i64 r.read]) (by simp [results,Tryz.results27,go_sem,t2,tf]) rfl ?_;rw [HA.out];exact ⟨_,_,rfl,FN.out.1,FN.out.2.1,HB.out.far,FN.out.2.2⟩
theorem mach0_ok:mach0.Ok:=⟨by simp [mach0],by simp [mach0]⟩
theorem OwnL.is {w0 w:World} {A:Option Addr} {n c:Nat} {l:List Int} (h:OwnL vint 3 w0 w (.slice A n c) l) (hl:l.length≤1000):Is w A l c:=by
 obtain ⟨A',c',hv,h'⟩:=OwnL.rd h (by omega);injection hv with i1 i2 i3
 subst i1;subst i3;exact h'
def s10 (w:World) (g:Nat) (q:Mach) (a b:Value):World:=((((((((((w.setCell ⟨g,0,none⟩ (.int .i64 q.pc)).setCell ⟨g,1,none⟩ (.int .i64 q.reg)).setCell ⟨g,2,none⟩ a).setCell ⟨g,3,none⟩ b).setCell ⟨g,4,none⟩ (.int .i64 q.left)).setCell ⟨g,5,none⟩ (.bool q.started)).setCell ⟨g,6,none⟩ (.bool q.escaped)).setCell ⟨g,7,none⟩ (.int .i64 q.state)).setCell ⟨g,8,none⟩ (.int .i64 q.code)).setCell ⟨g,9,none⟩ (.int .i64 q.read))
def MRs (m:Mach) (w:World) (e:Ending) (w':World):Prop:=∃ S1 d1 S2 d2,e=.returned (mval m (.slice S1 m.stack.length d1) (.slice S2 m.sums.length d2))∧OwnL vint 3 w w' (.slice S1 m.stack.length d1) m.stack∧OwnL vint 3 w w' (.slice S2 m.sums.length d2) m.sums∧Is w' S1 m.stack d1∧Is w' S2 m.sums d2∧Ext w w'
theorem MRes.rs {m:Mach} (hm:m.Ok) {w w':World} {e:Ending} (h:MRes m w e w'):MRs m w e w':=by
 obtain ⟨vs,vq,rfl,o1,o2,_,e1⟩:=h;obtain ⟨S1,d1,rfl⟩:=o1.len_shape;obtain ⟨S2,d2,rfl⟩:=o2.len_shape;exact ⟨S1,d1,S2,d2,rfl,o1,o2,o1.is (by have:=hm.st;omega),o2.is (by have:=hm.sm;omega),e1⟩
theorem MRs_C {f:FuncId} {m:Mach} (C:∀ w,Calls Tryz.prog f #[] w (MRes m w)) (hm:m.Ok) (w:World):Calls Tryz.prog f #[] w (MRs m w):=(C w).mono fun _ _ h=>h.rs hm
theorem MRs_F {f:FuncId} {m:Mach} {args:Array Value} {w:World} (hm:m.Ok) (C:Calls Tryz.prog f args w (MRes m w)):Calls Tryz.prog f args w (MRs m w):=C.mono fun _ _ h=>h.rs hm
theorem compD_len (ds:List DRule):(compD ds).1.length≤1000000∧(compD ds).2.length≤1000000:=by
 unfold compD;cases h:descOk ds
 ·simp
 ·have h1:=compN_len h ds.length (Nat.le_refl _)
  have h2:=compN_ents ds ds.length;have h3:=descOk_24 h;simp only [if_true,List.length_set]
  omega
def FRes (q:Mach) (w:World) (e:Ending) (w':World):Prop:=∃ S1 d1 S2 d2,e=.returned (.tuple #[mval q (.slice S1 q.stack.length d1) (.slice S2 q.sums.length d2),.int .i64 (finO q)])∧Ext w w'
theorem sFin_c (m:Mach) (A1:Option Addr) (c1:Nat) (A2:Option Addr) (c2:Nat) (Ac:Option Addr) (cs:List Ins) (cc:Nat) (Ae:Option Addr) (es:List Int) (ce:Nat) (w:World) (hC:RdI w Ac cs cc) (hE:Is w Ae es ce) (hel:es.length≤1000000) (hS:Is w A1 m.stack c1) (hQ:Is w A2 m.sums c2) (hm:m.Ok) :
 Calls Tryz.prog 41 #[.agg #[.slice Ac cs.length cc,.slice Ae es.length ce],mval m (.slice A1 m.stack.length c1) (.slice A2 m.sums.length c2)] w (FRes (advM cs es m) w):=by
 have hl:=hC.len;have hcp:=hC.cap;obtain ⟨W1,hW1,B1,B2,B3,e1,hsz⟩:=boxes3' w #[.slice Ac cs.length cc,.slice Ae es.length ce] (mcells m (.slice A1 m.stack.length c1) (.slice A2 m.sums.length c2)) (mcells ⟨0,0,[],[],0,false,false,0,0,0⟩ (.slice none 0 0) (.slice none 0 0)) 55 67 67;have CA:=lhd (MRs_F (advM_ok hm) (sAdvM_c m A1 c1 A2 c2 Ac cs cc Ae es ce W1 (hC.ext e1) (hE.ext e1) hel (hS.ext e1) (hQ.ext e1) hm));have HSZ:=lhd hsz;have HE1:=lhd e1;have HB3:=lhd B3;have p0:∀ w',Ext W1 w'→w'.cell? ⟨w.heap.size,0,none⟩=some (Value.slice Ac cs.length cc):=B1.at 0
 have p1:∀ w',Ext W1 w'→w'.cell? ⟨w.heap.size,1,none⟩=some (Value.slice Ae es.length ce):=B1.at 1
 have bx:=B2;unfold mcells at bx;have k0:∀ w',Ext W1 w'→w'.cell? ⟨w.heap.size+1,0,none⟩=some (.int .i64 m.pc):=fun w' e=>(bx.ext e).cell 0
 have k1:∀ w',Ext W1 w'→w'.cell? ⟨w.heap.size+1,1,none⟩=some (.int .i64 m.reg):=fun w' e=>(bx.ext e).cell 1
 have k2:∀ w',Ext W1 w'→w'.cell? ⟨w.heap.size+1,2,none⟩=some (Value.slice A1 m.stack.length c1):=fun w' e=>(bx.ext e).cell 2
 have k3:∀ w',Ext W1 w'→w'.cell? ⟨w.heap.size+1,3,none⟩=some (Value.slice A2 m.sums.length c2):=fun w' e=>(bx.ext e).cell 3
 have k4:∀ w',Ext W1 w'→w'.cell? ⟨w.heap.size+1,4,none⟩=some (.int .i64 m.left):=fun w' e=>(bx.ext e).cell 4
 have k5:∀ w',Ext W1 w'→w'.cell? ⟨w.heap.size+1,5,none⟩=some (.bool m.started):=fun w' e=>(bx.ext e).cell 5
 have k6:∀ w',Ext W1 w'→w'.cell? ⟨w.heap.size+1,6,none⟩=some (.bool m.escaped):=fun w' e=>(bx.ext e).cell 6
 have k7:∀ w',Ext W1 w'→w'.cell? ⟨w.heap.size+1,7,none⟩=some (.int .i64 m.state):=fun w' e=>(bx.ext e).cell 7
 have k8:∀ w',Ext W1 w'→w'.cell? ⟨w.heap.size+1,8,none⟩=some (.int .i64 m.code):=fun w' e=>(bx.ext e).cell 8
 have k9:∀ w',Ext W1 w'→w'.cell? ⟨w.heap.size+1,9,none⟩=some (.int .i64 m.read):=fun w' e=>(bx.ext e).cell 9
 clear B1 B2 B3 hsz hS hQ hC hE hm bx;have k0':=k0 _ (Ext.refl _);have k1':=k1 _ (Ext.refl _);have k2':=k2 _ (Ext.refl _);have k3':=k3 _ (Ext.refl _);have k4':=k4 _ (Ext.refl _);have k5':=k5 _ (Ext.refl _);have k6':=k6 _ (Ext.refl _);have k7':=k7 _ (Ext.refl _);have k8':=k8 _ (Ext.refl _);have k9':=k9 _ (Ext.refl _);have p0':=p0 _ (Ext.refl _);have p1':=p1 _ (Ext.refl _);clear k0 k1 k2 k3 k4 k5 k6 k7 k8 k9 p0 p1;rw [hW1.out] at k0' k1' k2' k3' k4' k5' k6' k7' k8' k9' p0' p1';generalize advM cs es m=q at *;unfold MRs at CA;unfold FRes;unfold mval at *;unfold mcells at *;dsimp only at *;go_enter Tryz.func41,Tryz.ntmps41;go_wp2_with fail;rw [← hW1.out];refine CA.out.mono ?_;rintro _ w2 ⟨S1,d1,S2,d2,rfl,ho1,ho2,_,_,e2⟩;clear k0' k1' k2' k3' k4' k5' k6' k7' k8' k9' p0' p1' CA ho1 ho2;have hs2:=e2.size;have hsz:=HSZ.out;obtain ⟨W3,hW3⟩:=nmw (w2.alloc (.cells #[.int .i64 q.pc,.int .i64 q.reg,.slice S1 q.stack.length d1,.slice S2 q.sums.length d2,.int .i64 q.left,.bool q.started,.bool q.escaped,.int .i64 q.state,.int .i64 q.code,.int .i64 q.read] 67));have HBX:Hid (Box W3 w2.heap.size #[.int .i64 q.pc,.int .i64 q.reg,.slice S1 q.stack.length d1,.slice S2 q.sums.length d2,.int .i64 q.left,.bool q.started,.bool q.escaped,.int .i64 q.state,.int .i64 q.code,.int .i64 q.read] 67):=by rw [hW3.out];exact Box.new _ _ _
 have E3:Ext W1 W3:=by rw [hW3.out];exact Ext_alloc _ e2
 have j7:W3.cell? ⟨w2.heap.size,7,none⟩=some (.int .i64 q.state):=HBX.out.cell 7
 rw [hW3.out] at j7;go_upto_if 12 with (fail);rw [← hW3.out];clear j7;have BR:=lhd (HB3.out.ext E3);have HNE:Hid (w2.heap.size≠w.heap.size+1+1):=by show _≠_;omega
 by_cases h1:q.state=1
 ·have HF:Hid (finO q=0):=by show _=_;unfold finO;rw [if_pos h1]
  have hb1:(q.state==1)=true:=by simp [h1]
  have bx:=HBX.out;have u0:W3.cell? ⟨w2.heap.size,0,none⟩=some (.int .i64 q.pc):=bx.cell 0
  have u1:W3.cell? ⟨w2.heap.size,1,none⟩=some (.int .i64 q.reg):=bx.cell 1
  have u2:W3.cell? ⟨w2.heap.size,2,none⟩=some (Value.slice S1 q.stack.length d1):=bx.cell 2
  have u3:W3.cell? ⟨w2.heap.size,3,none⟩=some (Value.slice S2 q.sums.length d2):=bx.cell 3
  have u4:W3.cell? ⟨w2.heap.size,4,none⟩=some (.int .i64 q.left):=bx.cell 4
  have u5:W3.cell? ⟨w2.heap.size,5,none⟩=some (.bool q.started):=bx.cell 5
  have u6:W3.cell? ⟨w2.heap.size,6,none⟩=some (.bool q.escaped):=bx.cell 6
  have u7:W3.cell? ⟨w2.heap.size,7,none⟩=some (.int .i64 q.state):=bx.cell 7
  have u8:W3.cell? ⟨w2.heap.size,8,none⟩=some (.int .i64 q.code):=bx.cell 8
  have u9:W3.cell? ⟨w2.heap.size,9,none⟩=some (.int .i64 q.read):=bx.cell 9
  have t2:=BR.out.cell;have tf:=BR.out.free;clear bx h1;go_wp2;refine bodyPost_ret (v:=.tuple #[.agg #[.int .i64 q.pc,.int .i64 q.reg,.slice S1 q.stack.length d1,.slice S2 q.sums.length d2,.int .i64 q.left,.bool q.started,.bool q.escaped,.int .i64 q.state,.int .i64 q.code,.int .i64 q.read],.int .i64 0]) (by simp [results,Tryz.results41,go_sem,t2,tf]) rfl ?_;exact ⟨_,_,_,_,by rw [HF.out],put10_ext (HE1.out.trans E3) (by omega) _ _ _ _ _ _ _ _ _ _⟩
 have hb1:(q.state==1)=false:=by simp [h1]
 by_cases h0:q.state=0
 ·have HF:Hid (finO q=1):=by show _=_;unfold finO;rw [if_neg h1,if_pos h0]
  have hb0:(q.state==0)=true:=by simp [h0]
  have bx:=HBX.out;have u0:W3.cell? ⟨w2.heap.size,0,none⟩=some (.int .i64 q.pc):=bx.cell 0
  have u1:W3.cell? ⟨w2.heap.size,1,none⟩=some (.int .i64 q.reg):=bx.cell 1
  have u2:W3.cell? ⟨w2.heap.size,2,none⟩=some (Value.slice S1 q.stack.length d1):=bx.cell 2
  have u3:W3.cell? ⟨w2.heap.size,3,none⟩=some (Value.slice S2 q.sums.length d2):=bx.cell 3
  have u4:W3.cell? ⟨w2.heap.size,4,none⟩=some (.int .i64 q.left):=bx.cell 4
  have u5:W3.cell? ⟨w2.heap.size,5,none⟩=some (.bool q.started):=bx.cell 5
  have u6:W3.cell? ⟨w2.heap.size,6,none⟩=some (.bool q.escaped):=bx.cell 6
  have u7:W3.cell? ⟨w2.heap.size,7,none⟩=some (.int .i64 q.state):=bx.cell 7
  have u8:W3.cell? ⟨w2.heap.size,8,none⟩=some (.int .i64 q.code):=bx.cell 8
  have u9:W3.cell? ⟨w2.heap.size,9,none⟩=some (.int .i64 q.read):=bx.cell 9
  have t2:=BR.out.cell;have tf:=BR.out.free;clear bx h1 h0;go_wp2;refine bodyPost_ret (v:=.tuple #[.agg #[.int .i64 q.pc,.int .i64 q.reg,.slice S1 q.stack.length d1,.slice S2 q.sums.length d2,.int .i64 q.left,.bool q.started,.bool q.escaped,.int .i64 q.state,.int .i64 q.code,.int .i64 q.read],.int .i64 1]) (by simp [results,Tryz.results41,go_sem,t2,tf]) rfl ?_;exact ⟨_,_,_,_,by rw [HF.out],put10_ext (HE1.out.trans E3) (by omega) _ _ _ _ _ _ _ _ _ _⟩
 ·have HF:Hid (finO q=q.code):=by show _=_;unfold finO;rw [if_neg h1,if_neg h0]
  have hb0:(q.state==0)=false:=by simp [h0]
  have bx:=HBX.out;have u0:W3.cell? ⟨w2.heap.size,0,none⟩=some (.int .i64 q.pc):=bx.cell 0
  have u1:W3.cell? ⟨w2.heap.size,1,none⟩=some (.int .i64 q.reg):=bx.cell 1
  have u2:W3.cell? ⟨w2.heap.size,2,none⟩=some (Value.slice S1 q.stack.length d1):=bx.cell 2
  have u3:W3.cell? ⟨w2.heap.size,3,none⟩=some (Value.slice S2 q.sums.length d2):=bx.cell 3
  have u4:W3.cell? ⟨w2.heap.size,4,none⟩=some (.int .i64 q.left):=bx.cell 4
  have u5:W3.cell? ⟨w2.heap.size,5,none⟩=some (.bool q.started):=bx.cell 5
  have u6:W3.cell? ⟨w2.heap.size,6,none⟩=some (.bool q.escaped):=bx.cell 6
  have u7:W3.cell? ⟨w2.heap.size,7,none⟩=some (.int .i64 q.state):=bx.cell 7
  have u8:W3.cell? ⟨w2.heap.size,8,none⟩=some (.int .i64 q.code):=bx.cell 8
  have u9:W3.cell? ⟨w2.heap.size,9,none⟩=some (.int .i64 q.read):=bx.cell 9
  clear bx h1 h0;go_upto_region 7 with (fail);have xd:=Ext_drew (Ext.refl W3);have eS:=Box.ext HBX.out xd;have BR:=lhd (Box.ext BR.out xd);have E3:=lhd (E3.trans xd);clear u0 u1 u2 u3 u4 u5 u6 u7 u8 u9 xd HBX;have HBX:=lhd eS;refine wp_region_HD (S:=fun w'=>Box w' w2.heap.size #[.int .i64 q.pc,.int .i64 q.reg,.slice S1 q.stack.length d1,.slice S2 q.sums.length d2,.int .i64 q.left,.bool q.started,.bool q.escaped,.int .i64 q.state,.int .i64 q.code,.int .i64 q.read] 67) (ofB 5 0) (by kernel_rfl) (by kernel_rfl) ?_;generalize W3.drew=wd at *;refine tkI (i:=0) (some 18) (v:=?_) (ofB 5 1) rfl rfl eS ?_ ?_;rotate_left
  ·(intro w' hSw;have hf0:=hSw.cell 0;have hf1:=hSw.cell 1;have hf2:=hSw.cell 2;have hf3:=hSw.cell 3;have hf4:=hSw.cell 4;have hf5:=hSw.cell 5;have hf6:=hSw.cell 6;have hf7:=hSw.cell 7;have hf8:=hSw.cell 8;have hf9:=hSw.cell 9;clear hSw;go_simp;try with_reducible rfl)
  try simp only [Act.put,lpa,lpz,lps]
  refine tkI (i:=1) (some 19) (v:=?_) (ofB 5 3) rfl rfl eS ?_ ?_;rotate_left
  ·(intro w' hSw;clear hSw;go_simp;try with_reducible rfl)
  try simp only [Act.put,lpa,lpz,lps]
  refine tkI (i:=2) (some 20) (v:=?_) (ofB 5 7) rfl rfl eS ?_ ?_;rotate_left
  ·(intro w' hSw;have hf0:=hSw.cell 8;clear hSw;go_simp;try with_reducible rfl)
  try simp only [Act.put,lpa,lpz,lps]
  refine oneH (i:=3) (none) (ofB 5 15) (by kernel_rfl) rfl rfl (by kernel_rfl) (fun K hK=>?_);have t2:=BR.out.cell;have tf:=BR.out.free;have qB:=lhd (Box.other (g':=w.heap.size+1+1) (Box.other (g':=w.heap.size+1+1) (Box.other (g':=w.heap.size+1+1) (Box.other (g':=w.heap.size+1+1) (Box.other (g':=w.heap.size+1+1) (Box.other (g':=w.heap.size+1+1) (Box.other (g':=w.heap.size+1+1) (Box.other (g':=w.heap.size+1+1) (Box.other (g':=w.heap.size+1+1) (Box.other (g':=w.heap.size+1+1) (HBX.out) HNE.out 0 (.int .i64 q.pc)) HNE.out 1 (.int .i64 q.reg)) HNE.out 2 (.slice S1 q.stack.length d1)) HNE.out 3 (.slice S2 q.sums.length d2)) HNE.out 4 (.int .i64 q.left)) HNE.out 5 (.bool q.started)) HNE.out 6 (.bool q.escaped)) HNE.out 7 (.int .i64 q.state)) HNE.out 8 (.int .i64 q.code)) HNE.out 9 (.int .i64 q.read));go_simp;replace eS:=qB.out;clear t2 tf qB;refine Shut.out hK _ _ eS ?_;try simp only [Act.put,lpa,lpz,lps]
  refine tkI (i:=4) (some 5) (v:=?_) (ofB 5 31) rfl rfl eS ?_ ?_;rotate_left
  ·(intro w' hSw;clear hSw;go_simp;try with_reducible rfl)
  try simp only [Act.put,lpa,lpz,lps]
  refine wpAnyH_done (by kernel_rfl) ?_ _;have t2:=BR.out.cell;have tf:=BR.out.free;clear eS HBX BR;go_wp2;refine bodyPost_ret (v:=.tuple #[.agg #[.int .i64 q.pc,.int .i64 q.reg,.slice S1 q.stack.length d1,.slice S2 q.sums.length d2,.int .i64 q.left,.bool q.started,.bool q.escaped,.int .i64 q.state,.int .i64 q.code,.int .i64 q.read],.int .i64 q.code]) (by simp [results,Tryz.results41,go_sem,t2,tf]) rfl ?_;exact ⟨_,_,_,_,by rw [HF.out],put10_ext (HE1.out.trans E3.out) (by omega) _ _ _ _ _ _ _ _ _ _⟩
theorem sRunP_c (Ac:Option Addr) (cs:List Ins) (cc:Nat) (Ae:Option Addr) (es:List Int) (ce:Nat) (Ab:Option Addr) (l:List UInt8) (cb:Nat) (w:World) (hC:RdI w Ac cs cc) (hE:Is w Ae es ce) (hel:es.length≤1000000) (hBs:Bs w Ab l cb) :
 Gives Tryz.prog 20 #[.agg #[.slice Ac cs.length cc,.slice Ae es.length ce],.slice Ab l.length cb] w (.int .i64 (finO (advM cs es (feedL (fitsOk cs es) cs mach0 l)))):=by
 have hl:=hC.len;have hcp:=hC.cap;obtain ⟨W1,hW1⟩:=nmw (w.alloc (.cells #[.slice Ac cs.length cc,.slice Ae es.length ce] 55));have e1:Ext w W1:=ka hW1
 have BP:Box W1 w.heap.size #[.slice Ac cs.length cc,.slice Ae es.length ce] 55:=kb hW1
 have p0:∀ w',Ext W1 w'→w'.cell? ⟨w.heap.size,0,none⟩=some (Value.slice Ac cs.length cc):=BP.at 0
 have p1:∀ w',Ext W1 w'→w'.cell? ⟨w.heap.size,1,none⟩=some (Value.slice Ae es.length ce):=BP.at 1
 have HOK:Hid (feedL (fitsOk cs es) cs mach0 l).Ok:=feedL_ok mach0_ok
 have CN:=lhd (fun w'=>MRs_C sNewM_c mach0_ok w');have CF:=lhd (fun A1 c1 A2 c2 w' (e:Ext W1 w') (h1:Is w' A1 mach0.stack c1) (h2:Is w' A2 mach0.sums c2)=>MRs_F (feedL_ok mach0_ok) (sFeedL_c mach0 A1 c1 A2 c2 Ac cs cc Ae es ce Ab l cb w' (hC.ext (e1.trans e)) (hE.ext (e1.trans e)) hel h1 h2 mach0_ok (hBs.ext (e1.trans e))));have CE:=lhd (fun A1 c1 A2 c2 w' (e:Ext W1 w') (h1:Is w' A1 (feedL (fitsOk cs es) cs mach0 l).stack c1) (h2:Is w' A2 (feedL (fitsOk cs es) cs mach0 l).sums c2)=>sFin_c (feedL (fitsOk cs es) cs mach0 l) A1 c1 A2 c2 Ac cs cc Ae es ce w' (hC.ext (e1.trans e)) (hE.ext (e1.trans e)) hel h1 h2 HOK.out);generalize feedL (fitsOk cs es) cs mach0 l=q1 at *;generalize advM cs es q1=q2 at *;clear hC hE hel hBs HOK BP;unfold MRs FRes mval at *;unfold mach0 mcells at *;dsimp only at CN CF CE;simp only [List.length_nil] at CN CF;go_enter Tryz.func20,Tryz.ntmps20;go_wp2_with fail;rw [← hW1.out];clear hW1;have eS:Ext W1 W1.drew:=Ext_drew (Ext.refl W1)
 refine wp_region_HD (S:=fun w'=>Ext W1 w') (ofB 12 0) (by kernel_rfl) (by kernel_rfl) ?_;generalize W1.drew=wd at *;refine tkI (i:=0) (some 8) (v:=?_) (ofB 12 1) rfl rfl eS ?_ ?_;rotate_left
 ·(intro w' hSw;have hf0:=p0 w' hSw;have hf1:=p1 w' hSw;clear hSw;go_simp;try with_reducible rfl)
 try simp only [Act.put,lpa,lpz,lps]
 refine tkI (i:=1) (some 9) (v:=?_) (ofB 12 3) rfl rfl eS ?_ ?_;rotate_left
 ·(intro w' hSw;have hf0:=p0 w' hSw;have hf1:=p1 w' hSw;clear hSw;go_simp;try with_reducible rfl)
 try simp only [Act.put,lpa,lpz,lps]
 refine tkI (i:=3) (some 11) (v:=?_) (ofB 12 11) rfl rfl eS ?_ ?_;rotate_left
 ·(intro w' hSw;clear hSw;go_simp;try with_reducible rfl)
 try simp only [Act.put,lpa,lpz,lps]
 refine twoH (i:=2) (j:=9) (some 10) (some 5) (ofB 12 15) (ofB 12 523) (by kernel_rfl) rfl rfl (by kernel_rfl) rfl rfl (by kernel_rfl) (fun K hK=>?_) (fun K hK=>?_)
 ·go_simp
  go_at_call 28;refine (CN.out _).mono ?_;rintro _ wn ⟨S1,d1,S2,d2,rfl,_,_,i1',i2',en⟩;have i1:=lhd i1';have i2:=lhd i2';clear i1' i2';replace eS:=eS.trans en;clear en;refine Shut.out hK _ _ eS ?_;try simp only [Act.put,lpa,lpz,lps]
  refine twoH (i:=4) (j:=9) (some 12) (some 5) (ofB 12 31) (ofB 12 527) (by kernel_rfl) rfl rfl (by kernel_rfl) rfl rfl (by kernel_rfl) (fun K hK=>?_) (fun K hK=>?_)
  ·go_simp
   go_at_call 27;refine (CF.out _ _ _ _ _ eS i1.out i2.out).mono ?_;rintro _ wf ⟨S3,d3,S4,d4,rfl,_,_,i3',i4',ef⟩;have i3:=lhd i3';have i4:=lhd i4';clear i1 i2 i3' i4';replace eS:=eS.trans ef;clear ef;refine Shut.out hK _ _ eS ?_;(try simp only [Act.put,lpa,lpz,lps]);refine twoH (i:=5) (j:=9) (some 13) (some 5) (ofB 12 63) (ofB 12 543) (by kernel_rfl) rfl rfl (by kernel_rfl) rfl rfl (by kernel_rfl) (fun K hK=>?_) (fun K hK=>?_)
   ·go_simp
    go_at_call 41;refine (CE.out _ _ _ _ _ eS i3.out i4.out).mono ?_;rintro _ wg ⟨S5,d5,S6,d6,rfl,eg⟩;clear i3 i4;replace eS:=eS.trans eg;clear eg;refine Shut.out hK _ _ eS ?_;(try simp only [Act.put,lpa,lpz,lps]);refine tkI (i:=6) (some 7) (v:=?_) (ofB 12 127) rfl rfl eS ?_ ?_;rotate_left
    ·(intro w' hSw;clear hSw;go_simp;try with_reducible rfl)
    try simp only [Act.put,lpa,lpz,lps]
    refine tkI (i:=7) (some 14) (v:=?_) (ofB 12 255) rfl rfl eS ?_ ?_;rotate_left
    ·(intro w' hSw;clear hSw;go_simp;try with_reducible rfl)
    try simp only [Act.put,lpa,lpz,lps]
    refine tkI (i:=8) (some 15) (v:=?_) (ofB 12 511) rfl rfl eS ?_ ?_;rotate_left
    ·(intro w' hSw;clear hSw;go_simp;try with_reducible rfl)
    try simp only [Act.put,lpa,lpz,lps]
    refine oneH (i:=9) (some 5) (ofB 12 1023) (by kernel_rfl) rfl rfl (by kernel_rfl) (fun K hK=>?_);have ea:=lhd (Ext_alloc (.cells #[.int .i64 0,.int .i64 0,.slice none 0 0,.slice none 0 0,.int .i64 0,.bool false,.bool false,.int .i64 0,.int .i64 0,.int .i64 0] 67) (Ext.refl wg));have tt:=(Box.new wg #[.int .i64 0,.int .i64 0,.slice none 0 0,.slice none 0 0,.int .i64 0,.bool false,.bool false,.int .i64 0,.int .i64 0,.int .i64 0] 67).cell;have tf:=(Box.new wg #[.int .i64 0,.int .i64 0,.slice none 0 0,.slice none 0 0,.int .i64 0,.bool false,.bool false,.int .i64 0,.int .i64 0,.int .i64 0] 67).free;have eSg:=lhd eS;go_simp;replace eS:=eS.trans ea.out;clear ea;refine Shut.out hK _ _ eS ?_;(try simp only [Act.put,lpa,lpz,lps]);refine oneH (i:=10) (none) (ofB 12 2047) (by kernel_rfl) rfl rfl (by kernel_rfl) (fun K hK=>?_);have ez:=lhd (Ext_alloc (.cells #[.int .i64 q2.pc,.int .i64 q2.reg,.slice S5 q2.stack.length d5,.slice S6 q2.sums.length d6,.int .i64 q2.left,.bool q2.started,.bool q2.escaped,.int .i64 q2.state,.int .i64 q2.code,.int .i64 q2.read] 67) (Ext.refl wg));go_simp;replace eS:=eSg.out.trans ez.out;clear tt tf eSg ez;refine Shut.out hK _ _ eS ?_;(try simp only [Act.put,lpa,lpz,lps]);refine tkI (i:=11) (some 6) (v:=?_) (ofB 12 4095) rfl rfl eS ?_ ?_;rotate_left
    ·(intro w' hSw;clear hSw;go_simp;try with_reducible rfl)
    try simp only [Act.put,lpa,lpz,lps]
    refine wpAnyH_done (by kernel_rfl) ?_ _;go_wp2;go_ret;exact ⟨rfl,e1.trans eS⟩
   ·have ea:=lhd (Ext_alloc (.cells #[.int .i64 0,.int .i64 0,.slice none 0 0,.slice none 0 0,.int .i64 0,.bool false,.bool false,.int .i64 0,.int .i64 0,.int .i64 0] 67) (Ext.refl wf))
    have BG:=lhd (Box.new wf #[.int .i64 0,.int .i64 0,.slice none 0 0,.slice none 0 0,.int .i64 0,.bool false,.bool false,.int .i64 0,.int .i64 0,.int .i64 0] 67);have HGS:W1.heap.size≤wf.heap.size:=eS.size
    replace i3:=lhd (i3.out.ext ea.out);replace i4:=lhd (i4.out.ext ea.out);go_simp;replace eS:=eS.trans ea.out;clear ea;refine Shut.out hK _ _ eS ?_;(try simp only [Act.put,lpa,lpz,lps]);refine oneH (i:=5) (some 13) (ofB 12 575) (by kernel_rfl) rfl rfl (by kernel_rfl) (fun K hK=>?_);go_simp;go_at_call 41;refine (CE.out _ _ _ _ _ eS i3.out i4.out).mono ?_;rintro _ wg ⟨S5,d5,S6,d6,rfl,eg⟩;clear i3 i4;replace eS:=eS.trans eg;replace BG:=lhd (BG.out.ext eg);clear eg;refine Shut.out hK _ _ eS ?_;(try simp only [Act.put,lpa,lpz,lps]);refine tkI (i:=6) (some 7) (v:=?_) (ofB 12 639) rfl rfl eS ?_ ?_;rotate_left
    ·(intro w' hSw;clear hSw;go_simp;try with_reducible rfl)
    try simp only [Act.put,lpa,lpz,lps]
    refine tkI (i:=7) (some 14) (v:=?_) (ofB 12 767) rfl rfl eS ?_ ?_;rotate_left
    ·(intro w' hSw;clear hSw;go_simp;try with_reducible rfl)
    try simp only [Act.put,lpa,lpz,lps]
    refine tkI (i:=8) (some 15) (v:=?_) (ofB 12 1023) rfl rfl eS ?_ ?_;rotate_left
    ·(intro w' hSw;clear hSw;go_simp;try with_reducible rfl)
    try simp only [Act.put,lpa,lpz,lps]
    refine oneH (i:=10) (none) (ofB 12 2047) (by kernel_rfl) rfl rfl (by kernel_rfl) (fun K hK=>?_);have tt:=BG.out.cell;have tf:=BG.out.free;have qS:=lhd (put10_ext eS HGS (.int .i64 q2.pc) (.int .i64 q2.reg) (.slice S5 q2.stack.length d5) (.slice S6 q2.sums.length d6) (.int .i64 q2.left) (.bool q2.started) (.bool q2.escaped) (.int .i64 q2.state) (.int .i64 q2.code) (.int .i64 q2.read));go_simp;replace eS:=qS.out;clear tt tf BG qS;refine Shut.out hK _ _ eS ?_;(try simp only [Act.put,lpa,lpz,lps]);refine tkI (i:=11) (some 6) (v:=?_) (ofB 12 4095) rfl rfl eS ?_ ?_;rotate_left
    ·(intro w' hSw;clear hSw;go_simp;try with_reducible rfl)
    try simp only [Act.put,lpa,lpz,lps]
    refine wpAnyH_done (by kernel_rfl) ?_ _;go_wp2;go_ret;exact ⟨rfl,e1.trans eS⟩
  ·have ea:=lhd (Ext_alloc (.cells #[.int .i64 0,.int .i64 0,.slice none 0 0,.slice none 0 0,.int .i64 0,.bool false,.bool false,.int .i64 0,.int .i64 0,.int .i64 0] 67) (Ext.refl wn))
   have BG:=lhd (Box.new wn #[.int .i64 0,.int .i64 0,.slice none 0 0,.slice none 0 0,.int .i64 0,.bool false,.bool false,.int .i64 0,.int .i64 0,.int .i64 0] 67);have HGS:W1.heap.size≤wn.heap.size:=eS.size
   replace i1:=lhd (i1.out.ext ea.out);replace i2:=lhd (i2.out.ext ea.out);go_simp;replace eS:=eS.trans ea.out;clear ea;refine Shut.out hK _ _ eS ?_;(try simp only [Act.put,lpa,lpz,lps]);refine oneH (i:=4) (some 12) (ofB 12 543) (by kernel_rfl) rfl rfl (by kernel_rfl) (fun K hK=>?_);go_simp;go_at_call 27;refine (CF.out _ _ _ _ _ eS i1.out i2.out).mono ?_;rintro _ wf ⟨S3,d3,S4,d4,rfl,_,_,i3',i4',ef⟩;have i3:=lhd i3';have i4:=lhd i4';clear i1 i2 i3' i4';replace eS:=eS.trans ef;replace BG:=lhd (BG.out.ext ef);clear ef;refine Shut.out hK _ _ eS ?_;(try simp only [Act.put,lpa,lpz,lps]);refine oneH (i:=5) (some 13) (ofB 12 575) (by kernel_rfl) rfl rfl (by kernel_rfl) (fun K hK=>?_);go_simp;go_at_call 41;refine (CE.out _ _ _ _ _ eS i3.out i4.out).mono ?_;rintro _ wg ⟨S5,d5,S6,d6,rfl,eg⟩;clear i3 i4;replace eS:=eS.trans eg;replace BG:=lhd (BG.out.ext eg);clear eg;refine Shut.out hK _ _ eS ?_;(try simp only [Act.put,lpa,lpz,lps]);refine tkI (i:=6) (some 7) (v:=?_) (ofB 12 639) rfl rfl eS ?_ ?_;rotate_left
   ·(intro w' hSw;clear hSw;go_simp;try with_reducible rfl)
   try simp only [Act.put,lpa,lpz,lps]
   refine tkI (i:=7) (some 14) (v:=?_) (ofB 12 767) rfl rfl eS ?_ ?_;rotate_left
   ·(intro w' hSw;clear hSw;go_simp;try with_reducible rfl)
   try simp only [Act.put,lpa,lpz,lps]
   refine tkI (i:=8) (some 15) (v:=?_) (ofB 12 1023) rfl rfl eS ?_ ?_;rotate_left
   ·(intro w' hSw;clear hSw;go_simp;try with_reducible rfl)
   try simp only [Act.put,lpa,lpz,lps]
   refine oneH (i:=10) (none) (ofB 12 2047) (by kernel_rfl) rfl rfl (by kernel_rfl) (fun K hK=>?_);have tt:=BG.out.cell;have tf:=BG.out.free;have qS:=lhd (put10_ext eS HGS (.int .i64 q2.pc) (.int .i64 q2.reg) (.slice S5 q2.stack.length d5) (.slice S6 q2.sums.length d6) (.int .i64 q2.left) (.bool q2.started) (.bool q2.escaped) (.int .i64 q2.state) (.int .i64 q2.code) (.int .i64 q2.read));go_simp;replace eS:=qS.out;clear tt tf BG qS;refine Shut.out hK _ _ eS ?_;(try simp only [Act.put,lpa,lpz,lps]);refine tkI (i:=11) (some 6) (v:=?_) (ofB 12 4095) rfl rfl eS ?_ ?_;rotate_left
   ·(intro w' hSw;clear hSw;go_simp;try with_reducible rfl)
   try simp only [Act.put,lpa,lpz,lps]
   refine wpAnyH_done (by kernel_rfl) ?_ _;go_wp2;go_ret;exact ⟨rfl,e1.trans eS⟩
 ·have ea:=lhd (Ext_alloc (.cells #[.int .i64 0,.int .i64 0,.slice none 0 0,.slice none 0 0,.int .i64 0,.bool false,.bool false,.int .i64 0,.int .i64 0,.int .i64 0] 67) (Ext.refl wd))
  have BG:=lhd (Box.new wd #[.int .i64 0,.int .i64 0,.slice none 0 0,.slice none 0 0,.int .i64 0,.bool false,.bool false,.int .i64 0,.int .i64 0,.int .i64 0] 67);have HGS:W1.heap.size≤wd.heap.size:=eS.size
  go_simp;replace eS:=eS.trans ea.out;clear ea;refine Shut.out hK _ _ eS ?_;try simp only [Act.put,lpa,lpz,lps]
  refine oneH (i:=2) (some 10) (ofB 12 527) (by kernel_rfl) rfl rfl (by kernel_rfl) (fun K hK=>?_);go_simp;go_at_call 28;refine (CN.out _).mono ?_;rintro _ wn ⟨S1,d1,S2,d2,rfl,_,_,i1',i2',en⟩;have i1:=lhd i1';have i2:=lhd i2';clear i1' i2';replace eS:=eS.trans en;replace BG:=lhd (BG.out.ext en);clear en;refine Shut.out hK _ _ eS ?_;try simp only [Act.put,lpa,lpz,lps]
  refine oneH (i:=4) (some 12) (ofB 12 543) (by kernel_rfl) rfl rfl (by kernel_rfl) (fun K hK=>?_);go_simp;go_at_call 27;refine (CF.out _ _ _ _ _ eS i1.out i2.out).mono ?_;rintro _ wf ⟨S3,d3,S4,d4,rfl,_,_,i3',i4',ef⟩;have i3:=lhd i3';have i4:=lhd i4';clear i1 i2 i3' i4';replace eS:=eS.trans ef;replace BG:=lhd (BG.out.ext ef);clear ef;refine Shut.out hK _ _ eS ?_;try simp only [Act.put,lpa,lpz,lps]
  refine oneH (i:=5) (some 13) (ofB 12 575) (by kernel_rfl) rfl rfl (by kernel_rfl) (fun K hK=>?_);go_simp;go_at_call 41;refine (CE.out _ _ _ _ _ eS i3.out i4.out).mono ?_;rintro _ wg ⟨S5,d5,S6,d6,rfl,eg⟩;clear i3 i4;replace eS:=eS.trans eg;replace BG:=lhd (BG.out.ext eg);clear eg;refine Shut.out hK _ _ eS ?_;try simp only [Act.put,lpa,lpz,lps]
  refine tkI (i:=6) (some 7) (v:=?_) (ofB 12 639) rfl rfl eS ?_ ?_;rotate_left
  ·(intro w' hSw;clear hSw;go_simp;try with_reducible rfl)
  try simp only [Act.put,lpa,lpz,lps]
  refine tkI (i:=7) (some 14) (v:=?_) (ofB 12 767) rfl rfl eS ?_ ?_;rotate_left
  ·(intro w' hSw;clear hSw;go_simp;try with_reducible rfl)
  try simp only [Act.put,lpa,lpz,lps]
  refine tkI (i:=8) (some 15) (v:=?_) (ofB 12 1023) rfl rfl eS ?_ ?_;rotate_left
  ·(intro w' hSw;clear hSw;go_simp;try with_reducible rfl)
  try simp only [Act.put,lpa,lpz,lps]
  refine oneH (i:=10) (none) (ofB 12 2047) (by kernel_rfl) rfl rfl (by kernel_rfl) (fun K hK=>?_);have tt:=BG.out.cell;have tf:=BG.out.free;have qS:=lhd (put10_ext eS HGS (.int .i64 q2.pc) (.int .i64 q2.reg) (.slice S5 q2.stack.length d5) (.slice S6 q2.sums.length d6) (.int .i64 q2.left) (.bool q2.started) (.bool q2.escaped) (.int .i64 q2.state) (.int .i64 q2.code) (.int .i64 q2.read));go_simp;replace eS:=qS.out;clear tt tf BG qS;refine Shut.out hK _ _ eS ?_;try simp only [Act.put,lpa,lpz,lps]
  refine tkI (i:=11) (some 6) (v:=?_) (ofB 12 4095) rfl rfl eS ?_ ?_;rotate_left
  ·(intro w' hSw;clear hSw;go_simp;try with_reducible rfl)
  try simp only [Act.put,lpa,lpz,lps]
  refine wpAnyH_done (by kernel_rfl) ?_ _;go_wp2;go_ret;exact ⟨rfl,e1.trans eS⟩
end Go.Proofs.YtpmcofmdjckijaaGreat
