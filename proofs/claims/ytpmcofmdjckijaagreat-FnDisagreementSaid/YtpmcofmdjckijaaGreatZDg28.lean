/- Texts, laid into one. -/
import Derived.Test.YtpmcofmdjckijaaGreatZDg27
import Derived.Test.YtpmcofmdjckijaaGreatZDg25
set_option linter.unusedVariables false
set_option linter.unusedSimpArgs false
set_option maxRecDepth 100000
set_option maxHeartbeats 16000000
namespace Go.Proofs.YtpmcofmdjckijaaGreat
open Go.RowKit Go.Sort
def advM (cs:List Ins) (es:List Int) (m:Mach):Mach :=
 if m.state=0 then (if fitsOk cs es&&!(m.started&&!inB m.pc 0 ((cs.length:Int)-1)) then advN cs 100001 m else m.fail 8) else m
theorem advM_ok {cs:List Ins} {es:List Int} {m:Mach} (h:m.Ok):(advM cs es m).Ok:=by
 unfold advM
 split
 ·split
  ·exact advN_ok cs _ m h
  ·exact h.fail 8
 ·exact h
def MRes (m:Mach) (w:World) (e:Ending) (w':World):Prop:=∃ vs vq,e=.returned (mval m vs vq)∧OwnL vint 3 w w' vs m.stack∧OwnL vint 3 w w' vq m.sums∧(∀ b,vs.ownBlock=some b→vq.ownBlock≠some b)∧Ext w w'
theorem MB.fin {w W1 wr:World} {p g:Nat} {m:Mach} {vs vq:Value} (h:MB (·<W1.heap.size) W1 wr p m vs vq) (e1:Ext w W1) (hg:w.heap.size≤g) (hgl:g<W1.heap.size) :
 OwnL vint 3 w ((((((((((wr.setCell ⟨g,0,none⟩ (.int .i64 m.pc)).setCell ⟨g,1,none⟩ (.int .i64 m.reg)).setCell ⟨g,2,none⟩ vs).setCell ⟨g,3,none⟩ vq).setCell ⟨g,4,none⟩ (.int .i64 m.left)).setCell ⟨g,5,none⟩ (.bool m.started)).setCell ⟨g,6,none⟩ (.bool m.escaped)).setCell ⟨g,7,none⟩ (.int .i64 m.state)).setCell ⟨g,8,none⟩ (.int .i64 m.code)).setCell ⟨g,9,none⟩ (.int .i64 m.read)) vs m.stack ∧
 OwnL vint 3 w ((((((((((wr.setCell ⟨g,0,none⟩ (.int .i64 m.pc)).setCell ⟨g,1,none⟩ (.int .i64 m.reg)).setCell ⟨g,2,none⟩ vs).setCell ⟨g,3,none⟩ vq).setCell ⟨g,4,none⟩ (.int .i64 m.left)).setCell ⟨g,5,none⟩ (.bool m.started)).setCell ⟨g,6,none⟩ (.bool m.escaped)).setCell ⟨g,7,none⟩ (.int .i64 m.state)).setCell ⟨g,8,none⟩ (.int .i64 m.code)).setCell ⟨g,9,none⟩ (.int .i64 m.read)) vq m.sums ∧
 Ext w ((((((((((wr.setCell ⟨g,0,none⟩ (.int .i64 m.pc)).setCell ⟨g,1,none⟩ (.int .i64 m.reg)).setCell ⟨g,2,none⟩ vs).setCell ⟨g,3,none⟩ vq).setCell ⟨g,4,none⟩ (.int .i64 m.left)).setCell ⟨g,5,none⟩ (.bool m.started)).setCell ⟨g,6,none⟩ (.bool m.escaped)).setCell ⟨g,7,none⟩ (.int .i64 m.state)).setCell ⟨g,8,none⟩ (.int .i64 m.code)).setCell ⟨g,9,none⟩ (.int .i64 m.read)) :=
 ⟨(put10_own h.os (fun hh=>h.xs g hh hgl) _ _ _ _ _ _ _ _ _ _).down e1.size,(put10_own h.oq (fun hh=>h.xq g hh hgl) _ _ _ _ _ _ _ _ _ _).down e1.size,put10_ext (e1.trans h.ext) hg _ _ _ _ _ _ _ _ _ _⟩
theorem sAdvM_c (m:Mach) (A1:Option Addr) (c1:Nat) (A2:Option Addr) (c2:Nat) (Ac:Option Addr) (cs:List Ins) (cc:Nat) (Ae:Option Addr) (es:List Int) (ce:Nat) (w:World) (hC:RdI w Ac cs cc) (hE:Is w Ae es ce) (hel:es.length≤1000000) (hS:Is w A1 m.stack c1) (hQ:Is w A2 m.sums c2) (hm:m.Ok) :
 Calls Tryz.prog 72 #[.agg #[.slice Ac cs.length cc,.slice Ae es.length ce],mval m (.slice A1 m.stack.length c1) (.slice A2 m.sums.length c2)] w (MRes (advM cs es m) w):=by
 unfold MRes;have hl:=hC.len;have hcp:=hC.cap;obtain ⟨W1,hW1,B1,B2,B3,e1,hsz⟩:=boxes3' w #[.slice Ac cs.length cc,.slice Ae es.length ce] (mcells m (.slice A1 m.stack.length c1) (.slice A2 m.sums.length c2)) (mcells ⟨0,0,[],[],0,false,false,0,0,0⟩ (.slice none 0 0) (.slice none 0 0)) 55 67 67;have CC:=lhd (sCopyM_c m A1 c1 A2 c2 W1 (hS.ext e1) (hQ.ext e1) hm);have CF:=lhd (fun w' (e:Ext w w')=>sFits_c Ac cs cc Ae es ce w' (hC.ext e) (hE.ext e) hel);have CI:=lhd (fun w'=>l1In_c m.pc 0 ((cs.length:Int)-1) w');have HC:=lhd (hC.ext e1);have HOK:=lhd hm;have HSZ:=lhd hsz;have HE1:=lhd e1;have HB3:=lhd B3;have b2:=fun i=>B2.at i
 have p0:∀ w',Ext W1 w'→w'.cell? ⟨w.heap.size,0,none⟩=some (Value.slice Ac cs.length cc):=B1.at 0
 have p1:∀ w',Ext W1 w'→w'.cell? ⟨w.heap.size,1,none⟩=some (Value.slice Ae es.length ce):=B1.at 1
 have k0:∀ w',Ext W1 w'→w'.cell? ⟨w.heap.size+1,0,none⟩=some (.int .i64 m.pc):=B2.at 0
 have k5:∀ w',Ext W1 w'→w'.cell? ⟨w.heap.size+1,5,none⟩=some (.bool m.started):=B2.at 5
 have k7:∀ w',Ext W1 w'→w'.cell? ⟨w.heap.size+1,7,none⟩=some (.int .i64 m.state):=B2.at 7
 clear B1 B2 B3 hsz hS hQ hC hE hm b2;unfold mval at *;unfold mcells at hW1 CC;dsimp only at hW1;unfold mcells;go_enter Tryz.func72,Tryz.ntmps72;go_wp2_with fail;rw [← hW1.out];refine CC.out.mono ?_;rintro _ w2 ⟨vs,vq,rfl,ho1,ho2,hfar,e2⟩;obtain ⟨S1,d1',hvs⟩:=ho1.len_shape;obtain ⟨S2,d2',hvq⟩:=ho2.len_shape;subst hvs;subst hvq
 have HB:Hid (MB (·<W1.heap.size) W1 (w2.alloc (.cells (mcells m (.slice S1 m.stack.length d1') (.slice S2 m.sums.length d2')) 67)) w2.heap.size m (.slice S1 m.stack.length d1') (.slice S2 m.sums.length d2')):=by
  have h2:=e2.size;exact ⟨h2,Box.new _ _ _,ho1.ext (Ext_alloc _ (Ext.refl _)),ho2.ext (Ext_alloc _ (Ext.refl _)),fun hh=>by have:=(World.ownsRow.lt ho1 _ hh).2;omega,fun hh=>by have:=(World.ownsRow.lt ho2 _ hh).2;omega,hfar,by show ¬ _<_;omega,fun b hb hx=>by have:=(World.ownsRow.lt ho1 b hb).1;have hx':b<W1.heap.size:=hx;omega,fun b hb hx=>by have:=(World.ownsRow.lt ho2 b hb).1;have hx':b<W1.heap.size:=hx;omega,fun k hk=>by have hk':k<W1.heap.size:=hk;simp;omega,Ext_alloc _ e2⟩
 obtain ⟨W3,hW3⟩:=nmw (w2.alloc (.cells (mcells m (.slice S1 m.stack.length d1') (.slice S2 m.sums.length d2')) 67));rw [← hW3.out] at HB;unfold mcells at hW3;clear ho1 ho2 hfar CC;have E3:=HB.out.ext;have j7:=k7 W3 E3;rw [hW3.out] at j7;go_upto_if 10 with (fail);rw [← hW3.out];clear j7;have k0':=fun w' (e:Ext W3 w')=>k0 w' (E3.trans e)
 have k5':=fun w' (e:Ext W3 w')=>k5 w' (E3.trans e)
 have q0':=fun w' (e:Ext W3 w')=>p0 w' (E3.trans e)
 have q1':=fun w' (e:Ext W3 w')=>p1 w' (E3.trans e)
 by_cases hst:m.state=0
 rotate_left
 ·have HA:Hid (advM cs es m=m):=by show _=_;unfold advM;rw [if_neg hst]
  have hnb:(m.state !=0)=true:=by simp [hst]
  have bx:=HB.out.box;have u0:W3.cell? ⟨w2.heap.size,0,none⟩=some (.int .i64 m.pc):=bx.cell 0
  have u1:W3.cell? ⟨w2.heap.size,1,none⟩=some (.int .i64 m.reg):=bx.cell 1
  have u2:W3.cell? ⟨w2.heap.size,2,none⟩=some (Value.slice S1 m.stack.length d1'):=bx.cell 2
  have u3:W3.cell? ⟨w2.heap.size,3,none⟩=some (Value.slice S2 m.sums.length d2'):=bx.cell 3
  have u4:W3.cell? ⟨w2.heap.size,4,none⟩=some (.int .i64 m.left):=bx.cell 4
  have u5:W3.cell? ⟨w2.heap.size,5,none⟩=some (.bool m.started):=bx.cell 5
  have u6:W3.cell? ⟨w2.heap.size,6,none⟩=some (.bool m.escaped):=bx.cell 6
  have u7:W3.cell? ⟨w2.heap.size,7,none⟩=some (.int .i64 m.state):=bx.cell 7
  have u8:W3.cell? ⟨w2.heap.size,8,none⟩=some (.int .i64 m.code):=bx.cell 8
  have u9:W3.cell? ⟨w2.heap.size,9,none⟩=some (.int .i64 m.read):=bx.cell 9
  have br:=HB3.out.ext HB.out.ext;have t2:=br.cell;have tf:=br.free;unfold mcells at t2;have FN:=lhd (HB.out.fin HE1.out (g:=w.heap.size+1+1) (by omega) (by rw [HSZ.out];omega));clear bx br;go_wp2;refine bodyPost_ret (v:=.agg #[.int .i64 m.pc,.int .i64 m.reg,(Value.slice S1 m.stack.length d1'),(Value.slice S2 m.sums.length d2'),.int .i64 m.left,.bool m.started,.bool m.escaped,.int .i64 m.state,.int .i64 m.code,.int .i64 m.read]) (by simp [results,Tryz.results72,go_sem,t2,tf]) rfl ?_;rw [HA.out];exact ⟨_,_,rfl,FN.out.1,FN.out.2.1,HB.out.far,FN.out.2.2⟩
 have hsb:(m.state !=0)=false:=by simp [hst]
 have CF1:=lhd (CF.out W3 (HE1.out.trans E3));have CFA:=lhd (fun w' h=>sFail_c (·<W1.heap.size) W1 w2.heap.size m 8 w' h);have CAD:=lhd (fun w' h hC=>sAdv_c (·<W1.heap.size) W1 w2.heap.size m Ac cs cc Ae es ce w' h HOK.out hC);have HCR:Hid (∀ w',MR (·<W1.heap.size) W3 w'→RdI w' Ac cs cc):=fun w' hr=>HC.out.ext (MR.to_ext ((MR.of_ext E3 (fun k hk=>hk)).trans hr))
 cases hf:fitsOk cs es
 ·rw [hf] at CF1
  have HA:Hid (advM cs es m=m.fail 8):=by show _=_;unfold advM;rw [if_pos hst,hf];rfl
  go_wp2_with fail;refine CF1.out.mono ?_;rintro _ w4 ⟨rfl,e4⟩;go_wp2_with fail;refine (CFA.out _ ⟨_,_,HB.out.next e4⟩).mono ?_;rintro _ w5 ⟨rfl,⟨vs5,vq5,hm5⟩,hr5⟩;generalize m.fail 8=q at *;obtain ⟨S5,d5,hvs5⟩:=hm5.os.len_shape;obtain ⟨S6,d6,hvq5⟩:=hm5.oq.len_shape;subst hvs5;subst hvq5;have HB5:=lhd hm5;clear hm5 hr5;have bx:=HB5.out.box;have u0:w5.cell? ⟨w2.heap.size,0,none⟩=some (.int .i64 q.pc):=bx.cell 0
  have u1:w5.cell? ⟨w2.heap.size,1,none⟩=some (.int .i64 q.reg):=bx.cell 1
  have u2:w5.cell? ⟨w2.heap.size,2,none⟩=some (Value.slice S5 q.stack.length d5):=bx.cell 2
  have u3:w5.cell? ⟨w2.heap.size,3,none⟩=some (Value.slice S6 q.sums.length d6):=bx.cell 3
  have u4:w5.cell? ⟨w2.heap.size,4,none⟩=some (.int .i64 q.left):=bx.cell 4
  have u5:w5.cell? ⟨w2.heap.size,5,none⟩=some (.bool q.started):=bx.cell 5
  have u6:w5.cell? ⟨w2.heap.size,6,none⟩=some (.bool q.escaped):=bx.cell 6
  have u7:w5.cell? ⟨w2.heap.size,7,none⟩=some (.int .i64 q.state):=bx.cell 7
  have u8:w5.cell? ⟨w2.heap.size,8,none⟩=some (.int .i64 q.code):=bx.cell 8
  have u9:w5.cell? ⟨w2.heap.size,9,none⟩=some (.int .i64 q.read):=bx.cell 9
  have br:=HB3.out.ext HB5.out.ext;have t2:=br.cell;have tf:=br.free;unfold mcells at t2;have FN:=lhd (HB5.out.fin HE1.out (g:=w.heap.size+1+1) (by omega) (by rw [HSZ.out];omega));clear bx br;go_wp2;refine bodyPost_ret (v:=.agg #[.int .i64 q.pc,.int .i64 q.reg,(Value.slice S5 q.stack.length d5),(Value.slice S6 q.sums.length d6),.int .i64 q.left,.bool q.started,.bool q.escaped,.int .i64 q.state,.int .i64 q.code,.int .i64 q.read]) (by simp [results,Tryz.results72,go_sem,t2,tf]) rfl ?_;rw [HA.out];exact ⟨_,_,rfl,FN.out.1,FN.out.2.1,HB5.out.far,FN.out.2.2⟩
 rw [hf] at CF1;cases hs:m.started
 ·have HA:Hid (advM cs es m=advN cs 100001 m):=by show _=_;unfold advM;rw [if_pos hst,hf,hs];rfl
  rw [hs] at k5';go_wp2_with fail;refine CF1.out.mono ?_;rintro _ w4 ⟨rfl,e4⟩;have q4:=fun w' (e:Ext w4 w')=>q0' w' (e4.trans e)
  have q41:=fun w' (e:Ext w4 w')=>q1' w' (e4.trans e)
  go_wp2_with fail;refine (CAD.out _ ⟨_,_,HB.out.next e4⟩ (fun w' hr=>HCR.out w' ((MR.of_ext e4 HB.out.low).trans hr))).mono ?_;rintro _ w5 ⟨rfl,⟨vs5,vq5,hm5⟩,hr5⟩;generalize advN cs 100001 m=q at *;obtain ⟨S5,d5,hvs5⟩:=hm5.os.len_shape;obtain ⟨S6,d6,hvq5⟩:=hm5.oq.len_shape;subst hvs5;subst hvq5;have HB5:=lhd hm5;clear hm5 hr5;have bx:=HB5.out.box;have u0:w5.cell? ⟨w2.heap.size,0,none⟩=some (.int .i64 q.pc):=bx.cell 0
  have u1:w5.cell? ⟨w2.heap.size,1,none⟩=some (.int .i64 q.reg):=bx.cell 1
  have u2:w5.cell? ⟨w2.heap.size,2,none⟩=some (Value.slice S5 q.stack.length d5):=bx.cell 2
  have u3:w5.cell? ⟨w2.heap.size,3,none⟩=some (Value.slice S6 q.sums.length d6):=bx.cell 3
  have u4:w5.cell? ⟨w2.heap.size,4,none⟩=some (.int .i64 q.left):=bx.cell 4
  have u5:w5.cell? ⟨w2.heap.size,5,none⟩=some (.bool q.started):=bx.cell 5
  have u6:w5.cell? ⟨w2.heap.size,6,none⟩=some (.bool q.escaped):=bx.cell 6
  have u7:w5.cell? ⟨w2.heap.size,7,none⟩=some (.int .i64 q.state):=bx.cell 7
  have u8:w5.cell? ⟨w2.heap.size,8,none⟩=some (.int .i64 q.code):=bx.cell 8
  have u9:w5.cell? ⟨w2.heap.size,9,none⟩=some (.int .i64 q.read):=bx.cell 9
  have br:=HB3.out.ext HB5.out.ext;have t2:=br.cell;have tf:=br.free;unfold mcells at t2;have FN:=lhd (HB5.out.fin HE1.out (g:=w.heap.size+1+1) (by omega) (by rw [HSZ.out];omega));clear bx br;go_wp2;refine bodyPost_ret (v:=.agg #[.int .i64 q.pc,.int .i64 q.reg,(Value.slice S5 q.stack.length d5),(Value.slice S6 q.sums.length d6),.int .i64 q.left,.bool q.started,.bool q.escaped,.int .i64 q.state,.int .i64 q.code,.int .i64 q.read]) (by simp [results,Tryz.results72,go_sem,t2,tf]) rfl ?_;rw [HA.out];exact ⟨_,_,rfl,FN.out.1,FN.out.2.1,HB5.out.far,FN.out.2.2⟩
 rw [hs] at k5';cases hi:(decide ((0:Int)≤m.pc)&&decide (m.pc≤(cs.length:Int)-1))
 ·rw [hi] at CI
  have HA:Hid (advM cs es m=m.fail 8):=by show _=_;unfold advM inB;rw [if_pos hst,hf,hs,hi];rfl
  go_wp2_with fail;refine CF1.out.mono ?_;rintro _ w4 ⟨rfl,e4⟩;go_wp2_with fail;refine (CI.out _).mono ?_;rintro _ w6 ⟨rfl,e6⟩;have e46:=e4.trans e6;go_wp2_with fail;refine (CFA.out _ ⟨_,_,HB.out.next e46⟩).mono ?_;rintro _ w5 ⟨rfl,⟨vs5,vq5,hm5⟩,hr5⟩;generalize m.fail 8=q at *;obtain ⟨S5,d5,hvs5⟩:=hm5.os.len_shape;obtain ⟨S6,d6,hvq5⟩:=hm5.oq.len_shape;subst hvs5;subst hvq5;have HB5:=lhd hm5;clear hm5 hr5;have bx:=HB5.out.box;have u0:w5.cell? ⟨w2.heap.size,0,none⟩=some (.int .i64 q.pc):=bx.cell 0
  have u1:w5.cell? ⟨w2.heap.size,1,none⟩=some (.int .i64 q.reg):=bx.cell 1
  have u2:w5.cell? ⟨w2.heap.size,2,none⟩=some (Value.slice S5 q.stack.length d5):=bx.cell 2
  have u3:w5.cell? ⟨w2.heap.size,3,none⟩=some (Value.slice S6 q.sums.length d6):=bx.cell 3
  have u4:w5.cell? ⟨w2.heap.size,4,none⟩=some (.int .i64 q.left):=bx.cell 4
  have u5:w5.cell? ⟨w2.heap.size,5,none⟩=some (.bool q.started):=bx.cell 5
  have u6:w5.cell? ⟨w2.heap.size,6,none⟩=some (.bool q.escaped):=bx.cell 6
  have u7:w5.cell? ⟨w2.heap.size,7,none⟩=some (.int .i64 q.state):=bx.cell 7
  have u8:w5.cell? ⟨w2.heap.size,8,none⟩=some (.int .i64 q.code):=bx.cell 8
  have u9:w5.cell? ⟨w2.heap.size,9,none⟩=some (.int .i64 q.read):=bx.cell 9
  have br:=HB3.out.ext HB5.out.ext;have t2:=br.cell;have tf:=br.free;unfold mcells at t2;have FN:=lhd (HB5.out.fin HE1.out (g:=w.heap.size+1+1) (by omega) (by rw [HSZ.out];omega));clear bx br;go_wp2;refine bodyPost_ret (v:=.agg #[.int .i64 q.pc,.int .i64 q.reg,(Value.slice S5 q.stack.length d5),(Value.slice S6 q.sums.length d6),.int .i64 q.left,.bool q.started,.bool q.escaped,.int .i64 q.state,.int .i64 q.code,.int .i64 q.read]) (by simp [results,Tryz.results72,go_sem,t2,tf]) rfl ?_;rw [HA.out];exact ⟨_,_,rfl,FN.out.1,FN.out.2.1,HB5.out.far,FN.out.2.2⟩
 ·rw [hi] at CI
  have HA:Hid (advM cs es m=advN cs 100001 m):=by show _=_;unfold advM inB;rw [if_pos hst,hf,hs,hi];rfl
  go_wp2_with fail;refine CF1.out.mono ?_;rintro _ w4 ⟨rfl,e4⟩;go_wp2_with fail;refine (CI.out _).mono ?_;rintro _ w6 ⟨rfl,e6⟩;have e46:=e4.trans e6;have q6:=fun w' (e:Ext w6 w')=>q0' w' (e46.trans e)
  have q61:=fun w' (e:Ext w6 w')=>q1' w' (e46.trans e)
  go_wp2_with fail;refine (CAD.out _ ⟨_,_,HB.out.next e46⟩ (fun w' hr=>HCR.out w' ((MR.of_ext e46 HB.out.low).trans hr))).mono ?_;rintro _ w5 ⟨rfl,⟨vs5,vq5,hm5⟩,hr5⟩;generalize advN cs 100001 m=q at *;obtain ⟨S5,d5,hvs5⟩:=hm5.os.len_shape;obtain ⟨S6,d6,hvq5⟩:=hm5.oq.len_shape;subst hvs5;subst hvq5;have HB5:=lhd hm5;clear hm5 hr5;have bx:=HB5.out.box;have u0:w5.cell? ⟨w2.heap.size,0,none⟩=some (.int .i64 q.pc):=bx.cell 0
  have u1:w5.cell? ⟨w2.heap.size,1,none⟩=some (.int .i64 q.reg):=bx.cell 1
  have u2:w5.cell? ⟨w2.heap.size,2,none⟩=some (Value.slice S5 q.stack.length d5):=bx.cell 2
  have u3:w5.cell? ⟨w2.heap.size,3,none⟩=some (Value.slice S6 q.sums.length d6):=bx.cell 3
  have u4:w5.cell? ⟨w2.heap.size,4,none⟩=some (.int .i64 q.left):=bx.cell 4
  have u5:w5.cell? ⟨w2.heap.size,5,none⟩=some (.bool q.started):=bx.cell 5
  have u6:w5.cell? ⟨w2.heap.size,6,none⟩=some (.bool q.escaped):=bx.cell 6
  have u7:w5.cell? ⟨w2.heap.size,7,none⟩=some (.int .i64 q.state):=bx.cell 7
  have u8:w5.cell? ⟨w2.heap.size,8,none⟩=some (.int .i64 q.code):=bx.cell 8
  have u9:w5.cell? ⟨w2.heap.size,9,none⟩=some (.int .i64 q.read):=bx.cell 9
  have br:=HB3.out.ext HB5.out.ext;have t2:=br.cell;have tf:=br.free;unfold mcells at t2;have FN:=lhd (HB5.out.fin HE1.out (g:=w.heap.size+1+1) (by omega) (by rw [HSZ.out];omega));clear bx br;go_wp2;refine bodyPost_ret (v:=.agg #[.int .i64 q.pc,.int .i64 q.reg,(Value.slice S5 q.stack.length d5),(Value.slice S6 q.sums.length d6),.int .i64 q.left,.bool q.started,.bool q.escaped,.int .i64 q.state,.int .i64 q.code,.int .i64 q.read]) (by simp [results,Tryz.results72,go_sem,t2,tf]) rfl ?_;rw [HA.out];exact ⟨_,_,rfl,FN.out.1,FN.out.2.1,HB5.out.far,FN.out.2.2⟩
theorem sReadM_c (X:Nat→Prop) (W0:World) (p:Nat) (m:Mach) (x:Ins) (b:Int) (w:World) (h:MV X W0 w p m) (hi:x.1=1→1≤x.2.1∧x.2.1≤4∧0≤m.left∧m.left+1≤x.2.1) (hb:0≤b∧b≤255) :
 Calls Tryz.prog 134 #[.pointer (some ⟨p,0,none⟩),.agg #[.int .i64 x.1,.int .i64 x.2.1,.int .i64 x.2.2],.int .i64 b] w fun e w'=>e=.returned (.tuple #[])∧MV X W0 w' p (m.take x b)∧MR X w w':=by
 obtain ⟨vs,vq,hB⟩:=h;obtain ⟨W1,hW1⟩:=nmw (w.alloc (.cells #[.int .i64 x.1,.int .i64 x.2.1,.int .i64 x.2.2] 79));have e1:Ext w W1:=ka hW1
 have HB:Hid (MB (fun k=>X k∨k=w.heap.size) W0 W1 p m vs vq):=by rw [hW1.out];exact hB.guard _
 have HR1:Hid (MR X w W1):=MR.of_ext e1 hB.low
 have HXW:Hid (∀ k,X k→X k∨k=w.heap.size):=fun k hk=>.inl hk
 have hbi:Box W1 w.heap.size #[.int .i64 x.1,.int .i64 x.2.1,.int .i64 x.2.2] 79:=kb hW1
 have CF:=lhd (fun (c:Int) w' h=>sFail_c (fun k=>X k∨k=w.heap.size) W0 p m c w' h);have i0:∀ w',Ext W1 w'→w'.cell? ⟨w.heap.size,0,none⟩=some (.int .i64 x.1):=hbi.at 0
 have i1:∀ w',Ext W1 w'→w'.cell? ⟨w.heap.size,1,none⟩=some (.int .i64 x.2.1):=hbi.at 1
 have i2:∀ w',Ext W1 w'→w'.cell? ⟨w.heap.size,2,none⟩=some (.int .i64 x.2.2):=hbi.at 2
 have r0:∀ w',Ext W1 w'→w'.cell? ⟨p,0,none⟩=some (.int .i64 m.pc):=HB.out.box.at 0
 have r1:∀ w',Ext W1 w'→w'.cell? ⟨p,1,none⟩=some (.int .i64 m.reg):=HB.out.box.at 1
 have r4:∀ w',Ext W1 w'→w'.cell? ⟨p,4,none⟩=some (.int .i64 m.left):=HB.out.box.at 4
 have r6:∀ w',Ext W1 w'→w'.cell? ⟨p,6,none⟩=some (.bool m.escaped):=HB.out.box.at 6
 have hpl:p<w.heap.size:=hB.box.lt
 have hne:p≠w.heap.size:=by omega
 have hne':w.heap.size≠p:=by omega
 have HTK:Hid (m.take x b=(m.mid x b).1.done (m.mid x b).2):=rfl
 obtain ⟨o,a,z⟩:=x;dsimp only at *;have j0:=i0 W1 (Ext.refl _);have j3:=r0 W1 (Ext.refl _);rw [hW1.out] at j0 j3;go_enter Tryz.func134,Tryz.ntmps134;go_upto_if 14 with (fail);rw [← hW1.out];have hbi':=hbi;clear j0 j3 hB hbi e1
 by_cases h1:o=1
 ·subst h1
  have HMM:∀ q,(if z=1 then { m with reg:=wrap64 (m.reg+wrap64 (b*2^(8*(a-1-m.left)).toNat)) } else { m with reg:=wrap64 (wrap64 (m.reg*256)+b) })=q→Hid (m.mid (1,a,z) b=(q,wrap64 (m.pc+1))):=by
   intro q hq;show _=_;unfold Mach.mid;rw [if_pos rfl];show (_,_)=_;rw [← hq]
  have hw1:IntKind.i64.wrap (a-1)=a-1:=IntWalk.i64_in _ (by have:=hi rfl;omega)
  have hw2:IntKind.i64.wrap (a-1-m.left)=a-1-m.left:=IntWalk.i64_in _ (by have:=hi rfl;omega)
  have hw3:IntKind.i64.wrap (8*(a-1-m.left))=8*(a-1-m.left):=IntWalk.i64_in _ (by have:=hi rfl;omega)
  have hsh:0≤a-1-m.left∧a-1-m.left≤3:=by have:=hi rfl;omega
  by_cases hz:z=1
  ·subst hz
   have HMID:=HMM _ (if_pos rfl);clear HMM;go_wp2_with fail;refine region_qtail_below 19 (by kernel_rfl) (by kernel_rfl) ?_;simp only [List.take_succ_cons,List.take_zero,List.drop_succ_cons,List.drop_zero];repeat (go_big_quiet_step (fail))
   refine wpQuiet_nil (qnl ?_);intro w4 e4;have HB4:=lhd (HB.out.next e4);have HR4:=lhd (HR1.out.trans ((MR.of_ext e4 HB.out.low).weak HXW.out));have f1:=HB4.out.box.free 1;have f1':w4.frozen? ⟨p,1,none⟩=false:=f1
   have hB5:=HB4.out.put (m':={ m with reg:=wrap64 (m.reg+wrap64 (b*2^(8*(a-1-m.left)).toNat)) }) 1 (.int .i64 (wrap64 (m.reg+wrap64 (b*2^(8*(a-1-m.left)).toNat)))) rfl rfl rfl;have hR5:=HR4.out.trans (((MR.set (i:=1) (Value.int .i64 (wrap64 (m.reg+wrap64 (b*2^(8*(a-1-m.left)).toNat)))) HB.out.xp)).weak HXW.out);obtain ⟨w5,hw5⟩:=nmw (w4.setCell ⟨p,1,none⟩ (.int .i64 (wrap64 (m.reg+wrap64 (b*2^(8*(a-1-m.left)).toNat)))));rw [← hw5.out] at hB5 hR5;have HB5:=lhd hB5;have HR5:=lhd hR5;clear hB5 hR5 f1;go_upto_region 19 with (fail);rw [← hw5.out];clear i0 i1 i2 r0 r1 r4 r6 f1';obtain ⟨q5,HQN⟩:∃ q5:Mach,Hid (q5={ m with reg:=wrap64 (m.reg+wrap64 (b*2^(8*(a-1-m.left)).toNat)) }):=⟨_,rfl⟩;rw [← HQN.out] at HB5;have HTQ:Hid (m.take (1,a,1) b=(q5).done (wrap64 (m.pc+1))):=by show _=_;rw [HTK.out,HMID.out,HQN.out]
   have s7:(w5).cell? ⟨p,7,none⟩=some (.int .i64 (q5).state):=HB5.out.box.cell 7
   have s4:(w5).cell? ⟨p,4,none⟩=some (.int .i64 (q5).left):=HB5.out.box.cell 4
   have s5:(w5).cell? ⟨p,5,none⟩=some (.bool (q5).started):=HB5.out.box.cell 5
   have s0:(w5).cell? ⟨p,0,none⟩=some (.int .i64 (q5).pc):=HB5.out.box.cell 0
   have f5:=HB5.out.box.free 5;have f0:=HB5.out.box.free 0;have HRQ:=lhd (HR5.out)
   by_cases A7:(q5).state=0
   ·by_cases A4:(q5).left=0
    ·have HD:Hid (m.take (1,a,1) b={ (q5) with started:=false,pc:=wrap64 (m.pc+1) }):=by show _=_;rw [HTQ.out,Mach.done,if_pos ⟨A7,A4⟩]
     have HBE:=lhd (((HB5.out.put (m':={ (q5) with started:=false }) 5 (.bool false) rfl rfl rfl).put (m':={ (q5) with started:=false,pc:=wrap64 (m.pc+1) }) 0 (.int .i64 (wrap64 (m.pc+1))) rfl rfl rfl).weak HXW.out);have HRE:=lhd (HRQ.out.trans ((MR.set (i:=5) (Value.bool false) HBE.out.xp).trans (MR.set (i:=0) (Value.int .i64 (wrap64 (m.pc+1))) HBE.out.xp)));rw [A7] at s7;rw [A4] at s4;rw [← HD.out] at HBE;clear HTQ HTK HMID;go_wp2;exact bodyPost_end (results_none rfl _ _ _) rfl ⟨rfl,⟨_,_,HBE.out⟩,HRE.out⟩
    ·have HD:Hid (m.take (1,a,1) b=q5):=by show _=_;rw [HTQ.out,Mach.done,if_neg (by simp [A4])]
     have HBE:=lhd (HB5.out.weak HXW.out);have HRE:=HRQ;have A4b:((q5).left==0)=false:=by simp [A4]
     rw [A7] at s7;rw [← HD.out] at HBE;clear HTQ HTK HMID;go_wp2;exact bodyPost_end (results_none rfl _ _ _) rfl ⟨rfl,⟨_,_,HBE.out⟩,HRE.out⟩
   ·have HD:Hid (m.take (1,a,1) b=q5):=by show _=_;rw [HTQ.out,Mach.done,if_neg (by simp [A7])]
    have HBE:=lhd (HB5.out.weak HXW.out);have HRE:=HRQ;have A7b:((q5).state==0)=false:=by simp [A7]
    rw [← HD.out] at HBE;clear HTQ HTK HMID;go_wp2;exact bodyPost_end (results_none rfl _ _ _) rfl ⟨rfl,⟨_,_,HBE.out⟩,HRE.out⟩
  ·have HMID:=HMM _ (if_neg hz)
   have hzb:(z==1)=false:=by simp [hz]
   clear HMM;have f1:=HB.out.box.free 1;have f1':W1.frozen? ⟨p,1,none⟩=false:=f1
   have hB5:=HB.out.put (m':={ m with reg:=wrap64 (wrap64 (m.reg*256)+b) }) 1 (.int .i64 (wrap64 (wrap64 (m.reg*256)+b))) rfl rfl rfl;have hR5:=HR1.out.trans (((MR.set (i:=1) (Value.int .i64 (wrap64 (wrap64 (m.reg*256)+b))) HB.out.xp)).weak HXW.out);obtain ⟨w5,hw5⟩:=nmw (W1.setCell ⟨p,1,none⟩ (.int .i64 (wrap64 (wrap64 (m.reg*256)+b))));rw [← hw5.out] at hB5 hR5;have HB5:=lhd hB5;have HR5:=lhd hR5;clear hB5 hR5 f1;go_upto_region 19 with (fail);rw [← hw5.out];clear i0 i1 i2 r0 r1 r4 r6 f1';obtain ⟨q5,HQN⟩:∃ q5:Mach,Hid (q5={ m with reg:=wrap64 (wrap64 (m.reg*256)+b) }):=⟨_,rfl⟩;rw [← HQN.out] at HB5;have HTQ:Hid (m.take (1,a,z) b=(q5).done (wrap64 (m.pc+1))):=by show _=_;rw [HTK.out,HMID.out,HQN.out]
   have s7:(w5).cell? ⟨p,7,none⟩=some (.int .i64 (q5).state):=HB5.out.box.cell 7
   have s4:(w5).cell? ⟨p,4,none⟩=some (.int .i64 (q5).left):=HB5.out.box.cell 4
   have s5:(w5).cell? ⟨p,5,none⟩=some (.bool (q5).started):=HB5.out.box.cell 5
   have s0:(w5).cell? ⟨p,0,none⟩=some (.int .i64 (q5).pc):=HB5.out.box.cell 0
   have f5:=HB5.out.box.free 5;have f0:=HB5.out.box.free 0;have HRQ:=lhd (HR5.out)
   by_cases A7:(q5).state=0
   ·by_cases A4:(q5).left=0
    ·have HD:Hid (m.take (1,a,z) b={ (q5) with started:=false,pc:=wrap64 (m.pc+1) }):=by show _=_;rw [HTQ.out,Mach.done,if_pos ⟨A7,A4⟩]
     have HBE:=lhd (((HB5.out.put (m':={ (q5) with started:=false }) 5 (.bool false) rfl rfl rfl).put (m':={ (q5) with started:=false,pc:=wrap64 (m.pc+1) }) 0 (.int .i64 (wrap64 (m.pc+1))) rfl rfl rfl).weak HXW.out);have HRE:=lhd (HRQ.out.trans ((MR.set (i:=5) (Value.bool false) HBE.out.xp).trans (MR.set (i:=0) (Value.int .i64 (wrap64 (m.pc+1))) HBE.out.xp)));rw [A7] at s7;rw [A4] at s4;rw [← HD.out] at HBE;clear HTQ HTK HMID;go_wp2;exact bodyPost_end (results_none rfl _ _ _) rfl ⟨rfl,⟨_,_,HBE.out⟩,HRE.out⟩
    ·have HD:Hid (m.take (1,a,z) b=q5):=by show _=_;rw [HTQ.out,Mach.done,if_neg (by simp [A4])]
     have HBE:=lhd (HB5.out.weak HXW.out);have HRE:=HRQ;have A4b:((q5).left==0)=false:=by simp [A4]
     rw [A7] at s7;rw [← HD.out] at HBE;clear HTQ HTK HMID;go_wp2;exact bodyPost_end (results_none rfl _ _ _) rfl ⟨rfl,⟨_,_,HBE.out⟩,HRE.out⟩
   ·have HD:Hid (m.take (1,a,z) b=q5):=by show _=_;rw [HTQ.out,Mach.done,if_neg (by simp [A7])]
    have HBE:=lhd (HB5.out.weak HXW.out);have HRE:=HRQ;have A7b:((q5).state==0)=false:=by simp [A7]
    rw [← HD.out] at HBE;clear HTQ HTK HMID;go_wp2;exact bodyPost_end (results_none rfl _ _ _) rfl ⟨rfl,⟨_,_,HBE.out⟩,HRE.out⟩
 have n1:(o==1)=false:=by simp [h1]
 by_cases h2:o=2
 ·subst h2
  have HMM:∀ q,(if b=a then m else m.fail 2)=q→Hid (m.mid (2,a,z) b=(q,wrap64 (m.pc+1))):=by
   intro q hq;show _=_;unfold Mach.mid;rw [if_neg (by show ¬ (2:Int)=1;decide),if_pos rfl];show (_,_)=_;rw [← hq]
  by_cases hba:b=a
  ·have hb1:(b !=a)=false:=by simp [hba]
   have HMID:=HMM m (if_pos hba);clear HMM hba;have HTQ:Hid (m.take (2,a,z) b=(m).done (wrap64 (m.pc+1))):=by show _=_;rw [HTK.out,HMID.out]
   have s7:(W1).cell? ⟨p,7,none⟩=some (.int .i64 (m).state):=HB.out.box.cell 7
   have s4:(W1).cell? ⟨p,4,none⟩=some (.int .i64 (m).left):=HB.out.box.cell 4
   have s5:(W1).cell? ⟨p,5,none⟩=some (.bool (m).started):=HB.out.box.cell 5
   have s0:(W1).cell? ⟨p,0,none⟩=some (.int .i64 (m).pc):=HB.out.box.cell 0
   have f5:=HB.out.box.free 5;have f0:=HB.out.box.free 0;have HRQ:=lhd (HR1.out)
   by_cases A7:(m).state=0
   ·by_cases A4:(m).left=0
    ·have HD:Hid (m.take (2,a,z) b={ (m) with started:=false,pc:=wrap64 (m.pc+1) }):=by show _=_;rw [HTQ.out,Mach.done,if_pos ⟨A7,A4⟩]
     have HBE:=lhd (((HB.out.put (m':={ (m) with started:=false }) 5 (.bool false) rfl rfl rfl).put (m':={ (m) with started:=false,pc:=wrap64 (m.pc+1) }) 0 (.int .i64 (wrap64 (m.pc+1))) rfl rfl rfl).weak HXW.out);have HRE:=lhd (HRQ.out.trans ((MR.set (i:=5) (Value.bool false) HBE.out.xp).trans (MR.set (i:=0) (Value.int .i64 (wrap64 (m.pc+1))) HBE.out.xp)));rw [A7] at s7;rw [A4] at s4;rw [← HD.out] at HBE;clear HTQ HTK HMID;go_wp2;exact bodyPost_end (results_none rfl _ _ _) rfl ⟨rfl,⟨_,_,HBE.out⟩,HRE.out⟩
    ·have HD:Hid (m.take (2,a,z) b=m):=by show _=_;rw [HTQ.out,Mach.done,if_neg (by simp [A4])]
     have HBE:=lhd (HB.out.weak HXW.out);have HRE:=HRQ;have A4b:((m).left==0)=false:=by simp [A4]
     rw [A7] at s7;rw [← HD.out] at HBE;clear HTQ HTK HMID;go_wp2;exact bodyPost_end (results_none rfl _ _ _) rfl ⟨rfl,⟨_,_,HBE.out⟩,HRE.out⟩
   ·have HD:Hid (m.take (2,a,z) b=m):=by show _=_;rw [HTQ.out,Mach.done,if_neg (by simp [A7])]
    have HBE:=lhd (HB.out.weak HXW.out);have HRE:=HRQ;have A7b:((m).state==0)=false:=by simp [A7]
    rw [← HD.out] at HBE;clear HTQ HTK HMID;go_wp2;exact bodyPost_end (results_none rfl _ _ _) rfl ⟨rfl,⟨_,_,HBE.out⟩,HRE.out⟩
  ·have hb1:(b !=a)=true:=by simp [hba]
   have HMID:=HMM (m.fail 2) (if_neg hba);clear HMM hba;go_wp2_with fail;refine (CF.out 2 _ ⟨_,_,HB.out⟩).mono ?_;rintro _ w5 ⟨rfl,⟨vs5,vq5,hm5⟩,hr5⟩;have HB5:=lhd hm5;have HR5:=lhd (HR1.out.trans (hr5.weak HXW.out));have q0:∀ w',Ext w5 w'→w'.cell? ⟨w.heap.size,0,none⟩=some (.int .i64 2):=fun w' e=>by rw [Below.cell e (HB5.out.low _ (.inr rfl)),MR.cell hr5 (.inr rfl)];exact i0 W1 (Ext.refl _)
   have q1:∀ w',Ext w5 w'→w'.cell? ⟨w.heap.size,1,none⟩=some (.int .i64 a):=fun w' e=>by rw [Below.cell e (HB5.out.low _ (.inr rfl)),MR.cell hr5 (.inr rfl)];exact i1 W1 (Ext.refl _)
   have q0':=q0 w5 (Ext.refl _);have q1':=q1 w5 (Ext.refl _);clear hm5 hr5 i0 i1 i2 r0 r1 r4 r6;have HTQ:Hid (m.take (2,a,z) b=(m.fail 2).done (wrap64 (m.pc+1))):=by show _=_;rw [HTK.out,HMID.out]
   have s7:(w5).cell? ⟨p,7,none⟩=some (.int .i64 (m.fail 2).state):=HB5.out.box.cell 7
   have s4:(w5).cell? ⟨p,4,none⟩=some (.int .i64 (m.fail 2).left):=HB5.out.box.cell 4
   have s5:(w5).cell? ⟨p,5,none⟩=some (.bool (m.fail 2).started):=HB5.out.box.cell 5
   have s0:(w5).cell? ⟨p,0,none⟩=some (.int .i64 (m.fail 2).pc):=HB5.out.box.cell 0
   have f5:=HB5.out.box.free 5;have f0:=HB5.out.box.free 0;have HRQ:=lhd (HR5.out)
   by_cases A7:(m.fail 2).state=0
   ·by_cases A4:(m.fail 2).left=0
    ·have HD:Hid (m.take (2,a,z) b={ (m.fail 2) with started:=false,pc:=wrap64 (m.pc+1) }):=by show _=_;rw [HTQ.out,Mach.done,if_pos ⟨A7,A4⟩]
     have HBE:=lhd (((HB5.out.put (m':={ (m.fail 2) with started:=false }) 5 (.bool false) rfl rfl rfl).put (m':={ (m.fail 2) with started:=false,pc:=wrap64 (m.pc+1) }) 0 (.int .i64 (wrap64 (m.pc+1))) rfl rfl rfl).weak HXW.out);have HRE:=lhd (HRQ.out.trans ((MR.set (i:=5) (Value.bool false) HBE.out.xp).trans (MR.set (i:=0) (Value.int .i64 (wrap64 (m.pc+1))) HBE.out.xp)));rw [A7] at s7;rw [A4] at s4;rw [← HD.out] at HBE;clear HTQ HTK HMID;go_wp2;exact bodyPost_end (results_none rfl _ _ _) rfl ⟨rfl,⟨_,_,HBE.out⟩,HRE.out⟩
    ·have HD:Hid (m.take (2,a,z) b=m.fail 2):=by show _=_;rw [HTQ.out,Mach.done,if_neg (by simp [A4])]
     have HBE:=lhd (HB5.out.weak HXW.out);have HRE:=HRQ;have A4b:((m.fail 2).left==0)=false:=by simp [A4]
     rw [A7] at s7;rw [← HD.out] at HBE;clear HTQ HTK HMID;go_wp2;exact bodyPost_end (results_none rfl _ _ _) rfl ⟨rfl,⟨_,_,HBE.out⟩,HRE.out⟩
   ·have HD:Hid (m.take (2,a,z) b=m.fail 2):=by show _=_;rw [HTQ.out,Mach.done,if_neg (by simp [A7])]
    have HBE:=lhd (HB5.out.weak HXW.out);have HRE:=HRQ;have A7b:((m.fail 2).state==0)=false:=by simp [A7]
    rw [← HD.out] at HBE;clear HTQ HTK HMID;go_wp2;exact bodyPost_end (results_none rfl _ _ _) rfl ⟨rfl,⟨_,_,HBE.out⟩,HRE.out⟩
 have n2:(o==2)=false:=by simp [h2]
 by_cases h13:o=13
 ·subst h13
  have HMM:∀ q nx,(if 1<b then m.fail 4 else m)=q→(if b=0 then a else wrap64 (m.pc+1))=nx→Hid (m.mid (13,a,z) b=(q,nx)):=by
   intro q nx hq hx;show _=_;unfold Mach.mid;rw [if_neg (by show ¬ (13:Int)=1;decide),if_neg (by show ¬ (13:Int)=2;decide),if_pos rfl];show (_,_)=_;rw [← hq,← hx]
  by_cases hb2:1<b
  ·have hb1:decide (1<b)=true:=decide_eq_true hb2
   have hb0:(b==0)=false:=by simp;omega
   have HMID:=HMM (m.fail 4) (wrap64 (m.pc+1)) (if_pos hb2) (if_neg (by omega));clear HMM;go_wp2_with fail;refine (CF.out 4 _ ⟨_,_,HB.out⟩).mono ?_;rintro _ w5 ⟨rfl,⟨vs5,vq5,hm5⟩,hr5⟩;have HB5:=lhd hm5;have HR5:=lhd (HR1.out.trans (hr5.weak HXW.out));have q0:∀ w',Ext w5 w'→w'.cell? ⟨w.heap.size,0,none⟩=some (.int .i64 13):=fun w' e=>by rw [Below.cell e (HB5.out.low _ (.inr rfl)),MR.cell hr5 (.inr rfl)];exact i0 W1 (Ext.refl _)
   have q1:∀ w',Ext w5 w'→w'.cell? ⟨w.heap.size,1,none⟩=some (.int .i64 a):=fun w' e=>by rw [Below.cell e (HB5.out.low _ (.inr rfl)),MR.cell hr5 (.inr rfl)];exact i1 W1 (Ext.refl _)
   have q0':=q0 w5 (Ext.refl _);have q1':=q1 w5 (Ext.refl _);clear hm5 hr5 i0 i1 i2 r0 r1 r4 r6;have HTQ:Hid (m.take (13,a,z) b=(m.fail 4).done (wrap64 (m.pc+1))):=by show _=_;rw [HTK.out,HMID.out]
   have s7:(w5).cell? ⟨p,7,none⟩=some (.int .i64 (m.fail 4).state):=HB5.out.box.cell 7
   have s4:(w5).cell? ⟨p,4,none⟩=some (.int .i64 (m.fail 4).left):=HB5.out.box.cell 4
   have s5:(w5).cell? ⟨p,5,none⟩=some (.bool (m.fail 4).started):=HB5.out.box.cell 5
   have s0:(w5).cell? ⟨p,0,none⟩=some (.int .i64 (m.fail 4).pc):=HB5.out.box.cell 0
   have f5:=HB5.out.box.free 5;have f0:=HB5.out.box.free 0;have HRQ:=lhd (HR5.out)
   by_cases A7:(m.fail 4).state=0
   ·by_cases A4:(m.fail 4).left=0
    ·have HD:Hid (m.take (13,a,z) b={ (m.fail 4) with started:=false,pc:=wrap64 (m.pc+1) }):=by show _=_;rw [HTQ.out,Mach.done,if_pos ⟨A7,A4⟩]
     have HBE:=lhd (((HB5.out.put (m':={ (m.fail 4) with started:=false }) 5 (.bool false) rfl rfl rfl).put (m':={ (m.fail 4) with started:=false,pc:=wrap64 (m.pc+1) }) 0 (.int .i64 (wrap64 (m.pc+1))) rfl rfl rfl).weak HXW.out);have HRE:=lhd (HRQ.out.trans ((MR.set (i:=5) (Value.bool false) HBE.out.xp).trans (MR.set (i:=0) (Value.int .i64 (wrap64 (m.pc+1))) HBE.out.xp)));rw [A7] at s7;rw [A4] at s4;rw [← HD.out] at HBE;clear HTQ HTK HMID;go_wp2;exact bodyPost_end (results_none rfl _ _ _) rfl ⟨rfl,⟨_,_,HBE.out⟩,HRE.out⟩
    ·have HD:Hid (m.take (13,a,z) b=m.fail 4):=by show _=_;rw [HTQ.out,Mach.done,if_neg (by simp [A4])]
     have HBE:=lhd (HB5.out.weak HXW.out);have HRE:=HRQ;have A4b:((m.fail 4).left==0)=false:=by simp [A4]
     rw [A7] at s7;rw [← HD.out] at HBE;clear HTQ HTK HMID;go_wp2;exact bodyPost_end (results_none rfl _ _ _) rfl ⟨rfl,⟨_,_,HBE.out⟩,HRE.out⟩
   ·have HD:Hid (m.take (13,a,z) b=m.fail 4):=by show _=_;rw [HTQ.out,Mach.done,if_neg (by simp [A7])]
    have HBE:=lhd (HB5.out.weak HXW.out);have HRE:=HRQ;have A7b:((m.fail 4).state==0)=false:=by simp [A7]
    rw [← HD.out] at HBE;clear HTQ HTK HMID;go_wp2;exact bodyPost_end (results_none rfl _ _ _) rfl ⟨rfl,⟨_,_,HBE.out⟩,HRE.out⟩
  have hb1:decide (1<b)=false:=decide_eq_false hb2
  by_cases hb3:b=0
  ·have hb0:(b==0)=true:=by simp [hb3]
   have HMID:=HMM m a (if_neg hb2) (if_pos hb3);clear HMM hb2 hb3;have HTQ:Hid (m.take (13,a,z) b=(m).done (a)):=by show _=_;rw [HTK.out,HMID.out]
   have s7:(W1).cell? ⟨p,7,none⟩=some (.int .i64 (m).state):=HB.out.box.cell 7
   have s4:(W1).cell? ⟨p,4,none⟩=some (.int .i64 (m).left):=HB.out.box.cell 4
   have s5:(W1).cell? ⟨p,5,none⟩=some (.bool (m).started):=HB.out.box.cell 5
   have s0:(W1).cell? ⟨p,0,none⟩=some (.int .i64 (m).pc):=HB.out.box.cell 0
   have f5:=HB.out.box.free 5;have f0:=HB.out.box.free 0;have HRQ:=lhd (HR1.out)
   by_cases A7:(m).state=0
   ·by_cases A4:(m).left=0
    ·have HD:Hid (m.take (13,a,z) b={ (m) with started:=false,pc:=a }):=by show _=_;rw [HTQ.out,Mach.done,if_pos ⟨A7,A4⟩]
     have HBE:=lhd (((HB.out.put (m':={ (m) with started:=false }) 5 (.bool false) rfl rfl rfl).put (m':={ (m) with started:=false,pc:=a }) 0 (.int .i64 (a)) rfl rfl rfl).weak HXW.out);have HRE:=lhd (HRQ.out.trans ((MR.set (i:=5) (Value.bool false) HBE.out.xp).trans (MR.set (i:=0) (Value.int .i64 (a)) HBE.out.xp)));rw [A7] at s7;rw [A4] at s4;rw [← HD.out] at HBE;clear HTQ HTK HMID;go_wp2;exact bodyPost_end (results_none rfl _ _ _) rfl ⟨rfl,⟨_,_,HBE.out⟩,HRE.out⟩
    ·have HD:Hid (m.take (13,a,z) b=m):=by show _=_;rw [HTQ.out,Mach.done,if_neg (by simp [A4])]
     have HBE:=lhd (HB.out.weak HXW.out);have HRE:=HRQ;have A4b:((m).left==0)=false:=by simp [A4]
     rw [A7] at s7;rw [← HD.out] at HBE;clear HTQ HTK HMID;go_wp2;exact bodyPost_end (results_none rfl _ _ _) rfl ⟨rfl,⟨_,_,HBE.out⟩,HRE.out⟩
   ·have HD:Hid (m.take (13,a,z) b=m):=by show _=_;rw [HTQ.out,Mach.done,if_neg (by simp [A7])]
    have HBE:=lhd (HB.out.weak HXW.out);have HRE:=HRQ;have A7b:((m).state==0)=false:=by simp [A7]
    rw [← HD.out] at HBE;clear HTQ HTK HMID;go_wp2;exact bodyPost_end (results_none rfl _ _ _) rfl ⟨rfl,⟨_,_,HBE.out⟩,HRE.out⟩
  ·have hb0:(b==0)=false:=by simp [hb3]
   have HMID:=HMM m (wrap64 (m.pc+1)) (if_neg hb2) (if_neg hb3);clear HMM hb2 hb3;have HTQ:Hid (m.take (13,a,z) b=(m).done (wrap64 (m.pc+1))):=by show _=_;rw [HTK.out,HMID.out]
   have s7:(W1).cell? ⟨p,7,none⟩=some (.int .i64 (m).state):=HB.out.box.cell 7
   have s4:(W1).cell? ⟨p,4,none⟩=some (.int .i64 (m).left):=HB.out.box.cell 4
   have s5:(W1).cell? ⟨p,5,none⟩=some (.bool (m).started):=HB.out.box.cell 5
   have s0:(W1).cell? ⟨p,0,none⟩=some (.int .i64 (m).pc):=HB.out.box.cell 0
   have f5:=HB.out.box.free 5;have f0:=HB.out.box.free 0;have HRQ:=lhd (HR1.out)
   by_cases A7:(m).state=0
   ·by_cases A4:(m).left=0
    ·have HD:Hid (m.take (13,a,z) b={ (m) with started:=false,pc:=wrap64 (m.pc+1) }):=by show _=_;rw [HTQ.out,Mach.done,if_pos ⟨A7,A4⟩]
     have HBE:=lhd (((HB.out.put (m':={ (m) with started:=false }) 5 (.bool false) rfl rfl rfl).put (m':={ (m) with started:=false,pc:=wrap64 (m.pc+1) }) 0 (.int .i64 (wrap64 (m.pc+1))) rfl rfl rfl).weak HXW.out);have HRE:=lhd (HRQ.out.trans ((MR.set (i:=5) (Value.bool false) HBE.out.xp).trans (MR.set (i:=0) (Value.int .i64 (wrap64 (m.pc+1))) HBE.out.xp)));rw [A7] at s7;rw [A4] at s4;rw [← HD.out] at HBE;clear HTQ HTK HMID;go_wp2;exact bodyPost_end (results_none rfl _ _ _) rfl ⟨rfl,⟨_,_,HBE.out⟩,HRE.out⟩
    ·have HD:Hid (m.take (13,a,z) b=m):=by show _=_;rw [HTQ.out,Mach.done,if_neg (by simp [A4])]
     have HBE:=lhd (HB.out.weak HXW.out);have HRE:=HRQ;have A4b:((m).left==0)=false:=by simp [A4]
     rw [A7] at s7;rw [← HD.out] at HBE;clear HTQ HTK HMID;go_wp2;exact bodyPost_end (results_none rfl _ _ _) rfl ⟨rfl,⟨_,_,HBE.out⟩,HRE.out⟩
   ·have HD:Hid (m.take (13,a,z) b=m):=by show _=_;rw [HTQ.out,Mach.done,if_neg (by simp [A7])]
    have HBE:=lhd (HB.out.weak HXW.out);have HRE:=HRQ;have A7b:((m).state==0)=false:=by simp [A7]
    rw [← HD.out] at HBE;clear HTQ HTK HMID;go_wp2;exact bodyPost_end (results_none rfl _ _ _) rfl ⟨rfl,⟨_,_,HBE.out⟩,HRE.out⟩
 have n13:(o==13)=false:=by simp [h13]
 by_cases h16:o=16
 ·subst h16
  have HMM:∀ q,(if m.escaped=true∨b≠a then { m with left:=1,escaped:=!m.escaped&&b==92 } else m)=q→Hid (m.mid (16,a,z) b=(q,wrap64 (m.pc+1))):=by
   intro q hq;show _=_;unfold Mach.mid;rw [if_neg (by show ¬ (16:Int)=1;decide),if_neg (by show ¬ (16:Int)=2;decide),if_neg (by show ¬ (16:Int)=13;decide),if_pos rfl];show (_,_)=_;rw [← hq]
  cases hes:m.escaped
  ·have r6b:∀ w',Ext W1 w'→w'.cell? ⟨p,6,none⟩=some (.bool false):=fun w' e=>by rw [← hes];exact r6 w' e
   clear r6;have r6:=r6b
   by_cases hba:b=a
   ·have hb1:(b !=a)=false:=by simp [hba]
    have HMID:=HMM m (if_neg (by simp [hes,hba]));clear HMM hba r6b hes;have HTQ:Hid (m.take (16,a,z) b=(m).done (wrap64 (m.pc+1))):=by show _=_;rw [HTK.out,HMID.out]
    have s7:(W1).cell? ⟨p,7,none⟩=some (.int .i64 (m).state):=HB.out.box.cell 7
    have s4:(W1).cell? ⟨p,4,none⟩=some (.int .i64 (m).left):=HB.out.box.cell 4
    have s5:(W1).cell? ⟨p,5,none⟩=some (.bool (m).started):=HB.out.box.cell 5
    have s0:(W1).cell? ⟨p,0,none⟩=some (.int .i64 (m).pc):=HB.out.box.cell 0
    have f5:=HB.out.box.free 5;have f0:=HB.out.box.free 0;have HRQ:=lhd (HR1.out)
    by_cases A7:(m).state=0
    ·by_cases A4:(m).left=0
     ·have HD:Hid (m.take (16,a,z) b={ (m) with started:=false,pc:=wrap64 (m.pc+1) }):=by show _=_;rw [HTQ.out,Mach.done,if_pos ⟨A7,A4⟩]
      have HBE:=lhd (((HB.out.put (m':={ (m) with started:=false }) 5 (.bool false) rfl rfl rfl).put (m':={ (m) with started:=false,pc:=wrap64 (m.pc+1) }) 0 (.int .i64 (wrap64 (m.pc+1))) rfl rfl rfl).weak HXW.out);have HRE:=lhd (HRQ.out.trans ((MR.set (i:=5) (Value.bool false) HBE.out.xp).trans (MR.set (i:=0) (Value.int .i64 (wrap64 (m.pc+1))) HBE.out.xp)));rw [A7] at s7;rw [A4] at s4;rw [← HD.out] at HBE;clear HTQ HTK HMID;go_wp2;exact bodyPost_end (results_none rfl _ _ _) rfl ⟨rfl,⟨_,_,HBE.out⟩,HRE.out⟩
     ·have HD:Hid (m.take (16,a,z) b=m):=by show _=_;rw [HTQ.out,Mach.done,if_neg (by simp [A4])]
      have HBE:=lhd (HB.out.weak HXW.out);have HRE:=HRQ;have A4b:((m).left==0)=false:=by simp [A4]
      rw [A7] at s7;rw [← HD.out] at HBE;clear HTQ HTK HMID;go_wp2;exact bodyPost_end (results_none rfl _ _ _) rfl ⟨rfl,⟨_,_,HBE.out⟩,HRE.out⟩
    ·have HD:Hid (m.take (16,a,z) b=m):=by show _=_;rw [HTQ.out,Mach.done,if_neg (by simp [A7])]
     have HBE:=lhd (HB.out.weak HXW.out);have HRE:=HRQ;have A7b:((m).state==0)=false:=by simp [A7]
     rw [← HD.out] at HBE;clear HTQ HTK HMID;go_wp2;exact bodyPost_end (results_none rfl _ _ _) rfl ⟨rfl,⟨_,_,HBE.out⟩,HRE.out⟩
   ·have hb1:(b !=a)=true:=by simp [hba]
    have HES:=lhd hes;have HMID:=HMM { m with left:=1,escaped:=(b==92) } (by rw [if_pos (.inr hba)];simp [hes]);clear HMM hba r6b hes;have f4:=HB.out.box.free 4;have f6:=HB.out.box.free 6;have r6s:(W1.setCell ⟨p,4,none⟩ (.int .i64 1)).cell? ⟨p,6,none⟩=some (.bool false):=by rw [← HES.out];exact ((HB.out.put (m':={ m with left:=1 }) 4 (.int .i64 1) rfl rfl rfl)).box.cell 6
    have hB5:=(HB.out.put (m':={ m with left:=1 }) 4 (.int .i64 1) rfl rfl rfl).put (m':={ m with left:=1,escaped:=(b==92) }) 6 (.bool (b==92)) rfl rfl rfl;have hR5:=HR1.out.trans (((MR.set (i:=4) (Value.int .i64 1) HB.out.xp).trans (MR.set (i:=6) (Value.bool (b==92)) HB.out.xp)).weak HXW.out);obtain ⟨w5,hw5⟩:=nmw ((W1.setCell ⟨p,4,none⟩ (.int .i64 1)).setCell ⟨p,6,none⟩ (.bool (b==92)));rw [← hw5.out] at hB5 hR5;have HB5:=lhd hB5;have HR5:=lhd hR5;clear hB5 hR5;go_upto_region 19 with (fail);rw [← hw5.out];clear i0 i1 i2 r0 r1 r4 r6 f4 f6;obtain ⟨q5,HQN⟩:∃ q5:Mach,Hid (q5={ m with left:=1,escaped:=(b==92) }):=⟨_,rfl⟩;rw [← HQN.out] at HB5;have HTQ:Hid (m.take (16,a,z) b=(q5).done (wrap64 (m.pc+1))):=by show _=_;rw [HTK.out,HMID.out,HQN.out]
    have s7:(w5).cell? ⟨p,7,none⟩=some (.int .i64 (q5).state):=HB5.out.box.cell 7
    have s4:(w5).cell? ⟨p,4,none⟩=some (.int .i64 (q5).left):=HB5.out.box.cell 4
    have s5:(w5).cell? ⟨p,5,none⟩=some (.bool (q5).started):=HB5.out.box.cell 5
    have s0:(w5).cell? ⟨p,0,none⟩=some (.int .i64 (q5).pc):=HB5.out.box.cell 0
    have f5:=HB5.out.box.free 5;have f0:=HB5.out.box.free 0;have HRQ:=lhd (HR5.out)
    by_cases A7:(q5).state=0
    ·by_cases A4:(q5).left=0
     ·exact absurd A4 (by rw [HQN.out];show ¬ (1:Int)=0;decide)
     ·have HD:Hid (m.take (16,a,z) b=q5):=by show _=_;rw [HTQ.out,Mach.done,if_neg (by simp [A4])]
      have HBE:=lhd (HB5.out.weak HXW.out);have HRE:=HRQ;have A4b:((q5).left==0)=false:=by simp [A4]
      rw [A7] at s7;rw [← HD.out] at HBE;clear HTQ HTK HMID;go_wp2;exact bodyPost_end (results_none rfl _ _ _) rfl ⟨rfl,⟨_,_,HBE.out⟩,HRE.out⟩
    ·have HD:Hid (m.take (16,a,z) b=q5):=by show _=_;rw [HTQ.out,Mach.done,if_neg (by simp [A7])]
     have HBE:=lhd (HB5.out.weak HXW.out);have HRE:=HRQ;have A7b:((q5).state==0)=false:=by simp [A7]
     rw [← HD.out] at HBE;clear HTQ HTK HMID;go_wp2;exact bodyPost_end (results_none rfl _ _ _) rfl ⟨rfl,⟨_,_,HBE.out⟩,HRE.out⟩
  ·have r6b:∀ w',Ext W1 w'→w'.cell? ⟨p,6,none⟩=some (.bool true):=fun w' e=>by rw [← hes];exact r6 w' e
   clear r6;have r6:=r6b;have HES:=lhd hes;have HMID:=HMM { m with left:=1,escaped:=false } (by rw [if_pos (.inl hes)];simp [hes]);clear HMM r6b hes;have f4:=HB.out.box.free 4;have f6:=HB.out.box.free 6;have r6s:(W1.setCell ⟨p,4,none⟩ (.int .i64 1)).cell? ⟨p,6,none⟩=some (.bool true):=by rw [← HES.out];exact ((HB.out.put (m':={ m with left:=1 }) 4 (.int .i64 1) rfl rfl rfl)).box.cell 6
   have hB5:=(HB.out.put (m':={ m with left:=1 }) 4 (.int .i64 1) rfl rfl rfl).put (m':={ m with left:=1,escaped:=false }) 6 (.bool false) rfl rfl rfl;have hR5:=HR1.out.trans (((MR.set (i:=4) (Value.int .i64 1) HB.out.xp).trans (MR.set (i:=6) (Value.bool false) HB.out.xp)).weak HXW.out);obtain ⟨w5,hw5⟩:=nmw ((W1.setCell ⟨p,4,none⟩ (.int .i64 1)).setCell ⟨p,6,none⟩ (.bool false));rw [← hw5.out] at hB5 hR5;have HB5:=lhd hB5;have HR5:=lhd hR5;clear hB5 hR5;go_upto_region 19 with (fail);rw [← hw5.out];clear i0 i1 i2 r0 r1 r4 r6 f4 f6;obtain ⟨q5,HQN⟩:∃ q5:Mach,Hid (q5={ m with left:=1,escaped:=false }):=⟨_,rfl⟩;rw [← HQN.out] at HB5;have HTQ:Hid (m.take (16,a,z) b=(q5).done (wrap64 (m.pc+1))):=by show _=_;rw [HTK.out,HMID.out,HQN.out]
   have s7:(w5).cell? ⟨p,7,none⟩=some (.int .i64 (q5).state):=HB5.out.box.cell 7
   have s4:(w5).cell? ⟨p,4,none⟩=some (.int .i64 (q5).left):=HB5.out.box.cell 4
   have s5:(w5).cell? ⟨p,5,none⟩=some (.bool (q5).started):=HB5.out.box.cell 5
   have s0:(w5).cell? ⟨p,0,none⟩=some (.int .i64 (q5).pc):=HB5.out.box.cell 0
   have f5:=HB5.out.box.free 5;have f0:=HB5.out.box.free 0;have HRQ:=lhd (HR5.out)
   by_cases A7:(q5).state=0
   ·by_cases A4:(q5).left=0
    ·exact absurd A4 (by rw [HQN.out];show ¬ (1:Int)=0;decide)
    ·have HD:Hid (m.take (16,a,z) b=q5):=by show _=_;rw [HTQ.out,Mach.done,if_neg (by simp [A4])]
     have HBE:=lhd (HB5.out.weak HXW.out);have HRE:=HRQ;have A4b:((q5).left==0)=false:=by simp [A4]
     rw [A7] at s7;rw [← HD.out] at HBE;clear HTQ HTK HMID;go_wp2;exact bodyPost_end (results_none rfl _ _ _) rfl ⟨rfl,⟨_,_,HBE.out⟩,HRE.out⟩
   ·have HD:Hid (m.take (16,a,z) b=q5):=by show _=_;rw [HTQ.out,Mach.done,if_neg (by simp [A7])]
    have HBE:=lhd (HB5.out.weak HXW.out);have HRE:=HRQ;have A7b:((q5).state==0)=false:=by simp [A7]
    rw [← HD.out] at HBE;clear HTQ HTK HMID;go_wp2;exact bodyPost_end (results_none rfl _ _ _) rfl ⟨rfl,⟨_,_,HBE.out⟩,HRE.out⟩
 have n16:(o==16)=false:=by simp [h16]
 have HMID:Hid (m.mid (o,a,z) b=(m,wrap64 (m.pc+1))):=by show _=_;unfold Mach.mid;rw [if_neg h1,if_neg h2,if_neg h13,if_neg h16]
 have HTQ:Hid (m.take (o,a,z) b=(m).done (wrap64 (m.pc+1))):=by show _=_;rw [HTK.out,HMID.out]
 have s7:(W1).cell? ⟨p,7,none⟩=some (.int .i64 (m).state):=HB.out.box.cell 7
 have s4:(W1).cell? ⟨p,4,none⟩=some (.int .i64 (m).left):=HB.out.box.cell 4
 have s5:(W1).cell? ⟨p,5,none⟩=some (.bool (m).started):=HB.out.box.cell 5
 have s0:(W1).cell? ⟨p,0,none⟩=some (.int .i64 (m).pc):=HB.out.box.cell 0
 have f5:=HB.out.box.free 5;have f0:=HB.out.box.free 0;have HRQ:=lhd (HR1.out)
 by_cases A7:(m).state=0
 ·by_cases A4:(m).left=0
  ·have HD:Hid (m.take (o,a,z) b={ (m) with started:=false,pc:=wrap64 (m.pc+1) }):=by show _=_;rw [HTQ.out,Mach.done,if_pos ⟨A7,A4⟩]
   have HBE:=lhd (((HB.out.put (m':={ (m) with started:=false }) 5 (.bool false) rfl rfl rfl).put (m':={ (m) with started:=false,pc:=wrap64 (m.pc+1) }) 0 (.int .i64 (wrap64 (m.pc+1))) rfl rfl rfl).weak HXW.out);have HRE:=lhd (HRQ.out.trans ((MR.set (i:=5) (Value.bool false) HBE.out.xp).trans (MR.set (i:=0) (Value.int .i64 (wrap64 (m.pc+1))) HBE.out.xp)));rw [A7] at s7;rw [A4] at s4;rw [← HD.out] at HBE;clear HTQ HTK HMID;go_wp2;exact bodyPost_end (results_none rfl _ _ _) rfl ⟨rfl,⟨_,_,HBE.out⟩,HRE.out⟩
  ·have HD:Hid (m.take (o,a,z) b=m):=by show _=_;rw [HTQ.out,Mach.done,if_neg (by simp [A4])]
   have HBE:=lhd (HB.out.weak HXW.out);have HRE:=HRQ;have A4b:((m).left==0)=false:=by simp [A4]
   rw [A7] at s7;rw [← HD.out] at HBE;clear HTQ HTK HMID;go_wp2;exact bodyPost_end (results_none rfl _ _ _) rfl ⟨rfl,⟨_,_,HBE.out⟩,HRE.out⟩
 ·have HD:Hid (m.take (o,a,z) b=m):=by show _=_;rw [HTQ.out,Mach.done,if_neg (by simp [A7])]
  have HBE:=lhd (HB.out.weak HXW.out);have HRE:=HRQ;have A7b:((m).state==0)=false:=by simp [A7]
  rw [← HD.out] at HBE;clear HTQ HTK HMID;go_wp2;exact bodyPost_end (results_none rfl _ _ _) rfl ⟨rfl,⟨_,_,HBE.out⟩,HRE.out⟩
end Go.Proofs.YtpmcofmdjckijaaGreat
