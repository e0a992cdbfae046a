/- Texts, laid into one. -/
import Derived.Test.YtpmcofmdjckijaaGreatZDg30
import Derived.Test.YtpmcofmdjckijaaGreatZDg29
import Derived.Test.YtpmcofmdjckijaaGreatZDg26
set_option linter.unusedVariables false
set_option linter.unusedSimpArgs false
set_option maxRecDepth 100000
set_option maxHeartbeats 16000000
namespace Go.Proofs.YtpmcofmdjckijaaGreat
open Go.RowKit Go.Sort
theorem l9Make_c (Ad:Option Addr) (ds:List DRule) (cd:Nat) (hok:descOk ds=true) (wb:World) (p:Nat) (A:Option Addr) (l:List UInt8) (c:Nat) (hA:Bs wb A l c):∀ n i,i≤n→i<ds.length→MakeOk Ad ds cd wb p A l c i:=by
 intro n
 induction n with
 | zero =>
  intro i h0 hi;exact step i hi (fun j hj=>by omega)
 | succ n ih =>
  intro i h0 hi;exact step i hi (fun j hj=>ih j (by omega) (by omega))
where
 step (i:Nat) (hi:i<ds.length) (HR:∀ j,j<i→MakeOk Ad ds cd wb p A l c j):MakeOk Ad ds cd wb p A l c i:=by
  have hk:=ruleKind hok i hi
  have h10:ds[i].kind=1∨ds[i].kind=2∨ds[i].kind=3∨ds[i].kind=4∨ds[i].kind=5∨ds[i].kind=6∨ds[i].kind=7∨ds[i].kind=8∨ds[i].kind=9∨ds[i].kind=10:=by
   unfold kindOk at hk
   by_cases h1:ds[i].kind=1;· omega
   by_cases h2:ds[i].kind=2;· omega
   by_cases h3:ds[i].kind=3;· omega
   by_cases h4:ds[i].kind=4;· omega
   by_cases h5:ds[i].kind=5;· omega
   by_cases h6:ds[i].kind=6;· omega
   by_cases h7:ds[i].kind=7;· omega
   by_cases h8:ds[i].kind=8;· omega
   by_cases h9:ds[i].kind=9;· omega
   by_cases h10:ds[i].kind=10;· omega
   rw [if_neg h1,if_neg h2,if_neg h3,if_neg h4,if_neg h5,if_neg h6,if_neg h7,if_neg h8,if_neg h9,if_neg h10] at hk;cases hk
  rcases h10 with h | h | h | h | h | h | h | h | h | h
  ·exact l9Make1_c Ad ds cd hok i hi h wb p A l c hA HR
  ·exact l9Make2_c Ad ds cd hok i hi h wb p A l c hA HR
  ·exact l9Make3_c Ad ds cd hok i hi h wb p A l c hA HR
  ·exact l9Make4_c Ad ds cd hok i hi h wb p A l c hA HR
  ·exact l9Make5_c Ad ds cd hok i hi h wb p A l c hA HR
  ·exact l9Make6_c Ad ds cd hok i hi h wb p A l c hA HR
  ·exact l9Make7_c Ad ds cd hok i hi h wb p A l c hA HR
  ·exact l9Make8_c Ad ds cd hok i hi h wb p A l c hA HR
  ·exact l9Make9_c Ad ds cd hok i hi h wb p A l c hA HR
  ·exact l9Make10_c Ad ds cd hok i hi h wb p A l c hA HR
theorem OwnD.stayD {wb w:World} {v:Value} {ps:List RV} (h:OwnD wb w v ps) (hs:∀ q∈ps,ShortR q.r) (hn:ps.length≤24) (h0:0<ps.length) {p:Nat} (hp:∀ u∈v::ps.flatMap RV.vals,∀ b,u.ownBlock=some b→b≠p) :
 ∃ Ad cd,v=.slice Ad (rulesOf ps).length cd∧StayD w p Ad (rulesOf ps) cd:=by
 obtain ⟨g,cap,_,_,_,_,_,_,_,_,hv,_⟩:=h.stay hs hn hp 0 h0;have hlen:(rulesOf ps).length=ps.length:=by simp [rulesOf]
 refine ⟨some ⟨g,0,none⟩,cap,by rw [hlen];exact hv,g,0,rfl,?_,fun i hi=>?_⟩
 ·exact (h.block v (List.mem_cons_self ..) g (by rw [hv];rfl)).2
 ·have hi':i<ps.length:=by omega
  obtain ⟨g',cap',Ab,cb,An,cn,At,ct,Ak,ck,hv',hr⟩:=h.stay hs hn hp i hi';rw [hv] at hv';injection hv' with e1 _ e2
  injection e1 with e1
  injection e1 with e1 _ _
  subst e1;have hr0:(rulesOf ps)[i]=ps[i].r:=by simp [rulesOf]
  rw [hr0,Nat.zero_add];exact ⟨Ab,cb,An,cn,At,ct,Ak,ck,hr⟩
structure FlS (wb w wr:World) (p:Nat) (A:Option Addr) (l:List UInt8) (c g:Nat) (v:Value) (ps:List RV) (R:Nat) (vb:Value) (q:List UInt8):Prop where
 ds:DS wb w wr p A l c g v ps R
 row:OwnL vu8 5 wb wr vb q
 nw:∀ b,vb.ownBlock=some b→w.heap.size≤b∧b≠g∧b≠p∧b≠R
 far:∀ b,vb.ownBlock=some b→∀ u∈v::ps.flatMap RV.vals,u.ownBlock≠some b
 len:q.length≤900000000
section
variable {wb w wr w':World} {p:Nat} {A:Option Addr} {l:List UInt8} {c g:Nat} {v:Value} {ps:List RV} {R:Nat} {vb:Value} {q:List UInt8}
theorem FlS.moved (h:FlS wb w wr p A l c g v ps R vb q) (hC:Cur wb w' p A l c) (hg:wr.grownBy w' (some p)):FlS wb w w' p A l c g v ps R vb q :=
 ⟨h.ds.moved hC hg,OwnL.moved h.row hg (fun hh=>(h.nw p hh).2.2.1 rfl),h.nw,h.far,h.len⟩
theorem FlS.ext (h:FlS wb w wr p A l c g v ps R vb q) (e:Ext wr w'):FlS wb w w' p A l c g v ps R vb q:=h.moved (h.ds.cur.ext e) (grown_ext e _)
theorem FlS.fresh {g:Nat} (hd0:DS wb w wr p A l c g v ps R) (hd:DS wb w w' p A l c g v ps R) {v2:Value} {q2:List UInt8} (ho:OwnL vu8 5 wb w' v2 q2) (hn:∀ b,v2.ownBlock=some b→wr.heap.size≤b) (hw:w.heap.size≤wr.heap.size) (hl:q2.length≤900000000):FlS wb w w' p A l c g v ps R v2 q2:=by
 refine ⟨hd,ho,fun b hb=>?_,fun b hb u hu hh=>?_,hl⟩
 ·have h1:=hn b hb;have h2:=hd0.box.lt;have h3:=hd0.cur.lt;have h4:=hd0.res.lt
  exact ⟨by omega,by omega,by omega,by omega⟩
 ·have h1:=hn b hb;have h2:=(hd0.own.block u hu b hh).2;omega
theorem FlS.start {w5 w6:World} {q:List UInt8} {A4:Option Addr} {n4 c4:Nat} (h:DS wb w w5 p A l c g v ps R) (e:Ext w5 w6) (ho:OwnL vu8 5 w5 w6 (.slice A4 n4 c4) q) (hl:q.length≤800000000):FlS wb w w6 p A l c g v ps R (.slice A4 n4 c4) q :=
 FlS.fresh h (h.ext e) (OwnL.down ho (h.cur.2.1.size)) (fun b hb=>(World.ownsRow.lt ho b hb).1) h.grow.size (by omega)
theorem FlS.app (h:FlS wb w wr p A l c g v ps R vb q) {v2:Value} {q2:List UInt8} (ho:OwnL vu8 5 wb w' v2 q2) (he:Ext wb w') (hg:wr.grownBy w' vb.ownBlock) (hv:v2.ownBlock=vb.ownBlock∨v2.ownBlock=some (wr.heap.size+1)) (hl:q2.length≤900000000):FlS wb w w' p A l c g v ps R v2 q2:=by
 have h2:=h.ds.box.lt;have h3:=h.ds.cur.lt;have h4:=h.ds.res.lt;have hw:=h.ds.grow.size;have n1:vb.ownBlock≠some g:=fun hh=>(h.nw g hh).2.1 rfl
 have n2:vb.ownBlock≠some p:=fun hh=>(h.nw p hh).2.2.1 rfl
 have n3:vb.ownBlock≠some R:=fun hh=>(h.nw R hh).2.2.2 rfl
 have hD:DS wb w w' p A l c g v ps R :=
  ⟨h.ds.box.moved hg n1,h.ds.own.keep hg (fun u hu b hb hh=>h.far b hh u hu hb),h.ds.new,h.ds.cur.kept hg n2 he,grown_own h.ds.grow (fun b hb=>(h.nw b hb).1) hg,h.ds.gw,h.ds.gb,h.ds.gp,h.ds.res.moved hg n3,h.ds.gR,h.ds.pR⟩
 refine ⟨hD,ho,fun b hb=>?_,fun b hb u hu hh=>?_,hl⟩
 ·rcases hv with hv | hv
  ·exact h.nw b (hv▸hb)
  ·rw [hv] at hb;injection hb with hb;subst hb
   exact ⟨by omega,by omega,by omega,by omega⟩
 ·rcases hv with hv | hv
  ·exact h.far b (hv▸hb) u hu hh
  ·rw [hv] at hb;injection hb with hb;subst hb
   have:=(h.ds.own.block u hu _ hh).2;omega
end
structure FileV (wb w w':World) (v:Value) (ps:List RV) (vb:Value) (q:List UInt8):Prop where
 made:MadeV wb w w' v ps
 row:OwnL vu8 5 wb w' vb q
 nw:∀ b,vb.ownBlock=some b→w.heap.size≤b
 len:q.length≤900000000
theorem FlS.fin {wb w wr:World} {p:Nat} {A:Option Addr} {l:List UInt8} {c g:Nat} {v:Value} {ps:List RV} {vb:Value} {q:List UInt8} (h:FlS wb w wr p A l c g v ps w.heap.size vb q) (hbw:wb.heap.size≤w.heap.size) (hm:MadeD (rulesOf ps)∧SmallD (rulesOf ps)∧∃ h:0<(rulesOf ps).length,(rulesOf ps)[0].kind=1) :
 FileV wb w (wr.setCell ⟨w.heap.size,0,none⟩ v) v ps vb q∧Cur wb (wr.setCell ⟨w.heap.size,0,none⟩ v) p A l c∧w.grownBy (wr.setCell ⟨w.heap.size,0,none⟩ v) (some p):=by
 obtain ⟨f1,f2,f3,f4⟩:=h.ds.finish hbw;exact ⟨⟨⟨hm.1,hm.2.1,hm.2.2,f1,f2⟩,h.row.other _ _ (fun hh=>(h.nw _ hh).2.2.2 rfl),fun b hb=>(h.nw b hb).1,h.len⟩,f3,f4⟩
theorem l11File_c (wb w:World) (p:Nat) (A:Option Addr) (l:List UInt8) (c:Nat) (hA:Bs wb A l c) (hC:Cur wb w p A l c) :
 Calls Tryz.prog 67 #[.pointer (some ⟨p,0,none⟩)] w fun e w'=>∃ v ps vb q,e=.returned (.tuple #[vdesc v,vb])∧FileV wb w w' v ps vb q∧ps.length≤6∧Cur wb w' p A l c∧w.grownBy w' (some p):=by
 have hplt:=hC.lt;have hbw:=hC.2.1.size;have e0:=Ext_alloc (.cells #[.slice none 0 0] 26) (Ext.refl w);have HR:=lhd (Box.new w #[.slice none 0 0] 26);have CD:=lhd (l4Description_c wb _ p A l c hA (hC.ext e0));have COn:=lhd (fun n w' h hn=>l1Once_c n wb w' p A l c hA h hn);have CBe:=lhd (fun n w' h=>l1BelowB_c n wb w' p A l c hA h);have CBt:=lhd (fun w' h B m cB hB hm=>l1BentB_c wb w' p A l c hA h B m cB hB hm);have CBy:=lhd (fun m hm w' h=>l1Bytes_c m hm wb w' p A l c hA h);unfold vdesc at *;have hB0:=hC.2.1;go_enter Tryz.func67,Tryz.ntmps67;go_wp2_with fail;refine CD.out.mono ?_;rintro _ w1 ⟨v,ps,rfl,hV,hp6,hC1,hg1⟩;obtain ⟨Ad,cd,hv⟩:=hV.own.shape;subst hv;have hs1:=hg1.size;rw [World.size_alloc] at hs1;have hR1:=HR.out.moved hg1 (some_ne (by omega));have x2:=Ext_alloc (.cells #[Value.slice Ad ps.length cd] 26) (Ext.refl w1)
 have S0:Hid (DS wb w (w1.alloc (.cells #[Value.slice Ad ps.length cd] 26)) p A l c w1.heap.size (Value.slice Ad ps.length cd) ps w.heap.size) :=
  ⟨Box.new w1 _ _,hV.own.ext x2,fun u hu b hb=>by
   have h1:=hV.new u hu b hb;have h2:=(hV.own.block u hu b hb).2;rw [World.size_alloc] at h1;exact ⟨by omega,by omega,by omega,by omega⟩,hC1.ext x2,((grown_ext e0 _).trans hg1).trans (grown_ext x2 _),by omega,by omega,by omega,hR1.ext x2,by omega,by omega⟩
 obtain ⟨W2,hW2⟩:=nmw (w1.alloc (.cells #[Value.slice Ad ps.length cd] 26));rw [← hW2.out] at S0;have HMV:Hid (MadeD (rulesOf ps)∧SmallD (rulesOf ps)∧∃ h:0<(rulesOf ps).length,(rulesOf ps)[0].kind=1):=⟨hV.made,hV.small,hV.first⟩
 have HPOS:Hid (0<ps.length):=by obtain ⟨h,_⟩:=hV.first;show 0<_;simpa [rulesOf] using h
 have S3:=lhd (S0.out.ext (Ext_drew (Ext.refl W2)));have hlr:(rulesOf ps).length=ps.length:=by simp [rulesOf]
 have hok:descOk (rulesOf ps)=true:=MadeD.valid hV.made (by have:=HPOS.out;omega) (by omega)
 have hln1:IntKind.i64.wrap ((ps.length:Int)-1)=(((ps.length-1:Nat):Nat):Int):=by
  have h1:=HPOS.out;rw [IntWalk.i64_in _ (by omega)];omega
 have HLN:=lhd hln1
 have HST:Hid (StayD W2.drew p Ad (rulesOf ps) cd):=by
  obtain ⟨Ad',cd',hv',hst⟩:=S3.out.own.stayD (fun q hq=>(HMV.out.2.1.2 _ (List.mem_map_of_mem hq)).short) (by omega) HPOS.out (p:=p) (fun u hu b hb=>(S3.out.new u hu b hb).2.2.1);rw [hlr] at hv';injection hv' with q1 _ q2
  subst q1;subst q2;exact hst
 have CM:Hid (∀ w',Cur wb w' p A l c→StayD w' p Ad (rulesOf ps) cd→Calls Tryz.prog 120 #[.pointer (some ⟨p,0,none⟩),.agg #[Value.slice Ad ps.length cd],.int .i64 (((ps.length-1:Nat):Nat):Int),.int .i64 8] w' fun e w''=>∃ (t:VT) (A1:Option Addr) (n1 c1:Nat) (A2:Option Addr) (n2 c2:Nat),e=.returned (.agg #[.int .i64 t.num,.slice A1 n1 c1,.slice A2 n2 c2])∧Hid (t.vb=.slice A1 n1 c1∧t.vi=.slice A2 n2 c2)∧DrawnV (rulesOf ps) (ps.length-1) wb w' w'' p A l c t):=fun w' h hst=>by
  have h1:=l9Make_c Ad (rulesOf ps) cd hok wb p A l c hA (ps.length-1) (ps.length-1) (Nat.le_refl _) (by have:=HPOS.out;omega);unfold MakeOk at h1;have h2:=h1 8 (by omega) w' h hst;rw [hlr] at h2;exact h2
 have CP:Hid (∀ (t:VT) A1 n1 c1 A2 n2 c2 w',t.vb=.slice A1 n1 c1∧t.vi=.slice A2 n2 c2→DrawnV (rulesOf ps) (ps.length-1) wb W2.drew w' p A l c t→DS wb w w' p A l c w1.heap.size (Value.slice Ad ps.length cd) ps w.heap.size→Calls Tryz.prog 119 #[.agg #[Value.slice Ad ps.length cd],.int .i64 (((ps.length-1:Nat):Nat):Int),.agg #[.int .i64 t.num,.slice A1 n1 c1,.slice A2 n2 c2]] w' fun e w''=>∃ A4 c4 q,e=.returned (.slice A4 q.length c4)∧OwnL vu8 5 w' w'' (.slice A4 q.length c4) q∧q.length≤800000000∧Ext w' w''):=fun t A1 n1 c1 A2 n2 c2 w' hsh hdv hS=>by
  obtain ⟨Ad',cd',hv',hrd⟩:=hS.rd HMV.out.2.1;injection hv' with q1 _ q2
  subst q1;subst q2;have hR:=hrd w' (World.grownBy.refl _ _);have h9:9^(ps.length-1)≤9^5:=Nat.pow_le_pow_right (by omega) (by omega)
  have hsz:szV t.val≤5904900:=by have:=hdv.sz;omega
  obtain ⟨Vb,vb,Vi,vi,g1,g2,hrv⟩:=hdv.own.rd (by omega);have h1:=sPrint_all Ad (rulesOf ps) cd hok t.val (ps.length-1) (by have:=HPOS.out;omega) Vb vb Vi vi w' hR hrv hdv.valid (by omega);have hpl:=printV_len hok t.val (ps.length-1) hdv.valid;rw [hlr] at h1;unfold vdesc vval at h1;rw [← g1,← g2,hsh.1,hsh.2,VT.val_num] at h1;refine h1.mono ?_;rintro e w'' ⟨A4,n4,c4,rfl,ho,rfl,e4⟩;exact ⟨A4,c4,_,rfl,ho,by omega,e4⟩
 have eS:W2.drew.cell? ⟨w1.heap.size,0,none⟩=some (Value.slice Ad ps.length cd):=S3.out.box.cell 0
 clear hV hC1 hg1 hR1 x2 CD HR hok hlr S0 hC e0 hB0;go_upto_region 2 with (fail);rw [← hW2.out];clear hW2;refine wp_region_HD (S:=fun w'=>w'.cell? ⟨w1.heap.size,0,none⟩=some (Value.slice Ad ps.length cd)) (ofB 14 0) (by kernel_rfl) (by kernel_rfl) ?_;generalize W2.drew=wd at *;refine tkI (i:=0) (some 8) (v:=?_) (ofB 14 1) rfl rfl eS ?_ ?_;rotate_left
 ·(intro w' hSw;have hf0:=hSw;clear hSw;go_simp;try with_reducible rfl)
 try simp only [Act.put,lpa,lpz,lps]
 refine tkI (i:=1) (some 9) (v:=?_) (ofB 14 3) rfl rfl eS ?_ ?_;rotate_left
 ·(intro w' hSw;clear hSw;go_simp;try with_reducible rfl)
 try simp only [Act.put,lpa,lpz,lps]
 refine tkI (i:=2) (some 10) (v:=?_) (ofB 14 7) rfl rfl eS ?_ ?_;rotate_left
 ·(intro w' hSw;have hf0:=hSw;clear hSw;go_simp;try with_reducible rfl)
 try simp only [Act.put,lpa,lpz,lps]
 refine tkI (i:=3) (some 11) (v:=?_) (ofB 14 15) rfl rfl eS ?_ ?_;rotate_left
 ·(intro w' hSw;clear hSw;go_simp;try with_reducible rfl)
 try simp only [Act.put,lpa,lpz,lps]
 refine tkI (i:=4) (some 12) (v:=?_) (ofB 14 31) rfl rfl eS ?_ ?_;rotate_left
 ·(intro w' hSw;clear hSw;go_simp;try with_reducible rfl)
 try simp only [Act.put,lpa,lpz,lps]
 refine tkI (i:=5) (some 13) (v:=?_) (ofB 14 63) rfl rfl eS ?_ ?_;rotate_left
 ·(intro w' hSw;clear hSw;go_simp;try with_reducible rfl)
 try simp only [Act.put,lpa,lpz,lps]
 refine tkI (i:=6) (some 14) (v:=?_) (ofB 14 127) rfl rfl eS ?_ ?_;rotate_left
 ·(intro w' hSw;have hf0:=hSw;clear hSw;go_simp;try with_reducible rfl)
 try simp only [Act.put,lpa,lpz,lps]
 refine tkI (i:=7) (some 15) (v:=?_) (ofB 14 255) rfl rfl eS ?_ ?_;rotate_left
 ·(intro w' hSw;clear hSw;go_simp;try with_reducible rfl)
 try simp only [Act.put,lpa,lpz,lps]
 refine tkI (i:=8) (some 16) (v:=?_) (ofB 14 511) rfl rfl eS ?_ ?_;rotate_left
 ·(intro w' hSw;have hf0:=hSw;clear hSw;go_simp;try with_reducible rfl)
 try simp only [Act.put,lpa,lpz,lps]
 refine tkI (i:=9) (some 17) (v:=?_) (ofB 14 1023) rfl rfl eS ?_ ?_;rotate_left
 ·(intro w' hSw;clear hSw;go_simp;try with_reducible rfl)
 try simp only [Act.put,lpa,lpz,lps]
 refine tkI (i:=10) (some 18) (v:=?_) (ofB 14 2047) rfl rfl eS ?_ ?_;rotate_left
 ·(intro w' hSw;clear hSw;go_simp;try with_reducible rfl)
 try simp only [Act.put,lpa,lpz,lps]
 refine oneH (i:=11) (some 19) (ofB 14 4095) (by kernel_rfl) rfl rfl (by kernel_rfl) (fun K hK=>?_);go_simp;go_at_call 120;refine (CM.out _ (S3.out.cur) HST.out).mono ?_;rintro _ w5 ⟨t,A1,n1,c1,A2,n2,c2,rfl,hsh,hdv⟩;have S5:=lhd (S3.out.moved hdv.cur hdv.grow);have HDV:=lhd hdv;have CP5:=lhd (CP.out t A1 n1 c1 A2 n2 c2 w5 hsh.out hdv S5.out);clear hdv;replace eS:=S5.out.box.cell 0;refine Shut.out hK _ _ eS ?_;try simp only [Act.put,lpa,lpz,lps]
 refine oneH (i:=12) (some 20) (ofB 14 8191) (by kernel_rfl) rfl rfl (by kernel_rfl) (fun K hK=>?_);go_simp;go_at_call 119;refine CP5.out.mono ?_;rintro _ w6 ⟨A4,c4,q,rfl,ho6,hq6,e6⟩;have F6:Hid (FlS wb w w6 p A l c w1.heap.size (Value.slice Ad ps.length cd) ps w.heap.size (.slice A4 q.length c4) q):=FlS.start S5.out e6 ho6 hq6
 clear S3 S5 CM HST HDV CP5 ho6 e6 hsh;replace eS:=F6.out.ds.box.cell 0;refine Shut.out hK _ _ eS ?_;try simp only [Act.put,lpa,lpz,lps]
 refine tkI (i:=13) (some 5) (v:=?_) (ofB 14 16383) rfl rfl eS ?_ ?_;rotate_left
 ·(intro w' hSw;clear hSw;go_simp;try with_reducible rfl)
 try simp only [Act.put,lpa,lpz,lps]
 refine wpAnyH_done (by kernel_rfl) ?_ _;clear eS HLN hln1 CP;have H3:Hid (q.length≤800000000):=hq6
 clear hq6;go_upto_region 3 with (fail);go_cut [27] (fun s27 wx=>∃ bz:Bool,s27=.bool bz∧Hid (FlS wb w wx p A l c w1.heap.size (Value.slice Ad ps.length cd) ps w.heap.size (.slice A4 q.length c4) q))
 case first =>
  by_cases h0:0<q.length
  ·have h0i:(0:Int)<(q.length:Int):=by omega
   go_wp2_with fail;refine (COn.out 3 _ F6.out.ds.cur (by omega)).mono ?_;rintro _ w7 ⟨bo,rfl,hC7,hg7⟩;have F7:=lhd (F6.out.moved hC7 hg7);clear F6 hC7 hg7;go_wp2_with fail;go_meet;exact ⟨bo,rfl,F7.out⟩
  ·have h0i:¬ (0:Int)<(q.length:Int):=by omega
   go_wp2_with fail;go_meet;exact ⟨false,rfl,F6.out⟩
 case rest =>
 obtain ⟨bz,rfl,F7⟩:=hcut;clear F6;go_upto_if 27 with (fail);go_cut [5] (fun s5 wx=>∃ vb q2,s5=vb∧q2.length≤800000001∧Hid (FlS wb w wx p A l c w1.heap.size (Value.slice Ad ps.length cd) ps w.heap.size vb q2))
 case first =>
  cases bz
  ·go_wp2
   go_meet;exact ⟨_,q,rfl,by have:=H3.out;omega,F7.out⟩
  ·obtain ⟨B7,c7,hv7,r7⟩:=OwnL.rd F7.out.row (by have:=H3.out;omega)
   injection hv7 with z1 _ z2
   subst z1;subst z2;go_wp2_with fail;refine (CBt.out _ F7.out.ds.cur _ _ _ r7 (by have:=H3.out;omega)).mono ?_;rintro _ w8 ⟨v8,m8,hm8,rfl,ho8,he8,hn8,hC8,hg8⟩;have F8:Hid (FlS wb w w8 p A l c w1.heap.size (Value.slice Ad ps.length cd) ps w.heap.size v8 m8):=FlS.fresh F7.out.ds (F7.out.ds.moved hC8 hg8) ho8 hn8 F7.out.ds.grow.size (by have:=H3.out;omega)
   have HM8:Hid (m8.length≤800000001):=by have:=H3.out;show _≤_;omega
   clear F7 r7 hm8 ho8 he8 hn8 hC8 hg8;go_wp2;go_meet;exact ⟨v8,m8,rfl,HM8.out,F8.out⟩
 case rest =>
  obtain ⟨vb,q2,rfl,hq2,F9⟩:=hcut;have H9:=lhd hq2;clear F7 H3 CBt hq2;go_wp2_with fail;refine (CBe.out 24 _ F9.out.ds.cur).mono ?_;rintro _ w10 ⟨x,hx,rfl,hC10,hg10⟩;have F10:=lhd (F9.out.moved hC10 hg10);clear F9 hC10 hg10 hx;go_upto_block 0 with (fail);go_cut [5] from 5 to 50 (fun s5 wx=>∃ vb q2,s5=vb∧Hid (FlS wb w wx p A l c w1.heap.size (Value.slice Ad ps.length cd) ps w.heap.size vb q2))
  case first =>
   rcases (by omega:x=0∨x=1∨x=2∨3≤x) with rfl | rfl | rfl | h3
   ·go_wp2_with fail
    refine (CBe.out 2 _ F10.out.ds.cur).mono ?_;rintro _ w11 ⟨y,hy,rfl,hC11,hg11⟩;have hy2:y<2:=by unfold below at hy;rw [if_neg (by omega)] at hy;omega
    have F11:=lhd (F10.out.moved hC11 hg11);clear F10 hC11 hg11 hy;have hsum:IntKind.i64.wrap (400+(y:Int))=((400+y:Nat):Int):=by rw [IntWalk.i64_in _ (by omega)];omega
    have EB:=lhd F11.out.ds.cur.2.1
    go_wp2_with (first
     | (at_make;refine wpList_mk rfl _ _ _ rfl E_u8 wb _ EB.out (400+y) rfl rfl (by omega) (by simp [maxLen];omega) ?_;intro w12 ho12 he12 hx12))
    rw [made_one _ rfl] at ho12
    have HO12:OwnL vu8 5 wb w12 (.slice (some ⟨w11.heap.size,0,none⟩) (400+y) (400+y)) (List.replicate (400+y) 0):=by
     unfold OwnL;rw [List.length_replicate,List.map_replicate];exact ho12
    have F12:Hid (FlS wb w w12 p A l c w1.heap.size (Value.slice Ad ps.length cd) ps w.heap.size (.slice (some ⟨w11.heap.size,0,none⟩) (400+y) (400+y)) (List.replicate (400+y) 0)):=FlS.fresh F11.out.ds (F11.out.ds.ext hx12) HO12 (fun b hb=>by injection hb with hb;subst hb;exact Nat.le_refl _) F11.out.ds.grow.size (by rw [List.length_replicate];omega)
    clear ho12 he12 hx12 HO12 F11 EB hsum;go_wp2;go_meet;exact ⟨_,_,rfl,F12.out⟩
   ·go_wp2_with fail
    refine (CBe.out 8 _ F10.out.ds.cur).mono ?_;rintro _ w11 ⟨y,hy,rfl,hC11,hg11⟩;have hy2:y<8:=by unfold below at hy;rw [if_neg (by omega)] at hy;omega
    have F11:=lhd (F10.out.moved hC11 hg11);clear F10 hC11 hg11 hy;go_wp2_with fail;refine (CBy.out y (by omega) _ F11.out.ds.cur).mono ?_;rintro _ w12 ⟨v12,q12,hq12,rfl,ho12,hn12,hC12,hg12⟩;have F12:Hid (FlS wb w w12 p A l c w1.heap.size (Value.slice Ad ps.length cd) ps w.heap.size v12 q12):=FlS.fresh F11.out.ds (F11.out.ds.moved hC12 hg12) ho12 hn12 F11.out.ds.grow.size (by omega)
    clear ho12 hn12 hC12 hg12 F11 hq12;go_wp2;go_meet;exact ⟨_,_,rfl,F12.out⟩
   ·have HPL:=lhd F10.out.ds.cur.lt
    have HNP:Hid (u5.ownBlock≠some p):=fun hh=>(F10.out.nw p hh).2.2.1 rfl
    have HBD:Hid ((q2.length+[(92:UInt8)].length)*1≤140737488355328):=by have:=H9.out;show _≤_;simp;omega
    have HCS:Hid (#[Value.int .u8 92]=([(92:UInt8)].map vu8).toArray):=rfl
    have EB:=lhd F10.out.ds.cur.2.1
    go_wp2_with (first
     | (at_builtin;refine wpList_appC rfl (.tmp 47) (.tmp 48) _ rfl E_u8 (by omega) wb _ vu8 (fun _=>rfl) _ rfl _ _ rfl q2 [(92:UInt8)] _ HCS.out F10.out.row EB.out rfl HBD.out p HPL.out HNP.out ?_;intro v12 w12 ho12 he12 hn12 hg12 hb12 hor12))
    have F12:Hid (FlS wb w w12 p A l c w1.heap.size (Value.slice Ad ps.length cd) ps w.heap.size v12 (q2++[92])):=F10.out.app ho12 he12 hg12 hor12 (by have:=H9.out;simp;omega)
    clear ho12 he12 hn12 hg12 hb12 hor12 F10 HPL HNP HBD HCS EB;go_wp2;go_meet;exact ⟨_,_,rfl,F12.out⟩
   ·have x0:((x:Int)==0)=false:=by simp;omega
    have x1:((x:Int)==1)=false:=by simp;omega
    have x2:((x:Int)==2)=false:=by simp;omega
    go_wp2;go_meet;exact ⟨_,_,rfl,F10.out⟩
  case rest =>
   obtain ⟨vb2,q3,rfl,F13⟩:=hcut;have bg:=F13.out.ds.box;have br:=F13.out.ds.res;have g0:_=some (Value.slice Ad ps.length cd):=bg.cell 0
   have t2:=br.cell;have tf:=br.free;have FIN:=lhd (F13.out.fin hbw HMV.out);clear bg br F10 H9;go_wp2;refine bodyPost_ret (v:=.tuple #[.agg #[Value.slice Ad ps.length cd],u5]) (by simp [results,Tryz.results67,go_sem,t2,tf]) rfl ⟨_,ps,u5,q3,rfl,FIN.out.1,hp6,FIN.out.2.1,FIN.out.2.2⟩
def JF (m:Nat) (w:World) (e:Ending) (w':World):Prop:=∃ v ps vb q,e=.returned (.tuple #[.agg #[v],vb])∧Hid (OwnD w w' v ps)∧SmD (rulesOf ps)∧ps.length≤6∧Hid (OwnL vu8 5 w w' vb q)∧q.length≤m∧Ext w w'
theorem JF.put {w W0 w1:World} {v:Value} {ps:List RV} {vb:Value} {q:List UInt8} (h0:W0.heap.size=w.heap.size+1) (e0:Ext w W0) (hd:OwnD W0 w1 v ps) (hb:OwnL vu8 5 W0 w1 vb q) (e:Ext W0 w1) (u:Value) :
 OwnD w (w1.setCell ⟨w.heap.size,0,none⟩ u) v ps∧OwnL vu8 5 w (w1.setCell ⟨w.heap.size,0,none⟩ u) vb q∧Ext w (w1.setCell ⟨w.heap.size,0,none⟩ u):=by
 refine ⟨(hd.keep (grown_set w1 ⟨w.heap.size,0,none⟩ u) (fun x hx b hb' hh=>?_)).down (by omega),(hb.other _ _ (fun hh=>?_)).down (by omega),(e0.trans e).setCell (p:=⟨w.heap.size,0,none⟩) (Nat.le_refl _) u⟩
 ·have:=(hd.block x hx b hb').1;injection hh with hh;simp at hh;omega
 ·have h1:W0.heap.size≤w.heap.size:=(World.ownsRow.lt hb _ hh).1;omega
theorem drawReadFile_c (A:Option Addr) (l:List UInt8) (c:Nat) (w:World) (hA:Bs w A l c):Calls Tryz.prog 38 #[.slice A l.length c] w (JF 900000000 w):=by
 obtain ⟨W0,hW0⟩:=nmw (w.alloc (.cells #[.slice none 0 0] 26));have e0:Ext w W0:=ka hW0
 have BR0:Box W0 w.heap.size #[.slice none 0 0] 26:=kb hW0
 have hs0:W0.heap.size=w.heap.size+1:=by rw [hW0.out,World.size_alloc]
 have HS0:=lhd hs0;have hA0:=hA.ext e0;have CN:=lhd (l1New_c A l c W0 hA0);have CF:=lhd (fun w' p h=>l11File_c W0 w' p A l c hA0 h);have COn:=lhd (fun n w' p h hn=>l1Once_c n W0 w' p A l c hA0 h hn);have CA:=lhd (fun w' p h=>l4Any_c W0 w' p A l c hA0 h);have HBR:=lhd BR0;have E0:=lhd e0;clear BR0 hs0 hA0 e0 hA;unfold vdesc at *;unfold JF;go_enter Tryz.func38,Tryz.ntmps38;go_wp2_with fail;rw [← hW0.out];refine CN.out.mono ?_;rintro _ w1 ⟨p,rfl,hC1⟩;have hBR1:=HBR.out.ext hC1.2.1;have hp0:=hC1.1;have hp1:=hC1.lt;go_wp2_with fail;refine (CF.out _ _ hC1).mono ?_;rintro _ w2 ⟨v,ps,vb,q,rfl,hV,hp6,hC2,hg2⟩;obtain ⟨Av,cv,hv⟩:=hV.made.own.shape;subst hv;have HV:=lhd hV;have hBR2:=hBR1.moved hg2 (some_ne (by have:=HS0.out;omega));have hz1:=hBR1.lt;have hz2:=hg2.size;have x3:=Ext_alloc (.cells #[Value.slice Av ps.length cv] 26) (Ext.refl w2);obtain ⟨W3,hW3⟩:=nmw (w2.alloc (.cells #[Value.slice Av ps.length cv] 26));have hBG:Box W3 w2.heap.size #[Value.slice Av ps.length cv] 26:=kb hW3
 rw [← hW3.out] at x3;have hC3:=hC2.ext x3;have hBR3:=hBR2.ext x3;have hD3:=hV.made.own.ext x3;have hQ3:=hV.row.ext x3;have HND:Hid (∀ u∈(Value.slice Av ps.length cv)::ps.flatMap RV.vals,∀ b,u.ownBlock=some b→w1.heap.size≤b):=hV.made.new
 have HNB:Hid (∀ b,vb.ownBlock=some b→w1.heap.size≤b∧b<w2.heap.size):=fun b hb=>⟨hV.nw b hb,(World.ownsRow.lt hV.row b hb).2⟩
 have HSM:Hid (SmD (rulesOf ps)):=MadeD.sm hV.made.made hV.made.small
 have HQL:Hid (q.length≤900000000):=hV.len
 have HD3:=lhd hD3;have HQ3:=lhd hQ3;have HC3:=lhd hC3;have HBG:=lhd hBG;have HBR3:=lhd hBR3;clear hV HV hC1 hC2 hg2 hBR1 hBR2 hBR3 hBG hC3 hD3 hQ3 x3 CN CF HBR;go_upto_region 3 with (fail);rw [← hW3.out];clear hW3;go_wp2_with fail;refine (COn.out 12 _ _ HC3.out (by omega)).mono ?_;rintro _ w4 ⟨bo,rfl,hC4,hg4⟩;have HD4:=lhd (HD3.out.keep hg4 (fun u hu b hb hh=>by have:=HND.out u hu b hb;injection hh with hh;omega));have HQ4:=lhd (OwnL.moved HQ3.out hg4 (fun hh=>by have:=(HNB.out _ hh).1;omega));have HBG4:=lhd (HBG.out.moved hg4 (some_ne (by omega)));have HBR4:=lhd (HBR3.out.moved hg4 (some_ne (by have:=HS0.out;omega)));have hs4:=hg4.size;have hs3:=HBG.out.lt;clear HD3 HQ3 HBG HBR3 HC3 COn;go_upto_if 15 with (fail);go_cut [15] (fun _ wx=>∃ vF psF,Hid (Box wx w2.heap.size #[vF] 26)∧Hid (OwnD W0 wx vF psF)∧Hid (SmD (rulesOf psF))∧psF.length≤6∧Hid (OwnL vu8 5 W0 wx vb q)∧Hid (Box wx w.heap.size #[.slice none 0 0] 26)∧Hid (Ext W0 wx))
 case first =>
  cases bo
  ·go_wp2
   go_meet;exact ⟨_,ps,HBG4.out,HD4.out,HSM.out,hp6,HQ4.out,HBR4.out,hC4.2.1⟩
  ·go_wp2_with fail
   refine (CA.out _ _ hC4).mono ?_;rintro _ w5 ⟨v5,ps5,rfl,hV5,hp65,hC5,hg5⟩;obtain ⟨Ad5,cd5,hv5⟩:=hV5.own.shape;subst hv5;have hBG5:=HBG4.out.moved hg5 (some_ne (by omega));have t5:=hBG5.cell 0;have t5f:=hBG5.free 0;have hs0':=HS0.out;have F1:=lhd (hBG5.set 0 (Value.slice Ad5 ps5.length cd5));have F2:=lhd (hV5.own.keep (grown_set w5 ⟨w2.heap.size,0,none⟩ (Value.slice Ad5 ps5.length cd5)) (fun u hu b hb hh=>by have:=hV5.new u hu b hb;injection hh with hh;simp at hh;omega));have F3:=lhd ((OwnL.moved HQ4.out hg5 (fun hh=>by have:=(HNB.out _ hh).1;omega)).other ⟨w2.heap.size,0,none⟩ (Value.slice Ad5 ps5.length cd5) (fun hh=>by have:=(HNB.out _ hh).2;simp at this));have F4:=lhd ((HBR4.out.moved hg5 (some_ne (by omega))).other (g':=w2.heap.size) (by omega) 0 (Value.slice Ad5 ps5.length cd5));have F5:=lhd ((hC5.2.1).setCell (p:=⟨w2.heap.size,0,none⟩) (by show W0.heap.size≤w2.heap.size;omega) (Value.slice Ad5 ps5.length cd5));have F6:=lhd hV5.small;clear hBG5 hV5 hC5 hg5 HD4 HQ4 HBG4 HBR4 hC4 hg4;go_wp2;go_meet;exact ⟨_,ps5,F1.out,F2.out,F6.out,hp65,F3.out,F4.out,F5.out⟩
 case rest =>
  obtain ⟨vF,psF,h1,h2,h3,h4,h5,h6,h7⟩:=hcut;have g0:=h1.out.cell 0;have t2:=h6.out.cell;have tf:=h6.out.free;obtain ⟨AF,cF,hvF⟩:=h2.out.shape;subst hvF;have FIN:=lhd (JF.put HS0.out E0.out h2.out h5.out h7.out (Value.slice AF psF.length cF));clear HD4 HQ4 HBG4 HBR4 hC4 hg4 CA h1 h2 h5 h6 h7;go_wp2;refine bodyPost_ret (v:=.tuple #[.agg #[Value.slice AF psF.length cF],vb]) (by simp [results,Tryz.results38,go_sem,t2,tf]) rfl ⟨_,psF,vb,q,rfl,FIN.out.1,h3.out,h4,FIN.out.2.1,HQL.out,FIN.out.2.2⟩
theorem l37File_c (A:Option Addr) (l:List UInt8) (c:Nat) (w:World) (hA:Bs w A l c):Calls Tryz.prog 17 #[.slice A l.length c] w (JF 20 w):=by
 obtain ⟨W0,hW0⟩:=nmw (w.alloc (.cells #[.slice none 0 0] 26));have e0:Ext w W0:=ka hW0
 have BR0:Box W0 w.heap.size #[.slice none 0 0] 26:=kb hW0
 have hs0:W0.heap.size=w.heap.size+1:=by rw [hW0.out,World.size_alloc]
 have HS0:=lhd hs0;have CF:=lhd (drawReadFile_c A l c W0 (hA.ext e0));have HBR:=lhd BR0;have E0:=lhd e0;clear BR0 hs0 e0 hA;unfold JF at *;go_enter Tryz.func17,Tryz.ntmps17;go_wp2_with fail;rw [← hW0.out];refine CF.out.mono ?_;rintro _ w1 ⟨v,ps,vb,q,rfl,hD,hsm,hp6,hQ,hq,e1⟩;obtain ⟨Av,cv,hv⟩:=hD.out.shape;obtain ⟨AF,cF,hvb,hrd⟩:=OwnL.rd hQ.out (by omega);subst hvb;have hqc:=hrd.cap;have HS1:Hid (w.heap.size<w1.heap.size):=by have:=e1.size;have:=HS0.out;show _<_;omega
 obtain ⟨W2,hW2⟩:=nmw (w1.alloc (.cells #[v] 26));have x2:Ext w1 W2:=ka hW2
 have HBX:Hid (Box W2 w1.heap.size #[v] 26):=by rw [hW2.out];exact Box.new _ _ _
 have BR:=lhd (HBR.out.ext (e1.trans x2));have FIN:=lhd (JF.put HS0.out E0.out (hD.out.ext x2) (hQ.out.ext x2) (e1.trans x2) v);have FIND:=lhd (JF.put HS0.out E0.out ((hD.out.ext x2).ext (Ext_drew (Ext.refl W2))) ((hQ.out.ext x2).ext (Ext_drew (Ext.refl W2))) ((e1.trans x2).trans (Ext_drew (Ext.refl W2))) v);subst hv
 by_cases h20:20<q.length
 ·have h20i:(20:Int)<(q.length:Int):=by omega
  clear hrd;go_upto_region 3 with (fail);rw [← hW2.out];have xd:=Ext_drew (Ext.refl W2);have eS:=Box.ext HBX.out xd;have BR:=lhd (Box.ext BR.out xd);clear FIN xd HBX hW2 x2;have HBX:=lhd eS;have hc20:20≤cF:=by omega
  have hc20i:(20:Int)≤(cF:Int):=by omega
  refine wp_region_HD (S:=fun w'=>Box w' w1.heap.size #[Value.slice Av ps.length cv] 26) (ofB 5 0) (by kernel_rfl) (by kernel_rfl) ?_;generalize W2.drew=wd at *;refine tkI (i:=0) (some 14) (v:=?_) (ofB 5 1) rfl rfl eS ?_ ?_;rotate_left
  ·(intro w' hSw;have hf0:=hSw.cell 0;clear hSw;go_simp;try with_reducible rfl)
  try simp only [Act.put,lpa,lpz,lps]
  refine tkI (i:=1) (some 15) (v:=?_) (ofB 5 3) rfl rfl eS ?_ ?_;rotate_left
  ·(intro w' hSw;clear hSw;go_simp;try with_reducible rfl)
  try simp only [Act.put,lpa,lpz,lps]
  refine tkI (i:=2) (some 16) (v:=?_) (ofB 5 7) rfl rfl eS ?_ ?_;rotate_left
  ·(intro w' hSw;clear hSw;go_simp;try with_reducible rfl)
  try simp only [Act.put,lpa,lpz,lps]
  refine oneH (i:=3) (none) (ofB 5 15) (by kernel_rfl) rfl rfl (by kernel_rfl) (fun K hK=>?_);have t2:=BR.out.cell;have tf:=BR.out.free;have qB:=lhd (Box.other (g':=w.heap.size) HBX.out (by have:=HS1.out;omega) 0 (Value.slice Av ps.length cv));go_simp;replace eS:=qB.out;clear t2 tf qB;refine Shut.out hK _ _ eS ?_;try simp only [Act.put,lpa,lpz,lps]
  refine tkI (i:=4) (some 3) (v:=?_) (ofB 5 31) rfl rfl eS ?_ ?_;rotate_left
  ·(intro w' hSw;clear hSw;go_simp;try with_reducible rfl)
  try simp only [Act.put,lpa,lpz,lps]
  refine wpAnyH_done (by kernel_rfl) ?_ _;have t2:=BR.out.cell;have tf:=BR.out.free;clear eS BR;have FT:=lhd (OwnL.take FIND.out.2.1 (show 20≤q.length by omega));go_wp2;refine bodyPost_ret (v:=.tuple #[.agg #[Value.slice Av ps.length cv],.slice AF 20 cF]) (by simp [results,Tryz.results17,go_sem,t2,tf]) rfl ⟨_,ps,_,q.take 20,rfl,FIND.out.1,hsm,hp6,FT.out,by simp;omega,FIND.out.2.2⟩
 ·have h20i:¬ (20:Int)<(q.length:Int):=by omega
  go_upto_if 13 with (fail);rw [← hW2.out];have g0:=HBX.out.cell 0;have t2:=BR.out.cell;have tf:=BR.out.free;clear FIND;go_wp2;refine bodyPost_ret (v:=.tuple #[.agg #[Value.slice Av ps.length cv],.slice AF q.length cF]) (by simp [results,Tryz.results17,go_sem,t2,tf]) rfl ⟨_,ps,_,q,rfl,FIN.out.1,hsm,hp6,FIN.out.2.1,by omega,FIN.out.2.2⟩
theorem drawJudgeFile_c (A:Option Addr) (l:List UInt8) (c:Nat) (w:World) (hA:Bs w A l c):Calls Tryz.prog 6 #[.slice A l.length c] w (JF 20 w):=by
 obtain ⟨W0,hW0⟩:=nmw (w.alloc (.cells #[.slice none 0 0] 26));have e0:Ext w W0:=ka hW0
 have BR0:Box W0 w.heap.size #[.slice none 0 0] 26:=kb hW0
 have hs0:W0.heap.size=w.heap.size+1:=by rw [hW0.out,World.size_alloc]
 have HS0:=lhd hs0;have CF:=lhd (l37File_c A l c W0 (hA.ext e0));have HBR:=lhd BR0;have E0:=lhd e0;clear BR0 hs0 e0 hA;unfold JF at *;go_enter Tryz.func6,Tryz.ntmps6;go_wp2_with fail;rw [← hW0.out];refine CF.out.mono ?_;rintro _ w1 ⟨v,ps,vb,q,rfl,hD,hsm,hp6,hQ,hq,e1⟩;obtain ⟨Av,cv,hv⟩:=hD.out.shape;subst hv;have br:=HBR.out.ext e1;have t2:=br.cell;have tf:=br.free;have FIN:=lhd (JF.put HS0.out E0.out hD.out hQ.out e1 (Value.slice Av ps.length cv));clear br hD hQ;go_wp2;refine bodyPost_ret (v:=.tuple #[.agg #[Value.slice Av ps.length cv],vb]) (by simp [results,Tryz.results6,go_sem,t2,tf]) rfl ⟨_,ps,vb,q,rfl,FIN.out.1,hsm,hp6,FIN.out.2.1,hq,FIN.out.2.2⟩
end Go.Proofs.YtpmcofmdjckijaaGreat
