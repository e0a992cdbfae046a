/- Texts, laid into one. -/
import Derived.Test.YtpmcofmdjckijaaGreatZDg15
set_option linter.unusedVariables false
set_option linter.unusedSimpArgs false
set_option maxRecDepth 100000
set_option maxHeartbeats 16000000
namespace Go.Proofs.YtpmcofmdjckijaaGreat
open Go.RowKit Go.Sort
theorem l4Make_c (Ad:Option Addr) (ds:List DRule) (cd:Nat) (kind:Int) (hkind:1≤kind∧kind≤10) (hDn:ds.length≤24) (hki:kind=1∨∃ i,∃ h:i<ds.length,ds[i].kind=1) (hMD:MadeD ds)
 (wb w:World) (p:Nat) (A:Option Addr) (l:List UInt8) (c:Nat) (hA:Bs wb A l c) (hC:Cur wb w p A l c) (hD:∀ w',w.grownBy w' (some p)→RdD w' Ad ds cd) :
 Calls Tryz.prog 157 #[.pointer (some ⟨p,0,none⟩),vdesc (.slice Ad ds.length cd),.int .i64 kind] w fun e w'=>∃ q:RV,e=.returned (vrule q.r q.vb q.vn q.vt q.vk)∧SmallR q.r∧q.r.kind=kind∧MadeR ds q.r∧RuleOwn wb w' q∧Far q.vals∧(∀ u∈q.vals,∀ b,u.ownBlock=some b→w.heap.size≤b)∧Cur wb w' p A l c∧w.grownBy w' (some p):=by
 by_cases h6:kind=6
 ·exact l4Make6_c Ad ds cd kind h6 (by omega) hki hMD wb w p A l c hA hC hD
 by_cases h7:kind=7
 ·exact l4Make7_c Ad ds cd kind h7 (by omega) hki hMD wb w p A l c hA hC hD
 exact l4Make1_c Ad ds cd kind ⟨hkind.1,hkind.2,h6,h7⟩ (by omega) hki hMD wb w p A l c hA hC hD
theorem OwnD.snoc2 {wb W w4:World} {v v':Value} {ps:List RV} {p:RV} (h:OwnD wb W v ps) (hro:RuleOwn wb W p) (hfr:Far p.vals) {n0:Nat} (hold:∀ u∈v::ps.flatMap RV.vals,∀ b,u.ownBlock=some b→b<n0) (hnew:∀ u∈p.vals,∀ b,u.ownBlock=some b→n0≤b)
 (ho4:Own 96 8 wb w4 v' (ps.length+1) (ps.flatMap RV.cells++p.cells)) (hg4:W.grownBy w4 v.ownBlock) (hv:v'.ownBlock=v.ownBlock∨v'.ownBlock=some W.heap.size):OwnD wb w4 v' (ps++[p]):=by
 have hbl:=h.block;have hfar:=h.far;unfold Far at hfar;rw [List.pairwise_cons] at hfar;refine ⟨?_,fun q hq=>?_,?_⟩
 ·rw [List.length_append,List.flatMap_append,List.flatMap_cons,List.flatMap_nil,List.append_nil];exact ho4
 ·rcases List.mem_append.1 hq with hq | hq
  ·refine (h.each q hq).keep hg4 (fun u hu g hg he=>?_)
   exact hfar.1 u (List.mem_flatMap.2 ⟨q,hq,hu⟩) g he hg
  ·obtain rfl:=List.mem_singleton.1 hq
   refine hro.keep hg4 (fun u hu g hg he=>?_);have h1:=hnew u hu g hg;have h2:=hold v (List.mem_cons_self ..) g he
   omega
 ·rw [List.flatMap_append,List.flatMap_cons,List.flatMap_nil,List.append_nil]
  refine Far.cons (Far.append hfar.2 hfr (fun u hu x hx g h1 h2=>by have:=hold u (List.mem_cons_of_mem _ hu) g h1;have:=hnew x hx g h2;omega)) (fun x hx g h1 h2=>?_);rcases hv with hv | hv
  ·rw [hv] at h1
   rcases List.mem_append.1 hx with hx | hx
   ·exact hfar.1 x hx g h1 h2
   ·have:=hold v (List.mem_cons_self ..) g h1;have:=hnew x hx g h2;omega
  ·rw [hv] at h1
   injection h1 with h1
   rcases List.mem_append.1 hx with hx | hx
   ·have:=(hbl x (List.mem_cons_of_mem _ hx) g h2).2;omega
   ·have:=(hro.block x hx g h2).2;omega
structure DS (wb w wr:World) (p:Nat) (A:Option Addr) (l:List UInt8) (c g:Nat) (v:Value) (ps:List RV) (R:Nat):Prop where
 box:Box wr g #[v] 26
 own:OwnD wb wr v ps
 new:∀ u∈v::ps.flatMap RV.vals,∀ b,u.ownBlock=some b→w.heap.size≤b∧b≠g∧b≠p∧b≠R
 cur:Cur wb wr p A l c
 grow:w.grownBy wr (some p)
 gw:w.heap.size≤g
 gb:wb.heap.size≤g
 gp:g≠p
 res:Box wr R #[.slice none 0 0] 26
 gR:g≠R
 pR:p≠R
theorem DS.moved {wb w wr w':World} {p:Nat} {A:Option Addr} {l:List UInt8} {c g:Nat} {v:Value} {ps:List RV} {R:Nat} (h:DS wb w wr p A l c g v ps R) (hC:Cur wb w' p A l c) (hg:wr.grownBy w' (some p)):DS wb w w' p A l c g v ps R :=
 ⟨h.box.moved hg (some_ne h.gp.symm),h.own.keep hg (fun u hu b hb hh=>by injection hh with hh;exact (h.new u hu b hb).2.2.1 hh.symm),h.new,hC,h.grow.trans hg,h.gw,h.gb,h.gp,h.res.moved hg (some_ne h.pR),h.gR,h.pR⟩
theorem DS.ext {wb w wr w':World} {p:Nat} {A:Option Addr} {l:List UInt8} {c g:Nat} {v:Value} {ps:List RV} {R:Nat} (h:DS wb w wr p A l c g v ps R) (e:Ext wr w'):DS wb w w' p A l c g v ps R :=
 h.moved (h.cur.ext e) (grown_ext e _)
def SmallD (ds:List DRule):Prop:=ds.length≤24∧∀ r∈ds,SmallR r
theorem SmallR.short {r:DRule} (h:SmallR r):ShortR r:=by have:=h.lens;unfold ShortR;omega
theorem DS.rd {wb w wr:World} {p:Nat} {A:Option Addr} {l:List UInt8} {c g:Nat} {v:Value} {ps:List RV} {R:Nat} (h:DS wb w wr p A l c g v ps R) (hs:SmallD (rulesOf ps)):∃ Ad cd,v=.slice Ad ps.length cd∧∀ w',wr.grownBy w' (some p)→RdD w' Ad (rulesOf ps) cd:=by
 obtain ⟨Ad,cd,hv⟩:=h.own.shape;refine ⟨Ad,cd,hv,fun w' hg=>?_⟩;have h1:OwnD wb w' v ps:=h.own.keep hg (fun u hu b hb hh=>by injection hh with hh;exact (h.new u hu b hb).2.2.1 hh.symm)
 obtain ⟨A2,c2,hv2,hR⟩:=h1.rd (by have:=hs.1;simp [rulesOf] at this;omega) (fun q hq=>(hs.2 q.r (List.mem_map_of_mem hq)).short);rw [hv] at hv2;injection hv2 with q1 _ q2
 subst q1;subst q2;exact hR
theorem DS.snoc {wb w W w4:World} {p:Nat} {A:Option Addr} {l:List UInt8} {c g:Nat} {v v':Value} {ps:List RV} {R:Nat} {q:RV} (h:DS wb w W p A l c g v ps R) (hro:RuleOwn wb W q) (hfr:Far q.vals) {n0:Nat} (hold:∀ u∈v::ps.flatMap RV.vals,∀ b,u.ownBlock=some b→b<n0) (hnew:∀ u∈q.vals,∀ b,u.ownBlock=some b→n0≤b) (hng:w.heap.size≤n0∧g<n0∧p<n0∧R<n0)
 (ho4:Own 96 8 wb w4 v' (ps.length+1) (ps.flatMap RV.cells++q.cells)) (he:Ext wb w4) (hg4:W.grownBy w4 v.ownBlock) (hv:v'.ownBlock=v.ownBlock∨v'.ownBlock=some W.heap.size) :
 (w4.cell? ⟨g,0,none⟩=some v∧w4.frozen? ⟨g,0,none⟩=false)∧DS wb w (w4.setCell ⟨g,0,none⟩ v') p A l c g v' (ps++[q]) R:=by
 have hB:Box w4 g #[v] 26:=Box.moved h.box hg4 (fun hh=>(h.new v (List.mem_cons_self ..) g hh).2.1 rfl)
 have hR:Box w4 R #[.slice none 0 0] 26:=Box.moved h.res hg4 (fun hh=>(h.new v (List.mem_cons_self ..) R hh).2.2.2 rfl)
 have hO:=h.own.snoc2 hro hfr hold hnew ho4 hg4 hv
 have hn:∀ u∈v'::(ps++[q]).flatMap RV.vals,∀ b,u.ownBlock=some b→w.heap.size≤b∧b≠g∧b≠p∧b≠R:=by
  intro u hu b hb;rw [List.flatMap_append,List.flatMap_cons,List.flatMap_nil,List.append_nil] at hu;rcases List.mem_cons.1 hu with rfl | hu
  ·rcases hv with hv | hv
   ·exact h.new v (List.mem_cons_self ..) b (hv.symm.trans hb)
   ·rw [hv] at hb;injection hb with hb
    have h1:=h.box.lt;have h2:=h.res.lt;have h3:=h.cur.lt;have h4:=h.grow.size;exact ⟨by omega,by omega,by omega,by omega⟩
  ·rcases List.mem_append.1 hu with hu | hu
   ·exact h.new u (List.mem_cons_of_mem _ hu) b hb
   ·have:=hnew u hu b hb
    exact ⟨by omega,by omega,by omega,by omega⟩
 refine ⟨⟨hB.cell 0,hB.free 0⟩,hB.set 0 v',hO.keep (grown_set w4 ⟨g,0,none⟩ v') (fun u hu b hb hh=>by injection hh with hh;exact (hn u hu b hb).2.1 hh.symm),hn,?_,?_,h.gw,h.gb,h.gp,hR.other (fun hh=>h.gR hh.symm) 0 v',h.gR,h.pR⟩
 ·exact (Cur.kept h.cur hg4 (fun hh=>(h.new v (List.mem_cons_self ..) p hh).2.2.1 rfl) he).set (a:=⟨g,0,none⟩) h.gp h.gb v'
 ·exact grown_new (a:=⟨g,0,none⟩) (grown_own h.grow (fun b hh=>(h.new v (List.mem_cons_self ..) b hh).1) hg4) h.gw v'
structure MadeV (wb w w':World) (v:Value) (ps:List RV):Prop where
 made:MadeD (rulesOf ps)
 small:SmallD (rulesOf ps)
 first:∃ h:0<(rulesOf ps).length,(rulesOf ps)[0].kind=1
 own:OwnD wb w' v ps
 new:∀ u∈v::ps.flatMap RV.vals,∀ b,u.ownBlock=some b→w.heap.size≤b
theorem l4Description_c (wb w:World) (p:Nat) (A:Option Addr) (l:List UInt8) (c:Nat) (hA:Bs wb A l c) (hC:Cur wb w p A l c) :
 Calls Tryz.prog 118 #[.pointer (some ⟨p,0,none⟩)] w fun e w'=>∃ v ps,e=.returned (vdesc v)∧MadeV wb w w' v ps∧ps.length≤6∧Cur wb w' p A l c∧w.grownBy w' (some p):=by
 have hplt:=hC.lt;have hbw:=hC.2.1.size;have CBe:=lhd (fun n w h hn=>l1Below_c n wb w p A l c hA h hn);have CM:=lhd (fun Ad ds cd kind hk h1 h2 h3 w h hD=>l4Make_c Ad ds cd kind hk h1 h2 h3 wb w p A l c hA h hD);unfold vdesc vrule at CM;obtain ⟨W0,hW0,HR,HB,e0,hsA⟩:=boxes2' w #[.slice none 0 0] #[.slice none 0 0] 26 26
 have S0:Hid (DS wb w W0 p A l c (w.heap.size+1) (.slice none 0 0) [] w.heap.size) :=
  ⟨HB,⟨⟨by simp,.inl ⟨rfl,rfl⟩⟩,by simp,Far.one _⟩,by simp [Value.ownBlock],hC.ext e0,grown_ext e0 _,by omega,by omega,by omega,HR,by omega,by omega⟩
 have cd0:_=some (Value.slice none 0 0):=S0.out.box.cell 0
 have yd0:=S0.out.box.free 0;clear HB HR hC;have HSZ:=lhd hsA;clear hsA;go_enter Tryz.func118,Tryz.ntmps118;go_wp2_with fail;rw [← hW0.out];have SX:=lhd (S0.out.ext (Ext_drew (Ext.refl W0)));have HRD:Hid (∀ w',(W0.drew).grownBy w' (some p)→RdD w' none [] 0):=fun w' _=>RdD.nil w'
 have HMX:Hid (([]:List RV).length+1≤maxLen∧(([]:List RV).length+1)*136≤140737488355328):=⟨by simp [maxLen],by simp⟩
 have HOLD:Hid (∀ u∈(Value.slice none 0 0)::([]:List RV).flatMap RV.vals,∀ b,u.ownBlock=some b→b<(W0.drew).heap.size):=by
  intro u hu b hb
  have:=(SX.out.own.block u hu b hb).2;omega
 have HNG:Hid (w.heap.size≤(W0.drew).heap.size∧w.heap.size+1<(W0.drew).heap.size∧p<(W0.drew).heap.size∧w.heap.size<(W0.drew).heap.size):=by
  have h1:=SX.out.grow.size;have h2:=SX.out.box.lt;have h3:=SX.out.cur.lt;have h4:=SX.out.res.lt;exact ⟨by omega,by omega,by omega,by omega⟩
 have HMN:=lhd MadeD.nil;go_cut [12] from 6 to 13 (fun _ wx=>∃ q v,SmallR q.r∧Hid (MadeR [] q.r)∧Hid (q.r.kind=1)∧Hid (DS wb w wx p A l c (w.heap.size+1) v [q] w.heap.size))
 case first =>
  go_region_law (first
   | (go_simp;go_at_call 157;refine (CM.out none [] 0 1 (by omega) (by simp) (.inl rfl) HMN.out _ SX.out.cur HRD.out).mono ?_;rintro _ w5 ⟨q,rfl,hsm,hkq,hmr,hro,hfr,hnb,hC5,hg5⟩;have S5:=lhd (DS.moved (Hid.out SX) hC5 hg5);have c5:_=some (Value.slice none 0 0):=S5.out.box.cell 0;have S5':=lhd (S5.out.ext (Ext_alloc (.cells #[.string q.r.nm,.int .i64 q.r.kind,.int .i64 q.r.size,.bool q.r.little,q.vb,q.vn,q.vt,q.vk] 96) (Ext.refl _)));have c5':_=some (Value.slice none 0 0):=S5'.out.box.cell 0;have hone:=lhd (vals_cells_one q hro hsm.short);have HRO:=lhd (hro.ext (Ext_alloc (.cells #[.string q.r.nm,.int .i64 q.r.kind,.int .i64 q.r.size,.bool q.r.little,q.vb,q.vn,q.vt,q.vk] 96) (Ext.refl _)));have HSM:=lhd hsm;have HMR:=lhd hmr;have HKQ:=lhd hkq;have HFR:=lhd hfr;have HNB:=lhd hnb;clear hC5 hg5 hsm hmr hkq hro hfr hnb)
   | (refine step_app8 rfl (.tmp 7) (.tmp 11) _ rfl E_rule wb (w5.alloc (.cells #[.string q.r.nm,.int .i64 q.r.kind,.int .i64 q.r.size,.bool q.r.little,q.vb,q.vn,q.vt,q.vk] 96)) (Value.slice none 0 0) (([]:List RV)).length ((([]:List RV)).flatMap RV.cells) rfl S5'.out.own.row S5'.out.cur.2.1.size ⟨w5.heap.size,0,none⟩ 1 1 (RV.cells q) rfl rfl (fun j u hu=>(World.cell?_alloc_at' w5 (RV.cells q) 96 j).trans hu) hone.out HMX.out.1 HMX.out.2 ?_;intro v7 w7 ho7 hg7 hv7;obtain ⟨⟨z7,y7⟩,M7⟩:=DS.snoc S5'.out HRO.out HFR.out HOLD.out HNB.out HNG.out ho7 (S5'.out.cur.2.1.grown hg7 (fun k hk=>(World.ownsRow.lt S5'.out.own.row k hk).1)) hg7 hv7;obtain ⟨A7,c7,hsh⟩:=M7.own.shape;replace hsh:v7=.slice A7 ((([]:List RV)).length+1) c7:=(by rw [hsh,List.length_append];rfl);subst hsh;clear ho7 hg7 hv7;have M7:=lhd M7))
  all_goals
   go_wp2_with fail;go_meet;exact ⟨q,_,HSM.out,HMR.out,HKQ.out,M7⟩
 case rest =>
  obtain ⟨q,v,hsq,hmq,hkq,hS⟩:=hcut;clear S0 SX HRD HMX HOLD HNG cd0 yd0 HMN;go_wp2_with fail;refine (CBe.out 6 _ hS.out.cur (by omega)).mono ?_;rintro _ w2 ⟨y,hy,rfl,hC2,hg2⟩;have hyn:y<6:=by unfold below at hy;rw [if_neg (by omega)] at hy;omega
  have S2:=lhd (hS.out.moved hC2 hg2);clear hy hC2 hg2 hS;have HM1:Hid (MadeD (rulesOf [q])):=by show MadeD _;have:=MadeD.nil.snoc hmq.out;simpa [rulesOf] using this
  go_wp2;go_loopw [4] (fun t wr=>∃ (i:Nat) (v:Value) (ps:List RV),i<6∧t=.int .i64 i∧Hid (ps.length+i≤6∧MadeD (rulesOf ps)∧(∀ q∈ps,SmallR q.r)∧∃ h:0<(rulesOf ps).length,(rulesOf ps)[0].kind=1)∧Hid (DS wb w wr p A l c (w.heap.size+1) v ps w.heap.size)) (fun t _=>(intOf t).toNat)
  case atStart=>exact ⟨y,v,[q],hyn,rfl,⟨by simp;omega,HM1.out,fun r hr=>by rw [List.mem_singleton.1 hr];exact hsq,⟨by simp [rulesOf],by simpa [rulesOf] using hkq.out⟩⟩,S2⟩
  case round =>
   clear S2 HM1 hmq hkq;obtain ⟨i,v,ps,hi6,rfl,hl,hS⟩:=hrel;have hSD:Hid (SmallD (rulesOf ps)):=⟨by have:=hl.out.1;simp [rulesOf];omega,fun r hr=>by obtain ⟨q,hq,rfl⟩:=List.mem_map.1 hr;exact hl.out.2.2.1 q hq⟩
   by_cases hi0:0<i
   ·obtain ⟨Ad,cd,hv,_⟩:=hS.out.rd hSD.out
    subst hv
    have CP:Hid (∀ (k:Nat) (w':World),k<10→DS wb w w' p A l c (w.heap.size+1) (.slice Ad ps.length cd) ps w.heap.size→Calls Tryz.prog 157 #[.pointer (some ⟨p,0,none⟩),.agg #[.slice Ad ps.length cd],.int .i64 (1+(k:Int))] w' fun e w''=>∃ q:RV,e=.returned (.agg #[.string q.r.nm,.int .i64 q.r.kind,.int .i64 q.r.size,.bool q.r.little,q.vb,q.vn,q.vt,q.vk])∧SmallR q.r∧q.r.kind=1+(k:Int)∧MadeR (rulesOf ps) q.r∧RuleOwn wb w'' q∧Far q.vals∧(∀ u∈q.vals,∀ b,u.ownBlock=some b→w'.heap.size≤b)∧Cur wb w'' p A l c∧w'.grownBy w'' (some p)):=fun k w' hk hS'=>by
     obtain ⟨Ad',cd',hv',hrd⟩:=hS'.rd hSD.out;injection hv' with q1 _ q2
     subst q1;subst q2;have h1:=CM.out Ad (rulesOf ps) cd (1+(k:Int)) (by omega) (by have:=hl.out.1;simp [rulesOf];omega) (.inr ⟨0,hl.out.2.2.2⟩) hl.out.2.1 w' hS'.cur hrd;rw [show (rulesOf ps).length=ps.length by simp [rulesOf]] at h1;exact h1
    have cd0:_=some (Value.slice Ad ps.length cd):=hS.out.box.cell 0
    have SX:=lhd (hS.out.ext (Ext_drew (Ext.refl wr)));have HMX:Hid (ps.length+1≤maxLen∧(ps.length+1)*136≤140737488355328):=by have:=hl.out.1;exact ⟨by simp only [maxLen];omega,by omega⟩
    have HW10:Hid (∀ x:Nat,below 10 x→x<10∧IntKind.i64.wrap (1+(x:Int))=1+(x:Int)):=fun x hx=>by
     have:x<10:=by unfold below at hx;rw [if_neg (by omega)] at hx;omega
     exact ⟨this,IntWalk.i64_in _ (by omega)⟩
    have HPre:Hid (∀ w',DS wb w w' p A l c (w.heap.size+1) (.slice Ad ps.length cd) ps w.heap.size→(∀ u∈(Value.slice Ad ps.length cd)::ps.flatMap RV.vals,∀ b,u.ownBlock=some b→b<w'.heap.size)∧(w.heap.size≤w'.heap.size∧w.heap.size+1<w'.heap.size∧p<w'.heap.size∧w.heap.size<w'.heap.size)):=fun w' h=>by
     have h1:=h.grow.size;have h2:=h.box.lt;have h3:=h.cur.lt;have h4:=h.res.lt;exact ⟨fun u hu b hb=>(h.own.block u hu b hb).2,by omega,by omega,by omega,by omega⟩
    go_wp2_with fail
    go_region_law (first
     | (go_simp;go_at_call 122;refine (CBe.out 10 _ SX.out.cur (by omega)).mono ?_;rintro _ w4 ⟨x,hx,rfl,hC4,hg4⟩;have SY:=lhd (DS.moved SX.out hC4 hg4);have c4:_=some (Value.slice Ad ps.length cd):=SY.out.box.cell 0;have HX:=lhd (HW10.out x hx);have hw11:=HX.out.2;have HOLD:=lhd (HPre.out _ SY.out).1;have HNG:=lhd (HPre.out _ SY.out).2;clear hC4 hg4 hx)
     | (go_simp;go_at_call 157;refine (CP.out x _ HX.out.1 SY.out).mono ?_;rintro _ w5 ⟨q,rfl,hsm,hkq,hmr,hro,hfr,hnb,hC5,hg5⟩;have S5:=lhd (DS.moved (Hid.out SY) hC5 hg5);have c5:_=some (Value.slice Ad ps.length cd):=S5.out.box.cell 0;have S5':=lhd (S5.out.ext (Ext_alloc (.cells #[.string q.r.nm,.int .i64 q.r.kind,.int .i64 q.r.size,.bool q.r.little,q.vb,q.vn,q.vt,q.vk] 96) (Ext.refl _)));have c5':_=some (Value.slice Ad ps.length cd):=S5'.out.box.cell 0;have hone:=lhd (vals_cells_one q hro hsm.short);have HRO:=lhd (hro.ext (Ext_alloc (.cells #[.string q.r.nm,.int .i64 q.r.kind,.int .i64 q.r.size,.bool q.r.little,q.vb,q.vn,q.vt,q.vk] 96) (Ext.refl _)));have HSM:=lhd hsm;have HMR:=lhd hmr;have HKQ:=lhd hkq;have HFR:=lhd hfr;have HNB:=lhd hnb;clear hC5 hg5 hsm hmr hkq hro hfr hnb)
     | (refine step_app8 rfl (.tmp 21) (.tmp 28) _ rfl E_rule wb (w5.alloc (.cells #[.string q.r.nm,.int .i64 q.r.kind,.int .i64 q.r.size,.bool q.r.little,q.vb,q.vn,q.vt,q.vk] 96)) (Value.slice Ad ps.length cd) (ps).length ((ps).flatMap RV.cells) rfl S5'.out.own.row S5'.out.cur.2.1.size ⟨w5.heap.size,0,none⟩ 1 1 (RV.cells q) rfl rfl (fun j u hu=>(World.cell?_alloc_at' w5 (RV.cells q) 96 j).trans hu) hone.out HMX.out.1 HMX.out.2 ?_;intro v7 w7 ho7 hg7 hv7;obtain ⟨⟨z7,y7⟩,M7⟩:=DS.snoc S5'.out HRO.out HFR.out HOLD.out HNB.out HNG.out ho7 (S5'.out.cur.2.1.grown hg7 (fun k hk=>(World.ownsRow.lt S5'.out.own.row k hk).1)) hg7 hv7;obtain ⟨A7,c7,hsh⟩:=M7.own.shape;replace hsh:v7=.slice A7 ((ps).length+1) c7:=(by rw [hsh,List.length_append];rfl);subst hsh;clear ho7 hg7 hv7;have M7:=lhd M7))
    all_goals
     have HL':Hid ((ps++[q]).length+(i-1)≤6∧MadeD (rulesOf (ps++[q]))∧(∀ u∈ps++[q],SmallR u.r)∧∃ h:0<(rulesOf (ps++[q])).length,(rulesOf (ps++[q]))[0].kind=1):=by
      obtain ⟨h1,h2,h3,h4,h5⟩:=hl.out;have e:rulesOf (ps++[q])=rulesOf ps++[q.r]:=by simp [rulesOf]
      refine ⟨by simp;omega,by rw [e];exact h2.snoc HMR.out,fun r hr=>?_,?_⟩
      ·rcases List.mem_append.1 hr with h6 | h6
       ·exact h3 r h6
       ·rw [List.mem_singleton.1 h6];exact HSM.out
      ·refine ⟨by rw [e];simp,?_⟩
       simp only [e];rw [List.getElem_append_left h4];exact h5
     clear hS cd0 SX HMX HPre hSD hl CP HX hw11 HOLD HNG HFR HNB HRO hone SY c4 S5 c5 S5' c5' z7 y7;go_wp2;go_roundw
     case rel=>exact ⟨i-1,_,ps++[q],by omega,by go_num,HL',M7⟩
     case measure=>simp [intOf];omega
   ·obtain rfl:i=0:=by omega
    obtain ⟨Ad,cd,hv,_⟩:=hS.out.rd hSD.out;subst hv;have cd0:_=some (Value.slice Ad ps.length cd):=hS.out.box.cell 0
    have cr0:_=some (Value.slice none 0 0):=hS.out.res.cell 0
    have yr0:=hS.out.res.free 0
    have OUT:Hid (OwnD wb (wr.setCell ⟨w.heap.size,0,none⟩ (.slice Ad ps.length cd)) (.slice Ad ps.length cd) ps∧Cur wb (wr.setCell ⟨w.heap.size,0,none⟩ (.slice Ad ps.length cd)) p A l c∧w.grownBy (wr.setCell ⟨w.heap.size,0,none⟩ (.slice Ad ps.length cd)) (some p)) :=
     ⟨hS.out.own.keep (grown_set wr ⟨w.heap.size,0,none⟩ _) (fun u hu b hb hh=>by injection hh with hh;exact (hS.out.new u hu b hb).2.2.2 hh.symm),hS.out.cur.set (a:=⟨w.heap.size,0,none⟩) (fun hh=>hS.out.pR hh.symm) hbw _,grown_new (a:=⟨w.heap.size,0,none⟩) hS.out.grow (Nat.le_refl _) _⟩
    have z5:(wr.setCell ⟨w.heap.size,0,none⟩ (.slice Ad ps.length cd)).cell? ⟨w.heap.size,0,none⟩=some (.slice Ad ps.length cd):=World.cell?_setCell_same _ _ _ cr0
    have HNW:=lhd (fun u hu b hb=>(hS.out.new u hu b hb).1);clear hS;go_wp2;refine bodyPost_ret (v:=vdesc (.slice Ad ps.length cd)) (by simp [results,Tryz.results118,go_sem,z5,vdesc]) rfl ⟨_,ps,rfl,⟨hl.out.2.1,hSD.out,hl.out.2.2.2,OUT.out.1,HNW.out⟩,by have:=hl.out.1;omega,OUT.out.2.1,OUT.out.2.2⟩
structure SmR (r:DRule):Prop where
 nm:r.nm.size≤60
 lens:r.bytes.length≤16∧r.names.length≤16∧r.tags.length≤16∧r.kids.length≤16
 nms:∀ t∈r.names,t.size≤60
 kind : -100≤r.kind∧r.kind≤100
 ints:(-100000≤r.size∧r.size≤100000)∧(∀ x∈r.tags,-200000≤x∧x≤200000)∧∀ x∈r.kids,-200000≤x∧x≤200000
theorem SmallR.sm {r:DRule} (h:SmallR r) (hk : -100≤r.kind∧r.kind≤100):SmR r :=
 ⟨by have:=h.nm;omega,by have:=h.lens;omega,fun t ht=>by have:=h.nms t ht;omega,hk,⟨h.ints.1,fun x hx=>by have:=h.ints.2.1 x hx;omega,fun x hx=>by have:=h.ints.2.2 x hx;omega⟩⟩
def SmD (ds:List DRule):Prop:=ds.length≤24∧∀ r∈ds,SmR r
theorem SmR.short {r:DRule} (h:SmR r):ShortR r:=by have:=h.lens;unfold ShortR;omega
theorem sum_le' {α:Type} (f:α→Nat) (m:Nat):∀ l:List α,(∀ x∈l,f x≤m)→(l.map f).sum≤l.length*m
 | [],_=>by simp
 | a::t,h=>by
  have h1:=h a (List.mem_cons_self ..);have h2:=sum_le' f m t (fun x hx=>h x (List.mem_cons_of_mem _ hx));rw [List.map_cons,List.sum_cons,List.length_cons,Nat.add_mul];omega
theorem SmallD.szD {ds:List DRule} (h:SmallD ds):szD ds≤1048576:=by
 have h0:∀ r∈ds,szRl r≤1200:=fun r hr=>by
  have h1:=(h.2 r hr).lens;have h2:=(h.2 r hr).nm;have h3:=sum_le' ByteArray.size 40 r.names (h.2 r hr).nms;have h4:r.names.length*40≤8*40:=Nat.mul_le_mul_right 40 h1.2.1
  unfold szRl szStrs;omega
 have h1:=sum_le' szRl 1200 ds h0;have h2:ds.length*1200≤24*1200:=Nat.mul_le_mul_right 1200 h.1
 have h3:=h.1;unfold Go.Proofs.YtpmcofmdjckijaaGreat.szD;omega
theorem cells_put:∀ (ps:List RV) (k j:Nat) (h:k<ps.length) (u:Value) (p':RV),j<8→p'.cells=ps[k].cells.set j u→(ps.flatMap RV.cells).set (k*8+j) u=(ps.set k p').flatMap RV.cells:=by
 intro ps
 induction ps with
 | nil=>intro k j h;simp at h
 | cons p s ih =>
  intro k j h u p' hj hp;cases k with
  | zero =>
   simp only [List.getElem_cons_zero] at hp;rw [List.flatMap_cons,List.set_append_left _ _ (by simp [RV.cells];omega),List.set_cons_zero,List.flatMap_cons,hp];simp
  | succ k =>
   have h':k<s.length:=by simpa using h
   simp only [List.getElem_cons_succ] at hp;rw [List.flatMap_cons,List.set_append_right _ _ (by simp [RV.cells];omega)];rw [show (k+1)*8+j-p.cells.length=k*8+j by simp [RV.cells];omega,ih k j h' u p' hj hp];simp [List.flatMap_cons]
theorem vals_put:∀ (ps:List RV) (k j:Nat) (h:k<ps.length) (u:Value) (p':RV),j<4→p'.vals=ps[k].vals.set j u→(ps.set k p').flatMap RV.vals=(ps.flatMap RV.vals).set (k*4+j) u:=by
 intro ps
 induction ps with
 | nil=>intro k j h;simp at h
 | cons p s ih =>
  intro k j h u p' hj hp;cases k with
  | zero =>
   simp only [List.getElem_cons_zero] at hp;rw [List.set_cons_zero,List.flatMap_cons,List.flatMap_cons,List.set_append_left _ _ (by simp [RV.vals];omega),hp];simp
  | succ k =>
   have h':k<s.length:=by simpa using h
   simp only [List.getElem_cons_succ] at hp;rw [List.set_cons_succ,List.flatMap_cons,List.flatMap_cons,List.set_append_right _ _ (by simp [RV.vals];omega)];rw [show (k+1)*4+j-p.vals.length=k*4+j by simp [RV.vals];omega,ih k j h' u p' hj hp]
theorem vals_len (ps:List RV):(ps.flatMap RV.vals).length=ps.length*4:=by
 induction ps with
 | nil=>rfl
 | cons p t ih=>rw [List.flatMap_cons,List.length_append,ih,List.length_cons];simp [RV.vals];omega
theorem vals_get:∀ (ps:List RV) (k j:Nat) (h:k<ps.length),j<4→(ps.flatMap RV.vals)[k*4+j]?=ps[k].vals[j]?:=by
 intro ps
 induction ps with
 | nil=>intro i j h;simp at h
 | cons p t ih =>
  intro i j h hj;rw [List.flatMap_cons];cases i with
  | zero=>rw [List.getElem?_append_left (by simp [RV.vals];omega)];simp
  | succ i =>
   rw [List.getElem?_append_right (by simp [RV.vals];omega)]
   have:(i+1)*4+j-p.vals.length=i*4+j:=by simp [RV.vals];omega
   rw [this,ih i j (by simpa using h) hj];simp
theorem far_set {l:List Value} (h:Far l) (i:Nat) (hi:i<l.length) (v':Value) (N:Nat) (hN:∀ u∈l,∀ b,u.ownBlock=some b→b<N) (hv:v'.ownBlock=l[i].ownBlock∨v'.ownBlock=some N):Far (l.set i v'):=by
 unfold Far at *;rw [List.pairwise_iff_getElem] at *;intro a b ha hb hab g h1 h2;rw [List.length_set] at ha hb;rw [List.getElem_set] at h1 h2
 split at h1
 ·rename_i e1
  subst e1;rw [if_neg (by omega)] at h2;rcases hv with hv | hv
  ·exact h i b ha hb hab g (hv.symm.trans h1) h2
  ·rw [hv] at h1;injection h1 with h1
   have:=hN _ (List.getElem_mem hb) g h2;omega
 ·split at h2
  ·rename_i e2
   subst e2;rcases hv with hv | hv
   ·exact h a i ha hb hab g h1 (hv.symm.trans h2)
   ·rw [hv] at h2;injection h2 with h2
    have:=hN _ (List.getElem_mem ha) g h1;omega
  ·exact h a b ha hb hab g h1 h2
theorem far_same {l l':List Value} (h:Far l) (e:l'=l):Far l':=e▸h
theorem mem_set_vals {l:List Value} {i:Nat} {v' u:Value} (h:u∈l.set i v'):u∈l∨u=v':=List.mem_or_eq_of_mem_set h
theorem DS.put {wb w wr:World} {p:Nat} {A:Option Addr} {l:List UInt8} {c g b n cap:Nat} {ps:List RV} {R:Nat} (h:DS wb w wr p A l c g (.slice (some ⟨b,0,none⟩) n cap) ps R) (k j:Nat) (hk:k<ps.length) (hj:j<4) (u:Value) (p':RV) (hc:p'.cells=ps[k].cells.set j u) (hv:p'.vals=ps[k].vals)
 (hr:p'.r.bytes=ps[k].r.bytes∧p'.r.names=ps[k].r.names∧p'.r.tags=ps[k].r.tags∧p'.r.kids=ps[k].r.kids) :
 (wr.cell? ⟨b,k*8+j,none⟩=ps[k].cells[j]?∧wr.frozen? ⟨b,k*8+j,none⟩=false)∧DS wb w (wr.setCell ⟨b,k*8+j,none⟩ u) p A l c g (.slice (some ⟨b,0,none⟩) n cap) (ps.set k p') R:=by
 have hn:n=ps.length:=by obtain ⟨_,_,hh⟩:=h.own.shape;injection hh
 subst hn;have hbn:=h.new _ (List.mem_cons_self ..) b rfl;have hblk:=h.own.block _ (List.mem_cons_self ..) b rfl;have hfar:=h.own.far;unfold Far at hfar;rw [List.pairwise_cons] at hfar;have hsep:∀ x∈ps.flatMap RV.vals,∀ a,x.ownBlock=some a→some b≠some a:=fun x hx a ha hh=>by injection hh with hh;subst hh;exact hfar.1 x hx b rfl ha
 have hvs:(ps.set k p').flatMap RV.vals=ps.flatMap RV.vals:=by
  have:=vals_put ps k 0 hk p'.vb p' (by omega) (by rw [← hv];simp [RV.vals]);rw [this];refine List.ext_getElem? fun i=>?_
  rw [List.getElem?_set]
  split
  ·rename_i e
   subst e;have h1:=vals_get ps k 0 hk (by omega);rw [h1,← hv,if_pos (by rw [vals_len];omega)];simp [RV.vals]
  ·rfl
 have hrow:=(h.own.row.stored (k*8+j) u).1;rw [cells_put ps k j hk u p' (by omega) hc] at hrow
 have hcell:wr.cell? ⟨b,k*8+j,none⟩=ps[k].cells[j]?:=by
  have h0:=h.own.row.cellAt (k*8+j) (by omega);rw [h0,cells_get ps k j hk (by omega)]
 refine ⟨⟨hcell,h.own.row.frozenAt _⟩,h.box.other hbn.2.1.symm _ u,⟨by rw [List.length_set];exact hrow,fun q hq=>?_,far_same h.own.far (by rw [hvs])⟩,by rw [hvs];exact h.new,h.cur.set (a:=⟨b,k*8+j,none⟩) hbn.2.2.1 hblk.1 u,grown_new (a:=⟨b,k*8+j,none⟩) h.grow hbn.1 u,h.gw,h.gb,h.gp,h.res.other hbn.2.2.2.symm _ u,h.gR,h.pR⟩;have hkeep:∀ q∈ps,RuleOwn wb (wr.setCell ⟨b,k*8+j,none⟩ u) q:=fun q hq=>(h.own.each q hq).keep (grown_set wr ⟨b,k*8+j,none⟩ u) (fun x hx a ha=>hsep x (List.mem_flatMap.2 ⟨q,hq,hx⟩) a ha)
 rcases List.mem_or_eq_of_mem_set hq with h1 | rfl
 ·exact hkeep q h1
 ·have h2:=hkeep ps[k] (List.getElem_mem hk)
  obtain ⟨r',vb',vn',vt',vk'⟩:=q;simp only [RV.vals,List.cons.injEq,and_true] at hv;dsimp only at hr;obtain ⟨rfl,rfl,rfl,rfl⟩:=hv;exact ⟨by show OwnL _ _ _ _ _ r'.bytes;rw [hr.1];exact h2.b,by show OwnL _ _ _ _ _ r'.names;rw [hr.2.1];exact h2.n,by show OwnL _ _ _ _ _ r'.tags;rw [hr.2.2.1];exact h2.t,by show OwnL _ _ _ _ _ r'.kids;rw [hr.2.2.2];exact h2.k⟩
theorem DS.app_b {wb w W w2:World} {p:Nat} {A:Option Addr} {l:List UInt8} {c g b n cap:Nat} {ps:List RV} {R:Nat} (h:DS wb w W p A l c g (.slice (some ⟨b,0,none⟩) n cap) ps R) (k:Nat) (hk:k<ps.length) {v':Value} {xs:List UInt8} (ho:OwnL vu8 5 wb w2 v' xs) (he:Ext wb w2)
 (hb:v'.ownBlock=ps[k].vb.ownBlock∨v'.ownBlock=some W.heap.size) (hg:W.grownBy w2 ps[k].vb.ownBlock) :
 (w2.cell? ⟨b,k*8+4,none⟩=some ps[k].vb∧w2.frozen? ⟨b,k*8+4,none⟩=false∧w2.cell? ⟨g,0,none⟩=some (.slice (some ⟨b,0,none⟩) n cap))∧DS wb w (w2.setCell ⟨b,k*8+4,none⟩ v') p A l c g (.slice (some ⟨b,0,none⟩) n cap) (ps.set k ⟨{ ps[k].r with bytes:=xs },v',ps[k].vn,ps[k].vt,ps[k].vk⟩) R:=by
 have hn:n=ps.length:=by obtain ⟨_,_,hh⟩:=h.own.shape;injection hh
 subst hn;have hbn:=h.new _ (List.mem_cons_self ..) b rfl;have hblk:=h.own.block _ (List.mem_cons_self ..) b rfl;have hold:=h.own.block;have hmem:ps[k].vb∈ps.flatMap RV.vals:=List.mem_flatMap.2 ⟨ps[k],List.getElem_mem hk,by simp [RV.vals]⟩
 have hnk:=h.new _ (List.mem_cons_of_mem _ hmem);have hfar:=h.own.far;have hfar0:=hfar;unfold Far at hfar;rw [List.pairwise_cons] at hfar;have hvl:=vals_len ps;have hbX:∀ a,ps[k].vb.ownBlock=some a→a≠b:=fun a ha hh=>by subst hh;exact hfar.1 _ hmem a rfl ha
 -- the other values lie elsewhere
 have hother:∀ i,i<(ps.flatMap RV.vals).length→i≠k*4+0→∀ u a,(ps.flatMap RV.vals)[i]?=some u→u.ownBlock=some a→ps[k].vb.ownBlock≠some a:=by
  intro i hi hne u a hu ha hx;have h4:=hfar.2;rw [List.pairwise_iff_getElem] at h4;have h5:=vals_get ps k 0 hk (by omega);have h6:(ps.flatMap RV.vals)[k*4+0]?=some ps[k].vb:=by rw [h5];simp [RV.vals]
  have hlt:k*4+0<(ps.flatMap RV.vals).length:=by rw [hvl];omega
  rw [List.getElem?_eq_getElem hi] at hu;rw [List.getElem?_eq_getElem hlt] at h6;injection hu with hu;injection h6 with h6
  rcases (by omega:i<k*4+0∨k*4+0<i) with h7 | h7
  ·exact h4 i _ hi hlt h7 a (by rw [hu];exact ha) (by rw [h6];exact hx)
  ·exact h4 _ i hlt hi h7 a (by rw [h6];exact hx) (by rw [hu];exact ha)
 have hset:=vals_put ps k 0 hk v' ⟨{ ps[k].r with bytes:=xs },v',ps[k].vn,ps[k].vt,ps[k].vk⟩ (by omega) (by simp [RV.vals]);have hrow2:=h.own.row.keep hg (fun a ha hh=>by injection ha with ha;exact hbX a hh ha.symm)
 have hnv:∀ a,v'.ownBlock=some a→(w.heap.size≤a∧a≠g∧a≠p∧a≠R)∧a≠b:=by
  intro a ha;rcases hb with hb | hb
  ·exact ⟨hnk a (hb.symm.trans ha),hbX a (hb.symm.trans ha)⟩
  ·rw [hb] at ha;injection ha with ha
   have h1:=h.box.lt;have h2:=h.res.lt;have h3:=h.cur.lt;have h4:=h.grow.size;exact ⟨⟨by omega,by omega,by omega,by omega⟩,by omega⟩
 have hB2:Box w2 g #[.slice (some ⟨b,0,none⟩) ps.length cap] 26:=h.box.moved hg (fun hh=>(hnk g hh).2.1 rfl)
 have hR2:Box w2 R #[.slice none 0 0] 26:=h.res.moved hg (fun hh=>(hnk R hh).2.2.2 rfl)
 have hC2:=Cur.kept h.cur hg (fun hh=>(hnk p hh).2.2.1 rfl) he;have hG2:=grown_own h.grow (fun a ha=>(hnk a ha).1) hg;have hrow:=(hrow2.stored (k*8+4) v').1;rw [cells_put ps k 4 hk v' ⟨{ ps[k].r with bytes:=xs },v',ps[k].vn,ps[k].vt,ps[k].vk⟩ (by omega) (by simp [RV.cells])] at hrow
 have hcell:w2.cell? ⟨b,k*8+4,none⟩=some ps[k].vb:=by
  have h0:=hrow2.cellAt (k*8+4) (by omega);rw [h0,cells_get ps k 4 hk (by omega)];simp [RV.cells]
 refine ⟨⟨hcell,hrow2.frozenAt _,hB2.cell 0⟩,hB2.other hbn.2.1.symm _ v',⟨by rw [List.length_set];exact hrow,fun q hq=>?_,?_⟩,?_,hC2.set (a:=⟨b,k*8+4,none⟩) hbn.2.2.1 hblk.1 v',grown_new (a:=⟨b,k*8+4,none⟩) hG2 hbn.1 v',h.gw,h.gb,h.gp,hR2.other hbn.2.2.2.symm _ v',h.gR,h.pR⟩
 ·have hst:∀ {α:Type} {f:α→Value} {e:TypeId} {u:Value} {xs:List α},OwnL f e wb w2 u xs→(∀ a,u.ownBlock=some a→a≠b)→OwnL f e wb (w2.setCell ⟨b,k*8+4,none⟩ v') u xs:=fun hu hub=>hu.keep (grown_set w2 ⟨b,k*8+4,none⟩ v') (fun a ha hh=>by injection hh with hh;exact hub a ha hh.symm)
  have hvb:∀ u∈ps.flatMap RV.vals,∀ a,u.ownBlock=some a→a≠b:=fun u hu a ha hh=>by subst hh;exact hfar.1 u hu a rfl ha
  have key:∀ i (hi:i<ps.length) (j:Nat),j<4→(i≠k∨j≠0)→∀ {α:Type} {f:α→Value} {e:TypeId} {u:Value} {xs:List α},ps[i].vals[j]?=some u→OwnL f e wb W u xs→OwnL f e wb (w2.setCell ⟨b,k*8+4,none⟩ v') u xs:=by
   intro i hi j hj hij α f e u xs hu hown;have hget:=vals_get ps i j hi hj;rw [hu] at hget;refine hst (hown.keep hg (fun a ha hh=>?_)) (hvb u (List.mem_of_getElem? hget));exact hother (i*4+j) (by rw [hvl];omega) (by rcases hij with h1 | h1<;>omega) u a hget ha hh
  rcases List.getElem_of_mem hq with ⟨i,hi,rfl⟩
  rw [List.length_set] at hi;rw [List.getElem_set]
  split
  ·rename_i e1
   subst e1;have h0:=h.own.each _ (List.getElem_mem hk);exact ⟨hst ho (fun a ha=>(hnv a ha).2),key k hk 1 (by omega) (.inr (by omega)) (by simp [RV.vals]) h0.n,key k hk 2 (by omega) (.inr (by omega)) (by simp [RV.vals]) h0.t,key k hk 3 (by omega) (.inr (by omega)) (by simp [RV.vals]) h0.k⟩
  ·rename_i e1
   have h0:=h.own.each _ (List.getElem_mem hi);exact ⟨key i hi 0 (by omega) (.inl (fun hh=>e1 hh.symm)) (by simp [RV.vals]) h0.b,key i hi 1 (by omega) (.inl (fun hh=>e1 hh.symm)) (by simp [RV.vals]) h0.n,key i hi 2 (by omega) (.inl (fun hh=>e1 hh.symm)) (by simp [RV.vals]) h0.t,key i hi 3 (by omega) (.inl (fun hh=>e1 hh.symm)) (by simp [RV.vals]) h0.k⟩
 ·rw [hset]
  have h1:=far_set hfar0 (1+(k*4+0)) (by simp [hvl];omega) v' W.heap.size (fun u hu a ha=>(hold u hu a ha).2) (by
   have h5:=vals_get ps k 0 hk (by omega)
   have h6:(Value.slice (some ⟨b,0,none⟩) ps.length cap::ps.flatMap RV.vals)[1+(k*4+0)]?=some ps[k].vb:=by
    rw [Nat.add_comm 1,List.getElem?_cons_succ];have h7:ps[k].vals[0]?=some ps[k].vb:=by simp [RV.vals]
    exact h5.trans h7
   rw [List.getElem?_eq_getElem (by simp [hvl];omega)] at h6;injection h6 with h6
   rw [h6];exact hb)
  rw [Nat.add_comm 1,List.set_cons_succ] at h1;exact h1
 ·intro u hu a ha
  rw [hset] at hu;rcases List.mem_cons.1 hu with rfl | hu
  ·exact h.new _ (List.mem_cons_self ..) a ha
  ·rcases mem_set_vals hu with h1 | rfl
   ·exact h.new u (List.mem_cons_of_mem _ h1) a ha
   ·exact (hnv a ha).1
theorem DS.app_n {wb w W w2:World} {p:Nat} {A:Option Addr} {l:List UInt8} {c g b n cap:Nat} {ps:List RV} {R:Nat} (h:DS wb w W p A l c g (.slice (some ⟨b,0,none⟩) n cap) ps R) (k:Nat) (hk:k<ps.length) {v':Value} {xs:List ByteArray} (ho:OwnL vstr 9 wb w2 v' xs) (he:Ext wb w2)
 (hb:v'.ownBlock=ps[k].vn.ownBlock∨v'.ownBlock=some W.heap.size) (hg:W.grownBy w2 ps[k].vn.ownBlock) :
 (w2.cell? ⟨b,k*8+5,none⟩=some ps[k].vn∧w2.frozen? ⟨b,k*8+5,none⟩=false∧w2.cell? ⟨g,0,none⟩=some (.slice (some ⟨b,0,none⟩) n cap))∧DS wb w (w2.setCell ⟨b,k*8+5,none⟩ v') p A l c g (.slice (some ⟨b,0,none⟩) n cap) (ps.set k ⟨{ ps[k].r with names:=xs },ps[k].vb,v',ps[k].vt,ps[k].vk⟩) R:=by
 have hn:n=ps.length:=by obtain ⟨_,_,hh⟩:=h.own.shape;injection hh
 subst hn;have hbn:=h.new _ (List.mem_cons_self ..) b rfl;have hblk:=h.own.block _ (List.mem_cons_self ..) b rfl;have hold:=h.own.block;have hmem:ps[k].vn∈ps.flatMap RV.vals:=List.mem_flatMap.2 ⟨ps[k],List.getElem_mem hk,by simp [RV.vals]⟩
 have hnk:=h.new _ (List.mem_cons_of_mem _ hmem);have hfar:=h.own.far;have hfar0:=hfar;unfold Far at hfar;rw [List.pairwise_cons] at hfar;have hvl:=vals_len ps;have hbX:∀ a,ps[k].vn.ownBlock=some a→a≠b:=fun a ha hh=>by subst hh;exact hfar.1 _ hmem a rfl ha
 -- the other values lie elsewhere
 have hother:∀ i,i<(ps.flatMap RV.vals).length→i≠k*4+1→∀ u a,(ps.flatMap RV.vals)[i]?=some u→u.ownBlock=some a→ps[k].vn.ownBlock≠some a:=by
  intro i hi hne u a hu ha hx;have h4:=hfar.2;rw [List.pairwise_iff_getElem] at h4;have h5:=vals_get ps k 1 hk (by omega);have h6:(ps.flatMap RV.vals)[k*4+1]?=some ps[k].vn:=by rw [h5];simp [RV.vals]
  have hlt:k*4+1<(ps.flatMap RV.vals).length:=by rw [hvl];omega
  rw [List.getElem?_eq_getElem hi] at hu;rw [List.getElem?_eq_getElem hlt] at h6;injection hu with hu;injection h6 with h6
  rcases (by omega:i<k*4+1∨k*4+1<i) with h7 | h7
  ·exact h4 i _ hi hlt h7 a (by rw [hu];exact ha) (by rw [h6];exact hx)
  ·exact h4 _ i hlt hi h7 a (by rw [h6];exact hx) (by rw [hu];exact ha)
 have hset:=vals_put ps k 1 hk v' ⟨{ ps[k].r with names:=xs },ps[k].vb,v',ps[k].vt,ps[k].vk⟩ (by omega) (by simp [RV.vals]);have hrow2:=h.own.row.keep hg (fun a ha hh=>by injection ha with ha;exact hbX a hh ha.symm)
 have hnv:∀ a,v'.ownBlock=some a→(w.heap.size≤a∧a≠g∧a≠p∧a≠R)∧a≠b:=by
  intro a ha;rcases hb with hb | hb
  ·exact ⟨hnk a (hb.symm.trans ha),hbX a (hb.symm.trans ha)⟩
  ·rw [hb] at ha;injection ha with ha
   have h1:=h.box.lt;have h2:=h.res.lt;have h3:=h.cur.lt;have h4:=h.grow.size;exact ⟨⟨by omega,by omega,by omega,by omega⟩,by omega⟩
 have hB2:Box w2 g #[.slice (some ⟨b,0,none⟩) ps.length cap] 26:=h.box.moved hg (fun hh=>(hnk g hh).2.1 rfl)
 have hR2:Box w2 R #[.slice none 0 0] 26:=h.res.moved hg (fun hh=>(hnk R hh).2.2.2 rfl)
 have hC2:=Cur.kept h.cur hg (fun hh=>(hnk p hh).2.2.1 rfl) he;have hG2:=grown_own h.grow (fun a ha=>(hnk a ha).1) hg;have hrow:=(hrow2.stored (k*8+5) v').1;rw [cells_put ps k 5 hk v' ⟨{ ps[k].r with names:=xs },ps[k].vb,v',ps[k].vt,ps[k].vk⟩ (by omega) (by simp [RV.cells])] at hrow
 have hcell:w2.cell? ⟨b,k*8+5,none⟩=some ps[k].vn:=by
  have h0:=hrow2.cellAt (k*8+5) (by omega);rw [h0,cells_get ps k 5 hk (by omega)];simp [RV.cells]
 refine ⟨⟨hcell,hrow2.frozenAt _,hB2.cell 0⟩,hB2.other hbn.2.1.symm _ v',⟨by rw [List.length_set];exact hrow,fun q hq=>?_,?_⟩,?_,hC2.set (a:=⟨b,k*8+5,none⟩) hbn.2.2.1 hblk.1 v',grown_new (a:=⟨b,k*8+5,none⟩) hG2 hbn.1 v',h.gw,h.gb,h.gp,hR2.other hbn.2.2.2.symm _ v',h.gR,h.pR⟩
 ·have hst:∀ {α:Type} {f:α→Value} {e:TypeId} {u:Value} {xs:List α},OwnL f e wb w2 u xs→(∀ a,u.ownBlock=some a→a≠b)→OwnL f e wb (w2.setCell ⟨b,k*8+5,none⟩ v') u xs:=fun hu hub=>hu.keep (grown_set w2 ⟨b,k*8+5,none⟩ v') (fun a ha hh=>by injection hh with hh;exact hub a ha hh.symm)
  have hvb:∀ u∈ps.flatMap RV.vals,∀ a,u.ownBlock=some a→a≠b:=fun u hu a ha hh=>by subst hh;exact hfar.1 u hu a rfl ha
  have key:∀ i (hi:i<ps.length) (j:Nat),j<4→(i≠k∨j≠1)→∀ {α:Type} {f:α→Value} {e:TypeId} {u:Value} {xs:List α},ps[i].vals[j]?=some u→OwnL f e wb W u xs→OwnL f e wb (w2.setCell ⟨b,k*8+5,none⟩ v') u xs:=by
   intro i hi j hj hij α f e u xs hu hown;have hget:=vals_get ps i j hi hj;rw [hu] at hget;refine hst (hown.keep hg (fun a ha hh=>?_)) (hvb u (List.mem_of_getElem? hget));exact hother (i*4+j) (by rw [hvl];omega) (by rcases hij with h1 | h1<;>omega) u a hget ha hh
  rcases List.getElem_of_mem hq with ⟨i,hi,rfl⟩
  rw [List.length_set] at hi;rw [List.getElem_set]
  split
  ·rename_i e1
   subst e1;have h0:=h.own.each _ (List.getElem_mem hk);exact ⟨key k hk 0 (by omega) (.inr (by omega)) (by simp [RV.vals]) h0.b,hst ho (fun a ha=>(hnv a ha).2),key k hk 2 (by omega) (.inr (by omega)) (by simp [RV.vals]) h0.t,key k hk 3 (by omega) (.inr (by omega)) (by simp [RV.vals]) h0.k⟩
  ·rename_i e1
   have h0:=h.own.each _ (List.getElem_mem hi);exact ⟨key i hi 0 (by omega) (.inl (fun hh=>e1 hh.symm)) (by simp [RV.vals]) h0.b,key i hi 1 (by omega) (.inl (fun hh=>e1 hh.symm)) (by simp [RV.vals]) h0.n,key i hi 2 (by omega) (.inl (fun hh=>e1 hh.symm)) (by simp [RV.vals]) h0.t,key i hi 3 (by omega) (.inl (fun hh=>e1 hh.symm)) (by simp [RV.vals]) h0.k⟩
 ·rw [hset]
  have h1:=far_set hfar0 (1+(k*4+1)) (by simp [hvl];omega) v' W.heap.size (fun u hu a ha=>(hold u hu a ha).2) (by
   have h5:=vals_get ps k 1 hk (by omega)
   have h6:(Value.slice (some ⟨b,0,none⟩) ps.length cap::ps.flatMap RV.vals)[1+(k*4+1)]?=some ps[k].vn:=by
    rw [Nat.add_comm 1,List.getElem?_cons_succ];have h7:ps[k].vals[1]?=some ps[k].vn:=by simp [RV.vals]
    exact h5.trans h7
   rw [List.getElem?_eq_getElem (by simp [hvl];omega)] at h6;injection h6 with h6
   rw [h6];exact hb)
  rw [Nat.add_comm 1,List.set_cons_succ] at h1;exact h1
 ·intro u hu a ha
  rw [hset] at hu;rcases List.mem_cons.1 hu with rfl | hu
  ·exact h.new _ (List.mem_cons_self ..) a ha
  ·rcases mem_set_vals hu with h1 | rfl
   ·exact h.new u (List.mem_cons_of_mem _ h1) a ha
   ·exact (hnv a ha).1
theorem DS.app_t {wb w W w2:World} {p:Nat} {A:Option Addr} {l:List UInt8} {c g b n cap:Nat} {ps:List RV} {R:Nat} (h:DS wb w W p A l c g (.slice (some ⟨b,0,none⟩) n cap) ps R) (k:Nat) (hk:k<ps.length) {v':Value} {xs:List Int} (ho:OwnL vint 3 wb w2 v' xs) (he:Ext wb w2)
 (hb:v'.ownBlock=ps[k].vt.ownBlock∨v'.ownBlock=some W.heap.size) (hg:W.grownBy w2 ps[k].vt.ownBlock) :
 (w2.cell? ⟨b,k*8+6,none⟩=some ps[k].vt∧w2.frozen? ⟨b,k*8+6,none⟩=false∧w2.cell? ⟨g,0,none⟩=some (.slice (some ⟨b,0,none⟩) n cap))∧DS wb w (w2.setCell ⟨b,k*8+6,none⟩ v') p A l c g (.slice (some ⟨b,0,none⟩) n cap) (ps.set k ⟨{ ps[k].r with tags:=xs },ps[k].vb,ps[k].vn,v',ps[k].vk⟩) R:=by
 have hn:n=ps.length:=by obtain ⟨_,_,hh⟩:=h.own.shape;injection hh
 subst hn;have hbn:=h.new _ (List.mem_cons_self ..) b rfl;have hblk:=h.own.block _ (List.mem_cons_self ..) b rfl;have hold:=h.own.block;have hmem:ps[k].vt∈ps.flatMap RV.vals:=List.mem_flatMap.2 ⟨ps[k],List.getElem_mem hk,by simp [RV.vals]⟩
 have hnk:=h.new _ (List.mem_cons_of_mem _ hmem);have hfar:=h.own.far;have hfar0:=hfar;unfold Far at hfar;rw [List.pairwise_cons] at hfar;have hvl:=vals_len ps;have hbX:∀ a,ps[k].vt.ownBlock=some a→a≠b:=fun a ha hh=>by subst hh;exact hfar.1 _ hmem a rfl ha
 -- the other values lie elsewhere
 have hother:∀ i,i<(ps.flatMap RV.vals).length→i≠k*4+2→∀ u a,(ps.flatMap RV.vals)[i]?=some u→u.ownBlock=some a→ps[k].vt.ownBlock≠some a:=by
  intro i hi hne u a hu ha hx;have h4:=hfar.2;rw [List.pairwise_iff_getElem] at h4;have h5:=vals_get ps k 2 hk (by omega);have h6:(ps.flatMap RV.vals)[k*4+2]?=some ps[k].vt:=by rw [h5];simp [RV.vals]
  have hlt:k*4+2<(ps.flatMap RV.vals).length:=by rw [hvl];omega
  rw [List.getElem?_eq_getElem hi] at hu;rw [List.getElem?_eq_getElem hlt] at h6;injection hu with hu;injection h6 with h6
  rcases (by omega:i<k*4+2∨k*4+2<i) with h7 | h7
  ·exact h4 i _ hi hlt h7 a (by rw [hu];exact ha) (by rw [h6];exact hx)
  ·exact h4 _ i hlt hi h7 a (by rw [h6];exact hx) (by rw [hu];exact ha)
 have hset:=vals_put ps k 2 hk v' ⟨{ ps[k].r with tags:=xs },ps[k].vb,ps[k].vn,v',ps[k].vk⟩ (by omega) (by simp [RV.vals]);have hrow2:=h.own.row.keep hg (fun a ha hh=>by injection ha with ha;exact hbX a hh ha.symm)
 have hnv:∀ a,v'.ownBlock=some a→(w.heap.size≤a∧a≠g∧a≠p∧a≠R)∧a≠b:=by
  intro a ha;rcases hb with hb | hb
  ·exact ⟨hnk a (hb.symm.trans ha),hbX a (hb.symm.trans ha)⟩
  ·rw [hb] at ha;injection ha with ha
   have h1:=h.box.lt;have h2:=h.res.lt;have h3:=h.cur.lt;have h4:=h.grow.size;exact ⟨⟨by omega,by omega,by omega,by omega⟩,by omega⟩
 have hB2:Box w2 g #[.slice (some ⟨b,0,none⟩) ps.length cap] 26:=h.box.moved hg (fun hh=>(hnk g hh).2.1 rfl)
 have hR2:Box w2 R #[.slice none 0 0] 26:=h.res.moved hg (fun hh=>(hnk R hh).2.2.2 rfl)
 have hC2:=Cur.kept h.cur hg (fun hh=>(hnk p hh).2.2.1 rfl) he;have hG2:=grown_own h.grow (fun a ha=>(hnk a ha).1) hg;have hrow:=(hrow2.stored (k*8+6) v').1;rw [cells_put ps k 6 hk v' ⟨{ ps[k].r with tags:=xs },ps[k].vb,ps[k].vn,v',ps[k].vk⟩ (by omega) (by simp [RV.cells])] at hrow
 have hcell:w2.cell? ⟨b,k*8+6,none⟩=some ps[k].vt:=by
  have h0:=hrow2.cellAt (k*8+6) (by omega);rw [h0,cells_get ps k 6 hk (by omega)];simp [RV.cells]
 refine ⟨⟨hcell,hrow2.frozenAt _,hB2.cell 0⟩,hB2.other hbn.2.1.symm _ v',⟨by rw [List.length_set];exact hrow,fun q hq=>?_,?_⟩,?_,hC2.set (a:=⟨b,k*8+6,none⟩) hbn.2.2.1 hblk.1 v',grown_new (a:=⟨b,k*8+6,none⟩) hG2 hbn.1 v',h.gw,h.gb,h.gp,hR2.other hbn.2.2.2.symm _ v',h.gR,h.pR⟩
 ·have hst:∀ {α:Type} {f:α→Value} {e:TypeId} {u:Value} {xs:List α},OwnL f e wb w2 u xs→(∀ a,u.ownBlock=some a→a≠b)→OwnL f e wb (w2.setCell ⟨b,k*8+6,none⟩ v') u xs:=fun hu hub=>hu.keep (grown_set w2 ⟨b,k*8+6,none⟩ v') (fun a ha hh=>by injection hh with hh;exact hub a ha hh.symm)
  have hvb:∀ u∈ps.flatMap RV.vals,∀ a,u.ownBlock=some a→a≠b:=fun u hu a ha hh=>by subst hh;exact hfar.1 u hu a rfl ha
  have key:∀ i (hi:i<ps.length) (j:Nat),j<4→(i≠k∨j≠2)→∀ {α:Type} {f:α→Value} {e:TypeId} {u:Value} {xs:List α},ps[i].vals[j]?=some u→OwnL f e wb W u xs→OwnL f e wb (w2.setCell ⟨b,k*8+6,none⟩ v') u xs:=by
   intro i hi j hj hij α f e u xs hu hown;have hget:=vals_get ps i j hi hj;rw [hu] at hget;refine hst (hown.keep hg (fun a ha hh=>?_)) (hvb u (List.mem_of_getElem? hget));exact hother (i*4+j) (by rw [hvl];omega) (by rcases hij with h1 | h1<;>omega) u a hget ha hh
  rcases List.getElem_of_mem hq with ⟨i,hi,rfl⟩
  rw [List.length_set] at hi;rw [List.getElem_set]
  split
  ·rename_i e1
   subst e1;have h0:=h.own.each _ (List.getElem_mem hk);exact ⟨key k hk 0 (by omega) (.inr (by omega)) (by simp [RV.vals]) h0.b,key k hk 1 (by omega) (.inr (by omega)) (by simp [RV.vals]) h0.n,hst ho (fun a ha=>(hnv a ha).2),key k hk 3 (by omega) (.inr (by omega)) (by simp [RV.vals]) h0.k⟩
  ·rename_i e1
   have h0:=h.own.each _ (List.getElem_mem hi);exact ⟨key i hi 0 (by omega) (.inl (fun hh=>e1 hh.symm)) (by simp [RV.vals]) h0.b,key i hi 1 (by omega) (.inl (fun hh=>e1 hh.symm)) (by simp [RV.vals]) h0.n,key i hi 2 (by omega) (.inl (fun hh=>e1 hh.symm)) (by simp [RV.vals]) h0.t,key i hi 3 (by omega) (.inl (fun hh=>e1 hh.symm)) (by simp [RV.vals]) h0.k⟩
 ·rw [hset]
  have h1:=far_set hfar0 (1+(k*4+2)) (by simp [hvl];omega) v' W.heap.size (fun u hu a ha=>(hold u hu a ha).2) (by
   have h5:=vals_get ps k 2 hk (by omega)
   have h6:(Value.slice (some ⟨b,0,none⟩) ps.length cap::ps.flatMap RV.vals)[1+(k*4+2)]?=some ps[k].vt:=by
    rw [Nat.add_comm 1,List.getElem?_cons_succ];have h7:ps[k].vals[2]?=some ps[k].vt:=by simp [RV.vals]
    exact h5.trans h7
   rw [List.getElem?_eq_getElem (by simp [hvl];omega)] at h6;injection h6 with h6
   rw [h6];exact hb)
  rw [Nat.add_comm 1,List.set_cons_succ] at h1;exact h1
 ·intro u hu a ha
  rw [hset] at hu;rcases List.mem_cons.1 hu with rfl | hu
  ·exact h.new _ (List.mem_cons_self ..) a ha
  ·rcases mem_set_vals hu with h1 | rfl
   ·exact h.new u (List.mem_cons_of_mem _ h1) a ha
   ·exact (hnv a ha).1
theorem DS.app_k {wb w W w2:World} {p:Nat} {A:Option Addr} {l:List UInt8} {c g b n cap:Nat} {ps:List RV} {R:Nat} (h:DS wb w W p A l c g (.slice (some ⟨b,0,none⟩) n cap) ps R) (k:Nat) (hk:k<ps.length) {v':Value} {xs:List Int} (ho:OwnL vint 3 wb w2 v' xs) (he:Ext wb w2)
 (hb:v'.ownBlock=ps[k].vk.ownBlock∨v'.ownBlock=some W.heap.size) (hg:W.grownBy w2 ps[k].vk.ownBlock) :
 (w2.cell? ⟨b,k*8+7,none⟩=some ps[k].vk∧w2.frozen? ⟨b,k*8+7,none⟩=false∧w2.cell? ⟨g,0,none⟩=some (.slice (some ⟨b,0,none⟩) n cap))∧DS wb w (w2.setCell ⟨b,k*8+7,none⟩ v') p A l c g (.slice (some ⟨b,0,none⟩) n cap) (ps.set k ⟨{ ps[k].r with kids:=xs },ps[k].vb,ps[k].vn,ps[k].vt,v'⟩) R:=by
 have hn:n=ps.length:=by obtain ⟨_,_,hh⟩:=h.own.shape;injection hh
 subst hn;have hbn:=h.new _ (List.mem_cons_self ..) b rfl;have hblk:=h.own.block _ (List.mem_cons_self ..) b rfl;have hold:=h.own.block;have hmem:ps[k].vk∈ps.flatMap RV.vals:=List.mem_flatMap.2 ⟨ps[k],List.getElem_mem hk,by simp [RV.vals]⟩
 have hnk:=h.new _ (List.mem_cons_of_mem _ hmem);have hfar:=h.own.far;have hfar0:=hfar;unfold Far at hfar;rw [List.pairwise_cons] at hfar;have hvl:=vals_len ps;have hbX:∀ a,ps[k].vk.ownBlock=some a→a≠b:=fun a ha hh=>by subst hh;exact hfar.1 _ hmem a rfl ha
 -- the other values lie elsewhere
 have hother:∀ i,i<(ps.flatMap RV.vals).length→i≠k*4+3→∀ u a,(ps.flatMap RV.vals)[i]?=some u→u.ownBlock=some a→ps[k].vk.ownBlock≠some a:=by
  intro i hi hne u a hu ha hx;have h4:=hfar.2;rw [List.pairwise_iff_getElem] at h4;have h5:=vals_get ps k 3 hk (by omega);have h6:(ps.flatMap RV.vals)[k*4+3]?=some ps[k].vk:=by rw [h5];simp [RV.vals]
  have hlt:k*4+3<(ps.flatMap RV.vals).length:=by rw [hvl];omega
  rw [List.getElem?_eq_getElem hi] at hu;rw [List.getElem?_eq_getElem hlt] at h6;injection hu with hu;injection h6 with h6
  rcases (by omega:i<k*4+3∨k*4+3<i) with h7 | h7
  ·exact h4 i _ hi hlt h7 a (by rw [hu];exact ha) (by rw [h6];exact hx)
  ·exact h4 _ i hlt hi h7 a (by rw [h6];exact hx) (by rw [hu];exact ha)
 have hset:=vals_put ps k 3 hk v' ⟨{ ps[k].r with kids:=xs },ps[k].vb,ps[k].vn,ps[k].vt,v'⟩ (by omega) (by simp [RV.vals]);have hrow2:=h.own.row.keep hg (fun a ha hh=>by injection ha with ha;exact hbX a hh ha.symm)
 have hnv:∀ a,v'.ownBlock=some a→(w.heap.size≤a∧a≠g∧a≠p∧a≠R)∧a≠b:=by
  intro a ha;rcases hb with hb | hb
  ·exact ⟨hnk a (hb.symm.trans ha),hbX a (hb.symm.trans ha)⟩
  ·rw [hb] at ha;injection ha with ha
   have h1:=h.box.lt;have h2:=h.res.lt;have h3:=h.cur.lt;have h4:=h.grow.size;exact ⟨⟨by omega,by omega,by omega,by omega⟩,by omega⟩
 have hB2:Box w2 g #[.slice (some ⟨b,0,none⟩) ps.length cap] 26:=h.box.moved hg (fun hh=>(hnk g hh).2.1 rfl)
 have hR2:Box w2 R #[.slice none 0 0] 26:=h.res.moved hg (fun hh=>(hnk R hh).2.2.2 rfl)
 have hC2:=Cur.kept h.cur hg (fun hh=>(hnk p hh).2.2.1 rfl) he;have hG2:=grown_own h.grow (fun a ha=>(hnk a ha).1) hg;have hrow:=(hrow2.stored (k*8+7) v').1;rw [cells_put ps k 7 hk v' ⟨{ ps[k].r with kids:=xs },ps[k].vb,ps[k].vn,ps[k].vt,v'⟩ (by omega) (by simp [RV.cells])] at hrow
 have hcell:w2.cell? ⟨b,k*8+7,none⟩=some ps[k].vk:=by
  have h0:=hrow2.cellAt (k*8+7) (by omega);rw [h0,cells_get ps k 7 hk (by omega)];simp [RV.cells]
 refine ⟨⟨hcell,hrow2.frozenAt _,hB2.cell 0⟩,hB2.other hbn.2.1.symm _ v',⟨by rw [List.length_set];exact hrow,fun q hq=>?_,?_⟩,?_,hC2.set (a:=⟨b,k*8+7,none⟩) hbn.2.2.1 hblk.1 v',grown_new (a:=⟨b,k*8+7,none⟩) hG2 hbn.1 v',h.gw,h.gb,h.gp,hR2.other hbn.2.2.2.symm _ v',h.gR,h.pR⟩
 ·have hst:∀ {α:Type} {f:α→Value} {e:TypeId} {u:Value} {xs:List α},OwnL f e wb w2 u xs→(∀ a,u.ownBlock=some a→a≠b)→OwnL f e wb (w2.setCell ⟨b,k*8+7,none⟩ v') u xs:=fun hu hub=>hu.keep (grown_set w2 ⟨b,k*8+7,none⟩ v') (fun a ha hh=>by injection hh with hh;exact hub a ha hh.symm)
  have hvb:∀ u∈ps.flatMap RV.vals,∀ a,u.ownBlock=some a→a≠b:=fun u hu a ha hh=>by subst hh;exact hfar.1 u hu a rfl ha
  have key:∀ i (hi:i<ps.length) (j:Nat),j<4→(i≠k∨j≠3)→∀ {α:Type} {f:α→Value} {e:TypeId} {u:Value} {xs:List α},ps[i].vals[j]?=some u→OwnL f e wb W u xs→OwnL f e wb (w2.setCell ⟨b,k*8+7,none⟩ v') u xs:=by
   intro i hi j hj hij α f e u xs hu hown;have hget:=vals_get ps i j hi hj;rw [hu] at hget;refine hst (hown.keep hg (fun a ha hh=>?_)) (hvb u (List.mem_of_getElem? hget));exact hother (i*4+j) (by rw [hvl];omega) (by rcases hij with h1 | h1<;>omega) u a hget ha hh
  rcases List.getElem_of_mem hq with ⟨i,hi,rfl⟩
  rw [List.length_set] at hi;rw [List.getElem_set]
  split
  ·rename_i e1
   subst e1;have h0:=h.own.each _ (List.getElem_mem hk);exact ⟨key k hk 0 (by omega) (.inr (by omega)) (by simp [RV.vals]) h0.b,key k hk 1 (by omega) (.inr (by omega)) (by simp [RV.vals]) h0.n,key k hk 2 (by omega) (.inr (by omega)) (by simp [RV.vals]) h0.t,hst ho (fun a ha=>(hnv a ha).2)⟩
  ·rename_i e1
   have h0:=h.own.each _ (List.getElem_mem hi);exact ⟨key i hi 0 (by omega) (.inl (fun hh=>e1 hh.symm)) (by simp [RV.vals]) h0.b,key i hi 1 (by omega) (.inl (fun hh=>e1 hh.symm)) (by simp [RV.vals]) h0.n,key i hi 2 (by omega) (.inl (fun hh=>e1 hh.symm)) (by simp [RV.vals]) h0.t,key i hi 3 (by omega) (.inl (fun hh=>e1 hh.symm)) (by simp [RV.vals]) h0.k⟩
 ·rw [hset]
  have h1:=far_set hfar0 (1+(k*4+3)) (by simp [hvl];omega) v' W.heap.size (fun u hu a ha=>(hold u hu a ha).2) (by
   have h5:=vals_get ps k 3 hk (by omega)
   have h6:(Value.slice (some ⟨b,0,none⟩) ps.length cap::ps.flatMap RV.vals)[1+(k*4+3)]?=some ps[k].vk:=by
    rw [Nat.add_comm 1,List.getElem?_cons_succ];have h7:ps[k].vals[3]?=some ps[k].vk:=by simp [RV.vals]
    exact h5.trans h7
   rw [List.getElem?_eq_getElem (by simp [hvl];omega)] at h6;injection h6 with h6
   rw [h6];exact hb)
  rw [Nat.add_comm 1,List.set_cons_succ] at h1;exact h1
 ·intro u hu a ha
  rw [hset] at hu;rcases List.mem_cons.1 hu with rfl | hu
  ·exact h.new _ (List.mem_cons_self ..) a ha
  ·rcases mem_set_vals hu with h1 | rfl
   ·exact h.new u (List.mem_cons_of_mem _ h1) a ha
   ·exact (hnv a ha).1
theorem l1IntBox_c (ns:List Int) (hns:0<ns.length) (hns2:ns.length≤256) (n:Nat) (hn:n=ns.length) (cs:Array Value) (hcs:cs=(ns.map vint).toArray) (wb w:World) (p:Nat) (A:Option Addr) (l:List UInt8) (c:Nat) (hA:Bs wb A l c) (b:Nat) (hC:Cur wb w p A l c) (hb:Box w b cs 3) :
 Calls Tryz.prog 125 #[.pointer (some ⟨p,0,none⟩),.slice (some ⟨b,0,none⟩) n n] w fun e w'=>∃ x∈ns,e=.returned (.int .i64 x)∧Cur wb w' p A l c∧w.grownBy w' (some p):=by
 subst hn;subst hcs
 have hbp:p≠b:=by
  rintro rfl;obtain ⟨_,_,i,x,_,h4⟩:=hC;have h5:w.heap[p]?=_:=hb
  rw [h5] at h4;injection h4 with h4
  injection h4 with _ h7
  exact absurd h7 (by decide)
 refine (l1Int_c (some ⟨b,0,none⟩) ns ns.length hns hns2 wb _ p A l c hA hC ?_).mono ?_
 ·intro w' hg i hi
  refine ⟨b,0,rfl,?_⟩;rw [(hb.moved hg (some_ne hbp)).cell (0+i),Nat.zero_add];simp [vint,hi]
 ·rintro e w' ⟨x,hx,he,hC1,hg⟩
  exact ⟨x,hx,he,hC1,hg⟩
theorem DS.put' {wb w wr:World} {p:Nat} {A:Option Addr} {l:List UInt8} {c g b n cap:Nat} {ps:List RV} {R:Nat} (h:DS wb w wr p A l c g (.slice (some ⟨b,0,none⟩) n cap) ps R) (k j:Nat) (hk:k<ps.length) (hj:j<4) {q:RV} (hq:ps[k]=q) (u:Value) (p':RV) (hc:p'.cells=q.cells.set j u) (hv:p'.vals=q.vals)
 (hr:p'.r.bytes=q.r.bytes∧p'.r.names=q.r.names∧p'.r.tags=q.r.tags∧p'.r.kids=q.r.kids) :
 (wr.cell? ⟨b,k*8+j,none⟩=q.cells[j]?∧wr.frozen? ⟨b,k*8+j,none⟩=false)∧DS wb w (wr.setCell ⟨b,k*8+j,none⟩ u) p A l c g (.slice (some ⟨b,0,none⟩) n cap) (ps.set k p') R:=by
 subst hq;exact h.put k j hk hj u p' hc hv hr
theorem DS.cellr {wb w wr:World} {p:Nat} {A:Option Addr} {l:List UInt8} {c g b n cap:Nat} {ps:List RV} {R:Nat} (h:DS wb w wr p A l c g (.slice (some ⟨b,0,none⟩) n cap) ps R) (k j:Nat) (hk:k<ps.length) (hj:j<8) {q:RV} (hq:ps[k]=q):wr.cell? ⟨b,k*8+j,none⟩=q.cells[j]?:=by
 subst hq;have hn:n=ps.length:=by obtain ⟨_,_,hh⟩:=h.own.shape;injection hh
 subst hn;have h0:=h.own.row.cellAt (k*8+j) (by omega);rw [h0,cells_get ps k j hk hj]
theorem DS.rule {wb w wr:World} {p:Nat} {A:Option Addr} {l:List UInt8} {c g:Nat} {v:Value} {ps:List RV} {R:Nat} (h:DS wb w wr p A l c g v ps R) (k:Nat) (hk:k<ps.length) {q:RV} (hq:ps[k]=q):RuleOwn wb wr q:=hq▸h.own.each _ (List.getElem_mem hk)
theorem Box.newd' (w:World) (cs:Array Value) (T:TypeId) (n:Nat) (hn:n=w.heap.size):Box (w.alloc (.cells cs T)).drew n cs T:=by subst hn;exact (Box.new w cs T).ext (Ext_drew (Ext.refl _))
theorem Box.new' (w:World) (cs:Array Value) (T:TypeId) (n:Nat) (hn:n=w.heap.size):Box (w.alloc (.cells cs T)) n cs T:=by subst hn;exact Box.new w cs T
theorem DS.app_b' {wb w W w2:World} {p:Nat} {A:Option Addr} {l:List UInt8} {c g b n cap:Nat} {ps:List RV} {R:Nat} (h:DS wb w W p A l c g (.slice (some ⟨b,0,none⟩) n cap) ps R) (k:Nat) (hk:k<ps.length) {q:RV} (hq:ps[k]=q) {v':Value} {xs:List UInt8} (ho:OwnL vu8 5 wb w2 v' xs) (he:Ext wb w2)
 (hb:v'.ownBlock=q.vb.ownBlock∨v'.ownBlock=some W.heap.size) (hg:W.grownBy w2 q.vb.ownBlock) :
 (w2.cell? ⟨b,k*8+4,none⟩=some q.vb∧w2.frozen? ⟨b,k*8+4,none⟩=false∧w2.cell? ⟨g,0,none⟩=some (.slice (some ⟨b,0,none⟩) n cap))∧DS wb w (w2.setCell ⟨b,k*8+4,none⟩ v') p A l c g (.slice (some ⟨b,0,none⟩) n cap) (ps.set k ⟨{ q.r with bytes:=xs },v',q.vn,q.vt,q.vk⟩) R:=by
 subst hq;exact h.app_b k hk ho he hb hg
theorem DS.app_n' {wb w W w2:World} {p:Nat} {A:Option Addr} {l:List UInt8} {c g b n cap:Nat} {ps:List RV} {R:Nat} (h:DS wb w W p A l c g (.slice (some ⟨b,0,none⟩) n cap) ps R) (k:Nat) (hk:k<ps.length) {q:RV} (hq:ps[k]=q) {v':Value} {xs:List ByteArray} (ho:OwnL vstr 9 wb w2 v' xs) (he:Ext wb w2)
 (hb:v'.ownBlock=q.vn.ownBlock∨v'.ownBlock=some W.heap.size) (hg:W.grownBy w2 q.vn.ownBlock) :
 (w2.cell? ⟨b,k*8+5,none⟩=some q.vn∧w2.frozen? ⟨b,k*8+5,none⟩=false∧w2.cell? ⟨g,0,none⟩=some (.slice (some ⟨b,0,none⟩) n cap))∧DS wb w (w2.setCell ⟨b,k*8+5,none⟩ v') p A l c g (.slice (some ⟨b,0,none⟩) n cap) (ps.set k ⟨{ q.r with names:=xs },q.vb,v',q.vt,q.vk⟩) R:=by
 subst hq;exact h.app_n k hk ho he hb hg
theorem DS.app_t' {wb w W w2:World} {p:Nat} {A:Option Addr} {l:List UInt8} {c g b n cap:Nat} {ps:List RV} {R:Nat} (h:DS wb w W p A l c g (.slice (some ⟨b,0,none⟩) n cap) ps R) (k:Nat) (hk:k<ps.length) {q:RV} (hq:ps[k]=q) {v':Value} {xs:List Int} (ho:OwnL vint 3 wb w2 v' xs) (he:Ext wb w2)
 (hb:v'.ownBlock=q.vt.ownBlock∨v'.ownBlock=some W.heap.size) (hg:W.grownBy w2 q.vt.ownBlock) :
 (w2.cell? ⟨b,k*8+6,none⟩=some q.vt∧w2.frozen? ⟨b,k*8+6,none⟩=false∧w2.cell? ⟨g,0,none⟩=some (.slice (some ⟨b,0,none⟩) n cap))∧DS wb w (w2.setCell ⟨b,k*8+6,none⟩ v') p A l c g (.slice (some ⟨b,0,none⟩) n cap) (ps.set k ⟨{ q.r with tags:=xs },q.vb,q.vn,v',q.vk⟩) R:=by
 subst hq;exact h.app_t k hk ho he hb hg
theorem DS.app_k' {wb w W w2:World} {p:Nat} {A:Option Addr} {l:List UInt8} {c g b n cap:Nat} {ps:List RV} {R:Nat} (h:DS wb w W p A l c g (.slice (some ⟨b,0,none⟩) n cap) ps R) (k:Nat) (hk:k<ps.length) {q:RV} (hq:ps[k]=q) {v':Value} {xs:List Int} (ho:OwnL vint 3 wb w2 v' xs) (he:Ext wb w2)
 (hb:v'.ownBlock=q.vk.ownBlock∨v'.ownBlock=some W.heap.size) (hg:W.grownBy w2 q.vk.ownBlock) :
 (w2.cell? ⟨b,k*8+7,none⟩=some q.vk∧w2.frozen? ⟨b,k*8+7,none⟩=false∧w2.cell? ⟨g,0,none⟩=some (.slice (some ⟨b,0,none⟩) n cap))∧DS wb w (w2.setCell ⟨b,k*8+7,none⟩ v') p A l c g (.slice (some ⟨b,0,none⟩) n cap) (ps.set k ⟨{ q.r with kids:=xs },q.vb,q.vn,q.vt,v'⟩) R:=by
 subst hq;exact h.app_k k hk ho he hb hg
structure AnyV (wb w w':World) (v:Value) (ps:List RV):Prop where
 small:SmD (rulesOf ps)
 own:OwnD wb w' v ps
 new:∀ u∈v::ps.flatMap RV.vals,∀ b,u.ownBlock=some b→w.heap.size≤b
theorem SmD_set {ps:List RV} {k:Nat} {p':RV} (h:SmD (rulesOf ps)) (hp:SmR p'.r):SmD (rulesOf (ps.set k p')):=by
 refine ⟨by have:=h.1;simpa [rulesOf] using this,fun r hr=>?_⟩;obtain ⟨q,hq,rfl⟩:=List.mem_map.1 hr;rcases List.mem_or_eq_of_mem_set hq with h1 | rfl
 ·exact h.2 _ (List.mem_map_of_mem h1)
 ·exact hp
theorem MadeD.sm {ps:List RV} (h:MadeD (rulesOf ps)) (hs:SmallD (rulesOf ps)):SmD (rulesOf ps):=⟨hs.1,fun r hr=>(hs.2 r hr).sm (by
 obtain ⟨i,hi,rfl⟩:=List.getElem_of_mem hr
 have:=(h i hi).ok;unfold kindOk at this
 by_cases h1:(rulesOf ps)[i].kind=1;· omega
 by_cases h2:(rulesOf ps)[i].kind=2;· omega
 by_cases h3:(rulesOf ps)[i].kind=3;· omega
 by_cases h4:(rulesOf ps)[i].kind=4;· omega
 by_cases h5:(rulesOf ps)[i].kind=5;· omega
 by_cases h6:(rulesOf ps)[i].kind=6;· omega
 by_cases h7:(rulesOf ps)[i].kind=7;· omega
 by_cases h8:(rulesOf ps)[i].kind=8;· omega
 by_cases h9:(rulesOf ps)[i].kind=9;· omega
 by_cases h10:(rulesOf ps)[i].kind=10;· omega
 simp [h1,h2,h3,h4,h5,h6,h7,h8,h9,h10] at this)⟩
theorem DS.finish {wb w wr:World} {p:Nat} {A:Option Addr} {l:List UInt8} {c g:Nat} {v:Value} {ps:List RV} (h:DS wb w wr p A l c g v ps w.heap.size) (hbw:wb.heap.size≤w.heap.size) :
 OwnD wb (wr.setCell ⟨w.heap.size,0,none⟩ v) v ps∧(∀ u∈v::ps.flatMap RV.vals,∀ b,u.ownBlock=some b→w.heap.size≤b)∧Cur wb (wr.setCell ⟨w.heap.size,0,none⟩ v) p A l c∧w.grownBy (wr.setCell ⟨w.heap.size,0,none⟩ v) (some p) :=
 ⟨h.own.keep (grown_set wr ⟨w.heap.size,0,none⟩ _) (fun u hu b hb hh=>by injection hh with hh;exact (h.new u hu b hb).2.2.2 hh.symm),fun u hu b hb=>(h.new u hu b hb).1,h.cur.set (a:=⟨w.heap.size,0,none⟩) (fun hh=>h.pR hh.symm) hbw _,grown_new (a:=⟨w.heap.size,0,none⟩) h.grow (Nat.le_refl _) _⟩
theorem l4Any_c (wb w:World) (p:Nat) (A:Option Addr) (l:List UInt8) (c:Nat) (hA:Bs wb A l c) (hC:Cur wb w p A l c) :
 Calls Tryz.prog 69 #[.pointer (some ⟨p,0,none⟩)] w fun e w'=>∃ v ps,e=.returned (vdesc v)∧AnyV wb w w' v ps∧ps.length≤6∧Cur wb w' p A l c∧w.grownBy w' (some p):=by
 have hplt:=hC.lt;have hbw:=hC.2.1.size;have CBe:=lhd (fun n w h hn=>l1Below_c n wb w p A l c hA h hn);have CD:=lhd (fun w h=>l4Description_c wb w p A l c hA h);unfold vdesc at CD;have e0:=Ext_alloc (.cells #[.slice none 0 0] 26) (Ext.refl w);have HR:=lhd (Box.new w #[.slice none 0 0] 26);go_enter Tryz.func69,Tryz.ntmps69;go_wp2_with fail;refine (CD.out _ (hC.ext e0)).mono ?_;rintro _ w1 ⟨v,ps,rfl,hV,hps6,hC1,hg1⟩;have hp0:0<ps.length:=by obtain ⟨h,_⟩:=hV.first;simpa [rulesOf] using h
 obtain ⟨b,cap,hv⟩:∃ b cap,v=.slice (some ⟨b,0,none⟩) ps.length cap:=by
  rcases hV.own.row.2 with ⟨_,h0⟩ | ⟨g,cap,cur,hv,_⟩
  ·omega
  ·exact ⟨g,cap,hv⟩
 subst hv;have G1:=(grown_ext e0 (some p)).trans hg1;have x1:=Ext_alloc (.cells #[.slice (some ⟨b,0,none⟩) ps.length cap] 26) (Ext.refl w1);have hR1:=HR.out.moved hg1 (some_ne (by omega));have hRl:=hR1.lt;have hpl:=hC1.lt
 have S1:Hid (DS wb w (w1.alloc (.cells #[.slice (some ⟨b,0,none⟩) ps.length cap] 26)) p A l c w1.heap.size (.slice (some ⟨b,0,none⟩) ps.length cap) ps w.heap.size) :=
  ⟨Box.new w1 _ _,hV.own.ext x1,fun u hu b hb=>by
   have h1:=hV.new u hu b hb;rw [World.size_alloc] at h1;have h2:=(hV.own.block u hu b hb).2;exact ⟨by omega,by omega,by omega,by omega⟩,hC1.ext x1,G1.trans (grown_ext x1 _),by omega,by have:=hC1.2.1.size;omega,by omega,hR1.ext x1,by omega,by omega⟩
 have HSM:=lhd (hV.made.sm hV.small);have HSML:=lhd hV.small;have cd0:_=some (Value.slice (some ⟨b,0,none⟩) ps.length cap):=S1.out.box.cell 0
 clear hV hC1 hg1 G1 x1 hR1 HR e0 CD;go_wp2_with fail;refine (CBe.out ps.length _ S1.out.cur (by omega)).mono ?_;rintro _ w2 ⟨k,hk0,rfl,hC2,hg2⟩;have hk:k<ps.length:=by unfold below at hk0;rw [if_neg (by omega)] at hk0;omega
 have S2:=lhd (S1.out.moved hC2 hg2);clear hk0 hC2 hg2 S1 cd0;generalize w1.heap.size=g at *;go_wp2_with fail;refine (CBe.out 16 _ S2.out.cur (by omega)).mono ?_;rintro _ w3 ⟨y,hy,rfl,hC3,hg3⟩;have S3:=lhd (S2.out.moved hC3 hg3);clear hy hC3 hg3 S2;have cd0:_=some (Value.slice (some ⟨b,0,none⟩) ps.length cap):=S3.out.box.cell 0
 obtain ⟨q,hq⟩:∃ q,ps[k]=q:=⟨_,rfl⟩;have hsr:SmR q.r:=hq▸HSM.out.2 _ (List.mem_map_of_mem (List.getElem_mem hk))
 have hsl:SmallR q.r:=hq▸HSML.out.2 _ (List.mem_map_of_mem (List.getElem_mem hk))
 have HRO:=S3.out.rule k hk hq;obtain ⟨r,vb,vn,vt,vk⟩:=q;obtain ⟨Ab,cb,An,cn,At,ct,Ak,ck,hs1,hs2,hs3,hs4,_⟩:=HRO.rd hsr.short;dsimp only at hs1 hs2 hs3 hs4 hsr hsl;subst hs1;subst hs2;subst hs3;subst hs4;have HQ:=lhd hq;have HSR:=lhd hsr;have HSL:=lhd hsl;have b1:(k:Int)<(ps.length:Int):=by omega
 have b0:(0:Int)≤(k:Int):=by omega
 have b2:(0:Int)<(ps.length:Int):=by omega
 have SX:=lhd (S3.out.ext (Ext_drew (Ext.refl w3)));clear hq hsr hsl HRO hRl hpl;rcases (by omega:y=0∨y=1∨y=2∨y=3∨y=4∨y=5∨y=6∨y=7∨y=8∨9≤y) with rfl | rfl | rfl | rfl | rfl | rfl | rfl | rfl | rfl | hy9
 ·obtain ⟨n0,hn0⟩:∃ n0,ps[0].r.nm=n0:=⟨_,rfl⟩
  have hc00:w3.cell? ⟨b,0,none⟩=some (.string n0):=by
   have h1:=S3.out.cellr 0 0 hp0 (by omega) rfl;rw [← hn0]
   simpa [RV.cells] using h1
  have HN0:Hid (n0.size≤60):=by show _≤_;rw [← hn0];exact (HSM.out.2 _ (List.mem_map_of_mem (List.getElem_mem hp0))).nm
  clear hn0;have cl1:_=some (Value.slice (some ⟨b,0,none⟩) ps.length cap):=(S3.out.ext (Ext_drew (Ext_alloc (.cells #[.string ⟨#[]⟩,.string ⟨#[65]⟩,.string n0,.string ⟨#[118,101,114,121,108,111,110,103,110,97,109,101,105,110,100,101,101,100]⟩] 9) (Ext.refl w3)))).box.cell 0
  go_wp2_with fail
  go_region_law (first
   | (go_simp;go_at_call 124;refine (l1StrBox_c [⟨#[]⟩,⟨#[65]⟩,n0,⟨#[118,101,114,121,108,111,110,103,110,97,109,101,105,110,100,101,101,100]⟩] (by simp) (by simp) 4 rfl #[.string ⟨#[]⟩,.string ⟨#[65]⟩,.string n0,.string ⟨#[118,101,114,121,108,111,110,103,110,97,109,101,105,110,100,101,101,100]⟩] rfl wb _ p A l c hA _ ((S3.out.ext (Ext_drew (Ext_alloc (.cells #[.string ⟨#[]⟩,.string ⟨#[65]⟩,.string n0,.string ⟨#[118,101,114,121,108,111,110,103,110,97,109,101,105,110,100,101,101,100]⟩] 9) (Ext.refl w3))))).cur (Box.newd' _ _ _ _ rfl)).mono ?_;rintro _ w5 ⟨x,hx,rfl,hC5,hg5⟩;have S5:=lhd (DS.moved (S3.out.ext (Ext_drew (Ext_alloc (.cells #[.string ⟨#[]⟩,.string ⟨#[65]⟩,.string n0,.string ⟨#[118,101,114,121,108,111,110,103,110,97,109,101,105,110,100,101,101,100]⟩] 9) (Ext.refl w3)))) hC5 hg5);have c5:_=some (Value.slice (some ⟨b,0,none⟩) ps.length cap):=S5.out.box.cell 0;have HX:=lhd hx;clear hx;have PT:=S5.out.put' k 0 hk (by omega) HQ.out (.string x) ⟨{ r with nm:=x },.slice Ab r.bytes.length cb,.slice An r.names.length cn,.slice At r.tags.length ct,.slice Ak r.kids.length ck⟩ rfl rfl ⟨rfl,rfl,rfl,rfl⟩;have z5:w5.cell? ⟨b,k*8,none⟩=some (Value.string r.nm):=PT.1.1;have y5:w5.frozen? ⟨b,k*8,none⟩=false:=PT.1.2;have M7:Hid (DS wb w (w5.setCell ⟨b,k*8,none⟩ (.string x)) p A l c g (Value.slice (some ⟨b,0,none⟩) ps.length cap) (ps.set k ⟨{ r with nm:=x },.slice Ab r.bytes.length cb,.slice An r.names.length cn,.slice At r.tags.length ct,.slice Ak r.kids.length ck⟩) w.heap.size):=PT.2;clear PT S5 hC5 hg5)
   | (go_simp;go_at_call 124;refine (l1StrBox_c [⟨#[]⟩,⟨#[65]⟩,n0,⟨#[118,101,114,121,108,111,110,103,110,97,109,101,105,110,100,101,101,100]⟩] (by simp) (by simp) 4 rfl #[.string ⟨#[]⟩,.string ⟨#[65]⟩,.string n0,.string ⟨#[118,101,114,121,108,111,110,103,110,97,109,101,105,110,100,101,101,100]⟩] rfl wb _ p A l c hA _ ((SX.out.ext (Ext_alloc (.cells #[.string ⟨#[]⟩,.string ⟨#[65]⟩,.string n0,.string ⟨#[118,101,114,121,108,111,110,103,110,97,109,101,105,110,100,101,101,100]⟩] 9) (Ext.refl _)))).cur (Box.new' _ _ _ _ rfl)).mono ?_;rintro _ w5 ⟨x,hx,rfl,hC5,hg5⟩;have S5:=lhd (DS.moved (SX.out.ext (Ext_alloc (.cells #[.string ⟨#[]⟩,.string ⟨#[65]⟩,.string n0,.string ⟨#[118,101,114,121,108,111,110,103,110,97,109,101,105,110,100,101,101,100]⟩] 9) (Ext.refl _))) hC5 hg5);have c5:_=some (Value.slice (some ⟨b,0,none⟩) ps.length cap):=S5.out.box.cell 0;have HX:=lhd hx;clear hx;have PT:=S5.out.put' k 0 hk (by omega) HQ.out (.string x) ⟨{ r with nm:=x },.slice Ab r.bytes.length cb,.slice An r.names.length cn,.slice At r.tags.length ct,.slice Ak r.kids.length ck⟩ rfl rfl ⟨rfl,rfl,rfl,rfl⟩;have z5:w5.cell? ⟨b,k*8,none⟩=some (Value.string r.nm):=PT.1.1;have y5:w5.frozen? ⟨b,k*8,none⟩=false:=PT.1.2;have M7:Hid (DS wb w (w5.setCell ⟨b,k*8,none⟩ (.string x)) p A l c g (Value.slice (some ⟨b,0,none⟩) ps.length cap) (ps.set k ⟨{ r with nm:=x },.slice Ab r.bytes.length cb,.slice An r.names.length cn,.slice At r.tags.length ct,.slice Ak r.kids.length ck⟩) w.heap.size):=PT.2;clear PT S5 hC5 hg5))
  all_goals
   have cg:_=some (Value.slice (some ⟨b,0,none⟩) ps.length cap):=M7.out.box.cell 0
   have cr0:_=some (Value.slice none 0 0):=M7.out.res.cell 0
   have yr0:=M7.out.res.free 0;have OUT:=lhd (DS.finish M7.out hbw);have z9:(World.setCell (w5.setCell ⟨b,k*8,none⟩ (.string x)) ⟨w.heap.size,0,none⟩ (Value.slice (some ⟨b,0,none⟩) ps.length cap)).cell? ⟨w.heap.size,0,none⟩=some (Value.slice (some ⟨b,0,none⟩) ps.length cap):=World.cell?_setCell_same _ _ _ cr0
   have HSE:=lhd (SmD_set (k:=k) (p':=⟨{ r with nm:=x },.slice Ab r.bytes.length cb,.slice An r.names.length cn,.slice At r.tags.length ct,.slice Ak r.kids.length ck⟩) HSM.out (⟨by have h:=HX.out;have:=HN0.out;simp only [List.mem_cons,List.not_mem_nil,or_false] at h;(try dsimp only);rcases h with rfl | rfl | rfl | rfl<;>first | omega | decide,HSR.out.lens,HSR.out.nms,HSR.out.kind,HSR.out.ints⟩));clear M7;go_wp2;refine bodyPost_ret (v:=vdesc (Value.slice (some ⟨b,0,none⟩) ps.length cap)) (by simp [results,Tryz.results69,go_sem,z9,vdesc]) rfl ?_;have HLN:Hid ((ps.set k (⟨{ r with nm:=x },.slice Ab r.bytes.length cb,.slice An r.names.length cn,.slice At r.tags.length ct,.slice Ak r.kids.length ck⟩)).length≤6):=by show _≤_;simp;omega
   first
    | exact ⟨_,_,rfl,⟨HSE.out,OUT.out.1,OUT.out.2.1⟩,HLN.out,OUT.out.2.2.1,OUT.out.2.2.2⟩
    | exact ⟨_,rfl,_,⟨HSE.out,OUT.out.1,OUT.out.2.1⟩,HLN.out,OUT.out.2.2.1,OUT.out.2.2.2⟩
 ·have HWx:Hid (∀ x:Nat,below 13 x→x<13∧IntKind.i64.wrap ((x:Int)-1)=(x:Int)-1):=fun x hx=>by
   have:x<13:=by unfold below at hx;rw [if_neg (by omega)] at hx;omega
   exact ⟨this,IntWalk.i64_in _ (by omega)⟩
  go_wp2_with fail
  go_region_law (first
   | (go_simp;go_at_call 122;refine (CBe.out 13 _ SX.out.cur (by omega)).mono ?_;rintro _ w5 ⟨x,hx,rfl,hC5,hg5⟩;have S5:=lhd (DS.moved SX.out hC5 hg5);have c5:_=some (Value.slice (some ⟨b,0,none⟩) ps.length cap):=S5.out.box.cell 0;have HX:=lhd (HWx.out x hx);have hw5:=HX.out.2;clear hx;have PT:=S5.out.put' k 1 hk (by omega) HQ.out (.int .i64 ((x:Int)-1)) ⟨{ r with kind:=(x:Int)-1 },.slice Ab r.bytes.length cb,.slice An r.names.length cn,.slice At r.tags.length ct,.slice Ak r.kids.length ck⟩ rfl rfl ⟨rfl,rfl,rfl,rfl⟩;have z5:w5.cell? ⟨b,k*8+1,none⟩=some (Value.int .i64 r.kind):=PT.1.1;have y5:w5.frozen? ⟨b,k*8+1,none⟩=false:=PT.1.2;have M7:Hid (DS wb w (w5.setCell ⟨b,k*8+1,none⟩ (.int .i64 ((x:Int)-1))) p A l c g (Value.slice (some ⟨b,0,none⟩) ps.length cap) (ps.set k ⟨{ r with kind:=(x:Int)-1 },.slice Ab r.bytes.length cb,.slice An r.names.length cn,.slice At r.tags.length ct,.slice Ak r.kids.length ck⟩) w.heap.size):=PT.2;clear PT S5 hC5 hg5))
  all_goals
   clear hw5;have cg:_=some (Value.slice (some ⟨b,0,none⟩) ps.length cap):=M7.out.box.cell 0
   have cr0:_=some (Value.slice none 0 0):=M7.out.res.cell 0
   have yr0:=M7.out.res.free 0;have OUT:=lhd (DS.finish M7.out hbw);have z9:(World.setCell (w5.setCell ⟨b,k*8+1,none⟩ (.int .i64 ((x:Int)-1))) ⟨w.heap.size,0,none⟩ (Value.slice (some ⟨b,0,none⟩) ps.length cap)).cell? ⟨w.heap.size,0,none⟩=some (Value.slice (some ⟨b,0,none⟩) ps.length cap):=World.cell?_setCell_same _ _ _ cr0
   have HSE:=lhd (SmD_set (k:=k) (p':=⟨{ r with kind:=(x:Int)-1 },.slice Ab r.bytes.length cb,.slice An r.names.length cn,.slice At r.tags.length ct,.slice Ak r.kids.length ck⟩) HSM.out (⟨HSR.out.nm,HSR.out.lens,HSR.out.nms,by have:=HX.out.1;(try dsimp only);omega,HSR.out.ints⟩));clear M7;go_wp2;refine bodyPost_ret (v:=vdesc (Value.slice (some ⟨b,0,none⟩) ps.length cap)) (by simp [results,Tryz.results69,go_sem,z9,vdesc]) rfl ?_;have HLN:Hid ((ps.set k (⟨{ r with kind:=(x:Int)-1 },.slice Ab r.bytes.length cb,.slice An r.names.length cn,.slice At r.tags.length ct,.slice Ak r.kids.length ck⟩)).length≤6):=by show _≤_;simp;omega
   first
    | exact ⟨_,_,rfl,⟨HSE.out,OUT.out.1,OUT.out.2.1⟩,HLN.out,OUT.out.2.2.1,OUT.out.2.2.2⟩
    | exact ⟨_,rfl,_,⟨HSE.out,OUT.out.1,OUT.out.2.1⟩,HLN.out,OUT.out.2.2.1,OUT.out.2.2.2⟩
 ·have cl1:_=some (Value.slice (some ⟨b,0,none⟩) ps.length cap):=(S3.out.ext (Ext_drew (Ext_alloc (.cells #[.int .i64 (-1),.int .i64 0,.int .i64 1,.int .i64 4,.int .i64 5,.int .i64 64,.int .i64 65] 3) (Ext.refl w3)))).box.cell 0
  go_wp2_with fail
  go_region_law (first
   | (go_simp;go_at_call 125;refine (l1IntBox_c [-1,0,1,4,5,64,65] (by simp) (by simp) 7 rfl #[.int .i64 (-1),.int .i64 0,.int .i64 1,.int .i64 4,.int .i64 5,.int .i64 64,.int .i64 65] rfl wb _ p A l c hA _ ((S3.out.ext (Ext_drew (Ext_alloc (.cells #[.int .i64 (-1),.int .i64 0,.int .i64 1,.int .i64 4,.int .i64 5,.int .i64 64,.int .i64 65] 3) (Ext.refl w3))))).cur (Box.newd' _ _ _ _ rfl)).mono ?_;rintro _ w5 ⟨x,hx,rfl,hC5,hg5⟩;have S5:=lhd (DS.moved (S3.out.ext (Ext_drew (Ext_alloc (.cells #[.int .i64 (-1),.int .i64 0,.int .i64 1,.int .i64 4,.int .i64 5,.int .i64 64,.int .i64 65] 3) (Ext.refl w3)))) hC5 hg5);have c5:_=some (Value.slice (some ⟨b,0,none⟩) ps.length cap):=S5.out.box.cell 0;have HX:=lhd hx;clear hx;have PT:=S5.out.put' k 2 hk (by omega) HQ.out (.int .i64 x) ⟨{ r with size:=x },.slice Ab r.bytes.length cb,.slice An r.names.length cn,.slice At r.tags.length ct,.slice Ak r.kids.length ck⟩ rfl rfl ⟨rfl,rfl,rfl,rfl⟩;have z5:w5.cell? ⟨b,k*8+2,none⟩=some (Value.int .i64 r.size):=PT.1.1;have y5:w5.frozen? ⟨b,k*8+2,none⟩=false:=PT.1.2;have M7:Hid (DS wb w (w5.setCell ⟨b,k*8+2,none⟩ (.int .i64 x)) p A l c g (Value.slice (some ⟨b,0,none⟩) ps.length cap) (ps.set k ⟨{ r with size:=x },.slice Ab r.bytes.length cb,.slice An r.names.length cn,.slice At r.tags.length ct,.slice Ak r.kids.length ck⟩) w.heap.size):=PT.2;clear PT S5 hC5 hg5)
   | (go_simp;go_at_call 125;refine (l1IntBox_c [-1,0,1,4,5,64,65] (by simp) (by simp) 7 rfl #[.int .i64 (-1),.int .i64 0,.int .i64 1,.int .i64 4,.int .i64 5,.int .i64 64,.int .i64 65] rfl wb _ p A l c hA _ ((SX.out.ext (Ext_alloc (.cells #[.int .i64 (-1),.int .i64 0,.int .i64 1,.int .i64 4,.int .i64 5,.int .i64 64,.int .i64 65] 3) (Ext.refl _)))).cur (Box.new' _ _ _ _ rfl)).mono ?_;rintro _ w5 ⟨x,hx,rfl,hC5,hg5⟩;have S5:=lhd (DS.moved (SX.out.ext (Ext_alloc (.cells #[.int .i64 (-1),.int .i64 0,.int .i64 1,.int .i64 4,.int .i64 5,.int .i64 64,.int .i64 65] 3) (Ext.refl _))) hC5 hg5);have c5:_=some (Value.slice (some ⟨b,0,none⟩) ps.length cap):=S5.out.box.cell 0;have HX:=lhd hx;clear hx;have PT:=S5.out.put' k 2 hk (by omega) HQ.out (.int .i64 x) ⟨{ r with size:=x },.slice Ab r.bytes.length cb,.slice An r.names.length cn,.slice At r.tags.length ct,.slice Ak r.kids.length ck⟩ rfl rfl ⟨rfl,rfl,rfl,rfl⟩;have z5:w5.cell? ⟨b,k*8+2,none⟩=some (Value.int .i64 r.size):=PT.1.1;have y5:w5.frozen? ⟨b,k*8+2,none⟩=false:=PT.1.2;have M7:Hid (DS wb w (w5.setCell ⟨b,k*8+2,none⟩ (.int .i64 x)) p A l c g (Value.slice (some ⟨b,0,none⟩) ps.length cap) (ps.set k ⟨{ r with size:=x },.slice Ab r.bytes.length cb,.slice An r.names.length cn,.slice At r.tags.length ct,.slice Ak r.kids.length ck⟩) w.heap.size):=PT.2;clear PT S5 hC5 hg5))
  all_goals
   have cg:_=some (Value.slice (some ⟨b,0,none⟩) ps.length cap):=M7.out.box.cell 0
   have cr0:_=some (Value.slice none 0 0):=M7.out.res.cell 0
   have yr0:=M7.out.res.free 0;have OUT:=lhd (DS.finish M7.out hbw);have z9:(World.setCell (w5.setCell ⟨b,k*8+2,none⟩ (.int .i64 x)) ⟨w.heap.size,0,none⟩ (Value.slice (some ⟨b,0,none⟩) ps.length cap)).cell? ⟨w.heap.size,0,none⟩=some (Value.slice (some ⟨b,0,none⟩) ps.length cap):=World.cell?_setCell_same _ _ _ cr0
   have HSE:=lhd (SmD_set (k:=k) (p':=⟨{ r with size:=x },.slice Ab r.bytes.length cb,.slice An r.names.length cn,.slice At r.tags.length ct,.slice Ak r.kids.length ck⟩) HSM.out (⟨HSR.out.nm,HSR.out.lens,HSR.out.nms,HSR.out.kind,⟨by have h:=HX.out;simp at h;(try dsimp only);omega,HSR.out.ints.2⟩⟩));clear M7;go_wp2;refine bodyPost_ret (v:=vdesc (Value.slice (some ⟨b,0,none⟩) ps.length cap)) (by simp [results,Tryz.results69,go_sem,z9,vdesc]) rfl ?_;have HLN:Hid ((ps.set k (⟨{ r with size:=x },.slice Ab r.bytes.length cb,.slice An r.names.length cn,.slice At r.tags.length ct,.slice Ak r.kids.length ck⟩)).length≤6):=by show _≤_;simp;omega
   first
    | exact ⟨_,_,rfl,⟨HSE.out,OUT.out.1,OUT.out.2.1⟩,HLN.out,OUT.out.2.2.1,OUT.out.2.2.2⟩
    | exact ⟨_,rfl,_,⟨HSE.out,OUT.out.1,OUT.out.2.1⟩,HLN.out,OUT.out.2.2.1,OUT.out.2.2.2⟩
 ·have PT:=S3.out.put' k 3 hk (by omega) HQ.out (.bool (!r.little)) ⟨{ r with little:=!r.little },.slice Ab r.bytes.length cb,.slice An r.names.length cn,.slice At r.tags.length ct,.slice Ak r.kids.length ck⟩ rfl rfl ⟨rfl,rfl,rfl,rfl⟩
  have z5:w3.cell? ⟨b,k*8+3,none⟩=some (Value.bool r.little):=PT.1.1
  have y5:w3.frozen? ⟨b,k*8+3,none⟩=false:=PT.1.2
  have M7:=lhd (PT.2.ext (Ext_drew (Ext.refl _)));clear PT;go_wp2_with fail;go_region
  all_goals
   obtain ⟨W9,hW9⟩:∃ W9,W9=(w3.setCell ⟨b,k*8+3,none⟩ (.bool (!r.little))).drew:=⟨_,rfl⟩;rw [← hW9] at M7 ⊢;clear hW9 z5 y5 cd0 SX S3;have cg:_=some (Value.slice (some ⟨b,0,none⟩) ps.length cap):=M7.out.box.cell 0
   have cr0:_=some (Value.slice none 0 0):=M7.out.res.cell 0
   have yr0:=M7.out.res.free 0;have OUT:=lhd (DS.finish M7.out hbw);have z9:(World.setCell (W9) ⟨w.heap.size,0,none⟩ (Value.slice (some ⟨b,0,none⟩) ps.length cap)).cell? ⟨w.heap.size,0,none⟩=some (Value.slice (some ⟨b,0,none⟩) ps.length cap):=World.cell?_setCell_same _ _ _ cr0
   have HSE:=lhd (SmD_set (k:=k) (p':=⟨{ r with little:=!r.little },.slice Ab r.bytes.length cb,.slice An r.names.length cn,.slice At r.tags.length ct,.slice Ak r.kids.length ck⟩) HSM.out (⟨HSR.out.nm,HSR.out.lens,HSR.out.nms,HSR.out.kind,HSR.out.ints⟩));clear M7;go_wp2;refine bodyPost_ret (v:=vdesc (Value.slice (some ⟨b,0,none⟩) ps.length cap)) (by simp [results,Tryz.results69,go_sem,z9,vdesc]) rfl ?_;have HLN:Hid ((ps.set k (⟨{ r with little:=!r.little },.slice Ab r.bytes.length cb,.slice An r.names.length cn,.slice At r.tags.length ct,.slice Ak r.kids.length ck⟩)).length≤6):=by show _≤_;simp;omega
   first
    | exact ⟨_,_,rfl,⟨HSE.out,OUT.out.1,OUT.out.2.1⟩,HLN.out,OUT.out.2.2.1,OUT.out.2.2.2⟩
    | exact ⟨_,rfl,_,⟨HSE.out,OUT.out.1,OUT.out.2.1⟩,HLN.out,OUT.out.2.2.1,OUT.out.2.2.2⟩
 ·have k0:w3.cell? ⟨b,k*8+7,none⟩=some (Value.slice Ak r.kids.length ck):=S3.out.cellr k 7 hk (by omega) HQ.out
  have HBn:Hid (∀ z:Int,(r.kids.length+[z].length)*8≤140737488355328):=fun z=>by have:=HSR.out.lens;simp;omega
  have HLn:Hid (∀ z:Int,(r.kids++[z]).length≤140737488351232):=fun z=>by have:=HSR.out.lens;simp;omega
  have HWx:Hid (∀ x:Nat,below 8 x→x<8∧IntKind.i64.wrap ((x:Int)-1)=(x:Int)-1):=fun x hx=>by
   have:x<8:=by unfold below at hx;rw [if_neg (by omega)] at hx;omega
   exact ⟨this,IntWalk.i64_in _ (by omega)⟩
  go_wp2_with fail;have HAB:lv2 (fun w'=>w'.cell? ⟨g,0,none⟩=some (Value.slice (some ⟨b,0,none⟩) ps.length cap)) (fun w'=>w'.cell? ⟨b,k*8+7,none⟩=some (Value.slice Ak r.kids.length ck)) 2 w3.drew:=⟨SX.out.box.cell 0,SX.out.cellr k 7 hk (by omega) HQ.out⟩
  refine wp_region_C (C:=fun j=>lv2 (fun w'=>w'.cell? ⟨g,0,none⟩=some (Value.slice (some ⟨b,0,none⟩) ps.length cap)) (fun w'=>w'.cell? ⟨b,k*8+7,none⟩=some (Value.slice Ak r.kids.length ck)) (([0,1,0,0,1,0,0,0,2,0,2,2,2,1,0,0,0]:List Nat).getD j 0)) (by kernel_rfl) ?_;refine tkD 0 (i:=0) (v:=?_) rfl trivial ?_ ?_;rotate_left
  ·(intro w hSw;clear hSw;go_simp;try with_reducible rfl)
  try simp only [Act.put,lpa,lpz,lps]
  refine tkD 0 (i:=2) (v:=?_) rfl trivial ?_ ?_;rotate_left
  ·(intro w hSw;clear hSw;go_simp;try with_reducible rfl)
  try simp only [Act.put,lpa,lpz,lps]
  refine tkD 0 (i:=3) (v:=?_) rfl trivial ?_ ?_;rotate_left
  ·(intro w hSw;clear hSw;go_simp;try with_reducible rfl)
  try simp only [Act.put,lpa,lpz,lps]
  refine tkD 0 (i:=5) (v:=?_) rfl trivial ?_ ?_;rotate_left
  ·(intro w hSw;clear hSw;go_simp;try with_reducible rfl)
  try simp only [Act.put,lpa,lpz,lps]
  refine tkD 0 (i:=9) (v:=?_) rfl trivial ?_ ?_;rotate_left
  ·(intro w hSw;clear hSw;go_simp;try with_reducible rfl)
  try simp only [Act.put,lpa,lpz,lps]
  refine tkD 1 (i:=4) (v:=?_) rfl (And.left HAB) ?_ ?_;rotate_left
  ·(intro w hSw;have hfact:w.cell? ⟨g,0,none⟩=some (Value.slice (some ⟨b,0,none⟩) ps.length cap):=hSw;clear hSw;go_simp;try with_reducible rfl)
  try simp only [Act.put,lpa,lpz,lps]
  refine tkD 0 (i:=6) (v:=?_) rfl trivial ?_ ?_;rotate_left
  ·(intro w hSw;clear hSw;go_simp;try with_reducible rfl)
  try simp only [Act.put,lpa,lpz,lps]
  refine tkD 0 (i:=7) (v:=?_) rfl trivial ?_ ?_;rotate_left
  ·(intro w hSw;clear hSw;go_simp;try with_reducible rfl)
  try simp only [Act.put,lpa,lpz,lps]
  refine tkD 1 (i:=1) (v:=?_) rfl (And.left HAB) ?_ ?_;rotate_left
  ·(intro w hSw;have hfact:w.cell? ⟨g,0,none⟩=some (Value.slice (some ⟨b,0,none⟩) ps.length cap):=hSw;clear hSw;go_simp;try with_reducible rfl)
  try simp only [Act.put,lpa,lpz,lps]
  refine tkD 2 (i:=8) (v:=?_) rfl HAB ?_ ?_;rotate_left
  ·(intro w hSw;have hfact:w.cell? ⟨b,k*8+7,none⟩=some (Value.slice Ak r.kids.length ck):=hSw.2;clear hSw;go_simp;try with_reducible rfl)
  try simp only [Act.put,lpa,lpz,lps]
  refine wpAnyC_one (i:=10) (by kernel_rfl) rfl (fun K hK=>?_);go_simp;go_at_call 122;refine (CBe.out 8 _ SX.out.cur (by omega)).mono ?_;rintro _ w5 ⟨x,hx,rfl,hC5,hg5⟩;have HX:=lhd (HWx.out x hx);have hw5:=HX.out.2;clear hx;have S5:=lhd (DS.moved SX.out hC5 hg5);clear hC5 hg5;refine Shut.out hK _ _ ⟨S5.out.box.cell 0,S5.out.cellr k 7 hk (by omega) HQ.out⟩ ?_;try simp only [Act.put,lpa,lpz,lps]
  refine wpAnyC_one (i:=11) (by kernel_rfl) rfl (fun K hK=>?_);go_simp;refine Shut.out hK _ _ ⟨S5.out.box.cell 0,S5.out.cellr k 7 hk (by omega) HQ.out⟩ ?_;try simp only [Act.put,lpa,lpz,lps]
  refine wpAnyC_one (i:=12) (by kernel_rfl) rfl (fun K hK=>?_);go_simp;have S5':=lhd (S5.out.ext (Ext_alloc (.cells #[.int .i64 ((x:Int)-1)] 3) (Ext.refl _)));refine Shut.out hK _ _ ⟨S5'.out.box.cell 0,S5'.out.cellr k 7 hk (by omega) HQ.out⟩ ?_;try simp only [Act.put,lpa,lpz,lps]
  refine wpAnyC_one (i:=13) (by kernel_rfl) rfl (fun K hK=>?_);refine step_appG rfl (.tmp 73) (.tmp 77) _ rfl E_int (by omega) wb _ vint (fun _=>rfl) (Value.slice Ak r.kids.length ck) rfl (some ⟨w5.heap.size,0,none⟩) 1 1 rfl r.kids [(x:Int)-1] (S5'.out.rule k hk HQ.out).k S5'.out.cur.2.1 rfl (fun _=>⟨_,rfl,fun j u hu=>(World.cell?_alloc_at' w5 [.int .i64 ((x:Int)-1)] 3 j).trans (hu)⟩) (HBn.out _) ?_;intro v7 w7 ho7 he7 hv7 hg7;obtain ⟨A7,c7,hsh,_⟩:=OwnL.rd ho7 (HLn.out _);replace hsh:v7=.slice A7 (r.kids.length+1) c7:=(by rw [hsh,List.length_append];rfl);subst hsh;obtain ⟨⟨z7,y7,g7⟩,M7⟩:=S5'.out.app_k' k hk HQ.out ho7 he7 hv7 hg7;have z7:w7.cell? ⟨b,k*8+7,none⟩=some (Value.slice Ak r.kids.length ck):=z7
  clear ho7 he7 hv7 hg7;have M7:=lhd M7;refine Shut.out hK _ _ g7 ?_;try simp only [Act.put,lpa,lpz,lps]
  refine wpAnyC_one (i:=14) (by kernel_rfl) rfl (fun K hK=>?_);go_simp;refine Shut.out hK _ _ trivial ?_;try simp only [Act.put,lpa,lpz,lps]
  refine wpAnyC_one (i:=15) (by kernel_rfl) rfl (fun K hK=>?_);go_simp;refine Shut.out hK _ _ trivial ?_;try simp only [Act.put,lpa,lpz,lps]
  refine wpAnyC_one (i:=16) (by kernel_rfl) rfl (fun K hK=>?_);go_simp;refine Shut.out hK _ _ trivial ?_;try simp only [Act.put,lpa,lpz,lps]
  refine wpAnyC_done (by kernel_rfl) ?_ _;have cg:_=some (Value.slice (some ⟨b,0,none⟩) ps.length cap):=M7.out.box.cell 0
  have cr0:_=some (Value.slice none 0 0):=M7.out.res.cell 0
  have yr0:=M7.out.res.free 0;have OUT:=lhd (DS.finish M7.out hbw);have z9:(World.setCell (w7.setCell ⟨b,k*8+7,none⟩ (.slice A7 (r.kids.length+1) c7)) ⟨w.heap.size,0,none⟩ (Value.slice (some ⟨b,0,none⟩) ps.length cap)).cell? ⟨w.heap.size,0,none⟩=some (Value.slice (some ⟨b,0,none⟩) ps.length cap):=World.cell?_setCell_same _ _ _ cr0
  have HSE:=lhd (SmD_set (k:=k) (p':=⟨{ r with kids:=r.kids++[(x:Int)-1] },.slice Ab r.bytes.length cb,.slice An r.names.length cn,.slice At r.tags.length ct,(.slice A7 (r.kids.length+1) c7)⟩) HSM.out (⟨HSR.out.nm,by have:=HSL.out.lens;(try dsimp only);simp only [List.length_append,List.length_singleton];omega,HSR.out.nms,HSR.out.kind,⟨HSR.out.ints.1,HSR.out.ints.2.1,fun z hz=>(List.mem_append.1 hz).elim (fun h=>HSR.out.ints.2.2 z h) (fun h=>by have:=HX.out.1;rw [List.mem_singleton.1 h];omega)⟩⟩));clear M7;go_wp2;refine bodyPost_ret (v:=vdesc (Value.slice (some ⟨b,0,none⟩) ps.length cap)) (by simp [results,Tryz.results69,go_sem,z9,vdesc]) rfl ?_;have HLN:Hid ((ps.set k (⟨{ r with kids:=r.kids++[(x:Int)-1] },.slice Ab r.bytes.length cb,.slice An r.names.length cn,.slice At r.tags.length ct,(.slice A7 (r.kids.length+1) c7)⟩)).length≤6):=by show _≤_;simp;omega
  first
   | exact ⟨_,_,rfl,⟨HSE.out,OUT.out.1,OUT.out.2.1⟩,HLN.out,OUT.out.2.2.1,OUT.out.2.2.2⟩
   | exact ⟨_,rfl,_,⟨HSE.out,OUT.out.1,OUT.out.2.1⟩,HLN.out,OUT.out.2.2.1,OUT.out.2.2.2⟩
 ·have k0:w3.cell? ⟨b,k*8+4,none⟩=some (Value.slice Ab r.bytes.length cb):=S3.out.cellr k 4 hk (by omega) HQ.out
  have HBn:Hid (∀ z:UInt8,(r.bytes.length+[z].length)*1≤140737488355328):=fun z=>by have:=HSR.out.lens;simp;omega
  have HLn:Hid (∀ z:UInt8,(r.bytes++[z]).length≤140737488351232):=fun z=>by have:=HSR.out.lens;simp;omega
  have HWx:Hid (∀ x:Int,x∈[(0:Int),92]→∃ y1:Nat,IntKind.u8.wrap (y1:Int)=(y1:Int)∧vu8 (UInt8.ofNat y1)=.int .u8 y1∧x=(y1:Int)):=fun x hx=>by
   simp only [List.mem_cons,List.not_mem_nil,or_false] at hx;rcases hx with rfl | rfl
   ·exact ⟨0,rfl,rfl,rfl⟩
   ·exact ⟨92,rfl,rfl,rfl⟩
  go_wp2_with fail;have HAB:lv2 (fun w'=>w'.cell? ⟨g,0,none⟩=some (Value.slice (some ⟨b,0,none⟩) ps.length cap)) (fun w'=>w'.cell? ⟨b,k*8+4,none⟩=some (Value.slice Ab r.bytes.length cb)) 2 w3.drew:=⟨SX.out.box.cell 0,SX.out.cellr k 4 hk (by omega) HQ.out⟩
  refine wp_region_C (C:=fun j=>lv2 (fun w'=>w'.cell? ⟨g,0,none⟩=some (Value.slice (some ⟨b,0,none⟩) ps.length cap)) (fun w'=>w'.cell? ⟨b,k*8+4,none⟩=some (Value.slice Ab r.bytes.length cb)) (([0,1,0,0,1,0,0,0,2,0,2,2,2,2,1,0,0,0]:List Nat).getD j 0)) (by kernel_rfl) ?_;refine tkD 0 (i:=0) (v:=?_) rfl trivial ?_ ?_;rotate_left
  ·(intro w hSw;clear hSw;go_simp;try with_reducible rfl)
  try simp only [Act.put,lpa,lpz,lps]
  refine tkD 0 (i:=2) (v:=?_) rfl trivial ?_ ?_;rotate_left
  ·(intro w hSw;clear hSw;go_simp;try with_reducible rfl)
  try simp only [Act.put,lpa,lpz,lps]
  refine tkD 0 (i:=3) (v:=?_) rfl trivial ?_ ?_;rotate_left
  ·(intro w hSw;clear hSw;go_simp;try with_reducible rfl)
  try simp only [Act.put,lpa,lpz,lps]
  refine tkD 0 (i:=5) (v:=?_) rfl trivial ?_ ?_;rotate_left
  ·(intro w hSw;clear hSw;go_simp;try with_reducible rfl)
  try simp only [Act.put,lpa,lpz,lps]
  refine tkD 0 (i:=9) (v:=?_) rfl trivial ?_ ?_;rotate_left
  ·(intro w hSw;clear hSw;go_simp;try with_reducible rfl)
  try simp only [Act.put,lpa,lpz,lps]
  refine tkD 1 (i:=4) (v:=?_) rfl (And.left HAB) ?_ ?_;rotate_left
  ·(intro w hSw;have hfact:w.cell? ⟨g,0,none⟩=some (Value.slice (some ⟨b,0,none⟩) ps.length cap):=hSw;clear hSw;go_simp;try with_reducible rfl)
  try simp only [Act.put,lpa,lpz,lps]
  refine tkD 0 (i:=6) (v:=?_) rfl trivial ?_ ?_;rotate_left
  ·(intro w hSw;clear hSw;go_simp;try with_reducible rfl)
  try simp only [Act.put,lpa,lpz,lps]
  refine tkD 0 (i:=7) (v:=?_) rfl trivial ?_ ?_;rotate_left
  ·(intro w hSw;clear hSw;go_simp;try with_reducible rfl)
  try simp only [Act.put,lpa,lpz,lps]
  refine tkD 1 (i:=1) (v:=?_) rfl (And.left HAB) ?_ ?_;rotate_left
  ·(intro w hSw;have hfact:w.cell? ⟨g,0,none⟩=some (Value.slice (some ⟨b,0,none⟩) ps.length cap):=hSw;clear hSw;go_simp;try with_reducible rfl)
  try simp only [Act.put,lpa,lpz,lps]
  refine tkD 2 (i:=8) (v:=?_) rfl HAB ?_ ?_;rotate_left
  ·(intro w hSw;have hfact:w.cell? ⟨b,k*8+4,none⟩=some (Value.slice Ab r.bytes.length cb):=hSw.2;clear hSw;go_simp;try with_reducible rfl)
  try simp only [Act.put,lpa,lpz,lps]
  refine wpAnyC_one (i:=10) (by kernel_rfl) rfl (fun K hK=>?_);go_simp;have SL:=lhd (SX.out.ext (Ext_alloc (.cells #[.int .i64 0,.int .i64 92] 3) (Ext.refl _)));refine Shut.out hK _ _ ⟨SL.out.box.cell 0,SL.out.cellr k 4 hk (by omega) HQ.out⟩ ?_;try simp only [Act.put,lpa,lpz,lps]
  refine wpAnyC_one (i:=11) (by kernel_rfl) rfl (fun K hK=>?_);go_simp;go_at_call 125;refine (l1IntBox_c [0,92] (by simp) (by simp) 2 rfl #[.int .i64 0,.int .i64 92] rfl wb _ p A l c hA _ SL.out.cur (by first | exact Box.new' _ _ _ _ rfl | exact Box.newd' _ _ _ _ rfl)).mono ?_;rintro _ w5 ⟨x,hx,rfl,hC5,hg5⟩;obtain ⟨y1,hw5,hvy,rfl⟩:=HWx.out x hx;have HY:=lhd hvy;clear hx hvy;have S5:=lhd (DS.moved SL.out hC5 hg5);clear hC5 hg5;refine Shut.out hK _ _ ⟨S5.out.box.cell 0,S5.out.cellr k 4 hk (by omega) HQ.out⟩ ?_;try simp only [Act.put,lpa,lpz,lps]
  refine wpAnyC_one (i:=12) (by kernel_rfl) rfl (fun K hK=>?_);go_simp;refine Shut.out hK _ _ ⟨S5.out.box.cell 0,S5.out.cellr k 4 hk (by omega) HQ.out⟩ ?_;try simp only [Act.put,lpa,lpz,lps]
  refine wpAnyC_one (i:=13) (by kernel_rfl) rfl (fun K hK=>?_);go_simp;have S5':=lhd (S5.out.ext (Ext_alloc (.cells #[.int .u8 y1] 5) (Ext.refl _)));refine Shut.out hK _ _ ⟨S5'.out.box.cell 0,S5'.out.cellr k 4 hk (by omega) HQ.out⟩ ?_;try simp only [Act.put,lpa,lpz,lps]
  refine wpAnyC_one (i:=14) (by kernel_rfl) rfl (fun K hK=>?_);refine step_appG rfl (.tmp 91) (.tmp 96) _ rfl E_u8 (by omega) wb _ vu8 (fun _=>rfl) (Value.slice Ab r.bytes.length cb) rfl (some ⟨w5.heap.size,0,none⟩) 1 1 rfl r.bytes [UInt8.ofNat y1] (S5'.out.rule k hk HQ.out).b S5'.out.cur.2.1 rfl (fun _=>⟨_,rfl,fun j u hu=>(World.cell?_alloc_at' w5 [.int .u8 y1] 5 j).trans (by rw [← HY.out];exact hu)⟩) (HBn.out _) ?_;intro v7 w7 ho7 he7 hv7 hg7;obtain ⟨A7,c7,hsh,_⟩:=OwnL.rd ho7 (HLn.out _);replace hsh:v7=.slice A7 (r.bytes.length+1) c7:=(by rw [hsh,List.length_append];rfl);subst hsh;obtain ⟨⟨z7,y7,g7⟩,M7⟩:=S5'.out.app_b' k hk HQ.out ho7 he7 hv7 hg7;have z7:w7.cell? ⟨b,k*8+4,none⟩=some (Value.slice Ab r.bytes.length cb):=z7
  clear ho7 he7 hv7 hg7;have M7:=lhd M7;refine Shut.out hK _ _ g7 ?_;try simp only [Act.put,lpa,lpz,lps]
  refine wpAnyC_one (i:=15) (by kernel_rfl) rfl (fun K hK=>?_);go_simp;refine Shut.out hK _ _ trivial ?_;try simp only [Act.put,lpa,lpz,lps]
  refine wpAnyC_one (i:=16) (by kernel_rfl) rfl (fun K hK=>?_);go_simp;refine Shut.out hK _ _ trivial ?_;try simp only [Act.put,lpa,lpz,lps]
  refine wpAnyC_one (i:=17) (by kernel_rfl) rfl (fun K hK=>?_);go_simp;refine Shut.out hK _ _ trivial ?_;try simp only [Act.put,lpa,lpz,lps]
  refine wpAnyC_done (by kernel_rfl) ?_ _;have cg:_=some (Value.slice (some ⟨b,0,none⟩) ps.length cap):=M7.out.box.cell 0
  have cr0:_=some (Value.slice none 0 0):=M7.out.res.cell 0
  have yr0:=M7.out.res.free 0;have OUT:=lhd (DS.finish M7.out hbw);have z9:(World.setCell (w7.setCell ⟨b,k*8+4,none⟩ (.slice A7 (r.bytes.length+1) c7)) ⟨w.heap.size,0,none⟩ (Value.slice (some ⟨b,0,none⟩) ps.length cap)).cell? ⟨w.heap.size,0,none⟩=some (Value.slice (some ⟨b,0,none⟩) ps.length cap):=World.cell?_setCell_same _ _ _ cr0
  have HSE:=lhd (SmD_set (k:=k) (p':=⟨{ r with bytes:=r.bytes++[UInt8.ofNat y1] },(.slice A7 (r.bytes.length+1) c7),.slice An r.names.length cn,.slice At r.tags.length ct,.slice Ak r.kids.length ck⟩) HSM.out (⟨HSR.out.nm,by have:=HSL.out.lens;(try dsimp only);simp only [List.length_append,List.length_singleton];omega,HSR.out.nms,HSR.out.kind,HSR.out.ints⟩));clear M7;go_wp2;refine bodyPost_ret (v:=vdesc (Value.slice (some ⟨b,0,none⟩) ps.length cap)) (by simp [results,Tryz.results69,go_sem,z9,vdesc]) rfl ?_;have HLN:Hid ((ps.set k (⟨{ r with bytes:=r.bytes++[UInt8.ofNat y1] },(.slice A7 (r.bytes.length+1) c7),.slice An r.names.length cn,.slice At r.tags.length ct,.slice Ak r.kids.length ck⟩)).length≤6):=by show _≤_;simp;omega
  first
   | exact ⟨_,_,rfl,⟨HSE.out,OUT.out.1,OUT.out.2.1⟩,HLN.out,OUT.out.2.2.1,OUT.out.2.2.2⟩
   | exact ⟨_,rfl,_,⟨HSE.out,OUT.out.1,OUT.out.2.1⟩,HLN.out,OUT.out.2.2.1,OUT.out.2.2.2⟩
 ·have k0:w3.cell? ⟨b,k*8+5,none⟩=some (Value.slice An r.names.length cn):=S3.out.cellr k 5 hk (by omega) HQ.out
  have HBn:Hid (∀ z:ByteArray,(r.names.length+[z].length)*16≤140737488355328):=fun z=>by have:=HSR.out.lens;simp;omega
  have HLn:Hid (∀ z:ByteArray,(r.names++[z]).length≤140737488351232):=fun z=>by have:=HSR.out.lens;simp;omega
  go_wp2_with fail;have HAB:lv2 (fun w'=>w'.cell? ⟨g,0,none⟩=some (Value.slice (some ⟨b,0,none⟩) ps.length cap)) (fun w'=>w'.cell? ⟨b,k*8+5,none⟩=some (Value.slice An r.names.length cn)) 2 w3.drew:=⟨SX.out.box.cell 0,SX.out.cellr k 5 hk (by omega) HQ.out⟩
  refine wp_region_C (C:=fun j=>lv2 (fun w'=>w'.cell? ⟨g,0,none⟩=some (Value.slice (some ⟨b,0,none⟩) ps.length cap)) (fun w'=>w'.cell? ⟨b,k*8+5,none⟩=some (Value.slice An r.names.length cn)) (([0,1,0,0,1,0,0,0,2,0,2,2,2,1,0,0,0]:List Nat).getD j 0)) (by kernel_rfl) ?_;refine tkD 0 (i:=0) (v:=?_) rfl trivial ?_ ?_;rotate_left
  ·(intro w hSw;clear hSw;go_simp;try with_reducible rfl)
  try simp only [Act.put,lpa,lpz,lps]
  refine tkD 0 (i:=2) (v:=?_) rfl trivial ?_ ?_;rotate_left
  ·(intro w hSw;clear hSw;go_simp;try with_reducible rfl)
  try simp only [Act.put,lpa,lpz,lps]
  refine tkD 0 (i:=3) (v:=?_) rfl trivial ?_ ?_;rotate_left
  ·(intro w hSw;clear hSw;go_simp;try with_reducible rfl)
  try simp only [Act.put,lpa,lpz,lps]
  refine tkD 0 (i:=5) (v:=?_) rfl trivial ?_ ?_;rotate_left
  ·(intro w hSw;clear hSw;go_simp;try with_reducible rfl)
  try simp only [Act.put,lpa,lpz,lps]
  refine tkD 0 (i:=9) (v:=?_) rfl trivial ?_ ?_;rotate_left
  ·(intro w hSw;clear hSw;go_simp;try with_reducible rfl)
  try simp only [Act.put,lpa,lpz,lps]
  refine tkD 1 (i:=4) (v:=?_) rfl (And.left HAB) ?_ ?_;rotate_left
  ·(intro w hSw;have hfact:w.cell? ⟨g,0,none⟩=some (Value.slice (some ⟨b,0,none⟩) ps.length cap):=hSw;clear hSw;go_simp;try with_reducible rfl)
  try simp only [Act.put,lpa,lpz,lps]
  refine tkD 0 (i:=6) (v:=?_) rfl trivial ?_ ?_;rotate_left
  ·(intro w hSw;clear hSw;go_simp;try with_reducible rfl)
  try simp only [Act.put,lpa,lpz,lps]
  refine tkD 0 (i:=7) (v:=?_) rfl trivial ?_ ?_;rotate_left
  ·(intro w hSw;clear hSw;go_simp;try with_reducible rfl)
  try simp only [Act.put,lpa,lpz,lps]
  refine tkD 1 (i:=1) (v:=?_) rfl (And.left HAB) ?_ ?_;rotate_left
  ·(intro w hSw;have hfact:w.cell? ⟨g,0,none⟩=some (Value.slice (some ⟨b,0,none⟩) ps.length cap):=hSw;clear hSw;go_simp;try with_reducible rfl)
  try simp only [Act.put,lpa,lpz,lps]
  refine tkD 2 (i:=8) (v:=?_) rfl HAB ?_ ?_;rotate_left
  ·(intro w hSw;have hfact:w.cell? ⟨b,k*8+5,none⟩=some (Value.slice An r.names.length cn):=hSw.2;clear hSw;go_simp;try with_reducible rfl)
  try simp only [Act.put,lpa,lpz,lps]
  refine wpAnyC_one (i:=10) (by kernel_rfl) rfl (fun K hK=>?_);go_simp;have SL:=lhd (SX.out.ext (Ext_alloc (.cells #[.string ⟨#[112,49]⟩,.string ⟨#[81]⟩,.string ⟨#[122]⟩] 9) (Ext.refl _)));refine Shut.out hK _ _ ⟨SL.out.box.cell 0,SL.out.cellr k 5 hk (by omega) HQ.out⟩ ?_;try simp only [Act.put,lpa,lpz,lps]
  refine wpAnyC_one (i:=11) (by kernel_rfl) rfl (fun K hK=>?_);go_simp;go_at_call 124;refine (l1StrBox_c [⟨#[112,49]⟩,⟨#[81]⟩,⟨#[122]⟩] (by simp) (by simp) 3 rfl #[.string ⟨#[112,49]⟩,.string ⟨#[81]⟩,.string ⟨#[122]⟩] rfl wb _ p A l c hA _ SL.out.cur (by first | exact Box.new' _ _ _ _ rfl | exact Box.newd' _ _ _ _ rfl)).mono ?_;rintro _ w5 ⟨x,hx,rfl,hC5,hg5⟩;have HX:=lhd hx;clear hx;have S5:=lhd (DS.moved SL.out hC5 hg5);clear hC5 hg5;refine Shut.out hK _ _ ⟨S5.out.box.cell 0,S5.out.cellr k 5 hk (by omega) HQ.out⟩ ?_;try simp only [Act.put,lpa,lpz,lps]
  refine wpAnyC_one (i:=12) (by kernel_rfl) rfl (fun K hK=>?_);go_simp;have S5':=lhd (S5.out.ext (Ext_alloc (.cells #[.string x] 9) (Ext.refl _)));refine Shut.out hK _ _ ⟨S5'.out.box.cell 0,S5'.out.cellr k 5 hk (by omega) HQ.out⟩ ?_;try simp only [Act.put,lpa,lpz,lps]
  refine wpAnyC_one (i:=13) (by kernel_rfl) rfl (fun K hK=>?_);refine step_appG rfl (.tmp 110) (.tmp 114) _ rfl E_str (by omega) wb _ vstr (fun _=>rfl) (Value.slice An r.names.length cn) rfl (some ⟨w5.heap.size,0,none⟩) 1 1 rfl r.names [x] (S5'.out.rule k hk HQ.out).n S5'.out.cur.2.1 rfl (fun _=>⟨_,rfl,fun j u hu=>(World.cell?_alloc_at' w5 [.string x] 9 j).trans (hu)⟩) (HBn.out _) ?_;intro v7 w7 ho7 he7 hv7 hg7;obtain ⟨A7,c7,hsh,_⟩:=OwnL.rd ho7 (HLn.out _);replace hsh:v7=.slice A7 (r.names.length+1) c7:=(by rw [hsh,List.length_append];rfl);subst hsh;obtain ⟨⟨z7,y7,g7⟩,M7⟩:=S5'.out.app_n' k hk HQ.out ho7 he7 hv7 hg7;have z7:w7.cell? ⟨b,k*8+5,none⟩=some (Value.slice An r.names.length cn):=z7
  clear ho7 he7 hv7 hg7;have M7:=lhd M7;refine Shut.out hK _ _ g7 ?_;try simp only [Act.put,lpa,lpz,lps]
  refine wpAnyC_one (i:=14) (by kernel_rfl) rfl (fun K hK=>?_);go_simp;refine Shut.out hK _ _ trivial ?_;try simp only [Act.put,lpa,lpz,lps]
  refine wpAnyC_one (i:=15) (by kernel_rfl) rfl (fun K hK=>?_);go_simp;refine Shut.out hK _ _ trivial ?_;try simp only [Act.put,lpa,lpz,lps]
  refine wpAnyC_one (i:=16) (by kernel_rfl) rfl (fun K hK=>?_);go_simp;refine Shut.out hK _ _ trivial ?_;try simp only [Act.put,lpa,lpz,lps]
  refine wpAnyC_done (by kernel_rfl) ?_ _;have cg:_=some (Value.slice (some ⟨b,0,none⟩) ps.length cap):=M7.out.box.cell 0
  have cr0:_=some (Value.slice none 0 0):=M7.out.res.cell 0
  have yr0:=M7.out.res.free 0;have OUT:=lhd (DS.finish M7.out hbw);have z9:(World.setCell (w7.setCell ⟨b,k*8+5,none⟩ (.slice A7 (r.names.length+1) c7)) ⟨w.heap.size,0,none⟩ (Value.slice (some ⟨b,0,none⟩) ps.length cap)).cell? ⟨w.heap.size,0,none⟩=some (Value.slice (some ⟨b,0,none⟩) ps.length cap):=World.cell?_setCell_same _ _ _ cr0
  have HSE:=lhd (SmD_set (k:=k) (p':=⟨{ r with names:=r.names++[x] },.slice Ab r.bytes.length cb,(.slice A7 (r.names.length+1) c7),.slice At r.tags.length ct,.slice Ak r.kids.length ck⟩) HSM.out (⟨HSR.out.nm,by have:=HSL.out.lens;(try dsimp only);simp only [List.length_append,List.length_singleton];omega,fun z hz=>(List.mem_append.1 hz).elim (fun h=>HSR.out.nms z h) (fun h=>by have h9:=HX.out;simp only [List.mem_cons,List.not_mem_nil,or_false] at h9;rw [List.mem_singleton.1 h];rcases h9 with rfl | rfl | rfl<;>decide),HSR.out.kind,HSR.out.ints⟩));clear M7;go_wp2;refine bodyPost_ret (v:=vdesc (Value.slice (some ⟨b,0,none⟩) ps.length cap)) (by simp [results,Tryz.results69,go_sem,z9,vdesc]) rfl ?_;have HLN:Hid ((ps.set k (⟨{ r with names:=r.names++[x] },.slice Ab r.bytes.length cb,(.slice A7 (r.names.length+1) c7),.slice At r.tags.length ct,.slice Ak r.kids.length ck⟩)).length≤6):=by show _≤_;simp;omega
  first
   | exact ⟨_,_,rfl,⟨HSE.out,OUT.out.1,OUT.out.2.1⟩,HLN.out,OUT.out.2.2.1,OUT.out.2.2.2⟩
   | exact ⟨_,rfl,_,⟨HSE.out,OUT.out.1,OUT.out.2.1⟩,HLN.out,OUT.out.2.2.1,OUT.out.2.2.2⟩
 ·have k0:w3.cell? ⟨b,k*8+6,none⟩=some (Value.slice At r.tags.length ct):=S3.out.cellr k 6 hk (by omega) HQ.out
  have HBn:Hid (∀ z:Int,(r.tags.length+[z].length)*8≤140737488355328):=fun z=>by have:=HSR.out.lens;simp;omega
  have HLn:Hid (∀ z:Int,(r.tags++[z]).length≤140737488351232):=fun z=>by have:=HSR.out.lens;simp;omega
  go_wp2_with fail;have HAB:lv2 (fun w'=>w'.cell? ⟨g,0,none⟩=some (Value.slice (some ⟨b,0,none⟩) ps.length cap)) (fun w'=>w'.cell? ⟨b,k*8+6,none⟩=some (Value.slice At r.tags.length ct)) 2 w3.drew:=⟨SX.out.box.cell 0,SX.out.cellr k 6 hk (by omega) HQ.out⟩
  refine wp_region_C (C:=fun j=>lv2 (fun w'=>w'.cell? ⟨g,0,none⟩=some (Value.slice (some ⟨b,0,none⟩) ps.length cap)) (fun w'=>w'.cell? ⟨b,k*8+6,none⟩=some (Value.slice At r.tags.length ct)) (([0,1,0,0,1,0,0,0,2,0,2,2,2,1,0,0,0]:List Nat).getD j 0)) (by kernel_rfl) ?_;refine tkD 0 (i:=0) (v:=?_) rfl trivial ?_ ?_;rotate_left
  ·(intro w hSw;clear hSw;go_simp;try with_reducible rfl)
  try simp only [Act.put,lpa,lpz,lps]
  refine tkD 0 (i:=2) (v:=?_) rfl trivial ?_ ?_;rotate_left
  ·(intro w hSw;clear hSw;go_simp;try with_reducible rfl)
  try simp only [Act.put,lpa,lpz,lps]
  refine tkD 0 (i:=3) (v:=?_) rfl trivial ?_ ?_;rotate_left
  ·(intro w hSw;clear hSw;go_simp;try with_reducible rfl)
  try simp only [Act.put,lpa,lpz,lps]
  refine tkD 0 (i:=5) (v:=?_) rfl trivial ?_ ?_;rotate_left
  ·(intro w hSw;clear hSw;go_simp;try with_reducible rfl)
  try simp only [Act.put,lpa,lpz,lps]
  refine tkD 0 (i:=9) (v:=?_) rfl trivial ?_ ?_;rotate_left
  ·(intro w hSw;clear hSw;go_simp;try with_reducible rfl)
  try simp only [Act.put,lpa,lpz,lps]
  refine tkD 1 (i:=4) (v:=?_) rfl (And.left HAB) ?_ ?_;rotate_left
  ·(intro w hSw;have hfact:w.cell? ⟨g,0,none⟩=some (Value.slice (some ⟨b,0,none⟩) ps.length cap):=hSw;clear hSw;go_simp;try with_reducible rfl)
  try simp only [Act.put,lpa,lpz,lps]
  refine tkD 0 (i:=6) (v:=?_) rfl trivial ?_ ?_;rotate_left
  ·(intro w hSw;clear hSw;go_simp;try with_reducible rfl)
  try simp only [Act.put,lpa,lpz,lps]
  refine tkD 0 (i:=7) (v:=?_) rfl trivial ?_ ?_;rotate_left
  ·(intro w hSw;clear hSw;go_simp;try with_reducible rfl)
  try simp only [Act.put,lpa,lpz,lps]
  refine tkD 1 (i:=1) (v:=?_) rfl (And.left HAB) ?_ ?_;rotate_left
  ·(intro w hSw;have hfact:w.cell? ⟨g,0,none⟩=some (Value.slice (some ⟨b,0,none⟩) ps.length cap):=hSw;clear hSw;go_simp;try with_reducible rfl)
  try simp only [Act.put,lpa,lpz,lps]
  refine tkD 2 (i:=8) (v:=?_) rfl HAB ?_ ?_;rotate_left
  ·(intro w hSw;have hfact:w.cell? ⟨b,k*8+6,none⟩=some (Value.slice At r.tags.length ct):=hSw.2;clear hSw;go_simp;try with_reducible rfl)
  try simp only [Act.put,lpa,lpz,lps]
  refine wpAnyC_one (i:=10) (by kernel_rfl) rfl (fun K hK=>?_);go_simp;have SL:=lhd (SX.out.ext (Ext_alloc (.cells #[.int .i64 (-1),.int .i64 0,.int .i64 5,.int .i64 256,.int .i64 70000] 3) (Ext.refl _)));refine Shut.out hK _ _ ⟨SL.out.box.cell 0,SL.out.cellr k 6 hk (by omega) HQ.out⟩ ?_;try simp only [Act.put,lpa,lpz,lps]
  refine wpAnyC_one (i:=11) (by kernel_rfl) rfl (fun K hK=>?_);go_simp;go_at_call 125;refine (l1IntBox_c [-1,0,5,256,70000] (by simp) (by simp) 5 rfl #[.int .i64 (-1),.int .i64 0,.int .i64 5,.int .i64 256,.int .i64 70000] rfl wb _ p A l c hA _ SL.out.cur (by first | exact Box.new' _ _ _ _ rfl | exact Box.newd' _ _ _ _ rfl)).mono ?_;rintro _ w5 ⟨x,hx,rfl,hC5,hg5⟩;have HX:=lhd hx;clear hx;have S5:=lhd (DS.moved SL.out hC5 hg5);clear hC5 hg5;refine Shut.out hK _ _ ⟨S5.out.box.cell 0,S5.out.cellr k 6 hk (by omega) HQ.out⟩ ?_;try simp only [Act.put,lpa,lpz,lps]
  refine wpAnyC_one (i:=12) (by kernel_rfl) rfl (fun K hK=>?_);go_simp;have S5':=lhd (S5.out.ext (Ext_alloc (.cells #[.int .i64 x] 3) (Ext.refl _)));refine Shut.out hK _ _ ⟨S5'.out.box.cell 0,S5'.out.cellr k 6 hk (by omega) HQ.out⟩ ?_;try simp only [Act.put,lpa,lpz,lps]
  refine wpAnyC_one (i:=13) (by kernel_rfl) rfl (fun K hK=>?_);refine step_appG rfl (.tmp 128) (.tmp 132) _ rfl E_int (by omega) wb _ vint (fun _=>rfl) (Value.slice At r.tags.length ct) rfl (some ⟨w5.heap.size,0,none⟩) 1 1 rfl r.tags [x] (S5'.out.rule k hk HQ.out).t S5'.out.cur.2.1 rfl (fun _=>⟨_,rfl,fun j u hu=>(World.cell?_alloc_at' w5 [.int .i64 x] 3 j).trans (hu)⟩) (HBn.out _) ?_;intro v7 w7 ho7 he7 hv7 hg7;obtain ⟨A7,c7,hsh,_⟩:=OwnL.rd ho7 (HLn.out _);replace hsh:v7=.slice A7 (r.tags.length+1) c7:=(by rw [hsh,List.length_append];rfl);subst hsh;obtain ⟨⟨z7,y7,g7⟩,M7⟩:=S5'.out.app_t' k hk HQ.out ho7 he7 hv7 hg7;have z7:w7.cell? ⟨b,k*8+6,none⟩=some (Value.slice At r.tags.length ct):=z7
  clear ho7 he7 hv7 hg7;have M7:=lhd M7;refine Shut.out hK _ _ g7 ?_;try simp only [Act.put,lpa,lpz,lps]
  refine wpAnyC_one (i:=14) (by kernel_rfl) rfl (fun K hK=>?_);go_simp;refine Shut.out hK _ _ trivial ?_;try simp only [Act.put,lpa,lpz,lps]
  refine wpAnyC_one (i:=15) (by kernel_rfl) rfl (fun K hK=>?_);go_simp;refine Shut.out hK _ _ trivial ?_;try simp only [Act.put,lpa,lpz,lps]
  refine wpAnyC_one (i:=16) (by kernel_rfl) rfl (fun K hK=>?_);go_simp;refine Shut.out hK _ _ trivial ?_;try simp only [Act.put,lpa,lpz,lps]
  refine wpAnyC_done (by kernel_rfl) ?_ _;have cg:_=some (Value.slice (some ⟨b,0,none⟩) ps.length cap):=M7.out.box.cell 0
  have cr0:_=some (Value.slice none 0 0):=M7.out.res.cell 0
  have yr0:=M7.out.res.free 0;have OUT:=lhd (DS.finish M7.out hbw);have z9:(World.setCell (w7.setCell ⟨b,k*8+6,none⟩ (.slice A7 (r.tags.length+1) c7)) ⟨w.heap.size,0,none⟩ (Value.slice (some ⟨b,0,none⟩) ps.length cap)).cell? ⟨w.heap.size,0,none⟩=some (Value.slice (some ⟨b,0,none⟩) ps.length cap):=World.cell?_setCell_same _ _ _ cr0
  have HSE:=lhd (SmD_set (k:=k) (p':=⟨{ r with tags:=r.tags++[x] },.slice Ab r.bytes.length cb,.slice An r.names.length cn,(.slice A7 (r.tags.length+1) c7),.slice Ak r.kids.length ck⟩) HSM.out (⟨HSR.out.nm,by have:=HSL.out.lens;(try dsimp only);simp only [List.length_append,List.length_singleton];omega,HSR.out.nms,HSR.out.kind,⟨HSR.out.ints.1,fun z hz=>(List.mem_append.1 hz).elim (fun h=>HSR.out.ints.2.1 z h) (fun h=>by have h9:=HX.out;simp at h9;rw [List.mem_singleton.1 h];omega),HSR.out.ints.2.2⟩⟩));clear M7;go_wp2;refine bodyPost_ret (v:=vdesc (Value.slice (some ⟨b,0,none⟩) ps.length cap)) (by simp [results,Tryz.results69,go_sem,z9,vdesc]) rfl ?_;have HLN:Hid ((ps.set k (⟨{ r with tags:=r.tags++[x] },.slice Ab r.bytes.length cb,.slice An r.names.length cn,(.slice A7 (r.tags.length+1) c7),.slice Ak r.kids.length ck⟩)).length≤6):=by show _≤_;simp;omega
  first
   | exact ⟨_,_,rfl,⟨HSE.out,OUT.out.1,OUT.out.2.1⟩,HLN.out,OUT.out.2.2.1,OUT.out.2.2.2⟩
   | exact ⟨_,rfl,_,⟨HSE.out,OUT.out.1,OUT.out.2.1⟩,HLN.out,OUT.out.2.2.1,OUT.out.2.2.2⟩
 ·have cr0:_=some (Value.slice none 0 0):=S3.out.res.cell 0
  have yr0:=S3.out.res.free 0
  have OUT:Hid (Cur wb (w3.setCell ⟨w.heap.size,0,none⟩ (.slice none 0 0)) p A l c∧w.grownBy (w3.setCell ⟨w.heap.size,0,none⟩ (.slice none 0 0)) (some p)) :=
   ⟨S3.out.cur.set (a:=⟨w.heap.size,0,none⟩) (fun hh=>S3.out.pR hh.symm) hbw _,grown_new (a:=⟨w.heap.size,0,none⟩) S3.out.grow (Nat.le_refl _) _⟩
  have z9:(w3.setCell ⟨w.heap.size,0,none⟩ (.slice none 0 0)).cell? ⟨w.heap.size,0,none⟩=some (.slice none 0 0):=World.cell?_setCell_same _ _ _ cr0
  clear S3 SX;go_wp2;exact bodyPost_ret (v:=vdesc (.slice none 0 0)) (by simp [results,Tryz.results69,go_sem,z9,vdesc]) rfl ⟨.slice none 0 0,[],rfl,⟨⟨by simp [rulesOf],by simp [rulesOf]⟩,⟨⟨by simp,.inl ⟨rfl,rfl⟩⟩,by simp,Far.one _⟩,by simp [Value.ownBlock]⟩,by simp,OUT.out.1,OUT.out.2⟩
 ·have M7:Hid (DS wb w w3 p A l c g (.slice (some ⟨b,0,none⟩) ps.length cap) (ps.set k ⟨r,.slice Ab r.bytes.length cb,.slice An r.names.length cn,.slice At r.tags.length ct,.slice Ak r.kids.length ck⟩) w.heap.size):=by
   show DS _ _ _ _ _ _ _ _ _ _ _
   rw [← HQ.out,List.set_getElem_self hk];exact S3.out
  clear S3 SX;have cg:_=some (Value.slice (some ⟨b,0,none⟩) ps.length cap):=M7.out.box.cell 0
  have cr0:_=some (Value.slice none 0 0):=M7.out.res.cell 0
  have yr0:=M7.out.res.free 0;have OUT:=lhd (DS.finish M7.out hbw);have z9:(World.setCell (w3) ⟨w.heap.size,0,none⟩ (Value.slice (some ⟨b,0,none⟩) ps.length cap)).cell? ⟨w.heap.size,0,none⟩=some (Value.slice (some ⟨b,0,none⟩) ps.length cap):=World.cell?_setCell_same _ _ _ cr0
  have HSE:=lhd (SmD_set (k:=k) (p':=⟨r,.slice Ab r.bytes.length cb,.slice An r.names.length cn,.slice At r.tags.length ct,.slice Ak r.kids.length ck⟩) HSM.out (⟨HSR.out.nm,HSR.out.lens,HSR.out.nms,HSR.out.kind,HSR.out.ints⟩));clear M7;go_wp2;refine bodyPost_ret (v:=vdesc (Value.slice (some ⟨b,0,none⟩) ps.length cap)) (by simp [results,Tryz.results69,go_sem,z9,vdesc]) rfl ?_;have HLN:Hid ((ps.set k (⟨r,.slice Ab r.bytes.length cb,.slice An r.names.length cn,.slice At r.tags.length ct,.slice Ak r.kids.length ck⟩)).length≤6):=by show _≤_;simp;omega
  first
   | exact ⟨_,_,rfl,⟨HSE.out,OUT.out.1,OUT.out.2.1⟩,HLN.out,OUT.out.2.2.1,OUT.out.2.2.2⟩
   | exact ⟨_,rfl,_,⟨HSE.out,OUT.out.1,OUT.out.2.1⟩,HLN.out,OUT.out.2.2.1,OUT.out.2.2.2⟩
end Go.Proofs.YtpmcofmdjckijaaGreat
