/- Texts, laid into one. -/
import Derived.Test.YtpmcofmdjckijaaGreatZDg24
import Derived.Test.YtpmcofmdjckijaaGreatZDg22
import Derived.Test.YtpmcofmdjckijaaGreatZDg18
import Derived.Deep.CutBlock
set_option linter.unusedVariables false
set_option linter.unusedSimpArgs false
set_option maxRecDepth 100000
set_option maxHeartbeats 16000000
namespace Go.Proofs.YtpmcofmdjckijaaGreat
open Go.RowKit Go.Sort
theorem some_neC {a b:Nat} (h:a≠b):(some a:Option Nat)≠some b:=fun e=>h (Option.some.inj e)
theorem compN_head (ds:List DRule):∀ k,∃ t,(compN ds k).1=(9,0,0)::t
 | 0=>⟨_,rfl⟩
 | k+1=>by
  obtain ⟨t,ht⟩:=compN_head ds k;exact ⟨_,by rw [compN,ht];rfl⟩
theorem OwnI.shape {w0 w:World} {v:Value} {l:List Ins} (h:OwnI w0 w v l) (hp:0<l.length):∃ g cap,v=.slice (some ⟨g,0,none⟩) l.length cap:=by
 rcases h.2 with ⟨rfl,h0⟩ | ⟨g,cap,_,rfl,_⟩
 ·omega
 ·exact ⟨g,cap,rfl⟩
theorem Own.slice {e:TypeId} {size:Nat} {w0 w:World} {v:Value} {n:Nat} {xs:List Value} (h:Own e size w0 w v n xs):∃ A m c,v=.slice A m c:=by
 rcases h.2 with ⟨rfl,_⟩ | ⟨g,cap,_,rfl,_⟩
 ·exact ⟨_,_,_,rfl⟩
 ·exact ⟨_,_,_,rfl⟩
theorem OwnI.set1 {w0 w:World} {g n cap:Nat} {x:Ins} {t:List Ins} (h:OwnI w0 w (.slice (some ⟨g,0,none⟩) n cap) (x::t)) (he:Ext w0 w) (y:Int) :
 OwnI w0 (w.setCell ⟨g,1,none⟩ (.int .i64 y)) (.slice (some ⟨g,0,none⟩) n cap) ((x.1,y,x.2.2)::t)∧Ext w0 (w.setCell ⟨g,1,none⟩ (.int .i64 y)):=by
 have hn:n=(x::t).length:=by
  rcases h.2 with ⟨hv,h0⟩ | ⟨g',cap',_,hv,_⟩
  ·injection hv with a b c
   cases a
  ·injection hv with a b c
 subst hn;have h1:=Own.store h he 1 (.int .i64 y);exact ⟨by unfold OwnI;simpa [icells] using h1.1,h1.2⟩
theorem PSt.set0 {W0 w:World} {g gc n cap:Nat} {ve:Value} {x:Ins} {t:List Ins} {e:List Int} (h:PSt W0 w g (.slice (some ⟨gc,0,none⟩) n cap) ve (x::t) e) (y:Int) :
 PSt W0 (w.setCell ⟨gc,1,none⟩ (.int .i64 y)) g (.slice (some ⟨gc,0,none⟩) n cap) ve ((x.1,y,x.2.2)::t) e:=by
 have h1:=h.oc.set1 h.ext y;have hne:g≠gc:=fun hh=>h.n1 (by rw [hh];rfl)
 exact ⟨h.lo,h.box.other hne 1 _,h1.1,h.oe.other _ _ (h.far gc rfl),h.n1,h.n2,h.far,h1.2⟩
theorem sComp_c (A:Option Addr) (ds:List DRule) (c:Nat) (w:World) (hd:RdD w A ds c) (hs:ShortD ds) (hw:WfD ds) :
 Calls Tryz.prog 21 #[vdesc (.slice A ds.length c)] w fun e w'=>∃ vc ve,e=.returned (.agg #[vc,ve])∧OwnI w w' vc (compD ds).1∧OwnL vint 3 w w' ve (compD ds).2∧Ext w w':=by
 have hl:=hd.len;have CV:=lhd (fun w' (e:Ext w w')=>sValidDesc_c A ds c w' (hd.ext e) hs hw);obtain ⟨W0,hW0,BD,BR,e0,hsz⟩:=boxes2' w #[.slice A ds.length c] #[.slice none 0 0,.slice none 0 0] 26 55;have kD:∀ w',Ext W0 w'→w'.cell? ⟨w.heap.size,0,none⟩=some (Value.slice A ds.length c):=BD.at 0
 have d0:=kD _ (Ext.refl _);rw [hW0.out] at d0;have HSZ:=lhd hsz;have CO:=lhd (fun o a b w=>sOp_c o a b w);have HBR:=lhd BR;clear hsz BR BD;unfold vdesc at *;cases hok:descOk ds
 ·rw [hok] at CV
  have HC:Hid (compD ds=([],[])):=by show _=_;unfold compD;rw [hok];rfl
  go_enter Tryz.func21,Tryz.ntmps21;go_wp2_with fail;rw [← hW0.out];refine (CV.out _ e0).mono ?_;rintro _ w1 ⟨rfl,e1⟩;have br:=HBR.out.ext e1;have r2:=br.cell;have f2:=br.free;have E1:=e0.trans e1;go_wp2;refine bodyPost_ret (v:=.agg #[.slice none 0 0,.slice none 0 0]) (by simp [results,Tryz.results21,go_sem,r2,f2]) rfl ?_;rw [HC.out];exact ⟨_,_,rfl,⟨by simp,.inl ⟨rfl,rfl⟩⟩,OwnL.nil _ _,(E1.setCell (p:=⟨w.heap.size+1,0,none⟩) (by show _≤_+1;omega) _).setCell (p:=⟨w.heap.size+1,1,none⟩) (by show _≤_+1;omega) _⟩
 rw [hok] at CV;have h24:=descOk_24 hok;have hpos:0<ds.length:=(descOk_len hok).1
 have HC:Hid (compD ds=((compN ds ds.length).1.set 0 (9,(compN ds ds.length).2.getLastD 0,0),(compN ds ds.length).2)):=by show _=_;unfold compD;rw [hok];rfl
 have CR:Hid (∀ k,(hk:k<ds.length)→∀ (E:Option Addr) (es:List Int) (ec start:Nat) w',Ext w w'→Is w' E es ec→es.length=k→start≤100000 →
  Calls Tryz.prog 44 #[.agg #[.slice A ds.length c],.int .i64 (k:Int),.int .i64 (start:Int),.slice E es.length ec] w' (cRuleRes w' (ruleC ds[k] start es))):=fun k hk E es ec start w' e hE he hst =>
  sRuleC_c A ds c hok k hk E es ec start w' (hd.ext e) hs hw hE (by omega) hst
 have HLN:=lhd (fun k hk=>compN_len hok k hk);have HR60:=lhd (fun k hk start es=>ruleC_60 hok k hk start es);have HEN:=lhd (compN_ents ds);have HSUC:=lhd (fun k hk=>compN_succ ds k hk);clear hd hs hw hok;go_enter Tryz.func21,Tryz.ntmps21;go_wp2_with fail;rw [← hW0.out];refine (CV.out _ e0).mono ?_;rintro _ w1 ⟨rfl,e1⟩;clear d0 CV;go_wp2_with fail;refine (CO.out 9 0 0 _).mono ?_;rintro _ w2 ⟨rfl,e2⟩;go_wp2_with fail;refine (CO.out 17 0 0 _).mono ?_;rintro _ w3 ⟨rfl,e3⟩;have E3:=(e1.trans e2).trans e3
 have P0:Hid (PSt W0 ((w3.alloc (.cells #[.int .i64 9,.int .i64 0,.int .i64 0,.int .i64 17,.int .i64 0,.int .i64 0] 79)).alloc (.cells #[.slice (some ⟨w3.heap.size,0,none⟩) 2 2,.slice none 0 0] 55)) (w3.heap.size+1) (.slice (some ⟨w3.heap.size,0,none⟩) 2 2) (.slice none 0 0) (compN ds 0).1 (compN ds 0).2):=by
  have h1:=E3.size;have hb:=Box.new (w3.alloc (.cells #[.int .i64 9,.int .i64 0,.int .i64 0,.int .i64 17,.int .i64 0,.int .i64 0] 79)) #[.slice (some ⟨w3.heap.size,0,none⟩) 2 2,.slice none 0 0] 55;rw [World.size_alloc] at hb;refine ⟨by omega,hb,(OwnI.new E3 [(9,0,0),(17,0,0)] _ rfl 2 rfl (by simp)).ext (Ext_alloc _ (Ext.refl _)),OwnL.nil _ _,?_,?_,?_,Ext_alloc _ (Ext_alloc _ E3)⟩
  ·show some w3.heap.size≠some (w3.heap.size+1);exact some_neC (by omega)
  ·show none≠_;intro hh;cases hh
  ·intro b _;show none≠_;intro hh;cases hh
 go_wp2_with fail;go_loopw [4] (fun q wr=>∃ (k:Nat) (vc ve:Value),k≤ds.length∧q=.int .i64 (k:Int)∧Hid (PSt W0 wr (w3.heap.size+1) vc ve (compN ds k).1 (compN ds k).2)) (fun q _=>ds.length-(intOf q).toNat)
 case atStart=>exact ⟨0,_,_,by omega,rfl,P0.out⟩
 case round =>
  clear P0;obtain ⟨k,vc,ve,hk,rfl,hP⟩:=hrel;have hcl:=HLN.out k hk;obtain ⟨Ac,cc,hvc,_⟩:=hP.out.oc.rd (by omega);obtain ⟨Ae,ce,hve,rE⟩:=hP.out.oe.rd (by rw [HEN.out];omega);have hbx:Box wr (w3.heap.size+1) #[vc,ve] 55:=hP.out.box
  have b0:wr.cell? ⟨w3.heap.size+1,0,none⟩=some vc:=hbx.cell 0
  have b1:wr.cell? ⟨w3.heap.size+1,1,none⟩=some ve:=hbx.cell 1
  have kd:=kD wr hP.out.ext;have hel:=HEN.out k;have hEw:=e0.trans hP.out.ext
  by_cases hlt:k<ds.length
  ·subst hvc;subst hve
   have HSC:=lhd (HSUC.out k hlt);have HC6:=lhd (HR60.out k hlt);have CR1:=lhd (CR.out k hlt);have HCL:=lhd hcl;have HEL:=lhd hel;generalize hcc:(compN ds k).1=cs at *;generalize hee:(compN ds k).2=es at *;clear hcc hee hcl hel;have HPd:=lhd (hP.out.next (Ext_drew (Ext.refl wr)));have HAB:lv2 (fun w'=>Box w' (w3.heap.size+1) #[Value.slice Ac cs.length cc,Value.slice Ae es.length ce] 55∧w'.cell? ⟨w.heap.size,0,none⟩=some (Value.slice A ds.length c)) (fun _=>True) 1 wr.drew:=⟨HPd.out.box,kD _ HPd.out.ext⟩
   go_wp2_with fail;refine wp_region_C (C:=fun j=>lv2 (fun w'=>Box w' (w3.heap.size+1) #[Value.slice Ac cs.length cc,Value.slice Ae es.length ce] 55∧w'.cell? ⟨w.heap.size,0,none⟩=some (Value.slice A ds.length c)) (fun _=>True) (([0,1,1,0,0,0,1,1,0,0,0]:List Nat).getD j 0)) (by kernel_rfl) ?_;refine tkD 0 (i:=0) (v:=?_) rfl trivial ?_ ?_;rotate_left
   ·(intro w9 hSw;clear hSw;go_simp;try with_reducible rfl)
   try simp only [Act.put,lpa,lpz,lps]
   refine tkD 0 (i:=3) (v:=?_) rfl trivial ?_ ?_;rotate_left
   ·(intro w9 hSw;clear hSw;go_simp;try with_reducible rfl)
   try simp only [Act.put,lpa,lpz,lps]
   refine tkD 0 (i:=4) (v:=?_) rfl trivial ?_ ?_;rotate_left
   ·(intro w9 hSw;clear hSw;go_simp;try with_reducible rfl)
   try simp only [Act.put,lpa,lpz,lps]
   refine tkD 0 (i:=5) (v:=?_) rfl trivial ?_ ?_;rotate_left
   ·(intro w9 hSw;clear hSw;go_simp;try with_reducible rfl)
   try simp only [Act.put,lpa,lpz,lps]
   refine tkD 1 (i:=1) (v:=?_) rfl HAB ?_ ?_;rotate_left
   ·(intro w9 hSw;have hfact:w9.cell? ⟨w3.heap.size+1,0,none⟩=some (Value.slice Ac cs.length cc):=hSw.1.cell 0;clear hSw;go_simp;try with_reducible rfl)
   try simp only [Act.put,lpa,lpz,lps]
   refine tkD 1 (i:=2) (v:=?_) rfl HAB ?_ ?_;rotate_left
   ·(intro w9 hSw;have hfact:w9.cell? ⟨w.heap.size,0,none⟩=some (Value.slice A ds.length c):=hSw.2;clear hSw;go_simp;try with_reducible rfl)
   try simp only [Act.put,lpa,lpz,lps]
   refine tkD 1 (i:=6) (v:=?_) rfl HAB ?_ ?_;rotate_left
   ·(intro w9 hSw;have hfact:w9.cell? ⟨w3.heap.size+1,1,none⟩=some (Value.slice Ae es.length ce):=hSw.1.cell 1;clear hSw;go_simp;try with_reducible rfl)
   try simp only [Act.put,lpa,lpz,lps]
   refine wpAnyC_one (i:=7) (by kernel_rfl) rfl (fun K hK=>?_);go_simp;go_at_call 44;have hx:=HPd.out;refine (CR1.out Ae es ce cs.length _ (e0.trans hx.ext) (rE.ext (Ext_drew (Ext.refl wr))) HEL.out (by have:=HCL.out;omega)).mono ?_;rintro _ w5 ⟨v5,rfl,ho5,e5⟩;obtain ⟨A5,c5,hv5,_⟩:=OwnI.rd ho5 (by have:=HC6.out (cs.length:Int) es;omega);subst hv5;have HP5:=lhd (HPd.out.next e5);have hB5:(30:Nat)=30:=rfl
   refine Shut.out hK _ _ ⟨HP5.out.box,kD _ HP5.out.ext⟩ ?_;(try simp only [Act.put,lpa,lpz,lps]);refine wpAnyC_one (i:=8) (by kernel_rfl) rfl (fun K hK=>?_);refine step_appR rfl (.tmp 25) (.tmp 31) _ rfl E_ins W0 _ w5 _ cs (ruleC ds[k] (cs.length:Int) es) rfl HP5.out.oc HP5.out.ext A5 c5 rfl ho5 rfl (by have:=HC6.out (cs.length:Int) es;have:=HCL.out;omega) ?_;intro v7 w7 ho7 he7 hv7 hg7;obtain ⟨A7,n7,c7,hv7'⟩:=Own.slice ho7;subst hv7';have q0:_=some (Value.slice Ac cs.length cc):=(HP5.out.box.moved hg7 HP5.out.n1).cell 0
   have q0f:=(HP5.out.box.moved hg7 HP5.out.n1).free 0;refine Shut.out hK _ _ trivial ?_;(try simp only [Act.put,lpa,lpz,lps]);refine wpAnyC_one (i:=9) (by kernel_rfl) rfl (fun K hK=>?_);go_simp;refine Shut.out hK _ _ trivial ?_;(try simp only [Act.put,lpa,lpz,lps]);refine wpAnyC_one (i:=10) (by kernel_rfl) rfl (fun K hK=>?_);go_simp;refine Shut.out hK _ _ trivial ?_;(try simp only [Act.put,lpa,lpz,lps]);refine wpAnyC_done (by kernel_rfl) ?_ _;have z1:_=some (Value.slice Ae es.length ce):=(HP5.out.box.moved hg7 HP5.out.n1).cell 1
   have HP7:=lhd (HP5.out.appC ho7 he7 hv7 hg7);rw [show cs++ruleC ds[k] (cs.length:Int) es=(compN ds (k+1)).1 by rw [HSC.out]] at HP7;clear HP5 ho7 he7 hv7 hg7 HAB HPd hP b0 b1 q0 q0f kd hbx;have HP8:=lhd (HP7.out.next (Ext_alloc (.cells #[.int .i64 (cs.length:Int)] 3) (Ext.refl _)));have HBD:Hid ((es.length+[(cs.length:Int)].length)*8≤140737488355328):=by show _≤_;have:=HEL.out;simp;omega
   go_wp2_with (first
    | (at_builtin;go_must (refine wpList_appNB rfl (.tmp 35) (.tmp 37) _ rfl E_int (by omega) W0 _ vint (fun _=>rfl) _ rfl _ _ _ rfl (by simp) es [(cs.length:Int)] _ rfl HP7.out.oe HP7.out.ext rfl HBD.out ?_);intro v9 w9 ho9 he9 hv9 hg9;obtain ⟨A9,n9,c9,hv9'⟩:=Own.slice ho9;subst hv9';have q1:_=some (Value.slice Ae es.length ce):=(HP8.out.box.moved hg9 HP8.out.n2).cell 1;have q1f:=(HP8.out.box.moved hg9 HP8.out.n2).free 1))
   have HP9:=lhd (HP8.out.appE ho9 he9 hv9 hg9);rw [show es++[(cs.length:Int)]=(compN ds (k+1)).2 by rw [HSC.out]] at HP9;clear HP8 HP7 ho9 he9 hv9 hg9 HBD HSC z1 q1 q1f;go_roundw
   case rel=>exact ⟨k+1,_,_,by omega,by go_num,HP9.out⟩
   case measure=>simp [intOf];omega
  ·obtain rfl:k=ds.length:=by omega
   obtain ⟨t,ht⟩:=compN_head ds ds.length;have hoc:=hP.out.oc;obtain ⟨gc,cap,hvc'⟩:=hoc.shape (by rw [ht];simp);subst hve;have hes0:0<(compN ds ds.length).2.length:=by omega
   obtain ⟨be,oe,hAe,hbe,hce⟩:=rE.at ((compN ds ds.length).2.length-1) (by omega)
   have hgd:(compN ds ds.length).2[(compN ds ds.length).2.length-1]'(by omega)=(compN ds ds.length).2.getLastD 0:=by
    rw [List.getLastD_eq_getLast?,List.getLast?_eq_getElem?,List.getElem?_eq_getElem (by omega)];rfl
   rw [hgd] at hce;clear hvc hgd;subst hvc';subst hAe;have HT:Hid ((compN ds ds.length).1.set 0 (9,(compN ds ds.length).2.getLastD 0,0)=(9,(compN ds ds.length).2.getLastD 0,0)::t):=by show _=_;rw [ht];rfl
   have HPt:Hid (PSt W0 wr (w3.heap.size+1) (.slice (some ⟨gc,0,none⟩) (compN ds ds.length).1.length cap) (.slice (some ⟨be,oe,none⟩) (compN ds ds.length).2.length ce) ((9,0,0)::t) (compN ds ds.length).2):=by rw [← ht];exact hP.out
   have HCP:(0:Int)<((compN ds ds.length).1.length:Int):=by rw [ht];simp
   have HCT:Hid ((compN ds ds.length).1.length=t.length+1):=by show _=_;rw [ht];rfl
   have hce':∀ w',Ext wr w'→w'.cell? ⟨be,oe+((compN ds ds.length).2.length-1),none⟩=some (.int .i64 ((compN ds ds.length).2.getLastD 0)):=hce
   have HEX:=lhd (hP.out.oe);clear hP ht hce hcl;generalize hgd:(compN ds ds.length).2.getLastD 0=last at *;generalize hcs:(compN ds ds.length).1=cs at *;generalize hes:(compN ds ds.length).2=es at *;have hel':(es.length:Int)≤24:=by omega
   have hx1:=hce';have b0':∀ w',Ext wr w'→w'.cell? ⟨w3.heap.size+1,0,none⟩=some (Value.slice (some ⟨gc,0,none⟩) cs.length cap):=fun w' e=>(hbx.ext e).cell 0
   have b1':∀ w',Ext wr w'→w'.cell? ⟨w3.heap.size+1,1,none⟩=some (Value.slice (some ⟨be,oe,none⟩) es.length ce):=fun w' e=>(hbx.ext e).cell 1
   have hi0:(0:Int)≤(es.length:Int)-1:=by omega
   have hi1:(es.length:Int)-1<(es.length:Int):=by omega
   have hi2:((es.length:Int)-1).toNat=es.length-1:=by omega
   have hfin:Hid ((9,last,0)::t=(compD ds).1∧es=(compD ds).2):=by
    refine ⟨?_,?_⟩
    ·rw [HC.out,← HT.out]
    ·rw [HC.out]
   have hiw:IntKind.i64.wrap ((es.length:Int)-1)=(es.length:Int)-1:=IntWalk.i64_in _ (by omega)
   clear hgd hcs hes hce' b0 b1 hbx hel HT HLN HR60 HEN HSUC CR HC rE hlt;go_wp2_with fail;refine region_qtail_below 12 (by kernel_rfl) (by kernel_rfl) ?_;simp only [List.take_succ_cons,List.take_zero,List.drop_succ_cons,List.drop_zero];repeat (go_big_quiet_step (fail))
   refine wpQuiet_nil ?_;rintro w5 ⟨⟨nq,osq⟩,hq⟩;have e5:=ext_of_q hq;clear hq nq osq hiw hi0 hi1 hi2 hx1;have HP5:=lhd (HPt.out.next e5);have hoc5:=HP5.out.oc;rw [HCT.out] at hoc5;obtain ⟨⟨u1,hu1⟩,hf1⟩:=Own.slot hoc5 1 (by rw [icells_len];simp;omega);clear hoc5;have HP6:=lhd (HP5.out.set0 last);have z0:_=some (Value.slice (some ⟨gc,0,none⟩) cs.length cap):=HP5.out.box.cell 0
   have z1:_=some (Value.slice (some ⟨be,oe,none⟩) es.length ce):=HP5.out.box.cell 1
   have hgne:gc≠w3.heap.size+1:=fun hh=>HP5.out.n1 (by rw [hh];rfl)
   have hgne':w3.heap.size+1≠gc:=fun hh=>hgne hh.symm
   have hglo:w.heap.size+2≤gc:=by have:=(World.ownsRow.lt HP5.out.oc gc rfl).1;rw [HSZ.out] at this;exact this
   have hgn2:gc≠w.heap.size+1:=by omega
   have hgn3:w.heap.size+1≠gc:=by omega
   have br:=HBR.out.ext HP5.out.ext;have r2:=br.cell;have f2:=br.free;have hlo3:w.heap.size+1≠w3.heap.size+1:=by have:=HP5.out.lo;rw [HSZ.out] at this;omega
   go_wp2;refine bodyPost_ret (v:=.agg #[.slice (some ⟨gc,0,none⟩) cs.length cap,.slice (some ⟨be,oe,none⟩) es.length ce]) (by simp [results,Tryz.results21,go_sem,r2,f2,hgn2,hgn3]) rfl ?_;obtain ⟨hf1,hf2⟩:=hfin.out;have nv:(Value.slice (some ⟨gc,0,none⟩) cs.length cap).ownBlock≠some (w.heap.size+1):=some_neC hgn2
   have ne2:=OwnL.far HP6.out.oe (b:=w.heap.size+1) (.inl (by rw [HSZ.out];omega));refine ⟨_,_,rfl,?_,?_,((e0.trans HP6.out.ext).setCell (p:=⟨w.heap.size+1,0,none⟩) (by show _≤_+1;omega) _).setCell (p:=⟨w.heap.size+1,1,none⟩) (by show _≤_+1;omega) _⟩
   ·rw [← hf1];exact OwnI.down (Own.other (Own.other HP6.out.oc ⟨w.heap.size+1,0,none⟩ _ nv) ⟨w.heap.size+1,1,none⟩ _ nv) e0.size
   ·rw [← hf2];exact OwnL.down (OwnL.other (OwnL.other HP6.out.oe ⟨w.heap.size+1,0,none⟩ _ ne2) ⟨w.heap.size+1,1,none⟩ _ ne2) e0.size
end Go.Proofs.YtpmcofmdjckijaaGreat
namespace Go.Proofs.YtpmcofmdjckijaaGreat
open Go.RowKit
theorem w64 {n:Int} (h0 : -9223372036854775808≤n) (h1:n≤9223372036854775807):wrap64 n=n:=by unfold wrap64;omega
def finO (o:Mach):Int:=if o.state=1 then 0 else if o.state=0 then 1 else o.code
def runO (cs:List Ins):List UInt8→Mach→Int
 | [],o=>finO o
 | b::t,o=>runO cs t (advF true cs (feedO cs o (b.toNat:Int)))
def goN (cs:List Ins) (k:Nat) (m:Mach) (l:List UInt8):Int:=runO cs l (advN cs k m)
theorem runO_feed (cs:List Ins):∀ (l:List UInt8) (m:Mach),finO (advF true cs (feedL true cs m l))=runO cs l (advF true cs m)
 | [],m=>rfl
 | b::t,m=>runO_feed cs t (feedF true cs m (b.toNat:Int))
theorem runO_fail {cs:List Ins} {o:Mach} (h:o.state=2):∀ l,runO cs l o=o.code
 | []=>by show finO o=_;unfold finO;rw [if_neg (by omega),if_neg (by omega)]
 | b::t=>by
  have h2:feedO cs o (b.toNat:Int)=o:=by unfold feedO;rw [if_neg (by omega),if_neg (by omega)]
  have h1:advF true cs o=o:=by unfold advF;rw [if_neg (by omega)]
  show runO cs t (advF true cs (feedO cs o (b.toNat:Int)))=_
  rw [h2,h1];exact runO_fail h t
theorem goN_fail {cs:List Ins} {k:Nat} {m:Mach} (h:m.state=2) (l:List UInt8):goN cs k m l=m.code:=by
 unfold goN;rw [advN_stop (by omega),runO_fail h]
theorem goN_done {cs:List Ins} {k:Nat} {m:Mach} (h:m.state=1):goN cs k m []=0:=by
 unfold goN;rw [advN_stop (by omega)];show finO m=0;unfold finO;rw [if_pos h]
theorem goN_more {cs:List Ins} {k:Nat} {m:Mach} (h:m.state=1) (b:UInt8) (t:List UInt8):goN cs k m (b::t)=7:=by
 unfold goN;rw [advN_stop (by omega)];show runO cs t (advF true cs (feedO cs m (b.toNat:Int)))=7
 have h2:feedO cs m (b.toNat:Int)=m.fail 7:=by unfold feedO;rw [if_pos h]
 have h1:advF true cs (m.fail 7)=m.fail 7:=by unfold advF;rw [if_neg (by show ¬ (2:Int)=0;decide)]
 rw [h2,h1,runO_fail rfl];rfl
theorem goN_wait {cs:List Ins} {k:Nat} {m:Mach} (h0:m.state=0) (hs:m.started=true):goN cs k m []=1:=by
 unfold goN;rw [advN_stop (by rw [hs];simp)];show finO m=1;unfold finO;rw [if_neg (by omega),if_pos h0]
theorem insAt_get {cs:List Ins} {pc:Nat} {x:Ins} (hx:cs[pc]?=some x):insAt cs (pc:Int)=x∧inB (pc:Int) 0 ((cs.length:Int)-1)=true:=by
 obtain ⟨hlt,he⟩:=List.getElem?_eq_some_iff.1 hx
 constructor
 ·unfold insAt;rw [List.getD_eq_getElem?_getD,Int.toNat_natCast,hx];rfl
 ·unfold inB;simp;omega
theorem goN_step {cs:List Ins} {k:Nat} {m:Mach} {pc:Nat} {x:Ins} (h0:m.state=0) (hs:m.started=false) (hp:m.pc=pc) (hx:cs[pc]?=some x) (l:List UInt8):goN cs (k+1) m l=goN cs k (m.step x) l:=by
 obtain ⟨h1,h2⟩:=insAt_get hx;unfold goN;rw [advN_go ⟨h0,hs⟩ (by rw [hp];exact h2),hp,h1]
theorem goN_byte {cs:List Ins} {k:Nat} {m:Mach} {pc:Nat} {x:Ins} {b:UInt8} {q:Mach} (h0:m.state=0) (hs:m.started=true) (hp:m.pc=pc) (hx:cs[pc]?=some x) (hq:m.byteI x (b.toNat:Int)=q) (hq2:q.state=0→q.started=true→q.pc=pc) (t:List UInt8) :
 goN cs k m (b::t)=goN cs 100001 q t:=by
 obtain ⟨h1,h2⟩:=insAt_get hx;unfold goN;rw [advN_stop (by rw [hs];simp)];show runO cs t (advF true cs (feedO cs m (b.toNat:Int)))=_
 have h3:feedO cs m (b.toNat:Int)=q:=by
  unfold feedO Mach.byte;rw [if_neg (by omega),if_pos h0,hp,h2,h1,if_pos rfl,hq]
 rw [h3]
 congr 1
 unfold advF
 by_cases hz:q.state=0
 ·rw [if_pos hz]
  cases hst:q.started
  ·simp
  ·rw [hq2 hz hst,h2];simp
 ·rw [if_neg hz,advN_stop (by simp [hz])]
structure Here (m:Mach) (pc:Nat) (st ss:List Int):Prop where
 hp:m.pc=pc
 hst:m.stack=st
 hss:m.sums=ss
 h0:m.state=0
 hs:m.started=false
 he:m.escaped=false
structure Wait (m:Mach) (pc:Nat) (st ss:List Int) (left:Nat) (esc:Bool):Prop where
 hp:m.pc=pc
 hst:m.stack=st
 hss:m.sums=ss
 h0:m.state=0
 hs:m.started=true
 hl:m.left=left
 he:m.escaped=esc
theorem Here.go {cs:List Ins} {m:Mach} {pc:Nat} {st ss:List Int} (h:Here m pc st ss) {x:Ins} (hx:cs[pc]?=some x) (k:Nat) (l:List UInt8):goN cs (k+1) m l=goN cs k (m.step x) l:=goN_step h.h0 h.hs h.hp hx l
theorem wpc {pc:Nat} (h:pc<100000):wrap64 ((pc:Int)+1)=((pc+1:Nat):Int):=by rw [w64 (by omega) (by omega)];omega
theorem Here.call {m:Mach} {pc:Nat} {st ss:List Int} (h:Here m pc st ss) (hl:st.length<60) (hpc:pc<100000) (e:Nat):Here (m.step (9,(e:Int),0)) e (st++[((pc+1:Nat):Int)]) ss:=by
 have e1:m.step (9,(e:Int),0)={ m with stack:=m.stack++[wrap64 (m.pc+1)],pc:=(e:Int) }:=by
  unfold Mach.step Mach.reads Mach.moves Mach.push;simp [h.hst,hl,show ¬ 60≤st.length by omega]
 rw [e1];exact ⟨rfl,by show m.stack++[wrap64 (m.pc+1)]=_;rw [h.hst,h.hp,wpc hpc],h.hss,h.h0,h.hs,h.he⟩
theorem Here.ret {m:Mach} {pc r:Nat} {st ss:List Int} (h:Here m pc (st++[(r:Int)]) ss):Here (m.step (10,0,0)) r st ss∧(m.step (10,0,0)).reg=m.reg:=by
 have e1:m.step (10,0,0)={ m with stack:=m.stack.dropLast,pc:=m.stack.getLastD 0 }:=by
  unfold Mach.step Mach.reads Mach.moves Mach.pop Mach.last;simp [h.hst]
 rw [e1];exact ⟨⟨by show m.stack.getLastD 0=_;rw [h.hst];simp,by show m.stack.dropLast=_;rw [h.hst];simp,h.hss,h.h0,h.hs,h.he⟩,rfl⟩
theorem Here.jump {m:Mach} {pc:Nat} {st ss:List Int} (h:Here m pc st ss) (e:Nat):Here (m.step (8,(e:Int),0)) e st ss:=by
 have e1:m.step (8,(e:Int),0)={ m with pc:=(e:Int) }:=by
  unfold Mach.step Mach.reads Mach.moves;simp
 rw [e1];exact ⟨rfl,h.hst,h.hss,h.h0,h.hs,h.he⟩
theorem Here.mark {m:Mach} {pc:Nat} {st ss:List Int} (h:Here m pc st ss) (hl:ss.length<30) (hpc:pc<100000):Here (m.step (14,0,0)) (pc+1) st (ss++[0]):=by
 have e1:m.step (14,0,0)={ m with sums:=m.sums++[0],pc:=wrap64 (m.pc+1) }:=by
  unfold Mach.step Mach.reads Mach.moves;simp [h.hss];omega
 rw [e1];exact ⟨by show wrap64 (m.pc+1)=_;rw [h.hp,wpc hpc],h.hst,by show m.sums++[0]=_;rw [h.hss],h.h0,h.hs,h.he⟩
theorem Here.pushR {m:Mach} {pc:Nat} {st ss:List Int} (h:Here m pc st ss) (hl:st.length<60) (hpc:pc<100000):Here (m.step (6,0,0)) (pc+1) (st++[m.reg]) ss:=by
 have e1:m.step (6,0,0)={ m with stack:=m.stack++[m.reg],pc:=wrap64 (m.pc+1) }:=by
  unfold Mach.step Mach.reads Mach.moves Mach.push;simp [h.hst,hl,show ¬ 60≤st.length by omega]
 rw [e1];exact ⟨by show wrap64 (m.pc+1)=_;rw [h.hp,wpc hpc],by show m.stack++[m.reg]=_;rw [h.hst],h.hss,h.h0,h.hs,h.he⟩
theorem Here.limit {m:Mach} {pc:Nat} {st ss:List Int} (h:Here m pc st ss) (hpc:pc<100000) (n:Int):(n<m.reg→(m.step (5,n,0)).state=2∧(m.step (5,n,0)).code=6)∧(m.reg≤n→Here (m.step (5,n,0)) (pc+1) st ss∧(m.step (5,n,0)).reg=m.reg):=by
 have e1:m.step (5,n,0)=if n<m.reg then m.fail 6 else { m with pc:=wrap64 (m.pc+1) }:=by
  unfold Mach.step Mach.reads;simp
 rw [e1]
 constructor
 ·intro hn;rw [if_pos hn];exact ⟨rfl,rfl⟩
 ·intro hn;rw [if_neg (by omega)]
  exact ⟨⟨by show wrap64 (m.pc+1)=_;rw [h.hp,wpc hpc],h.hst,h.hss,h.h0,h.hs,h.he⟩,rfl⟩
theorem Here.tag {m:Mach} {pc:Nat} {st ss:List Int} (h:Here m pc st ss) (hpc:pc<100000) (t:Int) (e:Nat):(m.reg=t→Here (m.step (11,t,(e:Int))) e st ss)∧(m.reg≠t→Here (m.step (11,t,(e:Int))) (pc+1) st ss∧(m.step (11,t,(e:Int))).reg=m.reg):=by
 have e1:m.step (11,t,(e:Int))=if m.reg=t then { m with pc:=(e:Int) } else { m with pc:=wrap64 (m.pc+1) }:=by
  unfold Mach.step Mach.reads;simp
 rw [e1]
 constructor
 ·intro hn;rw [if_pos hn];exact ⟨rfl,h.hst,h.hss,h.h0,h.hs,h.he⟩
 ·intro hn;rw [if_neg hn]
  exact ⟨⟨by show wrap64 (m.pc+1)=_;rw [h.hp,wpc hpc],h.hst,h.hss,h.h0,h.hs,h.he⟩,rfl⟩
theorem Here.failing {m:Mach} {pc:Nat} {st ss:List Int} (h:Here m pc st ss) (c:Int):(m.step (12,c,0)).state=2∧(m.step (12,c,0)).code=c:=by
 have e1:m.step (12,c,0)=m.fail c:=by unfold Mach.step Mach.reads;simp
 rw [e1];exact ⟨rfl,rfl⟩
theorem Here.fin {m:Mach} {pc:Nat} {st ss:List Int} (h:Here m pc st ss):(m.step (17,0,0)).state=1:=by
 have e1:m.step (17,0,0)={ m with state:=1 }:=by unfold Mach.step Mach.reads;simp
 rw [e1]
theorem Here.loop0 {m:Mach} {pc:Nat} {st ss:List Int} (h:Here m pc (st++[0]) ss) (e:Nat):Here (m.step (7,(e:Int),0)) e st ss:=by
 have e1:m.step (7,(e:Int),0)={ m with stack:=m.stack.dropLast,pc:=(e:Int) }:=by
  unfold Mach.step Mach.reads Mach.moves Mach.loop Mach.pop Mach.last;simp [h.hst]
 rw [e1];exact ⟨rfl,by show m.stack.dropLast=_;rw [h.hst];simp,h.hss,h.h0,h.hs,h.he⟩
theorem Here.loopN {m:Mach} {pc n:Nat} {st ss:List Int} (h:Here m pc (st++[((n+1:Nat):Int)]) ss) (hpc:pc<100000) (hn:n<1000) (e:Nat):Here (m.step (7,(e:Int),0)) (pc+1) (st++[(n:Int)]) ss:=by
 have e1:m.step (7,(e:Int),0)={ m with stack:=m.stack.dropLast++[wrap64 (m.stack.getLastD 0-1)],pc:=wrap64 (m.pc+1) }:=by
  unfold Mach.step Mach.reads Mach.moves Mach.loop Mach.pop Mach.last;simp [h.hst]
  omega
 rw [e1];refine ⟨by show wrap64 (m.pc+1)=_;rw [h.hp,wpc hpc],?_,h.hss,h.h0,h.hs,h.he⟩;show m.stack.dropLast++[wrap64 (m.stack.getLastD 0-1)]=_
 rw [h.hst];simp only [List.dropLast_concat,List.getLastD_concat];rw [w64 (by omega) (by omega)]
 congr 2;omega
theorem Here.wait {m:Mach} {pc:Nat} {st ss:List Int} (h:Here m pc st ss) (n:Nat) (hn:0<n):Wait (m.start (n:Int)) pc st ss n false∧(m.start (n:Int)).reg=m.reg:=by
 have e1:m.start (n:Int)={ m with started:=true,left:=(n:Int) }:=by
  unfold Mach.start;rw [if_neg (by omega)]
 rw [e1];exact ⟨⟨h.hp,h.hst,h.hss,h.h0,rfl,rfl,h.he⟩,rfl⟩
theorem Here.none {m:Mach} {pc:Nat} {st ss:List Int} (h:Here m pc st ss) (hpc:pc<100000):Here (m.start 0) (pc+1) st ss∧(m.start 0).reg=m.reg:=by
 have e1:m.start 0={ m with pc:=wrap64 (m.pc+1) }:=by unfold Mach.start;rw [if_pos rfl]
 rw [e1];exact ⟨⟨by show wrap64 (m.pc+1)=_;rw [h.hp,wpc hpc],h.hst,h.hss,h.h0,h.hs,h.he⟩,rfl⟩
theorem step_skip (m:Mach) (n:Int):m.step (3,n,0)=m.start n:=by unfold Mach.step Mach.reads;simp
theorem step_skipR (m:Mach):m.step (4,0,0)=m.start m.reg:=by unfold Mach.step Mach.reads;simp
theorem step_int (m:Mach) (n z:Int):m.step (1,n,z)=({ m with reg:=0 }:Mach).start n:=by unfold Mach.step Mach.reads;simp
theorem step_match (m:Mach) (n:Int):m.step (2,n,0)=m.start 1:=by unfold Mach.step Mach.reads;simp
theorem step_flag (m:Mach) (n:Int):m.step (13,n,0)=m.start 1:=by unfold Mach.step Mach.reads;simp
theorem step_until (m:Mach) (n:Int):m.step (16,n,0)=m.start 1:=by unfold Mach.step Mach.reads;simp
theorem step_sum (m:Mach) (h:0<m.sums.length):m.step (15,0,0)=m.start 1:=by
 have hne:m.sums≠[]:=fun h'=>by rw [h'] at h;simp at h
 unfold Mach.step Mach.reads;simp [hne]
def upd (ss:List Int) (l:List UInt8):List Int:=l.foldl (fun s x=>s.map (sumUp · (x.toNat:Int))) ss
theorem upd_app (ss:List Int) (a b:List UInt8):upd ss (a++b)=upd (upd ss a) b:=by unfold upd;rw [List.foldl_append]
theorem upd_cons (ss:List Int) (x:UInt8) (l:List UInt8):upd ss (x::l)=upd (upd ss [x]) l:=rfl
theorem upd_len (ss:List Int) (l:List UInt8):(upd ss l).length=ss.length:=by
 unfold upd
 induction l generalizing ss with
 | nil=>rfl
 | cons x t ih=>rw [List.foldl_cons,ih,List.length_map]
theorem upd_snoc (ss:List Int) (s:Int) (l:List UInt8):upd (ss++[s]) l=upd ss l++[l.foldl (fun s x=>sumUp s (x.toNat:Int)) s]:=by
 induction l generalizing ss s with
 | nil=>rfl
 | cons x t ih=>rw [upd_cons,upd_cons ss,List.foldl_cons,← ih];show upd ((ss++[s]).map _) t=_;rw [List.map_append];rfl
theorem sum_fold (l:List UInt8) (n:Nat):l.foldl (fun s x=>sumUp s (x.toNat:Int)) ((n%256:Nat):Int)=(((n+sumB l)%256:Nat):Int):=by
 induction l generalizing n with
 | nil=>rfl
 | cons x t ih =>
  have hx:=x.toNat_lt
  have e:sumUp ((n%256:Nat):Int) (x.toNat:Int)=(((n+x.toNat)%256:Nat):Int):=by
   unfold sumUp;rw [w64 (by omega) (by omega),← Int.natCast_add];rw [show ((256:Int))=((256:Nat):Int) by rfl,← Int.ofNat_tmod]
   congr 1;omega
  rw [List.foldl_cons,e,ih,show sumB (x::t)=x.toNat+sumB t by rfl,Nat.add_assoc]
theorem Wait.one {cs:List Ins} {m:Mach} {pc n:Nat} {st ss:List Int} {x:Ins} (h:Wait m pc st ss (n+1) false) (hpc:pc<100000) (hn:n<5000000000) (hx:cs[pc]?=some x) (hp:x.1≠1∧x.1≠2∧x.1≠13∧x.1≠16∧x.1≠15) (k:Nat) (c:UInt8) (t:List UInt8) :
 ∃ q:Mach,goN cs k m (c::t)=goN cs 100001 q t∧q.reg=m.reg∧(n=0→Here q (pc+1) st (upd ss [c]))∧(0<n→Wait q pc st (upd ss [c]) n false):=by
 have hb:m.byteI x (c.toNat:Int)=(m.eat c.toNat).done (wrap64 (m.pc+1)):=by
  unfold Mach.byteI Mach.take Mach.mid;simp [hp]
  rfl
 have hleft:wrap64 (m.left-1)=(n:Int):=by rw [h.hl,w64 (by omega) (by omega)];omega
 have hq:m.byteI x (c.toNat:Int)=if n=0 then { m.eat c.toNat with started:=false,pc:=((pc+1:Nat):Int) } else m.eat c.toNat:=by
  rw [hb];unfold Mach.done;have h1:(m.eat c.toNat).state=0:=h.h0
  have h2:(m.eat c.toNat).left=(n:Int):=hleft
  by_cases hz:n=0
  ·rw [if_pos hz,if_pos ⟨h1,by rw [h2,hz];rfl⟩,h.hp,wpc hpc]
  ·rw [if_neg hz,if_neg (by rw [h2];omega)]
 have hss:(m.eat (c.toNat:Int)).sums=upd ss [c]:=by show m.sums.map _=_;rw [h.hss];rfl
 by_cases hz:n=0
 ·rw [if_pos hz] at hq
  exact ⟨_,goN_byte h.h0 h.hs h.hp hx hq (fun _ h'=>by cases h') t,rfl,fun _=>⟨rfl,h.hst,hss,h.h0,rfl,h.he⟩,fun h'=>by omega⟩
 ·rw [if_neg hz] at hq
  exact ⟨_,goN_byte h.h0 h.hs h.hp hx hq (fun _ _=>h.hp) t,rfl,fun h'=>by omega,fun _=>⟨h.hp,h.hst,hss,h.h0,h.hs,hleft,h.he⟩⟩
theorem Wait.skip {cs:List Ins} {pc:Nat} {st:List Int} {x:Ins} (hpc:pc<100000) (hx:cs[pc]?=some x) (hp:x.1≠1∧x.1≠2∧x.1≠13∧x.1≠16∧x.1≠15):∀ (n:Nat) (m:Mach) (ss:List Int) (k:Nat) (l:List UInt8),n<5000000000→Wait m pc st ss (n+1) false →
 (l.length<n+1→goN cs k m l=1)∧(n+1≤l.length→∃ q:Mach,goN cs k m l=goN cs 100001 q (l.drop (n+1))∧q.reg=m.reg∧Here q (pc+1) st (upd ss (l.take (n+1))))
 | n,m,ss,k,[],hn,h=>⟨fun _=>goN_wait h.h0 h.hs,fun h'=>by simp at h'⟩
 | 0,m,ss,k,c::t,hn,h=>by
  obtain ⟨q,h1,h2,h3,_⟩:=h.one hpc hn hx hp k c t;exact ⟨fun h'=>by simp at h',fun _=>⟨q,by simpa using h1,h2,by simpa using h3 rfl⟩⟩
 | n+1,m,ss,k,c::t,hn,h=>by
  obtain ⟨q,h1,h2,_,h4⟩:=h.one hpc hn hx hp k c t;obtain ⟨i1,i2⟩:=Wait.skip hpc hx hp n q (upd ss [c]) 100001 t (by omega) (h4 (by omega));refine ⟨fun h'=>by rw [h1];exact i1 (by simpa using h'),fun h'=>?_⟩;obtain ⟨q2,j1,j2,j3⟩:=i2 (by simpa using h');exact ⟨q2,by rw [h1,j1];rfl,by rw [j2,h2],j3⟩
theorem rdN_foldl (l:List UInt8) (n:Nat):l.foldl (fun a x=>a*256+x.toNat) n=n*256^l.length+rdN l:=by
 induction l generalizing n with
 | nil=>simp [rdN]
 | cons x t ih =>
  unfold rdN;rw [List.foldl_cons,List.foldl_cons,ih,ih,List.length_cons,Nat.pow_succ];rw [Nat.zero_mul,Nat.zero_add,Nat.add_mul,Nat.add_assoc,Nat.mul_assoc,Nat.mul_comm 256]
theorem rdN_cons (x:UInt8) (l:List UInt8):rdN (x::l)=x.toNat*256^l.length+rdN l:=by
 have:=rdN_foldl l x.toNat;rw [← this];unfold rdN;rw [List.foldl_cons,Nat.zero_mul,Nat.zero_add]
theorem rdN_ltP (l:List UInt8):rdN l<256^l.length:=by
 induction l with
 | nil=>simp [rdN]
 | cons x t ih =>
  rw [rdN_cons,List.length_cons,Nat.pow_succ];have hx:=x.toNat_lt
  have:x.toNat*256^t.length+256^t.length≤256*256^t.length:=by
   rw [← Nat.succ_mul];exact Nat.mul_le_mul_right _ (by omega)
  rw [Nat.mul_comm (256^t.length)];omega
def numL (lit:Bool) (l:List UInt8):Nat:=rdN (if lit then l.reverse else l)
theorem numL_lt (lit:Bool) (l:List UInt8):numL lit l<256^l.length:=by
 unfold numL;split
 ·have:=rdN_ltP l.reverse;rwa [List.length_reverse] at this
 ·exact rdN_ltP l
theorem numL_snoc (lit:Bool) (l:List UInt8) (c:UInt8):numL lit (l++[c])=if lit then c.toNat*256^l.length+numL lit l else numL lit l*256+c.toNat:=by
 unfold numL;cases lit
 ·simp only [Bool.false_eq_true,if_false];exact rdN_snoc l c
 ·simp only [if_true,List.reverse_append,List.reverse_cons,List.reverse_nil,List.nil_append,List.singleton_append]
  rw [rdN_cons,List.length_reverse]
theorem numL_decI (r:DRule) (l:List UInt8):decI r l=numL r.little l:=rfl
theorem Wait.num {cs:List Ins} {m:Mach} {pc n s:Nat} {st ss:List Int} {lit:Bool} {pre:List UInt8} (h:Wait m pc st ss (n+1) false) (hpc:pc<100000) (hs4:s≤4) (hpre:pre.length+(n+1)=s) (hr:m.reg=(numL lit pre:Nat))
 (hx:cs[pc]?=some (1,(s:Int),if lit then 1 else 0)) (k:Nat) (c:UInt8) (t:List UInt8) :
 ∃ q:Mach,goN cs k m (c::t)=goN cs 100001 q t∧q.reg=(numL lit (pre++[c]):Nat)∧(n=0→Here q (pc+1) st (upd ss [c]))∧(0<n→Wait q pc st (upd ss [c]) n false):=by
 have hc:=c.toNat_lt;have hleft:wrap64 (m.left-1)=(n:Int):=by rw [h.hl,w64 (by omega) (by omega)];omega
 have hreg:(if (if lit then (1:Int) else 0)=1 then wrap64 (m.reg+wrap64 ((c.toNat:Int)*2^(8*((s:Int)-1-(n:Int))).toNat)) else wrap64 (wrap64 (m.reg*256)+(c.toNat:Int)))=(numL lit (pre++[c]):Nat):=by
  have hlt:=numL_lt lit pre;have hp4:pre.length≤3:=by omega
  have hb:256^pre.length≤16777216:=Nat.le_trans (Nat.pow_le_pow_right (by omega) hp4) (by decide)
  rw [numL_snoc,hr];cases lit
  ·simp only [Bool.false_eq_true,if_false]
   rw [if_neg (by omega),w64 (n:=_*256) (by omega) (by omega),w64 (by omega) (by omega)]
   omega
  ·simp only [if_true]
   rw [show (8*((s:Int)-1-(n:Int))).toNat=8*pre.length by omega]
   have e2:(2:Int)^(8*pre.length)=((256^pre.length:Nat):Int):=by
    rw [Int.natCast_pow,Int.pow_mul];rfl
   have hm:c.toNat*256^pre.length≤255*16777216:=Nat.mul_le_mul (by omega) hb
   rw [e2,← Int.natCast_mul,w64 (n:=((c.toNat*256^pre.length:Nat):Int)) (by omega) (by omega),← Int.natCast_add,w64 (by omega) (by omega)]
   congr 1;omega
 have hin:inB m.left 1 (s:Int)=true:=by unfold inB;rw [h.hl];simp;omega
 have hb:m.byteI (1,(s:Int),if lit then 1 else 0) (c.toNat:Int)=(m.eat c.toNat).take (1,(s:Int),if lit then 1 else 0) c.toNat:=by
  unfold Mach.byteI;rw [if_neg (by simp [hin]),if_neg (by simp)]
 have f1:(m.eat (c.toNat:Int)).state=0:=h.h0
 have f2:(m.eat (c.toNat:Int)).left=(n:Int):=hleft
 have f3:(m.eat (c.toNat:Int)).reg=m.reg:=rfl
 have f4:(m.eat (c.toNat:Int)).pc=(pc:Int):=h.hp
 have f5:(m.eat (c.toNat:Int)).stack=st:=h.hst
 have f6:(m.eat (c.toNat:Int)).sums=upd ss [c]:=by show m.sums.map _=_;rw [h.hss];rfl
 have f7:(m.eat (c.toNat:Int)).escaped=false:=h.he
 have f8:(m.eat (c.toNat:Int)).started=true:=h.hs
 generalize m.eat (c.toNat:Int)=M at hb f1 f2 f3 f4 f5 f6 f7 f8;generalize (numL lit (pre++[c]):Nat)=v at hreg ⊢
 have hmid:M.mid (1,(s:Int),if lit then 1 else 0) c.toNat=({ M with reg:=(v:Int) },((pc+1:Nat):Int)):=by
  unfold Mach.mid;rw [if_pos rfl,f2,f3,f4,wpc hpc,← hreg];cases lit<;>simp
 have hq:m.byteI (1,(s:Int),if lit then 1 else 0) (c.toNat:Int)=if n=0 then { M with reg:=(v:Int),started:=false,pc:=((pc+1:Nat):Int) } else { M with reg:=(v:Int) }:=by
  rw [hb];unfold Mach.take;rw [hmid];unfold Mach.done
  by_cases hz:n=0
  ·rw [if_pos hz,if_pos ⟨f1,by show M.left=0;rw [f2,hz];rfl⟩]
  ·rw [if_neg hz,if_neg (by show ¬ (M.state=0∧M.left=0);rw [f2];omega)]
 by_cases hz:n=0
 ·rw [if_pos hz] at hq
  exact ⟨_,goN_byte h.h0 h.hs h.hp hx hq (fun _ h'=>by cases h') t,rfl,fun _=>⟨rfl,f5,f6,f1,rfl,f7⟩,fun h'=>by omega⟩
 ·rw [if_neg hz] at hq
  exact ⟨_,goN_byte h.h0 h.hs h.hp hx hq (fun _ _=>f4) t,rfl,fun h'=>by omega,fun _=>⟨f4,f5,f6,f1,f8,f2,f7⟩⟩
theorem Wait.nums {cs:List Ins} {pc s:Nat} {st:List Int} {lit:Bool} (hpc:pc<100000) (hs4:s≤4) (hx:cs[pc]?=some (1,(s:Int),if lit then 1 else 0)):∀ (n:Nat) (m:Mach) (ss:List Int) (pre:List UInt8) (k:Nat) (l:List UInt8),pre.length+(n+1)=s→m.reg=(numL lit pre:Nat)→Wait m pc st ss (n+1) false →
 (l.length<n+1→goN cs k m l=1)∧(n+1≤l.length→∃ q:Mach,goN cs k m l=goN cs 100001 q (l.drop (n+1))∧q.reg=(numL lit (pre++l.take (n+1)):Nat)∧Here q (pc+1) st (upd ss (l.take (n+1))))
 | n,m,ss,pre,k,[],hn,hr,h=>⟨fun _=>goN_wait h.h0 h.hs,fun h'=>by simp at h'⟩
 | 0,m,ss,pre,k,c::t,hn,hr,h=>by
  obtain ⟨q,h1,h2,h3,_⟩:=h.num hpc hs4 hn hr hx k c t;exact ⟨fun h'=>by simp at h',fun _=>⟨q,by simpa using h1,by simpa using h2,by simpa using h3 rfl⟩⟩
 | n+1,m,ss,pre,k,c::t,hn,hr,h=>by
  obtain ⟨q,h1,h2,_,h4⟩:=h.num hpc hs4 hn hr hx k c t;obtain ⟨i1,i2⟩:=Wait.nums hpc hs4 hx n q (upd ss [c]) (pre++[c]) 100001 t (by simp;omega) h2 (h4 (by omega));refine ⟨fun h'=>by rw [h1];exact i1 (by simpa using h'),fun h'=>?_⟩;obtain ⟨q2,j1,j2,j3⟩:=i2 (by simpa using h');refine ⟨q2,by rw [h1,j1];rfl,?_,j3⟩;rw [j2];simp
theorem Wait.last {m m':Mach} {pc:Nat} {st ss:List Int} {x:Ins} {c:UInt8} {p':Nat} (h:Wait m pc st ss 1 false) (h15:x.1≠15) (h1:x.1≠1) (hm:(m.eat (c.toNat:Int)).mid x (c.toNat:Int)=(m',(p':Int))) (hk:m'.state=0) (he:m'=m.eat (c.toNat:Int)) :
 m.byteI x (c.toNat:Int)={ m.eat (c.toNat:Int) with started:=false,pc:=(p':Int) }∧Here { m.eat (c.toNat:Int) with started:=false,pc:=(p':Int) } p' st (upd ss [c]):=by
 have hleft:wrap64 (m.left-1)=0:=by rw [h.hl,w64 (by omega) (by omega)];omega
 have hss:(m.eat (c.toNat:Int)).sums=upd ss [c]:=by show m.sums.map _=_;rw [h.hss];rfl
 constructor
 ·unfold Mach.byteI Mach.take
  rw [if_neg (by simp [h1]),if_neg h15,hm];unfold Mach.done;rw [if_pos ⟨hk,by rw [he];exact hleft⟩,he]
 ·exact ⟨rfl,h.hst,hss,h.h0,rfl,h.he⟩
theorem Wait.matchB {cs:List Ins} {m:Mach} {pc:Nat} {st ss:List Int} {a:Nat} (h:Wait m pc st ss 1 false) (hpc:pc<100000) (hx:cs[pc]?=some (2,(a:Int),0)) (k:Nat) (c:UInt8) (t:List UInt8) :
 (c.toNat≠a→goN cs k m (c::t)=2)∧(c.toNat=a→∃ q:Mach,goN cs k m (c::t)=goN cs 100001 q t∧Here q (pc+1) st (upd ss [c])):=by
 have hpc':(m.eat (c.toNat:Int)).pc=(pc:Int):=h.hp
 constructor
 ·intro hne
  have hq:m.byteI (2,(a:Int),0) (c.toNat:Int)=(m.eat c.toNat).fail 2:=by
   unfold Mach.byteI Mach.take Mach.mid;rw [if_neg (by simp),if_neg (by simp),if_neg (by simp),if_pos rfl,if_neg (by show ¬ (c.toNat:Int)=(a:Int);omega)];unfold Mach.done;rw [if_neg (by show ¬ ((2:Int)=0∧_);omega)]
  rw [goN_byte h.h0 h.hs h.hp hx hq (fun h'=>by cases h') t];exact goN_fail rfl t
 ·intro he
  obtain ⟨j1,j2⟩:=h.last (x:=(2,(a:Int),0)) (c:=c) (p':=pc+1) (m':=m.eat c.toNat) (by simp) (by simp) (by unfold Mach.mid;rw [if_neg (by simp),if_pos rfl,if_pos (by show (c.toNat:Int)=(a:Int);omega),hpc',wpc hpc]) h.h0 rfl;exact ⟨_,goN_byte h.h0 h.hs h.hp hx j1 (fun _ h'=>by cases h') t,j2⟩
theorem Wait.flag {cs:List Ins} {m:Mach} {pc e:Nat} {st ss:List Int} (h:Wait m pc st ss 1 false) (hpc:pc<100000) (hx:cs[pc]?=some (13,(e:Int),0)) (k:Nat) (c:UInt8) (t:List UInt8) :
 (1<c.toNat→goN cs k m (c::t)=4)∧(c.toNat≤1→∃ q:Mach,goN cs k m (c::t)=goN cs 100001 q t∧Here q (if c.toNat=0 then e else pc+1) st (upd ss [c])):=by
 have hpc':(m.eat (c.toNat:Int)).pc=(pc:Int):=h.hp
 constructor
 ·intro hne
  have hq:m.byteI (13,(e:Int),0) (c.toNat:Int)=(m.eat c.toNat).fail 4:=by
   unfold Mach.byteI Mach.take Mach.mid;rw [if_neg (by simp),if_neg (by simp),if_neg (by simp),if_neg (by simp),if_pos rfl,if_pos (by omega)];unfold Mach.done;rw [if_neg (by show ¬ ((2:Int)=0∧_);omega)]
  rw [goN_byte h.h0 h.hs h.hp hx hq (fun h'=>by cases h') t];exact goN_fail rfl t
 ·intro hle
  obtain ⟨j1,j2⟩:=h.last (x:=(13,(e:Int),0)) (c:=c) (p':=if c.toNat=0 then e else pc+1) (m':=m.eat c.toNat) (by simp) (by simp) (by
   unfold Mach.mid;rw [if_neg (by simp),if_neg (by simp),if_pos rfl,if_neg (by omega),hpc',wpc hpc]
   by_cases hz:c.toNat=0
   ·rw [if_pos hz,if_pos (by omega)]
   ·rw [if_neg hz,if_neg (by omega)]) h.h0 rfl
  exact ⟨_,goN_byte h.h0 h.hs h.hp hx j1 (fun _ h'=>by cases h') t,j2⟩
theorem Wait.sumB {cs:List Ins} {m:Mach} {pc s:Nat} {st ss:List Int} (h:Wait m pc st (ss++[(s:Int)]) 1 false) (hpc:pc<100000) (hx:cs[pc]?=some (15,0,0)) (k:Nat) (c:UInt8) (t:List UInt8) :
 (c.toNat≠s→goN cs k m (c::t)=5)∧(c.toNat=s→∃ q:Mach,goN cs k m (c::t)=goN cs 100001 q t∧Here q (pc+1) st (upd ss [c])):=by
 have hlen:¬ m.sums.length=0:=by rw [h.hss];simp
 have hlast:m.sums.getLastD 0=(s:Int):=by rw [h.hss];simp
 constructor
 ·intro hne
  have hq:m.byteI (15,0,0) (c.toNat:Int)=m.fail 5:=by
   unfold Mach.byteI;rw [if_neg (by simp),if_pos rfl,if_neg hlen,hlast,if_neg (by omega)]
  rw [goN_byte h.h0 h.hs h.hp hx hq (fun h'=>by cases h') t];exact goN_fail rfl t
 ·intro he
  have hleft:wrap64 (m.left-1)=0:=by rw [h.hl,w64 (by omega) (by omega)];omega
  have hpc':∀ b:Int,(({ m with sums:=m.sums.dropLast }:Mach).eat b).pc=(pc:Int):=fun _=>h.hp
  have hq:m.byteI (15,0,0) (c.toNat:Int)={ (({ m with sums:=m.sums.dropLast }:Mach).eat c.toNat) with started:=false,pc:=((pc+1:Nat):Int) }:=by
   unfold Mach.byteI Mach.take Mach.mid;rw [if_neg (by simp),if_pos rfl,if_neg hlen,hlast,if_pos (by omega)];rw [if_neg (by simp),if_neg (by simp),if_neg (by simp),if_neg (by simp)];unfold Mach.done;rw [if_pos ⟨h.h0,hleft⟩,hpc',wpc hpc]
  refine ⟨_,goN_byte h.h0 h.hs h.hp hx hq (fun _ h'=>by cases h') t,⟨rfl,h.hst,?_,h.h0,rfl,h.he⟩⟩;show m.sums.dropLast.map _=_
  rw [h.hss];simp [upd]
theorem Wait.untilE {cs:List Ins} {m:Mach} {pc:Nat} {st ss:List Int} {a:UInt8} {e:Bool} (h:Wait m pc st ss 1 e) (hpc:pc<100000) (hx:cs[pc]?=some (16,(a.toNat:Int),0)) (k:Nat) (c:UInt8) (t:List UInt8) :
 (e=true∨c≠a→∃ q:Mach,goN cs k m (c::t)=goN cs 100001 q t∧Wait q pc st (upd ss [c]) 1 (!e&&c==92))∧(e=false→c=a→∃ q:Mach,goN cs k m (c::t)=goN cs 100001 q t∧Here q (pc+1) st (upd ss [c])):=by
 have hpc':(m.eat (c.toNat:Int)).pc=(pc:Int):=h.hp
 have hesc:(m.eat (c.toNat:Int)).escaped=e:=h.he
 have hss:(m.eat (c.toNat:Int)).sums=upd ss [c]:=by show m.sums.map _=_;rw [h.hss];rfl
 have hne:(c.toNat:Int)=(a.toNat:Int)↔c=a:=⟨fun h'=>UInt8.toNat_inj.1 (by omega),fun h'=>by rw [h']⟩
 have h92:((c.toNat:Int)==92)=(c==92):=by
  rw [Bool.eq_iff_iff,beq_iff_eq,beq_iff_eq];exact ⟨fun h'=>UInt8.toNat_inj.1 (by show c.toNat=92;omega),fun h'=>by rw [h'];rfl⟩
 constructor
 ·intro hc
  have hq:m.byteI (16,(a.toNat:Int),0) (c.toNat:Int)={ m.eat c.toNat with left:=1,escaped:=(!e&&c==92) }:=by
   unfold Mach.byteI Mach.take Mach.mid;rw [if_neg (by simp),if_neg (by simp),if_neg (by simp),if_neg (by simp),if_neg (by simp),if_pos rfl,hesc,h92];rw [if_pos (by rcases hc with h' | h';exact .inl h';exact .inr (fun hh=>h' (hne.1 hh)))];unfold Mach.done;rw [if_neg (by simp)]
  exact ⟨_,goN_byte h.h0 h.hs h.hp hx hq (fun _ _=>h.hp) t,⟨h.hp,h.hst,hss,h.h0,h.hs,rfl,rfl⟩⟩
 ·intro he hc
  subst he
  obtain ⟨j1,j2⟩:=h.last (x:=(16,(a.toNat:Int),0)) (c:=c) (p':=pc+1) (m':=m.eat c.toNat) (by simp) (by simp) (by
   unfold Mach.mid;rw [if_neg (by simp),if_neg (by simp),if_neg (by simp),if_pos rfl,hesc,if_neg (by simp [hne.2 hc]),hpc',wpc hpc]) h.h0 rfl
  exact ⟨_,goN_byte h.h0 h.hs h.hp hx j1 (fun _ h'=>by cases h') t,j2⟩
theorem Wait.until {cs:List Ins} {pc:Nat} {st:List Int} {a:UInt8} (hpc:pc<100000) (hx:cs[pc]?=some (16,(a.toNat:Int),0)):∀ (l:List UInt8) (m:Mach) (ss:List Int) (k:Nat),Wait m pc st ss 1 false →
 (untilL a l=none→goN cs k m l=1)∧(∀ q,untilL a l=some q→q.2≤l.length∧∃ m':Mach,goN cs k m l=goN cs 100001 m' (l.drop q.2)∧Here m' (pc+1) st (upd ss (l.take q.2)))
 | [],m,ss,k,h=>⟨fun _=>goN_wait h.h0 h.hs,fun q hq=>by rw [untilL] at hq;cases hq⟩
 | [x],m,ss,k,h=>by
  rw [untilL];obtain ⟨u1,u2⟩:=h.untilE hpc hx k x []
  by_cases hxa:x=a
  ·rw [if_pos hxa]
   refine ⟨fun h'=>(by cases h'),fun q hq=>?_⟩;have hq:=Option.some.inj hq;subst hq;obtain ⟨m',j1,j2⟩:=u2 rfl hxa;exact ⟨by simp,m',j1,j2⟩
  ·rw [if_neg hxa]
   refine ⟨fun _=>?_,fun q hq=>by cases hq⟩;obtain ⟨m',j1,j2⟩:=u1 (.inr hxa);rw [j1];exact goN_wait j2.h0 j2.hs
 | x::y::l,m,ss,k,h=>by
  rw [untilL];obtain ⟨u1,u2⟩:=h.untilE hpc hx k x (y::l)
  by_cases hxa:x=a
  ·rw [if_pos hxa]
   refine ⟨fun h'=>(by cases h'),fun q hq=>?_⟩;have hq:=Option.some.inj hq;subst hq;obtain ⟨m',j1,j2⟩:=u2 rfl hxa;exact ⟨by simp,m',j1,j2⟩
  ·rw [if_neg hxa]
   obtain ⟨m1,j1,j2⟩:=u1 (.inr hxa)
   by_cases h92:x=92
   ·rw [if_pos h92]
    have hesc:(!false&&x==92)=true:=by simp [h92]
    rw [hesc] at j2;obtain ⟨v1,_⟩:=j2.untilE hpc hx 100001 y l;obtain ⟨m2,g1,g2⟩:=v1 (.inl rfl);have g2':Wait m2 pc st (upd (upd ss [x]) [y]) 1 false:=g2
    obtain ⟨r1,r2⟩:=Wait.until hpc hx l m2 _ 100001 g2'
    constructor
    ·intro hn
     rw [j1,g1];exact r1 (by cases hu:untilL a l;rfl;rw [hu] at hn;cases hn)
    ·intro q hq
     cases hu:untilL a l with
     | none=>rw [hu] at hq;cases hq
     | some z =>
      rw [hu] at hq;have hq:=Option.some.inj hq;subst hq;obtain ⟨s1,m',s2,s3⟩:=r2 z hu;exact ⟨by simp;omega,m',by rw [j1,g1,s2];rfl,s3⟩
   ·rw [if_neg h92]
    have hesc:(!false&&x==92)=false:=by simp [h92]
    rw [hesc] at j2;obtain ⟨r1,r2⟩:=Wait.until hpc hx (y::l) m1 _ 100001 j2
    constructor
    ·intro hn
     rw [j1];exact r1 (by cases hu:untilL a (y::l);rfl;rw [hu] at hn;cases hn)
    ·intro q hq
     cases hu:untilL a (y::l) with
     | none=>rw [hu] at hq;cases hq
     | some z =>
      rw [hu] at hq;have hq:=Option.some.inj hq;subst hq;obtain ⟨s1,m',s2,s3⟩:=r2 z hu;exact ⟨by simp at s1 ⊢;omega,m',by rw [j1,s2];rfl,s3⟩
def seg (b:List UInt8) (a c:Nat):List UInt8:=(b.drop a).take (c-a)
theorem seg_app {b:List UInt8} {a c d:Nat} (h1:a≤c) (h2:c≤d):seg b a c++seg b c d=seg b a d:=by
 unfold seg;rw [show d-a=(c-a)+(d-c) by omega,List.take_add,List.drop_drop,show a+(c-a)=c by omega]
theorem seg_nil (b:List UInt8) (a:Nat):seg b a a=[]:=by unfold seg;simp
def startN (ds:List DRule) (i:Nat):Nat:=(compN ds i).1.length
def Out (cs:List Ins) (b:List UInt8) (k:Nat) (m:Mach) (a w:Nat) (R:RR) (pc:Nat) (st ss:List Int) (P:Int→Prop):Prop :=
 (R.code≠0→goN cs k m (b.drop a)=(R.code:Int)) ∧
 (R.code=0→a≤R.next∧R.next≤b.length∧∃ (k':Nat) (m':Mach),goN cs k m (b.drop a)=goN cs k' m' (b.drop R.next)∧100001≤k'+w∧Here m' pc st (upd ss (seg b a R.next))∧P m'.reg)
theorem Out.pre {cs:List Ins} {b:List UInt8} {k k0:Nat} {m m0:Mach} {a w:Nat} {R:RR} {pc:Nat} {st ss:List Int} {P:Int→Prop} (h:Out cs b k0 m0 a w R pc st ss P) (e:goN cs k m (b.drop a)=goN cs k0 m0 (b.drop a)):Out cs b k m a w R pc st ss P:=by
 unfold Out at h ⊢;rw [e];exact h
theorem Out.mono {cs:List Ins} {b:List UInt8} {k:Nat} {m:Mach} {a w w':Nat} {R:RR} {pc:Nat} {st ss:List Int} {P Q:Int→Prop} (h:Out cs b k m a w R pc st ss P) (hw:w≤w') (hP:∀ v,P v→Q v):Out cs b k m a w' R pc st ss Q :=
 ⟨h.1,fun hc=>by
  obtain ⟨h1,h2,k',m',h3,h4,h5,h6⟩:=h.2 hc;exact ⟨h1,h2,k',m',h3,by omega,h5,hP _ h6⟩⟩
theorem Out.bind {cs:List Ins} {b:List UInt8} {k:Nat} {m:Mach} {a w1 w:Nat} {R1 R:RR} {pc1 pc:Nat} {st1 st ss:List Int} {P1 P:Int→Prop} (h:Out cs b k m a w1 R1 pc1 st1 ss P1)
 (hbad:R1.code≠0→R.code=R1.code) (hgood:R1.code=0→a≤R1.next→R1.next≤b.length→∀ (k':Nat) (m':Mach),100001≤k'+w1→Here m' pc1 st1 (upd ss (seg b a R1.next))→P1 m'.reg→Out cs b k' m' R1.next w R pc st (upd ss (seg b a R1.next)) P) :
 Out cs b k m a w R pc st ss P:=by
 by_cases hc:R1.code=0
 ·obtain ⟨h1,h2,k',m',h3,h4,h5,h6⟩:=h.2 hc
  have hg:=hgood hc h1 h2 k' m' h4 h5 h6;refine ⟨fun hr=>by rw [h3];exact hg.1 hr,fun hr=>?_⟩;obtain ⟨g1,g2,k2,m2,g3,g4,g5,g6⟩:=hg.2 hr;refine ⟨by omega,g2,k2,m2,by rw [h3,g3],g4,?_,g6⟩;rw [← seg_app h1 g1,upd_app];exact g5
 ·have he:=hbad hc
  exact ⟨fun hr=>by rw [h.1 hc,he],fun hr=>by rw [he] at hr;exact absurd hr hc⟩
theorem Out.ret {cs:List Ins} {b:List UInt8} {k:Nat} {m:Mach} {a w w':Nat} {R:RR} {pc r:Nat} {st ss:List Int} {P:Int→Prop} (h:Out cs b k m a w R pc (st++[(r:Int)]) ss P) (hx:cs[pc]?=some (10,0,0)) (hw:w+1≤w') (hw2:w≤90000):Out cs b k m a w' R r st ss P :=
 ⟨h.1,fun hc=>by
  obtain ⟨h1,h2,k',m',h3,h4,h5,h6⟩:=h.2 hc;obtain ⟨k2,rfl⟩:∃ k2,k'=k2+1:=⟨k'-1,by omega⟩;obtain ⟨j1,j2⟩:=h5.ret;exact ⟨h1,h2,k2,_,by rw [h3,h5.go hx],by omega,j1,by rw [j2];exact h6⟩⟩
def RunR (ds:List DRule) (cs:List Ins) (b:List UInt8) (rd:Nat→Nat→RR) (j:Nat):Prop :=
 ∀ (a k:Nat) (m:Mach) (ret:Nat) (st ss:List Int),a≤b.length→Here m (startN ds j) (st++[(ret:Int)]) ss→st.length+2*j≤58→ss.length+j≤28→100*(j+1)≤k →
  Out cs b k m a (100*(j+1)) (rd j a) ret st ss (fun v=>(ds.getD j noRule).kind=1→v=(rd j a).v.num)
theorem RunR.call {ds:List DRule} {cs:List Ins} {b:List UInt8} {rd:Nat→Nat→RR} {j:Nat} (h:RunR ds cs b rd j) {a k:Nat} {m:Mach} {pc:Nat} {st ss:List Int} (ha:a≤b.length) (hH:Here m pc st ss) (hx:cs[pc]?=some (9,(startN ds j:Int),0)) (hpc:pc<100000) (hst:st.length+2*j≤58) (hss:ss.length+j≤28) (hk:100*(j+1)+1≤k) :
 Out cs b k m a (100*(j+1)) (rd j a) (pc+1) st ss (fun v=>(ds.getD j noRule).kind=1→v=(rd j a).v.num):=by
 obtain ⟨k2,rfl⟩:∃ k2,k=k2+1:=⟨k-1,by omega⟩;exact (h a k2 _ (pc+1) st ss ha (hH.call (by omega) hpc (startN ds j)) hst hss (by omega)).pre (hH.go hx k2 _)
theorem Out.here {cs:List Ins} {b:List UInt8} {k:Nat} {m:Mach} {a w:Nat} {R:RR} {pc:Nat} {st ss:List Int} {P:Int→Prop} (n:Nat) (hc:R.code=0) (hn:R.next=a+n) (hb:a+n≤b.length) (k':Nat) (m':Mach) (e:goN cs k m (b.drop a)=goN cs k' m' ((b.drop a).drop n)) (hk:100001≤k'+w) (hH:Here m' pc st (upd ss ((b.drop a).take n))) (hP:P m'.reg) :
 Out cs b k m a w R pc st ss P :=
 ⟨fun h=>absurd hc h,fun _=>⟨by omega,by omega,k',m',by rw [e,List.drop_drop,hn],hk,by rw [hn];unfold seg;rw [Nat.add_sub_cancel_left];exact hH,hP⟩⟩
theorem Out.bad {cs:List Ins} {b:List UInt8} {k:Nat} {m:Mach} {a w:Nat} {R:RR} {pc:Nat} {st ss:List Int} {P:Int→Prop} (hc:R.code≠0) (e:goN cs k m (b.drop a)=(R.code:Int)):Out cs b k m a w R pc st ss P:=⟨fun _=>e,fun h=>absurd h hc⟩
structure Lay (ds:List DRule) (cs:List Ins):Prop where
 small:cs.length≤90000
 code:∀ i (hi:i<ds.length) j x,(ruleC ds[i] (startN ds i) (compN ds i).2)[j]?=some x→cs[startN ds i+j]?=some x
 ent:∀ i t,t<i→i≤ds.length→(compN ds i).2.getD t 0=(startN ds t:Int)
theorem Lay.pc {ds:List DRule} {cs:List Ins} (h:Lay ds cs) {pc:Nat} {x:Ins} (hx:cs[pc]?=some x):pc<90000:=by
 obtain ⟨hlt,_⟩:=List.getElem?_eq_some_iff.1 hx;have:=h.small;omega
theorem run_items {ds:List DRule} {cs:List Ins} (hL:Lay ds cs) {b:List UInt8} {rd:Nat→Nat→RR} (r:DRule) (n:Int) {i:Nat} (hi24:i≤24) (st:List Int) (hst:st.length+2*i≤60):∀ (mm k0 pc a:Nat) (acc:List DVal) (k:Nat) (m:Mach) (ss:List Int),
 (∀ t,t<mm→cs[pc+t]?=some (9,(startN ds (kidV r n (k0+t)):Int),0))→(∀ t,t<mm→kidV r n (k0+t)<i∧RunR ds cs b rd (kidV r n (k0+t)))→Here m pc st ss→a≤b.length→ss.length+i≤29→100*i+1≤k→(0<mm∨100001≤k+100*i) →
 Out cs b k m a (100*i) (itemsF rd r n mm k0 a acc) (pc+mm) st ss (fun _=>True)
 | 0,k0,pc,a,acc,k,m,ss,hx,hr,hH,ha,hss,hk,hk2=>by
  have hk3:100001≤k+100*i:=by rcases hk2 with h | h;omega;exact h
  exact Out.here 0 rfl rfl ha k m rfl hk3 hH trivial
 | mm+1,k0,pc,a,acc,k,m,ss,hx,hr,hH,ha,hss,hk,hk2=>by
  have hx0:=hx 0 (by omega);have hr0:=hr 0 (by omega);rw [Nat.add_zero] at hx0 hr0;have hpc:=hL.pc hx0;have h1:=hr0.2.call (k:=k) ha hH hx0 (by omega) (by omega) (by omega) (by omega);refine h1.bind (fun hc=>?_) (fun hc g1 g2 k' m' g3 g4 g5=>?_)
  ·rw [itemsF,if_neg hc];rfl
  ·rw [itemsF,if_pos hc]
   have:=run_items hL r n hi24 st hst mm (k0+1) (pc+1) _ (acc++[(rd (kidV r n k0) a).v]) k' m' _ (fun t ht=>by
    have:=hx (t+1) (by omega);rwa [show pc+(t+1)=pc+1+t by omega,show k0+(t+1)=k0+1+t by omega] at this) (fun t ht=>by
    have:=hr (t+1) (by omega);rwa [show k0+(t+1)=k0+1+t by omega] at this) g4 g2 (by rw [upd_len];exact hss) (by omega) (.inr (by omega))
   rwa [show pc+1+mm=pc+(mm+1) by omega] at this
theorem run_loop {ds:List DRule} {cs:List Ins} (hL:Lay ds cs) {b:List UInt8} {rd:Nat→Nat→RR} (r:DRule) {i j pc:Nat} (hi24:i≤24) (st:List Int) (hst:st.length+2*i≤59) (hkd:∀ t,kidV r 0 t=j) (hji:j<i) (hR:RunR ds cs b rd j)
 (hx0:cs[pc]?=some (7,((pc+3:Nat):Int),0)) (hx1:cs[pc+1]?=some (9,(startN ds j:Int),0)) (hx2:cs[pc+2]?=some (8,(pc:Int),0)):∀ (n k0 a:Nat) (acc:List DVal) (k:Nat) (m:Mach) (ss:List Int),
 n≤40→Here m pc (st++[(n:Int)]) ss→a≤b.length→ss.length+i≤29→100001≤k+100*i+5 →
 Out cs b k m a (100*i+6) (itemsF rd r 0 n k0 a acc) (pc+3) st ss (fun _=>True)
 | 0,k0,a,acc,k,m,ss,hn,hH,ha,hss,hk=>by
  obtain ⟨k2,rfl⟩:∃ k2,k=k2+1:=⟨k-1,by omega⟩;refine Out.pre ?_ (hH.go hx0 k2 _);exact Out.here 0 rfl rfl ha k2 _ rfl (by omega) (hH.loop0 (pc+3)) trivial
 | n+1,k0,a,acc,k,m,ss,hn,hH,ha,hss,hk=>by
  obtain ⟨k2,rfl⟩:∃ k2,k=k2+1:=⟨k-1,by omega⟩;have hp0:=hL.pc hx0;refine Out.pre ?_ (hH.go hx0 k2 _);have h1:=hR.call (k:=k2) ha (hH.loopN (by omega) (by omega) (pc+3)) hx1 (by omega) (by simp;omega) (by omega) (by omega);refine h1.bind (fun hc=>?_) (fun hc g1 g2 k' m' g3 g4 g5=>?_)
  ·rw [itemsF,hkd,if_neg hc];rfl
  ·rw [itemsF,hkd,if_pos hc]
   obtain ⟨k3,rfl⟩:∃ k3,k'=k3+1:=⟨k'-1,by omega⟩;refine Out.pre ?_ (g4.go hx2 k3 _);exact run_loop hL r hi24 st hst hkd hji hR hx0 hx1 hx2 n (k0+1) _ (acc++[(rd j a).v]) k3 _ _ (by omega) (g4.jump pc) g2 (by rw [upd_len];exact hss) (by omega)
theorem run_tags {ds:List DRule} {cs:List Ins} (hL:Lay ds cs) {pc:Nat} {st ss:List Int} {l:List Int} {v:Int} (e:Nat→Nat) (l8:l.length≤8)
 (hx:∀ t (ht:t<l.length),cs[pc+t]?=some (11,l[t],(e t:Int))) (k:Nat) (inp:List UInt8):∀ (t:Nat) (m:Mach),t≤tagN l v→Here m pc st ss→m.reg=v→
  ∃ m',goN cs (k+t) m inp=goN cs k m' inp∧Here m' (pc+t) st ss∧m'.reg=v
 | 0,m,ht,hH,hr=>⟨m,rfl,hH,hr⟩
 | t+1,m,ht,hH,hr=>by
  have htl:t<l.length:=by have:=tagN_le l v;omega
  have hx0:=hx t htl
  have hne:l[t]≠v:=by
   have:=List.not_of_lt_findIdx (p:=(·==v)) (xs:=l) (i:=t) (by unfold tagN at ht;omega)
   simpa using this
  obtain ⟨m',h1,h2,h3⟩:=run_tags hL e l8 hx (k+1) inp t m (by omega) hH hr;obtain ⟨_,u⟩:=h2.tag (by have:=hL.pc hx0;omega) l[t] (e t);obtain ⟨u1,u2⟩:=u (by rw [h3];exact fun hh=>hne hh.symm);exact ⟨_,by rw [show k+(t+1)=k+1+t by omega,h1,h2.go hx0],u1,by rw [u2,h3]⟩
theorem run_int {ds:List DRule} {cs:List Ins} (hL:Lay ds cs) {b:List UInt8} {r:DRule} {a k s:Nat} {m:Mach} {st ss:List Int} (h1:1≤r.size) (h4:r.size≤4) (hx:cs[s]?=some (1,r.size,if r.little then 1 else 0)) (ha:a≤b.length) (hH:Here m s st ss) (hk:1≤k) :
 Out cs b k m a 0 (match intAt r b a with | none=>.bad a 1 | some n=>⟨.mk n [] [],a+r.size.toNat,0⟩) (s+1) st ss (fun v=>v=(match intAt r b a with | none=>RR.bad a 1 | some n=>⟨.mk n [] [],a+r.size.toNat,0⟩).v.num):=by
 obtain ⟨n,hn⟩:∃ n:Nat,r.size.toNat=n+1:=⟨r.size.toNat-1,by omega⟩;have hsz:r.size=((n+1:Nat):Int):=by omega
 obtain ⟨k2,rfl⟩:∃ k2,k=k2+1:=⟨k-1,by omega⟩;have hp:=hL.pc hx;refine Out.pre ?_ (hH.go hx k2 _);rw [step_int,hsz];have hH0:Here ({ m with reg:=0 }:Mach) s st ss:=⟨hH.hp,hH.hst,hH.hss,hH.h0,hH.hs,hH.he⟩
 obtain ⟨w1,w2⟩:=hH0.wait (n+1) (by omega);rw [hsz] at hx;obtain ⟨u1,u2⟩:=Wait.nums (lit:=r.little) (by omega) (by omega) hx n _ ss [] k2 (b.drop a) (by simp) (by rw [w2];show (0:Int)=_;unfold numL;cases r.little<;>rfl) w1;rw [List.length_drop] at u1 u2;unfold intAt;rw [hn]
 by_cases hc:b.length-a<n+1
 ·rw [if_pos hc]
  exact Out.bad (by show (1:Nat)≠0;decide) (u1 hc)
 ·rw [if_neg hc]
  obtain ⟨q,q1,q2,q3⟩:=u2 (by omega);exact Out.here (n+1) rfl rfl (by omega) 100001 q q1 (by omega) q3 q2
theorem run_bytes {ds:List DRule} {cs:List Ins} (hL:Lay ds cs) {b:List UInt8} {x:Ins} {a k s n:Nat} {m:Mach} {st ss:List Int} (hx:cs[s]?=some x) (hp:x.1≠1∧x.1≠2∧x.1≠13∧x.1≠16∧x.1≠15) (ha:a≤b.length) (hH:Here m s st ss) (e:m.step x=m.start (n:Int)) (hn:n<5000000000) {w:Nat} (hk:1≤k) (hk2:0<n∨100001≤k+w) (hw:1≤w) :
 Out cs b k m a (w+1) (bytesF b a n) (s+1) st ss (fun _=>True):=by
 obtain ⟨k2,rfl⟩:∃ k2,k=k2+1:=⟨k-1,by omega⟩;have hpc:=hL.pc hx;refine Out.pre ?_ (hH.go hx k2 _);rw [e];unfold bytesF;rcases Nat.eq_zero_or_pos n with h0 | h0
 ·subst h0
  rw [if_neg (by omega)];obtain ⟨w1,w2⟩:=hH.none (by omega);exact Out.here 0 rfl rfl (by omega) k2 _ rfl (by rcases hk2 with h | h<;>omega) w1 trivial
 ·obtain ⟨n1,rfl⟩:∃ n1,n=n1+1:=⟨n-1,by omega⟩
  obtain ⟨w1,w2⟩:=hH.wait (n1+1) (by omega);obtain ⟨u1,u2⟩:=Wait.skip (by omega) hx hp n1 _ ss k2 (b.drop a) (by omega) w1;rw [List.length_drop] at u1 u2
  by_cases hc:b.length-a<n1+1
  ·rw [if_pos hc]
   exact Out.bad (by show (1:Nat)≠0;decide) (u1 hc)
  ·rw [if_neg hc]
   obtain ⟨q,q1,q2,q3⟩:=u2 (by omega);exact Out.here (n1+1) rfl rfl (by omega) 100001 q q1 (by omega) q3 trivial
theorem run_const {ds:List DRule} {cs:List Ins} (hL:Lay ds cs) {b:List UInt8} {a:Nat} {st:List Int}:∀ (c:List UInt8) (i k s:Nat) (m:Mach) (ss:List Int),(∀ t (ht:t<c.length),cs[s+t]?=some (2,(c[t].toNat:Int),0))→a+i≤b.length→Here m s st ss→1≤k→(0<c.length∨100001≤k+1) →
 ((constF b a c i).code≠0→goN cs k m (b.drop (a+i))=((constF b a c i).code:Int))∧((constF b a c i).code=0→(constF b a c i).next=a+i+c.length∧a+i+c.length≤b.length∧∃ (k':Nat) (m':Mach),goN cs k m (b.drop (a+i))=goN cs k' m' (b.drop (a+i+c.length))∧100001≤k'+1∧Here m' (s+c.length) st (upd ss (seg b (a+i) (a+i+c.length))))
 | [],i,k,s,m,ss,hx,ha,hH,hk,hk2=>by
  rw [constF];refine ⟨fun h=>absurd rfl h,fun _=>⟨rfl,ha,k,m,rfl,by rcases hk2 with h | h;simp at h;exact h,?_⟩⟩;rw [List.length_nil,Nat.add_zero,Nat.add_zero,seg_nil];exact hH
 | x::c,i,k,s,m,ss,hx,ha,hH,hk,hk2=>by
  obtain ⟨k2,rfl⟩:∃ k2,k=k2+1:=⟨k-1,by omega⟩;have hx0:=hx 0 (by simp);rw [Nat.add_zero,List.getElem_cons_zero] at hx0;have hpc:=hL.pc hx0;rw [hH.go hx0 k2,step_match];obtain ⟨w1,_⟩:=hH.wait 1 (by omega);have w1:Wait (m.start 1) _ _ _ _ _:=w1
  rw [constF];cases hb:b[a+i]? with
  | none =>
   have hlen:b.length≤a+i:=List.getElem?_eq_none_iff.1 hb
   refine ⟨fun _=>?_,fun h=>by cases h⟩;rw [List.drop_eq_nil_of_le hlen];exact goN_wait w1.h0 w1.hs
  | some y =>
   obtain ⟨hlt,hy⟩:=List.getElem?_eq_some_iff.1 hb;have hd:b.drop (a+i)=y::b.drop (a+i+1):=by rw [List.drop_eq_getElem_cons hlt,hy]
   obtain ⟨u1,u2⟩:=w1.matchB (by omega) hx0 k2 y (b.drop (a+i+1));rw [hd];dsimp only
   by_cases he:y=x
   ·rw [if_pos he]
    obtain ⟨q,q1,q2⟩:=u2 (by rw [he])
    obtain ⟨v1,v2⟩:=run_const (a:=a) (b:=b) hL c (i+1) 100001 (s+1) q _ (fun t ht=>by
     have:=hx (t+1) (by simp;omega);rw [List.getElem_cons_succ] at this;rwa [show s+(t+1)=s+1+t by omega] at this) (by omega) q2 (by omega) (.inr (by omega))
    rw [show a+(i+1)=a+i+1 by omega] at v1 v2;rw [q1];refine ⟨v1,fun h=>?_⟩;obtain ⟨z1,z2,k',m',z3,z4,z5⟩:=v2 h;rw [List.length_cons,show a+i+(c.length+1)=a+i+1+c.length by omega,show s+(c.length+1)=s+1+c.length by omega];refine ⟨z1,z2,k',m',z3,z4,?_⟩;have hone:seg b (a+i) (a+i+1)=[y]:=by unfold seg;rw [hd];simp
    rw [← seg_app (c:=a+i+1) (by omega) (by omega),upd_app,hone];exact z5
   ·rw [if_neg he]
    exact ⟨fun _=>u1 (fun hh=>he (UInt8.toNat_inj.1 hh)),fun h=>by cases h⟩
theorem run_until {ds:List DRule} {cs:List Ins} (hL:Lay ds cs) {b:List UInt8} {t:UInt8} {a k s:Nat} {m:Mach} {st ss:List Int} (hx:cs[s]?=some (16,(t.toNat:Int),0)) (ha:a≤b.length) (hH:Here m s st ss) (hk:1≤k) :
 Out cs b k m a 0 (match untilL t (b.drop a) with | none=>.bad a 1 | some q=>⟨.mk 0 q.1 [],a+q.2,0⟩) (s+1) st ss (fun _=>True):=by
 obtain ⟨k2,rfl⟩:∃ k2,k=k2+1:=⟨k-1,by omega⟩;have hpc:=hL.pc hx;refine Out.pre ?_ (hH.go hx k2 _);rw [step_until];obtain ⟨w1,_⟩:=hH.wait 1 (by omega);have w1:Wait (m.start 1) _ _ _ _ _:=w1
 obtain ⟨u1,u2⟩:=Wait.until (by omega) hx (b.drop a) _ ss k2 w1;cases hu:untilL t (b.drop a) with
 | none=>exact Out.bad (by show (1:Nat)≠0;decide) (u1 hu)
 | some q =>
  obtain ⟨v1,m',v2,v3⟩:=u2 q hu;rw [List.length_drop] at v1;exact Out.here q.2 rfl rfl (by omega) 100001 m' v2 (by omega) v3 trivial
theorem run_flag {ds:List DRule} {cs:List Ins} (hL:Lay ds cs) {b:List UInt8} {a k s e:Nat} {m:Mach} {st ss:List Int} (hx:cs[s]?=some (13,(e:Int),0)) (ha:a≤b.length) (hH:Here m s st ss) (hk:1≤k) :
 (b[a]?=none→goN cs k m (b.drop a)=1)∧(∀ x,b[a]?=some x→(1<x.toNat→goN cs k m (b.drop a)=4)∧(x.toNat≤1→a+1≤b.length∧∃ q:Mach,goN cs k m (b.drop a)=goN cs 100001 q (b.drop (a+1))∧Here q (if x.toNat=0 then e else s+1) st (upd ss (seg b a (a+1))))):=by
 obtain ⟨k2,rfl⟩:∃ k2,k=k2+1:=⟨k-1,by omega⟩;have hpc:=hL.pc hx;rw [hH.go hx k2,step_flag];obtain ⟨w1,_⟩:=hH.wait 1 (by omega);have w1:Wait (m.start 1) _ _ _ _ _:=w1
 constructor
 ·intro hb
  rw [List.drop_eq_nil_of_le (List.getElem?_eq_none_iff.1 hb)];exact goN_wait w1.h0 w1.hs
 ·intro x hb
  obtain ⟨hlt,hy⟩:=List.getElem?_eq_some_iff.1 hb;have hd:b.drop a=x::b.drop (a+1):=by rw [List.drop_eq_getElem_cons hlt,hy]
  have hone:seg b a (a+1)=[x]:=by unfold seg;rw [hd];simp
  obtain ⟨u1,u2⟩:=w1.flag (by omega) hx k2 x (b.drop (a+1));rw [hd];refine ⟨u1,fun h=>?_⟩;obtain ⟨q,q1,q2⟩:=u2 h;exact ⟨by omega,q,q1,by rw [hone];exact q2⟩
theorem run_sum {ds:List DRule} {cs:List Ins} (hL:Lay ds cs) {b:List UInt8} {a k s n:Nat} {m:Mach} {st ss:List Int} (hx:cs[s]?=some (15,0,0)) (ha:a≤b.length) (hH:Here m s st (ss++[(n:Int)])) (hk:1≤k) :
 (b[a]?=none→goN cs k m (b.drop a)=1)∧(∀ x,b[a]?=some x→(x.toNat≠n→goN cs k m (b.drop a)=5)∧(x.toNat=n→a+1≤b.length∧∃ q:Mach,goN cs k m (b.drop a)=goN cs 100001 q (b.drop (a+1))∧Here q (s+1) st (upd ss (seg b a (a+1))))):=by
 obtain ⟨k2,rfl⟩:∃ k2,k=k2+1:=⟨k-1,by omega⟩;have hpc:=hL.pc hx;rw [hH.go hx k2,step_sum _ (by rw [hH.hss];simp)];obtain ⟨w1,_⟩:=hH.wait 1 (by omega);have w1:Wait (m.start 1) _ _ _ _ _:=w1
 constructor
 ·intro hb
  rw [List.drop_eq_nil_of_le (List.getElem?_eq_none_iff.1 hb)];exact goN_wait w1.h0 w1.hs
 ·intro x hb
  obtain ⟨hlt,hy⟩:=List.getElem?_eq_some_iff.1 hb;have hd:b.drop a=x::b.drop (a+1):=by rw [List.drop_eq_getElem_cons hlt,hy]
  have hone:seg b a (a+1)=[x]:=by unfold seg;rw [hd];simp
  obtain ⟨u1,u2⟩:=w1.sumB (by omega) hx k2 x (b.drop (a+1));rw [hd];refine ⟨u1,fun h=>?_⟩;obtain ⟨q,q1,q2⟩:=u2 h;exact ⟨by omega,q,q1,by rw [hone];exact q2⟩
theorem altsC_at (r:DRule) (es:List Int):∀ k,k≤r.tags.length→(altsC r es k).length=(if k<r.tags.length then 2*k else 2*k-1)∧∀ i,i<k→(altsC r es k)[2*i]?=some (callI r es (i+1))∧(i+1<r.tags.length→(altsC r es k)[2*i+1]?=some (10,0,0))
 | 0,_=>by
  refine ⟨by simp [altsC],fun i hi=>by omega⟩
 | k+1,hk=>by
  obtain ⟨h1,h2⟩:=altsC_at r es k (by omega);rw [if_pos (by omega)] at h1;rw [altsC_succ]
  constructor
  ·rw [List.length_append,h1,List.length_cons]
   by_cases hc:k+1<r.tags.length
   ·rw [if_pos hc,if_pos hc];simp;omega
   ·rw [if_neg hc,if_neg hc];simp;omega
  ·intro i hi
   rcases Nat.lt_or_ge i k with h' | h'
   ·obtain ⟨g1,g2⟩:=h2 i h'
    constructor
    ·rw [List.getElem?_append_left (by omega)];exact g1
    ·intro hh;rw [List.getElem?_append_left (by omega)];exact g2 hh
   ·obtain rfl:i=k:=by omega
    constructor
    ·rw [List.getElem?_append_right (by omega),h1,Nat.sub_self];rfl
    ·intro hh
     rw [List.getElem?_append_right (by omega),h1,if_pos hh,show 2*i+1-2*i=1 by omega];rfl
theorem tagsC_at (r:DRule) (start:Int) (n t:Nat) (ht:t<n):(tagsC r start n)[t]?=some (11,r.tags.getD t 0,start+(r.tags.length:Int)+2+2*(t:Int)):=by
 unfold tagsC;rw [List.getElem?_map,List.getElem?_range ht];rfl
theorem choC_at (r:DRule) (start:Int) (es:List Int) (h1:1≤r.tags.length) :
 (choC r start es++[(10,0,0)])[0]?=some (callI r es 0)∧(∀ t,t<r.tags.length→(choC r start es++[(10,0,0)])[1+t]?=some (11,r.tags.getD t 0,start+(r.tags.length:Int)+2+2*(t:Int)))∧(choC r start es++[(10,0,0)])[1+r.tags.length]?=some (12,3,0) ∧
 (∀ t,t<r.tags.length→(choC r start es++[(10,0,0)])[r.tags.length+2+2*t]?=some (callI r es (t+1))∧(choC r start es++[(10,0,0)])[r.tags.length+2+2*t+1]?=some (10,0,0)):=by
 have hl:=tagsC_len r start r.tags.length;obtain ⟨a1,a2⟩:=altsC_at r es r.tags.length (Nat.le_refl _);rw [if_neg (by omega)] at a1;have e:choC r start es++[(10,0,0)]=callI r es 0::(tagsC r start r.tags.length++((12,3,0)::(altsC r es r.tags.length++[(10,0,0)]))):=by unfold choC;simp
 rw [e];refine ⟨rfl,fun t ht=>?_,?_,fun t ht=>?_⟩
 ·rw [Nat.add_comm 1 t,List.getElem?_cons_succ,List.getElem?_append_left (by omega)]
  exact tagsC_at r start _ t ht
 ·rw [Nat.add_comm 1,List.getElem?_cons_succ,List.getElem?_append_right (by omega),hl,Nat.sub_self];rfl
 ·obtain ⟨b1,b2⟩:=a2 t ht
  constructor
  ·rw [show r.tags.length+2+2*t=(r.tags.length+(2*t+1))+1 by omega,List.getElem?_cons_succ,List.getElem?_append_right (by omega),hl,show r.tags.length+(2*t+1)-r.tags.length=2*t+1 by omega,List.getElem?_cons_succ,List.getElem?_append_left (by omega)]
   exact b1
  ·rw [show r.tags.length+2+2*t+1=(r.tags.length+(2*t+2))+1 by omega,List.getElem?_cons_succ,List.getElem?_append_right (by omega),hl,show r.tags.length+(2*t+2)-r.tags.length=(2*t+1)+1 by omega,List.getElem?_cons_succ]
   by_cases hc:t+1<r.tags.length
   ·rw [List.getElem?_append_left (by omega)];exact b2 hc
   ·rw [List.getElem?_append_right (by omega),a1,show 2*t+1-(2*r.tags.length-1)=0 by omega];rfl
theorem getD_rule {ds:List DRule} {i:Nat} (hi:i<ds.length):ds.getD i noRule=ds[i]:=by rw [List.getD_eq_getElem?_getD,List.getElem?_eq_getElem hi];rfl
theorem intAt_ltP {r:DRule} {b:List UInt8} {a n:Nat} (h:intAt r b a=some n):n<256^r.size.toNat:=by
 unfold intAt at h
 split at h
 ·cases h
 ·rename_i hc
  injection h with h
  rw [← h,numL_decI]
  have:=numL_lt r.little ((b.drop a).take r.size.toNat)
  rwa [List.length_take,List.length_drop,Nat.min_eq_left (by omega)] at this
theorem run_one {ds:List DRule} {cs:List Ins} (hd:descOk ds=true) (hL:Lay ds cs) (b:List UInt8) (hb:b.length≤400) (rd:Nat→Nat→RR) (i:Nat) (hi:i<ds.length) (h24:ds.length≤24) (IH:∀ j,j<i→RunR ds cs b rd j)
 (hI:∀ j a,j<i→(ds.getD j noRule).kind=1→rd j a=match intAt (ds.getD j noRule) b a with | none=>.bad a 1 | some n=>⟨.mk n [] [],a+(ds.getD j noRule).size.toNat,0⟩)
 (a k:Nat) (m:Mach) (ret:Nat) (st ss:List Int) (ha:a≤b.length) (hH:Here m (startN ds i) (st++[(ret:Int)]) ss) (hst:st.length+2*i≤58) (hss:ss.length+i≤28) (hk:100*(i+1)≤k) :
 Out cs b k m a (100*(i+1)) (readR ds rd ds[i] b a) ret st ss (fun v=>ds[i].kind=1→v=(readR ds rd ds[i] b a).v.num):=by
 have hcode:=hL.code i hi;have hent:=fun t (ht:t<i)=>hL.ent i t ht (by omega)
 have hkind:=(ruleFacts hd i hi).kind;obtain ⟨kl4,kl5,kl6,kl7,kl8,kl1,kl3⟩:=kids_len hd i hi;have hkd:=kd_lt hd i hi;have hK:=ruleKind hd i hi
 have hcall:∀ t,t<ds[i].kids.length→callI ds[i] (compN ds i).2 t=(9,(startN ds (kd ds[i] t):Int),0):=fun t ht=>by
  unfold callI;rw [hent _ (hkd t ht)]
 have hstl:(st++[(ret:Int)]).length=st.length+1:=by simp
 have k0:=kid0 hd i hi;generalize hs0:startN ds i=s at *;generalize hes:(compN ds i).2=es at *;generalize hr0:ds[i]=r at *
 by_cases c1:r.kind=1
 ·have hbody:ruleC r (s:Int) es=[(1,r.size,if r.little then 1 else 0),(10,0,0)]:=by unfold ruleC bodyC;rw [if_pos c1];rfl
  obtain ⟨z1,z4⟩:=kl1 c1;have x0:=hcode 0 _ (by rw [hbody];rfl);have x1:=hcode 1 _ (by rw [hbody];rfl);rw [Nat.add_zero] at x0
  have:=run_int hL z1 z4 x0 ha hH (by omega) (b:=b) (k:=k);unfold readR;rw [if_pos c1];exact (this.mono (Nat.le_refl _) (fun v hv _=>hv)).ret x1 (by omega) (by omega)
 have hP:∀ v:Int,True→(r.kind=1→v=(readR ds rd r b a).v.num):=fun v _ h=>absurd h c1
 by_cases c2:r.kind=2
 ·have hbody:ruleC r (s:Int) es=(r.bytes.map fun b=>(2,(b.toNat:Int),0))++[(10,0,0)]:=by unfold ruleC bodyC;rw [if_neg c1,if_pos c2]
  have hlen:1≤r.bytes.length:=by
   unfold kindOk at hK;rw [if_neg c1,if_pos c2] at hK;simp only [Bool.and_eq_true,between_iff] at hK
   omega
  have x0:∀ t (ht:t<r.bytes.length),cs[s+t]?=some (2,(r.bytes[t].toNat:Int),0):=fun t ht=>hcode t _ (by rw [hbody,List.getElem?_append_left (by simpa using ht),List.getElem?_map,List.getElem?_eq_getElem ht];rfl)
  have x1:=hcode r.bytes.length (10,0,0) (by rw [hbody,List.getElem?_append_right (by simp)];simp);have e:readR ds rd r b a=constF b a r.bytes 0:=by unfold readR;rw [if_neg c1,if_pos c2]
  obtain ⟨v1,v2⟩:=run_const (a:=a) hL (b:=b) r.bytes 0 k s m ss x0 ha hH (by omega) (.inl (by omega));rw [Nat.add_zero] at v1 v2
  have hO:Out cs b k m a 1 (constF b a r.bytes 0) (s+r.bytes.length) (st++[(ret:Int)]) ss (fun _=>True) :=
   ⟨v1,fun hc=>by
    obtain ⟨n1,n2,k',m',n3,n4,n5⟩:=v2 hc;exact ⟨by omega,by omega,k',m',by rw [n1];exact n3,n4,by rw [n1];exact n5,trivial⟩⟩
  rw [e] at hP ⊢;exact (hO.mono (Nat.le_refl _) hP).ret x1 (by omega) (by omega)
 by_cases c3:r.kind=3
 ·have hbody:ruleC r (s:Int) es=[(3,r.size,0),(10,0,0)]:=by unfold ruleC bodyC;rw [if_neg c1,if_neg c2,if_pos c3];rfl
  obtain ⟨z1,z2⟩:=kl3 c3;have hsz:r.size=(r.size.toNat:Int):=by omega
  have x0:=hcode 0 _ (by rw [hbody];rfl);have x1:=hcode 1 _ (by rw [hbody];rfl);rw [Nat.add_zero] at x0;have e:readR ds rd r b a=bytesF b a r.size.toNat:=by unfold readR;rw [if_neg c1,if_neg c2,if_pos c3]
  have:=run_bytes hL x0 (by simp) ha hH (n:=r.size.toNat) (by rw [step_skip,← hsz]) (by omega) (w:=1) (k:=k) (by omega) (.inl (by omega)) (by omega) (b:=b);rw [e] at hP ⊢;exact (this.mono (Nat.le_refl _) hP).ret x1 (by omega) (by omega)
 by_cases c10:r.kind=10
 ·have hbody:ruleC r (s:Int) es=[(16,((r.bytes.getD 0 0).toNat:Int),0),(10,0,0)]:=by
   unfold ruleC bodyC;rw [if_neg c1,if_neg c2,if_neg c3,if_neg (by omega),if_neg (by omega),if_neg (by omega),if_neg (by omega),if_neg (by omega),if_neg (by omega)];rfl
  have x0:=hcode 0 _ (by rw [hbody];rfl);have x1:=hcode 1 _ (by rw [hbody];rfl);rw [Nat.add_zero] at x0
  have:=run_until hL x0 ha hH (k:=k) (by omega) (b:=b);have e:readR ds rd r b a=(match untilL (r.bytes.getD 0 0) (b.drop a) with | none=>.bad a 1 | some q=>⟨.mk 0 q.1 [],a+q.2,0⟩):=by unfold readR;rw [if_neg c1,if_neg c2,if_neg c3,if_pos c10];cases untilL (r.bytes.getD 0 0) (b.drop a)<;>rfl
  rw [e] at hP ⊢;exact (this.mono (Nat.le_refl _) hP).ret x1 (by omega) (by omega)
 by_cases c6:r.kind=6
 ·have hbody:ruleC r (s:Int) es=(List.range r.kids.length).map (callI r es)++[(10,0,0)]:=by
   unfold ruleC bodyC;rw [if_neg c1,if_neg c2,if_neg c3,if_neg (by omega),if_neg (by omega),if_pos c6]
  have hlen:1≤r.kids.length:=by
   unfold kindOk at hK;rw [if_neg c1,if_neg c2,if_neg c3,if_neg (by omega),if_neg (by omega),if_pos c6] at hK;unfold seqOk at hK;simp only [Bool.and_eq_true,between_iff] at hK
   omega
  have hkv:∀ t,kidV r 0 t=kd r t:=fun t=>by unfold kidV;rw [if_neg (by omega),if_pos c6]
  have x0:∀ t,t<r.kids.length→cs[s+t]?=some (9,(startN ds (kidV r 0 (0+t)):Int),0):=fun t ht=>by
   have:=hcode t _ (by rw [hbody,List.getElem?_append_left (by simpa using ht),List.getElem?_map,List.getElem?_range ht];rfl);rw [hcall t ht] at this;rw [Nat.zero_add,hkv];exact this
  have x1:=hcode r.kids.length (10,0,0) (by rw [hbody,List.getElem?_append_right (by simp)];simp)
  have:=run_items hL r 0 (i:=i) (by omega) (st++[(ret:Int)]) (by omega) r.kids.length 0 s a [] k m ss x0 (fun t ht=>⟨by rw [Nat.zero_add,hkv];exact hkd t ht,by rw [Nat.zero_add,hkv];exact IH _ (hkd t ht)⟩) hH ha (by omega) (by omega) (.inl (by omega));have e:readR ds rd r b a=itemsF rd r 0 r.kids.length 0 a []:=by unfold readR;rw [if_neg c1,if_neg c2,if_neg c3,if_neg c10,if_pos c6]
  rw [e] at hP ⊢;exact (this.mono (Nat.le_refl _) hP).ret x1 (by omega) (by omega)
 by_cases c8:r.kind=8
 ·have hbody:ruleC r (s:Int) es=[(13,(s:Int)+2,0),callI r es 0,(10,0,0)]:=by
   unfold ruleC bodyC;rw [if_neg c1,if_neg c2,if_neg c3,if_neg (by omega),if_neg (by omega),if_neg c6,if_neg (by omega),if_pos c8];rfl
  have hl:=kl8 (.inl c8);have x0:=hcode 0 _ (by rw [hbody];rfl);have x1:=hcode 1 _ (by rw [hbody];rfl);have x2:=hcode 2 _ (by rw [hbody];rfl);rw [Nat.add_zero] at x0;rw [hcall 0 (by omega)] at x1;have hkv:kidV r 0 0=kd r 0:=by unfold kidV;rw [if_neg (by omega),if_neg c6,if_neg (by omega)]
  have e:readR ds rd r b a=optionF rd r b a:=by unfold readR;rw [if_neg c1,if_neg c2,if_neg c3,if_neg c10,if_neg c6,if_neg (by omega),if_pos c8]
  rw [e] at hP ⊢;obtain ⟨f1,f2⟩:=run_flag hL (e:=s+2) (by rw [x0];simp) ha hH (k:=k) (by omega) (b:=b);refine Out.ret (w:=100*i) (pc:=s+2) (Out.mono ?_ (Nat.le_refl _) hP) x2 (by omega) (by omega);unfold optionF;cases hx:b[a]? with
  | none=>exact Out.bad (by show (1:Nat)≠0;decide) (f1 hx)
  | some x =>
   obtain ⟨g1,g2⟩:=f2 x hx;dsimp only
   by_cases hx1:1<x.toNat
   ·rw [if_pos hx1];exact Out.bad (by show (4:Nat)≠0;decide) (g1 hx1)
   ·rw [if_neg hx1]
    obtain ⟨g3,q,g4,g5⟩:=g2 (by omega)
    by_cases hz:x.toNat=0
    ·rw [if_pos hz] at g5
     rw [hz];refine ⟨fun h=>absurd rfl h,fun _=>⟨?_,?_,100001,q,?_,by omega,?_,trivial⟩⟩
     ·show a≤a+1;omega
     ·exact g3
     ·exact g4
     ·exact g5
    ·rw [if_neg hz] at g5
     rw [show x.toNat=1 by omega]
     have hi1:=run_items hL r 0 (i:=i) (by omega) (st++[(ret:Int)]) (by omega) 1 0 (s+1) (a+1) [] 100001 q _ (fun t ht=>by
      obtain rfl:t=0:=by omega
      rw [Nat.add_zero,Nat.add_zero,hkv];exact x1) (fun t ht=>by
      obtain rfl:t=0:=by omega
      rw [Nat.add_zero,hkv];exact ⟨hkd 0 (by omega),IH _ (hkd 0 (by omega))⟩) g5 g3 (by rw [upd_len];omega) (by omega) (.inl (by omega))
     refine Out.bind (R1:=⟨v0,a+1,0⟩) (pc1:=s+1) (st1:=st++[(ret:Int)]) (w1:=0) (P1:=fun _=>True) ⟨fun h=>absurd rfl h,fun _=>⟨by show a≤a+1;omega,g3,100001,q,g4,by omega,g5,trivial⟩⟩ (fun h=>absurd rfl h) (fun _ _ _ k' m' h1 h2 _=>?_)
     exact run_items hL r 0 (i:=i) (by omega) (st++[(ret:Int)]) (by omega) 1 0 (s+1) (a+1) [] k' m' _ (fun t ht=>by
      obtain rfl:t=0:=by omega
      rw [Nat.add_zero,Nat.add_zero,hkv];exact x1) (fun t ht=>by
      obtain rfl:t=0:=by omega
      rw [Nat.add_zero,hkv];exact ⟨hkd 0 (by omega),IH _ (hkd 0 (by omega))⟩) h2 g3 (by rw [upd_len];omega) (by omega) (.inl (by omega))
 by_cases c9:r.kind=9
 ·have hbody:ruleC r (s:Int) es=[(14,0,0),callI r es 0,(15,0,0),(10,0,0)]:=by
   unfold ruleC bodyC;rw [if_neg c1,if_neg c2,if_neg c3,if_neg (by omega),if_neg (by omega),if_neg c6,if_neg (by omega),if_neg c8,if_pos c9];rfl
  have hl:=kl8 (.inr c9);have x0:=hcode 0 _ (by rw [hbody];rfl);have x1:=hcode 1 _ (by rw [hbody];rfl);have x2:=hcode 2 _ (by rw [hbody];rfl);have x3:=hcode 3 _ (by rw [hbody];rfl);rw [Nat.add_zero] at x0;rw [hcall 0 (by omega)] at x1;have hkv:kidV r 0 0=kd r 0:=by unfold kidV;rw [if_neg (by omega),if_neg c6,if_neg (by omega)]
  have e:readR ds rd r b a=checkedF rd r b a:=by unfold readR;rw [if_neg c1,if_neg c2,if_neg c3,if_neg c10,if_neg c6,if_neg (by omega),if_neg c8,if_pos c9]
  rw [e] at hP ⊢;refine Out.ret (w:=100*i) (pc:=s+3) (Out.mono ?_ (Nat.le_refl _) hP) x3 (by omega) (by omega);have hp0:=hL.pc x0;have hkk:=hkd 0 (by omega);obtain ⟨k2,rfl⟩:∃ k2,k=k2+1:=⟨k-1,by omega⟩;refine Out.pre ?_ (hH.go x0 k2 _)
  have h1 := run_items hL r 0 (i := i) (by omega) (st ++ [(ret : Int)]) (by omega) 1 0 (s + 1) a [] k2 _ (ss ++ [0]) (fun t ht => by
          obtain rfl:t=0:=by omega
          rw [Nat.add_zero,Nat.add_zero,hkv];exact x1) (fun t ht=>by
          obtain rfl:t=0:=by omega
          rw [Nat.add_zero,hkv];exact ⟨hkk,IH _ hkk⟩) (hH.mark (by omega) (by omega)) ha (by simp;omega) (by omega) (.inl (by omega))
  unfold checkedF;generalize itemsF rd r 0 1 0 a []=R1 at *
  by_cases hc:R1.code=0
  ·rw [if_pos hc]
   obtain ⟨g1,g2,k',m',g3,g4,g5,_⟩:=h1.2 hc;rw [upd_snoc] at g5
   have hsum:(seg b a R1.next).foldl (fun s x=>sumUp s (x.toNat:Int)) 0=((sumB (seg b a R1.next)%256:Nat):Int):=by
    have:=sum_fold (seg b a R1.next) 0;rw [Nat.zero_add] at this;exact this
   rw [hsum] at g5;obtain ⟨f1,f2⟩:=run_sum hL x2 g2 g5 (k:=k') (by omega) (b:=b);cases hx:b[R1.next]? with
   | none=>exact Out.bad (by show (1:Nat)≠0;decide) (by rw [g3];exact f1 hx)
   | some x =>
    obtain ⟨p1,p2⟩:=f2 x hx;dsimp only
    by_cases hq:x.toNat=sumB (seg b a R1.next)%256
    ·rw [if_pos (show x.toNat=sumB ((b.drop a).take (R1.next-a))%256 from hq)]
     obtain ⟨p3,q,p4,p5⟩:=p2 hq;refine ⟨fun h=>absurd rfl h,fun _=>⟨?_,?_,100001,q,?_,by omega,?_,trivial⟩⟩
     ·show a≤R1.next+1;omega
     ·exact p3
     ·rw [g3];exact p4
     ·show Here q (s+3) _ (upd ss (seg b a (R1.next+1)))
      rw [← seg_app g1 (Nat.le_succ _),upd_app];exact p5
    ·rw [if_neg (show ¬ x.toNat=sumB ((b.drop a).take (R1.next-a))%256 from hq)]
     exact Out.bad (by show (5:Nat)≠0;decide) (by rw [g3];exact p1 hq)
  ·rw [if_neg hc]
   exact Out.bad hc (h1.1 hc)
 -- the kinds that read a number first
 have h457:r.kind=4∨r.kind=5∨r.kind=7:=by omega
 obtain ⟨q0,q1,q2,q3,q4,q5,_⟩:=k0 h457;have hgD:ds.getD (kd r 0) noRule=ds[kd r 0]:=getD_rule q0
 have hnum:=fun a'=>hI (kd r 0) a' q1 (by rw [hgD];exact q3)
 have hRI:=IH (kd r 0) q1;have hcall0:=hcall 0 q2
 have hint:∀ (x0:cs[s]?=some (9,(startN ds (kd r 0):Int),0)),Out cs b k m a (100*i) (rd (kd r 0) a) (s+1) (st++[(ret:Int)]) ss (fun v=>v=(rd (kd r 0) a).v.num):=fun x0 =>
  (hRI.call (k:=k) ha hH x0 (by have:=hL.pc x0;omega) (by omega) (by omega) (by omega)).mono (by omega) (fun v hv=>hv (by rw [hgD];exact q3))
 rw [hnum a] at hint;rw [hgD] at hint
 by_cases c4:r.kind=4
 ·have hbody:ruleC r (s:Int) es=[callI r es 0,(4,0,0),(10,0,0)]:=by
   unfold ruleC bodyC;rw [if_neg c1,if_neg c2,if_neg c3,if_pos c4];rfl
  have x0:=hcode 0 _ (by rw [hbody];rfl);have x1:=hcode 1 _ (by rw [hbody];rfl);have x2:=hcode 2 _ (by rw [hbody];rfl);rw [Nat.add_zero,hcall0] at x0
  have e:readR ds rd r b a=(match intAt ds[kd r 0] b a with | none=>.bad a 1 | some n=>bytesF b (a+ds[kd r 0].size.toNat) n):=by
   unfold readR;rw [if_neg c1,if_neg c2,if_neg c3,if_neg c10,if_neg c6,if_neg (by omega),if_neg c8,if_neg c9,hgD];cases intAt ds[kd r 0] b a with
   | none=>rfl
   | some n=>dsimp only;rw [if_pos c4]
  rw [e] at hP ⊢;refine Out.ret (w:=100*i+10) (pc:=s+2) (Out.mono ?_ (Nat.le_refl _) hP) x2 (by omega) (by omega);have h1:=hint x0;cases hn:intAt ds[kd r 0] b a with
  | none=>rw [hn] at h1;exact ⟨h1.1,fun h=>by cases h⟩
  | some n =>
   rw [hn] at h1;refine h1.bind (fun h=>absurd rfl h) (fun _ g1 g2 k' m' g3 g4 g5=>?_)
   have hbig:n<5000000000:=by
    have h4:=intAt_ltP hn;have h5:256^ds[kd r 0].size.toNat≤256^4:=Nat.pow_le_pow_right (by omega) (by omega)
    omega
   exact (run_bytes hL x1 (by simp) g2 g4 (n:=n) (by rw [step_skipR,g5];rfl) hbig (w:=100*i+1) (by omega) (.inr (by omega)) (by omega)).mono (by omega) (fun _ h=>h)
 by_cases c5:r.kind=5
 ·have hbody:ruleC r (s:Int) es=[callI r es 0,(5,40,0),(6,0,0),(7,(s:Int)+6,0),callI r es 1,(8,(s:Int)+3,0),(10,0,0)]:=by
   unfold ruleC bodyC;rw [if_neg c1,if_neg c2,if_neg c3,if_neg c4,if_pos c5];rfl
  have hl5:=(kl5 c5).1;have hk1:=hkd 1 (by omega);have x0:=hcode 0 _ (by rw [hbody];rfl);have x1:=hcode 1 _ (by rw [hbody];rfl);have x2:=hcode 2 _ (by rw [hbody];rfl);have x3:=hcode 3 _ (by rw [hbody];rfl);have x4:=hcode 4 _ (by rw [hbody];rfl);have x5:=hcode 5 _ (by rw [hbody];rfl);have x6:=hcode 6 _ (by rw [hbody];rfl);rw [Nat.add_zero,hcall0] at x0;rw [hcall 1 (by omega)] at x4
  have e:readR ds rd r b a=(match intAt ds[kd r 0] b a with | none=>.bad a 1 | some n=>if 40<n then .bad a 6 else itemsF rd r 0 n 0 (a+ds[kd r 0].size.toNat) []):=by
   unfold readR;rw [if_neg c1,if_neg c2,if_neg c3,if_neg c10,if_neg c6,if_neg (by omega),if_neg c8,if_neg c9,hgD];cases intAt ds[kd r 0] b a with
   | none=>rfl
   | some n=>dsimp only;rw [if_neg c4]
  rw [e] at hP ⊢;refine Out.ret (w:=100*i+10) (pc:=s+6) (Out.mono ?_ (Nat.le_refl _) hP) x6 (by omega) (by omega);have h1:=hint x0;cases hn:intAt ds[kd r 0] b a with
  | none=>rw [hn] at h1;exact ⟨h1.1,fun h=>by cases h⟩
  | some n =>
   rw [hn] at h1;dsimp only;refine h1.bind (fun h=>absurd rfl h) (fun _ g1 g2 k' m' g3 g4 g5=>?_);have hp1:=hL.pc x1;obtain ⟨k3,rfl⟩:∃ k3,k'=k3+2:=⟨k'-2,by omega⟩;obtain ⟨l1,l2⟩:=g4.limit (by omega) 40;have g5':m'.reg=(n:Int):=g5
   by_cases h40:40<n
   ·rw [if_pos h40]
    obtain ⟨y1,y2⟩:=l1 (by rw [g5'];omega);exact Out.bad (by show (6:Nat)≠0;decide) (by rw [g4.go x1 (k3+1),goN_fail y1,y2];rfl)
   ·rw [if_neg h40]
    obtain ⟨y1,y2⟩:=l2 (by rw [g5'];omega);have y3:=y1.pushR (by simp;omega) (by omega);rw [y2,g5'] at y3;refine Out.pre ?_ (g4.go x1 (k3+1) _);refine Out.pre ?_ (y1.go x2 k3 _);exact (run_loop hL r (i:=i) (j:=kd r 1) (pc:=s+3) (by omega) (st++[(ret:Int)]) (by omega) (fun t=>by unfold kidV;rw [if_pos c5]) hk1 (IH _ hk1) (by rw [x3];simp;omega) x4 (by rw [x5];simp) n 0 _ [] k3 _ _ (by omega) y3 g2 (by rw [upd_len];omega) (by omega)).mono (by omega) (fun _ h=>h)
 have c7:r.kind=7:=by omega
 have hbody:ruleC r (s:Int) es=choC r (s:Int) es++[(10,0,0)]:=by
  unfold ruleC bodyC;rw [if_neg c1,if_neg c2,if_neg c3,if_neg c4,if_neg c5,if_neg c6,if_pos c7]
 have hl7:=(kl7 c7).1
 have htl:1≤r.tags.length∧r.tags.length≤8:=by
  unfold kindOk at hK;rw [if_neg c1,if_neg c2,if_neg c3,if_neg c4,if_neg c5,if_neg c6,if_pos c7] at hK;unfold choOk at hK;simp only [Bool.and_eq_true,between_iff] at hK
  omega
 obtain ⟨w0,w1,w2,w3⟩:=choC_at r (s:Int) es htl.1;have x0:=hcode 0 _ (by rw [hbody];exact w0);rw [Nat.add_zero,hcall0] at x0
 have xt:∀ t (ht:t<r.tags.length),cs[s+1+t]?=some (11,r.tags[t],((s+r.tags.length+2+2*t:Nat):Int)):=fun t ht=>by
  have:=hcode (1+t) _ (by rw [hbody];exact w1 t ht);rw [show s+1+t=s+(1+t) by omega,this,List.getD_eq_getElem?_getD,List.getElem?_eq_getElem ht];simp
 have xf:=hcode (1+r.tags.length) _ (by rw [hbody];exact w2)
 have xa:∀ t,t<r.tags.length→cs[s+r.tags.length+2+2*t]?=some (9,(startN ds (kd r (t+1)):Int),0)∧cs[s+r.tags.length+2+2*t+1]?=some (10,0,0):=fun t ht=>by
  have h1:=hcode _ _ (by rw [hbody];exact (w3 t ht).1);have h2:=hcode _ _ (by rw [hbody];exact (w3 t ht).2);rw [hcall (t+1) (by omega)] at h1;exact ⟨by rw [← h1];congr 1;omega,by rw [← h2];congr 1;omega⟩
 have e:readR ds rd r b a=choiceF ds rd r b a:=by unfold readR;rw [if_neg c1,if_neg c2,if_neg c3,if_neg c10,if_neg c6,if_pos c7]
 rw [e] at hP ⊢;have h1:=hint x0;unfold choiceF at hP ⊢;rw [hgD] at hP ⊢;cases hn:intAt ds[kd r 0] b a with
 | none=>rw [hn] at h1;exact ⟨h1.1,fun h=>by cases h⟩
 | some n =>
  rw [hn] at h1 hP;dsimp only at hP ⊢;refine h1.bind (fun h=>absurd rfl h) (fun _ g1 g2 k' m' g3 g4 g5=>?_);have g5':m'.reg=(n:Int):=g5
  have htn:=tagN_le r.tags (n:Int);obtain ⟨k3,hk3⟩:∃ k3,k'=k3+1+tagN r.tags (n:Int):=⟨k'-1-tagN r.tags (n:Int),by omega⟩;subst hk3;obtain ⟨m2,t1,t2,t3⟩:=run_tags hL (pc:=s+1) (l:=r.tags) (v:=(n:Int)) (fun t=>s+r.tags.length+2+2*t) htl.2 xt (k3+1) (b.drop (a+ds[kd r 0].size.toNat)) (tagN r.tags (n:Int)) m' (Nat.le_refl _) g4 g5'
  by_cases hlt:tagN r.tags (n:Int)<r.tags.length
  ·rw [if_pos hlt] at hP ⊢
   generalize hz:tagN r.tags (n:Int)=z at *;obtain ⟨ya,yb⟩:=xa z hlt;have xz:=xt z hlt
   have hreg:m2.reg=r.tags[z]:=by
    have:=tagN_get (l:=r.tags) (t:=(n:Int)) (by rw [hz];exact hlt);rw [hz,List.getD_eq_getElem?_getD,List.getElem?_eq_getElem hlt] at this;rw [t3];exact this.symm
   have hkz:=hkd (z+1) (by omega);have hkv:kidV r (n:Int) 0=kd r (z+1):=by unfold kidV;rw [if_neg c5,if_neg c6,if_pos c7,hz]
   have u:=(t2.tag (by have:=hL.pc xz;omega) r.tags[z] (s+r.tags.length+2+2*z)).1 hreg;refine Out.ret (w:=100*i) (pc:=s+r.tags.length+2+2*z+1) (Out.mono ?_ (Nat.le_refl _) hP) yb (by omega) (by omega);refine Out.pre ?_ (t1.trans (t2.go xz k3 _))
   have hit := run_items hL r (n : Int) (i := i) (by omega) (st ++ [(ret : Int)]) (by omega) 1 0 (s + r.tags.length + 2 + 2 * z) (a + ds[kd r 0].size.toNat) [] k3 _ _ (fun t ht => by
         obtain rfl:t=0:=by omega
         rw [Nat.add_zero,Nat.add_zero,hkv];exact ya) (fun t ht=>by
         obtain rfl:t=0:=by omega
         rw [Nat.add_zero,hkv];exact ⟨hkz,IH _ hkz⟩) u g2 (by rw [upd_len];omega) (by omega) (.inl (by omega))
   generalize itemsF rd r (n:Int) 1 0 (a+ds[kd r 0].size.toNat) []=R1 at *
   by_cases hc:R1.code=0
   ·rw [if_pos hc]
    exact ⟨fun h=>absurd rfl h,fun _=>hit.2 hc⟩
   ·rw [if_neg hc]
    exact hit
  ·rw [if_neg hlt] at hP ⊢
   have hz:tagN r.tags (n:Int)=r.tags.length:=by omega
   rw [hz] at t2;have y:=t2.failing 3;refine Out.bad (by show (3:Nat)≠0;decide) ?_;show goN cs _ m' (b.drop (a+ds[kd r 0].size.toNat))=_
   rw [t1,t2.go (x:=(12,3,0)) (by rw [← xf];congr 1;omega) k3,goN_fail y.1,y.2];rfl
theorem run_rule {ds:List DRule} {cs:List Ins} (hd:descOk ds=true) (hL:Lay ds cs) (b:List UInt8) (hb:b.length≤400) (h24:ds.length≤24):∀ f i,i<f→i<ds.length→RunR ds cs b (rdF ds b f) i
 | 0,i,h,_=>by omega
 | f+1,i,h,hi=>by
  intro a k m ret st ss ha hH hst hss hk;rw [rdF,getD_rule hi]
  exact run_one hd hL b hb (rdF ds b f) i hi h24 (fun j hj=>run_rule hd hL b hb h24 f j (by omega) (by omega)) (fun j a' hj hk1=>by
   obtain ⟨f',rfl⟩:∃ f',f=f'+1:=⟨f-1,by omega⟩;rw [rdF];unfold readR;rw [if_pos hk1];cases intAt (ds.getD j noRule) b a'<;>rfl) a k m ret st ss ha hH hst hss hk
theorem startN_ge (ds:List DRule):∀ i,2≤startN ds i
 | 0=>Nat.le_refl 2
 | i+1=>by have:=startN_ge ds i;unfold startN at this ⊢;rw [compN,List.length_append];omega
theorem compN_es (ds:List DRule):∀ k,(compN ds k).2=(List.range k).map (fun i=>(startN ds i:Int))
 | 0=>rfl
 | k+1=>by rw [compN,compN_es ds k,List.range_succ,List.map_append];rfl
theorem compN_pre (ds:List DRule) (i:Nat):∀ k,i≤k→∃ t,(compN ds k).1=(compN ds i).1++t
 | 0,h=>⟨[],by rw [show i=0 by omega];simp⟩
 | k+1,h=>by
  rcases Nat.lt_or_ge i (k+1) with h' | h'
  ·obtain ⟨t,ht⟩:=compN_pre ds i k (by omega)
   exact ⟨_,by rw [compN,ht,List.append_assoc]⟩
  ·obtain rfl:i=k+1:=by omega
   exact ⟨[],by simp⟩
theorem startN_mono (ds:List DRule) {i k:Nat} (h:i≤k):startN ds i≤startN ds k:=by
 obtain ⟨t,ht⟩:=compN_pre ds i k h;unfold startN;rw [ht,List.length_append];omega
theorem startN_succ (ds:List DRule) (i:Nat) (hi:i<ds.length):startN ds (i+1)=startN ds i+(ruleC ds[i] (startN ds i) (compN ds i).2).length:=by
 unfold startN;rw [compN_succ ds i hi,List.length_append]
def codeD (ds:List DRule):List Ins:=(compN ds ds.length).1.set 0 (9,(startN ds (ds.length-1):Int),0)
def entsD (ds:List DRule):List Int:=(List.range ds.length).map (fun i=>(startN ds i:Int))
theorem entsD_get (ds:List DRule) {t:Nat} (h:t<ds.length):(entsD ds).getD t 0=(startN ds t:Int):=by
 unfold entsD;rw [List.getD_eq_getElem?_getD,List.getElem?_map,List.getElem?_range h];rfl
theorem compD_eq {ds:List DRule} (hd:descOk ds=true) (h0:0<ds.length):compD ds=(codeD ds,entsD ds):=by
 unfold compD;rw [if_pos hd,compN_es]
 have:((List.range ds.length).map (fun i=>(startN ds i:Int))).getLastD 0=(startN ds (ds.length-1):Int):=by
  obtain ⟨n,hn⟩:∃ n,ds.length=n+1:=⟨ds.length-1,by omega⟩;rw [hn,List.range_succ,List.map_append];simp
 rw [this];rfl
theorem codeD_len (ds:List DRule):(codeD ds).length=startN ds ds.length:=by unfold codeD;rw [List.length_set];rfl
theorem ruleC_26 {ds:List DRule} (hd:descOk ds=true) (i:Nat) (hi:i<ds.length) (s:Int) (es:List Int):(ruleC ds[i] s es).length≤26∧2≤(ruleC ds[i] s es).length:=by
 have hK:=ruleKind hd i hi;have hkind:=(ruleFacts hd i hi).kind;generalize ds[i]=r at *;unfold ruleC bodyC;rw [List.length_append];unfold kindOk at hK
 by_cases c1:r.kind=1
 ·rw [if_pos c1];simp
 rw [if_neg c1] at hK ⊢
 by_cases c2:r.kind=2
 ·rw [if_pos c2] at hK ⊢
  simp only [Bool.and_eq_true,between_iff] at hK;simp;omega
 rw [if_neg c2] at hK ⊢
 by_cases c3:r.kind=3
 ·rw [if_pos c3];simp
 rw [if_neg c3] at hK ⊢
 by_cases c4:r.kind=4
 ·rw [if_pos c4];simp
 rw [if_neg c4] at hK ⊢
 by_cases c5:r.kind=5
 ·rw [if_pos c5];simp
 rw [if_neg c5] at hK ⊢
 by_cases c6:r.kind=6
 ·rw [if_pos c6] at hK ⊢
  unfold seqOk at hK;simp only [Bool.and_eq_true,between_iff] at hK;simp;omega
 rw [if_neg c6] at hK ⊢
 by_cases c7:r.kind=7
 ·rw [if_pos c7] at hK ⊢
  unfold choOk at hK;simp only [Bool.and_eq_true,between_iff] at hK;have h1:=tagsC_len r s r.tags.length;have h2:=(altsC_at r es r.tags.length (Nat.le_refl _)).1;rw [if_neg (by omega)] at h2;unfold choC;simp only [List.length_cons,List.length_append,List.length_nil,h1,h2]
  omega
 rw [if_neg c7]
 by_cases c8:r.kind=8
 ·rw [if_pos c8];simp
 rw [if_neg c8]
 by_cases c9:r.kind=9
 ·rw [if_pos c9];simp
 rw [if_neg c9];simp
theorem startN_le {ds:List DRule} (hd:descOk ds=true):∀ k,k≤ds.length→startN ds k≤2+26*k
 | 0,_=>Nat.le_refl 2
 | k+1,h=>by
  have:=startN_le hd k (by omega);rw [startN_succ ds k (by omega)]
  have:=(ruleC_26 hd k (by omega) (startN ds k) (compN ds k).2).1
  omega
theorem code_at {ds:List DRule} (i:Nat) (hi:i<ds.length) (j:Nat) (x:Ins) (hx:(ruleC ds[i] (startN ds i) (compN ds i).2)[j]?=some x):(codeD ds)[startN ds i+j]?=some x:=by
 have hj:j<(ruleC ds[i] (startN ds i) (compN ds i).2).length:=(List.getElem?_eq_some_iff.1 hx).1
 have h2:=startN_ge ds i;obtain ⟨t,ht⟩:=compN_pre ds (i+1) ds.length hi;unfold codeD;rw [List.getElem?_set_ne (by omega),ht,compN_succ ds i hi];have e:(compN ds i).1.length=startN ds i:=rfl
 rw [List.getElem?_append_left (by rw [List.length_append,e];omega),List.getElem?_append_right (by omega),e,Nat.add_sub_cancel_left];exact hx
theorem lay_code {ds:List DRule} (hd:descOk ds=true):Lay ds (codeD ds):=by
 have hl:=descOk_len hd;refine ⟨?_,fun i hi j x hx=>code_at i hi j x hx,fun i t ht hi=>?_⟩
 ·rw [codeD_len];have:=startN_le hd ds.length (Nat.le_refl _);omega
 ·rw [compN_es,List.getD_eq_getElem?_getD,List.getElem?_map,List.getElem?_range ht];rfl
theorem code_0 {ds:List DRule}:(codeD ds)[0]?=some (9,(startN ds (ds.length-1):Int),0)∧(codeD ds)[1]?=some (17,0,0):=by
 have h2:=startN_ge ds ds.length;obtain ⟨t,ht⟩:=compN_pre ds 0 ds.length (Nat.zero_le _);unfold codeD
 constructor
 ·rw [List.getElem?_set_self (by unfold startN at h2;omega)]
 ·rw [List.getElem?_set_ne (by omega),ht];rfl
def machZ:Mach:=⟨0,0,[],[],0,false,false,0,0,0⟩
theorem run_file {ds:List DRule} (hd:descOk ds=true) (b:List UInt8) (hb:b.length≤400):finO (advF true (codeD ds) (feedL true (codeD ds) machZ b))=((readFile ds b).code:Int):=by
 obtain ⟨hl,h24⟩:=descOk_len hd;have hL:=lay_code hd;obtain ⟨x0,x1⟩:=code_0 (ds:=ds)
 have e0:advF true (codeD ds) machZ=advN (codeD ds) 100001 machZ:=by
  unfold advF;rw [if_pos (show machZ.state=0 from rfl)];rfl
 rw [runO_feed,e0];have hR:=run_rule hd hL b hb h24 ds.length (ds.length-1) (by omega) (by omega);have h:=hR.call (a:=0) (k:=100001) (m:=machZ) (pc:=0) (st:=[]) (ss:=[]) (by omega) ⟨rfl,rfl,rfl,rfl,rfl,rfl⟩ x0 (by omega) (by simp;omega) (by simp;omega) (by omega);have hv:rdF ds b ds.length (ds.length-1) 0=readV ds b (ds.length-1) 0:=by unfold readV;rw [show ds.length-1+1=ds.length by omega]
 rw [hv] at h;show goN (codeD ds) 100001 machZ b=_
 unfold readFile;rw [if_pos ⟨hd,hb⟩];generalize readV ds b (ds.length-1) 0=R at *;rw [show goN (codeD ds) 100001 machZ b=goN (codeD ds) 100001 machZ (b.drop 0) from rfl]
 by_cases hc:R.code=0
 ·obtain ⟨_,h2,k',m',h3,h4,h5,_⟩:=h.2 hc
  obtain ⟨k2,rfl⟩:∃ k2,k'=k2+1:=⟨k'-1,by omega⟩;rw [h3,h5.go x1];have hf:=h5.fin
  by_cases hn:R.next<b.length
  ·rw [if_pos ⟨hc,hn⟩,List.drop_eq_getElem_cons hn,goN_more hf];rfl
  ·rw [if_neg (by omega),hc,List.drop_eq_nil_of_le (by omega),goN_done hf];rfl
 ·rw [h.1 hc,if_neg (by omega)]
end Go.Proofs.YtpmcofmdjckijaaGreat
namespace Go.Proofs.YtpmcofmdjckijaaGreat
open Go.RowKit Go.Sort
def WideR (x y:DRule) (j:Nat):Prop:=y=x∨(x.kind=7∧x.tags.length<8∧∃ (z k:Nat),z<3∧below j k∧y={ x with tags:=x.tags++[x.tags.getD (x.tags.length-1) 0+1+(z:Int)],kids:=x.kids++[(k:Int)] })
structure WI (ds:List DRule) (ps:List RV) (i:Nat):Prop where
 len:ps.length=ds.length
 wid:∀ j (h:j<ps.length) (h':j<ds.length),j<i→WideR ds[j] ps[j].r j
 old:∀ j (h:j<ps.length) (h':j<ds.length),i≤j→ps[j].r=ds[j]
theorem WI.zero {ds:List DRule} {ps:List RV} (h:rulesOf ps=ds):WI ds ps 0:=by
 subst h;exact ⟨by simp [rulesOf],fun j _ _ hj=>by omega,fun j h h' _=>by simp [rulesOf]⟩
theorem WI.skip {ds:List DRule} {ps:List RV} {i:Nat} (h:WI ds ps i):WI ds ps (i+1) :=
 ⟨h.len,fun j h1 h2 hj=>by
  rcases (by omega:j<i∨j=i) with h3 | rfl
  ·exact h.wid j h1 h2 h3
  ·exact .inl (h.old j h1 h2 (Nat.le_refl _)),fun j h1 h2 hj=>h.old j h1 h2 (by omega)⟩
theorem WI.put {ds:List DRule} {ps:List RV} {i:Nat} (h:WI ds ps i) (hi:i<ps.length) (hi':i<ds.length) {p':RV} (hp:WideR ds[i] p'.r i):WI ds (ps.set i p') (i+1) :=
 ⟨by rw [List.length_set];exact h.len,fun j h1 h2 hj=>by
  rw [List.length_set] at h1;rw [List.getElem_set]
  split
  ·rename_i e;subst e;exact hp
  ·exact h.wid j h1 h2 (by omega),fun j h1 h2 hj=>by
  rw [List.length_set] at h1;rw [List.getElem_set,if_neg (by omega)];exact h.old j h1 h2 (by omega)⟩
theorem WideR.sm {x y:DRule} {j:Nat} (h:WideR x y j) (hs:SmallR x) (hk : -100≤x.kind∧x.kind≤100) (hj:j≤24):SmR y:=by
 rcases h with rfl | ⟨_,_,z,k,hz,hkb,rfl⟩
 ·exact hs.sm hk
 ·have hl : -100000≤x.tags.getD (x.tags.length-1) 0∧x.tags.getD (x.tags.length-1) 0≤100000:=by
   rw [List.getD_eq_getElem?_getD];cases he:x.tags[x.tags.length-1]? with
   | none=>simp
   | some u=>exact ⟨(hs.ints.2.1 u (List.mem_of_getElem? he)).1,by have:=(hs.ints.2.1 u (List.mem_of_getElem? he)).2;show u≤100000;omega⟩
  have hk2:(k:Int)≤24:=by unfold below at hkb;split at hkb<;>omega
  refine ⟨by have:=hs.nm;dsimp only;omega,by have:=hs.lens;simp only [List.length_append,List.length_singleton];omega,fun t ht=>by have:=hs.nms t ht;omega,hk,⟨hs.ints.1,fun u hu=>?_,fun u hu=>?_⟩⟩
  ·rcases List.mem_append.1 hu with h1 | h1
   ·have:=hs.ints.2.1 u h1;omega
   ·rw [List.mem_singleton.1 h1];omega
  ·rcases List.mem_append.1 hu with h1 | h1
   ·have:=hs.ints.2.2 u h1;omega
   ·rw [List.mem_singleton.1 h1];omega
def Same (n0:Nat) (w w':World):Prop:=w.heap.size≤w'.heap.size∧∀ i,n0≤i→i<w.heap.size→w'.heap[i]?=w.heap[i]?
theorem Same.refl (n0:Nat) (w:World):Same n0 w w:=⟨Nat.le_refl _,fun _ _ _=>rfl⟩
theorem Same.trans {n0:Nat} {a b c:World} (h:Same n0 a b) (k:Same n0 b c):Same n0 a c :=
 ⟨Nat.le_trans h.1 k.1,fun i h0 hi=>(k.2 i h0 (Nat.lt_of_lt_of_le hi h.1)).trans (h.2 i h0 hi)⟩
theorem Same.of_ext {n0:Nat} {w w':World} (e:Ext w w'):Same n0 w w':=⟨e.size,fun i _ hi=>Below.block e i hi⟩
theorem Same.of_grown {n0:Nat} {w w':World} {row:Option Nat} (h:w.grownBy w' row) (hr:∀ k,row=some k→k<n0∨w.heap.size≤k):Same n0 w w' :=
 ⟨h.size,fun i h0 hi=>h.block i hi (fun hh=>by have:=hr i hh.symm;omega)⟩
theorem Same.set {n0:Nat} {w:World} (a:Addr) (u:Value) (h:a.block<n0∨w.heap.size≤a.block):Same n0 w (w.setCell a u) :=
 Same.of_grown (grown_set w a u) (fun k hk=>by injection hk with hk;subst hk;exact h)
theorem Same.up {n0 n1:Nat} {w w':World} (h:Same n0 w w') (hn:n0≤n1):Same n1 w w':=⟨h.1,fun i h1 hi=>h.2 i (by omega) hi⟩
def RdB {α:Type} (f:α→Value) (X:Nat→Prop) (n0:Nat) (w:World) (u:Value) (l:List α):Prop :=
 ∃ A c,u=.slice A l.length c∧l.length≤c∧l.length≤140737488351232∧(0<l.length→∃ b off cs T fz,A=some ⟨b,off,none⟩∧n0≤b∧b<w.heap.size∧¬ X b∧w.heap[b]?=some (.cells cs T fz)∧∀ i (h:i<l.length),cs[off+i]?=some (f l[i]))
theorem RdB.same {α:Type} {f:α→Value} {X:Nat→Prop} {n0:Nat} {w w':World} {u:Value} {l:List α} (h:RdB f X n0 w u l) (hs:w.heap.size≤w'.heap.size) (hb:∀ b,n0≤b→b<w.heap.size→¬ X b→w'.heap[b]?=w.heap[b]?):RdB f X n0 w' u l:=by
 obtain ⟨A,c,h1,h2,h2',h3⟩:=h;refine ⟨A,c,h1,h2,h2',fun hp=>?_⟩;obtain ⟨b,off,cs,T,fz,e1,e2,e3,e4,e5,e6⟩:=h3 hp;exact ⟨b,off,cs,T,fz,e1,e2,by omega,e4,(hb b e2 e3 e4).trans e5,e6⟩
theorem RdB.rd {α:Type} {f:α→Value} {X:Nat→Prop} {n0:Nat} {w:World} {u:Value} {l:List α} (h:RdB f X n0 w u l):∃ A c,u=.slice A l.length c∧Rd f w A l c:=by
 obtain ⟨A,c,h1,h2,h2',h3⟩:=h;refine ⟨A,c,h1,⟨h2,by omega,fun hp=>?_⟩,h2'⟩;obtain ⟨b,off,cs,T,fz,e1,e2,e3,e4,e5,e6⟩:=h3 hp
 exact ⟨b,off,e1,e3,fun w' e i hi=>by
  have h5:w'.heap[b]?=some (.cells cs T fz):=(Below.block e b e3).trans e5
  rw [cell_of_row w' b (off+i) cs T fz h5];exact e6 i hi⟩
theorem RdB.tail {α:Type} {f:α→Value} {X:Nat→Prop} {n0:Nat} {w:World} {b off c:Nat} {x:α} {l:List α} (h:RdB f X n0 w (.slice (some ⟨b,off,none⟩) (x::l).length c) (x::l)):RdB f X n0 w (.slice (some ⟨b,off+1,none⟩) l.length (c-1)) l:=by
 obtain ⟨A,c',h1,h2,h2',h3⟩:=h;injection h1 with q1 _ q2
 subst q1;subst q2;simp only [List.length_cons] at h2 h2';refine ⟨_,_,rfl,by omega,by omega,fun hp=>?_⟩;obtain ⟨b',off',cs,T,fz,e1,e2,e3,e4,e5,e6⟩:=h3 (by simp);injection e1 with e1
 injection e1 with e1 e1' _
 subst e1;subst e1';refine ⟨b,off+1,cs,T,fz,rfl,e2,e3,e4,e5,fun i hi=>?_⟩
 have:=e6 (i+1) (by simp;omega);rw [show off+1+i=off+(i+1) by omega,this];simp
structure RuleB (X:Nat→Prop) (n0:Nat) (w:World) (q:RV):Prop where
 b:RdB vu8 X n0 w q.vb q.r.bytes
 n:RdB vstr X n0 w q.vn q.r.names
 t:RdB vint X n0 w q.vt q.r.tags
 k:RdB vint X n0 w q.vk q.r.kids
theorem RuleB.same {X:Nat→Prop} {n0:Nat} {w w':World} {q:RV} (h:RuleB X n0 w q) (hs:w.heap.size≤w'.heap.size) (hb:∀ b,n0≤b→b<w.heap.size→¬ X b→w'.heap[b]?=w.heap[b]?):RuleB X n0 w' q :=
 ⟨h.b.same hs hb,h.n.same hs hb,h.t.same hs hb,h.k.same hs hb⟩
structure KeepD (n0:Nat) (w:World) (v:Value) (ds:List DRule):Prop where
 out:∃ A c,v=.slice A ds.length c∧∀ w',Same n0 w w'→RdD w' A ds c
theorem KeepD.rd {n0:Nat} {w:World} {v:Value} {ds:List DRule} (h:KeepD n0 w v ds):∃ A c,v=.slice A ds.length c∧RdD w A ds c:=by
 obtain ⟨A,c,h1,h2⟩:=h.out;exact ⟨A,c,h1,h2 w (Same.refl _ _)⟩
theorem KeepD.same {n0:Nat} {w w':World} {v:Value} {ds:List DRule} (h:KeepD n0 w v ds) (e:Same n0 w w'):KeepD n0 w' v ds:=by
 obtain ⟨A,c,h1,h2⟩:=h.out;exact ⟨A,c,h1,fun w'' e'=>h2 w'' (e.trans e')⟩
structure RowD (X:Nat→Prop) (n0:Nat) (wb w:World) (v:Value) (ps:List RV):Prop where
 row:Own 96 8 wb w v ps.length (ps.flatMap RV.cells)
 each:∀ q∈ps,RuleB X n0 w q
 len:ps.length≤24
 blk:∀ b,v.ownBlock=some b→n0≤b∧X b
theorem RowD.shape {X:Nat→Prop} {n0:Nat} {wb w:World} {v:Value} {ps:List RV} (h:RowD X n0 wb w v ps):∃ A c,v=.slice A ps.length c:=by
 rcases h.row.2 with ⟨rfl,hn⟩ | ⟨g,cap,_,rfl,_⟩
 ·exact ⟨none,0,by rw [hn]⟩
 ·exact ⟨_,_,rfl⟩
theorem RowD.rd {X:Nat→Prop} {n0:Nat} {wb w:World} {v:Value} {ps:List RV} (h:RowD X n0 wb w v ps):∃ A c,v=.slice A (rulesOf ps).length c∧RdD w A (rulesOf ps) c:=by
 have hlen:(rulesOf ps).length=ps.length:=by simp [rulesOf]
 have h24:=h.len;rcases h.row.2 with ⟨rfl,h0⟩ | ⟨g,cap,cur,rfl,hb,hg,hnc,hcm,hcs,htake⟩
 ·exact ⟨none,0,by rw [hlen,h0],by omega,by omega,fun hp=>by omega⟩
 ·refine ⟨_,_,by rw [hlen],by omega,by omega,fun hp=>⟨g,0,rfl,(Array.getElem?_eq_some_iff.1 hg).1,fun i hi=>?_⟩⟩
  have hi':i<ps.length:=by omega
  have hr:(rulesOf ps)[i]=ps[i].r:=by simp [rulesOf]
  have hc:∀ (w':World),Ext w w'→∀ j,j<8→w'.cell? ⟨g,i*8+j,none⟩=ps[i].cells[j]?:=by
   intro w' e j hj;rw [heap_row hg e,← cells_get ps i j hi' hj,← htake,List.getElem?_take,if_pos (by omega)];simp
  have hB:=h.each _ (List.getElem_mem hi');obtain ⟨Ab,cb,e1,r1⟩:=hB.b.rd;obtain ⟨An,cn,e2,r2⟩:=hB.n.rd;obtain ⟨At,ct,e3,r3⟩:=hB.t.rd;obtain ⟨Ak,ck,e4,r4⟩:=hB.k.rd;rw [hr];refine ⟨Ab,cb,An,cn,At,ct,Ak,ck,⟨r1.1,r2.1,r3.1,r4.1⟩,?_⟩;rw [← e1,← e2,← e3,← e4,Nat.zero_add]
  exact ⟨fun w' e=>by have:=hc w' e 0 (by omega);simpa [RV.cells] using this,fun w' e=>by have:=hc w' e 1 (by omega);simpa [RV.cells] using this,fun w' e=>by have:=hc w' e 2 (by omega);simpa [RV.cells] using this,fun w' e=>by have:=hc w' e 3 (by omega);simpa [RV.cells] using this,
   fun w' e=>by have:=hc w' e 4 (by omega);simpa [RV.cells] using this,fun w' e=>by have:=hc w' e 5 (by omega);simpa [RV.cells] using this,fun w' e=>by have:=hc w' e 6 (by omega);simpa [RV.cells] using this,fun w' e=>by have:=hc w' e 7 (by omega);simpa [RV.cells] using this⟩
theorem RowD.same {X:Nat→Prop} {n0:Nat} {wb w w':World} {v:Value} {ps:List RV} (h:RowD X n0 wb w v ps) (e:Same n0 w w'):RowD X n0 wb w' v ps:=by
 refine ⟨⟨h.row.1,?_⟩,fun q hq=>(h.each q hq).same e.1 (fun b h0 h1 _=>e.2 b h0 h1),h.len,h.blk⟩;rcases h.row.2 with h0 | ⟨g,cap,cur,rfl,hb,hg,r⟩
 ·exact .inl h0
 ·exact .inr ⟨g,cap,cur,rfl,hb,(e.2 g (h.blk g rfl).1 (Array.getElem?_eq_some_iff.1 hg).1).trans hg,r⟩
theorem RowD.keep {X:Nat→Prop} {n0:Nat} {wb w:World} {v:Value} {ps:List RV} (h:RowD X n0 wb w v ps):KeepD n0 w v (rulesOf ps):=by
 obtain ⟨A,c,h1,_⟩:=h.rd;refine ⟨A,c,h1,fun w' e=>?_⟩;obtain ⟨A',c',h2,h3⟩:=(h.same e).rd;rw [h1] at h2;injection h2 with q1 _ q2
 subst q1;subst q2;exact h3
def XB (g R:Nat) (v:Value) (b:Nat):Prop:=b=g∨b=R∨v.ownBlock=some b
structure DR (wb w wr:World) (p:Nat) (A:Option Addr) (l:List UInt8) (c g:Nat) (v:Value) (ps:List RV) (R:Nat):Prop where
 box:Box wr g #[v] 26
 row:Own 96 8 wb wr v ps.length (ps.flatMap RV.cells)
 each:∀ q∈ps,RuleB (XB g R v) w.heap.size wr q
 len:ps.length≤24
 blk:∀ b,v.ownBlock=some b→w.heap.size≤b∧b≠g∧b≠p∧b≠R
 cur:Cur wb wr p A l c
 grow:w.grownBy wr (some p)
 gw:w.heap.size≤g
 gb:wb.heap.size≤g
 pw:p<w.heap.size
 res:Box wr R #[.slice none 0 0] 26
 gR:g≠R
 Rw:w.heap.size≤R
theorem DR.moved {wb w wr w':World} {p:Nat} {A:Option Addr} {l:List UInt8} {c g:Nat} {v:Value} {ps:List RV} {R:Nat} (h:DR wb w wr p A l c g v ps R) (hC:Cur wb w' p A l c) (hg:wr.grownBy w' (some p)):DR wb w w' p A l c g v ps R :=
 ⟨h.box.moved hg (some_ne (by have:=h.gw;have:=h.pw;omega)),h.row.keep hg (fun b hb hh=>by injection hh with hh;exact (h.blk b hb).2.2.1 hh.symm),fun q hq=>(h.each q hq).same hg.size (fun b h0 h1 _=>hg.block b h1 (fun hh=>by injection hh with hh;have:=h.pw;omega)),h.len,h.blk,hC,h.grow.trans hg,h.gw,h.gb,h.pw,h.res.moved hg (some_ne (by have:=h.Rw;have:=h.pw;omega)),h.gR,h.Rw⟩
theorem DR.ext {wb w wr w':World} {p:Nat} {A:Option Addr} {l:List UInt8} {c g:Nat} {v:Value} {ps:List RV} {R:Nat} (h:DR wb w wr p A l c g v ps R) (e:Ext wr w'):DR wb w w' p A l c g v ps R :=
 h.moved (h.cur.ext e) (grown_ext e _)
theorem DR.cellr {wb w wr:World} {p:Nat} {A:Option Addr} {l:List UInt8} {c g b n cap:Nat} {ps:List RV} {R:Nat} (h:DR wb w wr p A l c g (.slice (some ⟨b,0,none⟩) n cap) ps R) (k j:Nat) (hk:k<ps.length) (hj:j<8) {q:RV} (hq:ps[k]=q):wr.cell? ⟨b,k*8+j,none⟩=q.cells[j]?∧wr.frozen? ⟨b,k*8+j,none⟩=false:=by
 subst hq
 have hn:n=ps.length:=by
  rcases h.row.2 with ⟨hh,_⟩ | ⟨_,_,_,hh,_⟩
  ·cases hh
  ·injection hh
 subst hn;have hrow:=h.row;have h0:=hrow.cellAt (k*8+j) (by omega);rw [h0,cells_get ps k j hk hj];exact ⟨rfl,hrow.frozenAt _⟩
theorem DR.put {wb w wr:World} {p:Nat} {A:Option Addr} {l:List UInt8} {c g b n cap:Nat} {ps:List RV} {R:Nat} (h:DR wb w wr p A l c g (.slice (some ⟨b,0,none⟩) n cap) ps R) (k j:Nat) (hk:k<ps.length) (hj:j<8) {q:RV} (hq:ps[k]=q) (u:Value) (p':RV) (hc:p'.cells=q.cells.set j u) (hp':RuleB (XB g R (.slice (some ⟨b,0,none⟩) n cap)) w.heap.size wr p') :
 DR wb w (wr.setCell ⟨b,k*8+j,none⟩ u) p A l c g (.slice (some ⟨b,0,none⟩) n cap) (ps.set k p') R:=by
 subst hq
 have hn:n=ps.length:=by
  rcases h.row.2 with ⟨hh,_⟩ | ⟨_,_,_,hh,_⟩
  ·cases hh
  ·injection hh
 subst hn;have hb:=h.blk b rfl;have hblk:=World.ownsRow.lt h.row b rfl;have hrow:=(h.row.stored (k*8+j) u).1;rw [cells_put ps k j hk u p' hj hc] at hrow
 have hst:∀ q,RuleB (XB g R (.slice (some ⟨b,0,none⟩) ps.length cap)) w.heap.size wr q→RuleB (XB g R (.slice (some ⟨b,0,none⟩) ps.length cap)) w.heap.size (wr.setCell ⟨b,k*8+j,none⟩ u) q:=fun q hq =>
  hq.same (by simp) (fun b' _ _ hx=>heap_setCell_other wr ⟨b,k*8+j,none⟩ b' u (fun hh=>hx (.inr (.inr (congrArg some hh.symm)))))
 refine ⟨h.box.other hb.2.1.symm _ u,by rw [List.length_set];exact hrow,fun q hq=>?_,by rw [List.length_set];exact h.len,h.blk,h.cur.set (a:=⟨b,k*8+j,none⟩) hb.2.2.1 hblk.1 u,grown_new (a:=⟨b,k*8+j,none⟩) h.grow hb.1 u,h.gw,h.gb,h.pw,h.res.other hb.2.2.2.symm _ u,h.gR,h.Rw⟩;rcases List.mem_or_eq_of_mem_set hq with h1 | rfl
 ·exact hst q (h.each q h1)
 ·exact hst q hp'
theorem DR.snoc {wb w W w4:World} {p:Nat} {A:Option Addr} {l:List UInt8} {c g:Nat} {v v':Value} {ps:List RV} {R:Nat} {q:RV} (h:DR wb w W p A l c g v ps R) (hq:RuleB (XB g R v) w.heap.size W q) (hl:ps.length<24)
 (ho4:Own 96 8 wb w4 v' (ps.length+1) (ps.flatMap RV.cells++q.cells)) (he:Ext wb w4) (hg4:W.grownBy w4 v.ownBlock) (hv:v'.ownBlock=v.ownBlock∨v'.ownBlock=some W.heap.size) :
 (w4.cell? ⟨g,0,none⟩=some v∧w4.frozen? ⟨g,0,none⟩=false)∧DR wb w (w4.setCell ⟨g,0,none⟩ v') p A l c g v' (ps++[q]) R:=by
 have hB:Box w4 g #[v] 26:=Box.moved h.box hg4 (fun hh=>(h.blk g hh).2.1 rfl)
 have hR:Box w4 R #[.slice none 0 0] 26:=Box.moved h.res hg4 (fun hh=>(h.blk R hh).2.2.2 rfl)
 have hlt:=h.box.lt;have hlR:=h.res.lt;have hlp:=h.cur.lt;have hgs:=h.grow.size
 have hvb:∀ b,v'.ownBlock=some b→w.heap.size≤b∧b≠g∧b≠p∧b≠R:=fun b hb=>by
  rcases hv with hv | hv
  ·exact h.blk b (hv.symm.trans hb)
  ·rw [hv] at hb;injection hb with hb
   exact ⟨by omega,by omega,by omega,by omega⟩
 have hX:∀ b,b<W.heap.size→¬ XB g R v b→¬ XB g R v' b:=fun b hb hx=>by
  rintro (h1 | h1 | h1)
  ·exact hx (.inl h1)
  ·exact hx (.inr (.inl h1))
  ·rcases hv with hv | hv
   ·exact hx (.inr (.inr (hv.symm.trans h1)))
   ·rw [hv] at h1;injection h1 with h1;omega
 have up:∀ {α:Type} {f:α→Value} {u:Value} {l:List α},RdB f (XB g R v) w.heap.size W u l→RdB f (XB g R v') w.heap.size (w4.setCell ⟨g,0,none⟩ v') u l:=by
  intro α f u l hu;obtain ⟨A',c',h1,h2,h2',h3⟩:=hu;refine ⟨A',c',h1,h2,h2',fun hp=>?_⟩;obtain ⟨b,off,cs,T,fz,e1,e2,e3,e4,e5,e6⟩:=h3 hp;refine ⟨b,off,cs,T,fz,e1,e2,by have:=hg4.size;simp;omega,hX b e3 e4,?_,e6⟩;rw [heap_setCell_other w4 ⟨g,0,none⟩ b v' (fun hh=>e4 (.inl hh))];exact (hg4.block b e3 (fun hh=>e4 (.inr (.inr hh.symm)))).trans e5
 refine ⟨⟨hB.cell 0,hB.free 0⟩,hB.set 0 v',?_,fun r hr=>?_,by simp;omega,hvb,(Cur.kept h.cur hg4 (fun hh=>(h.blk p hh).2.2.1 rfl) he).set (a:=⟨g,0,none⟩) (by have:=h.gw;have:=h.pw;show g≠p;omega) h.gb v',grown_new (a:=⟨g,0,none⟩) (grown_own h.grow (fun b hh=>(h.blk b hh).1) hg4) h.gw v',h.gw,h.gb,h.pw,hR.other (fun hh=>h.gR hh.symm) 0 v',h.gR,h.Rw⟩
 ·rw [List.length_append,List.flatMap_append,List.flatMap_cons,List.flatMap_nil,List.append_nil]
  exact ho4.keep (grown_set w4 ⟨g,0,none⟩ v') (fun b hb hh=>by injection hh with hh;exact (hvb b hb).2.1 hh.symm)
 ·rcases List.mem_append.1 hr with hr | hr
  ·have:=h.each r hr
   exact ⟨up this.b,up this.n,up this.t,up this.k⟩
  ·rw [List.mem_singleton.1 hr]
   exact ⟨up hq.b,up hq.n,up hq.t,up hq.k⟩
theorem DR.shape {wb w wr:World} {p:Nat} {A:Option Addr} {l:List UInt8} {c g:Nat} {v:Value} {ps:List RV} {R:Nat} (h:DR wb w wr p A l c g v ps R):∃ A' c',v=.slice A' ps.length c':=by
 rcases h.row.2 with ⟨rfl,hn⟩ | ⟨g,cap,_,rfl,_⟩
 ·exact ⟨none,0,by rw [hn]⟩
 ·exact ⟨_,_,rfl⟩
theorem DR.finish {wb w wr:World} {p:Nat} {A:Option Addr} {l:List UInt8} {c g:Nat} {v:Value} {ps:List RV} {R:Nat} (h:DR wb w wr p A l c g v ps R) (hbw:wb.heap.size≤w.heap.size) :
 KeepD w.heap.size (wr.setCell ⟨R,0,none⟩ v) v (rulesOf ps)∧Cur wb (wr.setCell ⟨R,0,none⟩ v) p A l c∧w.grownBy (wr.setCell ⟨R,0,none⟩ v) (some p)∧(wr.setCell ⟨R,0,none⟩ v).cell? ⟨R,0,none⟩=some v:=by
 have hR:Box (wr.setCell ⟨R,0,none⟩ v) R (#[.slice none 0 0].setIfInBounds 0 v) 26:=h.res.set 0 v
 refine ⟨?_,h.cur.set (a:=⟨R,0,none⟩) (by have:=h.Rw;have:=h.pw;show R≠p;omega) (by have:=h.Rw;show wb.heap.size≤R;omega) v,grown_new (a:=⟨R,0,none⟩) h.grow h.Rw v,by simpa using hR.cell 0⟩
 have hrow:RowD (XB g R v) w.heap.size wb (wr.setCell ⟨R,0,none⟩ v) v ps :=
  ⟨h.row.keep (grown_set wr ⟨R,0,none⟩ v) (fun b hb hh=>by injection hh with hh;exact (h.blk b hb).2.2.2 hh.symm),fun q hq=>(h.each q hq).same (by simp) (fun b _ _ hx=>heap_setCell_other wr ⟨R,0,none⟩ b v (fun hh=>hx (.inr (.inl hh)))),h.len,fun b hb=>⟨(h.blk b hb).1,.inr (.inr hb)⟩⟩
 exact hrow.keep
theorem MadeD.tags {ds:List DRule} (h:MadeD ds):∀ i (hi:i<ds.length),ds[i].kind=7→0<ds[i].tags.length:=by
 intro i hi h7;have hk:=(h i hi).ok;unfold kindOk at hk;rw [if_neg (by omega),if_neg (by omega),if_neg (by omega),if_neg (by omega),if_neg (by omega),if_neg (by omega),if_pos h7] at hk;unfold choOk at hk;simp only [Bool.and_eq_true,between_iff] at hk
 omega
theorem MadeD.kinds {ds:List DRule} (h:MadeD ds):∀ i (hi:i<ds.length),1≤ds[i].kind∧ds[i].kind≤10:=by
 intro i hi
 have:=(h i hi).ok;unfold kindOk at this
 by_cases h1:ds[i].kind=1;· omega
 by_cases h2:ds[i].kind=2;· omega
 by_cases h3:ds[i].kind=3;· omega
 by_cases h4:ds[i].kind=4;· omega
 by_cases h5:ds[i].kind=5;· omega
 by_cases h6:ds[i].kind=6;· omega
 by_cases h7:ds[i].kind=7;· omega
 by_cases h8:ds[i].kind=8;· omega
 by_cases h9:ds[i].kind=9;· omega
 by_cases h10:ds[i].kind=10;· omega
 simp [h1,h2,h3,h4,h5,h6,h7,h8,h9,h10] at this
theorem MadeD.seq {ds:List DRule} (h:MadeD ds):∀ i (hi:i<ds.length),ds[i].kind=6→ds[i].kids.length=ds[i].names.length:=by
 intro i hi h6;have hk:=(h i hi).ok;unfold kindOk at hk;rw [if_neg (by omega),if_neg (by omega),if_neg (by omega),if_neg (by omega),if_neg (by omega),if_pos h6] at hk;unfold seqOk at hk;simp only [Bool.and_eq_true,beq_iff_eq] at hk;exact hk.1.1.2
structure MidR (r:DRule):Prop where
 sm:SmR r
 lens:r.bytes.length≤10∧r.names.length≤10∧r.tags.length≤10∧r.kids.length≤10
 seq:r.kind=6→r.kids.length=r.names.length
 size : -100000≤r.size∧r.size≤100000∧∀ z∈r.kids,-150000≤z∧z≤150000
theorem WideR.mid {x y:DRule} {j:Nat} (h:WideR x y j) (hs:SmallR x) (hk : -100≤x.kind∧x.kind≤100) (hj:j≤24) (h6:x.kind=6→x.kids.length=x.names.length):MidR y:=by
 refine ⟨h.sm hs hk hj,?_,?_,?_⟩
 ·have:=hs.lens
  rcases h with rfl | ⟨_,_,z,k,hz,hkb,rfl⟩
  ·omega
  ·simp only [List.length_append,List.length_singleton];omega
 ·rcases h with rfl | ⟨h7,_,z,k,hz,hkb,rfl⟩
  ·exact h6
  ·intro hh;dsimp only at hh;omega
 ·have hi:=hs.ints
  rcases h with rfl | ⟨_,_,z,k,hz,hkb,rfl⟩
  ·exact ⟨hi.1.1,hi.1.2,fun z hz=>by have:=hi.2.2 z hz;omega⟩
  ·refine ⟨hi.1.1,hi.1.2,fun u hu=>?_⟩
   have hk2:(k:Int)≤24:=by unfold below at hkb;split at hkb<;>omega
   rcases List.mem_append.1 hu with h1 | h1
   ·have:=hi.2.2 u h1;omega
   ·rw [List.mem_singleton.1 h1];omega
def MidD (ds:List DRule):Prop:=ds.length≤12∧∀ r∈ds,MidR r
theorem MidD.sm {ds:List DRule} (h:MidD ds):SmD ds:=⟨by have:=h.1;omega,fun r hr=>(h.2 r hr).sm⟩
theorem WI.mid {ds:List DRule} {ps:List RV} (h:WI ds ps ds.length) (hs:SmallD ds) (hM:MadeD ds) (hl:ds.length≤12):MidD (rulesOf ps):=by
 refine ⟨by have:=h.len;simp [rulesOf];omega,fun r hr=>?_⟩;obtain ⟨q,hq,rfl⟩:=List.mem_map.1 hr;obtain ⟨i,hi,rfl⟩:=List.getElem_of_mem hq;have hi':i<ds.length:=by have:=h.len;omega
 exact (h.wid i hi hi' hi').mid (hs.2 _ (List.getElem_mem hi')) (by have:=hM.kinds i hi';omega) (by omega) (hM.seq i hi')
theorem KeepD.low {n0 n1:Nat} {w:World} {v:Value} {ds:List DRule} (h:KeepD n1 w v ds) (hn:n0≤n1):KeepD n0 w v ds:=by
 obtain ⟨A,c,h1,h2⟩:=h.out;exact ⟨A,c,h1,fun w' e=>h2 w' (e.up hn)⟩
theorem SmD.len {ps:List RV} (h:SmD (rulesOf ps)):ps.length≤24:=by have:=h.1;simpa [rulesOf] using this
theorem OwnD.nmAt {w0 w:World} {b n c:Nat} {ps:List RV} (h:OwnD w0 w (.slice (some ⟨b,0,none⟩) n c) ps):∀ x (hx:x<ps.length),w.cell? ⟨b,x*8,none⟩=some (.string ps[x].r.nm):=by
 intro x hx;have hn:n=ps.length:=by obtain ⟨_,_,hh⟩:=h.shape;injection hh
 subst hn;have h0:=h.row.cellAt (x*8+0) (by omega);rw [Nat.add_zero] at h0;rw [h0]
 have:=cells_get ps x 0 hx (by omega);rw [Nat.add_zero] at this;rw [this];simp [RV.cells]
structure LN (w w1 w2 wr:World) (p:Nat) (A:Option Addr) (l:List UInt8) (c:Nat) (v1 v2:Value) (d1 d2:List DRule):Prop where
 ka:KeepD w1.heap.size wr v1 d1
 kb:KeepD w1.heap.size wr v2 d2
 ba:Box wr w2.heap.size #[v1] 26
 bb:Box wr (w2.heap.size+1) #[v2] 26
 b1:Box wr w.heap.size #[.slice none 0 0] 26
 b2:Box wr (w.heap.size+1) #[.slice none 0 0] 26
 cur:Cur w wr p A l c
 ext:Ext w wr
 hp:w.heap.size+2≤p∧p<w1.heap.size∧w1.heap.size≤w2.heap.size
theorem LN.moved {w w1 w2 wr w':World} {p:Nat} {A:Option Addr} {l:List UInt8} {c:Nat} {v1 v2:Value} {d1 d2:List DRule} (h:LN w w1 w2 wr p A l c v1 v2 d1 d2) (hC:Cur w w' p A l c) (hg:wr.grownBy w' (some p)):LN w w1 w2 w' p A l c v1 v2 d1 d2:=by
 have hp:=h.hp;have hs:Same w1.heap.size wr w':=Same.of_grown hg (fun k hk=>by injection hk with hk;omega)
 exact ⟨h.ka.same hs,h.kb.same hs,h.ba.moved hg (some_ne (by omega)),h.bb.moved hg (some_ne (by omega)),h.b1.moved hg (some_ne (by omega)),h.b2.moved hg (some_ne (by omega)),hC,h.ext.grown hg (fun k hk=>by injection hk with hk;omega),hp⟩
theorem sum_le {α:Type} (f:α→Nat) (m:Nat):∀ l:List α,(∀ x∈l,f x≤m)→(l.map f).sum≤l.length*m
 | [],_=>by simp
 | a::t,h=>by
  have h1:=h a (List.mem_cons_self ..);have h2:=sum_le f m t (fun x hx=>h x (List.mem_cons_of_mem _ hx));rw [List.map_cons,List.sum_cons,List.length_cons,Nat.add_mul];omega
theorem SmR.sz {r:DRule} (h:SmR r):szRl r≤1200:=by
 have h1:=h.lens;have h2:=h.nm;have h3:=sum_le ByteArray.size 60 r.names h.nms;have h4:r.names.length*60≤16*60:=Nat.mul_le_mul_right 60 h1.2.1
 unfold szRl szStrs;omega
theorem SmD.sz {ds:List DRule} (h:SmD ds):szD ds≤100000:=by
 have h1:=sum_le szRl 1200 ds (fun r hr=>(h.2 r hr).sz);have h2:ds.length*1200≤24*1200:=Nat.mul_le_mul_right 1200 h.1
 have h3:=h.1;unfold szD;omega
theorem wf_i64 {x:Int} (h : -1000000≤x∧x≤1000000):(Lit.int .i64 x).wf=true:=by
 have h1:IntKind.i64.min≤x:=Int.le_trans (by decide:IntKind.i64.min ≤ -1000000) h.1
 have h2:x≤IntKind.i64.max:=Int.le_trans h.2 (by decide:(1000000:Int)≤IntKind.i64.max)
 simp only [Lit.wf,decide_eq_true h1,decide_eq_true h2,Bool.and_self]
theorem SmR.wf {r:DRule} (h:SmR r):WfR r :=
 ⟨by have:=h.nm;omega,fun s hs=>by have:=h.nms s hs;omega,wf_i64 (by have:=h.kind;omega),wf_i64 (by have:=h.ints.1;omega),fun x hx=>wf_i64 (by have:=h.ints.2.1 x hx;omega),fun x hx=>wf_i64 (by have:=h.ints.2.2 x hx;omega)⟩
theorem SmD.wf {ds:List DRule} (h:SmD ds):WfD ds:=fun r hr=>(h.2 r hr).wf
theorem SmD.short {ds:List DRule} (h:SmD ds):ShortD ds:=shortD_of (by have:=h.sz;omega)
end Go.Proofs.YtpmcofmdjckijaaGreat
