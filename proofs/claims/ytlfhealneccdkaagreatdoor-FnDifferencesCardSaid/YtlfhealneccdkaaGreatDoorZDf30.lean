/- Texts, laid into one. -/
import Derived.Test.YtlfhealneccdkaaGreatDoorZDf27
set_option linter.unusedVariables false
set_option linter.unusedSimpArgs false
set_option maxRecDepth 100000
set_option maxHeartbeats 16000000
namespace Go.Proofs.YtlfhealneccdkaaGreatDoor
open Go.RowKit Go.Sort
theorem diffVs_len (ds:List DRule) (r:DRule) (n:Int) (p:ByteArray):∀ (l u:List DVal) (k:Nat),(diffVs ds r n k l u p).length≤szVs l
 | [],u,k=>by rw [diffVs_nil];simp
 | x::t,[],k=>by rw [diffVs];simp
 | x::t,y::u,k=>by
  rw [diffVs,List.length_append,szVs_cons];have h1:=diffV_len ds x (kidV r n k) y (under p r k);have h2:=diffVs_len ds r n p t u (k+1)
  omega
theorem szVs_take_le (l:List DVal) (k:Nat):szVs (l.take k)≤szVs l:=by
 rw [szVs_sum,szVs_sum,sum_split szV l k,List.length_take];omega
theorem alikeV_no {a b:DVal} (h:(a.num !=b.num)=true∨(a.bytes==b.bytes)=false∨a.items.length≠b.items.length∨a.items.length=0):alikeV a b=false:=by
 unfold alikeV;rcases h with h | h | h | h
 ·rw [show (a.num==b.num)=false by simpa using h];rfl
 ·rw [h];simp
 ·rw [beq_eq_false_iff_ne.2 h];simp
 ·rw [beq_iff_eq.2 h];simp
theorem alikeV_yes {a b:DVal} (h1:(a.num !=b.num)=false) (h2:(a.bytes==b.bytes)=true) (h3:a.items.length=b.items.length) (h4:a.items.length≠0):alikeV a b=true:=by
 unfold alikeV;rw [show (a.num==b.num)=true by simpa using h1,h2,beq_iff_eq.2 h3,beq_eq_false_iff_ne.2 h4];rfl
theorem under_size {p:ByteArray} {r:DRule} {k:Nat} (h:(stepR r k).size≤20):(under p r k).size≤p.size+21:=by
 unfold under;rw [ByteArray.size_append,ByteArray.size_append];show p.size+1+_≤_
 omega
noncomputable def diffD (ds:List DRule) (a b:DVal):List (ByteArray × DVal):=if validB ds ((ds.length:Int)-1) a=true∧validB ds ((ds.length:Int)-1) b=true then diffV ds (ds.length-1) a b ⟨#[]⟩ else []
theorem diffD_no {ds:List DRule} {a b:DVal} (h:validB ds ((ds.length:Int)-1) a=false∨validB ds ((ds.length:Int)-1) b=false):diffD ds a b=[]:=by
 unfold diffD;rw [if_neg];rintro ⟨h1,h2⟩;rcases h with h | h
 ·rw [h] at h1;cases h1
 ·rw [h] at h2;cases h2
theorem diffD_yes {ds:List DRule} {a b:DVal} (h1:validB ds ((ds.length:Int)-1) a=true) (h2:validB ds ((ds.length:Int)-1) b=true) :
 diffD ds a b=diffV ds (ds.length-1) a b ⟨#[]⟩∧descOk ds=true∧∃ k:Nat,k=ds.length-1∧k<ds.length∧(ds.length:Int)-1=(k:Int)∧validV ds k a=true∧validV ds k b=true:=by
 have hk:knownB ds ((ds.length:Int)-1)=true:=by unfold validB at h1;rw [Bool.and_eq_true] at h1;exact h1.1
 obtain ⟨hok,k,hlt,he⟩:=knownB_desc hk;rw [he] at h1 h2 hk;rw [validB_yes hk] at h1 h2;refine ⟨?_,hok,k,by omega,hlt,he,h1,h2⟩;unfold diffD;rw [if_pos ⟨by rw [he,validB_yes hk];exact h1,by rw [he,validB_yes hk];exact h2⟩]
theorem diffD_len {ds:List DRule} {a b:DVal} {n:Nat} (h:szV a≤n):(diffD ds a b).length≤n+1:=by
 unfold diffD
 split
 ·have:=diffV_len ds a (ds.length-1) b ⟨#[]⟩;omega
 ·simp
def iCmpOk (A:Option Addr) (ds:List DRule) (c:Nat) (a:DVal):Prop:=∀ (i:Nat) (_:i<ds.length) (b:DVal) (Aa:Option Addr) (ca:Nat) (Ia:Option Addr) (ia:Nat) (Ab:Option Addr) (cb:Nat) (Ib:Option Addr) (ib:Nat) (g1 o1 g2 o2:Nat) (p:ByteArray) (Wb w:World) (gx bm:Nat) (vs:List Value),
 RdD Wb A ds c→RdV Wb a Aa ca Ia ia→RdV Wb b Ab cb Ib ib→ValAt Wb g1 o1 a (.slice Aa a.bytes.length ca) (.slice Ia a.items.length ia)→ValAt Wb g2 o2 b (.slice Ab b.bytes.length cb) (.slice Ib b.items.length ib)→Ext Wb w→Tab Wb→Wb.heap.size≤bm →
 Box w gx #[.slice A ds.length c,.map (some bm)] 52→bm≠gx→NumMap w bm vs→validV ds i a=true→validV ds i b=true→szV a≤1048576→szV b≤1048576→vs.length+szV a≤4000000→p.size+22*(i+1)≤1000 →
 Calls Tryz.prog 18 #[.pointer (some ⟨gx,0,none⟩),.int .i64 (i:Int),.pointer (some ⟨g1,o1,none⟩),.pointer (some ⟨g2,o2,none⟩),.string p] w fun e w'=>e=.returned (.tuple #[])∧∃ ts,chOf ts=diffV ds i a b p∧NumMap w' bm (vs++ts.map chV)∧(∀ t∈ts,OwnT w w' t.2)∧Far (cvals ts)∧w.grownBy w' (some bm)
theorem iCmp_of (A:Option Addr) (ds:List DRule) (c:Nat) (hok:descOk ds=true) (hs:ShortD ds) (hw:WfD ds) (a:DVal) (H:∀ x∈a.items,iCmpOk A ds c x):iCmpOk A ds c a:=by
 intro i hi b Aa ca Ia ia Ab cb Ib ib g1 o1 g2 o2 p Wb w gx bm vs hd ha hb hat1 hat2 he hT hbm hbx hne hnm hva hvb hsa hsb hlv hp;have hl:=hd.len;have HD:=lhd hd;have HA:=lhd ha;have HB:=lhd hb;have hal:=ha.b.len;have hail:=ha.i.len;have hbl:=hb.b.len;have hbil:=hb.i.len;have CQ:=lhd (fun w (e:Ext Wb w)=>iEqV_all a b Aa ca Ia ia Ab cb Ib ib w (HA.out.ext e) (HB.out.ext e) (by omega) (by omega));have HBA:Hid (∀ w',Ext Wb w'→Bs w' Aa a.bytes ca):=fun w' e=>(HA.out.ext e).b.bs (bytes_le a) (by omega)
 have HBB:Hid (∀ w',Ext Wb w'→Bs w' Ab b.bytes cb):=fun w' e=>(HB.out.ext e).b.bs (bytes_le b) (by omega)
 have CB:=lhd (fun w (e:Ext Wb w)=>iEqualBytes_c Aa Ab a.bytes b.bytes ca cb w (HBA.out w e) (HBB.out w e));have CC:=lhd (fun w (e:Ext Wb w)=>iCopy_all b Ab cb Ib ib w (HB.out.ext e) hsb);have HNM:=lhd hnm;have HBX:=lhd hbx;have HTAB:=lhd hT;have HBM:=lhd hbm;have HNE:=lhd hne;have HLV:=lhd hlv;obtain ⟨u0,u1,u2⟩:=hat1;obtain ⟨v0,v1,v2⟩:=hat2;clear hd ha hb hnm hbx hT hbm hne hlv;unfold vval at *;cases heq:eqV a b
 ·have HWH:Hid (alikeV a b=false→diffV ds i a b p=[(p,b)]):=fun h=>diffV_whole heq h
  have HIT:Hid (alikeV a b=true→diffV ds i a b p=diffVs ds ds[i] a.num 0 a.items b.items p):=fun h=>diffV_items hi heq h
  rw [heq] at CQ;have HNO:Hid ((a.num !=b.num)=true∨(a.bytes==b.bytes)=false∨a.items.length≠b.items.length∨a.items.length=0→diffV ds i a b p=[(p,b)]):=fun h=>HWH.out (alikeV_no h)
  have HYES:Hid ((a.num !=b.num)=false→(a.bytes==b.bytes)=true→a.items.length=b.items.length→a.items.length≠0→diffV ds i a b p=diffVs ds ds[i] a.num 0 a.items b.items p):=fun h1 h2 h3 h4=>HIT.out (alikeV_yes h1 h2 h3 h4)
  clear heq HWH HIT;generalize hDD:diffV ds i a b p=DD at *;clear hDD;cases hq1:(a.num !=b.num)
  ·have HQ1:=lhd hq1
   cases hq2:(a.bytes==b.bytes)
   ·have HE:=lhd (HNO.out (.inr (.inl hq2)))
    rw [hq2] at CB;clear HNO HYES hq2;go_enter Tryz.func18,Tryz.ntmps18;go_wp2_with fail;refine wp_region_quiet_below (by kernel_rfl) (by kernel_rfl) ?_;repeat (go_big_quiet_step ((go_at_call 40;exact Calls.regrown_of (CQ.out _ (Ext.trans he (by first | assumption | exact Ext_regrown _ _ (Ext.refl _)))))))
    refine wpQuiet_nil (qnl ?_);intro w1 ew1;have he1:=he.trans ew1;go_wp2_with fail;refine wp_region_quiet_below (by kernel_rfl) (by kernel_rfl) ?_;repeat (go_big_quiet_step ((go_at_call 41;exact Calls.regrown_of (CB.out _ (Ext.trans he1 (by first | assumption | exact Ext_regrown _ _ (Ext.refl _)))))))
    refine wpQuiet_nil (qnl ?_);intro w2 ew2;have he2:=he1.trans ew2;have e02:=ew1.trans ew2;have HNM2:=lhd (HNM.out.ext e02);have HBX2:=lhd (HBX.out.ext e02);have HLEN:∀ w',Ext w2 w'→∀ ty,(Builtin.len_ #[50] ty #[.map (some bm)]).run Tryz.prog w'=.ok (.int .i64 (vs.length:Int)) w':=fun w' e ty=>(HNM2.out.ext e).len ty
    have SX:Hid (∀ w',Ext Wb w'→Box w' gx #[.slice A ds.length c,.map (some bm)] 52→(w'.cell? ⟨gx,1,none⟩=some (.map (some bm))∧w'.cell? ⟨g2,o2,none⟩=some (.int .i64 b.num)∧w'.cell? ⟨g2,o2+1,none⟩=some (.slice Ab b.bytes.length cb)∧w'.cell? ⟨g2,o2+2,none⟩=some (.slice Ib b.items.length ib))∧Ext Wb w'∧Box w' gx #[.slice A ds.length c,.map (some bm)] 52):=fun w' e b=>⟨⟨b.cell 1,v0 w' e,v1 w' e,v2 w' e⟩,e,b⟩
    have hed:=Ext_drew he2;have hbd:=HBX2.out.dr;have HXD:Ext w2 w2.drew:=Ext_drew (Ext.refl w2)
    have HVS:Hid (vs.length<140737488351232):=by have:=HLV.out;show _<_;omega
    go_wp2_with fail;have HSD:=lhd (SX.out _ hed hbd);have HAB:lv2 (fun w'=>w'.cell? ⟨gx,1,none⟩=some (.map (some bm))∧w'.cell? ⟨g2,o2,none⟩=some (.int .i64 b.num)∧w'.cell? ⟨g2,o2+1,none⟩=some (.slice Ab b.bytes.length cb)∧w'.cell? ⟨g2,o2+2,none⟩=some (.slice Ib b.items.length ib)) (fun w'=>∀ ty,(Builtin.len_ #[50] ty #[.map (some bm)]).run Tryz.prog w'=.ok (.int .i64 (vs.length:Int)) w') 2 w2.drew:=⟨HSD.out.1,HLEN _ HXD⟩
    refine wp_region_C (C:=fun j=>lv2 (fun w'=>w'.cell? ⟨gx,1,none⟩=some (.map (some bm))∧w'.cell? ⟨g2,o2,none⟩=some (.int .i64 b.num)∧w'.cell? ⟨g2,o2+1,none⟩=some (.slice Ab b.bytes.length cb)∧w'.cell? ⟨g2,o2+2,none⟩=some (.slice Ib b.items.length ib)) (fun w'=>∀ ty,(Builtin.len_ #[50] ty #[.map (some bm)]).run Tryz.prog w'=.ok (.int .i64 (vs.length:Int)) w') (([0,0,0,1,0,0,0,1,2,2,0,0,0,1,2,2,0]:List Nat).getD j 0)) (by kernel_rfl) ?_;refine tkD 0 (i:=0) (v:=?_) rfl trivial ?_ ?_;rotate_left
    ·(intro w hSw;clear hSw;go_simp;try with_reducible rfl)
    try simp only [Act.put,lpa,lpz,lps]
    refine tkD 0 (i:=1) (v:=?_) rfl trivial ?_ ?_;rotate_left
    ·(intro w hSw;clear hSw;go_simp;try with_reducible rfl)
    try simp only [Act.put,lpa,lpz,lps]
    refine tkD 0 (i:=2) (v:=?_) rfl trivial ?_ ?_;rotate_left
    ·(intro w hSw;clear hSw;go_simp;try with_reducible rfl)
    try simp only [Act.put,lpa,lpz,lps]
    refine tkD 0 (i:=4) (v:=?_) rfl trivial ?_ ?_;rotate_left
    ·(intro w hSw;clear hSw;go_simp;try with_reducible rfl)
    try simp only [Act.put,lpa,lpz,lps]
    refine tkD 0 (i:=5) (v:=?_) rfl trivial ?_ ?_;rotate_left
    ·(intro w hSw;clear hSw;go_simp;try with_reducible rfl)
    try simp only [Act.put,lpa,lpz,lps]
    refine tkD 0 (i:=6) (v:=?_) rfl trivial ?_ ?_;rotate_left
    ·(intro w hSw;clear hSw;go_simp;try with_reducible rfl)
    try simp only [Act.put,lpa,lpz,lps]
    refine tkD 0 (i:=10) (v:=?_) rfl trivial ?_ ?_;rotate_left
    ·(intro w hSw;clear hSw;go_simp;try with_reducible rfl)
    try simp only [Act.put,lpa,lpz,lps]
    refine tkD 0 (i:=11) (v:=?_) rfl trivial ?_ ?_;rotate_left
    ·(intro w hSw;clear hSw;go_simp;try with_reducible rfl)
    try simp only [Act.put,lpa,lpz,lps]
    refine tkD 0 (i:=12) (v:=?_) rfl trivial ?_ ?_;rotate_left
    ·(intro w hSw;clear hSw;go_simp;try with_reducible rfl)
    try simp only [Act.put,lpa,lpz,lps]
    refine tkD 1 (i:=3) (v:=?_) rfl (And.left HAB) ?_ ?_;rotate_left
    ·(intro w hSw;have hfact:w.cell? ⟨gx,1,none⟩=some (.map (some bm))∧w.cell? ⟨g2,o2,none⟩=some (.int .i64 b.num)∧w.cell? ⟨g2,o2+1,none⟩=some (.slice Ab b.bytes.length cb)∧w.cell? ⟨g2,o2+2,none⟩=some (.slice Ib b.items.length ib):=hSw;clear hSw;go_simp;try with_reducible rfl)
    try simp only [Act.put,lpa,lpz,lps]
    refine tkD 1 (i:=7) (v:=?_) rfl (And.left HAB) ?_ ?_;rotate_left
    ·(intro w hSw;have hfact:w.cell? ⟨gx,1,none⟩=some (.map (some bm))∧w.cell? ⟨g2,o2,none⟩=some (.int .i64 b.num)∧w.cell? ⟨g2,o2+1,none⟩=some (.slice Ab b.bytes.length cb)∧w.cell? ⟨g2,o2+2,none⟩=some (.slice Ib b.items.length ib):=hSw;clear hSw;go_simp;try with_reducible rfl)
    try simp only [Act.put,lpa,lpz,lps]
    refine tkD 1 (i:=13) (v:=?_) rfl (And.left HAB) ?_ ?_;rotate_left
    ·(intro w hSw;have hfact:w.cell? ⟨gx,1,none⟩=some (.map (some bm))∧w.cell? ⟨g2,o2,none⟩=some (.int .i64 b.num)∧w.cell? ⟨g2,o2+1,none⟩=some (.slice Ab b.bytes.length cb)∧w.cell? ⟨g2,o2+2,none⟩=some (.slice Ib b.items.length ib):=hSw;clear hSw;go_simp;try with_reducible rfl)
    try simp only [Act.put,lpa,lpz,lps]
    refine tkD 2 (i:=8) (v:=?_) rfl (HAB) ?_ ?_;rotate_left
    ·(intro w hSw;have hfact:=hSw.2;clear hSw;go_simp;try with_reducible rfl)
    try simp only [Act.put,lpa,lpz,lps]
    refine tkD 2 (i:=9) (v:=?_) rfl (HAB) ?_ ?_;rotate_left
    ·(intro w hSw;clear hSw;go_simp;try with_reducible rfl)
    try simp only [Act.put,lpa,lpz,lps]
    refine wpAnyC_one (i:=14) (by kernel_rfl) rfl (fun K hK=>?_);go_simp;go_at_call 21;refine (CC.out _ HSD.out.2.1).mono ?_;rintro _ w7 ⟨t,rfl,hgt,he7⟩;have hgt:=lhd hgt;have hE7:=HSD.out.2.1.trans he7;have hB7:=HSD.out.2.2.ext he7;have hall:Ext w2 w7:=HXD.trans he7
    have hput:=NumMap.put (HNM2.out.ext hall) HVS.out (.agg #[.string p,.int .i64 b.num,t.vb,t.vi]);obtain ⟨w8,hup,hnm8,hg8⟩:=hput;unfold numV at hup;have HNM8:=lhd hnm8;have HG8:=lhd hg8;have hE8:Ext Wb w8:=hE7.grown hg8 (fun k hk=>by injection hk with hk;have:=HBM.out;omega)
    have hB8:Box w8 gx #[.slice A ds.length c,.map (some bm)] 52:=Box.moved hB7 hg8 (fun hh=>by injection hh with hh;exact HNE.out hh)
    have HL7:=lhd (And.intro (SX.out _ hE7 hB7).1 (HLEN _ hall));clear hnm8 hg8;refine Shut.out hK _ _ HL7.out ?_;(try simp only [Act.put,lpa,lpz,lps]);refine wpAnyC_one (i:=15) (by kernel_rfl) rfl (fun K hK=>?_);go_simp;refine Shut.out hK _ _ HL7.out ?_;(try simp only [Act.put,lpa,lpz,lps]);refine wpAnyC_one (i:=16) (by kernel_rfl) rfl (fun K hK=>?_);go_simp;refine Shut.out hK _ _ trivial ?_;(try simp only [Act.put,lpa,lpz,lps]);refine wpAnyC_done (by kernel_rfl) ?_ _
    all_goals
     go_wp2;have hgr:w.grownBy w8 (some bm):=(grown_ext (e02.trans hall) _).trans HG8.out
     have hbl:=hgt.out.own.block;have hms:bm<w.heap.size:=HNM.out.lt
     have hsz2:w.heap.size≤w2.drew.heap.size:=e02.size
     refine And.intro (show _=[] from rfl) ⟨.tuple #[],by simp [results,Tryz.results18,go_sem],?_⟩;refine ⟨rfl,[(p,t)],by rw [HE.out];show [(p,t.val)]=_;rw [hgt.out.val],?_,?_,?_,hgr⟩
     ·have:=HNM8.out
      rw [← hgt.out.num] at this;exact this
     ·intro t' ht'
      obtain rfl:=List.mem_singleton.1 ht'
      exact (hgt.out.own.keep HG8.out (fun u hu g hg hh=>by injection hh with hh;have:=hbl u hu g hg;omega)).down hsz2
     ·have:cvals [(p,t)]=t.vals:=by simp [cvals]
      rw [this];exact hgt.out.far
   ·have HQ2:=lhd hq2
    rw [hq2] at CB;clear hq2
    by_cases hn:a.items.length=b.items.length
    ·have hb1:((a.items.length:Int) !=(b.items.length:Int))=false:=by simp [hn]
     by_cases h0:a.items.length=0
     ·have HE:=lhd (HNO.out (.inr (.inr (.inr h0))))
      have hz:((a.items.length:Int)==0)=true:=by rw [h0];rfl
      clear HNO HYES h0 hn;go_enter Tryz.func18,Tryz.ntmps18;go_wp2_with fail;refine wp_region_quiet_below (by kernel_rfl) (by kernel_rfl) ?_;repeat (go_big_quiet_step ((go_at_call 40;exact Calls.regrown_of (CQ.out _ (Ext.trans he (by first | assumption | exact Ext_regrown _ _ (Ext.refl _)))))))
      refine wpQuiet_nil (qnl ?_);intro w1 ew1;have he1:=he.trans ew1;go_wp2_with fail;refine wp_region_quiet_below (by kernel_rfl) (by kernel_rfl) ?_;repeat (go_big_quiet_step ((go_at_call 41;exact Calls.regrown_of (CB.out _ (Ext.trans he1 (by first | assumption | exact Ext_regrown _ _ (Ext.refl _)))))))
      refine wpQuiet_nil (qnl ?_);intro w2 ew2;have he2:=he1.trans ew2;have e02:=ew1.trans ew2;have HNM2:=lhd (HNM.out.ext e02);have HBX2:=lhd (HBX.out.ext e02);have HLEN:∀ w',Ext w2 w'→∀ ty,(Builtin.len_ #[50] ty #[.map (some bm)]).run Tryz.prog w'=.ok (.int .i64 (vs.length:Int)) w':=fun w' e ty=>(HNM2.out.ext e).len ty
      have SX:Hid (∀ w',Ext Wb w'→Box w' gx #[.slice A ds.length c,.map (some bm)] 52→(w'.cell? ⟨gx,1,none⟩=some (.map (some bm))∧w'.cell? ⟨g2,o2,none⟩=some (.int .i64 b.num)∧w'.cell? ⟨g2,o2+1,none⟩=some (.slice Ab b.bytes.length cb)∧w'.cell? ⟨g2,o2+2,none⟩=some (.slice Ib b.items.length ib))∧Ext Wb w'∧Box w' gx #[.slice A ds.length c,.map (some bm)] 52):=fun w' e b=>⟨⟨b.cell 1,v0 w' e,v1 w' e,v2 w' e⟩,e,b⟩
      have hed:=Ext_drew he2;have hbd:=HBX2.out.dr;have HXD:Ext w2 w2.drew:=Ext_drew (Ext.refl w2)
      have HVS:Hid (vs.length<140737488351232):=by have:=HLV.out;show _<_;omega
      go_wp2_with fail;have HSD:=lhd (SX.out _ hed hbd);have HAB:lv2 (fun w'=>w'.cell? ⟨gx,1,none⟩=some (.map (some bm))∧w'.cell? ⟨g2,o2,none⟩=some (.int .i64 b.num)∧w'.cell? ⟨g2,o2+1,none⟩=some (.slice Ab b.bytes.length cb)∧w'.cell? ⟨g2,o2+2,none⟩=some (.slice Ib b.items.length ib)) (fun w'=>∀ ty,(Builtin.len_ #[50] ty #[.map (some bm)]).run Tryz.prog w'=.ok (.int .i64 (vs.length:Int)) w') 2 w2.drew:=⟨HSD.out.1,HLEN _ HXD⟩
      refine wp_region_C (C:=fun j=>lv2 (fun w'=>w'.cell? ⟨gx,1,none⟩=some (.map (some bm))∧w'.cell? ⟨g2,o2,none⟩=some (.int .i64 b.num)∧w'.cell? ⟨g2,o2+1,none⟩=some (.slice Ab b.bytes.length cb)∧w'.cell? ⟨g2,o2+2,none⟩=some (.slice Ib b.items.length ib)) (fun w'=>∀ ty,(Builtin.len_ #[50] ty #[.map (some bm)]).run Tryz.prog w'=.ok (.int .i64 (vs.length:Int)) w') (([0,0,0,1,0,0,0,1,2,2,0,0,0,1,2,2,0]:List Nat).getD j 0)) (by kernel_rfl) ?_;refine tkD 0 (i:=0) (v:=?_) rfl trivial ?_ ?_;rotate_left
      ·(intro w hSw;clear hSw;go_simp;try with_reducible rfl)
      try simp only [Act.put,lpa,lpz,lps]
      refine tkD 0 (i:=1) (v:=?_) rfl trivial ?_ ?_;rotate_left
      ·(intro w hSw;clear hSw;go_simp;try with_reducible rfl)
      try simp only [Act.put,lpa,lpz,lps]
      refine tkD 0 (i:=2) (v:=?_) rfl trivial ?_ ?_;rotate_left
      ·(intro w hSw;clear hSw;go_simp;try with_reducible rfl)
      try simp only [Act.put,lpa,lpz,lps]
      refine tkD 0 (i:=4) (v:=?_) rfl trivial ?_ ?_;rotate_left
      ·(intro w hSw;clear hSw;go_simp;try with_reducible rfl)
      try simp only [Act.put,lpa,lpz,lps]
      refine tkD 0 (i:=5) (v:=?_) rfl trivial ?_ ?_;rotate_left
      ·(intro w hSw;clear hSw;go_simp;try with_reducible rfl)
      try simp only [Act.put,lpa,lpz,lps]
      refine tkD 0 (i:=6) (v:=?_) rfl trivial ?_ ?_;rotate_left
      ·(intro w hSw;clear hSw;go_simp;try with_reducible rfl)
      try simp only [Act.put,lpa,lpz,lps]
      refine tkD 0 (i:=10) (v:=?_) rfl trivial ?_ ?_;rotate_left
      ·(intro w hSw;clear hSw;go_simp;try with_reducible rfl)
      try simp only [Act.put,lpa,lpz,lps]
      refine tkD 0 (i:=11) (v:=?_) rfl trivial ?_ ?_;rotate_left
      ·(intro w hSw;clear hSw;go_simp;try with_reducible rfl)
      try simp only [Act.put,lpa,lpz,lps]
      refine tkD 0 (i:=12) (v:=?_) rfl trivial ?_ ?_;rotate_left
      ·(intro w hSw;clear hSw;go_simp;try with_reducible rfl)
      try simp only [Act.put,lpa,lpz,lps]
      refine tkD 1 (i:=3) (v:=?_) rfl (And.left HAB) ?_ ?_;rotate_left
      ·(intro w hSw;have hfact:w.cell? ⟨gx,1,none⟩=some (.map (some bm))∧w.cell? ⟨g2,o2,none⟩=some (.int .i64 b.num)∧w.cell? ⟨g2,o2+1,none⟩=some (.slice Ab b.bytes.length cb)∧w.cell? ⟨g2,o2+2,none⟩=some (.slice Ib b.items.length ib):=hSw;clear hSw;go_simp;try with_reducible rfl)
      try simp only [Act.put,lpa,lpz,lps]
      refine tkD 1 (i:=7) (v:=?_) rfl (And.left HAB) ?_ ?_;rotate_left
      ·(intro w hSw;have hfact:w.cell? ⟨gx,1,none⟩=some (.map (some bm))∧w.cell? ⟨g2,o2,none⟩=some (.int .i64 b.num)∧w.cell? ⟨g2,o2+1,none⟩=some (.slice Ab b.bytes.length cb)∧w.cell? ⟨g2,o2+2,none⟩=some (.slice Ib b.items.length ib):=hSw;clear hSw;go_simp;try with_reducible rfl)
      try simp only [Act.put,lpa,lpz,lps]
      refine tkD 1 (i:=13) (v:=?_) rfl (And.left HAB) ?_ ?_;rotate_left
      ·(intro w hSw;have hfact:w.cell? ⟨gx,1,none⟩=some (.map (some bm))∧w.cell? ⟨g2,o2,none⟩=some (.int .i64 b.num)∧w.cell? ⟨g2,o2+1,none⟩=some (.slice Ab b.bytes.length cb)∧w.cell? ⟨g2,o2+2,none⟩=some (.slice Ib b.items.length ib):=hSw;clear hSw;go_simp;try with_reducible rfl)
      try simp only [Act.put,lpa,lpz,lps]
      refine tkD 2 (i:=8) (v:=?_) rfl (HAB) ?_ ?_;rotate_left
      ·(intro w hSw;have hfact:=hSw.2;clear hSw;go_simp;try with_reducible rfl)
      try simp only [Act.put,lpa,lpz,lps]
      refine tkD 2 (i:=9) (v:=?_) rfl (HAB) ?_ ?_;rotate_left
      ·(intro w hSw;clear hSw;go_simp;try with_reducible rfl)
      try simp only [Act.put,lpa,lpz,lps]
      refine wpAnyC_one (i:=14) (by kernel_rfl) rfl (fun K hK=>?_);go_simp;go_at_call 21;refine (CC.out _ HSD.out.2.1).mono ?_;rintro _ w7 ⟨t,rfl,hgt,he7⟩;have hgt:=lhd hgt;have hE7:=HSD.out.2.1.trans he7;have hB7:=HSD.out.2.2.ext he7;have hall:Ext w2 w7:=HXD.trans he7
      have hput:=NumMap.put (HNM2.out.ext hall) HVS.out (.agg #[.string p,.int .i64 b.num,t.vb,t.vi]);obtain ⟨w8,hup,hnm8,hg8⟩:=hput;unfold numV at hup;have HNM8:=lhd hnm8;have HG8:=lhd hg8;have hE8:Ext Wb w8:=hE7.grown hg8 (fun k hk=>by injection hk with hk;have:=HBM.out;omega)
      have hB8:Box w8 gx #[.slice A ds.length c,.map (some bm)] 52:=Box.moved hB7 hg8 (fun hh=>by injection hh with hh;exact HNE.out hh)
      have HL7:=lhd (And.intro (SX.out _ hE7 hB7).1 (HLEN _ hall));clear hnm8 hg8;refine Shut.out hK _ _ HL7.out ?_;(try simp only [Act.put,lpa,lpz,lps]);refine wpAnyC_one (i:=15) (by kernel_rfl) rfl (fun K hK=>?_);go_simp;refine Shut.out hK _ _ HL7.out ?_;(try simp only [Act.put,lpa,lpz,lps]);refine wpAnyC_one (i:=16) (by kernel_rfl) rfl (fun K hK=>?_);go_simp;refine Shut.out hK _ _ trivial ?_;(try simp only [Act.put,lpa,lpz,lps]);refine wpAnyC_done (by kernel_rfl) ?_ _
      all_goals
       go_wp2;have hgr:w.grownBy w8 (some bm):=(grown_ext (e02.trans hall) _).trans HG8.out
       have hbl:=hgt.out.own.block;have hms:bm<w.heap.size:=HNM.out.lt
       have hsz2:w.heap.size≤w2.drew.heap.size:=e02.size
       refine And.intro (show _=[] from rfl) ⟨.tuple #[],by simp [results,Tryz.results18,go_sem],?_⟩;refine ⟨rfl,[(p,t)],by rw [HE.out];show [(p,t.val)]=_;rw [hgt.out.val],?_,?_,?_,hgr⟩
       ·have:=HNM8.out
        rw [← hgt.out.num] at this;exact this
       ·intro t' ht'
        obtain rfl:=List.mem_singleton.1 ht'
        exact (hgt.out.own.keep HG8.out (fun u hu g hg hh=>by injection hh with hh;have:=hbl u hu g hg;omega)).down hsz2
       ·have:cvals [(p,t)]=t.vals:=by simp [cvals]
        rw [this];exact hgt.out.far
     ·have HE:=lhd (HYES.out HQ1.out HQ2.out hn h0)
      have hz:((a.items.length:Int)==0)=false:=by rw [beq_eq_false_iff_ne];omega
      have HNUM:Hid (a.num=b.num):=by have:=HQ1.out;show _=_;simpa using this
      have IT:Hid (∀ j,j<a.items.length→kidV ds[i] a.num j<i∧ItemAt ds[i] a.num j):=fun j hj=>own_item hok i hi (validV_fits hva) hj
      have IT2:Hid (∀ j,j<a.items.length→ItemAtI ds[i] j):=fun j hj=>(itemI_of hok i hi (fit_of_own hok i hi (validV_fits hva)) hj).1
      have KI:Hid (∀ j,j<a.items.length→kidI ds[i] a.num j=(kidV ds[i] a.num j:Int)):=fun j hj=>by
       rcases (itemI_of hok i hi (fit_of_own hok i hi (validV_fits hva)) hj).2 with ⟨_,_,h⟩ | ⟨h,_⟩
       ·exact h
       ·rw [validV_fits hva] at h;cases h
      have VA:Hid (∀ j (hj:j<a.items.length),validV ds (kidV ds[i] a.num j) a.items[j]=true):=fun j hj=>validV_item hva j hj
      have VB:Hid (∀ j (hj:j<b.items.length),validV ds (kidV ds[i] a.num j) b.items[j]=true):=fun j hj=>by have:=validV_item hvb j hj;rwa [← HNUM.out] at this
      have SZ:Hid (∀ j,j<a.items.length→(stepR ds[i] j).size≤20):=fun j hj=>stepR_size hok i hi (IT.out j hj).2 (by omega)
      have HSA:Hid (∀ x∈a.items,szV x≤1048576):=fun x hx=>by have:=szV_item hx;omega
      have HSB:Hid (∀ x∈b.items,szV x≤1048576):=fun x hx=>by have:=szV_item hx;omega
      have CCH:Hid (∀ j,ItemAtI ds[i] j→j≤9223372036854775807→∀ w',Ext Wb w'→Gives Tryz.prog 42 #[vdesc (.slice A ds.length c),.int .i64 (i:Int),.pointer (some ⟨g1,o1,none⟩),.int .i64 (j:Int)] w' (.int .i64 (kidI ds[i] a.num j))) :=
       fun j hj hjl w' e=>iChild_c A ds c i hi a.num g1 o1 j w' (HD.out.ext e) (fun w2 e2=>u0 w2 (e.trans e2)) hjl hj (kd_int hok i hi)
      have CST:Hid (∀ j,ItemAt ds[i] a.num j→j≤9223372036854775807→∀ w',Ext Wb w'→Gives Tryz.prog 43 #[vdesc (.slice A ds.length c),.int .i64 (i:Int),.int .i64 (j:Int)] w' (.string (stepR ds[i] j))) :=
       fun j hj hjl w' e=>iStep_c A ds c i hi a.num j w' hok (HD.out.ext e) hs hw hjl hj (HTAB.out.ext e)
      have HN:=lhd hn;have HP:=lhd hp;have HH:=lhd H;clear hva hvb H HNO HYES hn hp hok h0 CC;go_enter Tryz.func18,Tryz.ntmps18;go_wp2_with fail;refine wp_region_quiet_below (by kernel_rfl) (by kernel_rfl) ?_;repeat (go_big_quiet_step ((go_at_call 40;exact Calls.regrown_of (CQ.out _ (Ext.trans he (by first | assumption | exact Ext_regrown _ _ (Ext.refl _)))))))
      refine wpQuiet_nil (qnl ?_);intro w1 ew1;have he1:=he.trans ew1;go_wp2_with fail;refine wp_region_quiet_below (by kernel_rfl) (by kernel_rfl) ?_;repeat (go_big_quiet_step ((go_at_call 41;exact Calls.regrown_of (CB.out _ (Ext.trans he1 (by first | assumption | exact Ext_regrown _ _ (Ext.refl _)))))))
      refine wpQuiet_nil (qnl ?_);intro w2 ew2;have he2:=he1.trans ew2;have e02:=ew1.trans ew2;go_wp2;go_loopw [81] (fun ix wr=>∃ (k:Nat) (ts:List CT),k≤a.items.length∧ix=.int .i64 k∧Hid (chOf ts=diffVs ds ds[i] a.num 0 (a.items.take k) (b.items.take k) p)∧Hid (NumMap wr bm (vs++ts.map chV))∧Hid (∀ t∈ts,OwnT w wr t.2)∧Hid (Far (cvals ts))∧Hid (w.grownBy wr (some bm))) (fun ix _=>a.items.length-(intOf ix).toNat)
      case atStart=>exact ⟨0,[],by omega,rfl,by simp [Hid,chOf,diffVs_nil],by simpa [Hid] using HNM.out.ext e02,(fun t ht=>by cases ht),Far.nil,grown_ext e02 _⟩
      case round =>
       clear he1 he2 ew1 ew2 e02;obtain ⟨k,ts,hk,rfl,hts,hnm,hown,hfar,hgr⟩:=hrel;have her:Ext Wb wr:=he.grown hgr.out (fun k hk=>by injection hk with hk;have:=HBM.out;omega)
       have hbr:Box wr gx #[.slice A ds.length c,.map (some bm)] 52:=Box.moved HBX.out hgr.out (fun hh=>by injection hh with hh;exact HNE.out hh)
       by_cases hlt:k<a.items.length
       ·have hlt':k<b.items.length:=by have:=HN.out;omega
        obtain ⟨bb1,of1,A1,c1,D1,d1,hIa,hbb1,hs1,hr1⟩:=HA.out.i.at k hlt;obtain ⟨bb2,of2,A2,c2,D2,d2,hIb,hbb2,hs2,hr2⟩:=HB.out.i.at k hlt';subst hIa;subst hIb;obtain ⟨hkl,hat⟩:=IT.out k hlt;have Hk:=HH.out _ (List.getElem_mem hlt);have hva1:=VA.out k hlt;have hvb1:=VB.out k hlt';have hst:=SZ.out k hlt;have hun:=under_size (p:=p) hst;have hsx:=HSA.out _ (List.getElem_mem hlt);have hsy:=HSB.out _ (List.getElem_mem hlt')
        have hcl:(vs++ts.map chV).length+szV a.items[k]≤4000000:=by
         have h1:=chOf_len ts;rw [hts.out] at h1;have h2:=diffVs_len ds ds[i] a.num p (a.items.take k) (b.items.take k) 0
         have h3:szVs (a.items.take (k+1))=szVs (a.items.take k)+(1+szV a.items[k]):=by
          rw [szVs_sum,szVs_sum,szVs_take a.items k hlt,List.length_take,List.length_take];omega
         have h4:=szVs_take_le a.items (k+1);have h5:=szVs_le_szV a;have h6:=HLV.out;rw [List.length_append,List.length_map]
         omega
        have CE:=lhd (fun w' (e:Ext Wb w') (hb':Box w' gx #[.slice A ds.length c,.map (some bm)] 52) (hn':NumMap w' bm (vs++ts.map chV))=>Hk (kidV ds[i] a.num k) (by omega) b.items[k] A1 c1 D1 d1 A2 c2 D2 d2 bb1 (of1+k*3) bb2 (of2+k*3) (under p ds[i] k) Wb w' gx bm (vs++ts.map chV) HD.out hs1 hs2 hr1 hr2 e HTAB.out HBM.out hb' HNE.out hn' hva1 hvb1 hsx hsy hcl (by have:=HP.out;omega));have CJ:=lhd (fun w' (e:Ext Wb w')=>CCH.out k (IT2.out k hlt) (by omega) w' e);have CT2:=lhd (fun w' (e:Ext Wb w')=>CST.out k hat (by omega) w' e);rw [KI.out k hlt] at CJ;have HT:=lhd (diffVs_take ds ds[i] a.num p a.items b.items k hlt hlt');have hp1:p.size≤1000:=by have:=HP.out;omega
        unfold under at CE HT;have h47:(⟨#[47]⟩:ByteArray).size≤1:=Nat.le_refl _
        have hps:(p++⟨#[47]⟩:ByteArray).size≤1001:=by rw [ByteArray.size_append];omega
        generalize hX:a.items[k]=x at *;generalize hY:b.items[k]=y at *;clear hX hY;generalize hQ:stepR ds[i] k=q at *;clear hQ;have hn1:¬ 9223372036854775807<p.size+1:=by omega
        have hn2:¬ 9223372036854775807<p.size+1+q.size:=by omega
        generalize hK:kidV ds[i] a.num k=kk at *;clear hK hkl hat Hk hva1 hvb1 hs1 hs2 hun hsx hsy hr1 hr2 hcl;unfold vdesc at CJ CT2;have hkk:(0:Int)≤(k:Int):=by omega
        have hkl1:(k:Int)<(a.items.length:Int):=by omega
        have hkl2:(k:Int)<(b.items.length:Int):=by omega
        have SX:Hid (∀ w',Ext Wb w'→Box w' gx #[.slice A ds.length c,.map (some bm)] 52→(w'.cell? ⟨gx,0,none⟩=some (.slice A ds.length c)∧w'.cell? ⟨g1,o1+2,none⟩=some (.slice (some ⟨bb1,of1,none⟩) a.items.length ia)∧w'.cell? ⟨g2,o2+2,none⟩=some (.slice (some ⟨bb2,of2,none⟩) b.items.length ib))∧Ext Wb w'∧Box w' gx #[.slice A ds.length c,.map (some bm)] 52):=fun w' e b=>⟨⟨b.cell 0,u2 w' e,v2 w' e⟩,e,b⟩
        have HNMr:=hnm;have hed:=Ext_drew her;have hbd:=hbr.dr;have HXD:Ext wr wr.drew:=Ext_drew (Ext.refl wr)
        go_wp2_with fail
        go_region_held3 (fun w'=>(w'.cell? ⟨gx,0,none⟩=some (.slice A ds.length c)∧w'.cell? ⟨g1,o1+2,none⟩=some (.slice (some ⟨bb1,of1,none⟩) a.items.length ia)∧w'.cell? ⟨g2,o2+2,none⟩=some (.slice (some ⟨bb2,of2,none⟩) b.items.length ib))∧Ext Wb w'∧Box w' gx #[.slice A ds.length c,.map (some bm)] 52) (exact SX.out _ (by assumption) (by assumption)) (first
         | (go_at_call 42;have hq:=‹_∧Ext Wb _∧Box _ gx _ _›;refine (CJ.out _ hq.2.1).mono ?_;rintro _ w4 ⟨rfl,he4⟩;have hE4:=hq.2.1.trans he4;have hB4:=hq.2.2.ext he4)
         | (go_at_call 43;have hq:=‹_∧Ext Wb _∧Box _ gx _ _›;refine (CT2.out _ hq.2.1).mono ?_;rintro _ w5 ⟨rfl,he5⟩;have hE5:=hq.2.1.trans he5;have hB5:=hq.2.2.ext he5)
         | (go_at_call 18;have hq:=‹_∧Ext Wb _∧Box _ gx _ _›;refine (CE.out _ hq.2.1 hq.2.2 (HNMr.out.ext (by first | exact HXD.trans (he4.trans he5) | exact HXD.trans (he5.trans he4)))).mono ?_;rintro _ w7 ⟨rfl,tB,hch,hnm7,hown7,hfar7,hg7⟩;have hE7:Ext Wb w7:=hq.2.1.grown hg7 (fun k hk=>by injection hk with hk;have:=HBM.out;omega);have hB7:Box w7 gx #[.slice A ds.length c,.map (some bm)] 52:=Box.moved hq.2.2 hg7 (fun hh=>by injection hh with hh;exact HNE.out hh);have hcur:∃ wc:World,Ext wr wc∧wc.grownBy w7 (some bm)∧(∀ t∈tB,OwnT wc w7 t.2):=(by first | exact ⟨w5,HXD.trans (he4.trans he5),hg7,hown7⟩ | exact ⟨w4,HXD.trans (he5.trans he4),hg7,hown7⟩);have HCUR:=lhd hcur;have HCH:=lhd hch;have HN7:=lhd hnm7;have HF7:=lhd hfar7;clear hcur hch hnm7 hown7 hfar7 hg7))
        all_goals
         obtain ⟨wc,hwc,hgc,hoc⟩:=HCUR.out;have hms:bm<w.heap.size:=HNM.out.lt
         have hg9:=lhd ((hgr.out.trans (grown_ext hwc _)).trans hgc);have N9:Hid (chOf (ts++tB)=diffVs ds ds[i] a.num 0 (a.items.take (k+1)) (b.items.take (k+1)) p):=by show _=_;rw [chOf_append,hts.out,HCH.out,HT.out]
         have M9:Hid (NumMap w7 bm (vs++(ts++tB).map chV)):=by have:=HN7.out;rw [List.append_assoc,← List.map_append] at this;exact this
         have O9:Hid (∀ t∈ts++tB,OwnT w w7 t.2):=by
          intro t ht;rcases List.mem_append.1 ht with ht | ht
          ·exact ((hown.out t ht).ext hwc).keep hgc (fun u hu g hg hh=>by injection hh with hh;have:=(hown.out t ht).block u hu g hg;omega)
          ·exact (hoc t ht).down (Nat.le_trans hgr.out.size hwc.size)
         have F9:Hid (Far (cvals (ts++tB))):=by
          show Far _
          rw [cvals_append];refine Far.append hfar.out HF7.out ?_;intro u hu v hv g h1 h2;obtain ⟨t,ht,hu⟩:=List.mem_flatMap.1 hu;obtain ⟨t',ht',hv⟩:=List.mem_flatMap.1 hv;have h3:=(hown.out t ht).block u hu g h1;have h4:=(hoc t' ht').block v hv g h2;have h5:=hwc.size
          omega
         clear hoc hgc hwc;go_wp2;go_roundw
         case rel=>exact ⟨k+1,ts++tB,by omega,by go_num,N9,M9,O9,F9,hg9⟩
         case measure=>simp [intOf];omega
       ·have hk':k=a.items.length:=by omega
        have HF:Hid (chOf ts=DD):=by
         show _=_;rw [hts.out,HE.out,hk',List.take_length,HN.out,List.take_length]
        go_wp2;refine And.intro (show _=[] from rfl) ⟨.tuple #[],by simp [results,Tryz.results18,go_sem],?_⟩;exact ⟨rfl,ts,HF.out,hnm.out,hown.out,hfar.out,hgr.out⟩
    ·have HE:=lhd (HNO.out (.inr (.inr (.inl hn))))
     have hb1:((a.items.length:Int) !=(b.items.length:Int))=true:=by simp;omega
     clear HNO HYES hn;go_enter Tryz.func18,Tryz.ntmps18;go_wp2_with fail;refine wp_region_quiet_below (by kernel_rfl) (by kernel_rfl) ?_;repeat (go_big_quiet_step ((go_at_call 40;exact Calls.regrown_of (CQ.out _ (Ext.trans he (by first | assumption | exact Ext_regrown _ _ (Ext.refl _)))))))
     refine wpQuiet_nil (qnl ?_);intro w1 ew1;have he1:=he.trans ew1;go_wp2_with fail;refine wp_region_quiet_below (by kernel_rfl) (by kernel_rfl) ?_;repeat (go_big_quiet_step ((go_at_call 41;exact Calls.regrown_of (CB.out _ (Ext.trans he1 (by first | assumption | exact Ext_regrown _ _ (Ext.refl _)))))))
     refine wpQuiet_nil (qnl ?_);intro w2 ew2;have he2:=he1.trans ew2;have e02:=ew1.trans ew2;have HNM2:=lhd (HNM.out.ext e02);have HBX2:=lhd (HBX.out.ext e02);have HLEN:∀ w',Ext w2 w'→∀ ty,(Builtin.len_ #[50] ty #[.map (some bm)]).run Tryz.prog w'=.ok (.int .i64 (vs.length:Int)) w':=fun w' e ty=>(HNM2.out.ext e).len ty
     have SX:Hid (∀ w',Ext Wb w'→Box w' gx #[.slice A ds.length c,.map (some bm)] 52→(w'.cell? ⟨gx,1,none⟩=some (.map (some bm))∧w'.cell? ⟨g2,o2,none⟩=some (.int .i64 b.num)∧w'.cell? ⟨g2,o2+1,none⟩=some (.slice Ab b.bytes.length cb)∧w'.cell? ⟨g2,o2+2,none⟩=some (.slice Ib b.items.length ib))∧Ext Wb w'∧Box w' gx #[.slice A ds.length c,.map (some bm)] 52):=fun w' e b=>⟨⟨b.cell 1,v0 w' e,v1 w' e,v2 w' e⟩,e,b⟩
     have hed:=Ext_drew he2;have hbd:=HBX2.out.dr;have HXD:Ext w2 w2.drew:=Ext_drew (Ext.refl w2)
     have HVS:Hid (vs.length<140737488351232):=by have:=HLV.out;show _<_;omega
     go_wp2_with fail;have HSD:=lhd (SX.out _ hed hbd);have HAB:lv2 (fun w'=>w'.cell? ⟨gx,1,none⟩=some (.map (some bm))∧w'.cell? ⟨g2,o2,none⟩=some (.int .i64 b.num)∧w'.cell? ⟨g2,o2+1,none⟩=some (.slice Ab b.bytes.length cb)∧w'.cell? ⟨g2,o2+2,none⟩=some (.slice Ib b.items.length ib)) (fun w'=>∀ ty,(Builtin.len_ #[50] ty #[.map (some bm)]).run Tryz.prog w'=.ok (.int .i64 (vs.length:Int)) w') 2 w2.drew:=⟨HSD.out.1,HLEN _ HXD⟩
     refine wp_region_C (C:=fun j=>lv2 (fun w'=>w'.cell? ⟨gx,1,none⟩=some (.map (some bm))∧w'.cell? ⟨g2,o2,none⟩=some (.int .i64 b.num)∧w'.cell? ⟨g2,o2+1,none⟩=some (.slice Ab b.bytes.length cb)∧w'.cell? ⟨g2,o2+2,none⟩=some (.slice Ib b.items.length ib)) (fun w'=>∀ ty,(Builtin.len_ #[50] ty #[.map (some bm)]).run Tryz.prog w'=.ok (.int .i64 (vs.length:Int)) w') (([0,0,0,1,0,0,0,1,2,2,0,0,0,1,2,2,0]:List Nat).getD j 0)) (by kernel_rfl) ?_;refine tkD 0 (i:=0) (v:=?_) rfl trivial ?_ ?_;rotate_left
     ·(intro w hSw;clear hSw;go_simp;try with_reducible rfl)
     try simp only [Act.put,lpa,lpz,lps]
     refine tkD 0 (i:=1) (v:=?_) rfl trivial ?_ ?_;rotate_left
     ·(intro w hSw;clear hSw;go_simp;try with_reducible rfl)
     try simp only [Act.put,lpa,lpz,lps]
     refine tkD 0 (i:=2) (v:=?_) rfl trivial ?_ ?_;rotate_left
     ·(intro w hSw;clear hSw;go_simp;try with_reducible rfl)
     try simp only [Act.put,lpa,lpz,lps]
     refine tkD 0 (i:=4) (v:=?_) rfl trivial ?_ ?_;rotate_left
     ·(intro w hSw;clear hSw;go_simp;try with_reducible rfl)
     try simp only [Act.put,lpa,lpz,lps]
     refine tkD 0 (i:=5) (v:=?_) rfl trivial ?_ ?_;rotate_left
     ·(intro w hSw;clear hSw;go_simp;try with_reducible rfl)
     try simp only [Act.put,lpa,lpz,lps]
     refine tkD 0 (i:=6) (v:=?_) rfl trivial ?_ ?_;rotate_left
     ·(intro w hSw;clear hSw;go_simp;try with_reducible rfl)
     try simp only [Act.put,lpa,lpz,lps]
     refine tkD 0 (i:=10) (v:=?_) rfl trivial ?_ ?_;rotate_left
     ·(intro w hSw;clear hSw;go_simp;try with_reducible rfl)
     try simp only [Act.put,lpa,lpz,lps]
     refine tkD 0 (i:=11) (v:=?_) rfl trivial ?_ ?_;rotate_left
     ·(intro w hSw;clear hSw;go_simp;try with_reducible rfl)
     try simp only [Act.put,lpa,lpz,lps]
     refine tkD 0 (i:=12) (v:=?_) rfl trivial ?_ ?_;rotate_left
     ·(intro w hSw;clear hSw;go_simp;try with_reducible rfl)
     try simp only [Act.put,lpa,lpz,lps]
     refine tkD 1 (i:=3) (v:=?_) rfl (And.left HAB) ?_ ?_;rotate_left
     ·(intro w hSw;have hfact:w.cell? ⟨gx,1,none⟩=some (.map (some bm))∧w.cell? ⟨g2,o2,none⟩=some (.int .i64 b.num)∧w.cell? ⟨g2,o2+1,none⟩=some (.slice Ab b.bytes.length cb)∧w.cell? ⟨g2,o2+2,none⟩=some (.slice Ib b.items.length ib):=hSw;clear hSw;go_simp;try with_reducible rfl)
     try simp only [Act.put,lpa,lpz,lps]
     refine tkD 1 (i:=7) (v:=?_) rfl (And.left HAB) ?_ ?_;rotate_left
     ·(intro w hSw;have hfact:w.cell? ⟨gx,1,none⟩=some (.map (some bm))∧w.cell? ⟨g2,o2,none⟩=some (.int .i64 b.num)∧w.cell? ⟨g2,o2+1,none⟩=some (.slice Ab b.bytes.length cb)∧w.cell? ⟨g2,o2+2,none⟩=some (.slice Ib b.items.length ib):=hSw;clear hSw;go_simp;try with_reducible rfl)
     try simp only [Act.put,lpa,lpz,lps]
     refine tkD 1 (i:=13) (v:=?_) rfl (And.left HAB) ?_ ?_;rotate_left
     ·(intro w hSw;have hfact:w.cell? ⟨gx,1,none⟩=some (.map (some bm))∧w.cell? ⟨g2,o2,none⟩=some (.int .i64 b.num)∧w.cell? ⟨g2,o2+1,none⟩=some (.slice Ab b.bytes.length cb)∧w.cell? ⟨g2,o2+2,none⟩=some (.slice Ib b.items.length ib):=hSw;clear hSw;go_simp;try with_reducible rfl)
     try simp only [Act.put,lpa,lpz,lps]
     refine tkD 2 (i:=8) (v:=?_) rfl (HAB) ?_ ?_;rotate_left
     ·(intro w hSw;have hfact:=hSw.2;clear hSw;go_simp;try with_reducible rfl)
     try simp only [Act.put,lpa,lpz,lps]
     refine tkD 2 (i:=9) (v:=?_) rfl (HAB) ?_ ?_;rotate_left
     ·(intro w hSw;clear hSw;go_simp;try with_reducible rfl)
     try simp only [Act.put,lpa,lpz,lps]
     refine wpAnyC_one (i:=14) (by kernel_rfl) rfl (fun K hK=>?_);go_simp;go_at_call 21;refine (CC.out _ HSD.out.2.1).mono ?_;rintro _ w7 ⟨t,rfl,hgt,he7⟩;have hgt:=lhd hgt;have hE7:=HSD.out.2.1.trans he7;have hB7:=HSD.out.2.2.ext he7;have hall:Ext w2 w7:=HXD.trans he7
     have hput:=NumMap.put (HNM2.out.ext hall) HVS.out (.agg #[.string p,.int .i64 b.num,t.vb,t.vi]);obtain ⟨w8,hup,hnm8,hg8⟩:=hput;unfold numV at hup;have HNM8:=lhd hnm8;have HG8:=lhd hg8;have hE8:Ext Wb w8:=hE7.grown hg8 (fun k hk=>by injection hk with hk;have:=HBM.out;omega)
     have hB8:Box w8 gx #[.slice A ds.length c,.map (some bm)] 52:=Box.moved hB7 hg8 (fun hh=>by injection hh with hh;exact HNE.out hh)
     have HL7:=lhd (And.intro (SX.out _ hE7 hB7).1 (HLEN _ hall));clear hnm8 hg8;refine Shut.out hK _ _ HL7.out ?_;(try simp only [Act.put,lpa,lpz,lps]);refine wpAnyC_one (i:=15) (by kernel_rfl) rfl (fun K hK=>?_);go_simp;refine Shut.out hK _ _ HL7.out ?_;(try simp only [Act.put,lpa,lpz,lps]);refine wpAnyC_one (i:=16) (by kernel_rfl) rfl (fun K hK=>?_);go_simp;refine Shut.out hK _ _ trivial ?_;(try simp only [Act.put,lpa,lpz,lps]);refine wpAnyC_done (by kernel_rfl) ?_ _
     all_goals
      go_wp2;have hgr:w.grownBy w8 (some bm):=(grown_ext (e02.trans hall) _).trans HG8.out
      have hbl:=hgt.out.own.block;have hms:bm<w.heap.size:=HNM.out.lt
      have hsz2:w.heap.size≤w2.drew.heap.size:=e02.size
      refine And.intro (show _=[] from rfl) ⟨.tuple #[],by simp [results,Tryz.results18,go_sem],?_⟩;refine ⟨rfl,[(p,t)],by rw [HE.out];show [(p,t.val)]=_;rw [hgt.out.val],?_,?_,?_,hgr⟩
      ·have:=HNM8.out
       rw [← hgt.out.num] at this;exact this
      ·intro t' ht'
       obtain rfl:=List.mem_singleton.1 ht'
       exact (hgt.out.own.keep HG8.out (fun u hu g hg hh=>by injection hh with hh;have:=hbl u hu g hg;omega)).down hsz2
      ·have:cvals [(p,t)]=t.vals:=by simp [cvals]
       rw [this];exact hgt.out.far
  ·have HE:=lhd (HNO.out (.inl hq1))
   clear HNO HYES;go_enter Tryz.func18,Tryz.ntmps18;go_wp2_with fail;refine wp_region_quiet_below (by kernel_rfl) (by kernel_rfl) ?_;repeat (go_big_quiet_step ((go_at_call 40;exact Calls.regrown_of (CQ.out _ (Ext.trans he (by first | assumption | exact Ext_regrown _ _ (Ext.refl _)))))))
   refine wpQuiet_nil (qnl ?_);intro w1 ew1;have he1:=he.trans ew1;go_wp2_with fail;refine wp_region_quiet_below (by kernel_rfl) (by kernel_rfl) ?_;repeat (go_big_quiet_step ((go_at_call 41;exact Calls.regrown_of (CB.out _ (Ext.trans he1 (by first | assumption | exact Ext_regrown _ _ (Ext.refl _)))))))
   refine wpQuiet_nil (qnl ?_);intro w2 ew2;have he2:=he1.trans ew2;have e02:=ew1.trans ew2;have HNM2:=lhd (HNM.out.ext e02);have HBX2:=lhd (HBX.out.ext e02);have HLEN:∀ w',Ext w2 w'→∀ ty,(Builtin.len_ #[50] ty #[.map (some bm)]).run Tryz.prog w'=.ok (.int .i64 (vs.length:Int)) w':=fun w' e ty=>(HNM2.out.ext e).len ty
   have SX:Hid (∀ w',Ext Wb w'→Box w' gx #[.slice A ds.length c,.map (some bm)] 52→(w'.cell? ⟨gx,1,none⟩=some (.map (some bm))∧w'.cell? ⟨g2,o2,none⟩=some (.int .i64 b.num)∧w'.cell? ⟨g2,o2+1,none⟩=some (.slice Ab b.bytes.length cb)∧w'.cell? ⟨g2,o2+2,none⟩=some (.slice Ib b.items.length ib))∧Ext Wb w'∧Box w' gx #[.slice A ds.length c,.map (some bm)] 52):=fun w' e b=>⟨⟨b.cell 1,v0 w' e,v1 w' e,v2 w' e⟩,e,b⟩
   have hed:=Ext_drew he2;have hbd:=HBX2.out.dr;have HXD:Ext w2 w2.drew:=Ext_drew (Ext.refl w2)
   have HVS:Hid (vs.length<140737488351232):=by have:=HLV.out;show _<_;omega
   go_wp2_with fail;have HSD:=lhd (SX.out _ hed hbd);have HAB:lv2 (fun w'=>w'.cell? ⟨gx,1,none⟩=some (.map (some bm))∧w'.cell? ⟨g2,o2,none⟩=some (.int .i64 b.num)∧w'.cell? ⟨g2,o2+1,none⟩=some (.slice Ab b.bytes.length cb)∧w'.cell? ⟨g2,o2+2,none⟩=some (.slice Ib b.items.length ib)) (fun w'=>∀ ty,(Builtin.len_ #[50] ty #[.map (some bm)]).run Tryz.prog w'=.ok (.int .i64 (vs.length:Int)) w') 2 w2.drew:=⟨HSD.out.1,HLEN _ HXD⟩
   refine wp_region_C (C:=fun j=>lv2 (fun w'=>w'.cell? ⟨gx,1,none⟩=some (.map (some bm))∧w'.cell? ⟨g2,o2,none⟩=some (.int .i64 b.num)∧w'.cell? ⟨g2,o2+1,none⟩=some (.slice Ab b.bytes.length cb)∧w'.cell? ⟨g2,o2+2,none⟩=some (.slice Ib b.items.length ib)) (fun w'=>∀ ty,(Builtin.len_ #[50] ty #[.map (some bm)]).run Tryz.prog w'=.ok (.int .i64 (vs.length:Int)) w') (([0,0,0,1,0,0,0,1,2,2,0,0,0,1,2,2,0]:List Nat).getD j 0)) (by kernel_rfl) ?_;refine tkD 0 (i:=0) (v:=?_) rfl trivial ?_ ?_;rotate_left
   ·(intro w hSw;clear hSw;go_simp;try with_reducible rfl)
   try simp only [Act.put,lpa,lpz,lps]
   refine tkD 0 (i:=1) (v:=?_) rfl trivial ?_ ?_;rotate_left
   ·(intro w hSw;clear hSw;go_simp;try with_reducible rfl)
   try simp only [Act.put,lpa,lpz,lps]
   refine tkD 0 (i:=2) (v:=?_) rfl trivial ?_ ?_;rotate_left
   ·(intro w hSw;clear hSw;go_simp;try with_reducible rfl)
   try simp only [Act.put,lpa,lpz,lps]
   refine tkD 0 (i:=4) (v:=?_) rfl trivial ?_ ?_;rotate_left
   ·(intro w hSw;clear hSw;go_simp;try with_reducible rfl)
   try simp only [Act.put,lpa,lpz,lps]
   refine tkD 0 (i:=5) (v:=?_) rfl trivial ?_ ?_;rotate_left
   ·(intro w hSw;clear hSw;go_simp;try with_reducible rfl)
   try simp only [Act.put,lpa,lpz,lps]
   refine tkD 0 (i:=6) (v:=?_) rfl trivial ?_ ?_;rotate_left
   ·(intro w hSw;clear hSw;go_simp;try with_reducible rfl)
   try simp only [Act.put,lpa,lpz,lps]
   refine tkD 0 (i:=10) (v:=?_) rfl trivial ?_ ?_;rotate_left
   ·(intro w hSw;clear hSw;go_simp;try with_reducible rfl)
   try simp only [Act.put,lpa,lpz,lps]
   refine tkD 0 (i:=11) (v:=?_) rfl trivial ?_ ?_;rotate_left
   ·(intro w hSw;clear hSw;go_simp;try with_reducible rfl)
   try simp only [Act.put,lpa,lpz,lps]
   refine tkD 0 (i:=12) (v:=?_) rfl trivial ?_ ?_;rotate_left
   ·(intro w hSw;clear hSw;go_simp;try with_reducible rfl)
   try simp only [Act.put,lpa,lpz,lps]
   refine tkD 1 (i:=3) (v:=?_) rfl (And.left HAB) ?_ ?_;rotate_left
   ·(intro w hSw;have hfact:w.cell? ⟨gx,1,none⟩=some (.map (some bm))∧w.cell? ⟨g2,o2,none⟩=some (.int .i64 b.num)∧w.cell? ⟨g2,o2+1,none⟩=some (.slice Ab b.bytes.length cb)∧w.cell? ⟨g2,o2+2,none⟩=some (.slice Ib b.items.length ib):=hSw;clear hSw;go_simp;try with_reducible rfl)
   try simp only [Act.put,lpa,lpz,lps]
   refine tkD 1 (i:=7) (v:=?_) rfl (And.left HAB) ?_ ?_;rotate_left
   ·(intro w hSw;have hfact:w.cell? ⟨gx,1,none⟩=some (.map (some bm))∧w.cell? ⟨g2,o2,none⟩=some (.int .i64 b.num)∧w.cell? ⟨g2,o2+1,none⟩=some (.slice Ab b.bytes.length cb)∧w.cell? ⟨g2,o2+2,none⟩=some (.slice Ib b.items.length ib):=hSw;clear hSw;go_simp;try with_reducible rfl)
   try simp only [Act.put,lpa,lpz,lps]
   refine tkD 1 (i:=13) (v:=?_) rfl (And.left HAB) ?_ ?_;rotate_left
   ·(intro w hSw;have hfact:w.cell? ⟨gx,1,none⟩=some (.map (some bm))∧w.cell? ⟨g2,o2,none⟩=some (.int .i64 b.num)∧w.cell? ⟨g2,o2+1,none⟩=some (.slice Ab b.bytes.length cb)∧w.cell? ⟨g2,o2+2,none⟩=some (.slice Ib b.items.length ib):=hSw;clear hSw;go_simp;try with_reducible rfl)
   try simp only [Act.put,lpa,lpz,lps]
   refine tkD 2 (i:=8) (v:=?_) rfl (HAB) ?_ ?_;rotate_left
   ·(intro w hSw;have hfact:=hSw.2;clear hSw;go_simp;try with_reducible rfl)
   try simp only [Act.put,lpa,lpz,lps]
   refine tkD 2 (i:=9) (v:=?_) rfl (HAB) ?_ ?_;rotate_left
   ·(intro w hSw;clear hSw;go_simp;try with_reducible rfl)
   try simp only [Act.put,lpa,lpz,lps]
   refine wpAnyC_one (i:=14) (by kernel_rfl) rfl (fun K hK=>?_);go_simp;go_at_call 21;refine (CC.out _ HSD.out.2.1).mono ?_;rintro _ w7 ⟨t,rfl,hgt,he7⟩;have hgt:=lhd hgt;have hE7:=HSD.out.2.1.trans he7;have hB7:=HSD.out.2.2.ext he7;have hall:Ext w2 w7:=HXD.trans he7
   have hput:=NumMap.put (HNM2.out.ext hall) HVS.out (.agg #[.string p,.int .i64 b.num,t.vb,t.vi]);obtain ⟨w8,hup,hnm8,hg8⟩:=hput;unfold numV at hup;have HNM8:=lhd hnm8;have HG8:=lhd hg8;have hE8:Ext Wb w8:=hE7.grown hg8 (fun k hk=>by injection hk with hk;have:=HBM.out;omega)
   have hB8:Box w8 gx #[.slice A ds.length c,.map (some bm)] 52:=Box.moved hB7 hg8 (fun hh=>by injection hh with hh;exact HNE.out hh)
   have HL7:=lhd (And.intro (SX.out _ hE7 hB7).1 (HLEN _ hall));clear hnm8 hg8;refine Shut.out hK _ _ HL7.out ?_;(try simp only [Act.put,lpa,lpz,lps]);refine wpAnyC_one (i:=15) (by kernel_rfl) rfl (fun K hK=>?_);go_simp;refine Shut.out hK _ _ HL7.out ?_;(try simp only [Act.put,lpa,lpz,lps]);refine wpAnyC_one (i:=16) (by kernel_rfl) rfl (fun K hK=>?_);go_simp;refine Shut.out hK _ _ trivial ?_;(try simp only [Act.put,lpa,lpz,lps]);refine wpAnyC_done (by kernel_rfl) ?_ _
   all_goals
    go_wp2;have hgr:w.grownBy w8 (some bm):=(grown_ext (e02.trans hall) _).trans HG8.out
    have hbl:=hgt.out.own.block;have hms:bm<w.heap.size:=HNM.out.lt
    have hsz2:w.heap.size≤w2.drew.heap.size:=e02.size
    refine And.intro (show _=[] from rfl) ⟨.tuple #[],by simp [results,Tryz.results18,go_sem],?_⟩;refine ⟨rfl,[(p,t)],by rw [HE.out];show [(p,t.val)]=_;rw [hgt.out.val],?_,?_,?_,hgr⟩
    ·have:=HNM8.out
     rw [← hgt.out.num] at this;exact this
    ·intro t' ht'
     obtain rfl:=List.mem_singleton.1 ht'
     exact (hgt.out.own.keep HG8.out (fun u hu g hg hh=>by injection hh with hh;have:=hbl u hu g hg;omega)).down hsz2
    ·have:cvals [(p,t)]=t.vals:=by simp [cvals]
     rw [this];exact hgt.out.far
 ·obtain rfl:=eqV_iff.1 heq
  have HE:=lhd (diffV_same ds i a p);rw [heq] at CQ;go_enter Tryz.func18,Tryz.ntmps18;go_wp2_with fail;refine wp_region_quiet_below (by kernel_rfl) (by kernel_rfl) ?_;repeat (go_big_quiet_step ((go_at_call 40;exact Calls.regrown_of (CQ.out _ (Ext.trans he (by first | assumption | exact Ext_regrown _ _ (Ext.refl _)))))))
  refine wpQuiet_nil (qnl ?_);intro w1 ew1;have he1:=he.trans ew1;go_wp2;refine And.intro (show _=[] from rfl) ⟨.tuple #[],by simp [results,Tryz.results18,go_sem],?_⟩;exact ⟨rfl,[],by rw [HE.out];rfl,by simpa using HNM.out.ext ew1,(fun t ht=>by cases ht),Far.nil,grown_ext ew1 _⟩
theorem iCmp_all (A:Option Addr) (ds:List DRule) (c:Nat) (hok:descOk ds=true) (hs:ShortD ds) (hw:WfD ds):∀ v,iCmpOk A ds c v:=fun v=>DVal.ind (iCmp_of A ds c hok hs hw) v
theorem ccells_take (ts:List CT) (k:Nat) (hk:k<ts.length):(ts.take (k+1)).flatMap ccells=(ts.take k).flatMap ccells++ccells ts[k]:=by
 rw [List.take_succ_eq_append_getElem hk,List.flatMap_append,List.flatMap_cons,List.flatMap_nil,List.append_nil]
theorem iDiffD_c (A:Option Addr) (ds:List DRule) (c:Nat) (a b:DVal) (Aa:Option Addr) (ca:Nat) (Ia:Option Addr) (ia:Nat) (Ab:Option Addr) (cb:Nat) (Ib:Option Addr) (ib:Nat) (w:World) (hd:RdD w A ds c) (hs:ShortD ds) (hw:WfD ds) (ha:RdV w a Aa ca Ia ia) (hb:RdV w b Ab cb Ib ib) (hsa:szV a≤1048576) (hsb:szV b≤1048576) (hT:Tab w) :
 Calls Tryz.prog 6 #[vdesc (.slice A ds.length c),vval a (.slice Aa a.bytes.length ca) (.slice Ia a.items.length ia),vval b (.slice Ab b.bytes.length cb) (.slice Ib b.items.length ib)] w fun e w'=>∃ v cs,e=.returned v∧chOf cs=diffD ds a b∧OwnC w w' v cs∧Ext w w':=by
 have hl:=hd.len;have HD:=lhd hd;have HA:=lhd ha;have HB:=lhd hb;have HTAB:=lhd hT;have CR:=lhd (fun w=>iRoot_c A ds c w hl);have CV1:=lhd (fun w h h2=>iValid_c A ds c ((ds.length:Int)-1) a Aa ca Ia ia w h hs hw h2);have CV2:=lhd (fun w h h2=>iValid_c A ds c ((ds.length:Int)-1) b Ab cb Ib ib w h hs hw h2);obtain ⟨W0,HW0,BA,BV,BU,eA,hsA⟩:=boxes3' w #[.slice A ds.length c] #[.int .i64 a.num,.slice Aa a.bytes.length ca,.slice Ia a.items.length ia] #[.int .i64 b.num,.slice Ab b.bytes.length cb,.slice Ib b.items.length ib] 26 29 29;have B0:=BA.at 0;have B1:=BV.at;have B2:=BU.at;simp only [List.getElem?_toArray,List.getElem?_cons_zero] at B0;have HAT1:Hid (∀ w',Ext W0 w'→ValAt w' (w.heap.size+1) 0 a (.slice Aa a.bytes.length ca) (.slice Ia a.items.length ia)):=fun w' e=>⟨fun w2 e2=>BV.at 0 w2 (e.trans e2),fun w2 e2=>BV.at 1 w2 (e.trans e2),fun w2 e2=>BV.at 2 w2 (e.trans e2)⟩
 have HAT2:Hid (∀ w',Ext W0 w'→ValAt w' (w.heap.size+1+1) 0 b (.slice Ab b.bytes.length cb) (.slice Ib b.items.length ib)):=fun w' e=>⟨fun w2 e2=>BU.at 0 w2 (e.trans e2),fun w2 e2=>BU.at 1 w2 (e.trans e2),fun w2 e2=>BU.at 2 w2 (e.trans e2)⟩
 have x0:=Ext_alloc (.cells #[] 41) (Ext.refl W0);have OE:=Own.empty (e:=41) (size:=4) (Ext.refl W0);have hsW:W0.heap.size=w.heap.size+1+1+1:=by omega
 rw [hsW] at OE;have HOE:=lhd OE;clear OE;have HSW:=lhd hsW;clear BA BV BU hd ha hb hsA hT hsW;cases z1:validB ds ((ds.length:Int)-1) a
 ·have HE:=lhd (diffD_no (.inl z1):diffD ds a b=[])
  rw [HE.out];rw [z1] at CV1;clear z1 CV2;generalize (ds.length:Int)-1=rt at *;unfold vdesc vval at *;go_enter Tryz.func6,Tryz.ntmps6;go_wp2_with fail;rw [← HW0.out];refine (CR.out _).mono ?_;rintro _ w1 ⟨rfl,he1⟩;have e1:=x0.trans he1;go_wp2_with fail;refine (CV1.out _ (HD.out.ext (eA.trans e1)) (HA.out.ext (eA.trans e1))).mono ?_;rintro _ w2 ⟨rfl,he2⟩;go_wp2;go_ret;exact ⟨_,[],rfl,rfl,(OwnC.nil (Own.ext HOE.out (he1.trans he2))).down eA.size,eA.trans (e1.trans he2)⟩
 ·cases z2:validB ds ((ds.length:Int)-1) b
  ·have HE:=lhd (diffD_no (.inr z2):diffD ds a b=[])
   rw [HE.out];rw [z1] at CV1;rw [z2] at CV2;clear z1 z2;generalize (ds.length:Int)-1=rt at *;unfold vdesc vval at *;go_enter Tryz.func6,Tryz.ntmps6;go_wp2_with fail;rw [← HW0.out];refine (CR.out _).mono ?_;rintro _ w1 ⟨rfl,he1⟩;have e1:=x0.trans he1;go_wp2_with fail;refine (CV1.out _ (HD.out.ext (eA.trans e1)) (HA.out.ext (eA.trans e1))).mono ?_;rintro _ w2 ⟨rfl,he2⟩;have e2:=e1.trans he2;go_wp2_with fail;refine (CV2.out _ (HD.out.ext (eA.trans e2)) (HB.out.ext (eA.trans e2))).mono ?_;rintro _ w3 ⟨rfl,he3⟩;go_wp2;go_ret;exact ⟨_,[],rfl,rfl,(OwnC.nil (Own.ext HOE.out ((he1.trans he2).trans he3))).down eA.size,eA.trans (e2.trans he3)⟩
  ·obtain ⟨hE,hok,k,hk,hlt,hrt,hva,hvb⟩:=diffD_yes z1 z2
   rw [hE,← hk];have hle:=(descOk_len hok).2;have CD:=lhd (iCmp_all A ds c hok hs hw a k hlt b Aa ca Ia ia Ab cb Ib ib (w.heap.size+1) 0 (w.heap.size+1+1) 0 ⟨#[]⟩);have HVA:=lhd hva;have HVB:=lhd hvb;have HLEN0:Hid ((diffV ds k a b ⟨#[]⟩).length≤1048577):=by have:=diffV_len ds a k b ⟨#[]⟩;show _≤_;omega
   rw [z1] at CV1;rw [z2] at CV2;rw [hrt] at CV1 CV2 CR;clear z1 z2 hE hk hrt hva hvb;generalize diffV ds k a b ⟨#[]⟩=DD at *;unfold vdesc vval at *;go_enter Tryz.func6,Tryz.ntmps6;go_wp2_with fail;rw [← HW0.out];refine (CR.out _).mono ?_;rintro _ w1 ⟨rfl,he1⟩;have e1:=x0.trans he1;go_wp2_with fail;refine (CV1.out _ (HD.out.ext (eA.trans e1)) (HA.out.ext (eA.trans e1))).mono ?_;rintro _ w2 ⟨rfl,he2⟩;have e2:=e1.trans he2;go_wp2_with fail;refine (CV2.out _ (HD.out.ext (eA.trans e2)) (HB.out.ext (eA.trans e2))).mono ?_;rintro _ w3 ⟨rfl,he3⟩;have e3:=e2.trans he3;have hmm:∀ w:World,(Instr.makeMap 50 none).run Tryz.prog w=.ok (.map (some w.heap.size)) (w.alloc (.map #[] 0)):=fun w=>rfl
   have HOW:=lhd (Own.ext HOE.out ((he1.trans he2).trans he3));clear he1 he2 he3 e1 e2 CR CV1 CV2;have xm:=Ext_alloc (.map #[] 0) (Ext.refl w3);have hsm:(w3.alloc (.map #[] 0)).heap.size=w3.heap.size+1:=by simp
   obtain ⟨WQ,hWQ⟩:∃ WQ,WQ=(w3.alloc (.map #[] 0)).alloc (.cells #[.slice A ds.length c,.map (some w3.heap.size)] 52):=⟨_,rfl⟩;have hNM:NumMap WQ w3.heap.size []:=by rw [hWQ];exact (NumMap.made w3).ext (Ext_alloc _ (Ext.refl _))
   have hBX:Box WQ (w3.heap.size+1) #[.slice A ds.length c,.map (some w3.heap.size)] 52:=by rw [hWQ];have:=Box.new (w3.alloc (.map #[] 0)) #[.slice A ds.length c,.map (some w3.heap.size)] 52;rwa [hsm] at this
   have xq:Ext w3 WQ:=by rw [hWQ];exact xm.trans (Ext_alloc _ (Ext.refl _))
   have HWQ:=lhd hWQ;have CD2:=lhd (CD.out w3 WQ (w3.heap.size+1) w3.heap.size [] (HD.out.ext (eA.trans e3)) (HA.out.ext (eA.trans e3)) (HB.out.ext (eA.trans e3)) (HAT1.out w3 e3) (HAT2.out w3 e3) xq (HTAB.out.ext (eA.trans e3)) (Nat.le_refl _) hBX (by omega) hNM HVA.out HVB.out hsa hsb (by simp;omega) (by show 0+22*(k+1)≤1000;omega));have HBX:=lhd hBX;have HE3:=lhd e3;have HXQ:=lhd xq;have hW0l:=HSW.out;have hb3:w.heap.size+1+1+1<w3.heap.size:=by have:=(World.ownsRow.lt HOW.out _ rfl).2;exact this
   clear CD hWQ hNM hBX xm hsm;go_wp2_with fail;rw [← HWQ.out];refine CD2.out.mono ?_;rintro _ w7 ⟨rfl,ts,hch,hnm,hown,hfar,hg7⟩;rw [List.nil_append] at hnm;have HN7:=lhd hnm;have hbx7:Box w7 (w3.heap.size+1) #[.slice A ds.length c,.map (some w3.heap.size)] 52:=Box.moved HBX.out hg7 (fun hh=>by injection hh with hh;omega)
   have hlen:ts.length≤1048577:=by have:=HLEN0.out;rw [← hch,chOf_len] at this;exact this
   have hrow7:Own 41 4 W0 w7 (.slice (some ⟨w.heap.size+1+1+1,0,none⟩) 0 0) 0 []:=(Own.ext HOW.out HXQ.out).keep hg7 (fun g hg hh=>by injection hh with hh;have:some (w.heap.size+1+1+1)=some g:=hg;injection this with this;omega)
   have e7:Ext W0 w7:=(HE3.out.trans HXQ.out).grown hg7 (fun g hg=>by injection hg with hg;omega)
   have c71:∀ w',Ext w7 w'→w'.cell? ⟨w3.heap.size+1,1,none⟩=some (.map (some w3.heap.size)):=fun w' e=>(hbx7.ext e).cell 1
   have HLEN:∀ ty,(Builtin.len_ #[50] ty #[.map (some w3.heap.size)]).run Tryz.prog w7=.ok (.int .i64 (ts.length:Int)) w7:=fun ty=>by have:=HN7.out.len ty;rwa [List.length_map] at this
   have FAR0:Hid (Far ((Value.slice (some ⟨w.heap.size+1+1+1,0,none⟩) 0 0)::cvals ts)):=by
    refine Far.cons hfar ?_;intro u hu g h1 h2;obtain ⟨t,ht,hu⟩:=List.mem_flatMap.1 hu;have h3:=(hown t ht).block u hu g h2;have h4:some (w.heap.size+1+1+1)=some g:=h1
    injection h4 with h4
    have h5:=HXQ.out.size
    omega
   have HOWN:=lhd hown;have HBX7:=lhd hbx7;have HROW:=lhd hrow7;have HCH:=lhd hch;have HMS:=lhd HN7.out.lt;clear hch hnm hown hfar hg7 hrow7 hbx7 HAT1 HAT2 hmm;go_wp2;go_loopw [7,39] (fun tv ix wr=>∃ (j:Nat) (v:Value),j≤ts.length∧ix=.int .i64 j∧tv=v∧Hid (Own 41 4 W0 wr v j ((ts.take j).flatMap ccells))∧Hid (∀ t∈ts,OwnT WQ wr t.2)∧Hid (Far (v::cvals ts))∧Hid (NumMap wr w3.heap.size (ts.map chV))∧Hid (Box wr (w3.heap.size+1) #[.slice A ds.length c,.map (some w3.heap.size)] 52)∧Hid (v.ownBlock≠some w3.heap.size)∧Hid (v.ownBlock≠some (w3.heap.size+1))∧Ext W0 wr∧w7.heap.size≤wr.heap.size) (fun _ ix _=>ts.length-(intOf ix).toNat)
   case atStart =>
    refine ⟨0,_,by omega,rfl,rfl,HROW.out,HOWN.out,FAR0.out,HN7.out,HBX7.out,?_,?_,e7,Nat.le_refl _⟩
    ·intro hh;have h4:some (w.heap.size+1+1+1)=some w3.heap.size:=hh;injection h4 with h4;omega
    ·intro hh;have h4:some (w.heap.size+1+1+1)=some (w3.heap.size+1):=hh;injection h4 with h4;omega
   case round =>
    clear HROW HOWN FAR0 HN7 HBX7 HLEN c71 e7;obtain ⟨j,v,hj,rfl,rfl,hrow,hown,hfar,hnm,hbx,hn1,hn2,he,hsz⟩:=hrel
    by_cases hjl:j<ts.length
    ·have c1:_=some (Value.map (some w3.heap.size)):=hbx.out.cell 1
     have hlk:=hnm.out.look j (by rw [List.length_map];exact hjl) (by omega);rw [List.getElem_map] at hlk;have HTK:=lhd (ccells_take ts j hjl);have hmem:=lhd (List.getElem_mem hjl);have hone:Hid (∀ u∈ccells ts[j],u.oneCell'=true):=fun u hu=>ccells_one (cs:=[ts[j]]) (w0:=WQ) (w:=wr) (fun c hc=>by rw [List.mem_singleton.1 hc];exact hown.out _ hmem.out) u (by simpa using hu)
     unfold numV chV at hlk;have hjj:(0:Int)≤(j:Int):=by omega
     have HCC:Hid (ccells ts[j]=[.string ts[j].1,.int .i64 ts[j].2.num,ts[j].2.vb,ts[j].2.vi]):=rfl
     rw [HCC.out] at HTK hone;generalize ts[j].1=q1 at *;generalize ts[j].2.num=q2 at *;generalize ts[j].2.vb=q3 at *;generalize ts[j].2.vi=q4 at *;clear HCC hmem
     go_wp2_with (first
      | (at_builtin;refine wpList_appE rfl (.tmp 42) (.tmp 50) _ rfl E_chg W0 wr u7 j ((ts.take j).flatMap ccells) rfl hrow.out he [.string q1,.int .i64 q2,q3,q4] _ rfl 1 _ _ rfl rfl rfl hone.out (by simp [maxLen];omega) (by omega) ?_;intro v6 w6 ho6 he6 hb6 hg6))
     have xa:=Ext_alloc (.cells #[.string q1,.int .i64 q2,q3,q4] 41) (Ext.refl wr);have R9:Hid (Own 41 4 W0 w6 v6 (j+1) ((ts.take (j+1)).flatMap ccells)):=by rw [HTK.out];exact ho6
     have hfr:=hfar.out;unfold Far at hfr;rw [List.pairwise_cons] at hfr;have O9:Hid (∀ t∈ts,OwnT WQ w6 t.2):=fun t ht=>((hown.out t ht).ext xa).keep hg6 (fun u hu g hg hh=>hfr.1 u (mem_cvals ht hu) g hh hg)
     have hsa6:(wr.alloc (.cells #[.string q1,.int .i64 q2,q3,q4] 41)).heap.size=wr.heap.size+1:=by simp
     have F9:Hid (Far (v6::cvals ts)):=by
      refine Far.cons hfr.2 ?_;intro u hu g h1 h2;rcases hb6 with h | h
      ·rw [h] at h1;exact hfr.1 u hu g h1 h2
      ·rw [h,hsa6] at h1;injection h1 with h1
       obtain ⟨t,ht,hu⟩:=List.mem_flatMap.1 hu
       have:=(hown.out t ht).block u hu g h2;omega
     have hbl:=HMS.out;have hb7l:=hbx.out.lt
     have N1:Hid (v6.ownBlock≠some w3.heap.size):=by
      rcases hb6 with h | h
      ·show _≠_;rw [h];exact hn1.out
      ·show _≠_;rw [h,hsa6];intro hh;injection hh with hh;omega
     have N2:Hid (v6.ownBlock≠some (w3.heap.size+1)):=by
      rcases hb6 with h | h
      ·show _≠_;rw [h];exact hn2.out
      ·show _≠_;rw [h,hsa6];intro hh;injection hh with hh;omega
     have M9:Hid (NumMap w6 w3.heap.size (ts.map chV)):=(hnm.out.ext xa).kept hg6 (fun hh=>hn1.out hh.symm)
     have B9:Hid (Box w6 (w3.heap.size+1) #[.slice A ds.length c,.map (some w3.heap.size)] 52):=Box.moved (hbx.out.ext xa) hg6 hn2.out
     have S9:Hid (w7.heap.size≤w6.heap.size):=by have:=hg6.size;show _≤_;omega
     clear hfr hsa6 ho6 hb6 hg6 hlk;go_wp2;go_roundw
     case rel=>exact ⟨j+1,v6,by omega,by go_num,rfl,R9,O9,F9,M9,B9,N1,N2,he6,S9.out⟩
     case measure=>simp [intOf];omega
    ·have hj':j=ts.length:=by omega
     have FIN:Hid (OwnC w wr u7 ts):=by
      have hr:=hrow.out;rw [hj',List.take_length] at hr;exact ⟨World.ownsRow.lower hr eA.size,fun t ht=>(hown.out t ht).down (by have:=(HE3.out.trans HXQ.out).size;have:=eA.size;omega),hfar.out⟩
     go_wp2;go_ret;exact ⟨_,ts,rfl,HCH.out,FIN.out,eA.trans he⟩
theorem iCount_c (A:Option Addr) (ds:List DRule) (c:Nat) (a b:DVal) (Aa:Option Addr) (ca:Nat) (Ia:Option Addr) (ia:Nat) (Ab:Option Addr) (cb:Nat) (Ib:Option Addr) (ib:Nat) (w:World) (hd:RdD w A ds c) (hs:ShortD ds) (hw:WfD ds) (ha:RdV w a Aa ca Ia ia) (hb:RdV w b Ab cb Ib ib) (hsa:szV a≤1048576) (hsb:szV b≤1048576) (hT:Tab w) :
 Gives Tryz.prog 13 #[vdesc (.slice A ds.length c),vval a (.slice Aa a.bytes.length ca) (.slice Ia a.items.length ia),vval b (.slice Ab b.bytes.length cb) (.slice Ib b.items.length ib)] w (.int .i64 ((diffD ds a b).length:Nat)):=by
 have CD:=lhd (fun w h1 h2 h3 hT=>iDiffD_c A ds c a b Aa ca Ia ia Ab cb Ib ib w h1 hs hw h2 h3 hsa hsb hT);have HL:Hid (∀ cs,chOf cs=diffD ds a b→cs.length=(diffD ds a b).length∧(diffD ds a b).length≤1048577):=fun cs h=>⟨by rw [← h,chOf_len],diffD_len hsa⟩
 generalize diffD ds a b=DD at *;obtain ⟨W0,HW0,BA,BV,BU,eA,hsA⟩:=boxes3' w #[.slice A ds.length c] #[.int .i64 a.num,.slice Aa a.bytes.length ca,.slice Ia a.items.length ia] #[.int .i64 b.num,.slice Ab b.bytes.length cb,.slice Ib b.items.length ib] 26 29 29;have B0:=BA.at 0;have B1:=BV.at;have B2:=BU.at;simp only [List.getElem?_toArray,List.getElem?_cons_zero] at B0;have HD:=lhd hd;have HA:=lhd ha;have HB:=lhd hb;have HTAB:=lhd hT;clear BA BV BU hd ha hb hsA hT;unfold vdesc vval at *;go_enter Tryz.func13,Tryz.ntmps13;go_wp2_with fail;rw [← HW0.out];refine (CD.out _ (HD.out.ext eA) (HA.out.ext eA) (HB.out.ext eA) (HTAB.out.ext eA)).mono ?_;rintro _ w1 ⟨v,cs,rfl,hcs,hoc,he1⟩;obtain ⟨A1,c1,hv⟩:=hoc.shape;subst hv;obtain ⟨h1,h2⟩:=HL.out cs hcs;rw [h1];clear hoc hcs h1;go_wp2;go_ret;exact ⟨rfl,eA.trans he1⟩
end Go.Proofs.YtlfhealneccdkaaGreatDoor
