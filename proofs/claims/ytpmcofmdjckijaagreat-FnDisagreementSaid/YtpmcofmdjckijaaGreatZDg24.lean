/- Texts, laid into one. -/
import Derived.Test.YtpmcofmdjckijaaGreatZDg21
import Derived.Test.YtpmcofmdjckijaaGreatZDg20
set_option linter.unusedVariables false
set_option linter.unusedSimpArgs false
set_option maxRecDepth 100000
set_option maxHeartbeats 16000000
namespace Go.Proofs.YtpmcofmdjckijaaGreat
open Go.RowKit Go.Sort
theorem range_snoc {α:Type} (f:Nat→α) (k:Nat):(List.range k).map f++[f k]=(List.range (k+1)).map f:=by rw [List.range_succ,List.map_append];rfl
section
variable {P:Program} {ops:Array Oper} {rest:List Oper} {o:Oper} {a:Act} {Q:Exit→Act→World→Prop}
theorem wpList_appIE (hgd:o.guard=none) (s x:Operand) (t:TypeId) (ho:o.op=.call { callee:=.builtin .append,args:=#[s,x],argTypes:=#[t,t] })
 {bytes:Nat} {z:Value} (hE:Elem P t 79 3 bytes z) (w0 w:World) (v:Value) (l ys:List Ins) (hs:a.eval s=v) (hown:OwnI w0 w v l)
 (he:Ext w0 w) (cs:Array Value) (hcs:cs=(ys.flatMap icells).toArray) (m c:Nat) (hm:m=ys.length) (hx:a.eval x=.slice (some ⟨w.heap.size,0,none⟩) m c) (hby:bytes=24) (hb:l.length+ys.length≤1000000)
 (h:∀ v' w',OwnI w0 w' v' (l++ys)→Ext w0 w'→(v'.ownBlock=v.ownBlock∨v'.ownBlock=some (w.heap.size+1))→(w.alloc (.cells cs 79)).grownBy w' v.ownBlock→wpList P ops Q rest (a.put o.dst v') w') :
 wpList P ops Q (o::rest) a (w.alloc (.cells cs 79)):=by
 subst hcs hm hby
 refine wpList_app_any hgd s x t ho hE w0 _ v l.length (l.flatMap icells) hs (World.ownsRow.alloc hown _) (Ext_alloc _ he) (ys.flatMap icells) (some ⟨w.heap.size,0,none⟩) ys.length c hx (icells_len ys) (fun _=>⟨_,rfl,fun j u hj=>?_⟩) (icells_one ys) (by simp only [maxLen];omega) (by omega) ?_
 ·rw [World.cell?_alloc_at'];exact hj
 ·intro v' w' h1 h2 h3 h4
  exact h v' w' (by unfold OwnI;rw [List.length_append,List.flatMap_append];exact h1) h2 (by simpa using h3) h4
end
structure BoxRow (W0 w:World) (g:Nat) (cs:Array Value) (v:Value) (l:List Ins):Prop where
 box:Box w g cs 96
 own:OwnI W0 w v l
 ne:v.ownBlock≠some g
 ext:Ext W0 w
theorem BoxRow.ext' {W0 w w':World} {g:Nat} {cs:Array Value} {v:Value} {l:List Ins} (h:BoxRow W0 w g cs v l) (e:Ext w w'):BoxRow W0 w' g cs v l:=⟨h.box.ext e,h.own.ext e,h.ne,h.ext.trans e⟩
theorem BoxRow.app {W0 w w':World} {g:Nat} {cs cs':Array Value} {v v':Value} {l l':List Ins} {T:TypeId} (h:BoxRow W0 w g cs v l) (ho:OwnI W0 w' v' l') (he:Ext W0 w') (hv:v'.ownBlock=v.ownBlock∨v'.ownBlock=some (w.heap.size+1)) (hg:(w.alloc (.cells cs' T)).grownBy w' v.ownBlock):BoxRow W0 w' g cs v' l' :=
 ⟨(h.box.ext (Ext_alloc _ (Ext.refl _))).moved hg h.ne,ho,by
  rcases hv with hv | hv
  ·rw [hv];exact h.ne
  ·rw [hv];have:=h.box.lt;intro hh;injection hh with hh;omega,he⟩
theorem sRuleC_2 (A:Option Addr) (ds:List DRule) (c:Nat) (hok:descOk ds=true) (i:Nat) (hi:i<ds.length) (E:Option Addr) (es:List Int) (ec:Nat) (start:Nat) (w:World)
 (hd:RdD w A ds c) (hs:ShortD ds) (hw:WfD ds) (hE:Is w E es ec) (hes:i≤es.length) (hst:start≤100000) (hkd:ds[i].kind=2) :
 Calls Tryz.prog 44 #[vdesc (.slice A ds.length c),.int .i64 (i:Int),.int .i64 (start:Int),.slice E es.length ec] w (cRuleRes w (ruleC ds[i] start es)):=by
 unfold cRuleRes;have hl:=hE.len;have hdl:=hd.len;have hdc:=hd.cap;have HKF:=lhd (kids_facts hok i hi hes);have HCF:=code_facts hok i hi;have HKL:=kids_len hok i hi
 have KN:Hid (∀ w',Ext w w'→Gives Tryz.prog 70 #[.agg #[.slice A ds.length c],.int .i64 (i:Int)] w' (.bool true)):=fun w' e=>by
  have:=sKnown_c A ds c (i:Int) w' (hd.ext e) hs hw;rw [known_at hok i hi] at this;exact this
 obtain ⟨b,off,Rb,rb,Rn,rn,Rt,rt,Rk,rk,rfl,hb,hS,hR⟩:=hd.at i hi;obtain ⟨m0,m1,m2,m3,m4,m5,m6,m7⟩:=hR;have HS:=lhd hS;generalize ds[i]=r at *;obtain ⟨W0,hW0⟩:=nmw (w.alloc (.cells #[.slice (some ⟨b,off,none⟩) ds.length c] 26));have e0:Ext w W0:=ka hW0
 have BD:Box W0 w.heap.size #[.slice (some ⟨b,off,none⟩) ds.length c] 26:=kb hW0
 have kD:∀ w',Ext W0 w'→w'.cell? ⟨w.heap.size,0,none⟩=some (Value.slice (some ⟨b,off,none⟩) ds.length c):=BD.at 0
 have hsz:W0.heap.size=w.heap.size+1:=by rw [hW0.out];simp
 have OE:=OwnI.empty (Ext.refl W0);have X1:=Ext_alloc (.cells #[] 79) (Ext.refl W0);have d0:=kD _ X1;rw [hW0.out] at d0;rw [hsz] at OE;have HOE:=lhd OE;have HX1:=lhd X1;have h1:=r.kind;have CO:=lhd (fun o a b w=>sOp_c o a b w);have HKA:Hid (∀ t,(ht:t<r.kids.length)→r.kids[t]=((kd r t:Nat):Int)):=fun t ht=>vrule_kids HKF.out ht
 have CC:Hid (∀ t,(ht:t<r.kids.length)→∀ w',Ext w w'→Gives Tryz.prog 75 #[.slice E es.length ec,.int .i64 ((kd r t:Nat):Int)] w' (.agg #[.int .i64 9,.int .i64 (callI r es t).2.1,.int .i64 0])):=fun t ht w' e=>by
  have h1:=(HKF.out t ht).1
  have:=sCall_c E es ec (kd r t) h1 w' (hE.ext e);rw [callI_at h1];exact this
 have HEI:=lhd hE;have hi':(i:Int)<(ds.length:Int):=by omega
 have hes':decide ((es.length:Int)<(i:Int))=false:=by simp;omega
 have hesN:decide (es.length<i)=false:=by simp;omega
 clear hS hd hs hw hE BD OE X1 h1 hes hsz hi;have hb16:r.bytes.length≤16:=HCF.1 hkd
 have HR:Hid (ruleC r start es=(r.bytes).map (fun b=>((2,(b.toNat:Int),0):Ins))++[(10,0,0)]):=by show _=_;unfold ruleC bodyC;rw [if_neg (by omega),if_pos hkd]
 clear HKL HCF;unfold vdesc;go_enter Tryz.func44,Tryz.ntmps44;go_wp2_with fail;rw [← hW0.out];refine (KN.out _ (e0.trans HX1.out)).mono ?_;rintro _ w1 ⟨rfl,e1⟩;have E1:Ext W0 w1:=HX1.out.trans e1
 have HO1:=lhd (HOE.out.ext e1);have E01:=e0.trans E1;have g0:=kD w1 E1;have g1:=m1 w1 E01;have g2:=m2 w1 E01;have g3:=m3 w1 E01;have g4:=m4 w1 E01;have g5:=m5 w1 E01;have g6:=m6 w1 E01;have g7:=m7 w1 E01;have g8:=m0 w1 E01;obtain ⟨W2,hW2⟩:=nmw (w1.alloc (.cells #[.string r.nm,.int .i64 2,.int .i64 r.size,.bool r.little,.slice Rb r.bytes.length rb,.slice Rn r.names.length rn,.slice Rt r.tags.length rt,.slice Rk r.kids.length rk] 96));have e2:Ext w1 W2:=ka hW2
 have BR:Box W2 w1.heap.size #[.string r.nm,.int .i64 2,.int .i64 r.size,.bool r.little,.slice Rb r.bytes.length rb,.slice Rn r.names.length rn,.slice Rt r.tags.length rt,.slice Rk r.kids.length rk] 96:=kb hW2
 have E2:Ext W0 W2:=E1.trans e2
 have E02:Ext w W2:=e0.trans E2
 have k0:∀ w',Ext W2 w'→_=some (Value.string r.nm):=BR.at 0
 have k1:∀ w',Ext W2 w'→_=some (Value.int .i64 2):=BR.at 1
 have k2:∀ w',Ext W2 w'→_=some (Value.int .i64 r.size):=BR.at 2
 have k3:∀ w',Ext W2 w'→_=some (Value.bool r.little):=BR.at 3
 have k4:∀ w',Ext W2 w'→_=some (Value.slice Rb r.bytes.length rb):=BR.at 4
 have k5:∀ w',Ext W2 w'→_=some (Value.slice Rn r.names.length rn):=BR.at 5
 have k6:∀ w',Ext W2 w'→_=some (Value.slice Rt r.tags.length rt):=BR.at 6
 have k7:∀ w',Ext W2 w'→_=some (Value.slice Rk r.kids.length rk):=BR.at 7
 have HO2:=lhd (HO1.out.ext e2);have hne1:w.heap.size+1≠w1.heap.size:=by have h1:=e1.size;simp at h1;rw [hW0.out] at h1;simp at h1;omega
 have HNE:=lhd hne1;clear hne1;have u1:=k1 W2 (Ext.refl _);rw [hW2.out] at u1;rw [hkd] at g1;clear HO1 HOE d0 m0 m1 m2 m3 m4 m5 m6 m7 HX1 KN;have HBX:Hid (BoxRow W0 W2 w1.heap.size #[.string r.nm,.int .i64 2,.int .i64 r.size,.bool r.little,.slice Rb r.bytes.length rb,.slice Rn r.names.length rn,.slice Rt r.tags.length rt,.slice Rk r.kids.length rk] (.slice (some ⟨w.heap.size+1,0,none⟩) 0 0) []):=⟨BR,HO2.out,by show some _≠_;intro hh;injection hh with hh;exact HNE.out hh,E2⟩
 clear HO2 BR;go_wp2_with fail;rw [← hW2.out];clear hes' hesN hi';go_loopw [9,11] (fun v q wr=>∃ k:Nat,k≤r.bytes.length∧q=.int .i64 (k:Int)∧Hid (BoxRow W0 wr w1.heap.size #[.string r.nm,.int .i64 2,.int .i64 r.size,.bool r.little,.slice Rb r.bytes.length rb,.slice Rn r.names.length rn,.slice Rt r.tags.length rt,.slice Rk r.kids.length rk] v ((r.bytes.take (k)).map (fun b=>((2,(b.toNat:Int),0):Ins))))) (fun _ q _=>r.bytes.length-(intOf q).toNat)
 case atStart=>exact ⟨0,by omega,rfl,HBX.out⟩
 case round =>
  clear HBX;obtain ⟨k,hk,rfl,hB⟩:=hrel;have bx:=hB.out.box;have b4:wr.cell? ⟨w1.heap.size,4,none⟩=some (Value.slice Rb r.bytes.length rb):=bx.cell 4
  have b7:wr.cell? ⟨w1.heap.size,7,none⟩=some (Value.slice Rk r.kids.length rk):=bx.cell 7
  by_cases hlt:k<r.bytes.length
  ·obtain ⟨bt,ot,hRb,hbt,hct⟩:=HS.out.b.at k hlt
   rw [hRb] at b4;have hct':wr.cell? ⟨bt,ot+k,none⟩=some (.int .u8 r.bytes[k].toNat):=hct wr (e0.trans hB.out.ext)
   have hb8:=r.bytes[k].toNat_lt;have HB:Hid (((r.bytes.take (k)).map (fun b=>((2,(b.toNat:Int),0):Ins))).length+[((2:Int),(r.bytes[k].toNat:Int),(0:Int))].length≤1000000):=by show _≤_;simp;omega
   have HT:Hid ((r.bytes.take (k)).map (fun b=>((2,(b.toNat:Int),0):Ins))++[((2:Int),(r.bytes[k].toNat:Int),(0:Int))]=(r.bytes.take (k+1)).map (fun b=>((2,(b.toNat:Int),0):Ins))):=take_snoc' _ _ _ hlt
   generalize r.bytes[k]=x at *;clear hct hRb;clear bx;go_wp2_with fail;refine (CO.out 2 (x.toNat:Int) 0 _).mono ?_;rintro _ w5 ⟨rfl,e5⟩;have HB5:=lhd (hB.out.ext' e5)
   go_wp2_with (first
    | (at_builtin;go_must (refine wpList_appIE rfl (.tmp 60) (.tmp 68) _ rfl E_ins W0 w5 u9 ((r.bytes.take (k)).map (fun b=>((2,(b.toNat:Int),0):Ins))) [((2:Int),(x.toNat:Int),(0:Int))] rfl HB5.out.own HB5.out.ext _ rfl 1 1 rfl rfl rfl HB.out ?_);intro v3 w3 ho3 he3 hv3 hg3;rw [HT.out] at ho3))
   have HN:=lhd (HB5.out.app ho3 he3 hv3 hg3);clear ho3 he3 hv3 hg3 HB5 HB HT;go_roundw
   case rel=>exact ⟨k+1,by omega,by go_num,HN.out⟩
   case measure=>simp [intOf];omega
  ·obtain rfl:k=r.bytes.length:=by omega
   have ho7:=hB.out.own;rw [List.take_length] at ho7;have he7:=hB.out.ext;have HBT:Hid ((r.bytes.map fun b=>((2,(b.toNat:Int),0):Ins)).length+[((10:Int),(0:Int),(0:Int))].length≤1000000):=by show _≤_;simp;omega
   clear hB bx;go_wp2_with fail;refine (CO.out 10 0 0 _).mono ?_;rintro _ w8 ⟨rfl,e8⟩;have HO8:=lhd (ho7.ext e8);have he8:=he7.trans e8
   go_wp2_with (first
    | (at_builtin;go_must (refine wpList_appI rfl (.tmp 167) (.tmp 169) _ rfl E_ins W0 w8 u9 (r.bytes.map fun b=>((2,(b.toNat:Int),0):Ins)) [(10,0,0)] rfl HO8.out he8 _ rfl 1 1 rfl rfl rfl HBT.out ?_);intro v9 w9 ho9 he9))
   go_ret;exact ⟨_,rfl,(by rw [HR.out];exact ho9.down e0.size),e0.trans he9⟩
theorem sRuleC_6 (A:Option Addr) (ds:List DRule) (c:Nat) (hok:descOk ds=true) (i:Nat) (hi:i<ds.length) (E:Option Addr) (es:List Int) (ec:Nat) (start:Nat) (w:World)
 (hd:RdD w A ds c) (hs:ShortD ds) (hw:WfD ds) (hE:Is w E es ec) (hes:i≤es.length) (hst:start≤100000) (hkd:ds[i].kind=6) :
 Calls Tryz.prog 44 #[vdesc (.slice A ds.length c),.int .i64 (i:Int),.int .i64 (start:Int),.slice E es.length ec] w (cRuleRes w (ruleC ds[i] start es)):=by
 unfold cRuleRes;have hl:=hE.len;have hdl:=hd.len;have hdc:=hd.cap;have HKF:=lhd (kids_facts hok i hi hes);have HCF:=code_facts hok i hi;have HKL:=kids_len hok i hi
 have KN:Hid (∀ w',Ext w w'→Gives Tryz.prog 70 #[.agg #[.slice A ds.length c],.int .i64 (i:Int)] w' (.bool true)):=fun w' e=>by
  have:=sKnown_c A ds c (i:Int) w' (hd.ext e) hs hw;rw [known_at hok i hi] at this;exact this
 obtain ⟨b,off,Rb,rb,Rn,rn,Rt,rt,Rk,rk,rfl,hb,hS,hR⟩:=hd.at i hi;obtain ⟨m0,m1,m2,m3,m4,m5,m6,m7⟩:=hR;have HS:=lhd hS;generalize ds[i]=r at *;obtain ⟨W0,hW0⟩:=nmw (w.alloc (.cells #[.slice (some ⟨b,off,none⟩) ds.length c] 26));have e0:Ext w W0:=ka hW0
 have BD:Box W0 w.heap.size #[.slice (some ⟨b,off,none⟩) ds.length c] 26:=kb hW0
 have kD:∀ w',Ext W0 w'→w'.cell? ⟨w.heap.size,0,none⟩=some (Value.slice (some ⟨b,off,none⟩) ds.length c):=BD.at 0
 have hsz:W0.heap.size=w.heap.size+1:=by rw [hW0.out];simp
 have OE:=OwnI.empty (Ext.refl W0);have X1:=Ext_alloc (.cells #[] 79) (Ext.refl W0);have d0:=kD _ X1;rw [hW0.out] at d0;rw [hsz] at OE;have HOE:=lhd OE;have HX1:=lhd X1;have h1:=r.kind;have CO:=lhd (fun o a b w=>sOp_c o a b w);have HKA:Hid (∀ t,(ht:t<r.kids.length)→r.kids[t]=((kd r t:Nat):Int)):=fun t ht=>vrule_kids HKF.out ht
 have CC:Hid (∀ t,(ht:t<r.kids.length)→∀ w',Ext w w'→Gives Tryz.prog 75 #[.slice E es.length ec,.int .i64 ((kd r t:Nat):Int)] w' (.agg #[.int .i64 9,.int .i64 (callI r es t).2.1,.int .i64 0])):=fun t ht w' e=>by
  have h1:=(HKF.out t ht).1
  have:=sCall_c E es ec (kd r t) h1 w' (hE.ext e);rw [callI_at h1];exact this
 have HEI:=lhd hE;have hi':(i:Int)<(ds.length:Int):=by omega
 have hes':decide ((es.length:Int)<(i:Int))=false:=by simp;omega
 have hesN:decide (es.length<i)=false:=by simp;omega
 clear hS hd hs hw hE BD OE X1 h1 hes hsz hi;have hb16:r.kids.length≤8:=HCF.2.1 hkd
 have HR:Hid (ruleC r start es=(List.range (r.kids.length)).map (callI r es)++[(10,0,0)]):=by show _=_;unfold ruleC bodyC;rw [if_neg (by omega),if_neg (by omega),if_neg (by omega),if_neg (by omega),if_neg (by omega),if_pos hkd]
 clear HKL HCF;unfold vdesc;go_enter Tryz.func44,Tryz.ntmps44;go_wp2_with fail;rw [← hW0.out];refine (KN.out _ (e0.trans HX1.out)).mono ?_;rintro _ w1 ⟨rfl,e1⟩;have E1:Ext W0 w1:=HX1.out.trans e1
 have HO1:=lhd (HOE.out.ext e1);have E01:=e0.trans E1;have g0:=kD w1 E1;have g1:=m1 w1 E01;have g2:=m2 w1 E01;have g3:=m3 w1 E01;have g4:=m4 w1 E01;have g5:=m5 w1 E01;have g6:=m6 w1 E01;have g7:=m7 w1 E01;have g8:=m0 w1 E01;obtain ⟨W2,hW2⟩:=nmw (w1.alloc (.cells #[.string r.nm,.int .i64 6,.int .i64 r.size,.bool r.little,.slice Rb r.bytes.length rb,.slice Rn r.names.length rn,.slice Rt r.tags.length rt,.slice Rk r.kids.length rk] 96));have e2:Ext w1 W2:=ka hW2
 have BR:Box W2 w1.heap.size #[.string r.nm,.int .i64 6,.int .i64 r.size,.bool r.little,.slice Rb r.bytes.length rb,.slice Rn r.names.length rn,.slice Rt r.tags.length rt,.slice Rk r.kids.length rk] 96:=kb hW2
 have E2:Ext W0 W2:=E1.trans e2
 have E02:Ext w W2:=e0.trans E2
 have k0:∀ w',Ext W2 w'→_=some (Value.string r.nm):=BR.at 0
 have k1:∀ w',Ext W2 w'→_=some (Value.int .i64 6):=BR.at 1
 have k2:∀ w',Ext W2 w'→_=some (Value.int .i64 r.size):=BR.at 2
 have k3:∀ w',Ext W2 w'→_=some (Value.bool r.little):=BR.at 3
 have k4:∀ w',Ext W2 w'→_=some (Value.slice Rb r.bytes.length rb):=BR.at 4
 have k5:∀ w',Ext W2 w'→_=some (Value.slice Rn r.names.length rn):=BR.at 5
 have k6:∀ w',Ext W2 w'→_=some (Value.slice Rt r.tags.length rt):=BR.at 6
 have k7:∀ w',Ext W2 w'→_=some (Value.slice Rk r.kids.length rk):=BR.at 7
 have HO2:=lhd (HO1.out.ext e2);have hne1:w.heap.size+1≠w1.heap.size:=by have h1:=e1.size;simp at h1;rw [hW0.out] at h1;simp at h1;omega
 have HNE:=lhd hne1;clear hne1;have u1:=k1 W2 (Ext.refl _);rw [hW2.out] at u1;rw [hkd] at g1;clear HO1 HOE d0 m0 m1 m2 m3 m4 m5 m6 m7 HX1 KN;have HBX:Hid (BoxRow W0 W2 w1.heap.size #[.string r.nm,.int .i64 6,.int .i64 r.size,.bool r.little,.slice Rb r.bytes.length rb,.slice Rn r.names.length rn,.slice Rt r.tags.length rt,.slice Rk r.kids.length rk] (.slice (some ⟨w.heap.size+1,0,none⟩) 0 0) []):=⟨BR,HO2.out,by show some _≠_;intro hh;injection hh with hh;exact HNE.out hh,E2⟩
 clear HO2 BR;go_wp2_with fail;rw [← hW2.out];clear hes' hesN hi';go_loopw [9,12] (fun v q wr=>∃ k:Nat,k≤r.kids.length∧q=.int .i64 (k:Int)∧Hid (BoxRow W0 wr w1.heap.size #[.string r.nm,.int .i64 6,.int .i64 r.size,.bool r.little,.slice Rb r.bytes.length rb,.slice Rn r.names.length rn,.slice Rt r.tags.length rt,.slice Rk r.kids.length rk] v ((List.range (k)).map (callI r es)))) (fun _ q _=>r.kids.length-(intOf q).toNat)
 case atStart=>exact ⟨0,by omega,rfl,HBX.out⟩
 case round =>
  clear HBX;obtain ⟨k,hk,rfl,hB⟩:=hrel;have bx:=hB.out.box;have b4:wr.cell? ⟨w1.heap.size,4,none⟩=some (Value.slice Rb r.bytes.length rb):=bx.cell 4
  have b7:wr.cell? ⟨w1.heap.size,7,none⟩=some (Value.slice Rk r.kids.length rk):=bx.cell 7
  by_cases hlt:k<r.kids.length
  ·obtain ⟨bt,ot,hRk,hbt,hct⟩:=HS.out.k.at k hlt
   rw [hRk] at b7;rw [HKA.out k hlt] at hct;have hct':wr.cell? ⟨bt,ot+k,none⟩=some (.int .i64 ((kd r k:Nat):Int)):=hct wr (e0.trans hB.out.ext)
   have CK:=lhd (CC.out k hlt);have HB:Hid (((List.range (k)).map (callI r es)).length+[callI r es k].length≤1000000):=by show _≤_;simp;omega
   have HT:Hid ((List.range (k)).map (callI r es)++[callI r es k]=(List.range (k+1)).map (callI r es)):=range_snoc _ _
   clear hct hRk;clear bx;go_wp2_with fail;refine (CK.out _ (e0.trans hB.out.ext)).mono ?_;rintro _ w5 ⟨rfl,e5⟩;have HB5:=lhd (hB.out.ext' e5)
   go_wp2_with (first
    | (at_builtin;go_must (refine wpList_appIE rfl (.tmp 124) (.tmp 132) _ rfl E_ins W0 w5 u9 ((List.range (k)).map (callI r es)) [callI r es k] rfl HB5.out.own HB5.out.ext _ rfl 1 1 rfl rfl rfl HB.out ?_);intro v3 w3 ho3 he3 hv3 hg3;rw [HT.out] at ho3))
   have HN:=lhd (HB5.out.app ho3 he3 hv3 hg3);clear ho3 he3 hv3 hg3 HB5 HB HT;go_roundw
   case rel=>exact ⟨k+1,by omega,by go_num,HN.out⟩
   case measure=>simp [intOf];omega
  ·obtain rfl:k=r.kids.length:=by omega
   have ho7:=hB.out.own
   skip
   have he7:=hB.out.ext;have HBT:Hid (((List.range (r.kids.length)).map (callI r es)).length+[((10:Int),(0:Int),(0:Int))].length≤1000000):=by show _≤_;simp;omega
   clear hB bx;go_wp2_with fail;refine (CO.out 10 0 0 _).mono ?_;rintro _ w8 ⟨rfl,e8⟩;have HO8:=lhd (ho7.ext e8);have he8:=he7.trans e8
   go_wp2_with (first
    | (at_builtin;go_must (refine wpList_appI rfl (.tmp 167) (.tmp 169) _ rfl E_ins W0 w8 u9 ((List.range (r.kids.length)).map (callI r es)) [(10,0,0)] rfl HO8.out he8 _ rfl 1 1 rfl rfl rfl HBT.out ?_);intro v9 w9 ho9 he9))
   go_ret;exact ⟨_,rfl,(by rw [HR.out];exact ho9.down e0.size),e0.trans he9⟩
theorem sRuleC_7 (A:Option Addr) (ds:List DRule) (c:Nat) (hok:descOk ds=true) (i:Nat) (hi:i<ds.length) (E:Option Addr) (es:List Int) (ec:Nat) (start:Nat) (w:World)
 (hd:RdD w A ds c) (hs:ShortD ds) (hw:WfD ds) (hE:Is w E es ec) (hes:i≤es.length) (hst:start≤100000) (hkd:ds[i].kind=7) :
 Calls Tryz.prog 44 #[vdesc (.slice A ds.length c),.int .i64 (i:Int),.int .i64 (start:Int),.slice E es.length ec] w (cRuleRes w (ruleC ds[i] start es)):=by
 unfold cRuleRes;have hl:=hE.len;have hdl:=hd.len;have hdc:=hd.cap;have HKF:=lhd (kids_facts hok i hi hes);have HCF:=code_facts hok i hi;have HKL:=kids_len hok i hi
 have KN:Hid (∀ w',Ext w w'→Gives Tryz.prog 70 #[.agg #[.slice A ds.length c],.int .i64 (i:Int)] w' (.bool true)):=fun w' e=>by
  have:=sKnown_c A ds c (i:Int) w' (hd.ext e) hs hw;rw [known_at hok i hi] at this;exact this
 obtain ⟨b,off,Rb,rb,Rn,rn,Rt,rt,Rk,rk,rfl,hb,hS,hR⟩:=hd.at i hi;obtain ⟨m0,m1,m2,m3,m4,m5,m6,m7⟩:=hR;have HS:=lhd hS;generalize ds[i]=r at *;obtain ⟨W0,hW0⟩:=nmw (w.alloc (.cells #[.slice (some ⟨b,off,none⟩) ds.length c] 26));have e0:Ext w W0:=ka hW0
 have BD:Box W0 w.heap.size #[.slice (some ⟨b,off,none⟩) ds.length c] 26:=kb hW0
 have kD:∀ w',Ext W0 w'→w'.cell? ⟨w.heap.size,0,none⟩=some (Value.slice (some ⟨b,off,none⟩) ds.length c):=BD.at 0
 have hsz:W0.heap.size=w.heap.size+1:=by rw [hW0.out];simp
 have OE:=OwnI.empty (Ext.refl W0);have X1:=Ext_alloc (.cells #[] 79) (Ext.refl W0);have d0:=kD _ X1;rw [hW0.out] at d0;rw [hsz] at OE;have HOE:=lhd OE;have HX1:=lhd X1;have h1:=r.kind;have CO:=lhd (fun o a b w=>sOp_c o a b w);have HKA:Hid (∀ t,(ht:t<r.kids.length)→r.kids[t]=((kd r t:Nat):Int)):=fun t ht=>vrule_kids HKF.out ht
 have CC:Hid (∀ t,(ht:t<r.kids.length)→∀ w',Ext w w'→Gives Tryz.prog 75 #[.slice E es.length ec,.int .i64 ((kd r t:Nat):Int)] w' (.agg #[.int .i64 9,.int .i64 (callI r es t).2.1,.int .i64 0])):=fun t ht w' e=>by
  have h1:=(HKF.out t ht).1
  have:=sCall_c E es ec (kd r t) h1 w' (hE.ext e);rw [callI_at h1];exact this
 have HEI:=lhd hE;have hi':(i:Int)<(ds.length:Int):=by omega
 have hes':decide ((es.length:Int)<(i:Int))=false:=by simp;omega
 have hesN:decide (es.length<i)=false:=by simp;omega
 clear hS hd hs hw hE BD OE X1 h1 hes hsz hi;have hb8:r.tags.length≤8:=HCF.2.2.1 hkd
 have HK7:=lhd (HKL.2.2.2.1 hkd).1;have HR:Hid (ruleC r start es=choC r start es++[(10,0,0)]):=by show _=_;unfold ruleC bodyC;rw [if_neg (by omega),if_neg (by omega),if_neg (by omega),if_neg (by omega),if_neg (by omega),if_neg (by omega),if_pos hkd]
 clear HKL HCF;unfold vdesc;go_enter Tryz.func44,Tryz.ntmps44;go_wp2_with fail;rw [← hW0.out];refine (KN.out _ (e0.trans HX1.out)).mono ?_;rintro _ w1 ⟨rfl,e1⟩;have E1:Ext W0 w1:=HX1.out.trans e1
 have HO1:=lhd (HOE.out.ext e1);have E01:=e0.trans E1;have g0:=kD w1 E1;have g1:=m1 w1 E01;have g2:=m2 w1 E01;have g3:=m3 w1 E01;have g4:=m4 w1 E01;have g5:=m5 w1 E01;have g6:=m6 w1 E01;have g7:=m7 w1 E01;have g8:=m0 w1 E01;obtain ⟨W2,hW2⟩:=nmw (w1.alloc (.cells #[.string r.nm,.int .i64 7,.int .i64 r.size,.bool r.little,.slice Rb r.bytes.length rb,.slice Rn r.names.length rn,.slice Rt r.tags.length rt,.slice Rk r.kids.length rk] 96));have e2:Ext w1 W2:=ka hW2
 have BR:Box W2 w1.heap.size #[.string r.nm,.int .i64 7,.int .i64 r.size,.bool r.little,.slice Rb r.bytes.length rb,.slice Rn r.names.length rn,.slice Rt r.tags.length rt,.slice Rk r.kids.length rk] 96:=kb hW2
 have E2:Ext W0 W2:=E1.trans e2
 have E02:Ext w W2:=e0.trans E2
 have k0:∀ w',Ext W2 w'→_=some (Value.string r.nm):=BR.at 0
 have k1:∀ w',Ext W2 w'→_=some (Value.int .i64 7):=BR.at 1
 have k2:∀ w',Ext W2 w'→_=some (Value.int .i64 r.size):=BR.at 2
 have k3:∀ w',Ext W2 w'→_=some (Value.bool r.little):=BR.at 3
 have k4:∀ w',Ext W2 w'→_=some (Value.slice Rb r.bytes.length rb):=BR.at 4
 have k5:∀ w',Ext W2 w'→_=some (Value.slice Rn r.names.length rn):=BR.at 5
 have k6:∀ w',Ext W2 w'→_=some (Value.slice Rt r.tags.length rt):=BR.at 6
 have k7:∀ w',Ext W2 w'→_=some (Value.slice Rk r.kids.length rk):=BR.at 7
 have HO2:=lhd (HO1.out.ext e2);have hne1:w.heap.size+1≠w1.heap.size:=by have h1:=e1.size;simp at h1;rw [hW0.out] at h1;simp at h1;omega
 have HNE:=lhd hne1;clear hne1;have u1:=k1 W2 (Ext.refl _);rw [hW2.out] at u1;rw [hkd] at g1;clear HO1 HOE d0 m0 m1 m2 m3 m4 m5 m6 m7 HX1 KN
 have CH:Hid (∀ w',Ext w w'→Calls Tryz.prog 76 #[.agg #[.string r.nm,.int .i64 7,.int .i64 r.size,.bool r.little,.slice Rb r.bytes.length rb,.slice Rn r.names.length rn,.slice Rt r.tags.length rt,.slice Rk r.kids.length rk],.int .i64 (start:Int),.slice E es.length ec] w' fun e w''=>∃ v,e=.returned v∧OwnI w' w'' v (choC r start es)∧Ext w' w''):=fun w' e=>by
  have:=sChoiceC_c E es ec r Rb rb Rn rn Rt rt Rk rk start w' (HEI.out.ext e) (HS.out.ext e) HK7.out HKF.out hb8 hst;unfold vrule at this;rwa [hkd] at this
 have HBT:Hid ((choC r start es).length+[((10:Int),(0:Int),(0:Int))].length≤1000000):=by
  show _≤_
  have h1:=tagsC_len r start r.tags.length;have h2:=altsC_len r es r.tags.length;unfold choC;simp;omega
 go_wp2_with fail;rw [← hW2.out];refine (CH.out _ E02).mono ?_;rintro _ w5 ⟨v7,rfl,ho5,e5⟩;have ho7:OwnI W0 w5 v7 (choC r start es):=ho5.down E2.size
 have he7:=E2.trans e5;clear ho5;go_wp2_with fail;refine (CO.out 10 0 0 _).mono ?_;rintro _ w8 ⟨rfl,e8⟩;have HO8:=lhd (ho7.ext e8);have he8:=he7.trans e8
 go_wp2_with (first
  | (at_builtin;go_must (refine wpList_appI rfl (.tmp 167) (.tmp 169) _ rfl E_ins W0 w8 v7 (choC r start es) [(10,0,0)] rfl HO8.out he8 _ rfl 1 1 rfl rfl rfl HBT.out ?_);intro v9 w9 ho9 he9))
 go_ret;exact ⟨_,rfl,(by rw [HR.out];exact ho9.down e0.size),e0.trans he9⟩
theorem sRuleC_c (A:Option Addr) (ds:List DRule) (c:Nat) (hok:descOk ds=true) (i:Nat) (hi:i<ds.length) (E:Option Addr) (es:List Int) (ec:Nat) (start:Nat) (w:World)
 (hd:RdD w A ds c) (hs:ShortD ds) (hw:WfD ds) (hE:Is w E es ec) (hes:i≤es.length) (hst:start≤100000) :
 Calls Tryz.prog 44 #[vdesc (.slice A ds.length c),.int .i64 (i:Int),.int .i64 (start:Int),.slice E es.length ec] w (cRuleRes w (ruleC ds[i] start es)):=by
 have hk:=(ruleFacts hok i hi).kind;rcases (by omega:ds[i].kind=1∨ds[i].kind=2∨ds[i].kind=3∨ds[i].kind=4∨ds[i].kind=5∨ds[i].kind=6∨ds[i].kind=7∨ds[i].kind=8∨ds[i].kind=9∨ds[i].kind=10) with h | h | h | h | h | h | h | h | h | h
 ·exact sRuleC_1 A ds c hok i hi E es ec start w hd hs hw hE hes hst h
 ·exact sRuleC_2 A ds c hok i hi E es ec start w hd hs hw hE hes hst h
 ·exact sRuleC_3 A ds c hok i hi E es ec start w hd hs hw hE hes hst h
 ·exact sRuleC_4 A ds c hok i hi E es ec start w hd hs hw hE hes hst h
 ·exact sRuleC_5 A ds c hok i hi E es ec start w hd hs hw hE hes hst h
 ·exact sRuleC_6 A ds c hok i hi E es ec start w hd hs hw hE hes hst h
 ·exact sRuleC_7 A ds c hok i hi E es ec start w hd hs hw hE hes hst h
 ·exact sRuleC_8 A ds c hok i hi E es ec start w hd hs hw hE hes hst h
 ·exact sRuleC_9 A ds c hok i hi E es ec start w hd hs hw hE hes hst h
 ·exact sRuleC_10 A ds c hok i hi E es ec start w hd hs hw hE hes hst h
def RdI (w:World) (A:Option Addr) (l:List Ins) (c:Nat):Prop :=
 l.length≤c∧l.length≤1000000∧(0<l.length→∃ b off,A=some ⟨b,off,none⟩∧b<w.heap.size∧∀ (w':World),Ext w w'→∀ i (h:i<l.length),
  w'.cell? ⟨b,off+i*3,none⟩=some (.int .i64 l[i].1)∧w'.cell? ⟨b,off+i*3+1,none⟩=some (.int .i64 l[i].2.1)∧w'.cell? ⟨b,off+i*3+2,none⟩=some (.int .i64 l[i].2.2))
theorem RdI.ext {w w1:World} {A:Option Addr} {l:List Ins} {c:Nat} (h:RdI w A l c) (e:Ext w w1):RdI w1 A l c :=
 ⟨h.1,h.2.1,fun hp=>let ⟨b,off,h1,h2,h3⟩:=h.2.2 hp;⟨b,off,h1,Nat.lt_of_lt_of_le h2 e.size,fun w' e'=>h3 w' (e.trans e')⟩⟩
theorem RdI.len {w:World} {A:Option Addr} {l:List Ins} {c:Nat} (h:RdI w A l c):l.length≤1000000:=h.2.1
theorem RdI.cap {w:World} {A:Option Addr} {l:List Ins} {c:Nat} (h:RdI w A l c):l.length≤c:=h.1
theorem RdI.at {w:World} {A:Option Addr} {l:List Ins} {c:Nat} (h:RdI w A l c) (k:Nat) (hk:k<l.length) :
 ∃ b off,A=some ⟨b,off,none⟩∧b<w.heap.size∧∀ (w':World),Ext w w'→w'.cell? ⟨b,off+k*3,none⟩=some (.int .i64 l[k].1)∧w'.cell? ⟨b,off+k*3+1,none⟩=some (.int .i64 l[k].2.1)∧w'.cell? ⟨b,off+k*3+2,none⟩=some (.int .i64 l[k].2.2) :=
 let ⟨b,off,h1,h2,h3⟩:=h.2.2 (by omega)
 ⟨b,off,h1,h2,fun w' e=>h3 w' e k hk⟩
theorem icells_get:∀ (l:List Ins) (i j:Nat) (h:i<l.length),j<3→(l.flatMap icells)[i*3+j]?=(icells l[i])[j]?:=by
 intro l
 induction l with
 | nil=>intro i j h;simp at h
 | cons p t ih =>
  intro i j h hj;rw [List.flatMap_cons];cases i with
  | zero=>rw [List.getElem?_append_left (by simp [icells];omega)];simp
  | succ i =>
   rw [List.getElem?_append_right (by simp [icells];omega)]
   have:(i+1)*3+j-(icells p).length=i*3+j:=by simp [icells];omega
   rw [this,ih i j (by simpa using h) hj];simp
theorem row_cell {w w':World} {g:Nat} {cur:Array Value} {T:TypeId} (h:w.heap[g]?=some (.cells cur T (0,0))) (e:Ext w w') (j:Nat):w'.cell? ⟨g,j,none⟩=cur[j]? :=
 cell_of_row w' g j cur T (0,0) (heap_ext' h e)
theorem OwnI.rd {w0 w:World} {v:Value} {l:List Ins} (h:OwnI w0 w v l) (hl:l.length≤1000000):∃ A c,v=.slice A l.length c∧RdI w A l c:=by
 rcases h.2 with ⟨rfl,h0⟩ | ⟨g,cap,cur,rfl,hb,hg,hnc,hcm,hcs,htake⟩
 ·exact ⟨none,0,by rw [h0],by omega,hl,fun hp=>by omega⟩
 ·refine ⟨_,_,rfl,hnc,hl,fun _=>⟨g,0,rfl,(Array.getElem?_eq_some_iff.1 hg).1,fun w' e i hi=>?_⟩⟩
  have hc:∀ j,j<3→w'.cell? ⟨g,i*3+j,none⟩=(icells l[i])[j]?:=by
   intro j hj;rw [row_cell hg e,← icells_get l i j hi hj,← htake,List.getElem?_take,if_pos (by omega)];simp
  rw [Nat.zero_add];exact ⟨by have:=hc 0 (by omega);simpa [icells] using this,by have:=hc 1 (by omega);simpa [icells] using this,by have:=hc 2 (by omega);simpa [icells] using this⟩
theorem OwnI.src {w0 w w':World} {A:Option Addr} {c:Nat} {l:List Ins} (h:OwnI w0 w (.slice A l.length c) l) (e:Ext w w'):0<l.length→∃ ad,A=some ad∧∀ j u,(l.flatMap icells)[j]?=some u→w'.cell? (ad.add j)=some u:=by
 intro hp;rcases h.2 with ⟨hv,h0⟩ | ⟨g,cap,cur,hv,hb,hg,hnc,hcm,hcs,htake⟩
 ·omega
 ·injection hv with h1 _ _
  refine ⟨_,h1,fun j u hu=>?_⟩;have hadd:(⟨g,0,none⟩:Addr).add j=⟨g,j,none⟩:=by unfold Addr.add;split<;>simp_all
  rw [hadd,row_cell hg e j,← hu,← htake,List.getElem?_take]
  have:j<l.length*3:=by
   rcases Nat.lt_or_ge j (l.flatMap icells).length with h' | h'
   ·rwa [icells_len] at h'
   ·rw [List.getElem?_eq_none h'] at hu;cases hu
  rw [if_pos this];simp
section
variable {P:Program} {ops:Array Oper} {o:Oper} {a:Act} {Q:Exit→Act→World→Prop} {K:Act→World→Prop} {EE:Prop}
theorem step_appR (hgd:o.guard=none) (s x:Operand) (t:TypeId) (ho:o.op=.call { callee:=.builtin .append,args:=#[s,x],argTypes:=#[t,t] })
 {bytes:Nat} {z:Value} (hE:Elem P t 79 3 bytes z) (w0 wb w:World) (v:Value) (l ys:List Ins) (hs:a.eval s=v) (hown:OwnI w0 w v l)
 (he:Ext w0 w) (A:Option Addr) (c:Nat) (hx:a.eval x=.slice A ys.length c) (hy:OwnI wb w (.slice A ys.length c) ys) (hby:bytes=24) (hb:l.length+ys.length≤1000000)
 (h:∀ v' w',OwnI w0 w' v' (l++ys)→Ext w0 w'→(v'.ownBlock=v.ownBlock∨v'.ownBlock=some w.heap.size)→w.grownBy w' v.ownBlock→K (a.put o.dst v') w') :
 if Region.wanted o (yielded ops a.tmps)=true then Oper.wp P o a w K Q else EE:=by
 subst hby
 refine step_anyA hgd s x t ho hE w0 w v l.length (l.flatMap icells) hs hown he (ys.flatMap icells) A ys.length c hx (icells_len ys) (hy.src (Ext.refl _)) (icells_one ys) (by simp only [maxLen];omega) (by omega) ?_;intro v' w' h1 h2 h3 h4;exact h v' w' (by unfold OwnI;rw [List.length_append,List.flatMap_append];exact h1) h2 h3 h4
end
structure PSt (W0 w:World) (g:Nat) (vc ve:Value) (c:List Ins) (e:List Int):Prop where
 lo:W0.heap.size≤g
 box:Box w g #[vc,ve] 55
 oc:OwnI W0 w vc c
 oe:OwnL vint 3 W0 w ve e
 n1:vc.ownBlock≠some g
 n2:ve.ownBlock≠some g
 far:∀ b,vc.ownBlock=some b→ve.ownBlock≠some b
 ext:Ext W0 w
theorem PSt.next {W0 w w':World} {g:Nat} {vc ve:Value} {c:List Ins} {e:List Int} (h:PSt W0 w g vc ve c e) (x:Ext w w'):PSt W0 w' g vc ve c e :=
 ⟨h.lo,h.box.ext x,h.oc.ext x,h.oe.ext x,h.n1,h.n2,h.far,h.ext.trans x⟩
theorem PSt.appC {W0 w w':World} {g:Nat} {vc ve v':Value} {c c':List Ins} {e:List Int} (h:PSt W0 w g vc ve c e) (ho:OwnI W0 w' v' c') (he:Ext W0 w') (hv:v'.ownBlock=vc.ownBlock∨v'.ownBlock=some w.heap.size) (hg:w.grownBy w' vc.ownBlock) :
 PSt W0 (w'.setCell ⟨g,0,none⟩ v') g v' ve c' e:=by
 have hl:=h.box.lt
 have n1':v'.ownBlock≠some g:=by
  rcases hv with hv | hv
  ·rw [hv];exact h.n1
  ·rw [hv];intro hh;injection hh with hh;omega
 have oe1:OwnL vint 3 W0 w' ve e:=h.oe.keep hg (fun b hb hr=>h.far b hr hb)
 refine ⟨h.lo,?_,Own.other ho _ _ n1',oe1.other _ _ h.n2,n1',h.n2,?_,he.setCell (p:=⟨g,0,none⟩) h.lo v'⟩
 ·have:=(h.box.moved hg h.n1).set 0 v';simpa using this
 ·intro b hb
  rcases hv with hv | hv
  ·exact h.far b (hv▸hb)
  ·rw [hv] at hb;injection hb with hb;subst hb
   intro hh
   have:=(World.ownsRow.lt h.oe _ hh).2
   omega
theorem PSt.appE {W0 w w':World} {g:Nat} {vc ve v':Value} {c:List Ins} {e e':List Int} (h:PSt W0 w g vc ve c e) (ho:OwnL vint 3 W0 w' v' e') (he:Ext W0 w') (hv:v'.ownBlock=ve.ownBlock∨v'.ownBlock=some w.heap.size) (hg:w.grownBy w' ve.ownBlock) :
 PSt W0 (w'.setCell ⟨g,1,none⟩ v') g vc v' c e':=by
 have hl:=h.box.lt
 have n2':v'.ownBlock≠some g:=by
  rcases hv with hv | hv
  ·rw [hv];exact h.n2
  ·rw [hv];intro hh;injection hh with hh;omega
 have oc1:OwnI W0 w' vc c:=Own.keep h.oc hg (fun b hb hr=>h.far b hb hr)
 refine ⟨h.lo,?_,Own.other oc1 _ _ h.n1,OwnL.other ho _ _ n2',h.n1,n2',?_,he.setCell (p:=⟨g,1,none⟩) h.lo v'⟩
 ·have:=(h.box.moved hg h.n2).set 1 v';simpa using this
 ·intro b hb
  rcases hv with hv | hv
  ·rw [hv];exact h.far b hb
  ·rw [hv];intro hh;injection hh with hh;subst hh
   have:=(World.ownsRow.lt h.oc _ hb).2
   omega
theorem ruleC_60 {ds:List DRule} (h:descOk ds=true) (i:Nat) (hi:i<ds.length) (start:Int) (es:List Int):(ruleC ds[i] start es).length≤60:=by
 obtain ⟨h2,h6,h7,_⟩:=code_facts h i hi;generalize ds[i]=r at *;have t1:=tagsC_len r start r.tags.length;have t2:=altsC_len r es r.tags.length;unfold ruleC bodyC choC;rw [List.length_append];repeat' split
 all_goals (simp only [List.length_cons,List.length_nil,List.length_map,List.length_range,List.length_append];omega)
theorem compN_len {ds:List DRule} (h:descOk ds=true):∀ k,k≤ds.length→(compN ds k).1.length≤2+60*k
 | 0,_=>by simp [compN]
 | k+1,hk=>by
  have h1:=compN_len h k (by omega);have h2:=ruleC_60 h k (by omega) ((compN ds k).1.length:Int) (compN ds k).2;rw [compN_succ ds k (by omega),List.length_append]
  omega
theorem descOk_24 {ds:List DRule} (h:descOk ds=true):ds.length≤24:=by
 unfold descOk between at h;simp at h;omega
theorem insAt_nat {cs:List Ins} {j:Nat} (hj:j<cs.length):insAt cs (j:Int)=cs[j]:=by unfold insAt;simp [hj]
theorem isOp_at {cs:List Ins} {j:Nat} (hj:j<cs.length) (op:Int):isOp cs (j:Int) op=(cs[j].1==op):=by
 unfold isOp inB;rw [insAt_nat hj,decide_eq_true (by omega),decide_eq_true (by omega)];rfl
theorem isOp_out {cs:List Ins} {k op:Int} (h:¬ (0≤k∧k≤(cs.length:Int)-1)):isOp cs k op=false:=by
 unfold isOp inB;rcases (by omega:¬ 0≤k∨¬ k≤(cs.length:Int)-1) with h | h
 ·rw [decide_eq_false h];rfl
 ·rw [decide_eq_false h,Bool.and_false];rfl
theorem sOpIn_c (x:Int) (A:Option Addr) (l:List Int) (c:Nat) (w:World) (h:Is w A l c) :
 Gives Tryz.prog 195 #[.int .i64 x,.slice A l.length c] w (.bool (l.any (·==x))):=by
 have hl:=h.len;go_enter Tryz.func195,Tryz.ntmps195;go_wp2;go_loopw [5] (fun q wr=>∃ k:Nat,k≤l.length∧q=.int .i64 (k:Int)∧Hid ((l.take k).any (·==x)=false)∧Ext w wr) (fun q _=>l.length-(intOf q).toNat)
 case atStart=>exact ⟨0,by omega,rfl,by show _=_;simp,Ext.refl _⟩
 case round =>
  obtain ⟨k,hk,rfl,hn,he⟩:=hrel
  by_cases hlt:k<l.length
  ·obtain ⟨b,off,rfl,hb,hc⟩:=h.at k hlt
   have HS:Hid ((l.take (k+1)).any (·==x)=(l[k]==x)):=by show _=_;rw [List.take_succ_eq_append_getElem hlt,List.any_append,hn.out];simp
   have HM:Hid (l[k]∈l):=List.getElem_mem hlt
   generalize l[k]=y at *
   by_cases hy:y=x
   ·have HR:Hid (l.any (·==x)=true):=by show _=_;rw [List.any_eq_true];exact ⟨y,HM.out,by simp [hy]⟩
    clear hn HS HM;go_wp2;go_ret;exact ⟨by rw [HR.out];rfl,he⟩
   ·have HN:Hid ((l.take (k+1)).any (·==x)=false):=by show _=_;rw [HS.out];simp [hy]
    clear hn HS HM;go_wp2;go_roundw
    case rel=>exact ⟨k+1,by omega,by go_num,HN.out,he⟩
    case measure=>simp [intOf];omega
  ·have HR:Hid (l.any (·==x)=false):=by show _=_;have:=hn.out;rwa [List.take_of_length_le (by omega)] at this
   clear hn;go_wp2;go_ret;exact ⟨by rw [HR.out];rfl,he⟩
theorem sIsOp_c (Ac:Option Addr) (cs:List Ins) (cc:Nat) (Ae:Option Addr) (es:List Int) (ce:Nat) (k op:Int) (w:World) (hC:RdI w Ac cs cc) (hE:Is w Ae es ce) (hk : -1000000000≤k∧k≤1000000000) :
 Gives Tryz.prog 186 #[.agg #[.slice Ac cs.length cc,.slice Ae es.length ce],.int .i64 k,.int .i64 op] w (.bool (isOp cs k op)):=by
 have hl:=hC.len;have hcp:=hC.cap;obtain ⟨W0,hW0⟩:=nmw (w.alloc (.cells #[.slice Ac cs.length cc,.slice Ae es.length ce] 55));have e0:Ext w W0:=ka hW0
 have BP:Box W0 w.heap.size #[.slice Ac cs.length cc,.slice Ae es.length ce] 55:=kb hW0
 have p0:∀ w',Ext W0 w'→w'.cell? ⟨w.heap.size,0,none⟩=some (Value.slice Ac cs.length cc):=BP.at 0
 have p1:∀ w',Ext W0 w'→w'.cell? ⟨w.heap.size,1,none⟩=some (Value.slice Ae es.length ce):=BP.at 1
 have d0:=p0 _ (Ext.refl _);have d1:=p1 _ (Ext.refl _);rw [hW0.out] at d0 d1;have CI:=lhd (fun x lo hi w=>l1In_c x lo hi w)
 by_cases hin:0≤k∧k≤(cs.length:Int)-1
 ·obtain ⟨j,rfl⟩:=Int.eq_ofNat_of_zero_le hin.1
  have hj:j<cs.length:=by omega
  have HR:=lhd (isOp_at hj op);obtain ⟨b,off,rfl,hb,hc⟩:=hC.at j hj;have hc1:∀ w',Ext W0 w'→w'.cell? ⟨b,off+j*3,none⟩=some (.int .i64 cs[j].1):=fun w' e=>(hc w' (e0.trans e)).1
  have HD:Hid ((decide ((0:Int)≤(j:Int))&&decide ((j:Int)≤(cs.length:Int)-1))=true):=by show _=_;simp;omega
  generalize cs[j]=x at *;clear hc;go_enter Tryz.func186,Tryz.ntmps186;go_wp2_with fail;rw [← hW0.out];refine (CI.out (j:Int) 0 ((cs.length:Int)-1) _).mono ?_;rintro _ w1 ⟨rfl,e1⟩;rw [HD.out];go_wp2;go_ret;exact ⟨by rw [HR.out];rfl,e0.trans e1⟩
 ·have HR:=lhd (isOp_out (op:=op) hin)
  have HD:Hid ((decide ((0:Int)≤k)&&decide (k≤(cs.length:Int)-1))=false):=by
   show _=_
   rcases (by omega:¬ 0≤k∨¬ k≤(cs.length:Int)-1) with h | h
   ·rw [decide_eq_false h];rfl
   ·rw [decide_eq_false h,Bool.and_false]
  go_enter Tryz.func186,Tryz.ntmps186;go_wp2_with fail;rw [← hW0.out];refine (CI.out k 0 ((cs.length:Int)-1) _).mono ?_;rintro _ w1 ⟨rfl,e1⟩;rw [HD.out];go_wp2;go_ret;exact ⟨by rw [HR.out];rfl,e0.trans e1⟩
theorem sOperands_c (x:Ins) (w:World):Gives Tryz.prog 196 #[.agg #[.int .i64 x.1,.int .i64 x.2.1,.int .i64 x.2.2]] w (.bool (operOk x)):=by
 have CI:=lhd (fun x lo hi w=>l1In_c x lo hi w);have e0:=Ext_alloc (.cells #[.int .i64 x.1,.int .i64 x.2.1,.int .i64 x.2.2] 79) (Ext.refl w);have BX:=fun w' (e:Ext (w.alloc (.cells #[.int .i64 x.1,.int .i64 x.2.1,.int .i64 x.2.2] 79)) w')=>boxed e
 obtain ⟨o,a,b⟩:=x;dsimp only at *
 by_cases h1:o=1
 ·subst h1
  have HR:Hid (operOk (1,a,b)=(inB a 1 4&&inB b 0 1)):=rfl
  cases z1:(decide ((1:Int)≤a)&&decide (a≤4))
  all_goals
   have HZ:=lhd z1;clear z1;go_enter Tryz.func196,Tryz.ntmps196;go_wp2_with fail;refine (CI.out a 1 4 _).mono ?_;rintro _ w1 ⟨rfl,e1⟩;rw [HZ.out];have BX1:=fun w' (e:Ext w1 w')=>BX w' (Ext.trans e1 e)
   first
    | (go_wp2_with fail
       refine (CI.out b 0 1 _).mono ?_;rintro _ w2 ⟨rfl,e2⟩;go_wp2;go_ret;exact ⟨by rw [HR.out];unfold inB;rw [HZ.out];simp,(Ext.trans e0 e1).trans e2⟩)
    | (go_wp2
       go_ret;exact ⟨by rw [HR.out];unfold inB;rw [HZ.out];simp,Ext.trans e0 e1⟩)
 by_cases h2:o=2
 ·subst h2
  have HR:Hid (operOk (2,a,b)=inB a 0 255):=rfl
  go_enter Tryz.func196,Tryz.ntmps196;go_wp2_with fail;refine (CI.out a 0 255 _).mono ?_;rintro _ w1 ⟨rfl,e1⟩;go_wp2;go_ret;exact ⟨by rw [HR.out];rfl,Ext.trans e0 e1⟩
 by_cases h16:o=16
 ·subst h16
  have HR:Hid (operOk (16,a,b)=inB a 0 255):=rfl
  go_enter Tryz.func196,Tryz.ntmps196;go_wp2_with fail;refine (CI.out a 0 255 _).mono ?_;rintro _ w1 ⟨rfl,e1⟩;go_wp2;go_ret;exact ⟨by rw [HR.out];rfl,Ext.trans e0 e1⟩
 by_cases h3:o=3
 ·subst h3
  have HR:Hid (operOk (3,a,b)=inB a 0 400):=rfl
  go_enter Tryz.func196,Tryz.ntmps196;go_wp2_with fail;refine (CI.out a 0 400 _).mono ?_;rintro _ w1 ⟨rfl,e1⟩;go_wp2;go_ret;exact ⟨by rw [HR.out];rfl,Ext.trans e0 e1⟩
 by_cases h5:o=5
 ·subst h5
  have HR:Hid (operOk (5,a,b)=inB a 0 400):=rfl
  go_enter Tryz.func196,Tryz.ntmps196;go_wp2_with fail;refine (CI.out a 0 400 _).mono ?_;rintro _ w1 ⟨rfl,e1⟩;go_wp2;go_ret;exact ⟨by rw [HR.out];rfl,Ext.trans e0 e1⟩
 by_cases h12:o=12
 ·subst h12
  have HR:Hid (operOk (12,a,b)=inB a 1 8):=rfl
  go_enter Tryz.func196,Tryz.ntmps196;go_wp2_with fail;refine (CI.out a 1 8 _).mono ?_;rintro _ w1 ⟨rfl,e1⟩;go_wp2;go_ret;exact ⟨by rw [HR.out];rfl,Ext.trans e0 e1⟩
 by_cases h11:o=11
 ·subst h11
  have HR:Hid (operOk (11,a,b)=decide (0≤a)):=rfl
  go_enter Tryz.func196,Tryz.ntmps196;go_wp2;go_ret;exact ⟨by rw [HR.out];rfl,e0⟩
 have HR:Hid (operOk (o,a,b)=inB o 1 17):=by
  show _=_
  unfold operOk;rw [if_neg h1,if_neg h2,if_neg h16,if_neg h3,if_neg h5,if_neg h11,if_neg h12]
 have q1:(o==1)=false:=by simpa using h1
 have q2:(o==2)=false:=by simpa using h2
 have q3:(o==3)=false:=by simpa using h3
 have q5:(o==5)=false:=by simpa using h5
 have q11:(o==11)=false:=by simpa using h11
 have q12:(o==12)=false:=by simpa using h12
 have q16:(o==16)=false:=by simpa using h16
 go_enter Tryz.func196,Tryz.ntmps196;go_wp2_with fail;refine (CI.out o 1 17 _).mono ?_;rintro _ w1 ⟨rfl,e1⟩;go_wp2;go_ret;exact ⟨by rw [HR.out];rfl,Ext.trans e0 e1⟩
theorem isOp_in {cs:List Ins} {k op:Int} (h:isOp cs k op=true):∃ j:Nat,∃ _:j<cs.length,k=(j:Int):=by
 unfold isOp inB at h;simp only [Bool.and_eq_true,decide_eq_true_eq] at h;exact ⟨k.toNat,by omega,by omega⟩
theorem sLoop_c (Ac:Option Addr) (cs:List Ins) (cc:Nat) (Ae:Option Addr) (es:List Int) (ce:Nat) (k:Int) (w:World) (hC:RdI w Ac cs cc) (hE:Is w Ae es ce) (hk : -100000000≤k∧k≤100000000) :
 Gives Tryz.prog 202 #[.agg #[.slice Ac cs.length cc,.slice Ae es.length ce],.int .i64 k] w (.bool (loopOk cs k)):=by
 have hl:=hC.len;have hcp:=hC.cap;obtain ⟨W0,hW0⟩:=nmw (w.alloc (.cells #[.slice Ac cs.length cc,.slice Ae es.length ce] 55));have e0:Ext w W0:=ka hW0
 have BP:Box W0 w.heap.size #[.slice Ac cs.length cc,.slice Ae es.length ce] 55:=kb hW0
 have p0:∀ w',Ext W0 w'→w'.cell? ⟨w.heap.size,0,none⟩=some (Value.slice Ac cs.length cc):=BP.at 0
 have p1:∀ w',Ext W0 w'→w'.cell? ⟨w.heap.size,1,none⟩=some (Value.slice Ae es.length ce):=BP.at 1
 have d0:=p0 _ (Ext.refl _);have d1:=p1 _ (Ext.refl _);rw [hW0.out] at d0 d1;have CI:=lhd (fun (d o:Int) w' (e:Ext w w') (hd : -1000000000≤d∧d≤1000000000)=>sIsOp_c Ac cs cc Ae es ce d o w' (hC.ext e) (hE.ext e) hd);cases z1:isOp cs (k-1) 6
 ·have HR:Hid (loopOk cs k=false):=by show _=_;unfold loopOk;rw [z1];rfl
  have HZ1:=lhd z1;clear z1;go_enter Tryz.func202,Tryz.ntmps202;go_wp2_with fail;rw [← hW0.out];refine (CI.out (k-1) 6 _ e0 (by omega)).mono ?_;rintro _ w1 ⟨rfl,e1⟩;rw [HZ1.out];go_wp2;go_ret;exact ⟨by rw [HR.out];rfl,e0.trans e1⟩
 have HZ1:=lhd z1;clear z1;cases z2:isOp cs k 7
 ·have HR:Hid (loopOk cs k=false):=by show _=_;unfold loopOk;rw [HZ1.out,z2];rfl
  have HZ2:=lhd z2;clear z2;go_enter Tryz.func202,Tryz.ntmps202;go_wp2_with fail;rw [← hW0.out];refine (CI.out (k-1) 6 _ e0 (by omega)).mono ?_;rintro _ w1 ⟨rfl,e1⟩;rw [HZ1.out];have y0:=p0 w1 e1;have y1:=p1 w1 e1;go_wp2_with fail;refine (CI.out k 7 _ (e0.trans e1) (by omega)).mono ?_;rintro _ w2 ⟨rfl,e2⟩;rw [HZ2.out];go_wp2;go_ret;exact ⟨by rw [HR.out];rfl,(e0.trans e1).trans e2⟩
 have HZ2:=lhd z2;clear z2;cases z3:isOp cs (k+1) 9
 ·have HR:Hid (loopOk cs k=false):=by show _=_;unfold loopOk;rw [HZ1.out,HZ2.out,z3];rfl
  have HZ3:=lhd z3;clear z3;go_enter Tryz.func202,Tryz.ntmps202;go_wp2_with fail;rw [← hW0.out];refine (CI.out (k-1) 6 _ e0 (by omega)).mono ?_;rintro _ w1 ⟨rfl,e1⟩;rw [HZ1.out];go_wp2_with fail;refine (CI.out k 7 _ (e0.trans e1) (by omega)).mono ?_;rintro _ w2 ⟨rfl,e2⟩;rw [HZ2.out];have e12:=e1.trans e2;go_wp2_with fail;refine (CI.out (k+1) 9 _ (e0.trans e12) (by omega)).mono ?_;rintro _ w3 ⟨rfl,e3⟩;rw [HZ3.out];go_wp2;go_ret;exact ⟨by rw [HR.out];rfl,(e0.trans e12).trans e3⟩
 have HZ3:=lhd z3;clear z3;cases z4:isOp cs (k+2) 8
 ·have HR:Hid (loopOk cs k=false):=by show _=_;unfold loopOk;rw [HZ1.out,HZ2.out,HZ3.out,z4];rfl
  have HZ4:=lhd z4;clear z4;go_enter Tryz.func202,Tryz.ntmps202;go_wp2_with fail;rw [← hW0.out];refine (CI.out (k-1) 6 _ e0 (by omega)).mono ?_;rintro _ w1 ⟨rfl,e1⟩;rw [HZ1.out];go_wp2_with fail;refine (CI.out k 7 _ (e0.trans e1) (by omega)).mono ?_;rintro _ w2 ⟨rfl,e2⟩;rw [HZ2.out];have e12:=e1.trans e2;go_wp2_with fail;refine (CI.out (k+1) 9 _ (e0.trans e12) (by omega)).mono ?_;rintro _ w3 ⟨rfl,e3⟩;rw [HZ3.out];have e13:=e12.trans e3;go_wp2_with fail;refine (CI.out (k+2) 8 _ (e0.trans e13) (by omega)).mono ?_;rintro _ w4 ⟨rfl,e4⟩;rw [HZ4.out];go_wp2;go_ret;exact ⟨by rw [HR.out];rfl,(e0.trans e13).trans e4⟩
 obtain ⟨j,hj,rfl⟩:=isOp_in HZ2.out;obtain ⟨j2,hj2,hjj⟩:=isOp_in z4;have hj2':j2=j+2:=by omega
 subst hj2';have HZ4:=lhd z4;clear z4 hjj
 have HR:Hid (loopOk cs (j:Int)=((cs[j+2].2.1==(j:Int))&&(cs[j].2.1==(j:Int)+3))):=by
  show _=_
  unfold loopOk;rw [HZ1.out,HZ2.out,HZ3.out,HZ4.out,insAt_nat hj,show (j:Int)+2=((j+2:Nat):Int) by omega,insAt_nat hj2];rfl
 obtain ⟨b,off,rfl,hb,hc⟩:=hC.at j hj;obtain ⟨b',off',hbb,_,hc2⟩:=hC.at (j+2) hj2;injection hbb with hbb;injection hbb with i1 i2;subst i1;subst i2
 have f1:∀ w',Ext W0 w'→w'.cell? ⟨b,off+j*3+1,none⟩=some (.int .i64 cs[j].2.1):=fun w' e=>(hc w' (e0.trans e)).2.1
 have f2:∀ w',Ext W0 w'→w'.cell? ⟨b,off+(j+2)*3+1,none⟩=some (.int .i64 cs[j+2].2.1):=fun w' e=>(hc2 w' (e0.trans e)).2.1
 generalize cs[j].2.1=x at *;generalize cs[j+2].2.1=y at *;have hji:(j:Int)+2<(cs.length:Int):=by omega
 have hjn:((j:Int)+2).toNat=j+2:=by omega
 have HK:=lhd hk;clear hc hc2 hk
 by_cases hy:y=(j:Int)
 all_goals
  go_enter Tryz.func202,Tryz.ntmps202;go_wp2_with fail;rw [← hW0.out];refine (CI.out ((j:Int)-1) 6 _ e0 (by omega)).mono ?_;rintro _ w1 ⟨rfl,e1⟩;rw [HZ1.out];go_wp2_with fail;refine (CI.out (j:Int) 7 _ (e0.trans e1) (by omega)).mono ?_;rintro _ w2 ⟨rfl,e2⟩;rw [HZ2.out];have e12:=e1.trans e2;go_wp2_with fail;refine (CI.out ((j:Int)+1) 9 _ (e0.trans e12) (by omega)).mono ?_;rintro _ w3 ⟨rfl,e3⟩;rw [HZ3.out];have e13:=e12.trans e3;go_wp2_with fail;refine (CI.out ((j:Int)+2) 8 _ (e0.trans e13) (by omega)).mono ?_;rintro _ w4 ⟨rfl,e4⟩;rw [HZ4.out];have e14:=e13.trans e4;go_wp2;go_ret;exact ⟨by rw [HR.out];simp [hy],e0.trans e14⟩
theorem Is.new (w:World) (l:List Int) (cs:Array Value) (hcs:cs=(l.map vint).toArray) (hl:l.length≤1000) (m:Nat) (hm:m=l.length):Is (w.alloc (.cells cs 3)) (some ⟨w.heap.size,0,none⟩) l m:=by
 subst hcs hm;refine ⟨⟨Nat.le_refl _,by omega,fun _=>⟨w.heap.size,0,rfl,by simp,fun w' e i hi=>?_⟩⟩,by omega⟩;rw [row_cell (heap_alloc_new w _) e,Nat.zero_add];simp [hi]
theorem isA (w:World) (g:Nat) (hg:g=w.heap.size):Is (w.alloc (.cells #[.int .i64 7,.int .i64 8,.int .i64 9,.int .i64 13] 3)) (some ⟨g,0,none⟩) [7,8,9,13] 4:=by subst hg;exact Is.new w [7,8,9,13] _ rfl (by simp) 4 rfl
theorem isB (w:World):Is (w.alloc (.cells #[.int .i64 8,.int .i64 10,.int .i64 12,.int .i64 17] 3)) (some ⟨w.heap.size,0,none⟩) [8,10,12,17] 4:=Is.new w [8,10,12,17] _ rfl (by simp) 4 rfl
theorem insOk_at {cs:List Ins} {j:Nat} (hj:j<cs.length):insOk cs (j:Int) =
 (!(jumpOp cs[j].1&&!inB cs[j].2.1 0 ((cs.length:Int)-1))&&!(cs[j].1==11&&!inB cs[j].2.2 0 ((cs.length:Int)-1)) &&
 !(!(stopOp cs[j].1)&&((j:Int)==(cs.length:Int)-1))&&operOk cs[j]):=by
 unfold insOk;rw [insAt_nat hj,show inB (j:Int) 0 ((cs.length:Int)-1)=true by unfold inB;simp;omega,Bool.true_and]
theorem sInsOk_c (Ac:Option Addr) (cs:List Ins) (cc:Nat) (Ae:Option Addr) (es:List Int) (ce:Nat) (k:Int) (w:World) (hC:RdI w Ac cs cc) (hE:Is w Ae es ce) (hk : -100000000≤k∧k≤100000000) :
 Gives Tryz.prog 187 #[.agg #[.slice Ac cs.length cc,.slice Ae es.length ce],.int .i64 k] w (.bool (insOk cs k)):=by
 have hl:=hC.len;have hcp:=hC.cap;obtain ⟨W0,hW0⟩:=nmw (w.alloc (.cells #[.slice Ac cs.length cc,.slice Ae es.length ce] 55));have e0:Ext w W0:=ka hW0
 have BP:Box W0 w.heap.size #[.slice Ac cs.length cc,.slice Ae es.length ce] 55:=kb hW0
 have p0:∀ w',Ext W0 w'→w'.cell? ⟨w.heap.size,0,none⟩=some (Value.slice Ac cs.length cc):=BP.at 0
 have p1:∀ w',Ext W0 w'→w'.cell? ⟨w.heap.size,1,none⟩=some (Value.slice Ae es.length ce):=BP.at 1
 have d0:=p0 _ (Ext.refl _);have d1:=p1 _ (Ext.refl _);rw [hW0.out] at d0 d1;have CI:=lhd (fun x lo hi w=>l1In_c x lo hi w);have CLA:Hid (∀ x A c w,Is w A [7,8,9,13] c→Gives Tryz.prog 195 #[.int .i64 x,.slice A 4 c] w (.bool (jumpOp x))):=fun x A c w h=>sOpIn_c x A [7,8,9,13] c w h
 have CLB:Hid (∀ x A c w,Is w A [8,10,12,17] c→Gives Tryz.prog 195 #[.int .i64 x,.slice A 4 c] w (.bool (stopOp x))):=fun x A c w h=>sOpIn_c x A [8,10,12,17] c w h
 have CX:=lhd (fun x w=>sOperands_c x w)
 by_cases hin:0≤k∧k≤(cs.length:Int)-1
 ·obtain ⟨j,rfl⟩:=Int.eq_ofNat_of_zero_le hin.1
  have hj:j<cs.length:=by omega
  have HR:=lhd (insOk_at hj);obtain ⟨b,off,rfl,hb,hc⟩:=hC.at j hj;have c0:∀ w',Ext W0 w'→w'.cell? ⟨b,off+j*3,none⟩=some (.int .i64 cs[j].1):=fun w' e=>(hc w' (e0.trans e)).1
  have c1:∀ w',Ext W0 w'→w'.cell? ⟨b,off+j*3+1,none⟩=some (.int .i64 cs[j].2.1):=fun w' e=>(hc w' (e0.trans e)).2.1
  have c2:∀ w',Ext W0 w'→w'.cell? ⟨b,off+j*3+2,none⟩=some (.int .i64 cs[j].2.2):=fun w' e=>(hc w' (e0.trans e)).2.2
  have HD:Hid ((decide ((0:Int)≤(j:Int))&&decide ((j:Int)≤(cs.length:Int)-1))=true):=by show _=_;simp;omega
  generalize cs[j]=x at *;obtain ⟨o,a,q⟩:=x;dsimp only at *;clear hc hin;go_enter Tryz.func187,Tryz.ntmps187;go_wp2_with fail;rw [← hW0.out];refine (CI.out (j:Int) 0 ((cs.length:Int)-1) _).mono ?_;rintro _ w1 ⟨rfl,e1⟩;rw [HD.out];have y0:=c0 w1 e1;have y1:=c1 w1 e1;have y2:=c2 w1 e1;obtain ⟨W2,hW2⟩:=nmw (w1.alloc (.cells #[.int .i64 o,.int .i64 a,.int .i64 q] 79));have e2:Ext w1 W2:=ka hW2
  have BX:Box W2 w1.heap.size #[.int .i64 o,.int .i64 a,.int .i64 q] 79:=kb hW2
  have f0:∀ w',Ext W2 w'→w'.cell? ⟨w1.heap.size,0,none⟩=some (.int .i64 o):=BX.at 0
  have f1:∀ w',Ext W2 w'→w'.cell? ⟨w1.heap.size,1,none⟩=some (.int .i64 a):=BX.at 1
  have f2:∀ w',Ext W2 w'→w'.cell? ⟨w1.heap.size,2,none⟩=some (.int .i64 q):=BX.at 2
  have E2:=(e0.trans e1).trans e2;have z0:=f0 W2 (Ext.refl _);rw [hW2.out] at z0;go_wp2_with fail;rw [← hW2.out];have e3:Ext W2 (W2.alloc (.cells #[.int .i64 7,.int .i64 8,.int .i64 9,.int .i64 13] 3)):=Ext_alloc _ (Ext.refl _)
  refine (CLA.out o _ 4 _ (isA W2 (w1.heap.size+1) (by rw [hW2.out];simp))).mono ?_;rintro _ w4 ⟨rfl,e4⟩;have e24:=Ext.trans e3 e4;clear c0 c1 c2 y0 y1 y2 z0 BX e3 e4;cases Z1:jumpOp o
  ·skip
   by_cases h11:o=11
   ·subst h11
    have q11:((11:Int)==11)=true:=rfl
    go_wp2_with fail;refine (CI.out q 0 ((cs.length:Int)-1) _).mono ?_;rintro _ w6 ⟨rfl,e6⟩;have e26:=e24.trans e6;cases Y2:(decide ((0:Int)≤q)&&decide (q≤(cs.length:Int)-1))
    ·go_wp2
     go_ret;have hv:insOk cs (j:Int)=false:=by rw [HR.out,q11];unfold inB;rw [Y2];simp
     exact ⟨by rw [hv];rfl,E2.trans e26⟩
    ·skip
     go_wp2_with fail;have e3:=Ext_alloc (.cells #[.int .i64 8,.int .i64 10,.int .i64 12,.int .i64 17] 3) e26;refine (CLB.out 11 _ 4 _ (isB _)).mono ?_;rintro _ w7 ⟨rfl,e7⟩;have e27:=Ext.trans e3 e7;cases Z3:stopOp 11
     ·by_cases hlast:(j:Int)=(cs.length:Int)-1
      ·go_wp2
       go_ret;have hv:insOk cs (j:Int)=false:=by rw [HR.out,Z3,show ((j:Int)==(cs.length:Int)-1)=true by simp [hlast]];simp
       exact ⟨by rw [hv];rfl,E2.trans e27⟩
      ·have hlf:((j:Int)==(cs.length:Int)-1)=false:=by simpa using hlast
       have HRR:Hid (insOk cs (j:Int)=operOk (11,a,q)):=by show _=_;rw [HR.out];rw [Z3,hlf];rw [Z1];rw [show inB q 0 ((cs.length:Int)-1)=true from Y2];simp
       go_wp2_with fail;refine (CX.out (11,a,q) _).mono ?_;rintro _ w9 ⟨rfl,e9⟩;go_wp2;go_ret;exact ⟨by rw [HRR.out];rfl,E2.trans (e27.trans e9)⟩
     ·skip
      have HRR:Hid (insOk cs (j:Int)=operOk (11,a,q)):=by show _=_;rw [HR.out];rw [Z3];rw [Z1];rw [show inB q 0 ((cs.length:Int)-1)=true from Y2];simp
      go_wp2_with fail;refine (CX.out (11,a,q) _).mono ?_;rintro _ w9 ⟨rfl,e9⟩;go_wp2;go_ret;exact ⟨by rw [HRR.out];rfl,E2.trans (e27.trans e9)⟩
   ·have q11:(o==11)=false:=by simp [h11]
    go_wp2_with fail;have e3:=Ext_alloc (.cells #[.int .i64 8,.int .i64 10,.int .i64 12,.int .i64 17] 3) e24;refine (CLB.out o _ 4 _ (isB _)).mono ?_;rintro _ w7 ⟨rfl,e7⟩;have e27:=Ext.trans e3 e7;cases Z3:stopOp o
    ·by_cases hlast:(j:Int)=(cs.length:Int)-1
     ·go_wp2
      go_ret;have hv:insOk cs (j:Int)=false:=by rw [HR.out,Z3,show ((j:Int)==(cs.length:Int)-1)=true by simp [hlast]];simp
      exact ⟨by rw [hv];rfl,E2.trans e27⟩
     ·have hlf:((j:Int)==(cs.length:Int)-1)=false:=by simpa using hlast
      have HRR:Hid (insOk cs (j:Int)=operOk (o,a,q)):=by show _=_;rw [HR.out];rw [Z3,hlf];rw [Z1];rw [q11];simp
      go_wp2_with fail;refine (CX.out (o,a,q) _).mono ?_;rintro _ w9 ⟨rfl,e9⟩;go_wp2;go_ret;exact ⟨by rw [HRR.out];rfl,E2.trans (e27.trans e9)⟩
    ·skip
     have HRR:Hid (insOk cs (j:Int)=operOk (o,a,q)):=by show _=_;rw [HR.out];rw [Z3];rw [Z1];rw [q11];simp
     go_wp2_with fail;refine (CX.out (o,a,q) _).mono ?_;rintro _ w9 ⟨rfl,e9⟩;go_wp2;go_ret;exact ⟨by rw [HRR.out];rfl,E2.trans (e27.trans e9)⟩
  ·go_wp2_with fail
   refine (CI.out a 0 ((cs.length:Int)-1) _).mono ?_;rintro _ w5 ⟨rfl,e5⟩;have e25:=e24.trans e5;cases Y1:(decide ((0:Int)≤a)&&decide (a≤(cs.length:Int)-1))
   ·go_wp2
    go_ret;have hv:insOk cs (j:Int)=false:=by rw [HR.out,Z1];unfold inB;rw [Y1];rfl
    exact ⟨by rw [hv];rfl,E2.trans e25⟩
   ·skip
    by_cases h11:o=11
    ·subst h11
     have q11:((11:Int)==11)=true:=rfl
     go_wp2_with fail;refine (CI.out q 0 ((cs.length:Int)-1) _).mono ?_;rintro _ w6 ⟨rfl,e6⟩;have e26:=e25.trans e6;cases Y2:(decide ((0:Int)≤q)&&decide (q≤(cs.length:Int)-1))
     ·go_wp2
      go_ret;have hv:insOk cs (j:Int)=false:=by rw [HR.out,q11];unfold inB;rw [Y2];simp
      exact ⟨by rw [hv];rfl,E2.trans e26⟩
     ·skip
      go_wp2_with fail;have e3:=Ext_alloc (.cells #[.int .i64 8,.int .i64 10,.int .i64 12,.int .i64 17] 3) e26;refine (CLB.out 11 _ 4 _ (isB _)).mono ?_;rintro _ w7 ⟨rfl,e7⟩;have e27:=Ext.trans e3 e7;cases Z3:stopOp 11
      ·by_cases hlast:(j:Int)=(cs.length:Int)-1
       ·go_wp2
        go_ret;have hv:insOk cs (j:Int)=false:=by rw [HR.out,Z3,show ((j:Int)==(cs.length:Int)-1)=true by simp [hlast]];simp
        exact ⟨by rw [hv];rfl,E2.trans e27⟩
       ·have hlf:((j:Int)==(cs.length:Int)-1)=false:=by simpa using hlast
        have HRR:Hid (insOk cs (j:Int)=operOk (11,a,q)):=by show _=_;rw [HR.out];rw [Z3,hlf];rw [show inB a 0 ((cs.length:Int)-1)=true from Y1];rw [show inB q 0 ((cs.length:Int)-1)=true from Y2];simp
        go_wp2_with fail;refine (CX.out (11,a,q) _).mono ?_;rintro _ w9 ⟨rfl,e9⟩;go_wp2;go_ret;exact ⟨by rw [HRR.out];rfl,E2.trans (e27.trans e9)⟩
      ·skip
       have HRR:Hid (insOk cs (j:Int)=operOk (11,a,q)):=by show _=_;rw [HR.out];rw [Z3];rw [show inB a 0 ((cs.length:Int)-1)=true from Y1];rw [show inB q 0 ((cs.length:Int)-1)=true from Y2];simp
       go_wp2_with fail;refine (CX.out (11,a,q) _).mono ?_;rintro _ w9 ⟨rfl,e9⟩;go_wp2;go_ret;exact ⟨by rw [HRR.out];rfl,E2.trans (e27.trans e9)⟩
    ·have q11:(o==11)=false:=by simp [h11]
     go_wp2_with fail;have e3:=Ext_alloc (.cells #[.int .i64 8,.int .i64 10,.int .i64 12,.int .i64 17] 3) e25;refine (CLB.out o _ 4 _ (isB _)).mono ?_;rintro _ w7 ⟨rfl,e7⟩;have e27:=Ext.trans e3 e7;cases Z3:stopOp o
     ·by_cases hlast:(j:Int)=(cs.length:Int)-1
      ·go_wp2
       go_ret;have hv:insOk cs (j:Int)=false:=by rw [HR.out,Z3,show ((j:Int)==(cs.length:Int)-1)=true by simp [hlast]];simp
       exact ⟨by rw [hv];rfl,E2.trans e27⟩
      ·have hlf:((j:Int)==(cs.length:Int)-1)=false:=by simpa using hlast
       have HRR:Hid (insOk cs (j:Int)=operOk (o,a,q)):=by show _=_;rw [HR.out];rw [Z3,hlf];rw [show inB a 0 ((cs.length:Int)-1)=true from Y1];rw [q11];simp
       go_wp2_with fail;refine (CX.out (o,a,q) _).mono ?_;rintro _ w9 ⟨rfl,e9⟩;go_wp2;go_ret;exact ⟨by rw [HRR.out];rfl,E2.trans (e27.trans e9)⟩
     ·skip
      have HRR:Hid (insOk cs (j:Int)=operOk (o,a,q)):=by show _=_;rw [HR.out];rw [Z3];rw [show inB a 0 ((cs.length:Int)-1)=true from Y1];rw [q11];simp
      go_wp2_with fail;refine (CX.out (o,a,q) _).mono ?_;rintro _ w9 ⟨rfl,e9⟩;go_wp2;go_ret;exact ⟨by rw [HRR.out];rfl,E2.trans (e27.trans e9)⟩
 ·have HR:Hid (insOk cs k=false):=by
   show _=_
   unfold insOk inB;rcases (by omega:¬ 0≤k∨¬ k≤(cs.length:Int)-1) with h | h
   ·rw [decide_eq_false h];rfl
   ·rw [decide_eq_false h,Bool.and_false];rfl
  have HD:Hid ((decide ((0:Int)≤k)&&decide (k≤(cs.length:Int)-1))=false):=by
   show _=_
   rcases (by omega:¬ 0≤k∨¬ k≤(cs.length:Int)-1) with h | h
   ·rw [decide_eq_false h];rfl
   ·rw [decide_eq_false h,Bool.and_false]
  go_enter Tryz.func187,Tryz.ntmps187;go_wp2_with fail;rw [← hW0.out];refine (CI.out k 0 ((cs.length:Int)-1) _).mono ?_;rintro _ w1 ⟨rfl,e1⟩;rw [HD.out];go_wp2;go_ret;exact ⟨by rw [HR.out];rfl,e0.trans e1⟩
end Go.Proofs.YtpmcofmdjckijaaGreat
