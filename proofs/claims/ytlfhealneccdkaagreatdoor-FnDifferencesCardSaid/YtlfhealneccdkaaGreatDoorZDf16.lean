/- Texts, laid into one. -/
import Derived.Test.YtlfhealneccdkaaGreatDoorZDf14
import Derived.OrdersHeld
import Derived.Deep.DeepCutAuto
import Derived.Test.YtlfhealneccdkaaGreatDoorZDf13
import Derived.IntWalk
set_option linter.unusedVariables false
set_option linter.unusedSimpArgs false
set_option maxRecDepth 100000
set_option maxHeartbeats 16000000
namespace Go.Proofs.YtlfhealneccdkaaGreatDoor
open Go.RowKit Go.Sort
theorem boxes2' (w:World) (c0 c1:Array Value) (T0 T1:TypeId) :
 ∃ W,Hid (W=((w.alloc (.cells c0 T0)).alloc (.cells c1 T1)))∧Box W w.heap.size c0 T0∧Box W (w.heap.size+1) c1 T1∧Ext w W∧W.heap.size=w.heap.size+2:=by
 have s1:(w.alloc (.cells c0 T0)).heap.size=w.heap.size+1:=by simp
 have h1:=Box.new (w.alloc (.cells c0 T0)) c1 T1;rw [s1] at h1;exact ⟨_,rfl,(Box.new w c0 T0).ext (Ext_alloc _ (Ext.refl _)),h1,Ext_alloc _ (Ext_alloc _ (Ext.refl w)),by simp⟩
theorem src0 {α:Type} {f:α→Value} {w w':World} {A:Option Addr} {l:List α} {c:Nat} (h:Rd0 f w A l c) (e:Ext w w') (hp:0<l.length):∃ ad,A=some ad∧∀ j u,(l.map f)[j]?=some u→w'.cell? (ad.add j)=some u:=by
 obtain ⟨b,off,hA,_,hc⟩:=h.2.2 hp;refine ⟨_,hA,fun j u hu=>?_⟩
 have:=part_cells (fun i hi=>hc w' e i hi) 0 l.length j u;simp only [List.drop_zero,List.take_length,Nat.add_zero] at this;exact this hu
def numOf (s:ByteArray):Nat:=s.toList.foldl (fun acc b=>if 48≤b.toNat∧b.toNat≤57 then acc*10+(b.toNat-48) else acc) 0
def heads:List ByteArray:=[⟨#[97]⟩,⟨#[105,116,101,109]⟩,⟨#[98]⟩,⟨#[104,101,97,100]⟩,⟨#[120]⟩]
theorem made_num:∀ s∈heads,∀ n,n<32→numOf (s++itoaB (n:Nat))=n∧isName (s++itoaB (n:Nat))=true:=by decide +kernel
theorem ne_of_num {a b:ByteArray} (h:numOf a≠numOf b):(a.toList==b.toList)=false:=by
 rw [beq_eq_false_iff_ne];intro he
 apply h
 unfold numOf;rw [he]
structure MadeR (ds:List DRule) (r:DRule):Prop where
 nm:∃ s∈heads,r.nm=s++itoaB (ds.length:Int)
 ok:kindOk ds r=true
 lit:(!r.little||r.kind==1)=true
 kids:∀ x∈r.kids,0≤x∧x<(ds.length:Int)
def MadeD (ds:List DRule):Prop:=∀ i (h:i<ds.length),MadeR (ds.take i) ds[i]
theorem MadeD.nil:MadeD []:=fun i h=>by simp at h
theorem MadeD.snoc {ds:List DRule} {r:DRule} (h:MadeD ds) (hr:MadeR ds r):MadeD (ds++[r]):=by
 intro i hi;rw [List.length_append,List.length_singleton] at hi;rcases (by omega:i<ds.length∨i=ds.length) with h1 | rfl
 ·rw [List.getElem_append_left h1,List.take_append_of_le_length (by omega)];exact h i h1
 ·rw [List.getElem_append_right (by omega)];simpa using hr
theorem limD_up {ds:List DRule} {i:Nat} {x:Int} (h:limD (ds.take i) x ≠ -1):limD ds x=limD (ds.take i) x:=by
 unfold limD at *
 split at h
 ·rename_i h0
  rw [if_pos h0,if_pos h0]
  split at h
  ·rename_i r hr
   rw [List.getElem?_take] at hr
   split at hr
   ·rw [hr]
   ·cases hr
  ·exact absurd rfl h
 ·exact absurd rfl h
theorem between_iff {n lo hi:Int}:between n lo hi=true↔lo≤n∧n≤hi:=by simp [between]
theorem choOk_lim {ds:List DRule} {r:DRule} (h:choOk ds r=true):limD ds (r.kids.getD 0 0) ≠ -1:=by
 intro hl;unfold choOk at h;simp only [Bool.and_eq_true,between_iff] at h;obtain ⟨⟨_,h1,_⟩,h2⟩:=h;have h3:=List.all_eq_true.1 h2 0 (by simp;omega);rw [hl] at h3;unfold tagOk at h3;rw [List.getElem?_eq_getElem (by omega)] at h3;simp only [Bool.and_eq_true,between_iff] at h3
 omega
theorem kindOk_up {ds:List DRule} {i:Nat} {r:DRule} (h:kindOk (ds.take i) r=true):kindOk ds r=true:=by
 unfold kindOk at *
 by_cases h1:r.kind=1
 ·simpa only [h1,if_true] using h
 rw [if_neg h1] at h ⊢
 by_cases h2:r.kind=2
 ·simpa only [h2,if_true] using h
 rw [if_neg h2] at h ⊢
 by_cases h3:r.kind=3
 ·simpa only [h3,if_true] using h
 rw [if_neg h3] at h ⊢
 by_cases h4:r.kind=4
 ·rw [if_pos h4] at h ⊢
  simp only [Bool.and_eq_true,decide_eq_true_eq] at h ⊢;exact ⟨h.1,by rw [limD_up (x:=r.kids.getD 0 0) (i:=i) (by omega)];exact h.2⟩
 rw [if_neg h4] at h ⊢
 by_cases h5:r.kind=5
 ·rw [if_pos h5] at h ⊢
  simp only [Bool.and_eq_true,decide_eq_true_eq] at h ⊢;exact ⟨h.1,by rw [limD_up (x:=r.kids.getD 0 0) (i:=i) (by omega)];exact h.2⟩
 rw [if_neg h5] at h ⊢
 by_cases h6:r.kind=6
 ·rw [if_pos h6] at h ⊢;exact h
 rw [if_neg h6] at h ⊢
 by_cases h7:r.kind=7
 ·rw [if_pos h7] at h ⊢
  have hl:=limD_up (choOk_lim h);unfold choOk at *;rw [hl];exact h
 rw [if_neg h7] at h ⊢;exact h
theorem MadeD.num {ds:List DRule} (h:MadeD ds) (hn:ds.length≤32) (i:Nat) (hi:i<ds.length):numOf ds[i].nm=i∧isName ds[i].nm=true:=by
 obtain ⟨s,hs,he⟩:=(h i hi).nm;rw [List.length_take,Nat.min_eq_left (by omega)] at he;rw [he];exact made_num s hs i (by omega)
theorem MadeD.rule {ds:List DRule} (h:MadeD ds) (hn:ds.length≤32) (i:Nat) (hi:i<ds.length):ruleOk ds i=true:=by
 have hm:=h i hi;unfold ruleOk;rw [List.getElem?_eq_getElem hi];simp only [Bool.and_eq_true];refine ⟨⟨⟨⟨(h.num hn i hi).2,hm.lit⟩,allN_yes fun j hj=>?_⟩,allN_yes fun j hj=>?_⟩,kindOk_up hm.ok⟩
 ·unfold freshNm
  rw [List.getElem?_eq_getElem (by omega)];have h1:=(h.num hn i hi).1;have h2:=(h.num hn j (by omega)).1;dsimp only;rw [ne_of_num (a:=ds[j].nm) (b:=ds[i].nm) (by omega)];rfl
 ·unfold kidOk
  rw [List.getElem?_eq_getElem hj]
  have:=hm.kids _ (List.getElem_mem hj);rw [List.length_take,Nat.min_eq_left (by omega)] at this;rw [between_iff];omega
theorem MadeD.valid {ds:List DRule} (h:MadeD ds) (h0:0<ds.length) (hn:ds.length≤24):descOk ds=true:=by
 unfold descOk;rw [Bool.and_eq_true,between_iff];exact ⟨by omega,allN_yes fun j hj=>h.rule (by omega) j hj⟩
theorem MadeD.lim {ds:List DRule} (h:MadeD ds) {x:Nat} (hx:x<ds.length) (hk:ds[x].kind=1):255≤limD ds (x:Int):=by
 have hm:=(h x hx).ok;unfold kindOk at hm;rw [if_pos hk] at hm;simp only [Bool.and_eq_true,between_iff] at hm;obtain ⟨⟨_,h1,h2⟩,_⟩:=hm;unfold limD;rw [if_pos (by omega)];simp only [Int.toNat_natCast,List.getElem?_eq_getElem hx];rcases limR_cases ds[x] with e | e | e | e | e
 ·exfalso
  unfold limR at e;rw [if_pos ⟨hk,h1,h2⟩] at e;rcases (by omega:ds[x].size=1∨ds[x].size=2∨ds[x].size=3∨ds[x].size=4) with e' | e' | e' | e'<;>rw [e'] at e<;>simp at e
 all_goals rw [e];omega
section
variable {ds:List DRule} {nm:ByteArray} (hnm:∃ s∈heads,nm=s++itoaB (ds.length:Int))
include hnm
theorem made_int {y:Nat} {flag:Bool} (hy:y<3) (hf:flag=true→1≤y):MadeR ds ⟨nm,1,1+(y:Int),flag,[],[],[],[]⟩ :=
 ⟨hnm,by
  simp only [kindOk,if_true,plainB,between,Bool.and_eq_true,decide_eq_true_eq,Bool.or_eq_true,Bool.not_eq_true'];cases flag
  ·simp;omega
  ·have:=hf rfl;simp;omega,by simp,by simp⟩
theorem made_const {b:List UInt8} (h0:1≤b.length) (h1:b.length≤16):MadeR ds ⟨nm,2,0,false,b,[],[],[]⟩ :=
 ⟨hnm,by simp [kindOk,plainB,between];omega,by simp,by simp⟩
theorem made_fixed {y:Nat} (hy:y<4):MadeR ds ⟨nm,3,1+(y:Int),false,[],[],[],[]⟩ :=
 ⟨hnm,by simp [kindOk,plainB,between];omega,by simp,by simp⟩
theorem made_sized (hM:MadeD ds) {x:Nat} (hx:x<ds.length) (hk:ds[x].kind=1):MadeR ds ⟨nm,4,0,false,[],[],[],[(x:Int)]⟩ :=
 ⟨hnm,by have:=hM.lim hx hk;simp [kindOk,plainB];omega,by simp,by simp;omega⟩
theorem made_array (hM:MadeD ds) {x y:Nat} (hx:x<ds.length) (hk:ds[x].kind=1) (hy:y<ds.length):MadeR ds ⟨nm,5,0,false,[],[],[],[(x:Int),(y:Int)]⟩ :=
 ⟨hnm,by have:=hM.lim hx hk;simp [kindOk,plainB];omega,by simp,by simp;omega⟩
theorem made_opt {y:Nat} (hy:y<ds.length):MadeR ds ⟨nm,8,0,false,[],[],[],[(y:Int)]⟩ :=
 ⟨hnm,by simp [kindOk,plainB],by simp,by simp;omega⟩
theorem made_checked {y:Nat} (hy:y<ds.length):MadeR ds ⟨nm,9,0,false,[],[],[],[(y:Int)]⟩ :=
 ⟨hnm,by simp [kindOk,plainB],by simp,by simp;omega⟩
theorem made_term {b:UInt8} (hb:b≠92):MadeR ds ⟨nm,10,0,false,[b],[],[],[]⟩ :=
 ⟨hnm,by simp [kindOk,plainB,hb],by simp,by simp⟩
end
def seqHeads:List ByteArray:=[⟨#[112]⟩,⟨#[113]⟩,⟨#[114]⟩]
theorem part_num:∀ s∈seqHeads,∀ n,n<32→numOf (s++itoaB (n:Nat))=n∧isName (s++itoaB (n:Nat))=true:=by decide +kernel
structure SeqInv (i:Nat) (l:List ByteArray):Prop where
 ok:allN l.length (nameOk l)=true
 of:∀ t∈l,∃ s∈seqHeads,∃ j,i<j∧j<32∧t=s++itoaB ((j:Nat):Int)
theorem SeqInv.nil (i:Nat):SeqInv i []:=⟨rfl,by simp⟩
theorem SeqInv.snoc {i:Nat} {l:List ByteArray} (h:SeqInv i l) {s:ByteArray} (hs:s∈seqHeads) (h0:0<i) (hi:i<32):SeqInv (i-1) (l++[s++itoaB (i:Int)]):=by
 have hnum:∀ t∈l,i<numOf t∧isName t=true:=fun t ht=>by
  obtain ⟨s',hs',j,h1,h2,rfl⟩:=h.of t ht;obtain ⟨h3,h4⟩:=part_num s' hs' j h2;exact ⟨by omega,h4⟩
 have hn:=part_num s hs i hi;refine ⟨?_,fun t ht=>?_⟩
 ·refine allN_yes fun j hj=>?_
  rw [List.length_append,List.length_singleton] at hj;unfold nameOk;rcases (by omega:j<l.length∨j=l.length) with h1 | rfl
  ·have h2:=List.all_eq_true.1 h.ok j (by simpa using h1)
   unfold nameOk at h2;rw [List.getElem?_eq_getElem h1] at h2;rw [List.getElem?_append_left h1,List.getElem?_eq_getElem h1,List.take_append_of_le_length (by omega)];exact h2
  ·rw [List.getElem?_append_right (by omega)]
   simp only [Nat.sub_self,List.getElem?_cons_zero,Bool.and_eq_true,Bool.not_eq_true'];refine ⟨hn.2,hasNm_none fun k hk=>?_⟩;have hk':k<l.length:=by simp at hk;omega
   have:((l++[s++itoaB (i:Int)]).take l.length)[k]=l[k]:=by simp [hk']
   rw [this]
   have:=(hnum _ (List.getElem_mem hk')).1;exact ne_of_num (by omega)
 ·rcases List.mem_append.1 ht with h1 | h1
  ·obtain ⟨s',hs',j,h2,h3,h4⟩:=h.of t h1
   exact ⟨s',hs',j,by omega,h3,h4⟩
  ·rw [List.mem_singleton.1 h1]
   exact ⟨s,hs,i,by omega,hi,rfl⟩
theorem made_seq {ds:List DRule} {r:DRule} (hnm:∃ s∈heads,r.nm=s++itoaB (ds.length:Int)) (hk:r.kind=6) (h1:r.size=0) (h2:r.bytes=[]) (h3:r.tags=[]) (h4:r.little=false) (hl:r.kids.length=r.names.length) (h0:1≤r.names.length) (h8:r.names.length≤8) {i:Nat} (hS:SeqInv i r.names) (hkid:∀ x∈r.kids,0≤x∧x<(ds.length:Int)):MadeR ds r:=by
 refine ⟨hnm,?_,by simp [h4],hkid⟩;unfold kindOk;rw [if_neg (by omega),if_neg (by omega),if_neg (by omega),if_neg (by omega),if_neg (by omega),if_pos hk];unfold seqOk plainB;simp only [h1,h2,h3,Bool.and_eq_true,between_iff,hS.ok];simp;omega
structure TagInv (l:List Int):Prop where
 at':∀ j (h:j<l.length),4*(j:Int)≤l[j]∧l[j]<4*(j:Int)+4
theorem TagInv.nil:TagInv []:=⟨by simp⟩
theorem TagInv.snoc {l:List Int} (h:TagInv l) {z:Nat} (hz:z<4):TagInv (l++[4*(l.length:Int)+(z:Int)]):=by
 refine ⟨fun j hj=>?_⟩;rw [List.length_append,List.length_singleton] at hj;rcases (by omega:j<l.length∨j=l.length) with h1 | rfl
 ·rw [List.getElem_append_left h1];exact h.at' j h1
 ·rw [List.getElem_append_right (by omega)];simp;omega
theorem made_cho {ds:List DRule} {r:DRule} (hM:MadeD ds) (hnm:∃ s∈heads,r.nm=s++itoaB (ds.length:Int)) (hk:r.kind=7) (h1:r.size=0) (h2:r.bytes=[]) (h3:r.names=[]) (h4:r.little=false) (hl:r.kids.length=r.tags.length+1) (h0:1≤r.tags.length) (h8:r.tags.length≤8) (hT:TagInv r.tags) {x:Nat} {t:List Int} (hx:x<ds.length) (hx1:ds[x].kind=1) (hkx:r.kids=(x:Int)::t) (hkid:∀ x∈r.kids,0≤x∧x<(ds.length:Int)):MadeR ds r:=by
 have hlim:=hM.lim hx hx1;refine ⟨hnm,?_,by simp [h4],hkid⟩;unfold kindOk;rw [if_neg (by omega),if_neg (by omega),if_neg (by omega),if_neg (by omega),if_neg (by omega),if_neg (by omega),if_pos hk];unfold choOk plainB
 have hall:allN r.tags.length (tagOk (limD ds (r.kids.getD 0 0)) r.tags)=true:=by
  refine allN_yes fun j hj=>?_
  unfold tagOk;rw [List.getElem?_eq_getElem hj];have h5:=hT.at' j hj;simp only [Bool.and_eq_true,between_iff,Bool.or_eq_true,beq_iff_eq,decide_eq_true_eq];refine ⟨⟨by omega,by rw [hkx];simp only [List.getD_cons_zero];omega⟩,?_⟩;rcases (by omega:j=0∨0<j) with h6 | h6
  ·exact .inl h6
  ·right
   have h7:=hT.at' (j-1) (by omega);rw [List.getD_eq_getElem?_getD,List.getElem?_eq_getElem (by omega),Option.getD_some]
   omega
 rw [hall];simp only [h1,h2,h3,Bool.and_eq_true,between_iff];simp;omega
section
variable {P:Program} {ops:Array Oper} {Q:Exit→Act→World→Prop} {md:Region.Mode} {C:Nat→World→Prop} {S:World→Prop}
def wpAnyC (P:Program) (md:Region.Mode) (ops:Array Oper) (Q:Exit→Act→World→Prop) (C:Nat→World→Prop):Nat→Array Bool→Act→World→Prop
 | 0,listed,a,w=>Region.ready md ops listed=[]∧Q .normal a w
 | fuel+1,listed,a,w =>
  (Region.ready md ops listed=[]→Q .normal a w) ∧
  ∀ i∈Region.ready md ops listed,wpOp P ops Q i (fun a' w'=>C i w'∧wpAnyC P md ops Q C fuel (listed.setIfInBounds i true) a' w') a w
theorem wpAny_of_C:∀ (fuel:Nat) (listed:Array Bool) (a:Act) (w:World),wpAnyC P md ops Q C fuel listed a w→wpAny P md ops Q fuel listed a w
 | 0,_,_,_,h=>h
 | fuel+1,_,_,_,h=>⟨h.1,fun i hi=>wpOp_mono (fun a' w' h'=>wpAny_of_C fuel _ a' w' h'.2) (h.2 i hi)⟩
def depOn (md:Region.Mode) (ops:Array Oper):Nat→Nat→Nat→Bool
 | 0,_,_=>false
 | n+1,j,i=>match ops[j]? with
  | some o=>o.after.any (fun e=>Region.binds md e&&e.on==i)||o.after.any (fun e=>Region.binds md e&&depOn md ops n e.on i)
  | none=>false
def Down (md:Region.Mode) (ops:Array Oper) (listed:Array Bool):Prop:=∀ k o,ops[k]?=some o→listed.getD k false=true→∀ e∈o.after,Region.binds md e=true→listed.getD e.on false=true
theorem dep_listed {listed:Array Bool} (hd:Down md ops listed) {i:Nat}:∀ (n j:Nat) (o:Oper),ops[j]?=some o→(∀ e∈o.after,Region.binds md e=true→listed.getD e.on false=true)→depOn md ops n j i=true→listed.getD i false=true:=by
 intro n
 induction n with
 | zero=>intro j o _ _ h;cases h
 | succ n ih =>
  intro j o ho hall h;unfold depOn at h;rw [ho] at h;simp only [Bool.or_eq_true,Array.any_eq_true,Bool.and_eq_true,beq_iff_eq] at h;rcases h with ⟨k,hk,hb,he⟩ | ⟨k,hk,hb,he⟩
  ·rw [← he];exact hall _ (Array.getElem_mem hk) hb
  ·have h1:=hall _ (Array.getElem_mem hk) hb
   cases h2:ops[o.after[k].on]? with
   | none=>cases n with
    | zero=>cases he
    | succ n=>unfold depOn at he;rw [h2] at he;cases he
   | some o2=>exact ih _ o2 h2 (hd _ o2 h2 h1) he
theorem getD_false_of {listed:Array Bool} {i:Nat} (h:listed.getD i true=false):listed.getD i false=false:=by
 rcases Nat.lt_or_ge i listed.size with h' | h'
 ·simp [h'] at h ⊢;exact h
 ·simp [h'] at h
theorem Down.set {listed:Array Bool} (hd:Down md ops listed) {j:Nat} (hj:j∈Region.ready md ops listed):Down md ops (listed.setIfInBounds j true):=by
 intro k o ho hk e he hb;obtain ⟨_,oj,hoj,hall⟩:=mem_ready.1 hj
 by_cases hkj:j=k
 ·subst hkj
  rw [hoj] at ho;injection ho with ho;subst ho
  exact getD_set_true (hall e he hb)
 ·rw [getD_set_ne false hkj] at hk
  exact getD_set_true (hd k o ho hk e he hb)
theorem wpAnyC_first {i:Nat} {oi:Oper} {v:Value} (hi:ops[i]?=some oi) (hsel:∀ (j:Nat) (o:Oper) cs b,ops[j]?=some o→o.op≠.select cs b)
 (hQ:∀ c a w,Q (.panic c) (a.put oi.dst v) w→Q (.panic c) a w) (n:Nat) (hCi:∀ w',S w'→C i w') :
 ∀ (fuel:Nat) (listed:Array Bool) (a:Act) (w:World),Down md ops listed →
  (∀ j oj,ops[j]?=some oj→j≠i→listed.getD j true=false→(∀ e∈oj.after,Region.binds md e=true→e.on≠i)→oi.apart ops oj=true) →
  (∀ j oj,ops[j]?=some oj→listed.getD j true=false→j≠i→depOn md ops n j i=false→∀ w',C j w'→S w') →
  i∈Region.ready md ops listed→YieldsIf P ops S oi v a→S w →
  wpAnyC P md ops Q C fuel (listed.setIfInBounds i true) (a.put oi.dst v) w→wpAnyC P md ops Q C (fuel+1) listed a w:=by
 intro fuel
 induction fuel with
 | zero =>
  intro listed a w _ _ _ hr hy hS H;refine ⟨fun h=>(by rw [h] at hr;cases hr),fun j hj=>?_⟩
  by_cases hji:j=i
  ·subst hji;exact hy.wpOp hi hS ⟨hCi w hS,H⟩
  ·have:=ready_mono hj hji
   rw [H.1] at this;cases this
 | succ fuel ih =>
  intro listed a w hd hfree hC hr hy hS H;refine ⟨fun h=>(by rw [h] at hr;cases hr),fun j hj=>?_⟩
  by_cases hji:j=i
  ·subst hji;exact hy.wpOp hi hS ⟨hCi w hS,H⟩
  ·have h1:=H.2 j (ready_mono hj hji)
   obtain ⟨hjun,oj,hoj,hall⟩:=mem_ready.1 hj;have hiun:=getD_false_of (mem_ready.1 hr).1
   have hnot:∀ e∈oj.after,Region.binds md e=true→e.on≠i:=fun e he hb heq=>by
    have h1:=hall e he hb;rw [heq,hiun] at h1;cases h1
   have hnd:depOn md ops n j i=false:=by
    rw [Bool.eq_false_iff];intro hh
    have:=dep_listed hd n j oj hoj hall hh;rw [hiun] at this;cases this
   have h2:=wpOp_putIf hoj (hfree j oj hoj hji hjun hnot) (fun cs b=>hsel i oi cs b hi) (fun cs b=>hsel j oj cs b hoj) hQ hy h1
   have hfree':∀ k ok,ops[k]?=some ok→k≠i→(listed.setIfInBounds j true).getD k true=false →
    (∀ e∈ok.after,Region.binds md e=true→e.on≠i)→oi.apart ops ok=true:=fun k ok hk hki hun hno=>by
    refine hfree k ok hk hki ?_ hno
    by_cases hjk:j=k
    ·subst hjk;exact hjun
    ·rw [getD_set_ne true hjk] at hun;exact hun
   have hC':∀ k ok,ops[k]?=some ok→(listed.setIfInBounds j true).getD k true=false→k≠i→depOn md ops n k i=false→∀ w',C k w'→S w':=fun k ok hk hun hki hno=>by
    refine hC k ok hk ?_ hki hno
    by_cases hjk:j=k
    ·subst hjk;exact hjun
    ·rw [getD_set_ne true hjk] at hun;exact hun
   refine wpOp_mono (fun a' w' h3=>⟨h3.2.1,ih (listed.setIfInBounds j true) a' w' (hd.set hj) hfree' hC' (ready_mono hr (Ne.symm hji)) h3.1 (hC j oj hoj hjun hji hnd w' h3.2.1) ?_⟩) h2;rw [Array.setIfInBounds_comm _ _ hji];exact h3.2.2
def downB (md:Region.Mode) (ops:Array Oper) (listed:Array Bool):Bool:=(List.range ops.size).all fun k=>!listed.getD k false||((ops[k]?).map fun o=>o.after.all fun e=>!Region.binds md e||listed.getD e.on false).getD true
theorem downB_spec {listed:Array Bool} (h:downB md ops listed=true):Down md ops listed:=by
 intro k o ho hk e he hb;have hlt:k<ops.size:=(Array.getElem?_eq_some_iff.1 ho).1
 have h1:=List.all_eq_true.1 h k (List.mem_range.2 hlt);rw [hk,ho] at h1;simp only [Bool.not_true,Bool.false_or,Option.map_some,Option.getD_some,Array.all_eq_true_iff_forall_mem] at h1;have h2:=h1 e he;rw [hb] at h2
 simpa using h2
def takeB (md:Region.Mode) (ops:Array Oper) (listed:Array Bool) (c:List Nat) (i t:Nat):Bool :=
 decide (c.getD i 0≤t)&&(List.range ops.size).all fun j=>listed.getD j true||j==i||depOn md ops 12 j i||decide (t≤c.getD j 0)
theorem wpAnyC_take {Lv:Nat→World→Prop} {c:List Nat} (t:Nat) {i:Nat} {oi:Oper} {v:Value} {fuel:Nat} {listed:Array Bool} {a:Act} {w:World} (hmono:∀ a b w,a≤b→Lv b w→Lv a w) (hi:ops[i]?=some oi)
 (hs:Region.noSelect ops=true) (hf:Region.free md ops listed i=true) (hr:(Region.ready md ops listed).contains i=true) (hd:downB md ops listed=true) (ht:takeB md ops listed c i t=true)
 (hQ:∀ c a w,Q (.panic c) (a.put oi.dst v) w→Q (.panic c) a w) (hS:Lv t w) (hy:YieldsIf P ops (Lv t) oi v a)
 (h:wpAnyC P md ops Q (fun j=>Lv (c.getD j 0)) fuel (listed.setIfInBounds i true) (a.put oi.dst v) w):wpAnyC P md ops Q (fun j=>Lv (c.getD j 0)) (fuel+1) listed a w:=by
 unfold takeB at ht;rw [Bool.and_eq_true,decide_eq_true_eq] at ht;refine wpAnyC_first (S:=Lv t) (C:=fun j=>Lv (c.getD j 0)) hi (Region.noSelect_spec hs) hQ 12 (fun w' h'=>hmono _ _ w' ht.1 h') fuel listed a w (downB_spec hd) (Region.free_spec hi hf) (fun j oj hoj hj hji hdj w' hc=>?_) (by simpa using hr) hy hS h;have hlt:j<ops.size:=(Array.getElem?_eq_some_iff.1 hoj).1
 have h1:=List.all_eq_true.1 ht.2 j (List.mem_range.2 hlt);rw [hj,hdj] at h1;simp only [Bool.false_or,Bool.or_false,Bool.or_eq_true,beq_iff_eq,decide_eq_true_eq] at h1;rcases h1 with h1 | h1
 ·exact absurd h1 hji
 ·exact hmono _ _ w' h1 hc
theorem wpAnyC_one {i:Nat} {o:Oper} {fuel:Nat} {listed:Array Bool} {a:Act} {w:World} (hr:Region.ready md ops listed=[i]) (ho:ops[i]?=some o)
 (h:∀ K:Act→World→Prop,Shut (∀ a w,C i w→wpAnyC P md ops Q C fuel (listed.setIfInBounds i true) a w→K a w)→if Region.wanted o (yielded ops a.tmps)=true then Oper.wp P o a w K Q else K (a.put o.dst undef) w):wpAnyC P md ops Q C (fuel+1) listed a w:=by
 refine ⟨fun h0=>(by rw [hr] at h0;cases h0),fun j hj=>?_⟩;rw [hr,List.mem_singleton] at hj;subst hj;exact wpOp_step ho (fun K' hK=>h K' (fun a w hC hW=>hK a w ⟨hC,hW⟩))
theorem wpAnyC_done {listed:Array Bool} {a:Act} {w:World} (hr:Region.ready md ops listed=[]) (h:Q .normal a w):∀ fuel,wpAnyC P md ops Q C fuel listed a w
 | 0=>⟨hr,h⟩
 | _+1=>⟨fun _=>h,by rw [hr];simp⟩
theorem wp_region_C {id:Nat} {a:Act} {w:World} (hm:P.follows .mixedOrders=true)
 (h:wpAnyC P .any ops Q C ops.size (Array.replicate ops.size false) a w.drew):(Code.region id ops true).wp P Q a w :=
 wp_region_any hm (wpAny_of_C _ _ _ _ h)
end
def lv2 (A B:World→Prop):Nat→World→Prop
 | 0,_=>True
 | 1,w=>A w
 | _+2,w=>A w∧B w
theorem lv2_mono (A B:World→Prop):∀ a b w,a≤b→lv2 A B b w→lv2 A B a w
 | 0,_,_,_,_=>trivial
 | 1,1,_,_,h=>h
 | 1,_+2,_,_,h=>h.1
 | _+2,_+2,_,_,h=>h
theorem tkC {P:Program} {ops:Array Oper} {Q:Exit→Act→World→Prop} {md:Region.Mode} {A B:World→Prop} {c:List Nat} (t:Nat) {i:Nat} {oi:Oper} {v:Value} {fuel:Nat} {listed:Array Bool} {a:Act} {w:World}
 (hi:ops[i]?=some oi) (hb:(Region.noSelect ops&&Region.free md ops listed i&&(Region.ready md ops listed).contains i&&downB md ops listed&&takeB md ops listed c i t)=true) (hS:lv2 A B t w) (hy:YieldsIf P ops (lv2 A B t) oi v a)
 (h:wpAnyC P md ops Q (fun j=>lv2 A B (c.getD j 0)) fuel (listed.setIfInBounds i true) (a.put oi.dst v) w) (hQ:∀ c a w,Q (.panic c) (a.put oi.dst v) w→Q (.panic c) a w:=by exact fun _ _ _ h=>h) :
 wpAnyC P md ops Q (fun j=>lv2 A B (c.getD j 0)) (fuel+1) listed a w:=by
 simp only [Bool.and_eq_true] at hb;exact wpAnyC_take t (lv2_mono A B) hi hb.1.1.1.1 hb.1.1.1.2 hb.1.1.2 hb.1.2 hb.2 hQ hS hy h
theorem tkD {P:Program} {ops:Array Oper} {Q:Exit→Act→World→Prop} {md:Region.Mode} {A B:World→Prop} {c:List Nat} (t:Nat) {i:Nat} {oi:Oper} {v:Value} {fuel:Nat} {listed:Array Bool} {a:Act} {w:World} (hi:ops[i]?=some oi) (hS:lv2 A B t w) (hy:∀ w,lv2 A B t w→(execOp a.eval oi).run P w=.ok (.value v) w) (h:wpAnyC P md ops Q (fun j=>lv2 A B (c.getD j 0)) fuel (listed.setIfInBounds i true) (a.put oi.dst v) w) (hb:(Region.noSelect ops&&Region.free md ops listed i&&(Region.ready md ops listed).contains i&&downB md ops listed&&takeB md ops listed c i t)=true:=by kernel_rfl) (hw:Region.wanted oi (yielded ops a.tmps)=true:=by rfl) (hQ:∀ c a w,Q (.panic c) (a.put oi.dst v) w→Q (.panic c) a w:=by exact fun _ _ _ h=>h):wpAnyC P md ops Q (fun j=>lv2 A B (c.getD j 0)) (fuel+1) listed a w:=tkC t hi hb hS (Or.inl ⟨hw,hy⟩) h hQ
section
variable {P:Program} {ops:Array Oper} {o:Oper} {a:Act} {Q:Exit→Act→World→Prop} {K:Act→World→Prop} {E:Prop}
theorem step_app8 (hgd:o.guard=none) (s x:Operand) (t:TypeId) (ho:o.op=.call { callee:=.builtin .append,args:=#[s,x],argTypes:=#[t,t] })
 {e:TypeId} {size bytes:Nat} {z:Value} (hE:Elem P t e size bytes z) (w0 w:World) (v:Value) (n:Nat) (xs:List Value) (hs:a.eval s=v) (hown:Own e size w0 w v n xs) (he:w0.heap.size≤w.heap.size)
 (ad:Addr) (m c:Nat) (news:List Value) (hx:a.eval x=.slice (some ad) m c) (hl:news.length=m*size) (hA:∀ j u,news[j]?=some u→w.cell? (ad.add j)=some u) (h1:∀ u∈news,u.oneCell'=true)
 (hm:n+m≤maxLen) (hb:(n+m)*bytes≤140737488355328)
 (h:∀ v' w',Own e size w0 w' v' (n+m) (xs++news)→w.grownBy w' v.ownBlock→(v'.ownBlock=v.ownBlock∨v'.ownBlock=some w.heap.size)→K (a.put o.dst v') w') :
 if Region.wanted o (yielded ops a.tmps)=true then Oper.wp P o a w K Q else E:=by
 have hw:Region.wanted o (yielded ops a.tmps)=true:=by simp [Region.wanted,hgd]
 rw [if_pos hw];obtain ⟨i0,hi0,hz0,hz1,hz2⟩:=info_parts hE.hi;obtain ⟨v',w',hr,h2,h3,h4,h5⟩:=run_append_own_at (P:=P) w w0.heap.size t o.type e i0 z size bytes hE.ht hi0 hz0 hz1 hz2 hE.hz hE.hs v n xs hown ad m c news hl hA h1 hm hb he;unfold Oper.wp execOp;simp only [ho,resolve,invoke,builtin,Sem.run_bind,Sem.run_pure,Result.andThen_ok,List.map_toArray,List.map_cons,List.map_nil,hs,hx,hr];exact h v' w' h2 h3 h5
end
theorem vals_cells_one (p:RV) {w0 w:World} (h:RuleOwn w0 w p) (hs:ShortR p.r):∀ u∈p.cells,u.oneCell'=true:=by
 obtain ⟨Ab,cb,An,cn,At,ct,Ak,ck,h1,h2,h3,h4,_⟩:=h.rd hs;exact RV.cells_one p (by rw [h1];rfl) (by rw [h2];rfl) (by rw [h3];rfl) (by rw [h4];rfl)
theorem OwnD.snoc {W0 wr w2 w4:World} {v v':Value} {ps:List RV} {p:RV} (h:OwnD W0 wr v ps) (e2:Ext wr w2) (hro:RuleOwn wr w2 p) (hfr:Far p.vals) (hb:W0.heap.size≤wr.heap.size) {cs:Array Value} {T:TypeId}
 (ho4:Own 67 8 W0 w4 v' (ps.length+1) (ps.flatMap RV.cells++p.cells)) (hg4:(w2.alloc (.cells cs T)).grownBy w4 v.ownBlock) (hv:v'.ownBlock=v.ownBlock∨v'.ownBlock=some (w2.alloc (.cells cs T)).heap.size):OwnD W0 w4 v' (ps++[p]):=by
 have ex:=Ext_alloc (.cells cs T) (Ext.refl w2);have hsz:(w2.alloc (.cells cs T)).heap.size=w2.heap.size+1:=by simp
 have hbl:=h.block;have hfar:=h.far;unfold Far at hfar;rw [List.pairwise_cons] at hfar;have hs2:=e2.size;refine ⟨?_,fun q hq=>?_,?_⟩
 ·rw [List.length_append,List.flatMap_append,List.flatMap_cons,List.flatMap_nil,List.append_nil];exact ho4
 ·rcases List.mem_append.1 hq with hq | hq
  ·refine (((h.each q hq).ext e2).ext ex).keep hg4 (fun u hu g hg he=>?_)
   exact hfar.1 u (List.mem_flatMap.2 ⟨q,hq,hu⟩) g he hg
  ·obtain rfl:=List.mem_singleton.1 hq
   refine ((hro.ext ex).keep hg4 (fun u hu g hg he=>?_)).down hb;have h1:=(hro.block u hu g hg).1;have h2:=(hbl v (List.mem_cons_self ..) g he).2
   omega
 ·rw [List.flatMap_append,List.flatMap_cons,List.flatMap_nil,List.append_nil]
  have hold:∀ u∈ps.flatMap RV.vals,∀ g,u.ownBlock=some g→g<wr.heap.size:=fun u hu g hg=>(hbl u (List.mem_cons_of_mem _ hu) g hg).2
  have hnew:∀ u∈p.vals,∀ g,u.ownBlock=some g→wr.heap.size≤g∧g<w2.heap.size:=fun u hu g hg=>hro.block u hu g hg
  refine Far.cons (Far.append hfar.2 hfr (fun u hu x hx g h1 h2=>by have:=hold u hu g h1;have:=(hnew x hx g h2).1;omega)) (fun x hx g h1 h2=>?_);rcases hv with hv | hv
  ·rw [hv] at h1
   rcases List.mem_append.1 hx with hx | hx
   ·exact hfar.1 x hx g h1 h2
   ·have:=(hbl v (List.mem_cons_self ..) g h1).2;have:=(hnew x hx g h2).1;omega
  ·rw [hv,hsz] at h1
   injection h1 with h1
   rcases List.mem_append.1 hx with hx | hx
   ·have:=hold x hx g h2;omega
   ·have:=(hnew x hx g h2).2;omega
theorem size_drew (w:World):w.drew.heap.size=w.heap.size:=rfl
theorem E_val:Elem Tryz.prog 27 29 3 56 (.agg #[.int .i64 0,.slice none 0 0,.slice none 0 0]):=⟨Tryz.underlying27,by kernel_rfl,rfl,by omega⟩
section
variable {P:Program} {ops:Array Oper} {o:Oper} {a:Act} {Q:Exit→Act→World→Prop} {K:Act→World→Prop} {E:Prop}
theorem step_appH (hgd:o.guard=none) (s x:Operand) (t:TypeId) (ho:o.op=.call { callee:=.builtin .append,args:=#[s,x],argTypes:=#[t,t] })
 {e:TypeId} {bytes:Nat} {z:Value} (hE:Elem P t e 1 bytes z) (hby:1≤bytes) (w0 w:World) {α:Type} (f:α→Value) (hf:∀ x,(f x).oneCell'=true) (v:Value) (hs:a.eval s=v) (A:Option Addr) (m c:Nat) (hx:a.eval x=.slice A m c)
 (l ys:List α) (hown:OwnL f e w0 w v l) (he:Ext w0 w) (hm:m=ys.length)
 (hA:0<ys.length→∃ ad,A=some ad∧∀ j u,(ys.map f)[j]?=some u→w.cell? (ad.add j)=some u)
 (hb:(l.length+ys.length)*bytes≤140737488355328)
 (h:∀ v' w',OwnL f e w0 w' v' (l++ys)→Ext w0 w'→(v'.ownBlock=v.ownBlock∨v'.ownBlock=some w.heap.size)→w.grownBy w' v.ownBlock→K (a.put o.dst v') w') :
 if Region.wanted o (yielded ops a.tmps)=true then Oper.wp P o a w K Q else E:=by
 have hw:Region.wanted o (yielded ops a.tmps)=true:=by simp [Region.wanted,hgd]
 rw [if_pos hw];obtain ⟨i0,hi0,hz0,hz1,hz2⟩:=info_parts hE.hi;subst hm;have hfin:∀ v' w',Own e 1 w0 w' v' (l.length+ys.length) (l.map f++ys.map f)→Ext w0 w'→(v'.ownBlock=v.ownBlock∨v'.ownBlock=some w.heap.size)→w.grownBy w' v.ownBlock→K (a.put o.dst v') w':=fun v' w' h1 h2 h3 h4=>h v' w' (by simpa [OwnL] using h1) h2 h3 h4
 rcases A with _ | ad
 ·have hm0:ys.length=0:=by
   rcases Nat.eq_zero_or_pos ys.length with h0 | h0
   ·exact h0
   ·obtain ⟨ad,h,_⟩:=hA h0
    cases h
  obtain rfl:ys=[]:=List.eq_nil_of_length_eq_zero hm0
  unfold Oper.wp execOp;simp only [ho,resolve,invoke,builtin,Sem.run_bind,Sem.run_pure,Result.andThen_ok,List.map_toArray,List.map_cons,List.map_nil,List.length_nil,hs,hx,run_app_nil w w0.heap.size t o.type e i0 1 hE.ht hi0 v l.length (l.map f) hown c];exact hfin v w (by have h':=hown;unfold OwnL at h';simpa using h') he (.inl rfl) (World.grownBy.refl w _)
 ·obtain ⟨v',w',hr,h2,h3,h4,h5⟩:=run_append_own_at (P:=P) w w0.heap.size t o.type e i0 z 1 bytes hE.ht hi0 hz0 hz1 hz2 hE.hz hE.hs v l.length (l.map f) hown ad ys.length c (ys.map f) (by simp)
   (fun j u hu=>by
    rcases Nat.eq_zero_or_pos ys.length with h0 | h0
    ·obtain rfl:ys=[]:=List.eq_nil_of_length_eq_zero h0
     simp at hu
    ·obtain ⟨ad',h',hc⟩:=hA h0
     injection h' with h'
     subst h';exact hc j u hu)
   (fun u hu=>by obtain ⟨x,_,rfl⟩:=List.mem_map.1 hu;exact hf x) (by have:=Nat.mul_le_mul_left (l.length+ys.length) hby;simp only [maxLen];omega) hb he.size
  unfold Oper.wp execOp;simp only [ho,resolve,invoke,builtin,Sem.run_bind,Sem.run_pure,Result.andThen_ok,List.map_toArray,List.map_cons,List.map_nil,hs,hx,hr];exact hfin v' w' h2 (he.grown h3 (fun k hk=>(hown.lt k hk).1)) h5 h3
end
theorem own_nb' {v4:Value} {a b n:Nat} (h:v4.ownBlock=(Value.slice (some ⟨a,0,none⟩) 0 0).ownBlock∨v4.ownBlock=some n) (h1:a≠b) (h2:n≠b):v4.ownBlock≠some b:=by
 intro hh;rcases h with h | h
 ·have:some b=some a:=hh.symm.trans h
  injection this with this;exact h1 this.symm
 ·have:some b=some n:=hh.symm.trans h
  injection this with this;exact h2 this.symm
theorem val_laid {W2 w4:World} {g:Nat} {num:Int} {v v2:Value} {l:List UInt8} (hb:Box w4 g #[.int .i64 0,.slice none 0 0,.slice none 0 0] 29) (ho:OwnL vu8 5 W2 w4 v l) (hne:v.ownBlock≠some g) (hg:W2.heap.size≤g) (he:Ext W2 w4) :
 Box (((w4.setCell ⟨g,0,none⟩ (.int .i64 num)).setCell ⟨g,1,none⟩ v).setCell ⟨g,2,none⟩ v2) g #[.int .i64 num,v,v2] 29∧OwnL vu8 5 W2 (((w4.setCell ⟨g,0,none⟩ (.int .i64 num)).setCell ⟨g,1,none⟩ v).setCell ⟨g,2,none⟩ v2) v l∧W2.heap.size≤g∧Ext W2 (((w4.setCell ⟨g,0,none⟩ (.int .i64 num)).setCell ⟨g,1,none⟩ v).setCell ⟨g,2,none⟩ v2):=by
 refine ⟨?_,((ho.other ⟨g,0,none⟩ _ hne).other ⟨g,1,none⟩ _ hne).other ⟨g,2,none⟩ _ hne,hg,((he.setCell (p:=⟨g,0,none⟩) hg _).setCell (p:=⟨g,1,none⟩) hg _).setCell (p:=⟨g,2,none⟩) hg _⟩
 have:=((hb.set 0 (.int .i64 num)).set 1 v).set 2 v2
 simpa using this
theorem OwnTs.snoc {W0 wr w2 w4:World} {v v':Value} {ps:List VT} {p:VT} (h:OwnTs W0 wr v ps) (e2:Ext wr w2) (hro:OwnT wr w2 p) (hfr:Far p.vals) (hb:W0.heap.size≤wr.heap.size) {cs:Array Value} {T:TypeId}
 (ho4:Own 29 3 W0 w4 v' (ps.length+1) (ps.flatMap VT.cells++p.cells)) (hg4:(w2.alloc (.cells cs T)).grownBy w4 v.ownBlock) (hv:v'.ownBlock=v.ownBlock∨v'.ownBlock=some (w2.alloc (.cells cs T)).heap.size):OwnTs W0 w4 v' (ps++[p]):=by
 have ex:=Ext_alloc (.cells cs T) (Ext.refl w2);have hsz:(w2.alloc (.cells cs T)).heap.size=w2.heap.size+1:=by simp
 have hbl:=h.block;have hfar:=h.far;unfold Far at hfar;rw [List.pairwise_cons] at hfar;have hs2:=e2.size;refine ⟨?_,fun q hq=>?_,?_⟩
 ·rw [List.length_append,List.flatMap_append,List.flatMap_cons,List.flatMap_nil,List.append_nil];exact ho4
 ·rcases List.mem_append.1 hq with hq | hq
  ·refine (((h.each q hq).ext e2).ext ex).keep hg4 (fun u hu g hg he=>?_)
   exact hfar.1 u (List.mem_flatMap.2 ⟨q,hq,hu⟩) g he hg
  ·obtain rfl:=List.mem_singleton.1 hq
   refine ((hro.ext ex).keep hg4 (fun u hu g hg he=>?_)).down hb;have h1:=(hro.block u hu g hg).1;have h2:=(hbl v (List.mem_cons_self ..) g he).2
   omega
 ·rw [List.flatMap_append,List.flatMap_cons,List.flatMap_nil,List.append_nil]
  have hold:∀ u∈ps.flatMap VT.vals,∀ g,u.ownBlock=some g→g<wr.heap.size:=fun u hu g hg=>(hbl u (List.mem_cons_of_mem _ hu) g hg).2
  have hnew:∀ u∈p.vals,∀ g,u.ownBlock=some g→wr.heap.size≤g∧g<w2.heap.size:=fun u hu g hg=>hro.block u hu g hg
  refine Far.cons (Far.append hfar.2 hfr (fun u hu x hx g h1 h2=>by have:=hold u hu g h1;have:=(hnew x hx g h2).1;omega)) (fun x hx g h1 h2=>?_);rcases hv with hv | hv
  ·rw [hv] at h1
   rcases List.mem_append.1 hx with hx | hx
   ·exact hfar.1 x hx g h1 h2
   ·have:=(hbl v (List.mem_cons_self ..) g h1).2;have:=(hnew x hx g h2).1;omega
  ·rw [hv,hsz] at h1
   injection h1 with h1
   rcases List.mem_append.1 hx with hx | hx
   ·have:=hold x hx g h2;omega
   ·have:=(hnew x hx g h2).2;omega
theorem OwnT.one {w0 w:World} {t:VT} (h:OwnT w0 w t):∀ u∈t.cells,u.oneCell'=true:=by
 obtain ⟨A,c,e1⟩:=Own.shape (show Own _ 1 w0 w t.vb t.bs.length _ from h.b);obtain ⟨A',c',e2⟩:=Own.shape h.i;exact VT.one (by rw [e1];rfl) (by rw [e2];rfl)
theorem OwnTs.nil (w0 w:World):OwnTs w0 w (.slice none 0 0) []:=⟨⟨by simp,.inl ⟨rfl,rfl⟩⟩,fun p hp=>by simp at hp,Far.one _⟩
theorem size_drew' (w:World):w.drew.heap.size=w.heap.size:=rfl
def sCopyOk (v:DVal):Prop:=∀ (Ab:Option Addr) (cb:Nat) (Ai:Option Addr) (ci:Nat) (w:World),RdV w v Ab cb Ai ci→szV v≤1099511627776 →
 Calls Tryz.prog 28 #[vval v (.slice Ab v.bytes.length cb) (.slice Ai v.items.length ci)] w fun e w'=>∃ t,e=.returned (vval v t.vb t.vi)∧GotV w w' t v∧Ext w w'
theorem sCopy_of (v:DVal) (H:∀ x∈v.items,sCopyOk x):sCopyOk v:=by
 intro Ab cb Ai ci w h hz;obtain ⟨hb,hi⟩:=h;have z1:v.bytes.length≤1099511627776:=by have:=bytes_le v;omega
 have HZ:Hid (∀ x∈v.items,szV x≤1099511627776):=fun x hx=>by have:=szV_item hx;omega
 have hn:v.items.length≤1099511627776:=by have:=items_le v;omega
 have HH:=lhd H;have HDV:Hid (DVal.mk v.num v.bytes v.items=v):=v.eta
 unfold vval;generalize v.num=num at *;generalize v.bytes=bytes at *;generalize v.items=items at *;clear H;have ea:=Ext_alloc (.cells #[.int .i64 num,.slice Ab bytes.length cb,.slice Ai items.length ci] 29) (Ext.refl w);have B0:=fun w' (e:Ext (w.alloc (.cells #[.int .i64 num,.slice Ab bytes.length cb,.slice Ai items.length ci] 29)) w')=>boxed e
 obtain ⟨W1,hW1⟩:∃ W1,W1=w.alloc (.cells #[.int .i64 num,.slice Ab bytes.length cb,.slice Ai items.length ci] 29):=⟨_,rfl⟩;have HW1:=lhd hW1;have hs1:W1.heap.size=w.heap.size+1:=by rw [hW1];simp
 rw [← hW1] at ea B0;have ey:=Ext_alloc (.cells #[.int .i64 0,.slice none 0 0,.slice none 0 0] 29) (Ext.refl W1);have BR:=Box.new W1 #[.int .i64 0,.slice none 0 0,.slice none 0 0] 29;rw [hs1] at BR;obtain ⟨W2,hW2⟩:∃ W2,W2=W1.alloc (.cells #[.int .i64 0,.slice none 0 0,.slice none 0 0] 29):=⟨_,rfl⟩;have HW2:=lhd hW2;have hs2:W2.heap.size=w.heap.size+2:=by rw [hW2];simp;omega
 rw [← hW2] at ey BR
 have HO:Hid (OwnL vu8 5 W2 (W2.alloc (.cells #[] 5)) (.slice (some ⟨w.heap.size+2,0,none⟩) 0 0) []):=by
  have:=OwnL.empty (f:=vu8) (e:=5) (Ext.refl W2);rw [hs2] at this;exact this
 clear hW1 hW2;go_enter Tryz.func28,Tryz.ntmps28;go_wp2_with fail;rw [← HW1.out,← HW2.out];have HD:=lhd hb;have HEY:=lhd ey;have HB2:Hid ((([]:List UInt8).length+bytes.length)*1≤140737488355328):=by show _≤_;simp;omega
 have HDL:Hid (bytes.length≤140737488351232):=by show _≤_;omega
 have HBZ:Hid (∀ w4,(((W2.alloc (.cells #[] 5)).alloc (.cells #[.int .i64 0,.slice none 0 0,.slice none 0 0] 29)).drew).grownBy w4 (Value.slice (some ⟨w.heap.size+2,0,none⟩) 0 0).ownBlock→Box w4 (w.heap.size+2+1) #[.int .i64 0,.slice none 0 0,.slice none 0 0] 29):=fun w4 hg=>by
  have h1:=Box.moved ((Box.new (W2.alloc (.cells #[] 5)) #[.int .i64 0,.slice none 0 0,.slice none 0 0] 29).ext (Ext_drew (Ext.refl _))) hg (fun hh=>by injection hh with hh;simp at hh;omega)
  rwa [show (W2.alloc (.cells #[] 5)).heap.size=w.heap.size+2+1 by simp;omega] at h1
 have HO':Hid (OwnL vu8 5 W2 ((W2.alloc (.cells #[.int .i64 0,.slice none 0 0,.slice none 0 0] 29)).alloc (.cells #[] 5)) (.slice (some ⟨w.heap.size+2+1,0,none⟩) 0 0) []):=by
  have:=OwnL.empty (f:=vu8) (e:=5) (Ext_alloc (.cells #[.int .i64 0,.slice none 0 0,.slice none 0 0] 29) (Ext.refl W2));rw [World.size_alloc,hs2] at this;exact this
 have HBZ':Hid (∀ w4,(((W2.alloc (.cells #[.int .i64 0,.slice none 0 0,.slice none 0 0] 29)).alloc (.cells #[] 5)).drew).grownBy w4 (Value.slice (some ⟨w.heap.size+2+1,0,none⟩) 0 0).ownBlock→Box w4 (w.heap.size+2) #[.int .i64 0,.slice none 0 0,.slice none 0 0] 29):=fun w4 hg=>by
  have h1:=Box.moved ((Box.new W2 #[.int .i64 0,.slice none 0 0,.slice none 0 0] 29).ext (Ext_drew (Ext_alloc (.cells #[] 5) (Ext.refl _)))) hg (fun hh=>by injection hh with hh;simp at hh;omega)
  rwa [hs2] at h1
 have SX:Hid (∀ w',Ext W1 w'→((w'.cell? ⟨w.heap.size,0,none⟩=some (.int .i64 num)∧w'.cell? ⟨w.heap.size,1,none⟩=some (.slice Ab bytes.length cb))∧Ext W1 w')):=fun w' e=>⟨⟨B0 w' e 0,B0 w' e 1⟩,e⟩
 have HSX0:=lhd B0;have HBR:=lhd BR;clear BR;go_cut [3] (fun s3 wx=>∃ g A4 c4,s3=.pointer (some ⟨g,0,none⟩)∧Box wx g #[.int .i64 num,.slice A4 bytes.length c4,.slice none 0 0] 29∧OwnL vu8 5 W2 wx (.slice A4 bytes.length c4) bytes∧(Value.slice A4 bytes.length c4).ownBlock≠some g∧W2.heap.size≤g∧Ext W2 wx)
 case first =>
  go_region_held3 (fun w'=>(w'.cell? ⟨w.heap.size,0,none⟩=some (.int .i64 num)∧w'.cell? ⟨w.heap.size,1,none⟩=some (.slice Ab bytes.length cb))∧Ext W1 w') (first | exact SX.out _ (Ext_drew ey) | exact SX.out _ (Ext_alloc _ (And.right (by assumption))) | exact SX.out _ (by assumption) | exact SX.out _ (Ext_alloc _ (by assumption)) | exact SX.out _ (((Ext.setCell (by assumption) (by simp;try omega) _).setCell (by simp;try omega) _).setCell (by simp;try omega) _) | exact SX.out _ (((Ext.setCell (And.right (by assumption)) (by simp;try omega) _).setCell (by simp;try omega) _).setCell (by simp;try omega) _)) (first
   | (refine step_appH rfl (.tmp 7) (.tmp 9) _ rfl E_u8 (by omega) W2 _ vu8 (fun _=>rfl) _ rfl _ _ _ rfl [] bytes (OwnL.ext HO.out (by first | exact Ext_drew (Ext.refl _) | exact Ext_drew (Ext_alloc _ (Ext.refl _)))) (by first | exact Ext_drew (Ext_alloc _ (Ext.refl _)) | exact Ext_drew (Ext_alloc _ (Ext_alloc _ (Ext.refl _)))) rfl (fun hp=>src0 HD.out ((ea.trans ey).trans (by first | exact Ext_drew (Ext_alloc _ (Ext.refl _)) | exact Ext_drew (Ext_alloc _ (Ext_alloc _ (Ext.refl _))))) hp) HB2.out ?_;intro v4 w4 ho4 he4 hv4 hg4;rw [List.nil_append] at ho4;have e14:=ey.trans he4;obtain ⟨A4,c4,hvv,r4⟩:=OwnL.rd ho4 HDL.out;subst hvv;(try (have hbz:=HBZ.out _ hg4;have z0:_=some (Value.int .i64 0):=hbz.cell 0;have z1:_=some (Value.slice none 0 0):=hbz.cell 1;have z2:_=some (Value.slice none 0 0):=hbz.cell 2;have y0:=hbz.free 0;have y1:=hbz.free 1;have y2:=hbz.free 2)))
   | (refine step_appH rfl (.tmp 7) (.tmp 9) _ rfl E_u8 (by omega) W2 _ vu8 (fun _=>rfl) _ rfl _ _ _ rfl [] bytes (OwnL.ext HO'.out (by first | exact Ext_drew (Ext.refl _) | exact Ext_drew (Ext_alloc _ (Ext.refl _)))) (by first | exact Ext_drew (Ext_alloc _ (Ext.refl _)) | exact Ext_drew (Ext_alloc _ (Ext_alloc _ (Ext.refl _)))) rfl (fun hp=>src0 HD.out ((ea.trans ey).trans (by first | exact Ext_drew (Ext_alloc _ (Ext.refl _)) | exact Ext_drew (Ext_alloc _ (Ext_alloc _ (Ext.refl _))))) hp) HB2.out ?_;intro v4 w4 ho4 he4 hv4 hg4;rw [List.nil_append] at ho4;have e14:=ey.trans he4;obtain ⟨A4,c4,hvv,r4⟩:=OwnL.rd ho4 HDL.out;subst hvv;(try (have hbz:=HBZ'.out _ hg4;have z0:_=some (Value.int .i64 0):=hbz.cell 0;have z1:_=some (Value.slice none 0 0):=hbz.cell 1;have z2:_=some (Value.slice none 0 0):=hbz.cell 2;have y0:=hbz.free 0;have y1:=hbz.free 1;have y2:=hbz.free 2))))
  all_goals
   go_wp2_with fail;go_meet
  ·exact ⟨_,_,_,rfl,Box.new w4 _ _,OwnL.ext ho4 (Ext_alloc _ (Ext.refl _)),OwnL.far ho4 (.inr (Nat.le_refl _)),he4.size,Ext_alloc _ he4⟩
  ·have hne:=own_nb' hv4 (b:=w.heap.size+2+1) (by omega) (by simp;omega)
   obtain ⟨q1,q2,q3,q4⟩:=val_laid (num:=num) (v2:=.slice none 0 0) hbz ho4 hne (by omega) he4;exact ⟨_,_,_,rfl,q1,q2,hne,q3,q4⟩
  ·have hne:=own_nb' hv4 (b:=w.heap.size+2) (by omega) (by simp;omega)
   obtain ⟨q1,q2,q3,q4⟩:=val_laid (num:=num) (v2:=.slice none 0 0) hbz ho4 hne (by omega) he4;exact ⟨_,_,_,rfl,q1,q2,hne,q3,q4⟩
 case rest =>
  obtain ⟨g,A4,c4,rfl,hb4,ho4,hne4,hg4,he4⟩:=hcut;clear SX HBZ HBZ' HO HO' HB2 HD hb HDL B0;have OD0:Hid (OwnTs wc wc (.slice none 0 0) []):=OwnTs.nil wc wc
  have HB4:=lhd hb4;have HO4:=lhd ho4;have HNE:=lhd hne4;have hgc:=hb4.lt;have hgw:w.heap.size+2≤g:=by omega
  have HBL:Hid (∀ b,(Value.slice A4 bytes.length c4).ownBlock=some b→w.heap.size+2≤b∧b<wc.heap.size):=fun b hb=>by have:=World.ownsRow.lt ho4 b hb;omega
  have hs2':=lhd hs2;clear hb4 ho4 hne4 hg4 HW1 HW2 hs2;go_wp2;go_loopw [4] (fun ix wr=>∃ (k:Nat) (ps:List VT) (v:Value),k≤items.length∧ix=.int .i64 k∧ps.length≤k∧k≤ps.length∧Hid (valsOf ps=items.take k)∧Hid (OwnTs wc wr v ps)∧Hid (Box wr g #[.int .i64 num,.slice A4 bytes.length c4,v] 29)∧Hid (OwnL vu8 5 W2 wr (.slice A4 bytes.length c4) bytes)∧Ext W2 wr∧wc.heap.size≤wr.heap.size) (fun ix _=>items.length-(intOf ix).toNat)
  case atStart=>exact ⟨0,[],_,by omega,rfl,by simp,by simp,by simp [Hid,valsOf],OD0,HB4,HO4,he4,Nat.le_refl _⟩
  case round =>
   clear OD0 HB4 HO4 he4;obtain ⟨k,ps,v,hk,rfl,hl1,hl2,hps,hod,hbo,hby,he,hsz⟩:=hrel;have e1:=HEY.out.trans he;have hB:=fun w' (e:Ext wr w')=>HSX0.out w' (e1.trans e)
   have c2:=fun w' e=>hB w' e 2
   simp only [List.getElem?_toArray,List.getElem?_cons_zero,List.getElem?_cons_succ] at c2;clear hB
   by_cases hlt:k<items.length
   ·obtain ⟨b,off,A1,c1,D1,d1,hA,hb,hs,hr⟩:=hi.at k hlt
    subst hA;have hzk:=HZ.out _ (List.getElem_mem hlt);have HT:Hid (items.take (k+1)=items.take k++[items[k]]):=List.take_succ_eq_append_getElem hlt
    have Hk:=HH.out _ (List.getElem_mem hlt);generalize items[k]=r at *;have C:=lhd (fun w h=>Hk A1 c1 D1 d1 w h hzk);have ew:=ea.trans e1;obtain ⟨k0,k1,k2⟩:=hr;replace k0:=kx k0 ew;replace k1:=kx k1 ew;replace k2:=kx k2 ew;unfold vval at C;have cv:_=some v:=(hbo.out.ext (Ext_drew (Ext.refl wr))).cell 2
    have HS:=lhd (hs.ext (Ext_drew ew));have hzk:=lhd hzk;have hbod:=lhd (hbo.out.ext (Ext_drew (Ext.refl wr)));have hodd:=lhd (hod.out.ext (Ext_drew (Ext.refl wr)));have b1:(0:Int)≤(k:Int):=by omega
    have b2:(k:Int)<(items.length:Int):=by omega
    have xd:=Ext_drew (Ext.refl wr);clear hs Hk hi ew e1;go_wp2_with fail
    go_region_law (first
     | (go_simp;go_at_call 28;refine (C.out _ HS.out).mono ?_;rintro _ w2 ⟨t,rfl,hgt,he2⟩;have hgt:=lhd hgt;have hbo3:=lhd ((hbod.out.ext he2).ext (Ext_alloc (.cells #[.int .i64 r.num,t.vb,t.vi] 29) (Ext.refl w2)));have c2':_=some v:=(hbod.out.ext he2).cell 2;have c3:_=some v:=hbo3.out.cell 2;have hsz2:Hid (wc.heap.size≤(w2.alloc (.cells #[.int .i64 r.num,t.vb,t.vi] 29)).heap.size):=(by have h1:=he2.size;rw [size_drew'] at h1;show _≤_;rw [World.size_alloc];omega);have hone:Hid (∀ u∈[Value.int .i64 r.num,t.vb,t.vi],u.oneCell'=true):=(by have:=hgt.out.own.one;unfold VT.cells at this;rw [hgt.out.num] at this;exact this);have hNv:Hid (v.ownBlock≠some g):=(fun hh=>by have:=(hod.out.block v (List.mem_cons_self ..) _ hh).1;omega))
     | (refine step_app8 rfl (.tmp 20) (.tmp 27) _ rfl E_val wc (w2.alloc (.cells #[.int .i64 r.num,t.vb,t.vi] 29)) v ps.length (ps.flatMap VT.cells) rfl (Own.ext (Own.ext hodd.out.row he2) (Ext_alloc _ (Ext.refl _))) hsz2.out ⟨w2.heap.size,0,none⟩ 1 1 [.int .i64 r.num,t.vb,t.vi] rfl rfl (fun j u hu=>(World.cell?_alloc_at' w2 [.int .i64 r.num,t.vb,t.vi] 29 j).trans hu) hone.out (by simp [maxLen];omega) (by omega) ?_;intro v4 w4 ho4 hg4 hv4;have hbo4:=lhd (Box.moved (hbo3.out) hg4 hNv.out);have c4':=hbo4.out.cell 2;have f4:=hbo4.out.free 2;have HO4:Hid (OwnTs wc w4 v4 (ps++[t])):=OwnTs.snoc hodd.out he2 hgt.out.own hgt.out.far hsz (by unfold VT.cells at ho4 ⊢;rw [hgt.out.num];exact ho4) hg4 hv4;have HG4:=lhd hg4;clear ho4 hg4 hv4;obtain ⟨A5,q5,hA5⟩:=HO4.out.shape;replace hA5:v4=.slice A5 (ps.length+1) q5:=(by rw [hA5,List.length_append];rfl);subst hA5))
    all_goals
     have x3:=Ext_alloc (.cells #[.int .i64 r.num,t.vb,t.vi] 29) (Ext.refl w2);have bV:∀ b,v.ownBlock=some b→wc.heap.size≤b:=fun b hb=>(hod.out.block v (List.mem_cons_self ..) b hb).1
     have hs2'':=hs2'.out;have e4:=(((Ext_drew he).trans he2).trans x3).grown HG4.out (fun b hb=>by have:=bV b hb;omega);have O5:Hid (Box (w4.setCell ⟨g,2,none⟩ (.slice A5 (ps.length+1) q5)) g #[.int .i64 num,.slice A4 bytes.length c4,.slice A5 (ps.length+1) q5] 29):=hbo4.out.set 2 (.slice A5 (ps.length+1) q5)
     have D5:Hid (OwnTs wc (w4.setCell ⟨g,2,none⟩ (.slice A5 (ps.length+1) q5)) (.slice A5 (ps.length+1) q5) (ps++[t])):=HO4.out.keep (grown_set w4 ⟨g,2,none⟩ _) (fun u hu b hb hh=>by have h1:=(HO4.out.block u hu b hb).1;injection hh with hh;simp at hh;omega)
     have Y5:Hid (OwnL vu8 5 W2 (w4.setCell ⟨g,2,none⟩ (.slice A5 (ps.length+1) q5)) (.slice A4 bytes.length c4) bytes):=(((hby.out.ext (xd.trans he2)).ext x3).keep HG4.out (fun b hb hh=>by have h1:=bV b hh;have h2:=(HBL.out b hb).2;omega)).keep (grown_set w4 ⟨g,2,none⟩ _) (fun b hb hh=>by injection hh with hh;simp at hh;subst hh;exact HNE.out hb)
     have E5:Hid (Ext W2 (w4.setCell ⟨g,2,none⟩ (.slice A5 (ps.length+1) q5))):=e4.setCell (p:=⟨g,2,none⟩) (by show W2.heap.size≤g;omega) _
     have S5:Hid (wc.heap.size≤(w4.setCell ⟨g,2,none⟩ (.slice A5 (ps.length+1) q5)).heap.size):=by
      have h1:=HG4.out.size;have h2:=hsz2.out;show _≤_;simp only [World.size_setCell];omega
     have N5:Hid (valsOf (ps++[t])=items.take (k+1)):=by show _=_;rw [valsOf_append,hps.out,HT.out,valsOf,valsOf,hgt.out.val]
     clear x3 bV e4 hs2'';go_wp2;go_roundw
     case rel=>exact ⟨k+1,ps++[t],_,by omega,by go_num,by simp;omega,by simp;omega,N5,D5,O5,Y5,E5.out,S5.out⟩
     case measure=>simp [intOf];omega
   ·obtain rfl:k=items.length:=by omega
    obtain ⟨A5,c5,hA5⟩:=hod.out.shape;have hpl:ps.length=items.length:=by omega
    rw [hpl] at hA5;subst hA5;have HN:Hid (valsOf ps=items):=by show _=_;rw [hps.out,List.take_length]
    have p2:=hbo.out.cell;have r2:=(HBR.out.ext he).cell;have t2:=(HBR.out.ext he).free;have hs2'':=hs2'.out;have G:=grown_put3 wr (w.heap.size+1) 0 (.mk num bytes (.slice A4 bytes.length c4) ps (.slice A5 items.length c5));have HG:=lhd G;have E5:Hid (Ext w (put3 wr (w.heap.size+1) 0 (.mk num bytes (.slice A4 bytes.length c4) ps (.slice A5 items.length c5)))):=(ea.trans e1).grown G (fun b hb=>by injection hb with hb;omega)
    have O5:Hid (OwnT w (put3 wr (w.heap.size+1) 0 (.mk num bytes (.slice A4 bytes.length c4) ps (.slice A5 items.length c5))) (.mk num bytes (.slice A4 bytes.length c4) ps (.slice A5 items.length c5))):=by
     have o2:=(hod.out.keep G (fun u hu b hb he=>by have:=hod.out.block u hu b hb;injection he with he;omega)).down (w0:=w) (by omega);exact .mk ((OwnL.keep hby.out G (fun b hb he=>by have:=HBL.out b hb;injection he with he;omega)).down (by omega)) o2.row o2.each
    have F5:Hid (Far (VT.vals (.mk num bytes (.slice A4 bytes.length c4) ps (.slice A5 items.length c5)))):=by
     rw [VT.vals_eq];refine Far.cons hod.out.far ?_;intro u hu b h1 h2
     have:=HBL.out b h1
     have:=(hod.out.block u hu b h2).1
     omega
    clear G hps hod hbo hby hi hs2'';go_wp2;exact bodyPost_ret (v:=.agg #[.int .i64 num,.slice A4 bytes.length c4,.slice A5 items.length c5]) (by simp [results,Tryz.results28,go_sem,p2,r2,t2]) rfl ⟨.mk num bytes (.slice A4 bytes.length c4) ps (.slice A5 items.length c5),rfl,⟨by rw [VT.val,HN.out];exact HDV.out,O5.out,F5.out⟩,E5.out⟩
theorem sCopy_all:∀ v,sCopyOk v:=fun v=>DVal.ind sCopy_of v
section
variable {P:Program} {ops:Array Oper} {o:Oper} {a:Act} {Q:Exit→Act→World→Prop} {K:Act→World→Prop} {E:Prop}
theorem step_appG (hgd:o.guard=none) (s x:Operand) (t:TypeId) (ho:o.op=.call { callee:=.builtin .append,args:=#[s,x],argTypes:=#[t,t] })
 {e:TypeId} {bytes:Nat} {z:Value} (hE:Elem P t e 1 bytes z) (hby:1≤bytes) (w0 w:World) {α:Type} (f:α→Value) (hf:∀ x,(f x).oneCell'=true) (v:Value) (hs:a.eval s=v) (A:Option Addr) (m c:Nat) (hx:a.eval x=.slice A m c)
 (l ys:List α) (hown:OwnL f e w0 w v l) (he:Ext w0 w) (hm:m=ys.length)
 (hA:0<ys.length→∃ ad,A=some ad∧∀ j u,(ys.map f)[j]?=some u→w.cell? (ad.add j)=some u)
 (hb:(l.length+ys.length)*bytes≤140737488355328)
 (h:∀ v' w',OwnL f e w0 w' v' (l++ys)→Ext w0 w'→(v'.ownBlock=v.ownBlock∨v'.ownBlock=some w.heap.size)→w.grownBy w' v.ownBlock→K (a.put o.dst v') w') :
 if Region.wanted o (yielded ops a.tmps)=true then Oper.wp P o a w K Q else E:=by
 have hw:Region.wanted o (yielded ops a.tmps)=true:=by simp [Region.wanted,hgd]
 rw [if_pos hw];obtain ⟨i0,hi0,hz0,hz1,hz2⟩:=info_parts hE.hi;subst hm;have hfin:∀ v' w',Own e 1 w0 w' v' (l.length+ys.length) (l.map f++ys.map f)→Ext w0 w'→(v'.ownBlock=v.ownBlock∨v'.ownBlock=some w.heap.size)→w.grownBy w' v.ownBlock→K (a.put o.dst v') w':=fun v' w' h1 h2 h3 h4=>h v' w' (by simpa [OwnL] using h1) h2 h3 h4
 rcases A with _ | ad
 ·have hm0:ys.length=0:=by
   rcases Nat.eq_zero_or_pos ys.length with h0 | h0
   ·exact h0
   ·obtain ⟨ad,h,_⟩:=hA h0
    cases h
  obtain rfl:ys=[]:=List.eq_nil_of_length_eq_zero hm0
  unfold Oper.wp execOp;simp only [ho,resolve,invoke,builtin,Sem.run_bind,Sem.run_pure,Result.andThen_ok,List.map_toArray,List.map_cons,List.map_nil,List.length_nil,hs,hx,run_app_nil w w0.heap.size t o.type e i0 1 hE.ht hi0 v l.length (l.map f) hown c];exact hfin v w (by have h':=hown;unfold OwnL at h';simpa using h') he (.inl rfl) (World.grownBy.refl w _)
 ·obtain ⟨v',w',hr,h2,h3,h4,h5⟩:=run_append_own_at (P:=P) w w0.heap.size t o.type e i0 z 1 bytes hE.ht hi0 hz0 hz1 hz2 hE.hz hE.hs v l.length (l.map f) hown ad ys.length c (ys.map f) (by simp)
   (fun j u hu=>by
    rcases Nat.eq_zero_or_pos ys.length with h0 | h0
    ·obtain rfl:ys=[]:=List.eq_nil_of_length_eq_zero h0
     simp at hu
    ·obtain ⟨ad',h',hc⟩:=hA h0
     injection h' with h'
     subst h';exact hc j u hu)
   (fun u hu=>by obtain ⟨x,_,rfl⟩:=List.mem_map.1 hu;exact hf x) (by have:=Nat.mul_le_mul_left (l.length+ys.length) hby;simp only [maxLen];omega) hb he.size
  unfold Oper.wp execOp;simp only [ho,resolve,invoke,builtin,Sem.run_bind,Sem.run_pure,Result.andThen_ok,List.map_toArray,List.map_cons,List.map_nil,hs,hx,hr];exact hfin v' w' h2 (he.grown h3 (fun k hk=>(hown.lt k hk).1)) h5 h3
end
def appOk (l:List UInt8) (s k:Int) (nm:ByteArray) (ver:Int) (d:List UInt8):Bool:=validLog l s&&validRec k nm ver d.length
def appBytes (l:List UInt8) (s k:Int) (nm:ByteArray) (ver:Int) (d:List UInt8):List UInt8:=if appOk l s k nm ver d then l++encRec k nm ver d else l
theorem l1StrBox_c (ns:List ByteArray) (hns:0<ns.length) (hns2:ns.length≤256) (n:Nat) (hn:n=ns.length) (cs:Array Value) (hcs:cs=(ns.map vstr).toArray) (wb w:World) (p:Nat) (A:Option Addr) (l:List UInt8) (c:Nat) (hA:Bs wb A l c) (b:Nat) (hC:Cur wb w p A l c) (hb:Box w b cs 9) :
 Calls Tryz.prog 64 #[.pointer (some ⟨p,0,none⟩),.slice (some ⟨b,0,none⟩) n n] w fun e w'=>∃ x∈ns,e=.returned (.string x)∧Cur wb w' p A l c∧w.grownBy w' (some p):=by
 subst hn;subst hcs
 have hbp:p≠b:=by
  rintro rfl;obtain ⟨_,_,i,x,_,h4⟩:=hC;have h5:w.heap[p]?=_:=hb
  rw [h5] at h4;injection h4 with h4
  injection h4 with _ h7
  exact absurd h7 (by decide)
 refine (l1Str_c (some ⟨b,0,none⟩) ns ns.length hns hns2 wb _ p A l c hA hC ?_).mono ?_
 ·intro w' hg i hi
  refine ⟨b,0,rfl,?_⟩;rw [(hb.moved hg (some_ne hbp)).cell (0+i),Nat.zero_add];simp [vstr,hi]
 ·rintro e w' ⟨x,hx,he,hC1,hg⟩
  exact ⟨x,hx,he,hC1,hg⟩
theorem l4Make6_c (Ad:Option Addr) (ds:List DRule) (cd:Nat) (kind:Int) (hkind:kind=6) (hDn:ds.length≤64) (hki:kind=1∨∃ i,∃ h:i<ds.length,ds[i].kind=1) (hMD:MadeD ds)
 (wb w:World) (p:Nat) (A:Option Addr) (l:List UInt8) (c:Nat) (hA:Bs wb A l c) (hC:Cur wb w p A l c) (hD:∀ w',w.grownBy w' (some p)→RdD w' Ad ds cd) :
 Calls Tryz.prog 56 #[.pointer (some ⟨p,0,none⟩),vdesc (.slice Ad ds.length cd),.int .i64 kind] w fun e w'=>∃ q:RV,e=.returned (vrule q.r q.vb q.vn q.vt q.vk)∧SmallR q.r∧q.r.kind=kind∧MadeR ds q.r∧RuleOwn wb w' q∧Far q.vals∧(∀ u∈q.vals,∀ b,u.ownBlock=some b→w.heap.size≤b)∧Cur wb w' p A l c∧w.grownBy w' (some p):=by
 have hplt:=hC.lt;have hbw:=hC.2.1.size;have CBe:=lhd (fun n w h hn=>l1Below_c n wb w p A l c hA h hn);have COn:=lhd (fun n w h hn=>l1Once_c n wb w p A l c hA h hn);have CS:=lhd (fun w h=>l1StrLit_c [⟨#[97]⟩,⟨#[105,116,101,109]⟩,⟨#[98]⟩,⟨#[104,101,97,100]⟩,⟨#[120]⟩] (by simp) (by simp) 5 rfl #[.string ⟨#[97]⟩,.string ⟨#[105,116,101,109]⟩,.string ⟨#[98]⟩,.string ⟨#[104,101,97,100]⟩,.string ⟨#[120]⟩] rfl wb w p A l c hA h);have CF:=lhd (fun w=>sFormatInt_c (ds.length:Int) w (by omega) (by omega));have hit:=itoa_size (ds.length:Int) (by omega) (by omega);obtain ⟨it,hit0⟩:∃ it,itoaB (ds.length:Int)=it:=⟨_,rfl⟩;rw [hit0] at hit CF;have HIT:=lhd hit0;clear hit0;have HD:=lhd hD;have hki:=lhd hki;have hMD:=lhd hMD;clear hD;obtain ⟨W0,hW0,HP,HR,e0,hsA⟩:=boxes2' w #[.slice Ad ds.length cd] #[.string ⟨#[]⟩,.int .i64 0,.int .i64 0,.bool false,.slice none 0 0,.slice none 0 0,.slice none 0 0,.slice none 0 0] 26 67;unfold vdesc;go_enter Tryz.func56,Tryz.ntmps56;go_wp2_with fail;rw [← hW0.out];have C1:=CS.out W0 (hC.ext e0);rw [hsA] at C1;have C1:=lhd C1;refine C1.out.mono ?_;rintro _ w1 ⟨nm0,hnm0,rfl,hC1,hg1⟩;have HNM:Hid (∃ s∈heads,nm0++it=s++itoaB (ds.length:Int)):=⟨nm0,hnm0,by rw [HIT.out]⟩
 have hnm:nm0.size≤4:=by simp at hnm0;rcases hnm0 with rfl | rfl | rfl | rfl | rfl<;>decide
 have G1:=(grown_ext e0 (some p)).trans hg1;have HP1:=lhd (HP.moved hg1 (some_ne (by omega)));have HR1:=lhd (HR.moved hg1 (some_ne (by omega)));clear hnm0 hg1 C1 CS HP HR e0;go_wp2_with fail;refine (CF.out _).mono ?_;rintro _ w2 ⟨rfl,s2⟩;have G2:=lhd (G1.trans (grown_ext s2 _));have HP2:=lhd (HP1.out.ext s2);have HR2:=lhd (HR1.out.ext s2);have hC2:=hC1.ext s2;clear G1 HP1 HR1 hC1 s2;have hnl:(nm0++it).size≤24:=by have:=ByteArray.size_append (a:=nm0) (b:=it);omega
 have x3:=Ext_alloc (.cells #[.string (nm0++it),.int .i64 kind,.int .i64 0,.bool false,.slice none 0 0,.slice none 0 0,.slice none 0 0,.slice none 0 0] 67) (Ext.refl w2);have hgs:=G2.out.size
 have M0:Hid (Mk wb w (w2.alloc (.cells #[.string (nm0++it),.int .i64 kind,.int .i64 0,.bool false,.slice none 0 0,.slice none 0 0,.slice none 0 0,.slice none 0 0] 67)) p A l c w2.heap.size ⟨⟨nm0++it,kind,0,false,[],[],[],[]⟩,.slice none 0 0,.slice none 0 0,.slice none 0 0,.slice none 0 0⟩) :=
  ⟨Box.new w2 _ _,⟨OwnL.nil _ _,OwnL.nil _ _,OwnL.nil _ _,OwnL.nil _ _⟩,by simp [Far,RV.vals,Value.ownBlock],by simp [RV.vals,Value.ownBlock],hC2.ext x3,G2.out.trans (grown_ext x3 _),hgs,by omega,by omega⟩
 have HP3:=lhd (HP2.out.ext x3);have HR3:=lhd (HR2.out.ext x3);have hlt2:w.heap.size+1<w2.heap.size:=HR2.out.lt
 clear HP2 HR2 hC2 G2 x3 CF;obtain ⟨W3,hW3⟩:∃ W3,W3=w2.alloc (.cells #[.string (nm0++it),.int .i64 kind,.int .i64 0,.bool false,.slice none 0 0,.slice none 0 0,.slice none 0 0,.slice none 0 0] 67):=⟨_,rfl⟩;rw [← hW3] at M0 HP3 HR3;have HW3:=lhd hW3;clear hW3;subst hkind;have hds0:0<ds.length:=by obtain ⟨i,hi,_⟩:=hki.out.resolve_left (by omega);omega
 clear hki HP3 HD;go_wp2_with fail;rw [← HW3.out];refine (CBe.out 3 _ M0.out.cur (by omega)).mono ?_;rintro _ w4 ⟨y,hy,rfl,hC4,hg4⟩;have hyn:y<3:=by unfold below at hy;rw [if_neg (by omega)] at hy;omega
 have S4:Hid (MS wb w w4 p A l c w2.heap.size ⟨⟨nm0++it,6,0,false,[],[],[],[]⟩,.slice none 0 0,.slice none 0 0,.slice none 0 0,.slice none 0 0⟩ (w.heap.size+1)) :=
  ⟨M0.out.moved hC4 hg4,HR3.out.moved hg4 (some_ne (by omega)),by simp [RV.vals,Value.ownBlock],by omega,by omega⟩
 clear hy hC4 hg4 HR3 M0 HW3;generalize hgg:w2.heap.size=g at *;clear hgg;have CS3:=lhd (fun w b h hb=>l1StrBox_c [⟨#[112]⟩,⟨#[113]⟩,⟨#[114]⟩] (by simp) (by simp) 3 rfl #[.string ⟨#[112]⟩,.string ⟨#[113]⟩,.string ⟨#[114]⟩] rfl wb w p A l c hA b h hb);go_wp2;go_loopw [9] (fun t wr=>∃ (i:Nat) (r:DRule) (vb vn vt vk:Value),i≤3∧t=.int .i64 i∧Hid (r.nm=nm0++it∧r.kind=6∧r.size=0∧r.bytes=[]∧r.tags=[]∧r.little=false)∧Hid ((r.names.length+i=1+y∧r.kids.length+i=1+y)∧(∀ t∈r.names,t.size≤40)∧(∀ x∈r.kids,0≤x∧x<(ds.length:Int))∧SeqInv i r.names)∧Hid (MS wb w wr p A l c g ⟨r,vb,vn,vt,vk⟩ (w.heap.size+1))) (fun t _=>(intOf t).toNat)
 case atStart=>exact ⟨1+y,_,_,_,_,_,by omega,by simp,⟨rfl,rfl,rfl,rfl,rfl,rfl⟩,⟨⟨by simp,by simp⟩,by simp,by simp,SeqInv.nil _⟩,S4⟩
 case round =>
  clear S4;obtain ⟨i,r,vb,vn,vt,vk,hi3,rfl,hr,hl,hM⟩:=hrel
  by_cases hi0:0<i
  ·have CF3:=lhd (fun w=>sFormatInt_c (i:Int) w (by omega) (by omega))
   have hit3:=itoa_size (i:Int) (by omega) (by omega);obtain ⟨it3,hit0⟩:∃ it3,itoaB (i:Int)=it3:=⟨_,rfl⟩;rw [hit0] at hit3 CF3;have HIT3:=lhd hit0;clear hit0;have hMd:=lhd (hM.out.ext (Ext_drew (Ext.refl wr)));have cd0:_=some vn:=hM.out.M.box.cell 5
   have cd1:_=some vn:=(hM.out.ext (Ext_drew (Ext_alloc (.cells #[.string ⟨#[112]⟩,.string ⟨#[113]⟩,.string ⟨#[114]⟩] 9) (Ext.refl wr)))).M.box.cell 5
   have HBn:Hid (∀ s:ByteArray,(r.names.length+[s].length)*16≤140737488355328):=fun s=>by have:=hl.out.1.1;simp;omega
   have HLn:Hid (∀ s:ByteArray,(r.names++[s]).length≤140737488351232):=fun s=>by have:=hl.out.1.1;simp;omega
   have hS3:Hid (∀ s:ByteArray,s∈[(⟨#[112]⟩:ByteArray),⟨#[113]⟩,⟨#[114]⟩]→s.size≤4):=fun s h=>by simp only [List.mem_cons,List.not_mem_nil,or_false] at h;rcases h with rfl | rfl | rfl<;>decide
   go_wp2_with fail;go_cut [86] from 77 to 87 (fun _ wx=>∃ s v,s.size≤40∧Hid (SeqInv (i-1) (r.names++[s]))∧Hid (MS wb w wx p A l c g ⟨{ r with names:=r.names++[s] },vb,v,vt,vk⟩ (w.heap.size+1)))
   case first =>
    go_region_law (first
     | (go_simp;go_at_call 64;refine (CS3.out _ _ (hMd.out.ext (Ext_alloc _ (Ext.refl _))).M.cur (Box.new _ _ _)).mono ?_;rintro _ w5 ⟨s5,hs5,rfl,hC5,hg5⟩;have M5:=lhd ((hMd.out.ext (Ext_alloc (.cells #[.string ⟨#[112]⟩,.string ⟨#[113]⟩,.string ⟨#[114]⟩] 9) (Ext.refl _))).moved hC5 hg5);have c5:_=some vn:=M5.out.M.box.cell 5;have hs5b:=hS3.out _ hs5;have HS5:=lhd hs5;have hcat:¬ 9223372036854775807<s5.size+it3.size:=(by omega);clear hs5 hC5 hg5)
     | (go_simp;go_at_call 78;refine (CF3.out _).mono ?_;rintro _ w6 ⟨rfl,e6⟩;have M6:=lhd (M5.out.ext e6);have c6:_=some vn:=M6.out.M.box.cell 5;have M6':=lhd (M6.out.ext (Ext_alloc (.cells #[.string (s5++it3)] 9) (Ext.refl _)));have c6':_=some vn:=M6'.out.M.box.cell 5;clear M5 e6)
     | (refine step_appG rfl (.tmp 78) (.tmp 85) _ rfl E_str (by omega) wb _ vstr (fun _=>rfl) vn rfl (some ⟨w6.heap.size,0,none⟩) 1 1 rfl r.names [s5++it3] M6'.out.M.own.n M6'.out.M.cur.2.1 rfl (fun _=>⟨_,rfl,fun j u hu=>(World.cell?_alloc_at' w6 [.string (s5++it3)] 9 j).trans hu⟩) (HBn.out _) ?_;intro v7 w7 ho7 he7 hv7 hg7;obtain ⟨A7,c7,hsh,_⟩:=OwnL.rd ho7 (HLn.out _);replace hsh:v7=.slice A7 (r.names.length+1) c7:=(by rw [hsh,List.length_append];rfl);subst hsh;obtain ⟨⟨z7,y7⟩,M7⟩:=M6'.out.app_n ho7 he7 hv7 hg7;clear ho7 he7 hv7 hg7;have M7:=lhd M7))
    all_goals
     go_wp2_with fail;go_meet;exact ⟨s5++it3,_,by have:=ByteArray.size_append (a:=s5) (b:=it3);omega,by rw [← HIT3.out];exact hl.out.2.2.2.snoc HS5.out hi0 (by omega),M7⟩
   case rest =>
    obtain ⟨s,v,hs,hSI,hM'⟩:=hcut;clear hM hMd cd0 cd1 HBn HLn hS3 CF3 hit3;have hMd:=lhd (hM'.out.ext (Ext_drew (Ext.refl wc)));have cd0:_=some vk:=hM'.out.M.box.cell 7
    have HBn:Hid (∀ x:Int,(r.kids.length+[x].length)*8≤140737488355328):=fun s=>by have:=hl.out.1.2;simp;omega
    have HLn:Hid (∀ x:Int,(r.kids++[x]).length≤140737488351232):=fun s=>by have:=hl.out.1.2;simp;omega
    go_wp2_with fail
    go_region_law (first
     | (go_simp;go_at_call 35;refine (CBe.out ds.length _ hMd.out.M.cur (by omega)).mono ?_;rintro _ w5 ⟨x,hx,rfl,hC5,hg5⟩;have M5:=lhd (hMd.out.moved hC5 hg5);have c5:_=some vk:=M5.out.M.box.cell 7;have M5':=lhd (M5.out.ext (Ext_alloc (.cells #[.int .i64 x] 3) (Ext.refl _)));have c5':_=some vk:=M5'.out.M.box.cell 7;clear hC5 hg5)
     | (refine step_appG rfl (.tmp 89) (.tmp 93) _ rfl E_int (by omega) wb _ vint (fun _=>rfl) vk rfl (some ⟨w5.heap.size,0,none⟩) 1 1 rfl r.kids [(x:Int)] M5'.out.M.own.k M5'.out.M.cur.2.1 rfl (fun _=>⟨_,rfl,fun j u hu=>(World.cell?_alloc_at' w5 [.int .i64 x] 3 j).trans hu⟩) (HBn.out _) ?_;intro v7 w7 ho7 he7 hv7 hg7;obtain ⟨A7,c7,hsh,_⟩:=OwnL.rd ho7 (HLn.out _);replace hsh:v7=.slice A7 (r.kids.length+1) c7:=(by rw [hsh,List.length_append];rfl);subst hsh;obtain ⟨⟨z7,y7⟩,M7⟩:=M5'.out.app_k ho7 he7 hv7 hg7;clear ho7 he7 hv7 hg7;have M7:=lhd M7))
    all_goals
     have hxn:x<ds.length:=by unfold below at hx;rw [if_neg (by omega)] at hx;omega
     clear hx
     have HR':Hid (∀ t∈r.names++[s],t.size≤40):=fun t ht=>by
      rcases List.mem_append.1 ht with h1 | h1
      ·exact hl.out.2.1 t h1
      ·rw [List.mem_singleton.1 h1];exact hs
     have HK':Hid (∀ z∈r.kids++[(x:Int)],0≤z∧z<(ds.length:Int)):=fun t ht=>by
      rcases List.mem_append.1 ht with h1 | h1
      ·exact hl.out.2.2.1 t h1
      ·rw [List.mem_singleton.1 h1];omega
     go_wp2;go_roundw
     case rel=>exact ⟨i-1,{ r with names:=r.names++[s],kids:=r.kids++[(x:Int)] },vb,v,vt,_,by omega,by go_num,hr,⟨⟨by have:=hl.out.1.1;simp;omega,by have:=hl.out.1.2;simp;omega⟩,HR'.out,HK'.out,hSI.out⟩,M7⟩
     case measure=>simp [intOf];omega
  ·obtain rfl:i=0:=by omega
   have hM0:=hM.out.M.own;obtain ⟨Ab,cb,hvb,_⟩:=OwnL.rd hM0.b (by show r.bytes.length≤_;rw [hr.out.2.2.2.1];simp);obtain ⟨An,cn,hvn,_⟩:=OwnL.rd hM0.n (by have:=hl.out.1.1;show r.names.length≤_;omega);obtain ⟨At,ct,hvt,_⟩:=OwnL.rd hM0.t (by show r.tags.length≤_;rw [hr.out.2.2.2.2.1];simp);obtain ⟨Ak,ck,hvk,_⟩:=OwnL.rd hM0.k (by have:=hl.out.1.2;show r.kids.length≤_;omega);dsimp only at hvb hvn hvt hvk;subst hvb;subst hvn;subst hvt;subst hvk;clear hM0;have M6:=lhd hM.out.M;have HR6:=lhd hM.out.res;obtain ⟨⟨a0,a1,a2,a3⟩,a4,a5,a6,a7⟩:=cells8 M6.out.box;obtain ⟨⟨b0,b1,b2,b3⟩,b4,b5,b6,b7⟩:=cells8 (q:=⟨⟨⟨#[]⟩,0,0,false,[],[],[],[]⟩,.slice none 0 0,.slice none 0 0,.slice none 0 0,.slice none 0 0⟩) HR6.out;obtain ⟨⟨d0,d1,d2,d3⟩,d4,d5,d6,d7⟩:=frees8 HR6.out;dsimp only at a0 a1 a2 a3 a4 a5 a6 a7 b0 b1 b2 b3 b4 b5 b6 b7;have hgs':=hM.out.M.grow.size;have HOUT:=lhd (M6.out.out HR6.out (by omega) (by omega) (by omega) hM.out.nR);dsimp only at HOUT;have hnew:=fun u hu b hb=>(M6.out.new u hu b hb).1
   have hfar:=M6.out.far;clear hM;go_wp2_with fail;obtain ⟨hB,hO,hCc,hG⟩:=HOUT.out;obtain ⟨⟨e0,e1,e2,e3⟩,e4,e5,e6,e7⟩:=cells8 (q:=⟨r,.slice Ab r.bytes.length cb,.slice An r.names.length cn,.slice At r.tags.length ct,.slice Ak r.kids.length ck⟩) hB;dsimp only at e0 e1 e2 e3 e4 e5 e6 e7;refine bodyPost_ret (v:=vrule r (.slice Ab r.bytes.length cb) (.slice An r.names.length cn) (.slice At r.tags.length ct) (.slice Ak r.kids.length ck)) (by simp [results,Tryz.results56,go_sem,e0,e1,e2,e3,e4,e5,e6,e7,vrule]) rfl ?_;exact ⟨⟨r,.slice Ab r.bytes.length cb,.slice An r.names.length cn,.slice At r.tags.length ct,.slice Ak r.kids.length ck⟩,rfl,⟨by rw [hr.out.1];omega,⟨by rw [hr.out.2.2.2.1];simp,by have:=hl.out.1.1;show r.names.length≤_;omega,by rw [hr.out.2.2.2.2.1];simp,by have:=hl.out.1.2;show r.kids.length≤_;omega⟩,hl.out.2.1,⟨by rw [hr.out.2.2.1];omega,by rw [hr.out.2.2.2.2.1];simp,fun x hx=>by have:=hl.out.2.2.1 x hx;omega⟩⟩,hr.out.2.1,made_seq (r:=r) (by obtain ⟨s,hs,he⟩:=HNM.out;exact ⟨s,hs,by rw [hr.out.1];exact he⟩) hr.out.2.1 hr.out.2.2.1 hr.out.2.2.2.1 hr.out.2.2.2.2.1 hr.out.2.2.2.2.2 (by have:=hl.out.1;omega) (by have:=hl.out.1;omega) (by have:=hl.out.1;omega) hl.out.2.2.2 hl.out.2.2.1,hO,hfar,hnew,hCc,hG⟩
theorem l4Make7_c (Ad:Option Addr) (ds:List DRule) (cd:Nat) (kind:Int) (hkind:kind=7) (hDn:ds.length≤64) (hki:kind=1∨∃ i,∃ h:i<ds.length,ds[i].kind=1) (hMD:MadeD ds)
 (wb w:World) (p:Nat) (A:Option Addr) (l:List UInt8) (c:Nat) (hA:Bs wb A l c) (hC:Cur wb w p A l c) (hD:∀ w',w.grownBy w' (some p)→RdD w' Ad ds cd) :
 Calls Tryz.prog 56 #[.pointer (some ⟨p,0,none⟩),vdesc (.slice Ad ds.length cd),.int .i64 kind] w fun e w'=>∃ q:RV,e=.returned (vrule q.r q.vb q.vn q.vt q.vk)∧SmallR q.r∧q.r.kind=kind∧MadeR ds q.r∧RuleOwn wb w' q∧Far q.vals∧(∀ u∈q.vals,∀ b,u.ownBlock=some b→w.heap.size≤b)∧Cur wb w' p A l c∧w.grownBy w' (some p):=by
 have hplt:=hC.lt;have hbw:=hC.2.1.size;have CBe:=lhd (fun n w h hn=>l1Below_c n wb w p A l c hA h hn);have COn:=lhd (fun n w h hn=>l1Once_c n wb w p A l c hA h hn);have CS:=lhd (fun w h=>l1StrLit_c [⟨#[97]⟩,⟨#[105,116,101,109]⟩,⟨#[98]⟩,⟨#[104,101,97,100]⟩,⟨#[120]⟩] (by simp) (by simp) 5 rfl #[.string ⟨#[97]⟩,.string ⟨#[105,116,101,109]⟩,.string ⟨#[98]⟩,.string ⟨#[104,101,97,100]⟩,.string ⟨#[120]⟩] rfl wb w p A l c hA h);have CF:=lhd (fun w=>sFormatInt_c (ds.length:Int) w (by omega) (by omega));have hit:=itoa_size (ds.length:Int) (by omega) (by omega);obtain ⟨it,hit0⟩:∃ it,itoaB (ds.length:Int)=it:=⟨_,rfl⟩;rw [hit0] at hit CF;have HIT:=lhd hit0;clear hit0;have HD:=lhd hD;have hki:=lhd hki;have hMD:=lhd hMD;clear hD;obtain ⟨W0,hW0,HP,HR,e0,hsA⟩:=boxes2' w #[.slice Ad ds.length cd] #[.string ⟨#[]⟩,.int .i64 0,.int .i64 0,.bool false,.slice none 0 0,.slice none 0 0,.slice none 0 0,.slice none 0 0] 26 67;unfold vdesc;go_enter Tryz.func56,Tryz.ntmps56;go_wp2_with fail;rw [← hW0.out];have C1:=CS.out W0 (hC.ext e0);rw [hsA] at C1;have C1:=lhd C1;refine C1.out.mono ?_;rintro _ w1 ⟨nm0,hnm0,rfl,hC1,hg1⟩;have HNM:Hid (∃ s∈heads,nm0++it=s++itoaB (ds.length:Int)):=⟨nm0,hnm0,by rw [HIT.out]⟩
 have hnm:nm0.size≤4:=by simp at hnm0;rcases hnm0 with rfl | rfl | rfl | rfl | rfl<;>decide
 have G1:=(grown_ext e0 (some p)).trans hg1;have HP1:=lhd (HP.moved hg1 (some_ne (by omega)));have HR1:=lhd (HR.moved hg1 (some_ne (by omega)));clear hnm0 hg1 C1 CS HP HR e0;go_wp2_with fail;refine (CF.out _).mono ?_;rintro _ w2 ⟨rfl,s2⟩;have G2:=lhd (G1.trans (grown_ext s2 _));have HP2:=lhd (HP1.out.ext s2);have HR2:=lhd (HR1.out.ext s2);have hC2:=hC1.ext s2;clear G1 HP1 HR1 hC1 s2;have hnl:(nm0++it).size≤24:=by have:=ByteArray.size_append (a:=nm0) (b:=it);omega
 have x3:=Ext_alloc (.cells #[.string (nm0++it),.int .i64 kind,.int .i64 0,.bool false,.slice none 0 0,.slice none 0 0,.slice none 0 0,.slice none 0 0] 67) (Ext.refl w2);have hgs:=G2.out.size
 have M0:Hid (Mk wb w (w2.alloc (.cells #[.string (nm0++it),.int .i64 kind,.int .i64 0,.bool false,.slice none 0 0,.slice none 0 0,.slice none 0 0,.slice none 0 0] 67)) p A l c w2.heap.size ⟨⟨nm0++it,kind,0,false,[],[],[],[]⟩,.slice none 0 0,.slice none 0 0,.slice none 0 0,.slice none 0 0⟩) :=
  ⟨Box.new w2 _ _,⟨OwnL.nil _ _,OwnL.nil _ _,OwnL.nil _ _,OwnL.nil _ _⟩,by simp [Far,RV.vals,Value.ownBlock],by simp [RV.vals,Value.ownBlock],hC2.ext x3,G2.out.trans (grown_ext x3 _),hgs,by omega,by omega⟩
 have HP3:=lhd (HP2.out.ext x3);have HR3:=lhd (HR2.out.ext x3);have hlt2:w.heap.size+1<w2.heap.size:=HR2.out.lt
 clear HP2 HR2 hC2 G2 x3 CF;obtain ⟨W3,hW3⟩:∃ W3,W3=w2.alloc (.cells #[.string (nm0++it),.int .i64 kind,.int .i64 0,.bool false,.slice none 0 0,.slice none 0 0,.slice none 0 0,.slice none 0 0] 67):=⟨_,rfl⟩;rw [← hW3] at M0 HP3 HR3;have HW3:=lhd hW3;clear hW3;subst hkind;have zp:_=some (Value.slice Ad ds.length cd):=HP3.out.cell 0
 rw [HW3.out] at zp;have hki':=hki.out.resolve_left (by omega);have hds0:0<ds.length:=by obtain ⟨i,hi,_⟩:=hki';omega
 have CI:=lhd (l4Integer_c Ad ds cd hds0 hDn hki' wb W3 p A l c hA M0.out.cur (HD.out _ M0.out.grow));unfold vdesc at CI;clear hki' hki HP3 HD;go_wp2_with fail;rw [← HW3.out];refine CI.out.mono ?_;rintro _ w4 ⟨x,hx,hxk,rfl,hC4,hg4⟩;have HXK:=lhd hxk;clear CI zp HW3 hxk;have M4:=M0.out.moved hC4 hg4;have HR4:=lhd (HR3.out.moved hg4 (some_ne (by omega)));have x5:=Ext_alloc (.cells #[.int .i64 x] 3) (Ext.refl w4);have ho5:=OwnL.lit (f:=vint) (e:=3) hC4.2.1 [(x:Int)] #[.int .i64 x] rfl 1 rfl (by omega);have M5:=M4.ext x5;have z7:_=some (Value.slice none 0 0):=M5.box.cell 7
 have y7:=M5.box.free 7;have hgl4:=M4.box.lt;have hpl4:=hC4.lt;have hRl:=HR4.out.lt
 have S6:Hid (MS wb w ((w4.alloc (.cells #[.int .i64 x] 3)).setCell ⟨w2.heap.size,7,none⟩ (.slice (some ⟨w4.heap.size,0,none⟩) 1 1)) p A l c w2.heap.size ⟨⟨nm0++it,7,0,false,[],[],[],[(x:Int)]⟩,.slice none 0 0,.slice none 0 0,.slice none 0 0,.slice (some ⟨w4.heap.size,0,none⟩) 1 1⟩ (w.heap.size+1)) :=
  ⟨M5.fresh_k ho5 (n0:=w4.heap.size) (fun b hb=>by injection hb with hb;simp at hb;omega) (by simp [RV.vals,Value.ownBlock]) (by omega) (by omega) (by have:=M4.grow.size;omega),(HR4.out.ext x5).other (by omega) 7 _,fun u hu b hb=>by
   simp only [RV.vals,List.mem_cons,List.not_mem_nil,or_false] at hu;rcases hu with rfl | rfl | rfl | rfl
   ·cases hb
   ·cases hb
   ·cases hb
   ·(have:some w4.heap.size=some b:=hb);injection this;omega,by omega,by omega⟩
 clear M4 M5 ho5 x5 hC4 hg4 HR4 HR3 M0 hgl4 hpl4 hRl;generalize hgg:w2.heap.size=g at *;clear hgg;go_wp2_with fail;refine (CBe.out 3 _ S6.out.M.cur (by omega)).mono ?_;rintro _ w6 ⟨y,hy,rfl,hC6,hg6⟩;have hyn:y<3:=by unfold below at hy;rw [if_neg (by omega)] at hy;omega
 have S4:=lhd (S6.out.moved hC6 hg6);clear hy hC6 hg6 S6 z7 y7;go_wp2;go_loopw [10] (fun t wr=>∃ (i:Nat) (r:DRule) (vb vn vt vk:Value),i≤3∧t=.int .i64 i∧Hid (r.nm=nm0++it∧r.kind=7∧r.size=0∧r.bytes=[]∧r.names=[]∧r.little=false)∧Hid ((r.tags.length+i=1+y∧r.kids.length+i=2+y)∧TagInv r.tags∧(∀ x∈r.kids,0≤x∧x<(ds.length:Int))∧∃ t,r.kids=(x:Int)::t)∧Hid (MS wb w wr p A l c g ⟨r,vb,vn,vt,vk⟩ (w.heap.size+1))) (fun t _=>(intOf t).toNat)
 case atStart=>exact ⟨1+y,_,_,_,_,_,by omega,by simp,⟨rfl,rfl,rfl,rfl,rfl,rfl⟩,⟨⟨by simp,by simp;omega⟩,TagInv.nil,by simp;omega,⟨[],rfl⟩⟩,S4⟩
 case round =>
  clear S4;obtain ⟨i,r,vb,vn,vt,vk,hi3,rfl,hr,hl,hM⟩:=hrel
  by_cases hi0:0<i
  ·obtain ⟨At,ct,hvt,_⟩:=OwnL.rd hM.out.M.own.t (by have:=hl.out.1.1;show r.tags.length≤_;omega)
   dsimp only at hvt;subst hvt;have hMd:=lhd (hM.out.ext (Ext_drew (Ext.refl wr)));have cd0:_=some (Value.slice At r.tags.length ct):=hM.out.M.box.cell 6
   have HBn:Hid (∀ x:Int,(r.tags.length+[x].length)*8≤140737488355328):=fun s=>by have:=hl.out.1.1;simp;omega
   have HLn:Hid (∀ x:Int,(r.tags++[x]).length≤140737488351232):=fun s=>by have:=hl.out.1.1;simp;omega
   have htl:=hl.out.1.1;have hw1:IntKind.i64.wrap (4*(r.tags.length:Int))=4*(r.tags.length:Int):=IntWalk.i64_in _ (by omega)
   have hw2:Hid (∀ z:Nat,z<4→IntKind.i64.wrap (4*(r.tags.length:Int)+(z:Int))=4*(r.tags.length:Int)+(z:Int)):=fun z hz=>IntWalk.i64_in _ (by omega)
   have hb4:Hid (∀ z:Nat,below 4 z→z<4):=fun z hz=>by unfold below at hz;rw [if_neg (by omega)] at hz;omega
   clear htl;go_wp2_with fail;go_cut [120] from 110 to 121 (fun _ wx=>∃ s v,Hid (TagInv (r.tags++[s]))∧Hid (MS wb w wx p A l c g ⟨{ r with tags:=r.tags++[s] },vb,vn,v,vk⟩ (w.heap.size+1)))
   case first =>
    go_region_law (first
     | (go_simp;go_at_call 35;refine (CBe.out 4 _ hMd.out.M.cur (by omega)).mono ?_;rintro _ w5 ⟨z,hz,rfl,hC5,hg5⟩;have M5:=lhd (hMd.out.moved hC5 hg5);have c5:_=some (Value.slice At r.tags.length ct):=M5.out.M.box.cell 6;have M5':=lhd (M5.out.ext (Ext_alloc (.cells #[.int .i64 (4*(r.tags.length:Int)+(z:Int))] 3) (Ext.refl _)));have c5':_=some (Value.slice At r.tags.length ct):=M5'.out.M.box.cell 6;have hz4:=hb4.out _ hz;have hw3:=hw2.out z hz4;clear hC5 hg5 hz)
     | (refine step_appG rfl (.tmp 111) (.tmp 119) _ rfl E_int (by omega) wb _ vint (fun _=>rfl) (.slice At r.tags.length ct) rfl (some ⟨w5.heap.size,0,none⟩) 1 1 rfl r.tags [4*(r.tags.length:Int)+(z:Int)] M5'.out.M.own.t M5'.out.M.cur.2.1 rfl (fun _=>⟨_,rfl,fun j u hu=>(World.cell?_alloc_at' w5 [.int .i64 (4*(r.tags.length:Int)+(z:Int))] 3 j).trans hu⟩) (HBn.out _) ?_;intro v7 w7 ho7 he7 hv7 hg7;obtain ⟨A7,c7,hsh,_⟩:=OwnL.rd ho7 (HLn.out _);replace hsh:v7=.slice A7 (r.tags.length+1) c7:=(by rw [hsh,List.length_append];rfl);subst hsh;obtain ⟨⟨z7,y7⟩,M7⟩:=M5'.out.app_t ho7 he7 hv7 hg7;clear ho7 he7 hv7 hg7;have M7:=lhd M7))
    all_goals
     go_wp2_with fail;go_meet;exact ⟨4*(r.tags.length:Int)+(z:Int),_,hl.out.2.1.snoc hz4,M7⟩
   case rest =>
    obtain ⟨s,v,hs,hM'⟩:=hcut;clear hM hMd cd0 HBn HLn hw1 hw2 hb4;have hMd:=lhd (hM'.out.ext (Ext_drew (Ext.refl wc)));have cd0:_=some vk:=hM'.out.M.box.cell 7
    have HBn:Hid (∀ x:Int,(r.kids.length+[x].length)*8≤140737488355328):=fun s=>by have:=hl.out.1.2;simp;omega
    have HLn:Hid (∀ x:Int,(r.kids++[x]).length≤140737488351232):=fun s=>by have:=hl.out.1.2;simp;omega
    go_wp2_with fail
    go_region_law (first
     | (go_simp;go_at_call 35;refine (CBe.out ds.length _ hMd.out.M.cur (by omega)).mono ?_;rintro _ w5 ⟨x2,hx2,rfl,hC5,hg5⟩;have M5:=lhd (hMd.out.moved hC5 hg5);have c5:_=some vk:=M5.out.M.box.cell 7;have M5':=lhd (M5.out.ext (Ext_alloc (.cells #[.int .i64 x2] 3) (Ext.refl _)));have c5':_=some vk:=M5'.out.M.box.cell 7;clear hC5 hg5)
     | (refine step_appG rfl (.tmp 123) (.tmp 127) _ rfl E_int (by omega) wb _ vint (fun _=>rfl) vk rfl (some ⟨w5.heap.size,0,none⟩) 1 1 rfl r.kids [(x2:Int)] M5'.out.M.own.k M5'.out.M.cur.2.1 rfl (fun _=>⟨_,rfl,fun j u hu=>(World.cell?_alloc_at' w5 [.int .i64 x2] 3 j).trans hu⟩) (HBn.out _) ?_;intro v7 w7 ho7 he7 hv7 hg7;obtain ⟨A7,c7,hsh,_⟩:=OwnL.rd ho7 (HLn.out _);replace hsh:v7=.slice A7 (r.kids.length+1) c7:=(by rw [hsh,List.length_append];rfl);subst hsh;obtain ⟨⟨z7,y7⟩,M7⟩:=M5'.out.app_k ho7 he7 hv7 hg7;clear ho7 he7 hv7 hg7;have M7:=lhd M7))
    all_goals
     have hxn:x2<ds.length:=by unfold below at hx2;rw [if_neg (by omega)] at hx2;omega
     clear hx2
     have HK':Hid (∀ z∈r.kids++[(x2:Int)],0≤z∧z<(ds.length:Int)):=fun t ht=>by
      rcases List.mem_append.1 ht with h1 | h1
      ·exact hl.out.2.2.1 t h1
      ·rw [List.mem_singleton.1 h1];omega
     go_wp2;go_roundw
     case rel=>exact ⟨i-1,{ r with tags:=r.tags++[s],kids:=r.kids++[(x2:Int)] },vb,vn,v,_,by omega,by go_num,hr,⟨⟨by have:=hl.out.1.1;simp;omega,by have:=hl.out.1.2;simp;omega⟩,hs.out,HK'.out,by obtain ⟨t,ht⟩:=hl.out.2.2.2;exact ⟨t++[(x2:Int)],by show r.kids++_=_;rw [ht];rfl⟩⟩,M7⟩
     case measure=>simp [intOf];omega
  ·obtain rfl:i=0:=by omega
   have hM0:=hM.out.M.own;obtain ⟨Ab,cb,hvb,_⟩:=OwnL.rd hM0.b (by show r.bytes.length≤_;rw [hr.out.2.2.2.1];simp);obtain ⟨An,cn,hvn,_⟩:=OwnL.rd hM0.n (by show r.names.length≤_;rw [hr.out.2.2.2.2.1];simp);obtain ⟨At,ct,hvt,_⟩:=OwnL.rd hM0.t (by have:=hl.out.1.1;show r.tags.length≤_;omega);obtain ⟨Ak,ck,hvk,_⟩:=OwnL.rd hM0.k (by have:=hl.out.1.2;show r.kids.length≤_;omega);dsimp only at hvb hvn hvt hvk;subst hvb;subst hvn;subst hvt;subst hvk;clear hM0;have M6:=lhd hM.out.M;have HR6:=lhd hM.out.res;obtain ⟨⟨a0,a1,a2,a3⟩,a4,a5,a6,a7⟩:=cells8 M6.out.box;obtain ⟨⟨b0,b1,b2,b3⟩,b4,b5,b6,b7⟩:=cells8 (q:=⟨⟨⟨#[]⟩,0,0,false,[],[],[],[]⟩,.slice none 0 0,.slice none 0 0,.slice none 0 0,.slice none 0 0⟩) HR6.out;obtain ⟨⟨d0,d1,d2,d3⟩,d4,d5,d6,d7⟩:=frees8 HR6.out;dsimp only at a0 a1 a2 a3 a4 a5 a6 a7 b0 b1 b2 b3 b4 b5 b6 b7;have hgs':=hM.out.M.grow.size;have HOUT:=lhd (M6.out.out HR6.out (by omega) (by omega) (by omega) hM.out.nR);dsimp only at HOUT;have hnew:=fun u hu b hb=>(M6.out.new u hu b hb).1
   have hfar:=M6.out.far;clear hM;go_wp2_with fail;obtain ⟨hB,hO,hCc,hG⟩:=HOUT.out;obtain ⟨⟨e0,e1,e2,e3⟩,e4,e5,e6,e7⟩:=cells8 (q:=⟨r,.slice Ab r.bytes.length cb,.slice An r.names.length cn,.slice At r.tags.length ct,.slice Ak r.kids.length ck⟩) hB;dsimp only at e0 e1 e2 e3 e4 e5 e6 e7;refine bodyPost_ret (v:=vrule r (.slice Ab r.bytes.length cb) (.slice An r.names.length cn) (.slice At r.tags.length ct) (.slice Ak r.kids.length ck)) (by simp [results,Tryz.results56,go_sem,e0,e1,e2,e3,e4,e5,e6,e7,vrule]) rfl ?_;exact ⟨⟨r,.slice Ab r.bytes.length cb,.slice An r.names.length cn,.slice At r.tags.length ct,.slice Ak r.kids.length ck⟩,rfl,⟨by rw [hr.out.1];omega,⟨by rw [hr.out.2.2.2.1];simp,by rw [hr.out.2.2.2.2.1];simp,by have:=hl.out.1.1;show r.tags.length≤_;omega,by have:=hl.out.1.2;show r.kids.length≤_;omega⟩,by rw [hr.out.2.2.2.2.1];simp,⟨by rw [hr.out.2.2.1];omega,fun x hx=>by obtain ⟨j,hj,rfl⟩:=List.getElem_of_mem hx;have h1:=hl.out.2.1.at' j hj;have h2:=hl.out.1.1;dsimp only at hj ⊢;omega,fun x hx=>by have:=hl.out.2.2.1 x hx;omega⟩⟩,hr.out.2.1,made_cho (r:=r) hMD.out (by obtain ⟨s,hs,he⟩:=HNM.out;exact ⟨s,hs,by rw [hr.out.1];exact he⟩) hr.out.2.1 hr.out.2.2.1 hr.out.2.2.2.1 hr.out.2.2.2.2.1 hr.out.2.2.2.2.2 (by have:=hl.out.1;omega) (by have:=hl.out.1;omega) (by have:=hl.out.1;omega) hl.out.2.1 hx HXK.out hl.out.2.2.2.choose_spec hl.out.2.2.1,hO,hfar,hnew,hCc,hG⟩
end Go.Proofs.YtlfhealneccdkaaGreatDoor
