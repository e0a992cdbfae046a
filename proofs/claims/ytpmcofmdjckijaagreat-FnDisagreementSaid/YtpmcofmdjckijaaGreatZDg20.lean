/- Texts, laid into one. -/
import Derived.Test.YtpmcofmdjckijaaGreatZDg13
import Derived.Test.YtpmcofmdjckijaaGreatZDg19
set_option linter.unusedVariables false
set_option linter.unusedSimpArgs false
set_option maxRecDepth 100000
set_option maxHeartbeats 16000000
namespace Go.Proofs.YtpmcofmdjckijaaGreat
def noRule:DRule:=⟨⟨#[]⟩,0,0,false,[],[],[],[]⟩
def kidV (r:DRule) (n:Int) (i:Nat):Nat :=
 if r.kind=5 then kd r 1 else if r.kind=6 then kd r i else if r.kind=7 then kd r (tagN r.tags n+1) else kd r 0
def ownV (ds:List DRule) (r:DRule) (n:Int) (b m:Nat):Bool :=
 if r.kind=1 then decide (0≤n)&&decide (n≤limR r)&&b==0&&m==0
 else if r.kind=2 then n==0&&b==0&&m==0
 else if r.kind=3 then n==0&&decide ((b:Int)=r.size)&&m==0
 else if r.kind=4 then n==0&&decide ((b:Int)≤min 400 (limD ds (r.kids.getD 0 0)))&&m==0
 else if r.kind=5 then n==0&&b==0&&decide ((m:Int)≤min 40 (limD ds (r.kids.getD 0 0)))
 else if r.kind=6 then n==0&&b==0&&m==r.kids.length
 else if r.kind=7 then decide (tagN r.tags n<r.tags.length)&&b==0&&m==1
 else if r.kind=8 then n==0&&b==0&&decide (m≤1)
 else if r.kind=9 then n==0&&b==0&&m==1
 else n==0&&decide (b≤400)&&m==0
mutual
def validV (ds:List DRule):Nat→DVal→Bool
 | i,.mk n b its=>match ds[i]? with
  | some r=>ownV ds r n b.length its.length&&validVs ds r n 0 its
  | none=>false
def validVs (ds:List DRule) (r:DRule) (n:Int):Nat→List DVal→Bool
 | _,[]=>true
 | k,x::t=>validV ds (kidV r n k) x&&validVs ds r n (k+1) t
end
theorem validV_eq (ds:List DRule) (i:Nat) (hi:i<ds.length) (v:DVal):validV ds i v=(ownV ds ds[i] v.num v.bytes.length v.items.length&&validVs ds ds[i] v.num 0 v.items):=by
 cases v;rw [validV,List.getElem?_eq_getElem hi];rfl
theorem validVs_iff (ds:List DRule) (r:DRule) (n:Int):∀ (l:List DVal) (k:Nat),validVs ds r n k l=true↔∀ j (hj:j<l.length),validV ds (kidV r n (k+j)) l[j]=true
 | [],k=>by rw [validVs];simp
 | x::t,k=>by
  rw [validVs,Bool.and_eq_true,validVs_iff ds r n t (k+1)]
  constructor
  ·rintro ⟨h1,h2⟩ j hj
   cases j with
   | zero=>exact h1
   | succ j=>have:=h2 j (by simpa using hj);rw [show k+1+j=k+(j+1) by omega] at this;simpa using this
  ·intro h
   refine ⟨h 0 (by simp),fun j hj=>?_⟩
   have:=h (j+1) (by simpa using hj);rw [show k+(j+1)=k+1+j by omega] at this;simpa using this
theorem validV_yes {ds:List DRule} {i:Nat} {hi:i<ds.length} {v:DVal} (ho:ownV ds ds[i] v.num v.bytes.length v.items.length=true) (h:∀ j (hj:j<v.items.length),validV ds (kidV ds[i] v.num j) v.items[j]=true):validV ds i v=true:=by
 rw [validV_eq ds i hi,ho,(validVs_iff _ _ _ _ _).2 (fun j hj=>by rw [Nat.zero_add];exact h j hj)];rfl
theorem validV_lt {ds:List DRule} {i:Nat} {v:DVal} (h:validV ds i v=true):i<ds.length:=by
 cases v;rw [validV] at h
 rcases Nat.lt_or_ge i ds.length with h' | h'
 ·exact h'
 ·rw [List.getElem?_eq_none h'] at h;cases h
theorem validV_item {ds:List DRule} {i:Nat} {v:DVal} (h:validV ds i v=true) (j:Nat) (hj:j<v.items.length):validV ds (kidV (ds[i]'(validV_lt h)) v.num j) v.items[j]=true:=by
 rw [validV_eq ds i (validV_lt h),Bool.and_eq_true] at h
 have:=(validVs_iff _ _ _ _ _).1 h.2 j hj;rwa [Nat.zero_add] at this
theorem validV_fits {ds:List DRule} {i:Nat} {v:DVal} (h:validV ds i v=true):ownV ds (ds[i]'(validV_lt h)) v.num v.bytes.length v.items.length=true:=by
 rw [validV_eq ds i (validV_lt h),Bool.and_eq_true] at h;exact h.1
def stepR (r:DRule) (i:Nat):ByteArray :=
 if r.kind=5 then itoaB i else if r.kind=6 then r.names.getD i ⟨#[]⟩ else if r.kind=7 then ⟨#[42]⟩ else if r.kind=8 then ⟨#[63]⟩ else ⟨#[43]⟩
def under (p:ByteArray) (r:DRule) (i:Nat):ByteArray:=p++⟨#[47]⟩++stepR r i
noncomputable instance:DecidableEq DVal:=fun _ _=>Classical.propDecidable _
noncomputable def eqV (a b:DVal):Bool:=decide (a=b)
def alikeV (a b:DVal):Bool:=a.num==b.num&&a.bytes==b.bytes&&a.items.length==b.items.length&&!(a.items.length==0)
mutual
noncomputable def diffV (ds:List DRule):Nat→DVal→DVal→ByteArray→List (ByteArray × DVal)
 | i,.mk n b its,v,p=>if eqV (.mk n b its) v then [] else if alikeV (.mk n b its) v then diffVs ds (ds.getD i noRule) n 0 its v.items p else [(p,v)]
noncomputable def diffVs (ds:List DRule) (r:DRule) (n:Int):Nat→List DVal→List DVal→ByteArray→List (ByteArray × DVal)
 | _,[],_,_=>[]
 | _,_::_,[],_=>[]
 | k,x::t,y::u,p=>diffV ds (kidV r n k) x y (under p r k)++diffVs ds r n (k+1) t u p
end
theorem own_item {ds:List DRule} (h:descOk ds=true) (i:Nat) (hi:i<ds.length) {n:Int} {b m j:Nat} (ho:ownV ds ds[i] n b m=true) (hj:j<m) :
 kidV ds[i] n j<i∧((ds[i].kind=5∧1<ds[i].kids.length)∨(ds[i].kind=6∧j<ds[i].kids.length∧j<ds[i].names.length)∨(ds[i].kind=7∧j=0∧tagN ds[i].tags n<ds[i].tags.length∧tagN ds[i].tags n+1<ds[i].kids.length)∨((ds[i].kind=8∨ds[i].kind=9)∧j=0∧0<ds[i].kids.length)):=by
 obtain ⟨k4,k5,k6,k7,k8,_,_⟩:=kids_len h i hi;have hlt:=kd_lt h i hi;have hkd:=(ruleFacts h i hi).kind;generalize ds[i]=r at *;unfold ownV at ho
 split at ho
 ·simp only [Bool.and_eq_true,beq_iff_eq] at ho;omega
 split at ho
 ·simp only [Bool.and_eq_true,beq_iff_eq] at ho;omega
 split at ho
 ·simp only [Bool.and_eq_true,beq_iff_eq] at ho;omega
 split at ho
 ·simp only [Bool.and_eq_true,beq_iff_eq] at ho;omega
 split at ho
 ·rename_i e
  have:=(k5 e).1;exact ⟨by unfold kidV;rw [if_pos e];exact hlt _ (by omega),.inl ⟨e,by omega⟩⟩
 split at ho
 ·rename_i e5 e
  simp only [Bool.and_eq_true,beq_iff_eq] at ho
  have:=(k6 e).1;exact ⟨by unfold kidV;rw [if_neg e5,if_pos e];exact hlt _ (by omega),.inr (.inl ⟨e,by omega,by omega⟩)⟩
 split at ho
 ·rename_i e5 e6 e
  simp only [Bool.and_eq_true,beq_iff_eq,decide_eq_true_eq] at ho
  have:=(k7 e).1;exact ⟨by unfold kidV;rw [if_neg e5,if_neg e6,if_pos e];exact hlt _ (by omega),.inr (.inr (.inl ⟨e,by omega,by omega,by omega⟩))⟩
 split at ho
 ·rename_i e5 e6 e7 e
  simp only [Bool.and_eq_true,beq_iff_eq,decide_eq_true_eq] at ho
  have:=k8 (.inl e);exact ⟨by unfold kidV;rw [if_neg e5,if_neg e6,if_neg e7];exact hlt _ (by omega),.inr (.inr (.inr ⟨.inl e,by omega,by omega⟩))⟩
 split at ho
 ·rename_i e5 e6 e7 e8 e
  simp only [Bool.and_eq_true,beq_iff_eq,decide_eq_true_eq] at ho
  have:=k8 (.inr e);exact ⟨by unfold kidV;rw [if_neg e5,if_neg e6,if_neg e7];exact hlt _ (by omega),.inr (.inr (.inr ⟨.inr e,by omega,by omega⟩))⟩
 ·simp only [Bool.and_eq_true,beq_iff_eq] at ho;omega
end Go.Proofs.YtpmcofmdjckijaaGreat
namespace Go.Proofs.YtpmcofmdjckijaaGreat
open Go.RowKit Go.Sort
def nmR (r:DRule) (t:ByteArray):DRule:={ r with nm:=t }
def nmV (p:RV) (t:ByteArray):RV:={ p with r:=nmR p.r t }
def setNm (ds:List DRule) (k:Nat) (t:ByteArray):List DRule:=ds.set k (nmR (ds.getD k ⟨⟨#[]⟩,0,0,false,[],[],[],[]⟩) t)
def setNmV (ps:List RV) (k:Nat) (t:ByteArray):List RV:=ps.set k (nmV (ps.getD k ⟨⟨⟨#[]⟩,0,0,false,[],[],[],[]⟩,undef,undef,undef,undef⟩) t)
def renOk (ds:List DRule) (f t:ByteArray):Bool:=decide (0≤findR ds f)&&descOk (setNm ds (findR ds f).toNat t)
def renD (ds:List DRule) (f t:ByteArray):List DRule:=if renOk ds f t then setNm ds (findR ds f).toNat t else ds
theorem cells_set:∀ (ps:List RV) (k:Nat) (h:k<ps.length) (t:ByteArray),(ps.flatMap RV.cells).set (k*8) (.string t)=(ps.set k (nmV ps[k] t)).flatMap RV.cells:=by
 intro ps
 induction ps with
 | nil=>intro k h;simp at h
 | cons p s ih =>
  intro k h t;cases k with
  | zero=>simp [RV.cells,nmV,nmR,List.flatMap_cons]
  | succ k =>
   have h':k<s.length:=by simpa using h
   rw [List.flatMap_cons,List.set_append_right _ _ (by simp [RV.cells];omega)];rw [show (k+1)*8-p.cells.length=k*8 by simp [RV.cells];omega,ih k h' t];simp [List.flatMap_cons]
theorem vals_set (ps:List RV) (k:Nat) (h:k<ps.length) (t:ByteArray):(ps.set k (nmV ps[k] t)).flatMap RV.vals=ps.flatMap RV.vals:=by
 induction ps generalizing k with
 | nil=>simp at h
 | cons p s ih =>
  cases k with
  | zero=>simp [RV.vals,nmV,List.flatMap_cons]
  | succ k=>simp only [List.set_cons_succ,List.flatMap_cons,List.getElem_cons_succ];rw [ih k (by simpa using h)]
theorem setNmV_eq {ps:List RV} {k:Nat} (h:k<ps.length) (t:ByteArray):setNmV ps k t=ps.set k (nmV ps[k] t):=by unfold setNmV;simp [h]
theorem far_parts' {v:Value} {ps:List RV} (h:Far (v::ps.flatMap RV.vals)):(∀ q∈ps,∀ u∈q.vals,∀ g,v.ownBlock=some g→u.ownBlock≠some g)∧True∧True:=by
 unfold Far at h;rw [List.pairwise_cons] at h;exact ⟨fun q hq u hu g hg=>h.1 u (List.mem_flatMap.2 ⟨q,hq,hu⟩) g hg,trivial,trivial⟩
theorem OwnD.setNm {w0 w:World} {g c:Nat} {ps:List RV} (h:OwnD w0 w (.slice (some ⟨g,0,none⟩) ps.length c) ps) {k:Nat} (hk:k<ps.length) (t:ByteArray) :
 OwnD w0 (w.setCell ⟨g,k*8,none⟩ (.string t)) (.slice (some ⟨g,0,none⟩) ps.length c) (setNmV ps k t):=by
 rw [setNmV_eq hk];obtain ⟨f1,_,_⟩:=far_parts' h.far;refine ⟨?_,fun p hp=>?_,?_⟩
 ·have:=(h.row.stored (k*8) (.string t)).1
  rw [cells_set ps k hk t] at this;rw [List.length_set];exact this
 ·have hkeep:∀ q∈ps,RuleOwn w0 (w.setCell ⟨g,k*8,none⟩ (.string t)) q:=fun q hq=>(h.each q hq).keep (grown_set w ⟨g,k*8,none⟩ _) (fun u hu b hb hh=>by
   injection hh with hh
   exact f1 q hq u hu g rfl (by rw [hb];exact congrArg some hh.symm))
  rcases List.mem_or_eq_of_mem_set hp with h1 | rfl
  ·exact hkeep p h1
  ·have:=hkeep ps[k] (List.getElem_mem hk)
   exact ⟨this.b,this.n,this.t,this.k⟩
 ·rw [vals_set ps k hk t];exact h.far
def AlikeR (x y:DRule):Prop:=x.kind=y.kind∧x.size=y.size∧x.little=y.little∧x.bytes=y.bytes∧x.names=y.names∧x.tags=y.tags∧x.kids=y.kids
theorem tags_nodup {ds:List DRule} (h:descOk ds=true) (i:Nat) (hi:i<ds.length) (h7:ds[i].kind=7):∀ k (hk:k<ds[i].tags.length),∀ j (hj:j<k),ds[i].tags[j]<ds[i].tags[k]:=by
 have hk7:=ruleKind h i hi;unfold kindOk at hk7;rw [if_neg (by omega),if_neg (by omega),if_neg (by omega),if_neg (by omega),if_neg (by omega),if_neg (by omega),if_pos h7] at hk7;unfold choOk at hk7;simp only [Bool.and_eq_true] at hk7;have hall:=hk7.2
 have step:∀ k (hk:k+1<ds[i].tags.length),ds[i].tags[k]<ds[i].tags[k+1]:=by
  intro k hk;have h1:=allN_at hall hk;unfold tagOk at h1;rw [List.getElem?_eq_getElem hk] at h1;simp only [Bool.and_eq_true,Bool.or_eq_true,beq_iff_eq,decide_eq_true_eq] at h1;rcases h1.2 with h2 | h2
  ·omega
  ·rw [List.getD_eq_getElem?_getD,Nat.add_sub_cancel,List.getElem?_eq_getElem (by omega)] at h2
   exact h2
 intro k
 induction k with
 | zero=>intro hk j hj;omega
 | succ k ih =>
  intro hk j hj;rcases (by omega:j=k∨j<k) with rfl | h1
  ·exact step j hk
  ·exact Int.lt_trans (ih (by omega) j h1) (step k hk)
theorem tagN_self {ds:List DRule} (h:descOk ds=true) (i:Nat) (hi:i<ds.length) (h7:ds[i].kind=7) (t:Nat) (ht:t<ds[i].tags.length):tagN ds[i].tags (ds[i].tags.getD t 0)=t:=by
 refine tagN_at ht ?_ (fun j hj hjt=>?_)
 ·rw [List.getD_eq_getElem?_getD,List.getElem?_eq_getElem ht];rfl
 ·rw [List.getD_eq_getElem?_getD,List.getElem?_eq_getElem ht]
  have:=tags_nodup h i hi h7 t ht j hjt;simp only [Option.getD_some]
  omega
theorem AlikeR.symm {x y:DRule} (h:AlikeR x y):AlikeR y x:=by
 obtain ⟨e1,e2,e3,e4,e5,e6,e7⟩:=h;exact ⟨e1.symm,e2.symm,e3.symm,e4.symm,e5.symm,e6.symm,e7.symm⟩
theorem AlikeR.refl (x:DRule):AlikeR x x:=⟨rfl,rfl,rfl,rfl,rfl,rfl,rfl⟩
end Go.Proofs.YtpmcofmdjckijaaGreat
namespace Go.Proofs.YtpmcofmdjckijaaGreat
def ofN:Nat→Nat→List UInt8
 | 0,_=>[]
 | s+1,n=>ofN s (n / 256)++[UInt8.ofNat n]
theorem ofN_len:∀ s n,(ofN s n).length=s
 | 0,_=>rfl
 | s+1,n=>by rw [ofN,List.length_append,ofN_len s];rfl
def rdN (l:List UInt8):Nat:=l.foldl (fun a x=>a*256+x.toNat) 0
theorem rdN_snoc (l:List UInt8) (x:UInt8):rdN (l++[x])=rdN l*256+x.toNat:=by unfold rdN;rw [List.foldl_append];rfl
def encI (r:DRule) (n:Nat):List UInt8:=if r.little then (ofN r.size.toNat n).reverse else ofN r.size.toNat n
def decI (r:DRule) (l:List UInt8):Nat:=rdN (if r.little then l.reverse else l)
theorem pow256 (n:Nat):((256^n:Nat):Int)=256^n:=Int.natCast_pow 256 n
theorem encI_len (r:DRule) (n:Nat):(encI r n).length=r.size.toNat:=by unfold encI;split<;>simp [ofN_len]
def escB (t:UInt8) (l:List UInt8):List UInt8:=l.flatMap fun x=>if x=t∨x=92 then [92,x] else [x]
def wrapV (ds:List DRule) (r:DRule) (n:Int) (b:List UInt8) (m:Nat) (inner:List UInt8):List UInt8 :=
 if r.kind=1 then encI r n.toNat
 else if r.kind=2 then r.bytes
 else if r.kind=3 then b
 else if r.kind=4 then encI (ds.getD (kd r 0) noRule) b.length++b
 else if r.kind=5 then encI (ds.getD (kd r 0) noRule) m++inner
 else if r.kind=6 then inner
 else if r.kind=7 then encI (ds.getD (kd r 0) noRule) n.toNat++inner
 else if r.kind=8 then UInt8.ofNat m::inner
 else if r.kind=9 then inner++[UInt8.ofNat (sumB inner)]
 else escB (r.bytes.getD 0 0) b++[r.bytes.getD 0 0]
mutual
def printV (ds:List DRule):Nat→DVal→List UInt8
 | i,.mk n b its=>wrapV ds (ds.getD i noRule) n b its.length (printVs ds (ds.getD i noRule) n 0 its)
def printVs (ds:List DRule) (r:DRule) (n:Int):Nat→List DVal→List UInt8
 | _,[]=>[]
 | k,x::t=>printV ds (kidV r n k) x++printVs ds r n (k+1) t
end
theorem printV_eq (ds:List DRule) (i:Nat) (v:DVal):printV ds i v=wrapV ds (ds.getD i noRule) v.num v.bytes v.items.length (printVs ds (ds.getD i noRule) v.num 0 v.items):=by cases v;rw [printV];rfl
structure RR where
 v:DVal
 next:Nat
 code:Nat
def v0:DVal:=.mk 0 [] []
def RR.bad (next code:Nat):RR:=⟨v0,next,code⟩
def itemsF (rd:Nat→Nat→RR) (r:DRule) (n:Int):Nat→Nat→Nat→List DVal→RR
 | 0,_,a,acc=>⟨.mk 0 [] acc,a,0⟩
 | m+1,k,a,acc=>if (rd (kidV r n k) a).code=0 then itemsF rd r n m (k+1) (rd (kidV r n k) a).next (acc++[(rd (kidV r n k) a).v]) else .bad (rd (kidV r n k) a).next (rd (kidV r n k) a).code
def untilL (t:UInt8):List UInt8→Option (List UInt8 × Nat)
 | []=>none
 | [x]=>if x=t then some ([],1) else none
 | x::y::l=>if x=t then some ([],1) else if x=92 then (untilL t l).map fun q=>(y::q.1,q.2+2) else (untilL t (y::l)).map fun q=>(x::q.1,q.2+1)
theorem untilL_hit (t:UInt8) (l:List UInt8):untilL t (t::l)=some ([],1):=by
 cases l with
 | nil=>rw [untilL,if_pos rfl]
 | cons y l=>rw [untilL,if_pos rfl]
theorem untilL_two (t:UInt8) (ht:t≠92) (y:UInt8) (l:List UInt8):untilL t (92::y::l)=(untilL t l).map fun q=>(y::q.1,q.2+2):=by
 rw [untilL,if_neg (fun h=>ht h.symm),if_pos rfl]
theorem untilL_one (t x:UInt8) (h1:x≠t) (h2:x≠92) (l:List UInt8):untilL t (x::l)=(untilL t l).map fun q=>(x::q.1,q.2+1):=by
 cases l with
 | nil=>simp [untilL,h1]
 | cons y l=>rw [untilL,if_neg h1,if_neg h2]
theorem untilL_end (t:UInt8) (ht:t≠92):untilL t [92]=none:=by rw [untilL,if_neg (fun h=>ht h.symm)]
def constF (b:List UInt8) (a:Nat):List UInt8→Nat→RR
 | [],i=>⟨v0,a+i,0⟩
 | c::t,i=>match b[a+i]? with
  | none=>.bad a 1
  | some x=>if x=c then constF b a t (i+1) else .bad (a+i) 2
def bytesF (b:List UInt8) (a n:Nat):RR:=if b.length-a<n then .bad a 1 else ⟨.mk 0 ((b.drop a).take n) [],a+n,0⟩
def intAt (r:DRule) (b:List UInt8) (a:Nat):Option Nat:=if b.length-a<r.size.toNat then none else some (decI r ((b.drop a).take r.size.toNat))
def choiceF (ds:List DRule) (rd:Nat→Nat→RR) (r:DRule) (b:List UInt8) (a:Nat):RR :=
 match intAt (ds.getD (kd r 0) noRule) b a with
 | none=>.bad a 1
 | some n=>if tagN r.tags n<r.tags.length then (if (itemsF rd r n 1 0 (a+(ds.getD (kd r 0) noRule).size.toNat) []).code=0
  then ⟨.mk n (itemsF rd r n 1 0 (a+(ds.getD (kd r 0) noRule).size.toNat) []).v.bytes (itemsF rd r n 1 0 (a+(ds.getD (kd r 0) noRule).size.toNat) []).v.items,(itemsF rd r n 1 0 (a+(ds.getD (kd r 0) noRule).size.toNat) []).next,0⟩
  else itemsF rd r n 1 0 (a+(ds.getD (kd r 0) noRule).size.toNat) []) else .bad a 3
def optionF (rd:Nat→Nat→RR) (r:DRule) (b:List UInt8) (a:Nat):RR :=
 match b[a]? with
 | none=>.bad a 1
 | some x=>if 1<x.toNat then .bad a 4 else itemsF rd r 0 x.toNat 0 (a+1) []
def checkedF (rd:Nat→Nat→RR) (r:DRule) (b:List UInt8) (a:Nat):RR :=
 if (itemsF rd r 0 1 0 a []).code=0 then (match b[(itemsF rd r 0 1 0 a []).next]? with
  | none=>.bad (itemsF rd r 0 1 0 a []).next 1
  | some x=>if x.toNat=sumB ((b.drop a).take ((itemsF rd r 0 1 0 a []).next-a))%256 then ⟨(itemsF rd r 0 1 0 a []).v,(itemsF rd r 0 1 0 a []).next+1,0⟩ else .bad (itemsF rd r 0 1 0 a []).next 5)
 else itemsF rd r 0 1 0 a []
def readR (ds:List DRule) (rd:Nat→Nat→RR) (r:DRule) (b:List UInt8) (a:Nat):RR :=
 if r.kind=1 then (match intAt r b a with | none=>.bad a 1 | some n=>⟨.mk n [] [],a+r.size.toNat,0⟩)
 else if r.kind=2 then constF b a r.bytes 0
 else if r.kind=3 then bytesF b a r.size.toNat
 else if r.kind=10 then (match untilL (r.bytes.getD 0 0) (b.drop a) with | none=>.bad a 1 | some q=>⟨.mk 0 q.1 [],a+q.2,0⟩)
 else if r.kind=6 then itemsF rd r 0 r.kids.length 0 a []
 else if r.kind=7 then choiceF ds rd r b a
 else if r.kind=8 then optionF rd r b a
 else if r.kind=9 then checkedF rd r b a
 else match intAt (ds.getD (kd r 0) noRule) b a with
  | none=>.bad a 1
  | some n=>if r.kind=4 then bytesF b (a+(ds.getD (kd r 0) noRule).size.toNat) n else if 40<n then .bad a 6 else itemsF rd r 0 n 0 (a+(ds.getD (kd r 0) noRule).size.toNat) []
def rdF (ds:List DRule) (b:List UInt8):Nat→Nat→Nat→RR
 | 0,_,a=>.bad a 0
 | f+1,i,a=>readR ds (rdF ds b f) (ds.getD i noRule) b a
def readV (ds:List DRule) (b:List UInt8) (i a:Nat):RR:=rdF ds b (i+1) i a
def readFile (ds:List DRule) (b:List UInt8):RR :=
 if descOk ds=true∧b.length≤400 then (if (readV ds b (ds.length-1) 0).code=0∧(readV ds b (ds.length-1) 0).next<b.length then .bad (readV ds b (ds.length-1) 0).next 7 else readV ds b (ds.length-1) 0) else .bad 0 8
def SameI (x y:DRule):Prop:=x.size=y.size∧x.little=y.little
theorem lim_rule {ds:List DRule} {k:Int} (h:limD ds k ≠ -1):∃ h0:k.toNat<ds.length,0≤k∧ds[k.toNat].kind=1∧1≤ds[k.toNat].size∧ds[k.toNat].size≤4∧limD ds k=256^ds[k.toNat].size.toNat-1:=by
 unfold limD at h ⊢
 split at h
 ·rename_i h0
  rw [if_pos h0]
  split at h
  ·rename_i r hr
   obtain ⟨hlt,e⟩:=List.getElem?_eq_some_iff.1 hr;subst e;refine ⟨hlt,h0,?_⟩;unfold limR at h ⊢
   split at h
   ·rename_i hq
    rw [if_pos hq];exact ⟨hq.1,hq.2.1,hq.2.2,rfl⟩
   ·exact absurd rfl h
  ·exact absurd rfl h
 ·exact absurd rfl h
theorem tagN_get {l:List Int} {t:Int} (h:tagN l t<l.length):l.getD (tagN l t) 0=t:=by
 have h1:(l[tagN l t]==t)=true:=List.findIdx_getElem (p:=(·==t)) (w:=h)
 rw [List.getD_eq_getElem?_getD,List.getElem?_eq_getElem h]
 simpa using h1
theorem kid0 {ds:List DRule} (h:descOk ds=true) (i:Nat) (hi:i<ds.length) (hk:ds[i].kind=4∨ds[i].kind=5∨ds[i].kind=7) :
 ∃ h0:kd ds[i] 0<ds.length,kd ds[i] 0<i∧0<ds[i].kids.length∧ds[kd ds[i] 0].kind=1∧1≤ds[kd ds[i] 0].size∧ds[kd ds[i] 0].size≤4∧limD ds (ds[i].kids.getD 0 0)=256^ds[kd ds[i] 0].size.toNat-1:=by
 obtain ⟨k4,k5,k6,k7,_,_,_⟩:=kids_len h i hi;have hkk:=ruleKind h i hi
 have hl:0<ds[i].kids.length∧limD ds (ds[i].kids.getD 0 0) ≠ -1:=by
  rcases hk with e | e | e
  ·have:=k4 e;exact ⟨by omega,by omega⟩
  ·have:=k5 e;exact ⟨by omega,by omega⟩
  ·have:=k7 e
   refine ⟨by omega,?_⟩;unfold kindOk at hkk;rw [if_neg (by omega),if_neg (by omega),if_neg (by omega),if_neg (by omega),if_neg (by omega),if_neg (by omega),if_pos e] at hkk;exact choOk_lim hkk
 obtain ⟨h0,h1,h2,h3,h4,h5⟩:=lim_rule hl.2;have hlt:=kd_lt h i hi 0 hl.1;have e:kd ds[i] 0=(ds[i].kids.getD 0 0).toNat:=rfl
 simp only [e];exact ⟨h0,by omega,hl.1,h2,h3,h4,h5⟩
theorem term_byte {ds:List DRule} (h:descOk ds=true) (i:Nat) (hi:i<ds.length) (hk:ds[i].kind=10):ds[i].bytes.getD 0 0≠92∧ds[i].bytes.length=1:=by
 have hkk:=ruleKind h i hi;unfold kindOk at hkk;rw [if_neg (by omega),if_neg (by omega),if_neg (by omega),if_neg (by omega),if_neg (by omega),if_neg (by omega),if_neg (by omega),if_neg (by omega),if_neg (by omega),if_pos hk] at hkk;simp only [Bool.and_eq_true,beq_iff_eq,Bool.not_eq_true',beq_eq_false_iff_ne] at hkk;exact ⟨hkk.2,hkk.1.2⟩
end Go.Proofs.YtpmcofmdjckijaaGreat
namespace Go.Proofs.YtpmcofmdjckijaaGreat
open Go.RowKit Go.Sort
theorem sItem_c (p:DRule) (Ab:Option Addr) (cb:Nat) (An:Option Addr) (cn:Nat) (At:Option Addr) (ct:Nat) (Ak:Option Addr) (ck:Nat) (t:Int) (w:World) (h:RdS w p Ab cb An cn At ct Ak ck) (hk7:p.kind=7) (hl:p.kids.length=p.tags.length+1) (hkn:∀ j (hj:j<p.kids.length),p.kids[j]=(kd p j:Int)) :
 Gives Tryz.prog 78 #[vrule p (.slice Ab p.bytes.length cb) (.slice An p.names.length cn) (.slice At p.tags.length ct) (.slice Ak p.kids.length ck),.int .i64 t,.int .i64 0] w (.int .i64 (if tagN p.tags t<p.tags.length then (kd p (tagN p.tags t+1):Int) else -1)):=by
 have hlt:=h.t.len;have hlk:=h.k.len;have eb:=Ext_alloc (.cells #[.string p.nm,.int .i64 p.kind,.int .i64 p.size,.bool p.little,.slice Ab p.bytes.length cb,.slice An p.names.length cn,.slice At p.tags.length ct,.slice Ak p.kids.length ck] 96) (Ext.refl w);have BX:=fun w' (e:Ext (w.alloc (.cells #[.string p.nm,.int .i64 p.kind,.int .i64 p.size,.bool p.little,.slice Ab p.bytes.length cb,.slice An p.names.length cn,.slice At p.tags.length ct,.slice Ak p.kids.length ck] 96)) w')=>boxed e
 have FY:Hid (∀ k (hk:k<p.tags.length),(∀ j (hj:j<p.tags.length),j<k→p.tags[j]≠t)→p.tags[k]=t→(if tagN p.tags t<p.tags.length then (kd p (tagN p.tags t+1):Int) else -1)=(kd p (k+1):Int)):=by
  intro k hk hn he;rw [tagN_at hk he hn,if_pos hk]
 have FN:Hid ((∀ j (hj:j<p.tags.length),p.tags[j]≠t)→(if tagN p.tags t<p.tags.length then (kd p (tagN p.tags t+1):Int) else -1) = -1):=by
  intro hn;rw [tagN_none hn,if_neg (Nat.lt_irrefl _)]
 generalize (if tagN p.tags t<p.tags.length then (kd p (tagN p.tags t+1):Int) else -1)=R at *;have k5:(p.kind==5)=false:=by rw [hk7];rfl
 have k6:(p.kind==6)=false:=by rw [hk7];rfl
 have k7:(p.kind==7)=true:=by rw [hk7];rfl
 have HKN:=lhd hkn;have HL1:=lhd hl;unfold vrule;clear hk7 hkn hl;go_enter Tryz.func78,Tryz.ntmps78;go_wp2;go_loopw [7] (fun ix wr=>∃ k:Nat,k≤p.tags.length∧ix=.int .i64 k∧Hid (∀ j (hj:j<p.tags.length),j<k→p.tags[j]≠t)∧Ext (w.alloc (.cells #[.string p.nm,.int .i64 p.kind,.int .i64 p.size,.bool p.little,.slice Ab p.bytes.length cb,.slice An p.names.length cn,.slice At p.tags.length ct,.slice Ak p.kids.length ck] 96)) wr) (fun ix _=>p.tags.length-(intOf ix).toNat)
 case atStart=>exact ⟨0,by omega,rfl,(fun j _ hj=>by omega),Ext.refl _⟩
 case round =>
  obtain ⟨k,hk,rfl,hn,he⟩:=hrel
  by_cases hlt:k<p.tags.length
  ·obtain ⟨bt,ot,rfl,hbt,hct⟩:=(h.t.ext eb).at k hlt
   obtain ⟨bk,ok,rfl,hbk,hck⟩:=(h.k.ext eb).at (k+1) (by have:=HL1.out;omega);rw [HKN.out (k+1) (by have:=HL1.out;omega)] at hck;have Y:=lhd (FY.out k hlt hn.out)
   have N:Hid (¬ p.tags[k]=t→∀ j (hj:j<p.tags.length),j<k+1→p.tags[j]≠t):=fun hne j hj hjk=>by
    rcases (by omega:j<k∨j=k) with hjk | rfl
    ·exact hn.out j hj hjk
    ·exact hne
   have d1:decide ((k:Int)<(p.tags.length:Int))=true:=decide_eq_true (by omega)
   generalize p.tags[k]=x at *;generalize kd p (k+1)=y at *;have hkl:k+1<p.kids.length:=by have:=HL1.out;omega
   clear FY FN hn h HKN
   by_cases hx:x=t
   ·have HE:=lhd (Y.out hx);clear Y N
    have kx:(x==t)=true:=by simpa using hx
    clear hx;go_wp2;go_ret;exact ⟨ret_i64 HE.out.symm,eb.trans he⟩
   ·have HE:=lhd (N.out hx);clear Y N
    have kx:(x==t)=false:=by simpa using hx
    clear hx;go_wp2;go_roundw
    case rel=>exact ⟨k+1,by omega,by go_num,HE,he⟩
    case measure=>simp [intOf];omega
  ·have HE:=lhd (FN.out (fun j hj=>hn.out j hj (by omega)))
   have d1:decide ((k:Int)<(p.tags.length:Int))=false:=decide_eq_false (by omega)
   clear FY FN;go_wp2;go_ret;exact ⟨ret_i64 HE.out.symm,eb.trans he⟩
def fitV (ds:List DRule) (r:DRule) (n:Int) (b m:Nat):Bool :=
 if r.kind=7 then (decide (0≤n)&&decide (n≤limD ds (r.kids.getD 0 0)))&&(decide ((b:Int)≤0)&&decide ((m:Int)=1)) else ownV ds r n b m
theorem kidV5 {r:DRule} (h:r.kind=5) (n:Int) (j:Nat):kidV r n j=kd r 1:=by unfold kidV;rw [if_pos h]
theorem kidV6 {r:DRule} (h:r.kind=6) (n:Int) (j:Nat):kidV r n j=kd r j:=by unfold kidV;rw [if_neg (by omega),if_pos h]
theorem kidV7 {r:DRule} (h:r.kind=7) (n:Int) (j:Nat):kidV r n j=kd r (tagN r.tags n+1):=by unfold kidV;rw [if_neg (by omega),if_neg (by omega),if_pos h]
theorem kidV8 {r:DRule} (h:r.kind=8∨r.kind=9) (n:Int) (j:Nat):kidV r n j=kd r 0:=by unfold kidV;rw [if_neg (by omega),if_neg (by omega),if_neg (by omega)]
def ItemAt (r:DRule) (n:Int) (j:Nat):Prop :=
 (r.kind=5∧1<r.kids.length)∨(r.kind=6∧j<r.kids.length∧j<r.names.length)∨(r.kind=7∧j=0∧tagN r.tags n<r.tags.length∧tagN r.tags n+1<r.kids.length)∨((r.kind=8∨r.kind=9)∧j=0∧0<r.kids.length)
theorem sItemV_c (r:DRule) (Ab:Option Addr) (cb:Nat) (An:Option Addr) (cn:Nat) (At:Option Addr) (ct:Nat) (Ak:Option Addr) (ck:Nat) (n:Int) (j:Nat) (w:World) (h:RdS w r Ab cb An cn At ct Ak ck) (hj:j≤9223372036854775807) (hat:ItemAt r n j) (h7:r.kind=7→r.kids.length=r.tags.length+1) (hkn:∀ j (hj:j<r.kids.length),r.kids[j]=(kd r j:Int)) :
 Gives Tryz.prog 78 #[vrule r (.slice Ab r.bytes.length cb) (.slice An r.names.length cn) (.slice At r.tags.length ct) (.slice Ak r.kids.length ck),.int .i64 n,.int .i64 (j:Int)] w (.int .i64 (kidV r n j:Nat)):=by
 have hlk:=h.k.len
 have go:∀ t (ht:t<r.kids.length),∃ bk ok,Ak=some ⟨bk,ok,none⟩∧∀ (w':World),Ext w w'→w'.cell? ⟨bk,ok+t,none⟩=some (.int .i64 (kd r t:Int)):=fun t ht=>by
  obtain ⟨bk,ok,hA,_,hc⟩:=h.k.at t ht;rw [hkn t ht] at hc;exact ⟨bk,ok,hA,hc⟩
 rcases hat with ⟨hk,hl⟩ | ⟨hk,hl,_⟩ | ⟨hk,rfl,hl,_⟩ | ⟨hk,rfl,hl⟩
 ·rw [kidV5 hk]
  obtain ⟨bk,ok,rfl,hc⟩:=go 1 hl;have q5:(r.kind==5)=true:=by rw [hk];rfl
  have eb:=Ext_alloc (.cells (rcs r Ab cb An cn At ct (some ⟨bk,ok,none⟩) ck) 96) (Ext.refl w);have hl2:(1:Int)<(r.kids.length:Int):=by omega
  generalize kd r 1=y at *;clear go hkn h7 h hk;unfold vrule;go_enter Tryz.func78,Tryz.ntmps78;go_wp2;go_ret;exact ⟨rfl,eb⟩
 ·rw [kidV6 hk]
  obtain ⟨bk,ok,rfl,hc⟩:=go j hl;have q5:(r.kind==5)=false:=by rw [hk];rfl
  have q6:(r.kind==6)=true:=by rw [hk];rfl
  have eb:=Ext_alloc (.cells (rcs r Ab cb An cn At ct (some ⟨bk,ok,none⟩) ck) 96) (Ext.refl w);have d1:decide ((j:Int)<(r.kids.length:Int))=true:=decide_eq_true (by omega)
  have hl2:(j:Int)<(r.kids.length:Int):=by omega
  generalize kd r j=y at *;clear go hkn h7 h hk;unfold vrule;go_enter Tryz.func78,Tryz.ntmps78;go_wp2;go_ret;exact ⟨rfl,eb⟩
 ·have C:=sItem_c r Ab cb An cn At ct Ak ck n w h hk (h7 hk) hkn
  rw [if_pos hl] at C;rw [kidV7 hk];exact C
 ·rw [kidV8 hk]
  obtain ⟨bk,ok,rfl,hc⟩:=go 0 hl;have q5:(r.kind==5)=false:=by rcases hk with hk | hk<;>rw [hk]<;>rfl
  have q6:(r.kind==6)=false:=by rcases hk with hk | hk<;>rw [hk]<;>rfl
  have q7:(r.kind==7)=false:=by rcases hk with hk | hk<;>rw [hk]<;>rfl
  have eb:=Ext_alloc (.cells (rcs r Ab cb An cn At ct (some ⟨bk,ok,none⟩) ck) 96) (Ext.refl w);have hl2:(0:Int)<(r.kids.length:Int):=by omega
  simp only [Nat.add_zero] at hc;generalize kd r 0=y at *;clear go hkn h7 h;unfold vrule;rcases hk with hk | hk
  ·have q8:(r.kind==8)=true:=by rw [hk];rfl
   clear hk;go_enter Tryz.func78,Tryz.ntmps78;go_wp2;go_ret;exact ⟨rfl,eb⟩
  ·have q8:(r.kind==8)=false:=by rw [hk];rfl
   have q9:(r.kind==9)=true:=by rw [hk];rfl
   clear hk;go_enter Tryz.func78,Tryz.ntmps78;go_wp2;go_ret;exact ⟨rfl,eb⟩
def kidI (r:DRule) (n:Int) (j:Nat):Int:=if r.kind=7 then (if tagN r.tags n<r.tags.length then (kd r (tagN r.tags n+1):Int) else -1) else (kidV r n j:Int)
def ItemAtI (r:DRule) (j:Nat):Prop :=
 (r.kind=5∧1<r.kids.length)∨(r.kind=6∧j<r.kids.length)∨(r.kind=7∧r.kids.length=r.tags.length+1)∨((r.kind=8∨r.kind=9)∧0<r.kids.length)
def validB (ds:List DRule) (i:Int) (v:DVal):Bool:=knownB ds i&&validV ds i.toNat v
theorem l7Rule_c (A:Option Addr) (ds:List DRule) (c:Nat) (i:Int) (w:World) (hd:RdD w A ds c) (hs:ShortD ds) (hw:WfD ds) :
 Gives Tryz.prog 70 #[vdesc (.slice A ds.length c),.int .i64 i] w (.bool (knownB ds i)):=sKnown_c A ds c i w hd hs hw
end Go.Proofs.YtpmcofmdjckijaaGreat
namespace Go.Proofs.YtpmcofmdjckijaaGreat
def insAt (cs:List Ins) (k:Int):Ins:=cs.getD k.toNat (0,0,0)
def inB (x lo hi:Int):Bool:=decide (lo≤x)&&decide (x≤hi)
def isOp (cs:List Ins) (k op:Int):Bool:=inB k 0 ((cs.length:Int)-1)&&((insAt cs k).1==op)
def loopOk (cs:List Ins) (k:Int):Bool:=isOp cs (k-1) 6&&isOp cs k 7&&isOp cs (k+1) 9&&isOp cs (k+2) 8&&((insAt cs (k+2)).2.1==k)&&((insAt cs k).2.1==k+3)
def operOk (x:Ins):Bool :=
 if x.1=1 then inB x.2.1 1 4&&inB x.2.2 0 1
 else if x.1=2 then inB x.2.1 0 255
 else if x.1=16 then inB x.2.1 0 255
 else if x.1=3 then inB x.2.1 0 400
 else if x.1=5 then inB x.2.1 0 400
 else if x.1=11 then decide (0≤x.2.1)
 else if x.1=12 then inB x.2.1 1 8
 else inB x.1 1 17
def jumpOp (o:Int):Bool:=[7,8,9,13].any (·==o)
def stopOp (o:Int):Bool:=[8,10,12,17].any (·==o)
def insOk (cs:List Ins) (k:Int):Bool :=
 inB k 0 ((cs.length:Int)-1) &&
 !(jumpOp (insAt cs k).1&&!inB (insAt cs k).2.1 0 ((cs.length:Int)-1)) &&
 !((insAt cs k).1==11&&!inB (insAt cs k).2.2 0 ((cs.length:Int)-1)) &&
 !(!(stopOp (insAt cs k).1)&&(k==(cs.length:Int)-1)) &&
 operOk (insAt cs k)
def blockN (es:List Int) (x:Int):Nat→Int
 | 0 => -1
 | k+1=>if es.getD k 0≤x then (k:Int) else blockN es x k
def blockOf (es:List Int) (x:Int):Int:=blockN es x es.length
def callOk (es:List Int) (a start:Int):List Int→Bool
 | []=>false
 | e::t=>if e<start then (if e=a then true else callOk es a start t) else false
def innerOk (cs:List Ins) (es:List Int) (k start fin:Int):Bool :=
 let x:=insAt cs k
 if x.1=17 then false
 else if x.1=9 then callOk es x.2.1 start es
 else if x.1=6 then loopOk cs (k+1)&&decide (k+4<fin)
 else if x.1=7 then loopOk cs k&&decide (start≤k-1)&&decide (k+3<fin)
 else if x.1=8 then loopOk cs (k-2)&&decide (start≤k-3)
 else if x.1=13 then inB x.2.1 (k+1) (fin-1)
 else if x.1=11 then inB x.2.2 (k+1) (fin-1)
 else if x.1=14 then isOp cs (k+1) 9&&isOp cs (k+2) 15&&decide (k+2<fin)
 else if x.1=15 then isOp cs (k-1) 9&&isOp cs (k-2) 14&&decide (start≤k-2)
 else true
def endOf (cs:List Ins) (es:List Int) (b:Nat):Int:=if b+1<es.length then es.getD (b+1) 0 else (cs.length:Int)
def rowOk (cs:List Ins) (es:List Int) (start fin:Int):Nat→Int→Bool
 | 0,_=>true
 | f+1,k=>innerOk cs es k start fin&&rowOk cs es start fin f (k+1)
def blockOk (cs:List Ins) (es:List Int) (b:Nat):Bool :=
 !(decide (endOf cs es b≤es.getD b 0)||!isOp cs (endOf cs es b-1) 10)&&rowOk cs es (es.getD b 0) (endOf cs es b) (endOf cs es b-es.getD b 0).toNat (es.getD b 0)
def allFrom (p:Nat→Bool):Nat→Nat→Bool
 | 0,_=>true
 | f+1,k=>p k&&allFrom p f (k+1)
def blocksOk (cs:List Ins) (es:List Int):Bool:=allFrom (blockOk cs es) es.length 0
def headOk (cs:List Ins) (es:List Int):Bool :=
 !(decide (700<(cs.length:Int))||((es.length:Int)==0)||!(es.getD 0 0==2)||!isOp cs 0 9||!isOp cs 1 17||!((insAt cs 0).2.1==es.getD (es.length-1) 0))
def ascOk (cs:List Ins) (es:List Int) (i:Nat):Bool:=!(decide (es.getD (i+1) 0≤es.getD i 0)||decide ((cs.length:Int)≤es.getD (i+1) 0))
def safeOk (cs:List Ins) (es:List Int):Bool :=
 headOk cs es&&allFrom (fun i=>insOk cs (i:Int)) cs.length 0&&allFrom (ascOk cs es) (es.length-1) 0&&blocksOk cs es
theorem allFrom_at {p:Nat→Bool}:∀ {f k:Nat},allFrom p f k=true→∀ i,k≤i→i<k+f→p i=true
 | 0,k,_,i,h1,h2=>by omega
 | f+1,k,h,i,h1,h2=>by
  rw [allFrom,Bool.and_eq_true] at h;rcases Nat.eq_or_lt_of_le h1 with h3 | h3
  ·rw [← h3];exact h.1
  ·exact allFrom_at h.2 i h3 (by omega)
end Go.Proofs.YtpmcofmdjckijaaGreat
