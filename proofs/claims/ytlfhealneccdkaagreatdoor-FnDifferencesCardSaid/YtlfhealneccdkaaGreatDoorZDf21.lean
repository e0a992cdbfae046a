/- Texts, laid into one. -/
import Derived.Test.YtlfhealneccdkaaGreatDoorZDf16
import Derived.Test.YtlfhealneccdkaaGreatDoorZDf20
set_option linter.unusedVariables false
set_option linter.unusedSimpArgs false
set_option maxRecDepth 100000
set_option maxHeartbeats 16000000
namespace Go.Proofs.YtlfhealneccdkaaGreatDoor
open Go.RowKit Go.Sort
def nmR (r:DRule) (t:ByteArray):DRule:={ r with nm:=t }
def nmV (p:RV) (t:ByteArray):RV:={ p with r:=nmR p.r t }
def setNm (ds:List DRule) (k:Nat) (t:ByteArray):List DRule:=ds.set k (nmR (ds.getD k ⟨⟨#[]⟩,0,0,false,[],[],[],[]⟩) t)
def setNmV (ps:List RV) (k:Nat) (t:ByteArray):List RV:=ps.set k (nmV (ps.getD k ⟨⟨⟨#[]⟩,0,0,false,[],[],[],[]⟩,undef,undef,undef,undef⟩) t)
def renOk (ds:List DRule) (f t:ByteArray):Bool:=decide (0≤findR ds f)&&descOk (setNm ds (findR ds f).toNat t)
def renD (ds:List DRule) (f t:ByteArray):List DRule:=if renOk ds f t then setNm ds (findR ds f).toNat t else ds
theorem cells_set:∀ (ps:List RV) (k:Nat) (h:k<ps.length) (t:ByteArray),(ps.flatMap RV.cells).set (k*8) (.string t)=(ps.set k (nmV ps[k] t)).flatMap RV.cells:=by
 intro ps
 induction ps with
 | nil=>intro k h;simp at h
 | cons p s ih =>
  intro k h t;cases k with
  | zero=>simp [RV.cells,nmV,nmR,List.flatMap_cons]
  | succ k =>
   have h':k<s.length:=by simpa using h
   rw [List.flatMap_cons,List.set_append_right _ _ (by simp [RV.cells];omega)];rw [show (k+1)*8-p.cells.length=k*8 by simp [RV.cells];omega,ih k h' t];simp [List.flatMap_cons]
theorem vals_set (ps:List RV) (k:Nat) (h:k<ps.length) (t:ByteArray):(ps.set k (nmV ps[k] t)).flatMap RV.vals=ps.flatMap RV.vals:=by
 induction ps generalizing k with
 | nil=>simp at h
 | cons p s ih =>
  cases k with
  | zero=>simp [RV.vals,nmV,List.flatMap_cons]
  | succ k=>simp only [List.set_cons_succ,List.flatMap_cons,List.getElem_cons_succ];rw [ih k (by simpa using h)]
theorem setNmV_eq {ps:List RV} {k:Nat} (h:k<ps.length) (t:ByteArray):setNmV ps k t=ps.set k (nmV ps[k] t):=by unfold setNmV;simp [h]
theorem far_parts' {v:Value} {ps:List RV} (h:Far (v::ps.flatMap RV.vals)):(∀ q∈ps,∀ u∈q.vals,∀ g,v.ownBlock=some g→u.ownBlock≠some g)∧True∧True:=by
 unfold Far at h;rw [List.pairwise_cons] at h;exact ⟨fun q hq u hu g hg=>h.1 u (List.mem_flatMap.2 ⟨q,hq,hu⟩) g hg,trivial,trivial⟩
theorem OwnD.setNm {w0 w:World} {g c:Nat} {ps:List RV} (h:OwnD w0 w (.slice (some ⟨g,0,none⟩) ps.length c) ps) {k:Nat} (hk:k<ps.length) (t:ByteArray) :
 OwnD w0 (w.setCell ⟨g,k*8,none⟩ (.string t)) (.slice (some ⟨g,0,none⟩) ps.length c) (setNmV ps k t):=by
 rw [setNmV_eq hk];obtain ⟨f1,_,_⟩:=far_parts' h.far;refine ⟨?_,fun p hp=>?_,?_⟩
 ·have:=(h.row.stored (k*8) (.string t)).1
  rw [cells_set ps k hk t] at this;rw [List.length_set];exact this
 ·have hkeep:∀ q∈ps,RuleOwn w0 (w.setCell ⟨g,k*8,none⟩ (.string t)) q:=fun q hq=>(h.each q hq).keep (grown_set w ⟨g,k*8,none⟩ _) (fun u hu b hb hh=>by
   injection hh with hh
   exact f1 q hq u hu g rfl (by rw [hb];exact congrArg some hh.symm))
  rcases List.mem_or_eq_of_mem_set hp with h1 | rfl
  ·exact hkeep p h1
  ·have:=hkeep ps[k] (List.getElem_mem hk)
   exact ⟨this.b,this.n,this.t,this.k⟩
 ·rw [vals_set ps k hk t];exact h.far
theorem toList_inj {a b:ByteArray} (h:a.toList=b.toList):a=b:=by
 rw [ByteArray.toList_eq,ByteArray.toList_eq] at h;exact ByteArray.ext (Array.toList_inj.1 h)
def AlikeR (x y:DRule):Prop:=x.kind=y.kind∧x.size=y.size∧x.little=y.little∧x.bytes=y.bytes∧x.names=y.names∧x.tags=y.tags∧x.kids=y.kids
theorem tags_nodup {ds:List DRule} (h:descOk ds=true) (i:Nat) (hi:i<ds.length) (h7:ds[i].kind=7):∀ k (hk:k<ds[i].tags.length),∀ j (hj:j<k),ds[i].tags[j]<ds[i].tags[k]:=by
 have hk7:=ruleKind h i hi;unfold kindOk at hk7;rw [if_neg (by omega),if_neg (by omega),if_neg (by omega),if_neg (by omega),if_neg (by omega),if_neg (by omega),if_pos h7] at hk7;unfold choOk at hk7;simp only [Bool.and_eq_true] at hk7;have hall:=hk7.2
 have step:∀ k (hk:k+1<ds[i].tags.length),ds[i].tags[k]<ds[i].tags[k+1]:=by
  intro k hk;have h1:=allN_at hall hk;unfold tagOk at h1;rw [List.getElem?_eq_getElem hk] at h1;simp only [Bool.and_eq_true,Bool.or_eq_true,beq_iff_eq,decide_eq_true_eq] at h1;rcases h1.2 with h2 | h2
  ·omega
  ·rw [List.getD_eq_getElem?_getD,Nat.add_sub_cancel,List.getElem?_eq_getElem (by omega)] at h2
   exact h2
 intro k
 induction k with
 | zero=>intro hk j hj;omega
 | succ k ih =>
  intro hk j hj;rcases (by omega:j=k∨j<k) with rfl | h1
  ·exact step j hk
  ·exact Int.lt_trans (ih (by omega) j h1) (step k hk)
theorem tagN_self {ds:List DRule} (h:descOk ds=true) (i:Nat) (hi:i<ds.length) (h7:ds[i].kind=7) (t:Nat) (ht:t<ds[i].tags.length):tagN ds[i].tags (ds[i].tags.getD t 0)=t:=by
 refine tagN_at ht ?_ (fun j hj hjt=>?_)
 ·rw [List.getD_eq_getElem?_getD,List.getElem?_eq_getElem ht];rfl
 ·rw [List.getD_eq_getElem?_getD,List.getElem?_eq_getElem ht]
  have:=tags_nodup h i hi h7 t ht j hjt;simp only [Option.getD_some]
  omega
theorem AlikeR.symm {x y:DRule} (h:AlikeR x y):AlikeR y x:=by
 obtain ⟨e1,e2,e3,e4,e5,e6,e7⟩:=h;exact ⟨e1.symm,e2.symm,e3.symm,e4.symm,e5.symm,e6.symm,e7.symm⟩
theorem AlikeR.refl (x:DRule):AlikeR x x:=⟨rfl,rfl,rfl,rfl,rfl,rfl,rfl⟩
end Go.Proofs.YtlfhealneccdkaaGreatDoor
namespace Go.Proofs.YtlfhealneccdkaaGreatDoor
def ofN:Nat→Nat→List UInt8
 | 0,_=>[]
 | s+1,n=>ofN s (n / 256)++[UInt8.ofNat n]
def rdN (l:List UInt8):Nat:=l.foldl (fun a x=>a*256+x.toNat) 0
def encI (r:DRule) (n:Nat):List UInt8:=if r.little then (ofN r.size.toNat n).reverse else ofN r.size.toNat n
def decI (r:DRule) (l:List UInt8):Nat:=rdN (if r.little then l.reverse else l)
def escB (t:UInt8) (l:List UInt8):List UInt8:=l.flatMap fun x=>if x=t∨x=92 then [92,x] else [x]
def wrapV (ds:List DRule) (r:DRule) (n:Int) (b:List UInt8) (m:Nat) (inner:List UInt8):List UInt8 :=
 if r.kind=1 then encI r n.toNat
 else if r.kind=2 then r.bytes
 else if r.kind=3 then b
 else if r.kind=4 then encI (ds.getD (kd r 0) noRule) b.length++b
 else if r.kind=5 then encI (ds.getD (kd r 0) noRule) m++inner
 else if r.kind=6 then inner
 else if r.kind=7 then encI (ds.getD (kd r 0) noRule) n.toNat++inner
 else if r.kind=8 then UInt8.ofNat m::inner
 else if r.kind=9 then inner++[UInt8.ofNat (sumB inner)]
 else escB (r.bytes.getD 0 0) b++[r.bytes.getD 0 0]
mutual
def printV (ds:List DRule):Nat→DVal→List UInt8
 | i,.mk n b its=>wrapV ds (ds.getD i noRule) n b its.length (printVs ds (ds.getD i noRule) n 0 its)
def printVs (ds:List DRule) (r:DRule) (n:Int):Nat→List DVal→List UInt8
 | _,[]=>[]
 | k,x::t=>printV ds (kidV r n k) x++printVs ds r n (k+1) t
end
structure RR where
 v:DVal
 next:Nat
 code:Nat
def v0:DVal:=.mk 0 [] []
def RR.bad (next code:Nat):RR:=⟨v0,next,code⟩
def itemsF (rd:Nat→Nat→RR) (r:DRule) (n:Int):Nat→Nat→Nat→List DVal→RR
 | 0,_,a,acc=>⟨.mk 0 [] acc,a,0⟩
 | m+1,k,a,acc=>if (rd (kidV r n k) a).code=0 then itemsF rd r n m (k+1) (rd (kidV r n k) a).next (acc++[(rd (kidV r n k) a).v]) else .bad (rd (kidV r n k) a).next (rd (kidV r n k) a).code
def untilL (t:UInt8):List UInt8→Option (List UInt8 × Nat)
 | []=>none
 | [x]=>if x=t then some ([],1) else none
 | x::y::l=>if x=t then some ([],1) else if x=92 then (untilL t l).map fun q=>(y::q.1,q.2+2) else (untilL t (y::l)).map fun q=>(x::q.1,q.2+1)
def constF (b:List UInt8) (a:Nat):List UInt8→Nat→RR
 | [],i=>⟨v0,a+i,0⟩
 | c::t,i=>match b[a+i]? with
  | none=>.bad a 1
  | some x=>if x=c then constF b a t (i+1) else .bad (a+i) 2
def bytesF (b:List UInt8) (a n:Nat):RR:=if b.length-a<n then .bad a 1 else ⟨.mk 0 ((b.drop a).take n) [],a+n,0⟩
def intAt (r:DRule) (b:List UInt8) (a:Nat):Option Nat:=if b.length-a<r.size.toNat then none else some (decI r ((b.drop a).take r.size.toNat))
def choiceF (ds:List DRule) (rd:Nat→Nat→RR) (r:DRule) (b:List UInt8) (a:Nat):RR :=
 match intAt (ds.getD (kd r 0) noRule) b a with
 | none=>.bad a 1
 | some n=>if tagN r.tags n<r.tags.length then (if (itemsF rd r n 1 0 (a+(ds.getD (kd r 0) noRule).size.toNat) []).code=0
  then ⟨.mk n (itemsF rd r n 1 0 (a+(ds.getD (kd r 0) noRule).size.toNat) []).v.bytes (itemsF rd r n 1 0 (a+(ds.getD (kd r 0) noRule).size.toNat) []).v.items,(itemsF rd r n 1 0 (a+(ds.getD (kd r 0) noRule).size.toNat) []).next,0⟩
  else itemsF rd r n 1 0 (a+(ds.getD (kd r 0) noRule).size.toNat) []) else .bad a 3
def optionF (rd:Nat→Nat→RR) (r:DRule) (b:List UInt8) (a:Nat):RR :=
 match b[a]? with
 | none=>.bad a 1
 | some x=>if 1<x.toNat then .bad a 4 else itemsF rd r 0 x.toNat 0 (a+1) []
def checkedF (rd:Nat→Nat→RR) (r:DRule) (b:List UInt8) (a:Nat):RR :=
 if (itemsF rd r 0 1 0 a []).code=0 then (match b[(itemsF rd r 0 1 0 a []).next]? with
  | none=>.bad (itemsF rd r 0 1 0 a []).next 1
  | some x=>if x.toNat=sumB ((b.drop a).take ((itemsF rd r 0 1 0 a []).next-a))%256 then ⟨(itemsF rd r 0 1 0 a []).v,(itemsF rd r 0 1 0 a []).next+1,0⟩ else .bad (itemsF rd r 0 1 0 a []).next 5)
 else itemsF rd r 0 1 0 a []
def readR (ds:List DRule) (rd:Nat→Nat→RR) (r:DRule) (b:List UInt8) (a:Nat):RR :=
 if r.kind=1 then (match intAt r b a with | none=>.bad a 1 | some n=>⟨.mk n [] [],a+r.size.toNat,0⟩)
 else if r.kind=2 then constF b a r.bytes 0
 else if r.kind=3 then bytesF b a r.size.toNat
 else if r.kind=10 then (match untilL (r.bytes.getD 0 0) (b.drop a) with | none=>.bad a 1 | some q=>⟨.mk 0 q.1 [],a+q.2,0⟩)
 else if r.kind=6 then itemsF rd r 0 r.kids.length 0 a []
 else if r.kind=7 then choiceF ds rd r b a
 else if r.kind=8 then optionF rd r b a
 else if r.kind=9 then checkedF rd r b a
 else match intAt (ds.getD (kd r 0) noRule) b a with
  | none=>.bad a 1
  | some n=>if r.kind=4 then bytesF b (a+(ds.getD (kd r 0) noRule).size.toNat) n else if 40<n then .bad a 6 else itemsF rd r 0 n 0 (a+(ds.getD (kd r 0) noRule).size.toNat) []
def rdF (ds:List DRule) (b:List UInt8):Nat→Nat→Nat→RR
 | 0,_,a=>.bad a 0
 | f+1,i,a=>readR ds (rdF ds b f) (ds.getD i noRule) b a
def readV (ds:List DRule) (b:List UInt8) (i a:Nat):RR:=rdF ds b (i+1) i a
def readFile (ds:List DRule) (b:List UInt8):RR :=
 if descOk ds=true∧b.length≤400 then (if (readV ds b (ds.length-1) 0).code=0∧(readV ds b (ds.length-1) 0).next<b.length then .bad (readV ds b (ds.length-1) 0).next 7 else readV ds b (ds.length-1) 0) else .bad 0 8
def SameI (x y:DRule):Prop:=x.size=y.size∧x.little=y.little
theorem tagN_get {l:List Int} {t:Int} (h:tagN l t<l.length):l.getD (tagN l t) 0=t:=by
 have h1:(l[tagN l t]==t)=true:=List.findIdx_getElem (p:=(·==t)) (w:=h)
 rw [List.getD_eq_getElem?_getD,List.getElem?_eq_getElem h]
 simpa using h1
theorem term_byte {ds:List DRule} (h:descOk ds=true) (i:Nat) (hi:i<ds.length) (hk:ds[i].kind=10):ds[i].bytes.getD 0 0≠92∧ds[i].bytes.length=1:=by
 have hkk:=ruleKind h i hi;unfold kindOk at hkk;rw [if_neg (by omega),if_neg (by omega),if_neg (by omega),if_neg (by omega),if_neg (by omega),if_neg (by omega),if_neg (by omega),if_neg (by omega),if_neg (by omega),if_pos hk] at hkk;simp only [Bool.and_eq_true,beq_iff_eq,Bool.not_eq_true',beq_eq_false_iff_ne] at hkk;exact ⟨hkk.2,hkk.1.2⟩
end Go.Proofs.YtlfhealneccdkaaGreatDoor
