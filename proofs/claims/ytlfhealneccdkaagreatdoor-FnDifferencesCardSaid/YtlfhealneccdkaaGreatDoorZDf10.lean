/- Texts, laid into one. -/
import Derived.Test.YtlfhealneccdkaaGreatDoorZDf5
import Derived.Test.YtlfhealneccdkaaGreatDoorZDf8
import Derived.Lib.ItoaNum
import Derived.Lib.AppendIntMem
import Derived.Lib.AppendStr
import Derived.Lib.ConvBytes
set_option linter.unusedVariables false
set_option linter.unusedSimpArgs false
set_option maxRecDepth 100000
set_option maxHeartbeats 16000000
namespace Go.Proofs.YtlfhealneccdkaaGreatDoor
open Go.RowKit Go.Sort
def at0 (l:List Int) (i:Nat):Int:=l.getD i 0
def merged (a b:List Int):List Int:=(List.range (max a.length b.length)).map fun i=>wrap64 (at0 a i+at0 b i)
def eqNm (a b:ByteArray):Bool:=a.toList==b.toList
def eqNms (l l':List ByteArray):Bool:=l.map ByteArray.toList==l'.map ByteArray.toList
def eqR (r q:DRule):Bool:=r.nm.toList==q.nm.toList&&r.kind==q.kind&&r.size==q.size&&r.little==q.little&&r.bytes==q.bytes&&eqNms r.names q.names&&r.tags==q.tags&&r.kids==q.kids
def eqAll {α:Type} (f:α→α→Bool):List α→List α→Bool
 | [],[]=>true
 | a::s,b::t=>f a b&&eqAll f s t
 | _,_=>false
def eqD (s t:List DRule):Bool:=eqAll eqR s t
def eqG (s t:List (List DRule)):Bool:=eqAll eqD s t
def ShortD (ds:List DRule):Prop:=∀ r∈ds,ShortR r
def ShortG (gs:List (List DRule)):Prop:=∀ d∈gs,ShortD d
theorem shortD_of {ds:List DRule} (h:szD ds≤1048576):ShortD ds:=fun _ hr=>(szRl_short (szD_mem h hr)).1
structure Wrote (lo hi:Nat) (w w':World):Prop where
 os:w'.os=w.os
 tape:w'.tape=w.tape
 output:w'.output=w.output
 size:w.heap.size≤w'.heap.size
 block:∀ k,k<w.heap.size→(k<lo∨hi≤k)→w'.heap[k]?=w.heap[k]?
theorem Wrote.refl (lo hi:Nat) (w:World):Wrote lo hi w w:=⟨rfl,rfl,rfl,Nat.le_refl _,fun _ _ _=>rfl⟩
theorem Wrote.trans {lo hi:Nat} {a b c:World} (h:Wrote lo hi a b) (k:Wrote lo hi b c):Wrote lo hi a c :=
 ⟨k.os.trans h.os,k.tape.trans h.tape,k.output.trans h.output,Nat.le_trans h.size k.size,fun i hi hb=>(k.block i (Nat.lt_of_lt_of_le hi h.size) hb).trans (h.block i hi hb)⟩
theorem Wrote.mono {lo hi lo' hi':Nat} {a b:World} (h:Wrote lo hi a b) (h1:lo'≤lo) (h2:hi≤hi'):Wrote lo' hi' a b :=
 ⟨h.os,h.tape,h.output,h.size,fun i hi hb=>h.block i hi (by omega)⟩
theorem Wrote.ext {lo hi:Nat} {w w':World} (e:Ext w w'):Wrote lo hi w w':=⟨e.os,e.tape,e.output,e.size,fun i hi _=>Below.block e i hi⟩
theorem Wrote.grown {lo hi:Nat} {w w':World} {row:Option Nat} (h:w.grownBy w' row) (hr:∀ g,row=some g→lo≤g∧g<hi):Wrote lo hi w w' :=
 ⟨h.os,h.tape,h.output,h.size,fun i hi hb=>h.block i hi (fun e=>by have:=hr i e.symm;omega)⟩
theorem Wrote.set {lo hi:Nat} (w:World) (a:Addr) (u:Value) (h1:lo≤a.block) (h2:a.block<hi):Wrote lo hi w (w.setCell a u) :=
 Wrote.grown (grown_set w a u) (fun g hg=>by injection hg with hg;subst hg;exact ⟨h1,h2⟩)
theorem Wrote.below {lo hi:Nat} {w0 w w':World} (h:Wrote lo hi w w') (e:Ext w0 w) (hlo:w0.heap.size≤lo):Ext w0 w' :=
 Below.trans e ⟨h.os,h.tape,h.output,h.size,fun k hk=>h.block k (Nat.lt_of_lt_of_le hk e.size) (.inl (Nat.lt_of_lt_of_le hk hlo))⟩
theorem Own.wrote {e:TypeId} {size:Nat} {w0 w w':World} {v:Value} {n:Nat} {xs:List Value} (h:Own e size w0 w v n xs) {lo hi:Nat} (hw:Wrote lo hi w w') (hv:∀ g,v.ownBlock=some g→g<lo∨hi≤g):Own e size w0 w' v n xs:=by
 refine ⟨h.1,?_⟩;rcases h.2 with h0 | ⟨g,cap,cur,rfl,hb,hg,r⟩
 ·exact .inl h0
 ·exact .inr ⟨g,cap,cur,rfl,hb,(hw.block g (Array.getElem?_eq_some_iff.1 hg).1 (hv g rfl)).trans hg,r⟩
theorem OwnL.wrote {α:Type} {f:α→Value} {e:TypeId} {w0 w w':World} {v:Value} {l:List α} (h:OwnL f e w0 w v l) {lo hi:Nat} (hw:Wrote lo hi w w') (hv:∀ g,v.ownBlock=some g→g<lo∨hi≤g):OwnL f e w0 w' v l:=Own.wrote h hw hv
theorem OwnL.behind {α:Type} {f:α→Value} {e:TypeId} {w0 w w':World} {v:Value} {l:List α} (h:OwnL f e w0 w v l) {lo hi:Nat} (hw:Wrote lo hi w w') (hb:hi≤w0.heap.size):OwnL f e w0 w' v l :=
 h.wrote hw (fun g hg=>.inr (Nat.le_trans hb (World.ownsRow.lt h g hg).1))
def dig8 (k:Nat):UInt8:=UInt8.ofNat (48+k%10)
def mtF:Nat→Nat→ByteArray→ByteArray
 | 0,_,s=>s
 | f+1,k,s=>if k=0 then s else mtF f (k / 10) (⟨#[dig8 k]⟩++s)
theorem mtF_fuel:∀ f g k s,k≤f→k≤g→mtF f k s=mtF g k s:=by
 intro f
 induction f with
 | zero =>
  intro g k s h _;obtain rfl:k=0:=by omega
  cases g with
  | zero=>rfl
  | succ g=>rw [mtF,mtF,if_pos rfl]
 | succ f ih =>
  intro g k s h1 h2;cases g with
  | zero =>
   obtain rfl:k=0:=by omega
   rw [mtF,mtF,if_pos rfl]
  | succ g =>
   rw [mtF,mtF]
   by_cases hk:k=0
   ·rw [if_pos hk,if_pos hk]
   ·rw [if_neg hk,if_neg hk,ih g (k / 10) _ (by omega) (by omega)]
def mt (k:Nat) (s:ByteArray):ByteArray:=mtF k k s
theorem mt_zero (s:ByteArray):mt 0 s=s:=rfl
theorem mt_step {k:Nat} (h:0<k) (s:ByteArray):mt k s=mt (k / 10) (⟨#[dig8 k]⟩++s):=by
 unfold mt;obtain ⟨f,rfl⟩:∃ f,k=f+1:=⟨k-1,by omega⟩;rw [mtF,if_neg (by omega)];exact mtF_fuel _ _ _ _ (by omega) (by omega)
def markT (k:Nat):ByteArray:=⟨#[109]⟩++mt k ⟨#[]⟩
theorem run_one_byte (w:World) (n:Nat) :
 (convert 22 9 (.slice (some ⟨w.heap.size,0,none⟩) 1 1)).run Tryz.prog (w.alloc (.cells #[.int .u8 (n:Int)] 5))=.ok (.string ⟨#[UInt8.ofNat n]⟩) (w.alloc (.cells #[.int .u8 (n:Int)] 5)):=by
 have h1:=run_convert_bytes_arg (P:=Tryz.prog) (w.alloc (.cells #[.int .u8 (n:Int)] 5)) 22 5 Tryz.underlying22 Tryz.underlying5 w.heap.size 0 1 1 [(n:Int)] rfl (fun i hi=>by
  obtain rfl:i=0:=by omega
  simp) 9 Tryz.underlying9
 rw [h1]
 rfl
def itoaB (n:Int):ByteArray:=⟨(Lib.itoa n).toArray⟩
theorem nDigits_le {u:Nat} {k:Nat} (hk:1≤k) (h:u<10^k):Lib.nDigits u≤k:=by
 rcases Nat.lt_or_ge u 10 with hu | hu
 ·rw [Lib.nDigits_small hu];exact hk
 ·obtain ⟨j,hj⟩:∃ j,Lib.nDigits u=j+1:=⟨Lib.nDigits u-1,by have:=Lib.nDigits_pos u;omega⟩
  rw [hj];refine Nat.le_of_not_lt fun hlt=>?_
  have h1:10^j≤u:=by
   have:=Lib.lt_pow_nDigits (u / 10);rw [Lib.nDigits_big (by omega)] at hj;have hj':Lib.nDigits (u / 10)=j:=by omega
   clear this hlt h hk
   have hmin:∀ (m v:Nat),Lib.nDigits v=m→1≤v→10^(m-1)≤v:=by
    intro m
    induction m with
    | zero=>intro v hv h1;have:=Lib.nDigits_pos v;omega
    | succ m ih =>
     intro v hv h1;rcases Nat.lt_or_ge v 10 with hv10 | hv10
     ·rw [Lib.nDigits_small hv10] at hv;obtain rfl:m=0:=by omega
      simpa using h1
     ·rw [Lib.nDigits_big (by omega)] at hv
      have h2:=ih (v / 10) (by omega) (by omega);obtain ⟨m',rfl⟩:∃ m',m=m'+1:=⟨m-1,by have:=Lib.nDigits_pos (v/10);omega⟩;simp only [Nat.add_sub_cancel] at h2 ⊢;rw [Nat.pow_succ];omega
   have:=hmin (j+1) u (by rw [Lib.nDigits_big (by omega)];omega) (by omega)
   simpa using this
  have:10^k≤10^j:=Nat.pow_le_pow_right (by omega) (by omega)
  omega
theorem itoa_size (n:Int) (h0 : -9223372036854775808≤n) (h1:n≤9223372036854775807):(itoaB n).size≤20:=by
 show (Lib.itoa n).toArray.size≤20
 rw [List.size_toArray];unfold Lib.itoa
 split
 ·simp only [List.length_cons,Lib.decDigits_length]
  have:=nDigits_le (u:=n.natAbs) (k:=19) (by omega) (by omega)
  omega
 ·rw [Lib.decDigits_length]
  have:=nDigits_le (u:=n.toNat) (k:=19) (by omega) (by omega)
  omega
theorem mt_dec {n:Nat} (h:0<n) (s:ByteArray):mt n s=⟨(Lib.decDigits n).toArray⟩++s:=by
 induction n using Nat.strongRecOn generalizing s with
 | _ n ih =>
  rw [mt_step h]
  by_cases h10:n<10
  ·rw [show n / 10=0 by omega,mt_zero,Lib.decDigits_one h10]
   show _=(⟨#[UInt8.ofNat (48+n)]⟩:ByteArray)++s
   rw [dig8,Nat.mod_eq_of_lt h10]
  ·rw [ih (n / 10) (by omega) (by omega)]
   conv=>rhs;rw [Lib.decDigits,dif_neg h10]
   apply ByteArray.ext
   simp [ByteArray.data_append,dig8]
theorem itoaB_pos {n:Nat} (h:0<n):itoaB n=mt n ⟨#[]⟩:=by
 rw [mt_dec h];unfold itoaB Lib.itoa;rw [if_neg (by omega)]
 apply ByteArray.ext
 simp [ByteArray.data_append]
theorem itoaB_neg {n:Nat} (h:0<n):itoaB (-(n:Int))=⟨#[45]⟩++mt n ⟨#[]⟩:=by
 rw [mt_dec h];unfold itoaB Lib.itoa;rw [if_pos (by omega)]
 apply ByteArray.ext
 simp [ByteArray.data_append]
theorem itoaB_zero:itoaB 0=⟨#[48]⟩:=by
 unfold itoaB Lib.itoa;rw [if_neg (by omega),show (0:Int).toNat=0 from rfl,Lib.decDigits_one (by omega)];rfl
theorem sFormatInt_pos (k:Nat) (w:World) (hk:0<k) (hk2:k≤9223372036854775807) :
 Gives Tryz.prog 78 #[.int .i64 k] w (.string (mt k ⟨#[]⟩)):=by
 have dk:decide ((k:Int)<0)=false:=decide_eq_false (by omega)
 go_enter Tryz.func78,Tryz.ntmps78;go_wp2;go_loopw [4,3] (fun kk t wr=>∃ (n:Nat) (s:ByteArray),s.size+n≤k∧kk=.int .i64 n∧t=.string s∧Hid (mt n s=mt k ⟨#[]⟩)∧Ext w wr) (fun kk _ _=>(intOf kk).toNat)
 case atStart=>exact ⟨k,⟨#[]⟩,Nat.le_of_eq (Nat.zero_add k),rfl,rfl,rfl,Ext.refl _⟩
 case round =>
  obtain ⟨n,s,hn,rfl,rfl,hs,he⟩:=hrel
  by_cases h0:0<n
  ·have hst:=lhd ((mt_step h0 s).symm.trans hs.out)
   have hcv:∀ w':World,(convert 22 9 (.slice (some ⟨w'.heap.size,0,none⟩) 1 1)).run Tryz.prog (w'.alloc (.cells #[.int .u8 (48+(n:Int)%10)] 5))=.ok (.string ⟨#[dig8 n]⟩) (w'.alloc (.cells #[.int .u8 (48+(n:Int)%10)] 5)):=by
    intro w'
    have:=run_one_byte w' (48+n%10);rw [show ((48+n%10:Nat):Int)=48+(n:Int)%10 by omega] at this;exact this
   have hcvr:=hcv wr;clear hcv;go_wp2;go_roundw
   case rel=>exact ⟨n / 10,_,by rw [ByteArray.size_append];show 1+s.size+n / 10≤k;omega,by go_num,rfl,hst,Ext_alloc _ he⟩
   case measure=>simp [intOf];omega
  ·obtain rfl:n=0:=by omega
   have hs2:=lhd ((mt_zero s).symm.trans hs.out);clear hs;go_wp2;go_ret;exact ⟨by rw [hs2.out];rfl,he⟩
theorem sFormatInt_neg (k:Nat) (w:World) (hk:0<k) (hk2:k≤9223372036854775808) :
 Gives Tryz.prog 78 #[.int .i64 (-(k:Int))] w (.string (⟨#[45]⟩++mt k ⟨#[]⟩)):=by
 have dk:decide (-(k:Int)<0)=true:=decide_eq_true (by omega)
 go_enter Tryz.func78,Tryz.ntmps78;go_wp2;go_loopw [4,3] (fun kk t wr=>∃ (n:Nat) (s:ByteArray),2*s.size+n≤k+1∧(0<n→2*s.size+n≤k)∧kk=.int .i64 (-(n:Int))∧t=.string s∧Hid (mt n s=mt k ⟨#[]⟩)∧Ext w wr) (fun kk _ _=>(-(intOf kk)).toNat)
 case atStart=>exact ⟨k,⟨#[]⟩,by show 2*0+k≤k+1;omega,fun _=>Nat.le_of_eq (Nat.zero_add k),rfl,rfl,rfl,Ext.refl _⟩
 case round =>
  obtain ⟨n,s,hn,hn2,rfl,rfl,hs,he⟩:=hrel
  by_cases h0:0<n
  ·have hn3:=hn2 h0
   have hst:=lhd ((mt_step h0 s).symm.trans hs.out)
   have hcv:∀ w':World,(convert 22 9 (.slice (some ⟨w'.heap.size,0,none⟩) 1 1)).run Tryz.prog (w'.alloc (.cells #[.int .u8 (48+(n:Int)%10)] 5))=.ok (.string ⟨#[dig8 n]⟩) (w'.alloc (.cells #[.int .u8 (48+(n:Int)%10)] 5)):=by
    intro w'
    have:=run_one_byte w' (48+n%10);rw [show ((48+n%10:Nat):Int)=48+(n:Int)%10 by omega] at this;exact this
   have hcvr:=hcv wr;have hmod:(-(n:Int)).tmod 10 = -((n:Int)%10):=by rw [Int.neg_tmod,Int.tmod_eq_emod_of_nonneg (by omega)]
   have hdiv:(-(n:Int)).tdiv 10 = -((n:Int) / 10):=by rw [Int.neg_tdiv,Int.tdiv_eq_ediv_of_nonneg (by omega)]
   clear hcv
   by_cases hm:(n:Int)%10=0
   ·rw [hm,Int.add_zero] at hcvr
    go_wp2;go_roundw
    case rel=>exact ⟨n / 10,_,by rw [ByteArray.size_append];show 2*(1+s.size)+n / 10≤k+1;omega,fun h=>by rw [ByteArray.size_append];show 2*(1+s.size)+n / 10≤k;omega,by go_num,rfl,hst,Ext_alloc _ he⟩
    case measure=>simp [intOf];omega
   ·go_wp2
    go_roundw
    case rel=>exact ⟨n / 10,_,by rw [ByteArray.size_append];show 2*(1+s.size)+n / 10≤k+1;omega,fun h=>by rw [ByteArray.size_append];show 2*(1+s.size)+n / 10≤k;omega,by go_num,rfl,hst,Ext_alloc _ he⟩
    case measure=>simp [intOf];omega
  ·obtain rfl:n=0:=by omega
   have hsz:s.size≤4611686018427387904:=by omega
   have z0:(-((0:Nat):Int) !=0)=false:=by simp
   have hs2:=lhd ((mt_zero s).symm.trans hs.out);clear hs;go_wp2
   all_goals go_ret
   all_goals exact ⟨by rw [hs2.out];rfl,he⟩
theorem sFormatInt_c (n:Int) (w:World) (h0 : -9223372036854775808≤n) (h1:n≤9223372036854775807) :
 Gives Tryz.prog 78 #[.int .i64 n] w (.string (itoaB n)):=by
 rcases Int.lt_trichotomy n 0 with h | rfl | h
 ·obtain ⟨k,rfl⟩:∃ k:Nat,n = -(k:Int):=⟨n.natAbs,by omega⟩
  rw [itoaB_neg (by omega)];exact sFormatInt_neg k w (by omega) (by omega)
 ·rw [itoaB_zero]
  go_enter Tryz.func78,Tryz.ntmps78;go_wp2;go_ret;exact ⟨rfl,Ext.refl _⟩
 ·obtain ⟨k,rfl⟩:∃ k:Nat,n=(k:Int):=⟨n.toNat,by omega⟩
  rw [itoaB_pos (by omega)];exact sFormatInt_pos k w (by omega) (by omega)
def sumB:List UInt8→Nat
 | []=>0
 | x::t=>x.toNat+sumB t
end Go.Proofs.YtlfhealneccdkaaGreatDoor
namespace Go.Proofs.YtlfhealneccdkaaGreatDoor
def litF (l:List UInt8) (a:Nat):Nat→Nat→Nat
 | 0,k=>k
 | f+1,k=>if k<l.length∧k-a<127∧runAt l k<3 then litF l a f (k+1) else k
def litEnd (l:List UInt8) (a k:Nat):Nat:=litF l a (l.length-k) k
def packF (l:List UInt8):Nat→Nat→List UInt8
 | 0,_=>[]
 | f+1,a =>
  if h:a<l.length then
   if 3≤runAt l a then UInt8.ofNat (128+min (runAt l a) 127)::l[a]::packF l f (a+min (runAt l a) 127)
   else UInt8.ofNat (litEnd l a a-a)::((l.drop a).take (litEnd l a a-a)++packF l f (litEnd l a a))
  else []
def packAt (l:List UInt8) (a:Nat):List UInt8:=packF l l.length a
def pack (l:List UInt8):List UInt8:=packAt l 0
def unpackF:Nat→List UInt8→List UInt8→Option (List UInt8)
 | _,[],out=>some out
 | 0,_::_,_=>none
 | f+1,x::t,out =>
  if x=0∨x=128∨t=[] then none
  else if x<128 then
   if t.length<x.toNat then none
   else if 1000<(out++t.take x.toNat).length then none
   else unpackF f (t.drop x.toNat) (out++t.take x.toNat)
  else
   if 1000<(out++List.replicate (x.toNat-128) (t.headD 0)).length then none
   else unpackF f t.tail (out++List.replicate (x.toNat-128) (t.headD 0))
def unpack (l:List UInt8):Option (List UInt8):=unpackF l.length l []
def unpackAt (l:List UInt8) (a:Nat) (out:List UInt8):Option (List UInt8):=unpackF l.length (l.drop a) out
end Go.Proofs.YtlfhealneccdkaaGreatDoor
namespace Go.Proofs.YtlfhealneccdkaaGreatDoor
open Go.RowKit Go.Sort
def vrec (k:Int) (nm:ByteArray) (ver:Int) (v:Value):Value:=.agg #[.int .i64 k,.string nm,.int .i64 ver,v]
def szR (n m:Nat) (left:Int):Int:=if szN n left<0 then -1 else szN m (szN n left)
def validRec (k:Int) (nm:ByteArray) (ver:Int) (n:Nat):Bool :=
 isName nm&&(decide (0≤ver)&&decide (ver≤7))&&decide (n≤400)&&(k==1||(k==2&&ver==0&&(n:Int)==0))
end Go.Proofs.YtlfhealneccdkaaGreatDoor
namespace Go.Proofs.YtlfhealneccdkaaGreatDoor
def be2 (n:Nat):List UInt8:=[UInt8.ofNat (n / 256),UInt8.ofNat n]
def encBody (k:Int) (nm:ByteArray) (ver:Int) (l:List UInt8):List UInt8 :=
 [UInt8.ofNat k.toNat,UInt8.ofNat nm.size]++nm.data.toList++[UInt8.ofNat ver.toNat]++be2 (pack l).length++pack l
def encRec (k:Int) (nm:ByteArray) (ver:Int) (l:List UInt8):List UInt8 :=
 if validRec k nm ver l.length then encBody k nm ver l++[UInt8.ofNat (sumB (encBody k nm ver l))] else []
structure DRec where
 k:Int
 nm:ByteArray
 ver:Int
 l:List UInt8
def DRec.zero:DRec:=⟨0,⟨#[]⟩,0,[]⟩
def DRec.enc (r:DRec):List UInt8:=encRec r.k r.nm r.ver r.l
def DRec.ok (r:DRec):Bool:=validRec r.k r.nm r.ver r.l.length
def nmAt (b:List UInt8) (a:Nat):Nat:=(b.getD (a+1) 0).toNat
def szAt (b:List UInt8) (a:Nat):Nat:=256*(b.getD (a+nmAt b a+3) 0).toNat+(b.getD (a+nmAt b a+4) 0).toNat
def recAt (b:List UInt8) (a:Nat) (d:List UInt8):DRec :=
 ⟨(b.getD a 0).toNat,⟨((b.drop (a+2)).take (nmAt b a)).toArray⟩,(b.getD (a+nmAt b a+2) 0).toNat,d⟩
def decN (b:List UInt8) (a:Nat):Option DRec :=
 if b.length<a+2∨b.length<a+nmAt b a+6∨b.length<a+nmAt b a+6+szAt b a then none
 else match unpack ((b.drop (a+nmAt b a+5)).take (szAt b a)) with
  | none=>none
  | some d=>if (recAt b a d).ok&&((recAt b a d).enc==(b.drop a).take (nmAt b a+6+szAt b a)) then some (recAt b a d) else none
def dec (b:List UInt8) (a:Int):Option DRec:=if a<0 then none else decN b a.toNat
def decEnd (b:List UInt8) (a:Int):Int:=if (dec b a).isSome then a+nmAt b a.toNat+6+szAt b a.toNat else a
theorem decN_some {b:List UInt8} {a:Nat} {r:DRec} (h:decN b a=some r):a+nmAt b a+6+szAt b a≤b.length∧r.ok=true∧r.enc=(b.drop a).take (nmAt b a+6+szAt b a)∧unpack ((b.drop (a+nmAt b a+5)).take (szAt b a))=some r.l∧r=recAt b a r.l:=by
 unfold decN at h
 split at h
 ·cases h
 ·rename_i hc
  split at h
  ·cases h
  ·rename_i d hd
   split at h
   ·rename_i hb
    injection h with h
    subst h;rw [Bool.and_eq_true,beq_iff_eq] at hb;exact ⟨by omega,hb.1,hb.2,hd,rfl⟩
   ·cases h
end Go.Proofs.YtlfhealneccdkaaGreatDoor
namespace Go.Proofs.YtlfhealneccdkaaGreatDoor
open Go.RowKit Go.Sort
section
variable {P:Program} {ops:Array Oper} {rest:List Oper} {o:Oper} {a:Act} {Q:Exit→Act→World→Prop}
end
theorem OwnL.lower {α:Type} {f:α→Value} {e:TypeId} {w0 w1 w:World} {v:Value} {l:List α} (h:OwnL f e w1 w v l) (k:Ext w0 w1):OwnL f e w0 w v l:=World.ownsRow.lower h k.size
theorem OwnL.lit {α:Type} {f:α→Value} {e:TypeId} {w0 w:World} (he:Ext w0 w) (ys:List α) (cs:Array Value) (hcs:cs=(ys.map f).toArray) (m:Nat) (hm:m=ys.length) (hl:m≤1000) :
 OwnL f e w0 (w.alloc (.cells cs e)) (.slice (some ⟨w.heap.size,0,none⟩) m m) ys:=by
 subst hcs;subst hm;exact ⟨by simp,.inr ⟨w.heap.size,ys.length,_,rfl,he.size,heap_alloc_new w _,by omega,by simp only [maxLen];omega,by simp,by simp [List.take_of_length_le]⟩⟩
end Go.Proofs.YtlfhealneccdkaaGreatDoor
namespace Go.Proofs.YtlfhealneccdkaaGreatDoor
end Go.Proofs.YtlfhealneccdkaaGreatDoor
