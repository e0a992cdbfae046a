/- Texts, laid into one. -/
import Derived.Test.YtpmcofmdjckijaaGreatZDg4
import Derived.Test.YtpmcofmdjckijaaGreatZDg2
import Derived.Test.YtpmcofmdjckijaaGreatZDg3
import Derived.OrdersHeld
import Derived.Deep.RegionHeld3
import Derived.StillTail
set_option linter.unusedVariables false
set_option linter.unusedSimpArgs false
set_option maxRecDepth 100000
set_option maxHeartbeats 16000000
namespace Go.Proofs.YtpmcofmdjckijaaGreat
open Go.RowKit Go.Sort
structure Wrote (lo hi:Nat) (w w':World):Prop where
 os:w'.os=w.os
 tape:w'.tape=w.tape
 output:w'.output=w.output
 size:w.heap.size≤w'.heap.size
 block:∀ k,k<w.heap.size→(k<lo∨hi≤k)→w'.heap[k]?=w.heap[k]?
theorem Wrote.refl (lo hi:Nat) (w:World):Wrote lo hi w w:=⟨rfl,rfl,rfl,Nat.le_refl _,fun _ _ _=>rfl⟩
theorem Wrote.trans {lo hi:Nat} {a b c:World} (h:Wrote lo hi a b) (k:Wrote lo hi b c):Wrote lo hi a c :=
 ⟨k.os.trans h.os,k.tape.trans h.tape,k.output.trans h.output,Nat.le_trans h.size k.size,fun i hi hb=>(k.block i (Nat.lt_of_lt_of_le hi h.size) hb).trans (h.block i hi hb)⟩
theorem Wrote.mono {lo hi lo' hi':Nat} {a b:World} (h:Wrote lo hi a b) (h1:lo'≤lo) (h2:hi≤hi'):Wrote lo' hi' a b :=
 ⟨h.os,h.tape,h.output,h.size,fun i hi hb=>h.block i hi (by omega)⟩
theorem Wrote.ext {lo hi:Nat} {w w':World} (e:Ext w w'):Wrote lo hi w w':=⟨e.os,e.tape,e.output,e.size,fun i hi _=>Below.block e i hi⟩
theorem Wrote.grown {lo hi:Nat} {w w':World} {row:Option Nat} (h:w.grownBy w' row) (hr:∀ g,row=some g→lo≤g∧g<hi):Wrote lo hi w w' :=
 ⟨h.os,h.tape,h.output,h.size,fun i hi hb=>h.block i hi (fun e=>by have:=hr i e.symm;omega)⟩
theorem Wrote.set {lo hi:Nat} (w:World) (a:Addr) (u:Value) (h1:lo≤a.block) (h2:a.block<hi):Wrote lo hi w (w.setCell a u) :=
 Wrote.grown (grown_set w a u) (fun g hg=>by injection hg with hg;subst hg;exact ⟨h1,h2⟩)
theorem Wrote.below {lo hi:Nat} {w0 w w':World} (h:Wrote lo hi w w') (e:Ext w0 w) (hlo:w0.heap.size≤lo):Ext w0 w' :=
 Below.trans e ⟨h.os,h.tape,h.output,h.size,fun k hk=>h.block k (Nat.lt_of_lt_of_le hk e.size) (.inl (Nat.lt_of_lt_of_le hk hlo))⟩
theorem Own.wrote {e:TypeId} {size:Nat} {w0 w w':World} {v:Value} {n:Nat} {xs:List Value} (h:Own e size w0 w v n xs) {lo hi:Nat} (hw:Wrote lo hi w w') (hv:∀ g,v.ownBlock=some g→g<lo∨hi≤g):Own e size w0 w' v n xs:=by
 refine ⟨h.1,?_⟩;rcases h.2 with h0 | ⟨g,cap,cur,rfl,hb,hg,r⟩
 ·exact .inl h0
 ·exact .inr ⟨g,cap,cur,rfl,hb,(hw.block g (Array.getElem?_eq_some_iff.1 hg).1 (hv g rfl)).trans hg,r⟩
theorem OwnL.wrote {α:Type} {f:α→Value} {e:TypeId} {w0 w w':World} {v:Value} {l:List α} (h:OwnL f e w0 w v l) {lo hi:Nat} (hw:Wrote lo hi w w') (hv:∀ g,v.ownBlock=some g→g<lo∨hi≤g):OwnL f e w0 w' v l:=Own.wrote h hw hv
theorem OwnL.behind {α:Type} {f:α→Value} {e:TypeId} {w0 w w':World} {v:Value} {l:List α} (h:OwnL f e w0 w v l) {lo hi:Nat} (hw:Wrote lo hi w w') (hb:hi≤w0.heap.size):OwnL f e w0 w' v l :=
 h.wrote hw (fun g hg=>.inr (Nat.le_trans hb (World.ownsRow.lt h g hg).1))
def dig8 (k:Nat):UInt8:=UInt8.ofNat (48+k%10)
def mtF:Nat→Nat→ByteArray→ByteArray
 | 0,_,s=>s
 | f+1,k,s=>if k=0 then s else mtF f (k / 10) (⟨#[dig8 k]⟩++s)
theorem mtF_fuel:∀ f g k s,k≤f→k≤g→mtF f k s=mtF g k s:=by
 intro f
 induction f with
 | zero =>
  intro g k s h _;obtain rfl:k=0:=by omega
  cases g with
  | zero=>rfl
  | succ g=>rw [mtF,mtF,if_pos rfl]
 | succ f ih =>
  intro g k s h1 h2;cases g with
  | zero =>
   obtain rfl:k=0:=by omega
   rw [mtF,mtF,if_pos rfl]
  | succ g =>
   rw [mtF,mtF]
   by_cases hk:k=0
   ·rw [if_pos hk,if_pos hk]
   ·rw [if_neg hk,if_neg hk,ih g (k / 10) _ (by omega) (by omega)]
def mt (k:Nat) (s:ByteArray):ByteArray:=mtF k k s
theorem mt_zero (s:ByteArray):mt 0 s=s:=rfl
theorem mt_step {k:Nat} (h:0<k) (s:ByteArray):mt k s=mt (k / 10) (⟨#[dig8 k]⟩++s):=by
 unfold mt;obtain ⟨f,rfl⟩:∃ f,k=f+1:=⟨k-1,by omega⟩;rw [mtF,if_neg (by omega)];exact mtF_fuel _ _ _ _ (by omega) (by omega)
def markT (k:Nat):ByteArray:=⟨#[109]⟩++mt k ⟨#[]⟩
theorem run_one_byte (w:World) (n:Nat) :
 (convert 22 9 (.slice (some ⟨w.heap.size,0,none⟩) 1 1)).run Tryz.prog (w.alloc (.cells #[.int .u8 (n:Int)] 5))=.ok (.string ⟨#[UInt8.ofNat n]⟩) (w.alloc (.cells #[.int .u8 (n:Int)] 5)):=by
 have h1:=run_convert_bytes_arg (P:=Tryz.prog) (w.alloc (.cells #[.int .u8 (n:Int)] 5)) 22 5 Tryz.underlying22 Tryz.underlying5 w.heap.size 0 1 1 [(n:Int)] rfl (fun i hi=>by
  obtain rfl:i=0:=by omega
  simp) 9 Tryz.underlying9
 rw [h1]
 rfl
def sumB:List UInt8→Nat
 | []=>0
 | x::t=>x.toNat+sumB t
theorem sumB_append (a b:List UInt8):sumB (a++b)=sumB a+sumB b:=by
 induction a with
 | nil=>simp [sumB]
 | cons x t ih=>simp [sumB,ih];omega
theorem sumB_take {l:List UInt8} {k:Nat} (h:k<l.length):sumB (l.take (k+1))=sumB (l.take k)+l[k].toNat:=by
 rw [List.take_succ_eq_append_getElem h,sumB_append];simp [sumB]
theorem sSumOfBytes_c (A:Option Addr) (l:List UInt8) (c:Nat) (w:World) (h:Bs w A l c) :
 Gives Tryz.prog 133 #[.slice A l.length c] w (.int .i64 (sumB l%256:Nat)):=by
 have hl:=h.len;go_enter Tryz.func133,Tryz.ntmps133;go_wp2;go_loopw [3,4] (fun s i wr=>∃ k m:Nat,k≤l.length∧i=.int .i64 k∧s=.int .i64 m∧m<256∧Hid (m=sumB (l.take k)%256)∧Ext w wr) (fun _ i _=>l.length-(intOf i).toNat)
 case atStart=>exact ⟨0,0,by omega,rfl,rfl,by omega,by simp [Hid,sumB],Ext.refl _⟩
 case round =>
  obtain ⟨k,m,hk,rfl,rfl,hm,hs,he⟩:=hrel
  by_cases hlt:k<l.length
  ·obtain ⟨b,off,rfl,hb,hc⟩:=h.at k hlt
   have hst:=lhd (sumB_take hlt);have h3:=l[k].toNat_lt;go_wp2;go_roundw
   case rel=>exact ⟨k+1,(m+l[k].toNat)%256,by omega,by go_num,by congr 1,by omega,(by show _=_;rw [hst.out,hs.out];omega),he⟩
   case measure=>simp [intOf];omega
  ·obtain rfl:k=l.length:=by omega
   have ht:sumB (l.take l.length)=sumB l:=by rw [List.take_of_length_le (by omega)]
   have hq:=hs.out;rw [ht] at hq;have HQ:=lhd hq;clear hq ht hs;go_wp2;go_ret;exact ⟨ret_i64 (by rw [HQ.out]),he⟩
end Go.Proofs.YtpmcofmdjckijaaGreat
namespace Go.Proofs.YtpmcofmdjckijaaGreat
def litF (l:List UInt8) (a:Nat):Nat→Nat→Nat
 | 0,k=>k
 | f+1,k=>if k<l.length∧k-a<127∧runAt l k<3 then litF l a f (k+1) else k
def litEnd (l:List UInt8) (a k:Nat):Nat:=litF l a (l.length-k) k
def packF (l:List UInt8):Nat→Nat→List UInt8
 | 0,_=>[]
 | f+1,a =>
  if h:a<l.length then
   if 3≤runAt l a then UInt8.ofNat (128+min (runAt l a) 127)::l[a]::packF l f (a+min (runAt l a) 127)
   else UInt8.ofNat (litEnd l a a-a)::((l.drop a).take (litEnd l a a-a)++packF l f (litEnd l a a))
  else []
def packAt (l:List UInt8) (a:Nat):List UInt8:=packF l l.length a
def pack (l:List UInt8):List UInt8:=packAt l 0
def unpackF:Nat→List UInt8→List UInt8→Option (List UInt8)
 | _,[],out=>some out
 | 0,_::_,_=>none
 | f+1,x::t,out =>
  if x=0∨x=128∨t=[] then none
  else if x<128 then
   if t.length<x.toNat then none
   else if 1000<(out++t.take x.toNat).length then none
   else unpackF f (t.drop x.toNat) (out++t.take x.toNat)
  else
   if 1000<(out++List.replicate (x.toNat-128) (t.headD 0)).length then none
   else unpackF f t.tail (out++List.replicate (x.toNat-128) (t.headD 0))
def unpack (l:List UInt8):Option (List UInt8):=unpackF l.length l []
def unpackAt (l:List UInt8) (a:Nat) (out:List UInt8):Option (List UInt8):=unpackF l.length (l.drop a) out
end Go.Proofs.YtpmcofmdjckijaaGreat
namespace Go.Proofs.YtpmcofmdjckijaaGreat
open Go.RowKit Go.Sort
def vrec (k:Int) (nm:ByteArray) (ver:Int) (v:Value):Value:=.agg #[.int .i64 k,.string nm,.int .i64 ver,v]
def szR (n m:Nat) (left:Int):Int:=if szN n left<0 then -1 else szN m (szN n left)
def ofB (n m:Nat):Array Bool:=((List.range n).map m.testBit).toArray
section
variable {P:Program} {ops:Array Oper} {Q:Exit→Act→World→Prop} {md:Region.Mode} {S:World→Prop}
theorem tkH {i:Nat} (d:Option Nat) {oi:Oper} {v:Value} {fuel:Nat} {listed:Array Bool} (l':Array Bool) {a:Act} {w:World} (hi:ops[i]?=some oi) (hd:oi.dst=d)
 (hb:(Region.noSelect ops&&Region.free md ops listed i&&(Region.ready md ops listed).contains i)=true) (hl:listed.setIfInBounds i true=l') (hS:S w) (hy:YieldsIf P ops S oi v a)
 (h:wpAnyH P md ops Q S fuel l' (a.put d v) w) (hQ:∀ c a w,Q (.panic c) (a.put d v) w→Q (.panic c) a w:=by exact fun _ _ _ h=>h):wpAnyH P md ops Q S (fuel+1) listed a w:=by
 subst hd;subst hl;simp only [Bool.and_eq_true] at hb;exact wpAnyH_take hi hb.1.1 hb.1.2 hb.2 hQ hy hS h
theorem oneH {i:Nat} (d:Option Nat) {o:Oper} {fuel:Nat} {listed:Array Bool} (l':Array Bool) {a:Act} {w:World} (hr:Region.ready md ops listed=[i]) (ho:ops[i]?=some o) (hd:o.dst=d) (hl:listed.setIfInBounds i true=l')
 (h:∀ K:Act→World→Prop,Shut (∀ a w,S w→wpAnyH P md ops Q S fuel l' a w→K a w)→if Region.wanted { o with dst:=d } (yielded ops a.tmps)=true then Oper.wp P { o with dst:=d } a w K Q else K (a.put d undef) w):wpAnyH P md ops Q S (fuel+1) listed a w:=by
 subst hd;subst hl;refine ⟨fun h0=>(by rw [h0] at hr;cases hr),fun j hj=>?_⟩;rw [hr,List.mem_singleton] at hj;subst hj;exact wpOp_step ho (fun K' hK=>h K' (fun a w hC hW=>hK a w ⟨hC,hW⟩))
theorem wp_region_HD {id:Nat} {a:Act} {w:World} (l':Array Bool) (hl:Array.replicate ops.size false=l') (hm:P.follows .mixedOrders=true) (h:wpAnyH P .any ops Q S ops.size l' a w.drew):(Code.region id ops true).wp P Q a w:=by
 subst hl;exact wp_region_held hm h
end
theorem tkI {P:Program} {ops:Array Oper} {Q:Exit→Act→World→Prop} {md:Region.Mode} {S:World→Prop} {i:Nat} (d:Option Nat) {oi:Oper} {v:Value} {fuel:Nat} {listed:Array Bool} (l':Array Bool) {a:Act} {w:World} (hi:ops[i]?=some oi) (hd:oi.dst=d) (hS:S w) (hy:∀ w,S w→(execOp a.eval oi).run P w=.ok (.value v) w) (h:wpAnyH P md ops Q S fuel l' (a.put d v) w) (hb:(Region.noSelect ops&&Region.free md ops listed i&&(Region.ready md ops listed).contains i)=true:=by kernel_rfl) (hl:listed.setIfInBounds i true=l':=by kernel_rfl) (hw:Region.wanted oi (yielded ops a.tmps)=true:=by rfl) (hQ:∀ c a w,Q (.panic c) (a.put d v) w→Q (.panic c) a w:=by exact fun _ _ _ h=>h):wpAnyH P md ops Q S (fuel+1) listed a w:=tkH d l' hi hd hb hl hS (Or.inl ⟨hw,hy⟩) h hQ
section
variable {P:Program} {ops:Array Oper} {o:Oper} {a:Act} {Q:Exit→Act→World→Prop} {K:Act→World→Prop} {E:Prop}
theorem step_anyA (hgd:o.guard=none) (s x:Operand) (t:TypeId) (ho:o.op=.call { callee:=.builtin .append,args:=#[s,x],argTypes:=#[t,t] })
 {e:TypeId} {size bytes:Nat} {z:Value} (hE:Elem P t e size bytes z) (w0 w:World) (v:Value) (n:Nat) (xs:List Value) (hs:a.eval s=v) (hown:Own e size w0 w v n xs)
 (he:Ext w0 w) (news:List Value) (A:Option Addr) (m c:Nat) (hx:a.eval x=.slice A m c) (hl:news.length=m*size)
 (hA:0<m→∃ ad,A=some ad∧∀ j u,news[j]?=some u→w.cell? (ad.add j)=some u) (h1:∀ u∈news,u.oneCell'=true)
 (hm:n+m≤maxLen) (hb:(n+m)*bytes≤140737488355328)
 (h:∀ v' w',Own e size w0 w' v' (n+m) (xs++news)→Ext w0 w'→(v'.ownBlock=v.ownBlock∨v'.ownBlock=some w.heap.size)→w.grownBy w' v.ownBlock→K (a.put o.dst v') w') :
 if Region.wanted o (yielded ops a.tmps)=true then Oper.wp P o a w K Q else E:=by
 have hw:Region.wanted o (yielded ops a.tmps)=true:=by simp [Region.wanted,hgd]
 rw [if_pos hw];obtain ⟨i0,hi0,hz0,hz1,hz2⟩:=info_parts hE.hi;rcases A with _ | ad
 ·have hm0:m=0:=by
   rcases Nat.eq_zero_or_pos m with h0 | h0
   ·exact h0
   ·obtain ⟨ad,h,_⟩:=hA h0
    cases h
  subst hm0;obtain rfl:news=[]:=List.eq_nil_of_length_eq_zero (by simpa using hl)
  unfold Oper.wp execOp;simp only [ho,resolve,invoke,builtin,Sem.run_bind,Sem.run_pure,Result.andThen_ok,List.map_toArray,List.map_cons,List.map_nil,hs,hx,run_app_nil w w0.heap.size t o.type e i0 size hE.ht hi0 v n xs hown c];exact h v w (by simpa using hown) he (.inl rfl) (World.grownBy.refl w _)
 ·obtain ⟨v',w',hr,h2,h3,h4,h5⟩:=run_append_own_at (P:=P) w w0.heap.size t o.type e i0 z size bytes hE.ht hi0 hz0 hz1 hz2 hE.hz hE.hs v n xs hown ad m c news hl
   (fun j u hu=>by
    rcases Nat.eq_zero_or_pos m with h0 | h0
    ·subst h0
     obtain rfl:news=[]:=List.eq_nil_of_length_eq_zero (by simpa using hl)
     simp at hu
    ·obtain ⟨ad',h',hc⟩:=hA h0
     injection h' with h'
     subst h';exact hc j u hu)
   h1 hm hb he.size
  unfold Oper.wp execOp;simp only [ho,resolve,invoke,builtin,Sem.run_bind,Sem.run_pure,Result.andThen_ok,List.map_toArray,List.map_cons,List.map_nil,hs,hx,hr];exact h v' w' h2 (he.grown h3 (fun k hk=>(hown.lt k hk).1)) h5 h3
end
end Go.Proofs.YtpmcofmdjckijaaGreat
namespace Go.Proofs.YtpmcofmdjckijaaGreat
open Go Go.Sort Go.RowKit
section
variable {P:Program} {ops:Array Oper} {md:Region.Mode} {C:World→Prop}
def headR (P:Program) (md:Region.Mode) (ops:Array Oper) (C:World→Prop) (L:Array Bool→Act→Prop):Nat→Array Bool→Act→Prop
 | 0,listed,a=>L listed a
 | f+1,listed,a=>Region.ready md ops listed≠[]∧∀ i∈Region.ready md ops listed,qOp P ops C i (headR P md ops C L f (listed.setIfInBounds i true)) a
theorem headR_to {L:Array Bool→Act→Prop} {g:Nat} {Q':Exit→Act→World→Prop} (hL:∀ listed a w,C w→L listed a→wpAny P md ops Q' g listed a w) :
 ∀ (f:Nat) (listed:Array Bool) (a:Act) (w:World),C w→headR P md ops C L f listed a→wpAny P md ops Q' (f+g) listed a w:=by
 intro f
 induction f with
 | zero=>intro listed a w hw h;rw [Nat.zero_add];exact hL _ _ _ hw h
 | succ f ih =>
  intro listed a w hw h;rw [show f+1+g=(f+g)+1 by omega];exact ⟨fun h0=>absurd h0 h.1,fun i hi=>wpOp_of_qOp hw (fun a' w' hw' h'=>ih _ a' w' hw' h') (h.2 i hi)⟩
theorem headR_first {N i:Nat} {oi:Oper} {v:Value} {L:Array Bool→Act→Prop} (hi:ops[i]?=some oi) (hsel:∀ (j:Nat) (o:Oper) cs b,ops[j]?=some o→o.op≠.select cs b)
 (hs:Region.sinkB md ops N=true) (hc:Region.chainB md ops N=true) (hn:N<ops.size) (hin:i<N) (hdone:∀ listed a,L listed a→∀ j∈Region.ready md ops listed,N≤j) :
 ∀ (f:Nat) (listed:Array Bool) (a:Act),HeadInv md ops N listed →
  (∀ j oj,ops[j]?=some oj→j≠i→listed.getD j true=false→(∀ e∈oj.after,Region.binds md e=true→e.on≠i)→oi.apart ops oj=true) →
  i∈Region.ready md ops listed→YieldsIn P ops C oi v a →
  headR P md ops C L f (listed.setIfInBounds i true) (a.put oi.dst v)→headR P md ops C L (f+1) listed a:=by
 intro f
 induction f with
 | zero =>
  intro listed a inv _ hr hy H;have hun:=(mem_ready.1 hr).1;refine ⟨fun h=>(by rw [h] at hr;cases hr),fun j hj=>?_⟩
  by_cases hji:j=i
  ·subst hji;exact hy.qOp hi H
  ·have h1:=hdone _ _ H j (ready_mono hj hji)
   exact absurd hj (tail_waits hs hc hn inv _ i rfl hin hun j h1)
 | succ f ih =>
  intro listed a inv hfree hr hy H;have hun:=(mem_ready.1 hr).1;refine ⟨fun h=>(by rw [h] at hr;cases hr),fun j hj=>?_⟩
  have hjn:j<N:=by
   rcases Nat.lt_or_ge j N with h | h
   ·exact h
   ·exact absurd hj (tail_waits hs hc hn inv _ i rfl hin hun j h)
  by_cases hji:j=i
  ·subst hji;exact hy.qOp hi H
  ·have h1:=H.2 j (ready_mono hj hji)
   obtain ⟨hjun,oj,hoj,hall⟩:=mem_ready.1 hj
   have hnot:∀ e∈oj.after,Region.binds md e=true→e.on≠i:=fun e he hb heq=>by
    have h1:=hall e he hb;rw [heq,getD_both hun] at h1;cases h1
   have h2:=qOp_put hoj (hfree j oj hoj hji hjun hnot) (fun cs b=>hsel i oi cs b hi) (fun cs b=>hsel j oj cs b hoj) hy h1;refine qOp_mono (fun a' h3=>ih (listed.setIfInBounds j true) a' (inv.set hj hjn) ?_ (ready_mono hr (Ne.symm hji)) h3.1 ?_) h2
   ·intro k ok hk hki hun' hno
    refine hfree k ok hk hki ?_ hno
    by_cases hjk:j=k
    ·subst hjk;exact hjun
    ·rw [getD_set_ne true hjk] at hun';exact hun'
   ·rw [Array.setIfInBounds_comm _ _ hji]
    exact h3.2
theorem headR_lex {N g:Nat} {Lq:Act→Prop} (hsel:Region.noSelect ops=true) (hs:Region.sinkB md ops N=true) (hc:Region.chainB md ops N=true) (hn:N<ops.size) :
 ∀ (l:List Oper) (k:Nat) (listed:Array Bool) (a:Act),(∀ j,j<l.length→l[j]?=ops[k+j]?)→k+l.length=N→HeadInv md ops N listed →
 Region.lexHead md ops g l.length k listed=true→wpQuiet P ops C Lq l a →
 headR P md ops C (fun listed' a'=>Region.seqB md ops g N listed'=true∧Lq a') l.length listed a:=by
 intro l
 induction l with
 | nil =>
  intro k listed a _ hk _ hB h;obtain rfl:k=N:=by simpa using hk
  exact ⟨by simpa [Region.lexHead] using hB,h⟩
 | cons o l ih =>
  intro k listed a hl hk inv hB h;have h0:ops[k]?=some o:=by simpa using (hl 0 (by simp)).symm
  simp only [List.length_cons,Region.lexHead,Bool.and_eq_true] at hB;obtain ⟨⟨hr,hf⟩,hB'⟩:=hB;have hkn:k<N:=by simp only [List.length_cons] at hk;omega
  have hr':k∈Region.ready md ops listed:=by simpa using hr
  have hst:qOp P ops C k (wpQuiet P ops C Lq l) a:=by unfold qOp;simp only [h0];exact h
  obtain ⟨v,hy,hK⟩:=yieldsIn_of_qOp h0 hst
  exact headR_first h0 (Region.noSelect_spec hsel) hs hc hn hkn (fun listed' a' hL=>seqB_ready hL.1) l.length listed a inv (Region.free_spec h0 hf) hr' hy
   (ih (k+1) _ _ (fun j hj=>by have:=hl (j+1) (by simp;omega);simpa [Nat.add_assoc,Nat.add_comm 1 j] using this) (by simp only [List.length_cons] at hk;omega) (inv.set hr' hkn) hB' hK)
theorem region_qtail {id:Nat} {Q:Exit→Act→World→Prop} {a:Act} {w:World} {l:List Oper} (N:Nat) (hm:P.follows .mixedOrders=true) (hB:Region.lexTailB .any l.toArray N=true) (hC:C { w with drawn:=w.drawn+1 })
 (h:wpQuiet P l.toArray C (fun a'=>∀ w',C w'→wpList P l.toArray Q (l.drop N) a' w') (l.take N) a):(Code.region id l.toArray true).wp P Q a w:=by
 simp only [Region.lexTailB,Bool.and_eq_true,decide_eq_true_eq] at hB;obtain ⟨⟨⟨⟨hsel,hn⟩,hs⟩,hc⟩,hlex⟩:=hB;have hn':N<l.length:=by simpa using hn
 have htl:(l.take N).length=N:=by simp;omega
 have hdl:(l.drop N).length=l.toArray.size-N:=by simp
 have inv0:HeadInv .any l.toArray N (Array.replicate l.toArray.size false) :=
  ⟨by simp,fun j oj _ hl=>(by rw [getD_replicate_false] at hl;cases hl),fun t _ ht=>getD_in (by simpa using ht) (getD_replicate_false _ _)⟩
 have H:=headR_lex (md:=.any) (g:=l.toArray.size-N) hsel hs hc hn (l.take N) 0 _ a (fun j hj=>by
  have hj':j<N:=by rw [htl] at hj;exact hj
  simp [hj']) (by simpa using htl) inv0 (by rw [htl];exact hlex) h
 refine wp_region_any hm ?_
 have:=headR_to (Q':=Q) (g:=l.toArray.size-N) (fun listed a' w' hw' hL=>by
  have:=wpAny_of_seq (md:=.any) (Q':=Q) (l.drop N) N listed a' w' (fun j=>by simp [List.getElem?_drop]) (by rw [hdl];exact hL.1) (hL.2 w' hw')
  rwa [hdl] at this) _ _ _ _ hC H
 rw [htl,show N+(l.toArray.size-N)=l.toArray.size by omega] at this;exact this
theorem region_qtail_below {id:Nat} {Q:Exit→Act→World→Prop} {a:Act} {w:World} {l:List Oper} (N:Nat) (hm:P.follows .mixedOrders=true) (hB:Region.lexTailB .any l.toArray N=true)
 (h:wpQuiet P l.toArray (fun w'=>∃ p:Regrown,w'=grow (redrawn w p.d) p.os) (fun a'=>∀ w',(∃ p:Regrown,w'=grow (redrawn w p.d) p.os)→wpList P l.toArray Q (l.drop N) a' w') (l.take N) a):(Code.region id l.toArray true).wp P Q a w :=
 region_qtail (C:=fun w'=>∃ p:Regrown,w'=grow (redrawn w p.d) p.os) N hm hB ⟨⟨w.drawn+1,#[]⟩,by rw [grow_empty];rfl⟩ h
end
end Go.Proofs.YtpmcofmdjckijaaGreat
namespace Go.Proofs.YtpmcofmdjckijaaGreat
open Go.RowKit Go.Sort
end Go.Proofs.YtpmcofmdjckijaaGreat
namespace Go.Proofs.YtpmcofmdjckijaaGreat
end Go.Proofs.YtpmcofmdjckijaaGreat
