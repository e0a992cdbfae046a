/- Texts, laid into one. -/
import Derived.Test.YtpmcofmdjckijaaGreatZDg11
import Derived.Test.YtpmcofmdjckijaaGreatZDg6
import Derived.Lib.ItoaNum
import Derived.Lib.AppendIntMem
set_option linter.unusedVariables false
set_option linter.unusedSimpArgs false
set_option maxRecDepth 100000
set_option maxHeartbeats 16000000
namespace Go.Proofs.YtpmcofmdjckijaaGreat
open Go.RowKit Go.Sort
theorem rulesOf_len (ps:List RV):(rulesOf ps).length=ps.length:=by simp [rulesOf]
theorem OwnD.short {ps:List RV} (h:szD (rulesOf ps)≤1048576):ps.length≤9223372036854775807∧∀ p∈ps,ShortR p.r:=by
 refine ⟨by unfold szD at h;rw [rulesOf_len] at h;omega,fun p hp=>?_⟩;exact shortD_of h p.r (List.mem_map_of_mem hp)
def mkT (k:Nat) (i:Nat):Value:=.string (markT (k+i))
def mlen (r:DRule):Nat:=4+r.bytes.length+r.names.length+r.tags.length+r.kids.length
def mkCells (m:Nat × RV):List Value:=[.string (markT m.1),.int .i64 ((m.1:Int)+1),.int .i64 ((m.1:Int)+2),.bool (((m.1:Int)+3)%3==0),m.2.vb,m.2.vn,m.2.vt,m.2.vk]
def msR:Nat→List RV→List (Nat × RV)
 | _,[]=>[]
 | k,p::t=>(k,p)::msR (k+mlen p.r) t
def kEndR:Nat→List RV→Nat
 | k,[]=>k
 | k,p::t=>kEndR (k+mlen p.r) t
structure RuleMarked (w0 w:World) (k:Nat) (p:RV):Prop where
 b:Own 5 1 w0 w p.vb p.r.bytes.length ((List.range p.r.bytes.length).map (mk8 ((k:Int)+4)))
 n:Own 9 1 w0 w p.vn p.r.names.length ((List.range p.r.names.length).map (mkT (k+4+p.r.bytes.length)))
 t:Own 3 1 w0 w p.vt p.r.tags.length ((List.range p.r.tags.length).map (mkI ((k+4+p.r.bytes.length+p.r.names.length:Nat):Int)))
 k:Own 3 1 w0 w p.vk p.r.kids.length ((List.range p.r.kids.length).map (mkI ((k+4+p.r.bytes.length+p.r.names.length+p.r.tags.length:Nat):Int)))
theorem RuleMarked.keep {w0 w w':World} {k:Nat} {p:RV} (h:RuleMarked w0 w k p) {row:Option Nat} (hg:w.grownBy w' row) (hne:∀ v∈p.vals,∀ g,v.ownBlock=some g→row≠some g):RuleMarked w0 w' k p :=
 ⟨h.b.keep hg (hne _ (by simp [RV.vals])),h.n.keep hg (hne _ (by simp [RV.vals])),h.t.keep hg (hne _ (by simp [RV.vals])),h.k.keep hg (hne _ (by simp [RV.vals]))⟩
theorem RuleMarked.ext {w0 w w':World} {k:Nat} {p:RV} (h:RuleMarked w0 w k p) (e:Ext w w'):RuleMarked w0 w' k p:=⟨h.b.ext e,h.n.ext e,h.t.ext e,h.k.ext e⟩
structure MarkingR (w0 w:World) (g c:Nat) (ps:List RV) (k i:Nat):Prop where
 row:Own 96 8 w0 w (.slice (some ⟨g,0,none⟩) ps.length c) ps.length ((msR k (ps.take i)).flatMap mkCells++(ps.drop i).flatMap RV.cells)
 done:∀ j (h:j<ps.length),j<i→RuleMarked w0 w (kEndR k (ps.take j)) ps[j]
 todo:∀ j (h:j<ps.length),i≤j→RuleOwn w0 w ps[j]
structure WroteB (B:Nat→Prop) (w w':World):Prop where
 os:w'.os=w.os
 tape:w'.tape=w.tape
 output:w'.output=w.output
 size:w.heap.size≤w'.heap.size
 block:∀ k,k<w.heap.size→¬ B k→w'.heap[k]?=w.heap[k]?
theorem WroteB.refl (B:Nat→Prop) (w:World):WroteB B w w:=⟨rfl,rfl,rfl,Nat.le_refl _,fun _ _ _=>rfl⟩
theorem WroteB.trans {B:Nat→Prop} {a b c:World} (h:WroteB B a b) (k:WroteB B b c):WroteB B a c :=
 ⟨k.os.trans h.os,k.tape.trans h.tape,k.output.trans h.output,Nat.le_trans h.size k.size,fun i hi hb=>(k.block i (Nat.lt_of_lt_of_le hi h.size) hb).trans (h.block i hi hb)⟩
theorem WroteB.mono {B C:Nat→Prop} {a b:World} (h:WroteB B a b) (hC:∀ k,B k→C k):WroteB C a b:=⟨h.os,h.tape,h.output,h.size,fun i hi hb=>h.block i hi (fun hB=>hb (hC i hB))⟩
theorem WroteB.grown {B:Nat→Prop} {w w':World} {row:Option Nat} (h:w.grownBy w' row) (hr:∀ g,row=some g→B g):WroteB B w w' :=
 ⟨h.os,h.tape,h.output,h.size,fun i hi hb=>h.block i hi (fun e=>hb (hr i e.symm))⟩
theorem WroteB.ext {B:Nat→Prop} {w w':World} (e:Ext w w'):WroteB B w w':=⟨e.os,e.tape,e.output,e.size,fun i hi _=>Below.block e i hi⟩
theorem WroteB.wrote {B:Nat→Prop} {lo hi:Nat} {w w':World} (h:WroteB B w w') (hB:∀ k,B k→lo≤k∧k<hi):Wrote lo hi w w' :=
 ⟨h.os,h.tape,h.output,h.size,fun k hk hn=>h.block k hk (fun hb=>by have:=hB k hb;omega)⟩
def kEndG:Nat→List (Value × List RV)→Nat
 | k,[]=>k
 | k,q::t=>kEndG (kEndR k q.2) t
structure GMade (lo hi:Nat) (w:World) (v:Value) (qs:List (Value × List RV)):Prop where
 own:∃ w0:World,w0.heap.size=lo∧OwnG w0 w v qs
 blk:∀ u∈v::(qs.flatMap fun q=>q.1::q.2.flatMap RV.vals),∀ b,u.ownBlock=some b→lo≤b∧b<hi
theorem GMade.ext {lo hi:Nat} {w w':World} {v:Value} {qs:List (Value × List RV)} (h:GMade lo hi w v qs) (e:Ext w w'):GMade lo hi w' v qs:=⟨let ⟨w0,h0,h1⟩:=h.own;⟨w0,h0,h1.ext e⟩,h.blk⟩
def inG (qs:List (Value × List RV)) (b:Nat):Prop:=∃ q∈qs,∃ u∈q.1::q.2.flatMap RV.vals,u.ownBlock=some b
inductive DVal where
 | mk (num:Int) (bytes:List UInt8) (items:List DVal)
def DVal.num:DVal→Int | .mk n _ _=>n
def DVal.bytes:DVal→List UInt8 | .mk _ b _=>b
def DVal.items:DVal→List DVal | .mk _ _ l=>l
theorem DVal.eta (v:DVal):DVal.mk v.num v.bytes v.items=v:=by cases v;rfl
theorem DVal.ext' {u v:DVal} (h1:u.num=v.num) (h2:u.bytes=v.bytes) (h3:u.items=v.items):u=v:=by rw [← u.eta,← v.eta,h1,h2,h3]
theorem DVal.ind {P:DVal→Prop} (h:∀ v,(∀ x∈v.items,P x)→P v) (v:DVal):P v :=
 DVal.rec (motive_1:=P) (motive_2:=fun l=>∀ x∈l,P x) (fun n b its ih=>h (.mk n b its) ih) (fun x hx=>by cases hx)
  (fun x t hx ht y hy=>by
   rcases List.mem_cons.1 hy with rfl | h'
   ·exact hx
   ·exact ht y h') v
mutual
def szV:DVal→Nat
 | .mk _ b its=>b.length+szVs its
def szVs:List DVal→Nat
 | []=>0
 | x::t=>1+szV x+szVs t
end
theorem szV_eq (v:DVal):szV v=v.bytes.length+szVs v.items:=by cases v;rw [szV];rfl
theorem szVs_cons (x:DVal) (t:List DVal):szVs (x::t)=1+szV x+szVs t:=by rw [szVs]
theorem szVs_sum:∀ l:List DVal,szVs l=l.length+(l.map szV).sum
 | []=>by rw [szVs];rfl
 | x::t=>by rw [szVs,szVs_sum t,List.map_cons,List.sum_cons,List.length_cons];omega
theorem szVs_mem {l:List DVal} {x:DVal} (h:x∈l):szV x+l.length≤szVs l:=by
 rw [szVs_sum];have:=sum_mem szV l x h;omega
theorem szVs_take (l:List DVal) (k:Nat) (hk:k<l.length):((l.take (k+1)).map szV).sum=((l.take k).map szV).sum+szV l[k]:=sum_take szV l k hk
theorem szV_item {v x:DVal} (h:x∈v.items):szV x<szV v:=by
 rw [szV_eq v];have:=szVs_mem h;have:=List.length_pos_of_mem h;omega
inductive WfV:DVal→Prop
 | mk {v:DVal} (n:(Lit.int .i64 v.num).wf=true) (i:∀ x∈v.items,WfV x):WfV v
theorem WfV.num {v:DVal} (h:WfV v):(Lit.int .i64 v.num).wf=true:=by cases h;assumption
theorem WfV.item {v:DVal} (h:WfV v) {x:DVal} (hx:x∈v.items):WfV x:=by cases h;rename_i n i;exact i x hx
structure ValAt (w:World) (b o:Nat) (v:DVal) (vb vi:Value):Prop where
 c0:∀ (w':World),Ext w w'→w'.cell? ⟨b,o,none⟩=some (.int .i64 v.num)
 c1:∀ (w':World),Ext w w'→w'.cell? ⟨b,o+1,none⟩=some vb
 c2:∀ (w':World),Ext w w'→w'.cell? ⟨b,o+2,none⟩=some vi
theorem ValAt.ext {w w':World} {b o:Nat} {v:DVal} {vb vi:Value} (h:ValAt w b o v vb vi) (e:Ext w w'):ValAt w' b o v vb vi :=
 ⟨fun w1 e1=>h.c0 w1 (e.trans e1),fun w1 e1=>h.c1 w1 (e.trans e1),fun w1 e1=>h.c2 w1 (e.trans e1)⟩
inductive RdVs (w:World):Option Addr→List DVal→Nat→Prop
 | mk {A:Option Addr} {its:List DVal} {c:Nat} (cap:its.length≤c) (len:its.length≤9223372036854775807) (b off:Nat) (hA:0<its.length→A=some ⟨b,off,none⟩∧b<w.heap.size)
  (Ab:Nat→Option Addr) (cb:Nat→Nat) (Ai:Nat→Option Addr) (ci:Nat→Nat)
  (byt:∀ i (h:i<its.length),Rd0 vu8 w (Ab i) its[i].bytes (cb i))
  (cells:∀ i (h:i<its.length),ValAt w b (off+i*3) its[i] (.slice (Ab i) its[i].bytes.length (cb i)) (.slice (Ai i) its[i].items.length (ci i)))
  (kids:∀ i (h:i<its.length),RdVs w (Ai i) its[i].items (ci i)):RdVs w A its c
theorem RdVs.ext {w w':World} {A:Option Addr} {its:List DVal} {c:Nat} (h:RdVs w A its c) (e:Ext w w'):RdVs w' A its c:=by
 induction h with
 | mk cap len b off hA Ab cb Ai ci byt cells kids ih =>
  exact .mk cap len b off (fun hp=>⟨(hA hp).1,Nat.lt_of_lt_of_le (hA hp).2 e.size⟩) Ab cb Ai ci (fun i h=>(byt i h).ext e) (fun i h=>(cells i h).ext e) (fun i h=>ih i h)
theorem RdVs.len {w:World} {A:Option Addr} {its:List DVal} {c:Nat} (h:RdVs w A its c):its.length≤9223372036854775807:=by cases h;assumption
theorem RdVs.cap {w:World} {A:Option Addr} {its:List DVal} {c:Nat} (h:RdVs w A its c):its.length≤c:=by cases h;assumption
structure RdV (w:World) (v:DVal) (Ab:Option Addr) (cb:Nat) (Ai:Option Addr) (ci:Nat):Prop where
 b:Rd0 vu8 w Ab v.bytes cb
 i:RdVs w Ai v.items ci
theorem RdV.ext {w w':World} {v:DVal} {Ab:Option Addr} {cb:Nat} {Ai:Option Addr} {ci:Nat} (h:RdV w v Ab cb Ai ci) (e:Ext w w'):RdV w' v Ab cb Ai ci:=⟨h.b.ext e,h.i.ext e⟩
def vval (v:DVal) (vb vi:Value):Value:=.agg #[.int .i64 v.num,vb,vi]
theorem RdVs.at {w:World} {A:Option Addr} {its:List DVal} {c:Nat} (h:RdVs w A its c) (i:Nat) (hi:i<its.length) :
 ∃ b off Ab cb Ai ci,A=some ⟨b,off,none⟩∧b<w.heap.size∧RdV w its[i] Ab cb Ai ci∧ValAt w b (off+i*3) its[i] (.slice Ab its[i].bytes.length cb) (.slice Ai its[i].items.length ci):=by
 cases h with
 | mk cap len b off hA Ab cb Ai ci byt cells kids =>
  exact ⟨b,off,Ab i,cb i,Ai i,ci i,(hA (by omega)).1,(hA (by omega)).2,⟨byt i hi,kids i hi⟩,cells i hi⟩
theorem RdVs.of {w:World} {A:Option Addr} {its:List DVal} {c:Nat} (cap:its.length≤c) (len:its.length≤9223372036854775807) (b off:Nat) (hA:0<its.length→A=some ⟨b,off,none⟩∧b<w.heap.size)
 (h:∀ i (hi:i<its.length),∃ Ab cb Ai ci,RdV w its[i] Ab cb Ai ci∧ValAt w b (off+i*3) its[i] (.slice Ab its[i].bytes.length cb) (.slice Ai its[i].items.length ci)):RdVs w A its c:=by
 have h':∀ i,∃ q:Option Addr × Nat × Option Addr × Nat,∀ hi:i<its.length,RdV w its[i] q.1 q.2.1 q.2.2.1 q.2.2.2∧ValAt w b (off+i*3) its[i] (.slice q.1 its[i].bytes.length q.2.1) (.slice q.2.2.1 its[i].items.length q.2.2.2):=fun i=>by
  by_cases hi:i<its.length
  ·obtain ⟨Ab,cb,Ai,ci,h1⟩:=h i hi
   exact ⟨(Ab,cb,Ai,ci),fun _=>h1⟩
  ·exact ⟨(none,0,none,0),fun hh=>absurd hh hi⟩
 obtain ⟨f,hf⟩:=Classical.axiomOfChoice h';exact .mk cap len b off hA (fun i=>(f i).1) (fun i=>(f i).2.1) (fun i=>(f i).2.2.1) (fun i=>(f i).2.2.2) (fun i hi=>(hf i hi).1.b) (fun i hi=>(hf i hi).2) (fun i hi=>(hf i hi).1.i)
theorem RdVs.nil (w:World):RdVs w none [] 0:=.of (by simp) (by simp) 0 0 (fun h=>by simp at h) (fun i h=>by simp at h)
inductive VT where
 | mk (num:Int) (bs:List UInt8) (vb:Value) (its:List VT) (vi:Value)
def VT.num:VT→Int | .mk n _ _ _ _=>n
def VT.bs:VT→List UInt8 | .mk _ b _ _ _=>b
def VT.vb:VT→Value | .mk _ _ v _ _=>v
def VT.its:VT→List VT | .mk _ _ _ l _=>l
def VT.vi:VT→Value | .mk _ _ _ _ v=>v
theorem VT.ind {P:VT→Prop} (h:∀ t,(∀ x∈t.its,P x)→P t) (t:VT):P t :=
 VT.rec (motive_1:=P) (motive_2:=fun l=>∀ x∈l,P x) (fun n b vb its vi ih=>h (.mk n b vb its vi) ih) (fun x hx=>by cases hx)
  (fun x t hx ht y hy=>by
   rcases List.mem_cons.1 hy with rfl | h'
   ·exact hx
   ·exact ht y h') t
mutual
def VT.val:VT→DVal
 | .mk n b _ its _=>.mk n b (valsOf its)
def valsOf:List VT→List DVal
 | []=>[]
 | x::t=>x.val::valsOf t
end
mutual
def VT.vals:VT→List Value
 | .mk _ _ vb its vi=>vb::vi::valsVs its
def valsVs:List VT→List Value
 | []=>[]
 | x::t=>x.vals++valsVs t
end
theorem valsOf_map:∀ l:List VT,valsOf l=l.map VT.val
 | []=>by rw [valsOf];rfl
 | x::t=>by rw [valsOf,valsOf_map t];rfl
theorem valsVs_flat:∀ l:List VT,valsVs l=l.flatMap VT.vals
 | []=>by rw [valsVs];rfl
 | x::t=>by rw [valsVs,valsVs_flat t,List.flatMap_cons]
theorem VT.vals_eq (t:VT):t.vals=t.vb::t.vi::t.its.flatMap VT.vals:=by cases t;rw [VT.vals,valsVs_flat];rfl
theorem VT.val_num (t:VT):t.val.num=t.num:=by cases t;rw [VT.val];rfl
theorem VT.val_bytes (t:VT):t.val.bytes=t.bs:=by cases t;rw [VT.val];rfl
theorem VT.val_items (t:VT):t.val.items=valsOf t.its:=by cases t;rw [VT.val];rfl
theorem valsOf_len (l:List VT):(valsOf l).length=l.length:=by rw [valsOf_map,List.length_map]
theorem valsOf_append (a b:List VT):valsOf (a++b)=valsOf a++valsOf b:=by rw [valsOf_map,valsOf_map,valsOf_map,List.map_append]
theorem valsOf_get (l:List VT) (i:Nat) (h:i<(valsOf l).length):(valsOf l)[i]=(l[i]'(by rwa [valsOf_len] at h)).val:=by simp [valsOf_map]
def VT.cells (t:VT):List Value:=[.int .i64 t.num,t.vb,t.vi]
theorem VT.one {t:VT} (hb:t.vb.oneCell'=true) (hi:t.vi.oneCell'=true):∀ u∈t.cells,u.oneCell'=true:=by
 intro u hu;simp only [VT.cells,List.mem_cons,List.not_mem_nil,or_false] at hu;rcases hu with rfl | rfl | rfl<;>first | rfl | assumption
inductive OwnT (w0 w:World):VT→Prop
 | mk {t:VT} (b:OwnL vu8 5 w0 w t.vb t.bs) (i:Own 46 3 w0 w t.vi t.its.length (t.its.flatMap VT.cells)) (kids:∀ x∈t.its,OwnT w0 w x):OwnT w0 w t
theorem OwnT.b {w0 w:World} {t:VT} (h:OwnT w0 w t):OwnL vu8 5 w0 w t.vb t.bs:=by cases h;assumption
theorem OwnT.i {w0 w:World} {t:VT} (h:OwnT w0 w t):Own 46 3 w0 w t.vi t.its.length (t.its.flatMap VT.cells):=by cases h;assumption
theorem OwnT.kids {w0 w:World} {t:VT} (h:OwnT w0 w t):∀ x∈t.its,OwnT w0 w x:=by cases h;assumption
theorem mem_vals {t x:VT} (hx:x∈t.its) {u:Value} (hu:u∈x.vals):u∈t.vals:=by
 rw [VT.vals_eq];exact List.mem_cons_of_mem _ (List.mem_cons_of_mem _ (List.mem_flatMap.2 ⟨x,hx,hu⟩))
theorem vb_mem (t:VT):t.vb∈t.vals:=by rw [VT.vals_eq];simp
theorem vi_mem (t:VT):t.vi∈t.vals:=by rw [VT.vals_eq];simp
theorem OwnT.ext {w0 w w':World} {t:VT} (h:OwnT w0 w t) (e:Ext w w'):OwnT w0 w' t:=by
 induction h with
 | mk b i kids ih=>exact .mk (b.ext e) (i.ext e) ih
theorem OwnT.down {w0 w1 w:World} {t:VT} (h:OwnT w1 w t) (e:w0.heap.size≤w1.heap.size):OwnT w0 w t:=by
 induction h with
 | mk b i kids ih=>exact .mk (OwnL.down b e) (World.ownsRow.lower i e) ih
theorem OwnT.keep {w0 w w':World} {t:VT} (h:OwnT w0 w t) {row:Option Nat} (hg:w.grownBy w' row) (hne:∀ v∈t.vals,∀ g,v.ownBlock=some g→row≠some g):OwnT w0 w' t:=by
 induction h with
 | mk b i kids ih =>
  rename_i t
  exact .mk (b.keep hg (hne _ (vb_mem t))) (i.keep hg (hne _ (vi_mem t))) (fun x hx=>ih x hx (fun v hv=>hne v (mem_vals hx hv)))
theorem OwnT.wrote {w0 w w':World} {t:VT} (h:OwnT w0 w t) {lo hi:Nat} (hw:Wrote lo hi w w') (hv:∀ v∈t.vals,∀ g,v.ownBlock=some g→g<lo∨hi≤g):OwnT w0 w' t:=by
 induction h with
 | mk b i kids ih =>
  rename_i t
  exact .mk (b.wrote hw (hv _ (vb_mem t))) (i.wrote hw (hv _ (vi_mem t))) (fun x hx=>ih x hx (fun v h=>hv v (mem_vals hx h)))
theorem OwnT.block {w0 w:World} {t:VT} (h:OwnT w0 w t):∀ v∈t.vals,∀ g,v.ownBlock=some g→w0.heap.size≤g∧g<w.heap.size:=by
 induction h with
 | mk b i kids ih =>
  rename_i t
  intro v hv;rw [VT.vals_eq] at hv;rcases List.mem_cons.1 hv with rfl | hv
  ·exact fun g hg=>World.ownsRow.lt b g hg
  rcases List.mem_cons.1 hv with rfl | hv
  ·exact fun g hg=>World.ownsRow.lt i g hg
  ·obtain ⟨x,hx,hv⟩:=List.mem_flatMap.1 hv
   exact ih x hx v hv
structure OwnTs (w0 w:World) (v:Value) (ps:List VT):Prop where
 row:Own 46 3 w0 w v ps.length (ps.flatMap VT.cells)
 each:∀ p∈ps,OwnT w0 w p
 far:Far (v::ps.flatMap VT.vals)
theorem Own.shape {e:TypeId} {size:Nat} {w0 w:World} {v:Value} {n:Nat} {xs:List Value} (h:Own e size w0 w v n xs):∃ A c,v=.slice A n c:=by
 rcases h.2 with ⟨rfl,hn⟩ | ⟨g,cap,_,rfl,_⟩
 ·exact ⟨none,0,by rw [hn]⟩
 ·exact ⟨_,_,rfl⟩
theorem OwnTs.shape {w0 w:World} {v:Value} {ps:List VT} (h:OwnTs w0 w v ps):∃ A c,v=.slice A ps.length c:=h.row.shape
theorem OwnTs.ext {w0 w w':World} {v:Value} {ps:List VT} (h:OwnTs w0 w v ps) (e:Ext w w'):OwnTs w0 w' v ps:=⟨h.row.ext e,fun p hp=>(h.each p hp).ext e,h.far⟩
theorem OwnTs.down {w0 w1 w:World} {v:Value} {ps:List VT} (h:OwnTs w1 w v ps) (e:w0.heap.size≤w1.heap.size):OwnTs w0 w v ps:=⟨World.ownsRow.lower h.row e,fun p hp=>(h.each p hp).down e,h.far⟩
theorem OwnTs.keep {w0 w w':World} {v:Value} {ps:List VT} (h:OwnTs w0 w v ps) {row:Option Nat} (hg:w.grownBy w' row) (hne:∀ u∈v::ps.flatMap VT.vals,∀ g,u.ownBlock=some g→row≠some g):OwnTs w0 w' v ps :=
 ⟨h.row.keep hg (hne _ (by simp)),fun p hp=>(h.each p hp).keep hg (fun u hu=>hne u (List.mem_cons_of_mem _ (List.mem_flatMap.2 ⟨p,hp,hu⟩))),h.far⟩
theorem OwnTs.block {w0 w:World} {v:Value} {ps:List VT} (h:OwnTs w0 w v ps):∀ u∈v::ps.flatMap VT.vals,∀ g,u.ownBlock=some g→w0.heap.size≤g∧g<w.heap.size:=by
 intro u hu;rcases List.mem_cons.1 hu with rfl | hu
 ·exact fun g hg=>World.ownsRow.lt h.row g hg
 ·obtain ⟨p,hp,hu⟩:=List.mem_flatMap.1 hu
  exact (h.each p hp).block u hu
theorem vcells_get:∀ (ps:List VT) (i j:Nat) (h:i<ps.length),j<3→(ps.flatMap VT.cells)[i*3+j]?=ps[i].cells[j]?:=by
 intro ps
 induction ps with
 | nil=>intro i j h;simp at h
 | cons p t ih =>
  intro i j h hj;rw [List.flatMap_cons];cases i with
  | zero =>
   rw [List.getElem?_append_left (by simp [VT.cells];omega)];simp
  | succ i =>
   rw [List.getElem?_append_right (by simp [VT.cells];omega)]
   have:(i+1)*3+j-p.cells.length=i*3+j:=by simp [VT.cells];omega
   rw [this,ih i j (by simpa using h) hj];simp
theorem bytes_le (v:DVal):v.bytes.length≤szV v:=by rw [szV_eq];omega
theorem items_le (v:DVal):v.items.length≤szV v:=by rw [szV_eq,szVs_sum];omega
theorem szVs_le_szV (v:DVal):szVs v.items≤szV v:=by rw [szV_eq];omega
theorem RdVs.of_row {w0 w:World} {v:Value} {ps:List VT} (hrow:Own 46 3 w0 w v ps.length (ps.flatMap VT.cells)) (hl:ps.length≤9223372036854775807)
 (hk:∀ p∈ps,∃ Ab cb Ai ci,p.vb=.slice Ab p.val.bytes.length cb∧p.vi=.slice Ai p.val.items.length ci∧RdV w p.val Ab cb Ai ci):∃ A c,v=.slice A (valsOf ps).length c∧RdVs w A (valsOf ps) c:=by
 have hlen:=valsOf_len ps;rcases hrow.2 with ⟨rfl,h0⟩ | ⟨g,cap,cur,rfl,hb,hg,hnc,hcm,hcs,htake⟩
 ·refine ⟨none,0,by rw [hlen,h0],?_⟩
  obtain rfl:ps=[]:=List.eq_nil_of_length_eq_zero h0
  rw [valsOf];exact RdVs.nil w
 ·refine ⟨_,_,by rw [hlen],.of (by omega) (by omega) g 0 (fun _=>⟨rfl,(Array.getElem?_eq_some_iff.1 hg).1⟩) (fun i hi=>?_)⟩
  have hi':i<ps.length:=by omega
  rw [valsOf_get ps i hi]
  have hc:∀ (w':World),Ext w w'→∀ j,j<3→w'.cell? ⟨g,i*3+j,none⟩=ps[i].cells[j]?:=by
   intro w' e j hj;rw [heap_row hg e,← vcells_get ps i j hi' hj,← htake,List.getElem?_take,if_pos (by omega)];simp
  obtain ⟨Ab,cb,Ai,ci,e1,e2,hR⟩:=hk _ (List.getElem_mem hi');refine ⟨Ab,cb,Ai,ci,hR,?_⟩;rw [← e1,← e2,Nat.zero_add];exact ⟨fun w' e=>by have:=hc w' e 0 (by omega);simpa [VT.cells,VT.val_num] using this,fun w' e=>by have:=hc w' e 1 (by omega);simpa [VT.cells] using this,fun w' e=>by have:=hc w' e 2 (by omega);simpa [VT.cells] using this⟩
theorem OwnT.rd {w0 w:World} {t:VT} (h:OwnT w0 w t) (hz:szV t.val≤140737488351232):∃ Ab cb Ai ci,t.vb=.slice Ab t.val.bytes.length cb∧t.vi=.slice Ai t.val.items.length ci∧RdV w t.val Ab cb Ai ci:=by
 induction h with
 | mk b i kids ih =>
  rename_i t
  have hb1:=bytes_le t.val;have hi1:=items_le t.val;rw [VT.val_bytes] at hb1;rw [VT.val_items,valsOf_len] at hi1;obtain ⟨Ab,cb,e1,r1⟩:=OwnL.rd b (by omega)
  obtain ⟨Ai,ci,e2,r2⟩:=RdVs.of_row i (by omega) (fun p hp=>ih p hp (by
   have:szV p.val<szV t.val:=szV_item (by rw [VT.val_items,valsOf_map];exact List.mem_map_of_mem hp)
   omega))
  exact ⟨Ab,cb,Ai,ci,by rw [VT.val_bytes];exact e1,by rw [VT.val_items];exact e2,⟨by rw [VT.val_bytes];exact r1.1,by rw [VT.val_items];exact r2⟩⟩
theorem OwnTs.rd {w0 w:World} {v:Value} {ps:List VT} (h:OwnTs w0 w v ps) (hz:szVs (valsOf ps)≤140737488351232):∃ A c,v=.slice A (valsOf ps).length c∧RdVs w A (valsOf ps) c :=
 RdVs.of_row h.row (by have:=szVs_sum (valsOf ps);rw [valsOf_len] at this;omega) (fun p hp=>(h.each p hp).rd (by
  have:=szVs_mem (l:=valsOf ps) (x:=p.val) (by rw [valsOf_map];exact List.mem_map_of_mem hp);omega))
theorem set3 (xs:List Value) (p:VT) (rest:List Value) (hr:3≤rest.length) (k:Nat) (hk:xs.length=k) :
 (((xs++rest).set k (.int .i64 p.num)).set (k+1) p.vb).set (k+2) p.vi=(xs++p.cells)++rest.drop 3:=by
 match rest,hr with
 | a0::a1::a2::t,_ =>
  subst hk;rw [List.set_append_right _ _ (by omega),List.set_append_right _ _ (by omega),List.set_append_right _ _ (by omega)];rw [show xs.length-xs.length=0 by omega,show xs.length+1-xs.length=1 by omega,show xs.length+2-xs.length=2 by omega];simp [VT.cells]
def put3 (w:World) (g k:Nat) (p:VT):World:=((w.setCell ⟨g,k,none⟩ (.int .i64 p.num)).setCell ⟨g,k+1,none⟩ p.vb).setCell ⟨g,k+2,none⟩ p.vi
theorem grown_put3 (w:World) (g k:Nat) (p:VT):w.grownBy (put3 w g k p) (some g):=by
 unfold put3;exact ((grown_set w ⟨g,k,none⟩ _).trans (grown_set _ ⟨g,k+1,none⟩ _)).trans (grown_set _ ⟨g,k+2,none⟩ _)
theorem Own.put3 {e:TypeId} {w0 w:World} {g n cap:Nat} {xs rest:List Value} (h:Own e 3 w0 w (.slice (some ⟨g,0,none⟩) n cap) n (xs++rest)) (he:Ext w0 w) (p:VT) (hr:3≤rest.length) (k:Nat) (hk:xs.length=k) :
 Own e 3 w0 (put3 w g k p) (.slice (some ⟨g,0,none⟩) n cap) n ((xs++p.cells)++rest.drop 3)∧Ext w0 (put3 w g k p):=by
 rw [← set3 xs p rest hr k hk];obtain ⟨h0,e0⟩:=h.store he k (.int .i64 p.num);obtain ⟨h1,e1⟩:=Own.store h0 e0 (k+1) p.vb;obtain ⟨h2,e2⟩:=Own.store h1 e1 (k+2) p.vi;exact ⟨h2,e2⟩
structure GotV (w w':World) (t:VT) (v:DVal):Prop where
 val:t.val=v
 own:OwnT w w' t
 far:Far t.vals
theorem GotV.ext {w w' w'':World} {t:VT} {v:DVal} (h:GotV w w' t v) (e:Ext w' w''):GotV w w'' t v:=⟨h.val,h.own.ext e,h.far⟩
theorem GotV.down {w0 w w':World} {t:VT} {v:DVal} (h:GotV w w' t v) (e:w0.heap.size≤w.heap.size):GotV w0 w' t v:=⟨h.val,h.own.down e,h.far⟩
theorem GotV.rd {w w':World} {t:VT} {v:DVal} (h:GotV w w' t v) (hz:szV v≤140737488351232):∃ Ab cb Ai ci,t.vb=.slice Ab v.bytes.length cb∧t.vi=.slice Ai v.items.length ci∧RdV w' v Ab cb Ai ci:=by
 obtain ⟨e,o,_⟩:=h;subst e;exact o.rd hz
theorem GotV.num {w w':World} {t:VT} {v:DVal} (h:GotV w w' t v):t.num=v.num:=by rw [← h.val,VT.val_num]
def itoaB (n:Int):ByteArray:=⟨(Lib.itoa n).toArray⟩
theorem nDigits_le {u:Nat} {k:Nat} (hk:1≤k) (h:u<10^k):Lib.nDigits u≤k:=by
 rcases Nat.lt_or_ge u 10 with hu | hu
 ·rw [Lib.nDigits_small hu];exact hk
 ·obtain ⟨j,hj⟩:∃ j,Lib.nDigits u=j+1:=⟨Lib.nDigits u-1,by have:=Lib.nDigits_pos u;omega⟩
  rw [hj];refine Nat.le_of_not_lt fun hlt=>?_
  have h1:10^j≤u:=by
   have:=Lib.lt_pow_nDigits (u / 10);rw [Lib.nDigits_big (by omega)] at hj;have hj':Lib.nDigits (u / 10)=j:=by omega
   clear this hlt h hk
   have hmin:∀ (m v:Nat),Lib.nDigits v=m→1≤v→10^(m-1)≤v:=by
    intro m
    induction m with
    | zero=>intro v hv h1;have:=Lib.nDigits_pos v;omega
    | succ m ih =>
     intro v hv h1;rcases Nat.lt_or_ge v 10 with hv10 | hv10
     ·rw [Lib.nDigits_small hv10] at hv;obtain rfl:m=0:=by omega
      simpa using h1
     ·rw [Lib.nDigits_big (by omega)] at hv
      have h2:=ih (v / 10) (by omega) (by omega);obtain ⟨m',rfl⟩:∃ m',m=m'+1:=⟨m-1,by have:=Lib.nDigits_pos (v/10);omega⟩;simp only [Nat.add_sub_cancel] at h2 ⊢;rw [Nat.pow_succ];omega
   have:=hmin (j+1) u (by rw [Lib.nDigits_big (by omega)];omega) (by omega)
   simpa using this
  have:10^k≤10^j:=Nat.pow_le_pow_right (by omega) (by omega)
  omega
theorem itoa_size (n:Int) (h0 : -9223372036854775808≤n) (h1:n≤9223372036854775807):(itoaB n).size≤20:=by
 show (Lib.itoa n).toArray.size≤20
 rw [List.size_toArray];unfold Lib.itoa
 split
 ·simp only [List.length_cons,Lib.decDigits_length]
  have:=nDigits_le (u:=n.natAbs) (k:=19) (by omega) (by omega)
  omega
 ·rw [Lib.decDigits_length]
  have:=nDigits_le (u:=n.toNat) (k:=19) (by omega) (by omega)
  omega
theorem mt_dec {n:Nat} (h:0<n) (s:ByteArray):mt n s=⟨(Lib.decDigits n).toArray⟩++s:=by
 induction n using Nat.strongRecOn generalizing s with
 | _ n ih =>
  rw [mt_step h]
  by_cases h10:n<10
  ·rw [show n / 10=0 by omega,mt_zero,Lib.decDigits_one h10]
   show _=(⟨#[UInt8.ofNat (48+n)]⟩:ByteArray)++s
   rw [dig8,Nat.mod_eq_of_lt h10]
  ·rw [ih (n / 10) (by omega) (by omega)]
   conv=>rhs;rw [Lib.decDigits,dif_neg h10]
   apply ByteArray.ext
   simp [ByteArray.data_append,dig8]
theorem itoaB_pos {n:Nat} (h:0<n):itoaB n=mt n ⟨#[]⟩:=by
 rw [mt_dec h];unfold itoaB Lib.itoa;rw [if_neg (by omega)]
 apply ByteArray.ext
 simp [ByteArray.data_append]
theorem itoaB_neg {n:Nat} (h:0<n):itoaB (-(n:Int))=⟨#[45]⟩++mt n ⟨#[]⟩:=by
 rw [mt_dec h];unfold itoaB Lib.itoa;rw [if_pos (by omega)]
 apply ByteArray.ext
 simp [ByteArray.data_append]
theorem itoaB_zero:itoaB 0=⟨#[48]⟩:=by
 unfold itoaB Lib.itoa;rw [if_neg (by omega),show (0:Int).toNat=0 from rfl,Lib.decDigits_one (by omega)];rfl
theorem sFormatInt_pos (k:Nat) (w:World) (hk:0<k) (hk2:k≤9223372036854775807) :
 Gives Tryz.prog 131 #[.int .i64 k] w (.string (mt k ⟨#[]⟩)):=by
 have dk:decide ((k:Int)<0)=false:=decide_eq_false (by omega)
 go_enter Tryz.func131,Tryz.ntmps131;go_wp2;go_loopw [4,3] (fun kk t wr=>∃ (n:Nat) (s:ByteArray),s.size+n≤k∧kk=.int .i64 n∧t=.string s∧Hid (mt n s=mt k ⟨#[]⟩)∧Ext w wr) (fun kk _ _=>(intOf kk).toNat)
 case atStart=>exact ⟨k,⟨#[]⟩,Nat.le_of_eq (Nat.zero_add k),rfl,rfl,rfl,Ext.refl _⟩
 case round =>
  obtain ⟨n,s,hn,rfl,rfl,hs,he⟩:=hrel
  by_cases h0:0<n
  ·have hst:=lhd ((mt_step h0 s).symm.trans hs.out)
   have hcv:∀ w':World,(convert 22 9 (.slice (some ⟨w'.heap.size,0,none⟩) 1 1)).run Tryz.prog (w'.alloc (.cells #[.int .u8 (48+(n:Int)%10)] 5))=.ok (.string ⟨#[dig8 n]⟩) (w'.alloc (.cells #[.int .u8 (48+(n:Int)%10)] 5)):=by
    intro w'
    have:=run_one_byte w' (48+n%10);rw [show ((48+n%10:Nat):Int)=48+(n:Int)%10 by omega] at this;exact this
   have hcvr:=hcv wr;clear hcv;go_wp2;go_roundw
   case rel=>exact ⟨n / 10,_,by rw [ByteArray.size_append];show 1+s.size+n / 10≤k;omega,by go_num,rfl,hst,Ext_alloc _ he⟩
   case measure=>simp [intOf];omega
  ·obtain rfl:n=0:=by omega
   have hs2:=lhd ((mt_zero s).symm.trans hs.out);clear hs;go_wp2;go_ret;exact ⟨by rw [hs2.out];rfl,he⟩
theorem sFormatInt_neg (k:Nat) (w:World) (hk:0<k) (hk2:k≤9223372036854775808) :
 Gives Tryz.prog 131 #[.int .i64 (-(k:Int))] w (.string (⟨#[45]⟩++mt k ⟨#[]⟩)):=by
 have dk:decide (-(k:Int)<0)=true:=decide_eq_true (by omega)
 go_enter Tryz.func131,Tryz.ntmps131;go_wp2;go_loopw [4,3] (fun kk t wr=>∃ (n:Nat) (s:ByteArray),2*s.size+n≤k+1∧(0<n→2*s.size+n≤k)∧kk=.int .i64 (-(n:Int))∧t=.string s∧Hid (mt n s=mt k ⟨#[]⟩)∧Ext w wr) (fun kk _ _=>(-(intOf kk)).toNat)
 case atStart=>exact ⟨k,⟨#[]⟩,by show 2*0+k≤k+1;omega,fun _=>Nat.le_of_eq (Nat.zero_add k),rfl,rfl,rfl,Ext.refl _⟩
 case round =>
  obtain ⟨n,s,hn,hn2,rfl,rfl,hs,he⟩:=hrel
  by_cases h0:0<n
  ·have hn3:=hn2 h0
   have hst:=lhd ((mt_step h0 s).symm.trans hs.out)
   have hcv:∀ w':World,(convert 22 9 (.slice (some ⟨w'.heap.size,0,none⟩) 1 1)).run Tryz.prog (w'.alloc (.cells #[.int .u8 (48+(n:Int)%10)] 5))=.ok (.string ⟨#[dig8 n]⟩) (w'.alloc (.cells #[.int .u8 (48+(n:Int)%10)] 5)):=by
    intro w'
    have:=run_one_byte w' (48+n%10);rw [show ((48+n%10:Nat):Int)=48+(n:Int)%10 by omega] at this;exact this
   have hcvr:=hcv wr;have hmod:(-(n:Int)).tmod 10 = -((n:Int)%10):=by rw [Int.neg_tmod,Int.tmod_eq_emod_of_nonneg (by omega)]
   have hdiv:(-(n:Int)).tdiv 10 = -((n:Int) / 10):=by rw [Int.neg_tdiv,Int.tdiv_eq_ediv_of_nonneg (by omega)]
   clear hcv
   by_cases hm:(n:Int)%10=0
   ·rw [hm,Int.add_zero] at hcvr
    go_wp2;go_roundw
    case rel=>exact ⟨n / 10,_,by rw [ByteArray.size_append];show 2*(1+s.size)+n / 10≤k+1;omega,fun h=>by rw [ByteArray.size_append];show 2*(1+s.size)+n / 10≤k;omega,by go_num,rfl,hst,Ext_alloc _ he⟩
    case measure=>simp [intOf];omega
   ·go_wp2
    go_roundw
    case rel=>exact ⟨n / 10,_,by rw [ByteArray.size_append];show 2*(1+s.size)+n / 10≤k+1;omega,fun h=>by rw [ByteArray.size_append];show 2*(1+s.size)+n / 10≤k;omega,by go_num,rfl,hst,Ext_alloc _ he⟩
    case measure=>simp [intOf];omega
  ·obtain rfl:n=0:=by omega
   have hsz:s.size≤4611686018427387904:=by omega
   have z0:(-((0:Nat):Int) !=0)=false:=by simp
   have hs2:=lhd ((mt_zero s).symm.trans hs.out);clear hs;go_wp2
   all_goals go_ret
   all_goals exact ⟨by rw [hs2.out];rfl,he⟩
theorem sFormatInt_c (n:Int) (w:World) (h0 : -9223372036854775808≤n) (h1:n≤9223372036854775807) :
 Gives Tryz.prog 131 #[.int .i64 n] w (.string (itoaB n)):=by
 rcases Int.lt_trichotomy n 0 with h | rfl | h
 ·obtain ⟨k,rfl⟩:∃ k:Nat,n = -(k:Int):=⟨n.natAbs,by omega⟩
  rw [itoaB_neg (by omega)];exact sFormatInt_neg k w (by omega) (by omega)
 ·rw [itoaB_zero]
  go_enter Tryz.func131,Tryz.ntmps131;go_wp2;go_ret;exact ⟨rfl,Ext.refl _⟩
 ·obtain ⟨k,rfl⟩:∃ k:Nat,n=(k:Int):=⟨n.toNat,by omega⟩
  rw [itoaB_pos (by omega)];exact sFormatInt_pos k w (by omega) (by omega)
section
variable {P:Program} {ops:Array Oper} {o:Oper} {a:Act} {Q:Exit→Act→World→Prop} {K:Act→World→Prop} {E:Prop}
theorem step_app8 (hgd:o.guard=none) (s x:Operand) (t:TypeId) (ho:o.op=.call { callee:=.builtin .append,args:=#[s,x],argTypes:=#[t,t] })
 {e:TypeId} {size bytes:Nat} {z:Value} (hE:Elem P t e size bytes z) (w0 w:World) (v:Value) (n:Nat) (xs:List Value) (hs:a.eval s=v) (hown:Own e size w0 w v n xs) (he:w0.heap.size≤w.heap.size)
 (ad:Addr) (m c:Nat) (news:List Value) (hx:a.eval x=.slice (some ad) m c) (hl:news.length=m*size) (hA:∀ j u,news[j]?=some u→w.cell? (ad.add j)=some u) (h1:∀ u∈news,u.oneCell'=true)
 (hm:n+m≤maxLen) (hb:(n+m)*bytes≤140737488355328)
 (h:∀ v' w',Own e size w0 w' v' (n+m) (xs++news)→w.grownBy w' v.ownBlock→(v'.ownBlock=v.ownBlock∨v'.ownBlock=some w.heap.size)→K (a.put o.dst v') w') :
 if Region.wanted o (yielded ops a.tmps)=true then Oper.wp P o a w K Q else E:=by
 have hw:Region.wanted o (yielded ops a.tmps)=true:=by simp [Region.wanted,hgd]
 rw [if_pos hw];obtain ⟨i0,hi0,hz0,hz1,hz2⟩:=info_parts hE.hi;obtain ⟨v',w',hr,h2,h3,h4,h5⟩:=run_append_own_at (P:=P) w w0.heap.size t o.type e i0 z size bytes hE.ht hi0 hz0 hz1 hz2 hE.hz hE.hs v n xs hown ad m c news hl hA h1 hm hb he;unfold Oper.wp execOp;simp only [ho,resolve,invoke,builtin,Sem.run_bind,Sem.run_pure,Result.andThen_ok,List.map_toArray,List.map_cons,List.map_nil,hs,hx,hr];exact h v' w' h2 h3 h5
end
theorem vals_cells_one (p:RV) {w0 w:World} (h:RuleOwn w0 w p) (hs:ShortR p.r):∀ u∈p.cells,u.oneCell'=true:=by
 obtain ⟨Ab,cb,An,cn,At,ct,Ak,ck,h1,h2,h3,h4,_⟩:=h.rd hs;exact RV.cells_one p (by rw [h1];rfl) (by rw [h2];rfl) (by rw [h3];rfl) (by rw [h4];rfl)
theorem OwnD.snoc {W0 wr w2 w4:World} {v v':Value} {ps:List RV} {p:RV} (h:OwnD W0 wr v ps) (e2:Ext wr w2) (hro:RuleOwn wr w2 p) (hfr:Far p.vals) (hb:W0.heap.size≤wr.heap.size) {cs:Array Value} {T:TypeId}
 (ho4:Own 96 8 W0 w4 v' (ps.length+1) (ps.flatMap RV.cells++p.cells)) (hg4:(w2.alloc (.cells cs T)).grownBy w4 v.ownBlock) (hv:v'.ownBlock=v.ownBlock∨v'.ownBlock=some (w2.alloc (.cells cs T)).heap.size):OwnD W0 w4 v' (ps++[p]):=by
 have ex:=Ext_alloc (.cells cs T) (Ext.refl w2);have hsz:(w2.alloc (.cells cs T)).heap.size=w2.heap.size+1:=by simp
 have hbl:=h.block;have hfar:=h.far;unfold Far at hfar;rw [List.pairwise_cons] at hfar;have hs2:=e2.size;refine ⟨?_,fun q hq=>?_,?_⟩
 ·rw [List.length_append,List.flatMap_append,List.flatMap_cons,List.flatMap_nil,List.append_nil];exact ho4
 ·rcases List.mem_append.1 hq with hq | hq
  ·refine (((h.each q hq).ext e2).ext ex).keep hg4 (fun u hu g hg he=>?_)
   exact hfar.1 u (List.mem_flatMap.2 ⟨q,hq,hu⟩) g he hg
  ·obtain rfl:=List.mem_singleton.1 hq
   refine ((hro.ext ex).keep hg4 (fun u hu g hg he=>?_)).down hb;have h1:=(hro.block u hu g hg).1;have h2:=(hbl v (List.mem_cons_self ..) g he).2
   omega
 ·rw [List.flatMap_append,List.flatMap_cons,List.flatMap_nil,List.append_nil]
  have hold:∀ u∈ps.flatMap RV.vals,∀ g,u.ownBlock=some g→g<wr.heap.size:=fun u hu g hg=>(hbl u (List.mem_cons_of_mem _ hu) g hg).2
  have hnew:∀ u∈p.vals,∀ g,u.ownBlock=some g→wr.heap.size≤g∧g<w2.heap.size:=fun u hu g hg=>hro.block u hu g hg
  refine Far.cons (Far.append hfar.2 hfr (fun u hu x hx g h1 h2=>by have:=hold u hu g h1;have:=(hnew x hx g h2).1;omega)) (fun x hx g h1 h2=>?_);rcases hv with hv | hv
  ·rw [hv] at h1
   rcases List.mem_append.1 hx with hx | hx
   ·exact hfar.1 x hx g h1 h2
   ·have:=(hbl v (List.mem_cons_self ..) g h1).2;have:=(hnew x hx g h2).1;omega
  ·rw [hv,hsz] at h1
   injection h1 with h1
   rcases List.mem_append.1 hx with hx | hx
   ·have:=hold x hx g h2;omega
   ·have:=(hnew x hx g h2).2;omega
def numOf (s:ByteArray):Nat:=s.toList.foldl (fun acc b=>if 48≤b.toNat∧b.toNat≤57 then acc*10+(b.toNat-48) else acc) 0
def heads:List ByteArray:=[⟨#[97]⟩,⟨#[105,116,101,109]⟩,⟨#[98]⟩,⟨#[104,101,97,100]⟩,⟨#[120]⟩]
theorem made_num:∀ s∈heads,∀ n,n<32→numOf (s++itoaB (n:Nat))=n∧isName (s++itoaB (n:Nat))=true:=by decide +kernel
theorem ne_of_num {a b:ByteArray} (h:numOf a≠numOf b):(a.toList==b.toList)=false:=by
 rw [beq_eq_false_iff_ne];intro he
 apply h
 unfold numOf;rw [he]
structure MadeR (ds:List DRule) (r:DRule):Prop where
 nm:∃ s∈heads,r.nm=s++itoaB (ds.length:Int)
 ok:kindOk ds r=true
 lit:(!r.little||r.kind==1)=true
 kids:∀ x∈r.kids,0≤x∧x<(ds.length:Int)
def MadeD (ds:List DRule):Prop:=∀ i (h:i<ds.length),MadeR (ds.take i) ds[i]
theorem MadeD.nil:MadeD []:=fun i h=>by simp at h
theorem MadeD.snoc {ds:List DRule} {r:DRule} (h:MadeD ds) (hr:MadeR ds r):MadeD (ds++[r]):=by
 intro i hi;rw [List.length_append,List.length_singleton] at hi;rcases (by omega:i<ds.length∨i=ds.length) with h1 | rfl
 ·rw [List.getElem_append_left h1,List.take_append_of_le_length (by omega)];exact h i h1
 ·rw [List.getElem_append_right (by omega)];simpa using hr
theorem limD_up {ds:List DRule} {i:Nat} {x:Int} (h:limD (ds.take i) x ≠ -1):limD ds x=limD (ds.take i) x:=by
 unfold limD at *
 split at h
 ·rename_i h0
  rw [if_pos h0,if_pos h0]
  split at h
  ·rename_i r hr
   rw [List.getElem?_take] at hr
   split at hr
   ·rw [hr]
   ·cases hr
  ·exact absurd rfl h
 ·exact absurd rfl h
theorem between_iff {n lo hi:Int}:between n lo hi=true↔lo≤n∧n≤hi:=by simp [between]
theorem choOk_lim {ds:List DRule} {r:DRule} (h:choOk ds r=true):limD ds (r.kids.getD 0 0) ≠ -1:=by
 intro hl;unfold choOk at h;simp only [Bool.and_eq_true,between_iff] at h;obtain ⟨⟨_,h1,_⟩,h2⟩:=h;have h3:=List.all_eq_true.1 h2 0 (by simp;omega);rw [hl] at h3;unfold tagOk at h3;rw [List.getElem?_eq_getElem (by omega)] at h3;simp only [Bool.and_eq_true,between_iff] at h3
 omega
theorem kindOk_up {ds:List DRule} {i:Nat} {r:DRule} (h:kindOk (ds.take i) r=true):kindOk ds r=true:=by
 unfold kindOk at *
 by_cases h1:r.kind=1
 ·simpa only [h1,if_true] using h
 rw [if_neg h1] at h ⊢
 by_cases h2:r.kind=2
 ·simpa only [h2,if_true] using h
 rw [if_neg h2] at h ⊢
 by_cases h3:r.kind=3
 ·simpa only [h3,if_true] using h
 rw [if_neg h3] at h ⊢
 by_cases h4:r.kind=4
 ·rw [if_pos h4] at h ⊢
  simp only [Bool.and_eq_true,decide_eq_true_eq] at h ⊢;exact ⟨h.1,by rw [limD_up (x:=r.kids.getD 0 0) (i:=i) (by omega)];exact h.2⟩
 rw [if_neg h4] at h ⊢
 by_cases h5:r.kind=5
 ·rw [if_pos h5] at h ⊢
  simp only [Bool.and_eq_true,decide_eq_true_eq] at h ⊢;exact ⟨h.1,by rw [limD_up (x:=r.kids.getD 0 0) (i:=i) (by omega)];exact h.2⟩
 rw [if_neg h5] at h ⊢
 by_cases h6:r.kind=6
 ·rw [if_pos h6] at h ⊢;exact h
 rw [if_neg h6] at h ⊢
 by_cases h7:r.kind=7
 ·rw [if_pos h7] at h ⊢
  have hl:=limD_up (choOk_lim h);unfold choOk at *;rw [hl];exact h
 rw [if_neg h7] at h ⊢;exact h
theorem MadeD.num {ds:List DRule} (h:MadeD ds) (hn:ds.length≤32) (i:Nat) (hi:i<ds.length):numOf ds[i].nm=i∧isName ds[i].nm=true:=by
 obtain ⟨s,hs,he⟩:=(h i hi).nm;rw [List.length_take,Nat.min_eq_left (by omega)] at he;rw [he];exact made_num s hs i (by omega)
theorem MadeD.rule {ds:List DRule} (h:MadeD ds) (hn:ds.length≤32) (i:Nat) (hi:i<ds.length):ruleOk ds i=true:=by
 have hm:=h i hi;unfold ruleOk;rw [List.getElem?_eq_getElem hi];simp only [Bool.and_eq_true];refine ⟨⟨⟨⟨(h.num hn i hi).2,hm.lit⟩,allN_yes fun j hj=>?_⟩,allN_yes fun j hj=>?_⟩,kindOk_up hm.ok⟩
 ·unfold freshNm
  rw [List.getElem?_eq_getElem (by omega)];have h1:=(h.num hn i hi).1;have h2:=(h.num hn j (by omega)).1;dsimp only;rw [ne_of_num (a:=ds[j].nm) (b:=ds[i].nm) (by omega)];rfl
 ·unfold kidOk
  rw [List.getElem?_eq_getElem hj]
  have:=hm.kids _ (List.getElem_mem hj);rw [List.length_take,Nat.min_eq_left (by omega)] at this;rw [between_iff];omega
theorem MadeD.valid {ds:List DRule} (h:MadeD ds) (h0:0<ds.length) (hn:ds.length≤24):descOk ds=true:=by
 unfold descOk;rw [Bool.and_eq_true,between_iff];exact ⟨by omega,allN_yes fun j hj=>h.rule (by omega) j hj⟩
theorem MadeD.lim {ds:List DRule} (h:MadeD ds) {x:Nat} (hx:x<ds.length) (hk:ds[x].kind=1):255≤limD ds (x:Int):=by
 have hm:=(h x hx).ok;unfold kindOk at hm;rw [if_pos hk] at hm;simp only [Bool.and_eq_true,between_iff] at hm;obtain ⟨⟨_,h1,h2⟩,_⟩:=hm;unfold limD;rw [if_pos (by omega)];simp only [Int.toNat_natCast,List.getElem?_eq_getElem hx];rcases limR_cases ds[x] with e | e | e | e | e
 ·exfalso
  unfold limR at e;rw [if_pos ⟨hk,h1,h2⟩] at e;rcases (by omega:ds[x].size=1∨ds[x].size=2∨ds[x].size=3∨ds[x].size=4) with e' | e' | e' | e'<;>rw [e'] at e<;>simp at e
 all_goals rw [e];omega
section
variable {ds:List DRule} {nm:ByteArray} (hnm:∃ s∈heads,nm=s++itoaB (ds.length:Int))
include hnm
theorem made_int {y:Nat} {flag:Bool} (hy:y<3) (hf:flag=true→1≤y):MadeR ds ⟨nm,1,1+(y:Int),flag,[],[],[],[]⟩ :=
 ⟨hnm,by
  simp only [kindOk,if_true,plainB,between,Bool.and_eq_true,decide_eq_true_eq,Bool.or_eq_true,Bool.not_eq_true'];cases flag
  ·simp;omega
  ·have:=hf rfl;simp;omega,by simp,by simp⟩
theorem made_const {b:List UInt8} (h0:1≤b.length) (h1:b.length≤16):MadeR ds ⟨nm,2,0,false,b,[],[],[]⟩ :=
 ⟨hnm,by simp [kindOk,plainB,between];omega,by simp,by simp⟩
theorem made_fixed {y:Nat} (hy:y<4):MadeR ds ⟨nm,3,1+(y:Int),false,[],[],[],[]⟩ :=
 ⟨hnm,by simp [kindOk,plainB,between];omega,by simp,by simp⟩
theorem made_sized (hM:MadeD ds) {x:Nat} (hx:x<ds.length) (hk:ds[x].kind=1):MadeR ds ⟨nm,4,0,false,[],[],[],[(x:Int)]⟩ :=
 ⟨hnm,by have:=hM.lim hx hk;simp [kindOk,plainB];omega,by simp,by simp;omega⟩
theorem made_array (hM:MadeD ds) {x y:Nat} (hx:x<ds.length) (hk:ds[x].kind=1) (hy:y<ds.length):MadeR ds ⟨nm,5,0,false,[],[],[],[(x:Int),(y:Int)]⟩ :=
 ⟨hnm,by have:=hM.lim hx hk;simp [kindOk,plainB];omega,by simp,by simp;omega⟩
theorem made_opt {y:Nat} (hy:y<ds.length):MadeR ds ⟨nm,8,0,false,[],[],[],[(y:Int)]⟩ :=
 ⟨hnm,by simp [kindOk,plainB],by simp,by simp;omega⟩
theorem made_checked {y:Nat} (hy:y<ds.length):MadeR ds ⟨nm,9,0,false,[],[],[],[(y:Int)]⟩ :=
 ⟨hnm,by simp [kindOk,plainB],by simp,by simp;omega⟩
theorem made_term {b:UInt8} (hb:b≠92):MadeR ds ⟨nm,10,0,false,[b],[],[],[]⟩ :=
 ⟨hnm,by simp [kindOk,plainB,hb],by simp,by simp⟩
end
def seqHeads:List ByteArray:=[⟨#[112]⟩,⟨#[113]⟩,⟨#[114]⟩]
theorem part_num:∀ s∈seqHeads,∀ n,n<32→numOf (s++itoaB (n:Nat))=n∧isName (s++itoaB (n:Nat))=true:=by decide +kernel
structure SeqInv (i:Nat) (l:List ByteArray):Prop where
 ok:allN l.length (nameOk l)=true
 of:∀ t∈l,∃ s∈seqHeads,∃ j,i<j∧j<32∧t=s++itoaB ((j:Nat):Int)
theorem SeqInv.nil (i:Nat):SeqInv i []:=⟨rfl,by simp⟩
theorem SeqInv.snoc {i:Nat} {l:List ByteArray} (h:SeqInv i l) {s:ByteArray} (hs:s∈seqHeads) (h0:0<i) (hi:i<32):SeqInv (i-1) (l++[s++itoaB (i:Int)]):=by
 have hnum:∀ t∈l,i<numOf t∧isName t=true:=fun t ht=>by
  obtain ⟨s',hs',j,h1,h2,rfl⟩:=h.of t ht;obtain ⟨h3,h4⟩:=part_num s' hs' j h2;exact ⟨by omega,h4⟩
 have hn:=part_num s hs i hi;refine ⟨?_,fun t ht=>?_⟩
 ·refine allN_yes fun j hj=>?_
  rw [List.length_append,List.length_singleton] at hj;unfold nameOk;rcases (by omega:j<l.length∨j=l.length) with h1 | rfl
  ·have h2:=List.all_eq_true.1 h.ok j (by simpa using h1)
   unfold nameOk at h2;rw [List.getElem?_eq_getElem h1] at h2;rw [List.getElem?_append_left h1,List.getElem?_eq_getElem h1,List.take_append_of_le_length (by omega)];exact h2
  ·rw [List.getElem?_append_right (by omega)]
   simp only [Nat.sub_self,List.getElem?_cons_zero,Bool.and_eq_true,Bool.not_eq_true'];refine ⟨hn.2,hasNm_none fun k hk=>?_⟩;have hk':k<l.length:=by simp at hk;omega
   have:((l++[s++itoaB (i:Int)]).take l.length)[k]=l[k]:=by simp [hk']
   rw [this]
   have:=(hnum _ (List.getElem_mem hk')).1;exact ne_of_num (by omega)
 ·rcases List.mem_append.1 ht with h1 | h1
  ·obtain ⟨s',hs',j,h2,h3,h4⟩:=h.of t h1
   exact ⟨s',hs',j,by omega,h3,h4⟩
  ·rw [List.mem_singleton.1 h1]
   exact ⟨s,hs,i,by omega,hi,rfl⟩
theorem made_seq {ds:List DRule} {r:DRule} (hnm:∃ s∈heads,r.nm=s++itoaB (ds.length:Int)) (hk:r.kind=6) (h1:r.size=0) (h2:r.bytes=[]) (h3:r.tags=[]) (h4:r.little=false) (hl:r.kids.length=r.names.length) (h0:1≤r.names.length) (h8:r.names.length≤8) {i:Nat} (hS:SeqInv i r.names) (hkid:∀ x∈r.kids,0≤x∧x<(ds.length:Int)):MadeR ds r:=by
 refine ⟨hnm,?_,by simp [h4],hkid⟩;unfold kindOk;rw [if_neg (by omega),if_neg (by omega),if_neg (by omega),if_neg (by omega),if_neg (by omega),if_pos hk];unfold seqOk plainB;simp only [h1,h2,h3,Bool.and_eq_true,between_iff,hS.ok];simp;omega
structure TagInv (l:List Int):Prop where
 at':∀ j (h:j<l.length),4*(j:Int)≤l[j]∧l[j]<4*(j:Int)+4
theorem TagInv.nil:TagInv []:=⟨by simp⟩
theorem TagInv.snoc {l:List Int} (h:TagInv l) {z:Nat} (hz:z<4):TagInv (l++[4*(l.length:Int)+(z:Int)]):=by
 refine ⟨fun j hj=>?_⟩;rw [List.length_append,List.length_singleton] at hj;rcases (by omega:j<l.length∨j=l.length) with h1 | rfl
 ·rw [List.getElem_append_left h1];exact h.at' j h1
 ·rw [List.getElem_append_right (by omega)];simp;omega
theorem made_cho {ds:List DRule} {r:DRule} (hM:MadeD ds) (hnm:∃ s∈heads,r.nm=s++itoaB (ds.length:Int)) (hk:r.kind=7) (h1:r.size=0) (h2:r.bytes=[]) (h3:r.names=[]) (h4:r.little=false) (hl:r.kids.length=r.tags.length+1) (h0:1≤r.tags.length) (h8:r.tags.length≤8) (hT:TagInv r.tags) {x:Nat} {t:List Int} (hx:x<ds.length) (hx1:ds[x].kind=1) (hkx:r.kids=(x:Int)::t) (hkid:∀ x∈r.kids,0≤x∧x<(ds.length:Int)):MadeR ds r:=by
 have hlim:=hM.lim hx hx1;refine ⟨hnm,?_,by simp [h4],hkid⟩;unfold kindOk;rw [if_neg (by omega),if_neg (by omega),if_neg (by omega),if_neg (by omega),if_neg (by omega),if_neg (by omega),if_pos hk];unfold choOk plainB
 have hall:allN r.tags.length (tagOk (limD ds (r.kids.getD 0 0)) r.tags)=true:=by
  refine allN_yes fun j hj=>?_
  unfold tagOk;rw [List.getElem?_eq_getElem hj];have h5:=hT.at' j hj;simp only [Bool.and_eq_true,between_iff,Bool.or_eq_true,beq_iff_eq,decide_eq_true_eq];refine ⟨⟨by omega,by rw [hkx];simp only [List.getD_cons_zero];omega⟩,?_⟩;rcases (by omega:j=0∨0<j) with h6 | h6
  ·exact .inl h6
  ·right
   have h7:=hT.at' (j-1) (by omega);rw [List.getD_eq_getElem?_getD,List.getElem?_eq_getElem (by omega),Option.getD_some]
   omega
 rw [hall];simp only [h1,h2,h3,Bool.and_eq_true,between_iff];simp;omega
end Go.Proofs.YtpmcofmdjckijaaGreat
