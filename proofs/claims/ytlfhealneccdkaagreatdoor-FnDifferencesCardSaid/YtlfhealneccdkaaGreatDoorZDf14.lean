/- Texts, laid into one. -/
import Derived.Test.YtlfhealneccdkaaGreatDoorZDf10
import Derived.Deep.RegionHeld3
import Derived.Test.YtlfhealneccdkaaGreatDoorZDf9
set_option linter.unusedVariables false
set_option linter.unusedSimpArgs false
set_option maxRecDepth 100000
set_option maxHeartbeats 16000000
namespace Go.Proofs.YtlfhealneccdkaaGreatDoor
open Go.RowKit Go.Sort
theorem E_str:Elem Tryz.prog 60 9 1 16 (.string ⟨#[]⟩):=⟨Tryz.underlying60,by kernel_rfl,rfl,by omega⟩
theorem rulesOf_len (ps:List RV):(rulesOf ps).length=ps.length:=by simp [rulesOf]
theorem OwnD.short {ps:List RV} (h:szD (rulesOf ps)≤1048576):ps.length≤9223372036854775807∧∀ p∈ps,ShortR p.r:=by
 refine ⟨by unfold szD at h;rw [rulesOf_len] at h;omega,fun p hp=>?_⟩;exact shortD_of h p.r (List.mem_map_of_mem hp)
def mkT (k:Nat) (i:Nat):Value:=.string (markT (k+i))
def mlen (r:DRule):Nat:=4+r.bytes.length+r.names.length+r.tags.length+r.kids.length
def mkCells (m:Nat × RV):List Value:=[.string (markT m.1),.int .i64 ((m.1:Int)+1),.int .i64 ((m.1:Int)+2),.bool (((m.1:Int)+3)%3==0),m.2.vb,m.2.vn,m.2.vt,m.2.vk]
def msR:Nat→List RV→List (Nat × RV)
 | _,[]=>[]
 | k,p::t=>(k,p)::msR (k+mlen p.r) t
def kEndR:Nat→List RV→Nat
 | k,[]=>k
 | k,p::t=>kEndR (k+mlen p.r) t
structure RuleMarked (w0 w:World) (k:Nat) (p:RV):Prop where
 b:Own 5 1 w0 w p.vb p.r.bytes.length ((List.range p.r.bytes.length).map (mk8 ((k:Int)+4)))
 n:Own 9 1 w0 w p.vn p.r.names.length ((List.range p.r.names.length).map (mkT (k+4+p.r.bytes.length)))
 t:Own 3 1 w0 w p.vt p.r.tags.length ((List.range p.r.tags.length).map (mkI ((k+4+p.r.bytes.length+p.r.names.length:Nat):Int)))
 k:Own 3 1 w0 w p.vk p.r.kids.length ((List.range p.r.kids.length).map (mkI ((k+4+p.r.bytes.length+p.r.names.length+p.r.tags.length:Nat):Int)))
theorem RuleMarked.keep {w0 w w':World} {k:Nat} {p:RV} (h:RuleMarked w0 w k p) {row:Option Nat} (hg:w.grownBy w' row) (hne:∀ v∈p.vals,∀ g,v.ownBlock=some g→row≠some g):RuleMarked w0 w' k p :=
 ⟨h.b.keep hg (hne _ (by simp [RV.vals])),h.n.keep hg (hne _ (by simp [RV.vals])),h.t.keep hg (hne _ (by simp [RV.vals])),h.k.keep hg (hne _ (by simp [RV.vals]))⟩
theorem RuleMarked.ext {w0 w w':World} {k:Nat} {p:RV} (h:RuleMarked w0 w k p) (e:Ext w w'):RuleMarked w0 w' k p:=⟨h.b.ext e,h.n.ext e,h.t.ext e,h.k.ext e⟩
structure MarkingR (w0 w:World) (g c:Nat) (ps:List RV) (k i:Nat):Prop where
 row:Own 67 8 w0 w (.slice (some ⟨g,0,none⟩) ps.length c) ps.length ((msR k (ps.take i)).flatMap mkCells++(ps.drop i).flatMap RV.cells)
 done:∀ j (h:j<ps.length),j<i→RuleMarked w0 w (kEndR k (ps.take j)) ps[j]
 todo:∀ j (h:j<ps.length),i≤j→RuleOwn w0 w ps[j]
structure WroteB (B:Nat→Prop) (w w':World):Prop where
 os:w'.os=w.os
 tape:w'.tape=w.tape
 output:w'.output=w.output
 size:w.heap.size≤w'.heap.size
 block:∀ k,k<w.heap.size→¬ B k→w'.heap[k]?=w.heap[k]?
theorem WroteB.refl (B:Nat→Prop) (w:World):WroteB B w w:=⟨rfl,rfl,rfl,Nat.le_refl _,fun _ _ _=>rfl⟩
theorem WroteB.trans {B:Nat→Prop} {a b c:World} (h:WroteB B a b) (k:WroteB B b c):WroteB B a c :=
 ⟨k.os.trans h.os,k.tape.trans h.tape,k.output.trans h.output,Nat.le_trans h.size k.size,fun i hi hb=>(k.block i (Nat.lt_of_lt_of_le hi h.size) hb).trans (h.block i hi hb)⟩
theorem WroteB.mono {B C:Nat→Prop} {a b:World} (h:WroteB B a b) (hC:∀ k,B k→C k):WroteB C a b:=⟨h.os,h.tape,h.output,h.size,fun i hi hb=>h.block i hi (fun hB=>hb (hC i hB))⟩
theorem WroteB.grown {B:Nat→Prop} {w w':World} {row:Option Nat} (h:w.grownBy w' row) (hr:∀ g,row=some g→B g):WroteB B w w' :=
 ⟨h.os,h.tape,h.output,h.size,fun i hi hb=>h.block i hi (fun e=>hb (hr i e.symm))⟩
theorem WroteB.ext {B:Nat→Prop} {w w':World} (e:Ext w w'):WroteB B w w':=⟨e.os,e.tape,e.output,e.size,fun i hi _=>Below.block e i hi⟩
theorem WroteB.wrote {B:Nat→Prop} {lo hi:Nat} {w w':World} (h:WroteB B w w') (hB:∀ k,B k→lo≤k∧k<hi):Wrote lo hi w w' :=
 ⟨h.os,h.tape,h.output,h.size,fun k hk hn=>h.block k hk (fun hb=>by have:=hB k hb;omega)⟩
theorem Own.wroteB {e:TypeId} {size:Nat} {w0 w w':World} {v:Value} {n:Nat} {xs:List Value} (h:Own e size w0 w v n xs) {B:Nat→Prop} (hw:WroteB B w w') (hv:∀ g,v.ownBlock=some g→¬ B g):Own e size w0 w' v n xs:=by
 refine ⟨h.1,?_⟩;rcases h.2 with h0 | ⟨g,cap,cur,rfl,hb,hg,r⟩
 ·exact .inl h0
 ·exact .inr ⟨g,cap,cur,rfl,hb,(hw.block g (Array.getElem?_eq_some_iff.1 hg).1 (hv g rfl)).trans hg,r⟩
theorem OwnL.wroteB {α:Type} {f:α→Value} {e:TypeId} {w0 w w':World} {v:Value} {l:List α} (h:OwnL f e w0 w v l) {B:Nat→Prop} (hw:WroteB B w w') (hv:∀ g,v.ownBlock=some g→¬ B g):OwnL f e w0 w' v l:=Own.wroteB h hw hv
theorem RuleOwn.wroteB {w0 w w':World} {p:RV} (h:RuleOwn w0 w p) {B:Nat→Prop} (hw:WroteB B w w') (hv:∀ v∈p.vals,∀ g,v.ownBlock=some g→¬ B g):RuleOwn w0 w' p :=
 ⟨h.b.wroteB hw (hv _ (by simp [RV.vals])),h.n.wroteB hw (hv _ (by simp [RV.vals])),h.t.wroteB hw (hv _ (by simp [RV.vals])),h.k.wroteB hw (hv _ (by simp [RV.vals]))⟩
theorem OwnD.wroteB {w0 w w':World} {v:Value} {ps:List RV} (h:OwnD w0 w v ps) {B:Nat→Prop} (hw:WroteB B w w') (hv:∀ u∈v::ps.flatMap RV.vals,∀ g,u.ownBlock=some g→¬ B g):OwnD w0 w' v ps :=
 ⟨h.row.wroteB hw (hv _ (by simp)),fun p hp=>(h.each p hp).wroteB hw (fun u hu=>hv u (List.mem_cons_of_mem _ (List.mem_flatMap.2 ⟨p,hp,hu⟩))),h.far⟩
def kEndG:Nat→List (Value × List RV)→Nat
 | k,[]=>k
 | k,q::t=>kEndG (kEndR k q.2) t
structure GMade (lo hi:Nat) (w:World) (v:Value) (qs:List (Value × List RV)):Prop where
 own:∃ w0:World,w0.heap.size=lo∧OwnG w0 w v qs
 blk:∀ u∈v::(qs.flatMap fun q=>q.1::q.2.flatMap RV.vals),∀ b,u.ownBlock=some b→lo≤b∧b<hi
theorem GMade.ext {lo hi:Nat} {w w':World} {v:Value} {qs:List (Value × List RV)} (h:GMade lo hi w v qs) (e:Ext w w'):GMade lo hi w' v qs:=⟨let ⟨w0,h0,h1⟩:=h.own;⟨w0,h0,h1.ext e⟩,h.blk⟩
def inG (qs:List (Value × List RV)) (b:Nat):Prop:=∃ q∈qs,∃ u∈q.1::q.2.flatMap RV.vals,u.ownBlock=some b
inductive DVal where
 | mk (num:Int) (bytes:List UInt8) (items:List DVal)
def DVal.num:DVal→Int | .mk n _ _=>n
def DVal.bytes:DVal→List UInt8 | .mk _ b _=>b
def DVal.items:DVal→List DVal | .mk _ _ l=>l
theorem DVal.eta (v:DVal):DVal.mk v.num v.bytes v.items=v:=by cases v;rfl
theorem DVal.ext' {u v:DVal} (h1:u.num=v.num) (h2:u.bytes=v.bytes) (h3:u.items=v.items):u=v:=by rw [← u.eta,← v.eta,h1,h2,h3]
theorem DVal.ind {P:DVal→Prop} (h:∀ v,(∀ x∈v.items,P x)→P v) (v:DVal):P v :=
 DVal.rec (motive_1:=P) (motive_2:=fun l=>∀ x∈l,P x) (fun n b its ih=>h (.mk n b its) ih) (fun x hx=>by cases hx)
  (fun x t hx ht y hy=>by
   rcases List.mem_cons.1 hy with rfl | h'
   ·exact hx
   ·exact ht y h') v
mutual
def szV:DVal→Nat
 | .mk _ b its=>b.length+szVs its
def szVs:List DVal→Nat
 | []=>0
 | x::t=>1+szV x+szVs t
end
theorem szV_eq (v:DVal):szV v=v.bytes.length+szVs v.items:=by cases v;rw [szV];rfl
theorem szVs_cons (x:DVal) (t:List DVal):szVs (x::t)=1+szV x+szVs t:=by rw [szVs]
theorem szVs_sum:∀ l:List DVal,szVs l=l.length+(l.map szV).sum
 | []=>by rw [szVs];rfl
 | x::t=>by rw [szVs,szVs_sum t,List.map_cons,List.sum_cons,List.length_cons];omega
theorem szVs_mem {l:List DVal} {x:DVal} (h:x∈l):szV x+l.length≤szVs l:=by
 rw [szVs_sum];have:=sum_mem szV l x h;omega
theorem szVs_take (l:List DVal) (k:Nat) (hk:k<l.length):((l.take (k+1)).map szV).sum=((l.take k).map szV).sum+szV l[k]:=sum_take szV l k hk
theorem szVs_le (l:List DVal) (k:Nat):((l.take k).map szV).sum+l.length≤szVs l:=by
 rw [szVs_sum,sum_split szV l k];omega
theorem szV_item {v x:DVal} (h:x∈v.items):szV x<szV v:=by
 rw [szV_eq v];have:=szVs_mem h;have:=List.length_pos_of_mem h;omega
inductive WfV:DVal→Prop
 | mk {v:DVal} (n:(Lit.int .i64 v.num).wf=true) (i:∀ x∈v.items,WfV x):WfV v
theorem WfV.num {v:DVal} (h:WfV v):(Lit.int .i64 v.num).wf=true:=by cases h;assumption
theorem WfV.item {v:DVal} (h:WfV v) {x:DVal} (hx:x∈v.items):WfV x:=by cases h;rename_i n i;exact i x hx
structure ValAt (w:World) (b o:Nat) (v:DVal) (vb vi:Value):Prop where
 c0:∀ (w':World),Ext w w'→w'.cell? ⟨b,o,none⟩=some (.int .i64 v.num)
 c1:∀ (w':World),Ext w w'→w'.cell? ⟨b,o+1,none⟩=some vb
 c2:∀ (w':World),Ext w w'→w'.cell? ⟨b,o+2,none⟩=some vi
theorem ValAt.ext {w w':World} {b o:Nat} {v:DVal} {vb vi:Value} (h:ValAt w b o v vb vi) (e:Ext w w'):ValAt w' b o v vb vi :=
 ⟨fun w1 e1=>h.c0 w1 (e.trans e1),fun w1 e1=>h.c1 w1 (e.trans e1),fun w1 e1=>h.c2 w1 (e.trans e1)⟩
inductive RdVs (w:World):Option Addr→List DVal→Nat→Prop
 | mk {A:Option Addr} {its:List DVal} {c:Nat} (cap:its.length≤c) (len:its.length≤9223372036854775807) (b off:Nat) (hA:0<its.length→A=some ⟨b,off,none⟩∧b<w.heap.size)
  (Ab:Nat→Option Addr) (cb:Nat→Nat) (Ai:Nat→Option Addr) (ci:Nat→Nat)
  (byt:∀ i (h:i<its.length),Rd0 vu8 w (Ab i) its[i].bytes (cb i))
  (cells:∀ i (h:i<its.length),ValAt w b (off+i*3) its[i] (.slice (Ab i) its[i].bytes.length (cb i)) (.slice (Ai i) its[i].items.length (ci i)))
  (kids:∀ i (h:i<its.length),RdVs w (Ai i) its[i].items (ci i)):RdVs w A its c
theorem RdVs.ext {w w':World} {A:Option Addr} {its:List DVal} {c:Nat} (h:RdVs w A its c) (e:Ext w w'):RdVs w' A its c:=by
 induction h with
 | mk cap len b off hA Ab cb Ai ci byt cells kids ih =>
  exact .mk cap len b off (fun hp=>⟨(hA hp).1,Nat.lt_of_lt_of_le (hA hp).2 e.size⟩) Ab cb Ai ci (fun i h=>(byt i h).ext e) (fun i h=>(cells i h).ext e) (fun i h=>ih i h)
theorem RdVs.len {w:World} {A:Option Addr} {its:List DVal} {c:Nat} (h:RdVs w A its c):its.length≤9223372036854775807:=by cases h;assumption
theorem RdVs.cap {w:World} {A:Option Addr} {its:List DVal} {c:Nat} (h:RdVs w A its c):its.length≤c:=by cases h;assumption
structure RdV (w:World) (v:DVal) (Ab:Option Addr) (cb:Nat) (Ai:Option Addr) (ci:Nat):Prop where
 b:Rd0 vu8 w Ab v.bytes cb
 i:RdVs w Ai v.items ci
theorem RdV.ext {w w':World} {v:DVal} {Ab:Option Addr} {cb:Nat} {Ai:Option Addr} {ci:Nat} (h:RdV w v Ab cb Ai ci) (e:Ext w w'):RdV w' v Ab cb Ai ci:=⟨h.b.ext e,h.i.ext e⟩
def vval (v:DVal) (vb vi:Value):Value:=.agg #[.int .i64 v.num,vb,vi]
theorem RdVs.at {w:World} {A:Option Addr} {its:List DVal} {c:Nat} (h:RdVs w A its c) (i:Nat) (hi:i<its.length) :
 ∃ b off Ab cb Ai ci,A=some ⟨b,off,none⟩∧b<w.heap.size∧RdV w its[i] Ab cb Ai ci∧ValAt w b (off+i*3) its[i] (.slice Ab its[i].bytes.length cb) (.slice Ai its[i].items.length ci):=by
 cases h with
 | mk cap len b off hA Ab cb Ai ci byt cells kids =>
  exact ⟨b,off,Ab i,cb i,Ai i,ci i,(hA (by omega)).1,(hA (by omega)).2,⟨byt i hi,kids i hi⟩,cells i hi⟩
theorem RdVs.of {w:World} {A:Option Addr} {its:List DVal} {c:Nat} (cap:its.length≤c) (len:its.length≤9223372036854775807) (b off:Nat) (hA:0<its.length→A=some ⟨b,off,none⟩∧b<w.heap.size)
 (h:∀ i (hi:i<its.length),∃ Ab cb Ai ci,RdV w its[i] Ab cb Ai ci∧ValAt w b (off+i*3) its[i] (.slice Ab its[i].bytes.length cb) (.slice Ai its[i].items.length ci)):RdVs w A its c:=by
 have h':∀ i,∃ q:Option Addr × Nat × Option Addr × Nat,∀ hi:i<its.length,RdV w its[i] q.1 q.2.1 q.2.2.1 q.2.2.2∧ValAt w b (off+i*3) its[i] (.slice q.1 its[i].bytes.length q.2.1) (.slice q.2.2.1 its[i].items.length q.2.2.2):=fun i=>by
  by_cases hi:i<its.length
  ·obtain ⟨Ab,cb,Ai,ci,h1⟩:=h i hi
   exact ⟨(Ab,cb,Ai,ci),fun _=>h1⟩
  ·exact ⟨(none,0,none,0),fun hh=>absurd hh hi⟩
 obtain ⟨f,hf⟩:=Classical.axiomOfChoice h';exact .mk cap len b off hA (fun i=>(f i).1) (fun i=>(f i).2.1) (fun i=>(f i).2.2.1) (fun i=>(f i).2.2.2) (fun i hi=>(hf i hi).1.b) (fun i hi=>(hf i hi).2) (fun i hi=>(hf i hi).1.i)
theorem RdVs.nil (w:World):RdVs w none [] 0:=.of (by simp) (by simp) 0 0 (fun h=>by simp at h) (fun i h=>by simp at h)
inductive VT where
 | mk (num:Int) (bs:List UInt8) (vb:Value) (its:List VT) (vi:Value)
def VT.num:VT→Int | .mk n _ _ _ _=>n
def VT.bs:VT→List UInt8 | .mk _ b _ _ _=>b
def VT.vb:VT→Value | .mk _ _ v _ _=>v
def VT.its:VT→List VT | .mk _ _ _ l _=>l
def VT.vi:VT→Value | .mk _ _ _ _ v=>v
theorem VT.ind {P:VT→Prop} (h:∀ t,(∀ x∈t.its,P x)→P t) (t:VT):P t :=
 VT.rec (motive_1:=P) (motive_2:=fun l=>∀ x∈l,P x) (fun n b vb its vi ih=>h (.mk n b vb its vi) ih) (fun x hx=>by cases hx)
  (fun x t hx ht y hy=>by
   rcases List.mem_cons.1 hy with rfl | h'
   ·exact hx
   ·exact ht y h') t
mutual
def VT.val:VT→DVal
 | .mk n b _ its _=>.mk n b (valsOf its)
def valsOf:List VT→List DVal
 | []=>[]
 | x::t=>x.val::valsOf t
end
mutual
def VT.vals:VT→List Value
 | .mk _ _ vb its vi=>vb::vi::valsVs its
def valsVs:List VT→List Value
 | []=>[]
 | x::t=>x.vals++valsVs t
end
theorem valsOf_map:∀ l:List VT,valsOf l=l.map VT.val
 | []=>by rw [valsOf];rfl
 | x::t=>by rw [valsOf,valsOf_map t];rfl
theorem valsVs_flat:∀ l:List VT,valsVs l=l.flatMap VT.vals
 | []=>by rw [valsVs];rfl
 | x::t=>by rw [valsVs,valsVs_flat t,List.flatMap_cons]
theorem VT.vals_eq (t:VT):t.vals=t.vb::t.vi::t.its.flatMap VT.vals:=by cases t;rw [VT.vals,valsVs_flat];rfl
theorem VT.val_num (t:VT):t.val.num=t.num:=by cases t;rw [VT.val];rfl
theorem VT.val_bytes (t:VT):t.val.bytes=t.bs:=by cases t;rw [VT.val];rfl
theorem VT.val_items (t:VT):t.val.items=valsOf t.its:=by cases t;rw [VT.val];rfl
theorem valsOf_len (l:List VT):(valsOf l).length=l.length:=by rw [valsOf_map,List.length_map]
theorem valsOf_append (a b:List VT):valsOf (a++b)=valsOf a++valsOf b:=by rw [valsOf_map,valsOf_map,valsOf_map,List.map_append]
theorem valsOf_get (l:List VT) (i:Nat) (h:i<(valsOf l).length):(valsOf l)[i]=(l[i]'(by rwa [valsOf_len] at h)).val:=by simp [valsOf_map]
def VT.cells (t:VT):List Value:=[.int .i64 t.num,t.vb,t.vi]
theorem VT.one {t:VT} (hb:t.vb.oneCell'=true) (hi:t.vi.oneCell'=true):∀ u∈t.cells,u.oneCell'=true:=by
 intro u hu;simp only [VT.cells,List.mem_cons,List.not_mem_nil,or_false] at hu;rcases hu with rfl | rfl | rfl<;>first | rfl | assumption
inductive OwnT (w0 w:World):VT→Prop
 | mk {t:VT} (b:OwnL vu8 5 w0 w t.vb t.bs) (i:Own 29 3 w0 w t.vi t.its.length (t.its.flatMap VT.cells)) (kids:∀ x∈t.its,OwnT w0 w x):OwnT w0 w t
theorem OwnT.b {w0 w:World} {t:VT} (h:OwnT w0 w t):OwnL vu8 5 w0 w t.vb t.bs:=by cases h;assumption
theorem OwnT.i {w0 w:World} {t:VT} (h:OwnT w0 w t):Own 29 3 w0 w t.vi t.its.length (t.its.flatMap VT.cells):=by cases h;assumption
theorem OwnT.kids {w0 w:World} {t:VT} (h:OwnT w0 w t):∀ x∈t.its,OwnT w0 w x:=by cases h;assumption
theorem mem_vals {t x:VT} (hx:x∈t.its) {u:Value} (hu:u∈x.vals):u∈t.vals:=by
 rw [VT.vals_eq];exact List.mem_cons_of_mem _ (List.mem_cons_of_mem _ (List.mem_flatMap.2 ⟨x,hx,hu⟩))
theorem vb_mem (t:VT):t.vb∈t.vals:=by rw [VT.vals_eq];simp
theorem vi_mem (t:VT):t.vi∈t.vals:=by rw [VT.vals_eq];simp
theorem OwnT.ext {w0 w w':World} {t:VT} (h:OwnT w0 w t) (e:Ext w w'):OwnT w0 w' t:=by
 induction h with
 | mk b i kids ih=>exact .mk (b.ext e) (i.ext e) ih
theorem OwnT.down {w0 w1 w:World} {t:VT} (h:OwnT w1 w t) (e:w0.heap.size≤w1.heap.size):OwnT w0 w t:=by
 induction h with
 | mk b i kids ih=>exact .mk (OwnL.down b e) (World.ownsRow.lower i e) ih
theorem OwnT.keep {w0 w w':World} {t:VT} (h:OwnT w0 w t) {row:Option Nat} (hg:w.grownBy w' row) (hne:∀ v∈t.vals,∀ g,v.ownBlock=some g→row≠some g):OwnT w0 w' t:=by
 induction h with
 | mk b i kids ih =>
  rename_i t
  exact .mk (b.keep hg (hne _ (vb_mem t))) (i.keep hg (hne _ (vi_mem t))) (fun x hx=>ih x hx (fun v hv=>hne v (mem_vals hx hv)))
theorem OwnT.wroteB {w0 w w':World} {t:VT} (h:OwnT w0 w t) {B:Nat→Prop} (hw:WroteB B w w') (hv:∀ v∈t.vals,∀ g,v.ownBlock=some g→¬ B g):OwnT w0 w' t:=by
 induction h with
 | mk b i kids ih =>
  rename_i t
  exact .mk (b.wroteB hw (hv _ (vb_mem t))) (i.wroteB hw (hv _ (vi_mem t))) (fun x hx=>ih x hx (fun v h=>hv v (mem_vals hx h)))
theorem OwnT.wrote {w0 w w':World} {t:VT} (h:OwnT w0 w t) {lo hi:Nat} (hw:Wrote lo hi w w') (hv:∀ v∈t.vals,∀ g,v.ownBlock=some g→g<lo∨hi≤g):OwnT w0 w' t:=by
 induction h with
 | mk b i kids ih =>
  rename_i t
  exact .mk (b.wrote hw (hv _ (vb_mem t))) (i.wrote hw (hv _ (vi_mem t))) (fun x hx=>ih x hx (fun v h=>hv v (mem_vals hx h)))
theorem OwnT.block {w0 w:World} {t:VT} (h:OwnT w0 w t):∀ v∈t.vals,∀ g,v.ownBlock=some g→w0.heap.size≤g∧g<w.heap.size:=by
 induction h with
 | mk b i kids ih =>
  rename_i t
  intro v hv;rw [VT.vals_eq] at hv;rcases List.mem_cons.1 hv with rfl | hv
  ·exact fun g hg=>World.ownsRow.lt b g hg
  rcases List.mem_cons.1 hv with rfl | hv
  ·exact fun g hg=>World.ownsRow.lt i g hg
  ·obtain ⟨x,hx,hv⟩:=List.mem_flatMap.1 hv
   exact ih x hx v hv
structure OwnTs (w0 w:World) (v:Value) (ps:List VT):Prop where
 row:Own 29 3 w0 w v ps.length (ps.flatMap VT.cells)
 each:∀ p∈ps,OwnT w0 w p
 far:Far (v::ps.flatMap VT.vals)
theorem Own.shape {e:TypeId} {size:Nat} {w0 w:World} {v:Value} {n:Nat} {xs:List Value} (h:Own e size w0 w v n xs):∃ A c,v=.slice A n c:=by
 rcases h.2 with ⟨rfl,hn⟩ | ⟨g,cap,_,rfl,_⟩
 ·exact ⟨none,0,by rw [hn]⟩
 ·exact ⟨_,_,rfl⟩
theorem OwnTs.shape {w0 w:World} {v:Value} {ps:List VT} (h:OwnTs w0 w v ps):∃ A c,v=.slice A ps.length c:=h.row.shape
theorem OwnTs.ext {w0 w w':World} {v:Value} {ps:List VT} (h:OwnTs w0 w v ps) (e:Ext w w'):OwnTs w0 w' v ps:=⟨h.row.ext e,fun p hp=>(h.each p hp).ext e,h.far⟩
theorem OwnTs.down {w0 w1 w:World} {v:Value} {ps:List VT} (h:OwnTs w1 w v ps) (e:w0.heap.size≤w1.heap.size):OwnTs w0 w v ps:=⟨World.ownsRow.lower h.row e,fun p hp=>(h.each p hp).down e,h.far⟩
theorem OwnTs.keep {w0 w w':World} {v:Value} {ps:List VT} (h:OwnTs w0 w v ps) {row:Option Nat} (hg:w.grownBy w' row) (hne:∀ u∈v::ps.flatMap VT.vals,∀ g,u.ownBlock=some g→row≠some g):OwnTs w0 w' v ps :=
 ⟨h.row.keep hg (hne _ (by simp)),fun p hp=>(h.each p hp).keep hg (fun u hu=>hne u (List.mem_cons_of_mem _ (List.mem_flatMap.2 ⟨p,hp,hu⟩))),h.far⟩
theorem OwnTs.block {w0 w:World} {v:Value} {ps:List VT} (h:OwnTs w0 w v ps):∀ u∈v::ps.flatMap VT.vals,∀ g,u.ownBlock=some g→w0.heap.size≤g∧g<w.heap.size:=by
 intro u hu;rcases List.mem_cons.1 hu with rfl | hu
 ·exact fun g hg=>World.ownsRow.lt h.row g hg
 ·obtain ⟨p,hp,hu⟩:=List.mem_flatMap.1 hu
  exact (h.each p hp).block u hu
theorem vcells_len (ps:List VT):(ps.flatMap VT.cells).length=ps.length*3:=by
 induction ps with
 | nil=>rfl
 | cons p t ih=>rw [List.flatMap_cons,List.length_append,ih,List.length_cons];simp [VT.cells];omega
theorem vcells_get:∀ (ps:List VT) (i j:Nat) (h:i<ps.length),j<3→(ps.flatMap VT.cells)[i*3+j]?=ps[i].cells[j]?:=by
 intro ps
 induction ps with
 | nil=>intro i j h;simp at h
 | cons p t ih =>
  intro i j h hj;rw [List.flatMap_cons];cases i with
  | zero =>
   rw [List.getElem?_append_left (by simp [VT.cells];omega)];simp
  | succ i =>
   rw [List.getElem?_append_right (by simp [VT.cells];omega)]
   have:(i+1)*3+j-p.cells.length=i*3+j:=by simp [VT.cells];omega
   rw [this,ih i j (by simpa using h) hj];simp
theorem bytes_le (v:DVal):v.bytes.length≤szV v:=by rw [szV_eq];omega
theorem items_le (v:DVal):v.items.length≤szV v:=by rw [szV_eq,szVs_sum];omega
theorem szVs_le_szV (v:DVal):szVs v.items≤szV v:=by rw [szV_eq];omega
theorem RdVs.of_row {w0 w:World} {v:Value} {ps:List VT} (hrow:Own 29 3 w0 w v ps.length (ps.flatMap VT.cells)) (hl:ps.length≤9223372036854775807)
 (hk:∀ p∈ps,∃ Ab cb Ai ci,p.vb=.slice Ab p.val.bytes.length cb∧p.vi=.slice Ai p.val.items.length ci∧RdV w p.val Ab cb Ai ci):∃ A c,v=.slice A (valsOf ps).length c∧RdVs w A (valsOf ps) c:=by
 have hlen:=valsOf_len ps;rcases hrow.2 with ⟨rfl,h0⟩ | ⟨g,cap,cur,rfl,hb,hg,hnc,hcm,hcs,htake⟩
 ·refine ⟨none,0,by rw [hlen,h0],?_⟩
  obtain rfl:ps=[]:=List.eq_nil_of_length_eq_zero h0
  rw [valsOf];exact RdVs.nil w
 ·refine ⟨_,_,by rw [hlen],.of (by omega) (by omega) g 0 (fun _=>⟨rfl,(Array.getElem?_eq_some_iff.1 hg).1⟩) (fun i hi=>?_)⟩
  have hi':i<ps.length:=by omega
  rw [valsOf_get ps i hi]
  have hc:∀ (w':World),Ext w w'→∀ j,j<3→w'.cell? ⟨g,i*3+j,none⟩=ps[i].cells[j]?:=by
   intro w' e j hj;rw [heap_row hg e,← vcells_get ps i j hi' hj,← htake,List.getElem?_take,if_pos (by omega)];simp
  obtain ⟨Ab,cb,Ai,ci,e1,e2,hR⟩:=hk _ (List.getElem_mem hi');refine ⟨Ab,cb,Ai,ci,hR,?_⟩;rw [← e1,← e2,Nat.zero_add];exact ⟨fun w' e=>by have:=hc w' e 0 (by omega);simpa [VT.cells,VT.val_num] using this,fun w' e=>by have:=hc w' e 1 (by omega);simpa [VT.cells] using this,fun w' e=>by have:=hc w' e 2 (by omega);simpa [VT.cells] using this⟩
theorem OwnT.rd {w0 w:World} {t:VT} (h:OwnT w0 w t) (hz:szV t.val≤140737488351232):∃ Ab cb Ai ci,t.vb=.slice Ab t.val.bytes.length cb∧t.vi=.slice Ai t.val.items.length ci∧RdV w t.val Ab cb Ai ci:=by
 induction h with
 | mk b i kids ih =>
  rename_i t
  have hb1:=bytes_le t.val;have hi1:=items_le t.val;rw [VT.val_bytes] at hb1;rw [VT.val_items,valsOf_len] at hi1;obtain ⟨Ab,cb,e1,r1⟩:=OwnL.rd b (by omega)
  obtain ⟨Ai,ci,e2,r2⟩:=RdVs.of_row i (by omega) (fun p hp=>ih p hp (by
   have:szV p.val<szV t.val:=szV_item (by rw [VT.val_items,valsOf_map];exact List.mem_map_of_mem hp)
   omega))
  exact ⟨Ab,cb,Ai,ci,by rw [VT.val_bytes];exact e1,by rw [VT.val_items];exact e2,⟨by rw [VT.val_bytes];exact r1.1,by rw [VT.val_items];exact r2⟩⟩
theorem OwnTs.rd {w0 w:World} {v:Value} {ps:List VT} (h:OwnTs w0 w v ps) (hz:szVs (valsOf ps)≤140737488351232):∃ A c,v=.slice A (valsOf ps).length c∧RdVs w A (valsOf ps) c :=
 RdVs.of_row h.row (by have:=szVs_sum (valsOf ps);rw [valsOf_len] at this;omega) (fun p hp=>(h.each p hp).rd (by
  have:=szVs_mem (l:=valsOf ps) (x:=p.val) (by rw [valsOf_map];exact List.mem_map_of_mem hp);omega))
theorem set3 (xs:List Value) (p:VT) (rest:List Value) (hr:3≤rest.length) (k:Nat) (hk:xs.length=k) :
 (((xs++rest).set k (.int .i64 p.num)).set (k+1) p.vb).set (k+2) p.vi=(xs++p.cells)++rest.drop 3:=by
 match rest,hr with
 | a0::a1::a2::t,_ =>
  subst hk;rw [List.set_append_right _ _ (by omega),List.set_append_right _ _ (by omega),List.set_append_right _ _ (by omega)];rw [show xs.length-xs.length=0 by omega,show xs.length+1-xs.length=1 by omega,show xs.length+2-xs.length=2 by omega];simp [VT.cells]
def put3 (w:World) (g k:Nat) (p:VT):World:=((w.setCell ⟨g,k,none⟩ (.int .i64 p.num)).setCell ⟨g,k+1,none⟩ p.vb).setCell ⟨g,k+2,none⟩ p.vi
theorem grown_put3 (w:World) (g k:Nat) (p:VT):w.grownBy (put3 w g k p) (some g):=by
 unfold put3;exact ((grown_set w ⟨g,k,none⟩ _).trans (grown_set _ ⟨g,k+1,none⟩ _)).trans (grown_set _ ⟨g,k+2,none⟩ _)
theorem Own.put3 {e:TypeId} {w0 w:World} {g n cap:Nat} {xs rest:List Value} (h:Own e 3 w0 w (.slice (some ⟨g,0,none⟩) n cap) n (xs++rest)) (he:Ext w0 w) (p:VT) (hr:3≤rest.length) (k:Nat) (hk:xs.length=k) :
 Own e 3 w0 (put3 w g k p) (.slice (some ⟨g,0,none⟩) n cap) n ((xs++p.cells)++rest.drop 3)∧Ext w0 (put3 w g k p):=by
 rw [← set3 xs p rest hr k hk];obtain ⟨h0,e0⟩:=h.store he k (.int .i64 p.num);obtain ⟨h1,e1⟩:=Own.store h0 e0 (k+1) p.vb;obtain ⟨h2,e2⟩:=Own.store h1 e1 (k+2) p.vi;exact ⟨h2,e2⟩
structure GotV (w w':World) (t:VT) (v:DVal):Prop where
 val:t.val=v
 own:OwnT w w' t
 far:Far t.vals
theorem GotV.ext {w w' w'':World} {t:VT} {v:DVal} (h:GotV w w' t v) (e:Ext w' w''):GotV w w'' t v:=⟨h.val,h.own.ext e,h.far⟩
theorem GotV.down {w0 w w':World} {t:VT} {v:DVal} (h:GotV w w' t v) (e:w0.heap.size≤w.heap.size):GotV w0 w' t v:=⟨h.val,h.own.down e,h.far⟩
theorem GotV.rd {w w':World} {t:VT} {v:DVal} (h:GotV w w' t v) (hz:szV v≤140737488351232):∃ Ab cb Ai ci,t.vb=.slice Ab v.bytes.length cb∧t.vi=.slice Ai v.items.length ci∧RdV w' v Ab cb Ai ci:=by
 obtain ⟨e,o,_⟩:=h;subst e;exact o.rd hz
theorem GotV.num {w w':World} {t:VT} {v:DVal} (h:GotV w w' t v):t.num=v.num:=by rw [← h.val,VT.val_num]
end Go.Proofs.YtlfhealneccdkaaGreatDoor
namespace Go.Proofs.YtlfhealneccdkaaGreatDoor
def kidsOf (r:DRule):List Int:=if r.kind=4∨r.kind=5∨r.kind=7 then r.kids.drop 1 else r.kids
def setAll (c:List Bool) (l:List Int):List Bool:=l.foldl (fun c k=>c.set k.toNat true) c
def possAt (ds:List DRule) (c:List Bool) (i:Nat):List Bool:=if c.getD i false then setAll c (kidsOf (ds.getD i ⟨⟨#[]⟩,0,0,false,[],[],[],[]⟩)) else c
def possFrom (ds:List DRule):Nat→List Bool→List Bool
 | 0,c=>c
 | i+1,c=>possFrom ds i (possAt ds c i)
def possible (ds:List DRule):List Bool:=possFrom ds ds.length ((List.replicate ds.length false).set (ds.length-1) true)
def entries (ds:List DRule):List Nat:=(List.range ds.length).filter fun i=>(possible ds).getD i false
def entriesUpTo (c:List Bool) (n:Nat):List Nat:=(List.range n).filter fun i=>c.getD i false
def covered (ds:List DRule) (cov:List Int):Nat:=((entries ds).filter fun i=>decide (0<at0 cov i)).length
def percent (ds:List DRule) (cov:List Int):Int:=if descOk ds then (100*covered ds cov:Nat) / (entries ds).length else 0
def uncovered (ds:List DRule) (cov:List Int):List ByteArray:=if descOk ds then ((entries ds).filter fun i=>at0 cov i==0).map (fun i=>(ds.getD i ⟨⟨#[]⟩,0,0,false,[],[],[],[]⟩).nm) else []
end Go.Proofs.YtlfhealneccdkaaGreatDoor
namespace Go.Proofs.YtlfhealneccdkaaGreatDoor
open Go.RowKit Go.Sort
def findR (ds:List DRule) (s:ByteArray):Int:=match ds.findIdx? (fun r=>r.nm.toList==s.toList) with | some i=>(i:Int) | none => -1
def nmsOf (ds:List DRule):List ByteArray:=ds.map DRule.nm
section
variable {P:Program} {ops:Array Oper} {rest:List Oper} {o:Oper} {a:Act} {Q:Exit→Act→World→Prop}
end
def shared (a b:List DRule):List ByteArray:=(nmsOf a).filter (hasNm (nmsOf b))
def shr (a b:List DRule) (k:Nat):List ByteArray:=((a.take k).map DRule.nm).filter (hasNm (nmsOf b))
theorem allN_at {n k:Nat} {f:Nat→Bool} (h:allN n f=true) (hk:k<n):f k=true:=by
 cases h1:f k
 ·rw [allN_no hk h1] at h;cases h
 ·rfl
theorem descOk_len {ds:List DRule} (h:descOk ds=true):0<ds.length∧ds.length≤24:=by
 unfold descOk between at h;simp at h;omega
theorem descOk_kid {ds:List DRule} (h:descOk ds=true) (i:Nat) (hi:i<ds.length) (j:Nat) (hj:j<ds[i].kids.length):0≤ds[i].kids[j]∧ds[i].kids[j]<i:=by
 unfold descOk at h;rw [Bool.and_eq_true] at h;have h1:=allN_at h.2 hi;unfold ruleOk at h1;rw [List.getElem?_eq_getElem hi] at h1;simp only [Bool.and_eq_true] at h1;have h2:=allN_at h1.1.2 hj;unfold kidOk at h2;rw [List.getElem?_eq_getElem hj] at h2;unfold between at h2;simp at h2;omega
def selK (r:DRule) (k:Nat):List Int:=if r.kind=4∨r.kind=5∨r.kind=7 then (r.kids.take k).drop 1 else r.kids.take k
theorem sRoot_c (A:Option Addr) (ds:List DRule) (c:Nat) (w:World) (hl:ds.length≤9223372036854775807) :
 Gives Tryz.prog 24 #[vdesc (.slice A ds.length c)] w (.int .i64 ((ds.length:Int)-1)):=by
 have eb:=Ext_alloc (.cells #[.slice A ds.length c] 26) (Ext.refl w);have BX:=fun w' (e:Ext (w.alloc (.cells #[.slice A ds.length c] 26)) w')=>boxed e
 unfold vdesc;go_enter Tryz.func24,Tryz.ntmps24;go_wp2;go_ret;exact ⟨ret_i64 (by go_num),eb⟩
theorem iRoot_c (A:Option Addr) (ds:List DRule) (c:Nat) (w:World) (hl:ds.length≤9223372036854775807) :
 Gives Tryz.prog 16 #[vdesc (.slice A ds.length c)] w (.int .i64 ((ds.length:Int)-1)):=by
 have eb:=Ext_alloc (.cells #[.slice A ds.length c] 26) (Ext.refl w);have BX:=fun w' (e:Ext (w.alloc (.cells #[.slice A ds.length c] 26)) w')=>boxed e
 unfold vdesc;go_enter Tryz.func16,Tryz.ntmps16;go_wp2;go_ret;exact ⟨ret_i64 (by go_num),eb⟩
end Go.Proofs.YtlfhealneccdkaaGreatDoor
