/- Texts, laid into one. -/
import Derived.Test.YtpmcofmdjckijaaGreatZDg13
import Derived.Test.YtpmcofmdjckijaaGreatZDg9
import Derived.Deep.DeepCutAuto
import Derived.IntWalk
set_option linter.unusedVariables false
set_option linter.unusedSimpArgs false
set_option maxRecDepth 100000
set_option maxHeartbeats 16000000
namespace Go.Proofs.YtpmcofmdjckijaaGreat
open Go.RowKit Go.Sort
theorem E_val:Elem Tryz.prog 44 46 3 56 (.agg #[.int .i64 0,.slice none 0 0,.slice none 0 0]):=⟨Tryz.underlying44,by kernel_rfl,rfl,by omega⟩
section
variable {P:Program} {ops:Array Oper} {o:Oper} {a:Act} {Q:Exit→Act→World→Prop} {K:Act→World→Prop} {E:Prop}
theorem step_appH (hgd:o.guard=none) (s x:Operand) (t:TypeId) (ho:o.op=.call { callee:=.builtin .append,args:=#[s,x],argTypes:=#[t,t] })
 {e:TypeId} {bytes:Nat} {z:Value} (hE:Elem P t e 1 bytes z) (hby:1≤bytes) (w0 w:World) {α:Type} (f:α→Value) (hf:∀ x,(f x).oneCell'=true) (v:Value) (hs:a.eval s=v) (A:Option Addr) (m c:Nat) (hx:a.eval x=.slice A m c)
 (l ys:List α) (hown:OwnL f e w0 w v l) (he:Ext w0 w) (hm:m=ys.length)
 (hA:0<ys.length→∃ ad,A=some ad∧∀ j u,(ys.map f)[j]?=some u→w.cell? (ad.add j)=some u)
 (hb:(l.length+ys.length)*bytes≤140737488355328)
 (h:∀ v' w',OwnL f e w0 w' v' (l++ys)→Ext w0 w'→(v'.ownBlock=v.ownBlock∨v'.ownBlock=some w.heap.size)→w.grownBy w' v.ownBlock→K (a.put o.dst v') w') :
 if Region.wanted o (yielded ops a.tmps)=true then Oper.wp P o a w K Q else E:=by
 have hw:Region.wanted o (yielded ops a.tmps)=true:=by simp [Region.wanted,hgd]
 rw [if_pos hw];obtain ⟨i0,hi0,hz0,hz1,hz2⟩:=info_parts hE.hi;subst hm;have hfin:∀ v' w',Own e 1 w0 w' v' (l.length+ys.length) (l.map f++ys.map f)→Ext w0 w'→(v'.ownBlock=v.ownBlock∨v'.ownBlock=some w.heap.size)→w.grownBy w' v.ownBlock→K (a.put o.dst v') w':=fun v' w' h1 h2 h3 h4=>h v' w' (by simpa [OwnL] using h1) h2 h3 h4
 rcases A with _ | ad
 ·have hm0:ys.length=0:=by
   rcases Nat.eq_zero_or_pos ys.length with h0 | h0
   ·exact h0
   ·obtain ⟨ad,h,_⟩:=hA h0
    cases h
  obtain rfl:ys=[]:=List.eq_nil_of_length_eq_zero hm0
  unfold Oper.wp execOp;simp only [ho,resolve,invoke,builtin,Sem.run_bind,Sem.run_pure,Result.andThen_ok,List.map_toArray,List.map_cons,List.map_nil,List.length_nil,hs,hx,run_app_nil w w0.heap.size t o.type e i0 1 hE.ht hi0 v l.length (l.map f) hown c];exact hfin v w (by have h':=hown;unfold OwnL at h';simpa using h') he (.inl rfl) (World.grownBy.refl w _)
 ·obtain ⟨v',w',hr,h2,h3,h4,h5⟩:=run_append_own_at (P:=P) w w0.heap.size t o.type e i0 z 1 bytes hE.ht hi0 hz0 hz1 hz2 hE.hz hE.hs v l.length (l.map f) hown ad ys.length c (ys.map f) (by simp)
   (fun j u hu=>by
    rcases Nat.eq_zero_or_pos ys.length with h0 | h0
    ·obtain rfl:ys=[]:=List.eq_nil_of_length_eq_zero h0
     simp at hu
    ·obtain ⟨ad',h',hc⟩:=hA h0
     injection h' with h'
     subst h';exact hc j u hu)
   (fun u hu=>by obtain ⟨x,_,rfl⟩:=List.mem_map.1 hu;exact hf x) (by have:=Nat.mul_le_mul_left (l.length+ys.length) hby;simp only [maxLen];omega) hb he.size
  unfold Oper.wp execOp;simp only [ho,resolve,invoke,builtin,Sem.run_bind,Sem.run_pure,Result.andThen_ok,List.map_toArray,List.map_cons,List.map_nil,hs,hx,hr];exact hfin v' w' h2 (he.grown h3 (fun k hk=>(hown.lt k hk).1)) h5 h3
end
theorem OwnTs.snoc {W0 wr w2 w4:World} {v v':Value} {ps:List VT} {p:VT} (h:OwnTs W0 wr v ps) (e2:Ext wr w2) (hro:OwnT wr w2 p) (hfr:Far p.vals) (hb:W0.heap.size≤wr.heap.size) {cs:Array Value} {T:TypeId}
 (ho4:Own 46 3 W0 w4 v' (ps.length+1) (ps.flatMap VT.cells++p.cells)) (hg4:(w2.alloc (.cells cs T)).grownBy w4 v.ownBlock) (hv:v'.ownBlock=v.ownBlock∨v'.ownBlock=some (w2.alloc (.cells cs T)).heap.size):OwnTs W0 w4 v' (ps++[p]):=by
 have ex:=Ext_alloc (.cells cs T) (Ext.refl w2);have hsz:(w2.alloc (.cells cs T)).heap.size=w2.heap.size+1:=by simp
 have hbl:=h.block;have hfar:=h.far;unfold Far at hfar;rw [List.pairwise_cons] at hfar;have hs2:=e2.size;refine ⟨?_,fun q hq=>?_,?_⟩
 ·rw [List.length_append,List.flatMap_append,List.flatMap_cons,List.flatMap_nil,List.append_nil];exact ho4
 ·rcases List.mem_append.1 hq with hq | hq
  ·refine (((h.each q hq).ext e2).ext ex).keep hg4 (fun u hu g hg he=>?_)
   exact hfar.1 u (List.mem_flatMap.2 ⟨q,hq,hu⟩) g he hg
  ·obtain rfl:=List.mem_singleton.1 hq
   refine ((hro.ext ex).keep hg4 (fun u hu g hg he=>?_)).down hb;have h1:=(hro.block u hu g hg).1;have h2:=(hbl v (List.mem_cons_self ..) g he).2
   omega
 ·rw [List.flatMap_append,List.flatMap_cons,List.flatMap_nil,List.append_nil]
  have hold:∀ u∈ps.flatMap VT.vals,∀ g,u.ownBlock=some g→g<wr.heap.size:=fun u hu g hg=>(hbl u (List.mem_cons_of_mem _ hu) g hg).2
  have hnew:∀ u∈p.vals,∀ g,u.ownBlock=some g→wr.heap.size≤g∧g<w2.heap.size:=fun u hu g hg=>hro.block u hu g hg
  refine Far.cons (Far.append hfar.2 hfr (fun u hu x hx g h1 h2=>by have:=hold u hu g h1;have:=(hnew x hx g h2).1;omega)) (fun x hx g h1 h2=>?_);rcases hv with hv | hv
  ·rw [hv] at h1
   rcases List.mem_append.1 hx with hx | hx
   ·exact hfar.1 x hx g h1 h2
   ·have:=(hbl v (List.mem_cons_self ..) g h1).2;have:=(hnew x hx g h2).1;omega
  ·rw [hv,hsz] at h1
   injection h1 with h1
   rcases List.mem_append.1 hx with hx | hx
   ·have:=hold x hx g h2;omega
   ·have:=(hnew x hx g h2).2;omega
theorem OwnT.one {w0 w:World} {t:VT} (h:OwnT w0 w t):∀ u∈t.cells,u.oneCell'=true:=by
 obtain ⟨A,c,e1⟩:=Own.shape (show Own _ 1 w0 w t.vb t.bs.length _ from h.b);obtain ⟨A',c',e2⟩:=Own.shape h.i;exact VT.one (by rw [e1];rfl) (by rw [e2];rfl)
theorem OwnTs.nil (w0 w:World):OwnTs w0 w (.slice none 0 0) []:=⟨⟨by simp,.inl ⟨rfl,rfl⟩⟩,fun p hp=>by simp at hp,Far.one _⟩
structure Mach where
 pc:Int
 reg:Int
 stack:List Int
 sums:List Int
 left:Int
 started:Bool
 escaped:Bool
 state:Int
 code:Int
 read:Int
def mcells (m:Mach) (vs vq:Value):Array Value:=#[.int .i64 m.pc,.int .i64 m.reg,vs,vq,.int .i64 m.left,.bool m.started,.bool m.escaped,.int .i64 m.state,.int .i64 m.code,.int .i64 m.read]
structure MR (X:Nat→Prop) (w w':World):Prop where
 os:w'.os=w.os
 tape:w'.tape=w.tape
 output:w'.output=w.output
 size:w.heap.size≤w'.heap.size
 kept:∀ k,X k→w'.heap[k]?=w.heap[k]?
theorem MR.refl (X:Nat→Prop) (w:World):MR X w w:=⟨rfl,rfl,rfl,Nat.le_refl _,fun _ _=>rfl⟩
theorem MR.trans {X:Nat→Prop} {a b c:World} (h:MR X a b) (k:MR X b c):MR X a c:=⟨k.os.trans h.os,k.tape.trans h.tape,k.output.trans h.output,Nat.le_trans h.size k.size,fun i hi=>(k.kept i hi).trans (h.kept i hi)⟩
theorem MR.of_ext {X:Nat→Prop} {w w':World} (e:Ext w w') (hX:∀ k,X k→k<w.heap.size):MR X w w':=⟨e.os,e.tape,e.output,e.size,fun k hk=>Below.block e k (hX k hk)⟩
theorem MR.to_ext {w w':World} (h:MR (·<w.heap.size) w w'):Ext w w':=⟨h.os,h.tape,h.output,h.size,fun k hk=>h.kept k hk⟩
theorem MR.set {X:Nat→Prop} {w:World} {p i:Nat} (u:Value) (h:¬ X p):MR X w (w.setCell ⟨p,i,none⟩ u) :=
 ⟨rfl,rfl,rfl,by simp,fun k hk=>heap_setCell_other w ⟨p,i,none⟩ k u (fun hh=>h (by have:k=p:=hh;rwa [this] at hk))⟩
theorem MR.weak {X Y:Nat→Prop} {w w':World} (h:MR X w w') (hY:∀ k,Y k→X k):MR Y w w':=⟨h.os,h.tape,h.output,h.size,fun k hk=>h.kept k (hY k hk)⟩
theorem MR.grown {X:Nat→Prop} {w w':World} {r:Option Nat} (hg:w.grownBy w' r) (hr:∀ b,r=some b→¬ X b) (hX:∀ k,X k→k<w.heap.size):MR X w w' :=
 ⟨hg.os,hg.tape,hg.output,hg.size,fun k hk=>hg.block k (hX k hk) (fun hh=>hr k hh.symm hk)⟩
structure MB (X:Nat→Prop) (W0 w:World) (p:Nat) (m:Mach) (vs vq:Value):Prop where
 lo:W0.heap.size≤p
 box:Box w p (mcells m vs vq) 67
 os:OwnL vint 3 W0 w vs m.stack
 oq:OwnL vint 3 W0 w vq m.sums
 n1:vs.ownBlock≠some p
 n2:vq.ownBlock≠some p
 far:∀ b,vs.ownBlock=some b→vq.ownBlock≠some b
 xp:¬ X p
 xs:∀ b,vs.ownBlock=some b→¬ X b
 xq:∀ b,vq.ownBlock=some b→¬ X b
 low:∀ k,X k→k<w.heap.size
 ext:Ext W0 w
def MV (X:Nat→Prop) (W0 w:World) (p:Nat) (m:Mach):Prop:=∃ vs vq,MB X W0 w p m vs vq
theorem MB.next {X:Nat→Prop} {W0 w w':World} {p:Nat} {m:Mach} {vs vq:Value} (h:MB X W0 w p m vs vq) (e:Ext w w'):MB X W0 w' p m vs vq :=
 ⟨h.lo,h.box.ext e,h.os.ext e,h.oq.ext e,h.n1,h.n2,h.far,h.xp,h.xs,h.xq,fun k hk=>Nat.lt_of_lt_of_le (h.low k hk) e.size,h.ext.trans e⟩
theorem MB.put {X:Nat→Prop} {W0 w:World} {p:Nat} {m m':Mach} {vs vq:Value} (h:MB X W0 w p m vs vq) (i:Nat) (u:Value) (hc:(mcells m vs vq).setIfInBounds i u=mcells m' vs vq) (h1:m'.stack=m.stack) (h2:m'.sums=m.sums) :
 MB X W0 (w.setCell ⟨p,i,none⟩ u) p m' vs vq :=
 ⟨h.lo,by have:=h.box.set i u;rwa [hc] at this,by rw [h1];exact h.os.other _ _ h.n1,by rw [h2];exact h.oq.other _ _ h.n2,h.n1,h.n2,h.far,h.xp,h.xs,h.xq,fun k hk=>by simpa using h.low k hk,h.ext.setCell (p:=⟨p,i,none⟩) h.lo u⟩
theorem MB.putS {X:Nat→Prop} {W0 w w':World} {p:Nat} {m m':Mach} {vs vq v':Value} (h:MB X W0 w p m vs vq) (ho:OwnL vint 3 W0 w' v' m'.stack) (he:Ext W0 w') (hv:v'.ownBlock=vs.ownBlock∨v'.ownBlock=some w.heap.size) (hg:w.grownBy w' vs.ownBlock)
 (hc:mcells m' v' vq=(mcells m vs vq).setIfInBounds 2 v') (h2:m'.sums=m.sums):MB X W0 (w'.setCell ⟨p,2,none⟩ v') p m' v' vq:=by
 have hl:=h.box.lt
 have n1':v'.ownBlock≠some p:=by
  rcases hv with hv | hv
  ·rw [hv];exact h.n1
  ·rw [hv];intro hh;injection hh with hh;omega
 refine ⟨h.lo,?_,ho.other _ _ n1',?_,n1',h.n2,?_,h.xp,?_,h.xq,fun k hk=>by have:=h.low k hk;have:=hg.size;simp;omega,he.setCell (p:=⟨p,2,none⟩) h.lo v'⟩
 ·have:=(h.box.moved hg h.n1).set 2 v';rwa [← hc] at this
 ·rw [h2];exact (h.oq.keep hg (fun b hb hr=>h.far b hr hb)).other _ _ h.n2
 ·intro b hb
  rcases hv with hv | hv
  ·exact h.far b (hv▸hb)
  ·rw [hv] at hb;injection hb with hb;subst hb
   intro hh;have:=(World.ownsRow.lt h.oq _ hh).2;omega
 ·intro b hb
  rcases hv with hv | hv
  ·exact h.xs b (hv▸hb)
  ·rw [hv] at hb;injection hb with hb;subst hb
   intro hh;have:=h.low _ hh;omega
theorem MB.putQ {X:Nat→Prop} {W0 w w':World} {p:Nat} {m m':Mach} {vs vq v':Value} (h:MB X W0 w p m vs vq) (ho:OwnL vint 3 W0 w' v' m'.sums) (he:Ext W0 w') (hv:v'.ownBlock=vq.ownBlock∨v'.ownBlock=some w.heap.size) (hg:w.grownBy w' vq.ownBlock)
 (hc:mcells m' vs v'=(mcells m vs vq).setIfInBounds 3 v') (h2:m'.stack=m.stack):MB X W0 (w'.setCell ⟨p,3,none⟩ v') p m' vs v':=by
 have hl:=h.box.lt
 have n2':v'.ownBlock≠some p:=by
  rcases hv with hv | hv
  ·rw [hv];exact h.n2
  ·rw [hv];intro hh;injection hh with hh;omega
 refine ⟨h.lo,?_,?_,ho.other _ _ n2',h.n1,n2',?_,h.xp,h.xs,?_,fun k hk=>by have:=h.low k hk;have:=hg.size;simp;omega,he.setCell (p:=⟨p,3,none⟩) h.lo v'⟩
 ·have:=(h.box.moved hg h.n2).set 3 v';rwa [← hc] at this
 ·rw [h2];exact (h.os.keep hg (fun b hb hr=>h.far b hb hr)).other _ _ h.n1
 ·intro b hb
  rcases hv with hv | hv
  ·rw [hv];exact h.far b hb
  ·rw [hv];intro hh;injection hh with hh;subst hh
   have:=(World.ownsRow.lt h.os _ hb).2;omega
 ·intro b hb
  rcases hv with hv | hv
  ·exact h.xq b (hv▸hb)
  ·rw [hv] at hb;injection hb with hb;subst hb
   intro hh;have:=h.low _ hh;omega
theorem OwnL.pop {w0 w:World} {A:Option Addr} {n c:Nat} {l:List Int} (h:OwnL vint 3 w0 w (.slice A n c) l) (hp:0<l.length):OwnL vint 3 w0 w (.slice A (n-1) c) l.dropLast:=by
 have h1:=h.1;rcases h.2 with ⟨hv,h0⟩ | ⟨g,cap,cur,hv,hb,hg,hnc,hcm,hcs,htake⟩
 ·omega
 ·injection hv with i1 i2 i3
  subst i1;subst i2;subst i3;refine ⟨by simp,.inr ⟨g,_,cur,by rw [List.length_dropLast],hb,hg,by rw [List.length_dropLast];omega,hcm,hcs,?_⟩⟩;rw [List.length_dropLast,Nat.mul_one];rw [Nat.mul_one] at htake;rw [List.dropLast_eq_take,List.map_take,← htake,List.take_take]
  congr 1;omega
section
variable {P:Program} {ops:Array Oper} {Q:Exit→Act→World→Prop} {md:Region.Mode} {C:Nat→World→Prop} {S:World→Prop}
def wpAnyC (P:Program) (md:Region.Mode) (ops:Array Oper) (Q:Exit→Act→World→Prop) (C:Nat→World→Prop):Nat→Array Bool→Act→World→Prop
 | 0,listed,a,w=>Region.ready md ops listed=[]∧Q .normal a w
 | fuel+1,listed,a,w =>
  (Region.ready md ops listed=[]→Q .normal a w) ∧
  ∀ i∈Region.ready md ops listed,wpOp P ops Q i (fun a' w'=>C i w'∧wpAnyC P md ops Q C fuel (listed.setIfInBounds i true) a' w') a w
theorem wpAny_of_C:∀ (fuel:Nat) (listed:Array Bool) (a:Act) (w:World),wpAnyC P md ops Q C fuel listed a w→wpAny P md ops Q fuel listed a w
 | 0,_,_,_,h=>h
 | fuel+1,_,_,_,h=>⟨h.1,fun i hi=>wpOp_mono (fun a' w' h'=>wpAny_of_C fuel _ a' w' h'.2) (h.2 i hi)⟩
def depOn (md:Region.Mode) (ops:Array Oper):Nat→Nat→Nat→Bool
 | 0,_,_=>false
 | n+1,j,i=>match ops[j]? with
  | some o=>o.after.any (fun e=>Region.binds md e&&e.on==i)||o.after.any (fun e=>Region.binds md e&&depOn md ops n e.on i)
  | none=>false
def Down (md:Region.Mode) (ops:Array Oper) (listed:Array Bool):Prop:=∀ k o,ops[k]?=some o→listed.getD k false=true→∀ e∈o.after,Region.binds md e=true→listed.getD e.on false=true
theorem dep_listed {listed:Array Bool} (hd:Down md ops listed) {i:Nat}:∀ (n j:Nat) (o:Oper),ops[j]?=some o→(∀ e∈o.after,Region.binds md e=true→listed.getD e.on false=true)→depOn md ops n j i=true→listed.getD i false=true:=by
 intro n
 induction n with
 | zero=>intro j o _ _ h;cases h
 | succ n ih =>
  intro j o ho hall h;unfold depOn at h;rw [ho] at h;simp only [Bool.or_eq_true,Array.any_eq_true,Bool.and_eq_true,beq_iff_eq] at h;rcases h with ⟨k,hk,hb,he⟩ | ⟨k,hk,hb,he⟩
  ·rw [← he];exact hall _ (Array.getElem_mem hk) hb
  ·have h1:=hall _ (Array.getElem_mem hk) hb
   cases h2:ops[o.after[k].on]? with
   | none=>cases n with
    | zero=>cases he
    | succ n=>unfold depOn at he;rw [h2] at he;cases he
   | some o2=>exact ih _ o2 h2 (hd _ o2 h2 h1) he
theorem getD_false_of {listed:Array Bool} {i:Nat} (h:listed.getD i true=false):listed.getD i false=false:=by
 rcases Nat.lt_or_ge i listed.size with h' | h'
 ·simp [h'] at h ⊢;exact h
 ·simp [h'] at h
theorem Down.set {listed:Array Bool} (hd:Down md ops listed) {j:Nat} (hj:j∈Region.ready md ops listed):Down md ops (listed.setIfInBounds j true):=by
 intro k o ho hk e he hb;obtain ⟨_,oj,hoj,hall⟩:=mem_ready.1 hj
 by_cases hkj:j=k
 ·subst hkj
  rw [hoj] at ho;injection ho with ho;subst ho
  exact getD_set_true (hall e he hb)
 ·rw [getD_set_ne false hkj] at hk
  exact getD_set_true (hd k o ho hk e he hb)
theorem wpAnyC_first {i:Nat} {oi:Oper} {v:Value} (hi:ops[i]?=some oi) (hsel:∀ (j:Nat) (o:Oper) cs b,ops[j]?=some o→o.op≠.select cs b)
 (hQ:∀ c a w,Q (.panic c) (a.put oi.dst v) w→Q (.panic c) a w) (n:Nat) (hCi:∀ w',S w'→C i w') :
 ∀ (fuel:Nat) (listed:Array Bool) (a:Act) (w:World),Down md ops listed →
  (∀ j oj,ops[j]?=some oj→j≠i→listed.getD j true=false→(∀ e∈oj.after,Region.binds md e=true→e.on≠i)→oi.apart ops oj=true) →
  (∀ j oj,ops[j]?=some oj→listed.getD j true=false→j≠i→depOn md ops n j i=false→∀ w',C j w'→S w') →
  i∈Region.ready md ops listed→YieldsIf P ops S oi v a→S w →
  wpAnyC P md ops Q C fuel (listed.setIfInBounds i true) (a.put oi.dst v) w→wpAnyC P md ops Q C (fuel+1) listed a w:=by
 intro fuel
 induction fuel with
 | zero =>
  intro listed a w _ _ _ hr hy hS H;refine ⟨fun h=>(by rw [h] at hr;cases hr),fun j hj=>?_⟩
  by_cases hji:j=i
  ·subst hji;exact hy.wpOp hi hS ⟨hCi w hS,H⟩
  ·have:=ready_mono hj hji
   rw [H.1] at this;cases this
 | succ fuel ih =>
  intro listed a w hd hfree hC hr hy hS H;refine ⟨fun h=>(by rw [h] at hr;cases hr),fun j hj=>?_⟩
  by_cases hji:j=i
  ·subst hji;exact hy.wpOp hi hS ⟨hCi w hS,H⟩
  ·have h1:=H.2 j (ready_mono hj hji)
   obtain ⟨hjun,oj,hoj,hall⟩:=mem_ready.1 hj;have hiun:=getD_false_of (mem_ready.1 hr).1
   have hnot:∀ e∈oj.after,Region.binds md e=true→e.on≠i:=fun e he hb heq=>by
    have h1:=hall e he hb;rw [heq,hiun] at h1;cases h1
   have hnd:depOn md ops n j i=false:=by
    rw [Bool.eq_false_iff];intro hh
    have:=dep_listed hd n j oj hoj hall hh;rw [hiun] at this;cases this
   have h2:=wpOp_putIf hoj (hfree j oj hoj hji hjun hnot) (fun cs b=>hsel i oi cs b hi) (fun cs b=>hsel j oj cs b hoj) hQ hy h1
   have hfree':∀ k ok,ops[k]?=some ok→k≠i→(listed.setIfInBounds j true).getD k true=false →
    (∀ e∈ok.after,Region.binds md e=true→e.on≠i)→oi.apart ops ok=true:=fun k ok hk hki hun hno=>by
    refine hfree k ok hk hki ?_ hno
    by_cases hjk:j=k
    ·subst hjk;exact hjun
    ·rw [getD_set_ne true hjk] at hun;exact hun
   have hC':∀ k ok,ops[k]?=some ok→(listed.setIfInBounds j true).getD k true=false→k≠i→depOn md ops n k i=false→∀ w',C k w'→S w':=fun k ok hk hun hki hno=>by
    refine hC k ok hk ?_ hki hno
    by_cases hjk:j=k
    ·subst hjk;exact hjun
    ·rw [getD_set_ne true hjk] at hun;exact hun
   refine wpOp_mono (fun a' w' h3=>⟨h3.2.1,ih (listed.setIfInBounds j true) a' w' (hd.set hj) hfree' hC' (ready_mono hr (Ne.symm hji)) h3.1 (hC j oj hoj hjun hji hnd w' h3.2.1) ?_⟩) h2;rw [Array.setIfInBounds_comm _ _ hji];exact h3.2.2
def downB (md:Region.Mode) (ops:Array Oper) (listed:Array Bool):Bool:=(List.range ops.size).all fun k=>!listed.getD k false||((ops[k]?).map fun o=>o.after.all fun e=>!Region.binds md e||listed.getD e.on false).getD true
theorem downB_spec {listed:Array Bool} (h:downB md ops listed=true):Down md ops listed:=by
 intro k o ho hk e he hb;have hlt:k<ops.size:=(Array.getElem?_eq_some_iff.1 ho).1
 have h1:=List.all_eq_true.1 h k (List.mem_range.2 hlt);rw [hk,ho] at h1;simp only [Bool.not_true,Bool.false_or,Option.map_some,Option.getD_some,Array.all_eq_true_iff_forall_mem] at h1;have h2:=h1 e he;rw [hb] at h2
 simpa using h2
def takeB (md:Region.Mode) (ops:Array Oper) (listed:Array Bool) (c:List Nat) (i t:Nat):Bool :=
 decide (c.getD i 0≤t)&&(List.range ops.size).all fun j=>listed.getD j true||j==i||depOn md ops 12 j i||decide (t≤c.getD j 0)
theorem wpAnyC_take {Lv:Nat→World→Prop} {c:List Nat} (t:Nat) {i:Nat} {oi:Oper} {v:Value} {fuel:Nat} {listed:Array Bool} {a:Act} {w:World} (hmono:∀ a b w,a≤b→Lv b w→Lv a w) (hi:ops[i]?=some oi)
 (hs:Region.noSelect ops=true) (hf:Region.free md ops listed i=true) (hr:(Region.ready md ops listed).contains i=true) (hd:downB md ops listed=true) (ht:takeB md ops listed c i t=true)
 (hQ:∀ c a w,Q (.panic c) (a.put oi.dst v) w→Q (.panic c) a w) (hS:Lv t w) (hy:YieldsIf P ops (Lv t) oi v a)
 (h:wpAnyC P md ops Q (fun j=>Lv (c.getD j 0)) fuel (listed.setIfInBounds i true) (a.put oi.dst v) w):wpAnyC P md ops Q (fun j=>Lv (c.getD j 0)) (fuel+1) listed a w:=by
 unfold takeB at ht;rw [Bool.and_eq_true,decide_eq_true_eq] at ht;refine wpAnyC_first (S:=Lv t) (C:=fun j=>Lv (c.getD j 0)) hi (Region.noSelect_spec hs) hQ 12 (fun w' h'=>hmono _ _ w' ht.1 h') fuel listed a w (downB_spec hd) (Region.free_spec hi hf) (fun j oj hoj hj hji hdj w' hc=>?_) (by simpa using hr) hy hS h;have hlt:j<ops.size:=(Array.getElem?_eq_some_iff.1 hoj).1
 have h1:=List.all_eq_true.1 ht.2 j (List.mem_range.2 hlt);rw [hj,hdj] at h1;simp only [Bool.false_or,Bool.or_false,Bool.or_eq_true,beq_iff_eq,decide_eq_true_eq] at h1;rcases h1 with h1 | h1
 ·exact absurd h1 hji
 ·exact hmono _ _ w' h1 hc
theorem wpAnyC_one {i:Nat} {o:Oper} {fuel:Nat} {listed:Array Bool} {a:Act} {w:World} (hr:Region.ready md ops listed=[i]) (ho:ops[i]?=some o)
 (h:∀ K:Act→World→Prop,Shut (∀ a w,C i w→wpAnyC P md ops Q C fuel (listed.setIfInBounds i true) a w→K a w)→if Region.wanted o (yielded ops a.tmps)=true then Oper.wp P o a w K Q else K (a.put o.dst undef) w):wpAnyC P md ops Q C (fuel+1) listed a w:=by
 refine ⟨fun h0=>(by rw [hr] at h0;cases h0),fun j hj=>?_⟩;rw [hr,List.mem_singleton] at hj;subst hj;exact wpOp_step ho (fun K' hK=>h K' (fun a w hC hW=>hK a w ⟨hC,hW⟩))
theorem wpAnyC_done {listed:Array Bool} {a:Act} {w:World} (hr:Region.ready md ops listed=[]) (h:Q .normal a w):∀ fuel,wpAnyC P md ops Q C fuel listed a w
 | 0=>⟨hr,h⟩
 | _+1=>⟨fun _=>h,by rw [hr];simp⟩
theorem wp_region_C {id:Nat} {a:Act} {w:World} (hm:P.follows .mixedOrders=true)
 (h:wpAnyC P .any ops Q C ops.size (Array.replicate ops.size false) a w.drew):(Code.region id ops true).wp P Q a w :=
 wp_region_any hm (wpAny_of_C _ _ _ _ h)
end
def lv2 (A B:World→Prop):Nat→World→Prop
 | 0,_=>True
 | 1,w=>A w
 | _+2,w=>A w∧B w
theorem lv2_mono (A B:World→Prop):∀ a b w,a≤b→lv2 A B b w→lv2 A B a w
 | 0,_,_,_,_=>trivial
 | 1,1,_,_,h=>h
 | 1,_+2,_,_,h=>h.1
 | _+2,_+2,_,_,h=>h
theorem tkC {P:Program} {ops:Array Oper} {Q:Exit→Act→World→Prop} {md:Region.Mode} {A B:World→Prop} {c:List Nat} (t:Nat) {i:Nat} {oi:Oper} {v:Value} {fuel:Nat} {listed:Array Bool} {a:Act} {w:World}
 (hi:ops[i]?=some oi) (hb:(Region.noSelect ops&&Region.free md ops listed i&&(Region.ready md ops listed).contains i&&downB md ops listed&&takeB md ops listed c i t)=true) (hS:lv2 A B t w) (hy:YieldsIf P ops (lv2 A B t) oi v a)
 (h:wpAnyC P md ops Q (fun j=>lv2 A B (c.getD j 0)) fuel (listed.setIfInBounds i true) (a.put oi.dst v) w) (hQ:∀ c a w,Q (.panic c) (a.put oi.dst v) w→Q (.panic c) a w:=by exact fun _ _ _ h=>h) :
 wpAnyC P md ops Q (fun j=>lv2 A B (c.getD j 0)) (fuel+1) listed a w:=by
 simp only [Bool.and_eq_true] at hb;exact wpAnyC_take t (lv2_mono A B) hi hb.1.1.1.1 hb.1.1.1.2 hb.1.1.2 hb.1.2 hb.2 hQ hS hy h
theorem tkD {P:Program} {ops:Array Oper} {Q:Exit→Act→World→Prop} {md:Region.Mode} {A B:World→Prop} {c:List Nat} (t:Nat) {i:Nat} {oi:Oper} {v:Value} {fuel:Nat} {listed:Array Bool} {a:Act} {w:World} (hi:ops[i]?=some oi) (hS:lv2 A B t w) (hy:∀ w,lv2 A B t w→(execOp a.eval oi).run P w=.ok (.value v) w) (h:wpAnyC P md ops Q (fun j=>lv2 A B (c.getD j 0)) fuel (listed.setIfInBounds i true) (a.put oi.dst v) w) (hb:(Region.noSelect ops&&Region.free md ops listed i&&(Region.ready md ops listed).contains i&&downB md ops listed&&takeB md ops listed c i t)=true:=by kernel_rfl) (hw:Region.wanted oi (yielded ops a.tmps)=true:=by rfl) (hQ:∀ c a w,Q (.panic c) (a.put oi.dst v) w→Q (.panic c) a w:=by exact fun _ _ _ h=>h):wpAnyC P md ops Q (fun j=>lv2 A B (c.getD j 0)) (fuel+1) listed a w:=tkC t hi hb hS (Or.inl ⟨hw,hy⟩) h hQ
theorem l4Make1_c (Ad:Option Addr) (ds:List DRule) (cd:Nat) (kind:Int) (hkind:1≤kind∧kind≤10∧kind≠6∧kind≠7) (hDn:ds.length≤64) (hki:kind=1∨∃ i,∃ h:i<ds.length,ds[i].kind=1) (hMD:MadeD ds)
 (wb w:World) (p:Nat) (A:Option Addr) (l:List UInt8) (c:Nat) (hA:Bs wb A l c) (hC:Cur wb w p A l c) (hD:∀ w',w.grownBy w' (some p)→RdD w' Ad ds cd) :
 Calls Tryz.prog 157 #[.pointer (some ⟨p,0,none⟩),vdesc (.slice Ad ds.length cd),.int .i64 kind] w fun e w'=>∃ q:RV,e=.returned (vrule q.r q.vb q.vn q.vt q.vk)∧SmallR q.r∧q.r.kind=kind∧MadeR ds q.r∧RuleOwn wb w' q∧Far q.vals∧(∀ u∈q.vals,∀ b,u.ownBlock=some b→w.heap.size≤b)∧Cur wb w' p A l c∧w.grownBy w' (some p):=by
 have hplt:=hC.lt;have hbw:=hC.2.1.size;have CBe:=lhd (fun n w h hn=>l1Below_c n wb w p A l c hA h hn);have COn:=lhd (fun n w h hn=>l1Once_c n wb w p A l c hA h hn);have CS:=lhd (fun w h=>l1StrLit_c [⟨#[97]⟩,⟨#[105,116,101,109]⟩,⟨#[98]⟩,⟨#[104,101,97,100]⟩,⟨#[120]⟩] (by simp) (by simp) 5 rfl #[.string ⟨#[97]⟩,.string ⟨#[105,116,101,109]⟩,.string ⟨#[98]⟩,.string ⟨#[104,101,97,100]⟩,.string ⟨#[120]⟩] rfl wb w p A l c hA h);have CF:=lhd (fun w=>sFormatInt_c (ds.length:Int) w (by omega) (by omega));have hit:=itoa_size (ds.length:Int) (by omega) (by omega);obtain ⟨it,hit0⟩:∃ it,itoaB (ds.length:Int)=it:=⟨_,rfl⟩;rw [hit0] at hit CF;have HIT:=lhd hit0;clear hit0;have HD:=lhd hD;have hki:=lhd hki;have hMD:=lhd hMD;clear hD;obtain ⟨W0,hW0,HP,HR,e0,hsA⟩:=boxes2' w #[.slice Ad ds.length cd] #[.string ⟨#[]⟩,.int .i64 0,.int .i64 0,.bool false,.slice none 0 0,.slice none 0 0,.slice none 0 0,.slice none 0 0] 26 96;unfold vdesc;go_enter Tryz.func157,Tryz.ntmps157;go_wp2_with fail;rw [← hW0.out];have C1:=CS.out W0 (hC.ext e0);rw [hsA] at C1;have C1:=lhd C1;refine C1.out.mono ?_;rintro _ w1 ⟨nm0,hnm0,rfl,hC1,hg1⟩;have HNM:Hid (∃ s∈heads,nm0++it=s++itoaB (ds.length:Int)):=⟨nm0,hnm0,by rw [HIT.out]⟩
 have hnm:nm0.size≤4:=by simp at hnm0;rcases hnm0 with rfl | rfl | rfl | rfl | rfl<;>decide
 have G1:=(grown_ext e0 (some p)).trans hg1;have HP1:=lhd (HP.moved hg1 (some_ne (by omega)));have HR1:=lhd (HR.moved hg1 (some_ne (by omega)));clear hnm0 hg1 C1 CS HP HR e0;go_wp2_with fail;refine (CF.out _).mono ?_;rintro _ w2 ⟨rfl,s2⟩;have G2:=lhd (G1.trans (grown_ext s2 _));have HP2:=lhd (HP1.out.ext s2);have HR2:=lhd (HR1.out.ext s2);have hC2:=hC1.ext s2;clear G1 HP1 HR1 hC1 s2;have hnl:(nm0++it).size≤24:=by have:=ByteArray.size_append (a:=nm0) (b:=it);omega
 have x3:=Ext_alloc (.cells #[.string (nm0++it),.int .i64 kind,.int .i64 0,.bool false,.slice none 0 0,.slice none 0 0,.slice none 0 0,.slice none 0 0] 96) (Ext.refl w2);have hgs:=G2.out.size
 have M0:Hid (Mk wb w (w2.alloc (.cells #[.string (nm0++it),.int .i64 kind,.int .i64 0,.bool false,.slice none 0 0,.slice none 0 0,.slice none 0 0,.slice none 0 0] 96)) p A l c w2.heap.size ⟨⟨nm0++it,kind,0,false,[],[],[],[]⟩,.slice none 0 0,.slice none 0 0,.slice none 0 0,.slice none 0 0⟩) :=
  ⟨Box.new w2 _ _,⟨OwnL.nil _ _,OwnL.nil _ _,OwnL.nil _ _,OwnL.nil _ _⟩,by simp [Far,RV.vals,Value.ownBlock],by simp [RV.vals,Value.ownBlock],hC2.ext x3,G2.out.trans (grown_ext x3 _),hgs,by omega,by omega⟩
 have HP3:=lhd (HP2.out.ext x3);have HR3:=lhd (HR2.out.ext x3);have hlt2:w.heap.size+1<w2.heap.size:=HR2.out.lt
 clear HP2 HR2 hC2 G2 x3 CF;obtain ⟨W3,hW3⟩:∃ W3,W3=w2.alloc (.cells #[.string (nm0++it),.int .i64 kind,.int .i64 0,.bool false,.slice none 0 0,.slice none 0 0,.slice none 0 0,.slice none 0 0] 96):=⟨_,rfl⟩;rw [← hW3] at M0 HP3 HR3;have HW3:=lhd hW3;clear hW3;have HCB:=lhd CBe.out;rcases (by omega:kind=8∨kind=9∨kind=3∨kind=1∨kind=10∨kind=2∨kind=4∨kind=5) with rfl | rfl | rfl | rfl | rfl | rfl | rfl | rfl
 ·have hds0:0<ds.length:=by obtain ⟨i,hi,_⟩:=hki.out.resolve_left (by omega);omega
  go_wp2_with fail;rw [← HW3.out];refine (CBe.out ds.length _ M0.out.cur (by omega)).mono ?_;rintro _ w4 ⟨y,hy,rfl,hC4,hg4⟩;have HYL:Hid (y<ds.length):=by show _<_;unfold below at hy;rw [if_neg (by omega)] at hy;omega
  have hyn:y≤64:=by have:=HYL.out;omega
  have M4:=M0.out.moved hC4 hg4;have HR4:=lhd (HR3.out.moved hg4 (some_ne (by omega)));have x5:=Ext_alloc (.cells #[.int .i64 y] 3) (Ext.refl w4);have ho5:=OwnL.lit (f:=vint) (e:=3) hC4.2.1 [(y:Int)] #[.int .i64 y] rfl 1 rfl (by omega);have M5:=M4.ext x5;have z7:_=some (Value.slice none 0 0):=M5.box.cell 7
  have y7:=M5.box.free 7;have hgl4:=M4.box.lt;have hpl4:=hC4.lt;have M6:=lhd (M5.fresh_k ho5 (n0:=w4.heap.size) (fun b hb=>by injection hb with hb;simp at hb;omega) (by simp [RV.vals,Value.ownBlock]) (by omega) (by omega) (by have:=M4.grow.size;omega));have HR6:=lhd ((HR4.out.ext x5).other (g':=w2.heap.size) (by omega) 7 (.slice (some ⟨w4.heap.size,0,none⟩) 1 1));have hcm:=World.setCell_alloc_past (w:=w4) (.cells #[.int .i64 y] 3) w2.heap.size 7 (.slice (some ⟨w4.heap.size,0,none⟩) 1 1) (by omega);rw [hcm] at M6 HR6;clear M4 M5 ho5 x5 hC4 hg4 HR4 hcm;obtain ⟨⟨a0,a1,a2,a3⟩,a4,a5,a6,a7⟩:=cells8 M6.out.box;obtain ⟨⟨b0,b1,b2,b3⟩,b4,b5,b6,b7⟩:=cells8 (q:=⟨⟨⟨#[]⟩,0,0,false,[],[],[],[]⟩,.slice none 0 0,.slice none 0 0,.slice none 0 0,.slice none 0 0⟩) HR6.out;obtain ⟨⟨d0,d1,d2,d3⟩,d4,d5,d6,d7⟩:=frees8 HR6.out;dsimp only at a0 a1 a2 a3 a4 a5 a6 a7 b0 b1 b2 b3 b4 b5 b6 b7
  have hR2:∀ u∈RV.vals ⟨⟨nm0++it,8,0,false,[],[],[],[(y:Int)]⟩,.slice none 0 0,.slice none 0 0,.slice none 0 0,.slice (some ⟨w4.heap.size,0,none⟩) 1 1⟩,∀ b,u.ownBlock=some b→b≠w.heap.size+1:=by
   intro u hu b hb;simp only [RV.vals,List.mem_cons,List.not_mem_nil,or_false] at hu;rcases hu with rfl | rfl | rfl | rfl
   ·cases hb
   ·cases hb
   ·cases hb
   ·(have:some w4.heap.size=some b:=hb);injection this;omega
  have HOUT:=lhd (M6.out.out HR6.out (by omega) (by omega) (by omega) hR2);dsimp only at HOUT;have hnew:=fun u hu b hb=>(M6.out.new u hu b hb).1
  have hfar:=M6.out.far;go_wp2_with fail;obtain ⟨hB,hO,hCc,hG⟩:=HOUT.out;obtain ⟨⟨e0,e1,e2,e3⟩,e4,e5,e6,e7⟩:=cells8 (q:=⟨⟨nm0++it,8,0,false,[],[],[],[(y:Int)]⟩,.slice none 0 0,.slice none 0 0,.slice none 0 0,.slice (some ⟨w4.heap.size,0,none⟩) 1 1⟩) hB;dsimp only at e0 e1 e2 e3 e4 e5 e6 e7;refine bodyPost_ret (v:=vrule ⟨nm0++it,8,0,false,[],[],[],[(y:Int)]⟩ (.slice none 0 0) (.slice none 0 0) (.slice none 0 0) (.slice (some ⟨w4.heap.size,0,none⟩) 1 1)) (by simp [results,Tryz.results157,go_sem,e0,e1,e2,e3,e4,e5,e6,e7,vrule]) rfl ?_;exact ⟨_,rfl,⟨by show (nm0++it).size≤40;omega,by simp,by simp,by simp;omega⟩,rfl,made_opt HNM.out HYL.out,hO,hfar,hnew,hCc,hG⟩
 ·have hds0:0<ds.length:=by obtain ⟨i,hi,_⟩:=hki.out.resolve_left (by omega);omega
  go_wp2_with fail;rw [← HW3.out];refine (CBe.out ds.length _ M0.out.cur (by omega)).mono ?_;rintro _ w4 ⟨y,hy,rfl,hC4,hg4⟩;have HYL:Hid (y<ds.length):=by show _<_;unfold below at hy;rw [if_neg (by omega)] at hy;omega
  have hyn:y≤64:=by have:=HYL.out;omega
  have M4:=M0.out.moved hC4 hg4;have HR4:=lhd (HR3.out.moved hg4 (some_ne (by omega)));have x5:=Ext_alloc (.cells #[.int .i64 y] 3) (Ext.refl w4);have ho5:=OwnL.lit (f:=vint) (e:=3) hC4.2.1 [(y:Int)] #[.int .i64 y] rfl 1 rfl (by omega);have M5:=M4.ext x5;have z7:_=some (Value.slice none 0 0):=M5.box.cell 7
  have y7:=M5.box.free 7;have hgl4:=M4.box.lt;have hpl4:=hC4.lt;have M6:=lhd (M5.fresh_k ho5 (n0:=w4.heap.size) (fun b hb=>by injection hb with hb;simp at hb;omega) (by simp [RV.vals,Value.ownBlock]) (by omega) (by omega) (by have:=M4.grow.size;omega));have HR6:=lhd ((HR4.out.ext x5).other (g':=w2.heap.size) (by omega) 7 (.slice (some ⟨w4.heap.size,0,none⟩) 1 1));have hcm:=World.setCell_alloc_past (w:=w4) (.cells #[.int .i64 y] 3) w2.heap.size 7 (.slice (some ⟨w4.heap.size,0,none⟩) 1 1) (by omega);rw [hcm] at M6 HR6;clear M4 M5 ho5 x5 hC4 hg4 HR4 hcm;obtain ⟨⟨a0,a1,a2,a3⟩,a4,a5,a6,a7⟩:=cells8 M6.out.box;obtain ⟨⟨b0,b1,b2,b3⟩,b4,b5,b6,b7⟩:=cells8 (q:=⟨⟨⟨#[]⟩,0,0,false,[],[],[],[]⟩,.slice none 0 0,.slice none 0 0,.slice none 0 0,.slice none 0 0⟩) HR6.out;obtain ⟨⟨d0,d1,d2,d3⟩,d4,d5,d6,d7⟩:=frees8 HR6.out;dsimp only at a0 a1 a2 a3 a4 a5 a6 a7 b0 b1 b2 b3 b4 b5 b6 b7
  have hR2:∀ u∈RV.vals ⟨⟨nm0++it,9,0,false,[],[],[],[(y:Int)]⟩,.slice none 0 0,.slice none 0 0,.slice none 0 0,.slice (some ⟨w4.heap.size,0,none⟩) 1 1⟩,∀ b,u.ownBlock=some b→b≠w.heap.size+1:=by
   intro u hu b hb;simp only [RV.vals,List.mem_cons,List.not_mem_nil,or_false] at hu;rcases hu with rfl | rfl | rfl | rfl
   ·cases hb
   ·cases hb
   ·cases hb
   ·(have:some w4.heap.size=some b:=hb);injection this;omega
  have HOUT:=lhd (M6.out.out HR6.out (by omega) (by omega) (by omega) hR2);dsimp only at HOUT;have hnew:=fun u hu b hb=>(M6.out.new u hu b hb).1
  have hfar:=M6.out.far;go_wp2_with fail;obtain ⟨hB,hO,hCc,hG⟩:=HOUT.out;obtain ⟨⟨e0,e1,e2,e3⟩,e4,e5,e6,e7⟩:=cells8 (q:=⟨⟨nm0++it,9,0,false,[],[],[],[(y:Int)]⟩,.slice none 0 0,.slice none 0 0,.slice none 0 0,.slice (some ⟨w4.heap.size,0,none⟩) 1 1⟩) hB;dsimp only at e0 e1 e2 e3 e4 e5 e6 e7;refine bodyPost_ret (v:=vrule ⟨nm0++it,9,0,false,[],[],[],[(y:Int)]⟩ (.slice none 0 0) (.slice none 0 0) (.slice none 0 0) (.slice (some ⟨w4.heap.size,0,none⟩) 1 1)) (by simp [results,Tryz.results157,go_sem,e0,e1,e2,e3,e4,e5,e6,e7,vrule]) rfl ?_;exact ⟨_,rfl,⟨by show (nm0++it).size≤40;omega,by simp,by simp,by simp;omega⟩,rfl,made_checked HNM.out HYL.out,hO,hfar,hnew,hCc,hG⟩
 ·go_wp2_with fail
  rw [← HW3.out];refine (CBe.out 4 _ M0.out.cur (by omega)).mono ?_;rintro _ w4 ⟨y,hy,rfl,hC4,hg4⟩;have hyn:y<4:=by unfold below at hy;rw [if_neg (by omega)] at hy;omega
  have M4:=M0.out.moved hC4 hg4;have HR4:=lhd (HR3.out.moved hg4 (some_ne (by omega)));have z2:_=some (Value.int .i64 0):=M4.box.cell 2
  have y2:=M4.box.free 2;have M6:=lhd (M4.put (q':=⟨⟨nm0++it,3,1+(y:Int),false,[],[],[],[]⟩,.slice none 0 0,.slice none 0 0,.slice none 0 0,.slice none 0 0⟩) 2 (.int .i64 (1+(y:Int))) (by simp [RV.cells]) rfl ⟨rfl,rfl,rfl,rfl⟩);have HR6:=lhd (HR4.out.other (g':=w2.heap.size) (by omega) 2 (.int .i64 (1+(y:Int))));clear M4 hC4 hg4 HR4;obtain ⟨⟨a0,a1,a2,a3⟩,a4,a5,a6,a7⟩:=cells8 M6.out.box;obtain ⟨⟨b0,b1,b2,b3⟩,b4,b5,b6,b7⟩:=cells8 (q:=⟨⟨⟨#[]⟩,0,0,false,[],[],[],[]⟩,.slice none 0 0,.slice none 0 0,.slice none 0 0,.slice none 0 0⟩) HR6.out;obtain ⟨⟨d0,d1,d2,d3⟩,d4,d5,d6,d7⟩:=frees8 HR6.out;dsimp only at a0 a1 a2 a3 a4 a5 a6 a7 b0 b1 b2 b3 b4 b5 b6 b7
  have hR2:∀ u∈RV.vals ⟨⟨nm0++it,3,1+(y:Int),false,[],[],[],[]⟩,.slice none 0 0,.slice none 0 0,.slice none 0 0,.slice none 0 0⟩,∀ b,u.ownBlock=some b→b≠w.heap.size+1:=by
   intro u hu b hb;simp only [RV.vals,List.mem_cons,List.not_mem_nil,or_false] at hu;rcases hu with rfl | rfl | rfl | rfl
   ·cases hb
   ·cases hb
   ·cases hb
   ·cases hb
  have HOUT:=lhd (M6.out.out HR6.out (by omega) (by omega) (by omega) hR2);dsimp only at HOUT;have hnew:=fun u hu b hb=>(M6.out.new u hu b hb).1
  have hfar:=M6.out.far;go_wp2_with fail;obtain ⟨hB,hO,hCc,hG⟩:=HOUT.out;obtain ⟨⟨e0,e1,e2,e3⟩,e4,e5,e6,e7⟩:=cells8 (q:=⟨⟨nm0++it,3,1+(y:Int),false,[],[],[],[]⟩,.slice none 0 0,.slice none 0 0,.slice none 0 0,.slice none 0 0⟩) hB;dsimp only at e0 e1 e2 e3 e4 e5 e6 e7;refine bodyPost_ret (v:=vrule ⟨nm0++it,3,1+(y:Int),false,[],[],[],[]⟩ (.slice none 0 0) (.slice none 0 0) (.slice none 0 0) (.slice none 0 0)) (by simp [results,Tryz.results157,go_sem,e0,e1,e2,e3,e4,e5,e6,e7,vrule]) rfl ?_;exact ⟨_,rfl,⟨by show (nm0++it).size≤40;omega,by simp,by simp,by simp;omega⟩,rfl,made_fixed HNM.out (by omega),hO,hfar,hnew,hCc,hG⟩
 ·go_wp2_with fail
  rw [← HW3.out];refine (CBe.out 3 _ M0.out.cur (by omega)).mono ?_;rintro _ w4 ⟨y,hy,rfl,hC4,hg4⟩;have hyn:y<3:=by unfold below at hy;rw [if_neg (by omega)] at hy;omega
  have M4:=M0.out.moved hC4 hg4;have HR4:=lhd (HR3.out.moved hg4 (some_ne (by omega)));have z2:_=some (Value.int .i64 0):=M4.box.cell 2
  have y2:=M4.box.free 2;have M5:=lhd (M4.put (q':=⟨⟨nm0++it,1,1+(y:Int),false,[],[],[],[]⟩,.slice none 0 0,.slice none 0 0,.slice none 0 0,.slice none 0 0⟩) 2 (.int .i64 (1+(y:Int))) (by simp [RV.cells]) rfl ⟨rfl,rfl,rfl,rfl⟩);have HR5:=lhd (HR4.out.other (g':=w2.heap.size) (by omega) 2 (.int .i64 (1+(y:Int))));clear M4 hC4 hg4 HR4;have z5:_=some (Value.int .i64 (1+(y:Int))):=M5.out.box.cell 2
  by_cases hy0:y=0
  ·have hd:decide ((1:Int)<1+(y:Int))=false:=by rw [decide_eq_false_iff_not];omega
   have hd1:decide ((0:Int)<(y:Int))=false:=by rw [decide_eq_false_iff_not];omega
   have hd2:decide (0<y)=false:=by rw [decide_eq_false_iff_not];omega
   have hd3:¬ (1:Int)<1+(y:Int):=by omega
   clear hy0;have z3:_=some (Value.bool false):=M5.out.box.cell 3
   have y3:=M5.out.box.free 3;have M6:=lhd (M5.out.put (q':=⟨⟨nm0++it,1,1+(y:Int),false,[],[],[],[]⟩,.slice none 0 0,.slice none 0 0,.slice none 0 0,.slice none 0 0⟩) 3 (.bool false) (by simp [RV.cells]) rfl ⟨rfl,rfl,rfl,rfl⟩);have HR6:=lhd (HR5.out.other (g':=w2.heap.size) (by omega) 3 (.bool false));clear M5 HR5;obtain ⟨⟨a0,a1,a2,a3⟩,a4,a5,a6,a7⟩:=cells8 M6.out.box;obtain ⟨⟨b0,b1,b2,b3⟩,b4,b5,b6,b7⟩:=cells8 (q:=⟨⟨⟨#[]⟩,0,0,false,[],[],[],[]⟩,.slice none 0 0,.slice none 0 0,.slice none 0 0,.slice none 0 0⟩) HR6.out;obtain ⟨⟨d0,d1,d2,d3⟩,d4,d5,d6,d7⟩:=frees8 HR6.out;dsimp only at a0 a1 a2 a3 a4 a5 a6 a7 b0 b1 b2 b3 b4 b5 b6 b7
   have hR2:∀ u∈RV.vals ⟨⟨nm0++it,1,1+(y:Int),false,[],[],[],[]⟩,.slice none 0 0,.slice none 0 0,.slice none 0 0,.slice none 0 0⟩,∀ b,u.ownBlock=some b→b≠w.heap.size+1:=by
    intro u hu b hb;simp only [RV.vals,List.mem_cons,List.not_mem_nil,or_false] at hu;rcases hu with rfl | rfl | rfl | rfl
    ·cases hb
    ·cases hb
    ·cases hb
    ·cases hb
   have HOUT:=lhd (M6.out.out HR6.out (by omega) (by omega) (by omega) hR2);dsimp only at HOUT;have hnew:=fun u hu b hb=>(M6.out.new u hu b hb).1
   have hfar:=M6.out.far;go_wp2_with fail;obtain ⟨hB,hO,hCc,hG⟩:=HOUT.out;obtain ⟨⟨e0,e1,e2,e3⟩,e4,e5,e6,e7⟩:=cells8 (q:=⟨⟨nm0++it,1,1+(y:Int),false,[],[],[],[]⟩,.slice none 0 0,.slice none 0 0,.slice none 0 0,.slice none 0 0⟩) hB;dsimp only at e0 e1 e2 e3 e4 e5 e6 e7;refine bodyPost_ret (v:=vrule ⟨nm0++it,1,1+(y:Int),false,[],[],[],[]⟩ (.slice none 0 0) (.slice none 0 0) (.slice none 0 0) (.slice none 0 0)) (by simp [results,Tryz.results157,go_sem,e0,e1,e2,e3,e4,e5,e6,e7,vrule]) rfl ?_;exact ⟨_,rfl,⟨by show (nm0++it).size≤40;omega,by simp,by simp,by simp;omega⟩,rfl,made_int HNM.out (by omega) (fun h=>by first | omega | cases h),hO,hfar,hnew,hCc,hG⟩
  ·have hd:decide ((1:Int)<1+(y:Int))=true:=by rw [decide_eq_true_eq];omega
   go_wp2_with fail;refine (COn.out 2 _ M5.out.cur (by omega)).mono ?_;rintro _ w6 ⟨bb,rfl,hC6,hg6⟩;have M7:=M5.out.moved hC6 hg6;have HR7:=lhd (HR5.out.moved hg6 (some_ne (by omega)));have z3:_=some (Value.bool false):=M7.box.cell 3
   have y3:=M7.box.free 3;have M6:=lhd (M7.put (q':=⟨⟨nm0++it,1,1+(y:Int),bb,[],[],[],[]⟩,.slice none 0 0,.slice none 0 0,.slice none 0 0,.slice none 0 0⟩) 3 (.bool bb) (by simp [RV.cells]) rfl ⟨rfl,rfl,rfl,rfl⟩);have HR6:=lhd (HR7.out.other (g':=w2.heap.size) (by omega) 3 (.bool bb));clear M5 HR5 M7 HR7 hC6 hg6;obtain ⟨⟨a0,a1,a2,a3⟩,a4,a5,a6,a7⟩:=cells8 M6.out.box;obtain ⟨⟨b0,b1,b2,b3⟩,b4,b5,b6,b7⟩:=cells8 (q:=⟨⟨⟨#[]⟩,0,0,false,[],[],[],[]⟩,.slice none 0 0,.slice none 0 0,.slice none 0 0,.slice none 0 0⟩) HR6.out;obtain ⟨⟨d0,d1,d2,d3⟩,d4,d5,d6,d7⟩:=frees8 HR6.out;dsimp only at a0 a1 a2 a3 a4 a5 a6 a7 b0 b1 b2 b3 b4 b5 b6 b7
   have hR2:∀ u∈RV.vals ⟨⟨nm0++it,1,1+(y:Int),bb,[],[],[],[]⟩,.slice none 0 0,.slice none 0 0,.slice none 0 0,.slice none 0 0⟩,∀ b,u.ownBlock=some b→b≠w.heap.size+1:=by
    intro u hu b hb;simp only [RV.vals,List.mem_cons,List.not_mem_nil,or_false] at hu;rcases hu with rfl | rfl | rfl | rfl
    ·cases hb
    ·cases hb
    ·cases hb
    ·cases hb
   have HOUT:=lhd (M6.out.out HR6.out (by omega) (by omega) (by omega) hR2);dsimp only at HOUT;have hnew:=fun u hu b hb=>(M6.out.new u hu b hb).1
   have hfar:=M6.out.far;go_wp2_with fail;obtain ⟨hB,hO,hCc,hG⟩:=HOUT.out;obtain ⟨⟨e0,e1,e2,e3⟩,e4,e5,e6,e7⟩:=cells8 (q:=⟨⟨nm0++it,1,1+(y:Int),bb,[],[],[],[]⟩,.slice none 0 0,.slice none 0 0,.slice none 0 0,.slice none 0 0⟩) hB;dsimp only at e0 e1 e2 e3 e4 e5 e6 e7;refine bodyPost_ret (v:=vrule ⟨nm0++it,1,1+(y:Int),bb,[],[],[],[]⟩ (.slice none 0 0) (.slice none 0 0) (.slice none 0 0) (.slice none 0 0)) (by simp [results,Tryz.results157,go_sem,e0,e1,e2,e3,e4,e5,e6,e7,vrule]) rfl ?_;exact ⟨_,rfl,⟨by show (nm0++it).size≤40;omega,by simp,by simp,by simp;omega⟩,rfl,made_int HNM.out (by omega) (fun h=>by first | omega | cases h),hO,hfar,hnew,hCc,hG⟩
 ·have hsz3:W3.heap.size=w2.heap.size+1:=by rw [HW3.out];simp
  have CI:=l1IntLit_c [0,10,59,255] (by simp) (by simp) 4 rfl #[.int .i64 0,.int .i64 10,.int .i64 59,.int .i64 255] rfl wb W3 p A l c hA M0.out.cur;rw [hsz3] at CI;have CI:=lhd CI;go_wp2_with fail;rw [← HW3.out];refine CI.out.mono ?_;rintro _ w4 ⟨x,hx,rfl,hC4,hg4⟩
  obtain ⟨y,hy,hy92,rfl⟩:∃ y:Nat,y<256∧UInt8.ofNat y≠92∧x=(y:Int):=by
   simp only [List.mem_cons,List.not_mem_nil,or_false] at hx;rcases hx with rfl | rfl | rfl | rfl
   ·exact ⟨0,by omega,by decide,rfl⟩
   ·exact ⟨10,by omega,by decide,rfl⟩
   ·exact ⟨59,by omega,by decide,rfl⟩
   ·exact ⟨255,by omega,by decide,rfl⟩
  have HY92:=lhd hy92;clear hx hy92;have hyb:(UInt8.ofNat y).toNat=y:=by rw [UInt8.toNat_ofNat'];omega
  have M4:=M0.out.moved hC4 hg4;have HR4:=lhd (HR3.out.moved hg4 (some_ne (by omega)));have x5:=Ext_alloc (.cells #[.int .u8 y] 5) (Ext.refl w4);have ho5:=OwnL.lit (f:=vu8) (e:=5) hC4.2.1 [UInt8.ofNat y] #[.int .u8 y] (by simp [vu8,hyb]) 1 rfl (by omega);have M5:=M4.ext x5;have z7:_=some (Value.slice none 0 0):=M5.box.cell 4
  have y7:=M5.box.free 4;have hgl4:=M4.box.lt;have hpl4:=hC4.lt;have M6:=lhd (M5.fresh_b ho5 (n0:=w4.heap.size) (fun b hb=>by injection hb with hb;simp at hb;omega) (by simp [RV.vals,Value.ownBlock]) (by omega) (by omega) (by have:=M4.grow.size;omega));have HR6:=lhd ((HR4.out.ext x5).other (g':=w2.heap.size) (by omega) 4 (.slice (some ⟨w4.heap.size,0,none⟩) 1 1));have hcm:=World.setCell_alloc_past (w:=w4) (.cells #[.int .u8 y] 5) w2.heap.size 4 (.slice (some ⟨w4.heap.size,0,none⟩) 1 1) (by omega);rw [hcm] at M6 HR6;clear M4 M5 ho5 x5 hC4 hg4 HR4 hcm hyb;obtain ⟨⟨a0,a1,a2,a3⟩,a4,a5,a6,a7⟩:=cells8 M6.out.box;obtain ⟨⟨b0,b1,b2,b3⟩,b4,b5,b6,b7⟩:=cells8 (q:=⟨⟨⟨#[]⟩,0,0,false,[],[],[],[]⟩,.slice none 0 0,.slice none 0 0,.slice none 0 0,.slice none 0 0⟩) HR6.out;obtain ⟨⟨d0,d1,d2,d3⟩,d4,d5,d6,d7⟩:=frees8 HR6.out;dsimp only at a0 a1 a2 a3 a4 a5 a6 a7 b0 b1 b2 b3 b4 b5 b6 b7
  have hR2:∀ u∈RV.vals ⟨⟨nm0++it,10,0,false,[UInt8.ofNat y],[],[],[]⟩,.slice (some ⟨w4.heap.size,0,none⟩) 1 1,.slice none 0 0,.slice none 0 0,.slice none 0 0⟩,∀ b,u.ownBlock=some b→b≠w.heap.size+1:=by
   intro u hu b hb;simp only [RV.vals,List.mem_cons,List.not_mem_nil,or_false] at hu;rcases hu with rfl | rfl | rfl | rfl
   ·(have:some w4.heap.size=some b:=hb);injection this;omega
   ·cases hb
   ·cases hb
   ·cases hb
  have HOUT:=lhd (M6.out.out HR6.out (by omega) (by omega) (by omega) hR2);dsimp only at HOUT;have hnew:=fun u hu b hb=>(M6.out.new u hu b hb).1
  have hfar:=M6.out.far;go_wp2_with fail;obtain ⟨hB,hO,hCc,hG⟩:=HOUT.out;obtain ⟨⟨e0,e1,e2,e3⟩,e4,e5,e6,e7⟩:=cells8 (q:=⟨⟨nm0++it,10,0,false,[UInt8.ofNat y],[],[],[]⟩,.slice (some ⟨w4.heap.size,0,none⟩) 1 1,.slice none 0 0,.slice none 0 0,.slice none 0 0⟩) hB;dsimp only at e0 e1 e2 e3 e4 e5 e6 e7;refine bodyPost_ret (v:=vrule ⟨nm0++it,10,0,false,[UInt8.ofNat y],[],[],[]⟩ (.slice (some ⟨w4.heap.size,0,none⟩) 1 1) (.slice none 0 0) (.slice none 0 0) (.slice none 0 0)) (by simp [results,Tryz.results157,go_sem,e0,e1,e2,e3,e4,e5,e6,e7,vrule]) rfl ?_;exact ⟨_,rfl,⟨by show (nm0++it).size≤40;omega,by simp,by simp,by simp;try omega⟩,rfl,made_term HNM.out HY92.out,hO,hfar,hnew,hCc,hG⟩
 ·go_wp2_with fail
  rw [← HW3.out];refine (CBe.out 3 _ M0.out.cur (by omega)).mono ?_;rintro _ w4 ⟨y,hy,rfl,hC4,hg4⟩;have hyn:y<3:=by unfold below at hy;rw [if_neg (by omega)] at hy;omega
  have M4:=M0.out.moved hC4 hg4;have HR4:=lhd (HR3.out.moved hg4 (some_ne (by omega)));have CB:=l1Bytes_c (1+y) (by omega) wb w4 p A l c hA hC4;rw [show ((1+y:Nat):Int)=1+(y:Int) by omega] at CB;have CB:=lhd CB;have hgl4:=M4.box.lt;have hpl4:=hC4.lt;go_wp2_with fail;refine CB.out.mono ?_;rintro _ w5 ⟨vb,qb,hqb,rfl,ho5,hn5,hC5,hg5⟩;obtain ⟨A5,c5,rfl,_⟩:=OwnL.rd ho5 (by omega);replace hqb:=lhd hqb;have M5:=M4.moved hC5 hg5;have HR5:=lhd (HR4.out.moved hg5 (some_ne (by omega)));have z7:_=some (Value.slice none 0 0):=M5.box.cell 4
  have y7:=M5.box.free 4;have M6:=lhd (M5.fresh_b ho5 (n0:=w4.heap.size) hn5 (by simp [RV.vals,Value.ownBlock]) (by omega) (by omega) (by have:=M4.grow.size;omega));have HR6:=lhd (HR5.out.other (g':=w2.heap.size) (by omega) 4 (.slice A5 qb.length c5));have hn5':Hid (∀ g,(Value.slice A5 qb.length c5).ownBlock=some g→w.heap.size+1<g):=fun g hg=>by have:=hn5 g hg;omega
  clear M4 M5 ho5 hn5 hC4 hg4 HR4 HR5 hC5 hg5 CB;obtain ⟨⟨a0,a1,a2,a3⟩,a4,a5,a6,a7⟩:=cells8 M6.out.box;obtain ⟨⟨b0,b1,b2,b3⟩,b4,b5,b6,b7⟩:=cells8 (q:=⟨⟨⟨#[]⟩,0,0,false,[],[],[],[]⟩,.slice none 0 0,.slice none 0 0,.slice none 0 0,.slice none 0 0⟩) HR6.out;obtain ⟨⟨d0,d1,d2,d3⟩,d4,d5,d6,d7⟩:=frees8 HR6.out;dsimp only at a0 a1 a2 a3 a4 a5 a6 a7 b0 b1 b2 b3 b4 b5 b6 b7
  have hR2:∀ u∈RV.vals ⟨⟨nm0++it,2,0,false,qb,[],[],[]⟩,.slice A5 qb.length c5,.slice none 0 0,.slice none 0 0,.slice none 0 0⟩,∀ b,u.ownBlock=some b→b≠w.heap.size+1:=by
   intro u hu b hb;simp only [RV.vals,List.mem_cons,List.not_mem_nil,or_false] at hu;rcases hu with rfl | rfl | rfl | rfl
   ·have:=hn5'.out b hb;omega
   ·cases hb
   ·cases hb
   ·cases hb
  have HOUT:=lhd (M6.out.out HR6.out (by omega) (by omega) (by omega) hR2);dsimp only at HOUT;have hnew:=fun u hu b hb=>(M6.out.new u hu b hb).1
  have hfar:=M6.out.far;go_wp2_with fail;obtain ⟨hB,hO,hCc,hG⟩:=HOUT.out;obtain ⟨⟨e0,e1,e2,e3⟩,e4,e5,e6,e7⟩:=cells8 (q:=⟨⟨nm0++it,2,0,false,qb,[],[],[]⟩,.slice A5 qb.length c5,.slice none 0 0,.slice none 0 0,.slice none 0 0⟩) hB;dsimp only at e0 e1 e2 e3 e4 e5 e6 e7;refine bodyPost_ret (v:=vrule ⟨nm0++it,2,0,false,qb,[],[],[]⟩ (.slice A5 qb.length c5) (.slice none 0 0) (.slice none 0 0) (.slice none 0 0)) (by simp [results,Tryz.results157,go_sem,e0,e1,e2,e3,e4,e5,e6,e7,vrule]) rfl ?_;exact ⟨_,rfl,⟨by show (nm0++it).size≤40;omega,by have:=hqb.out;simp;omega,by simp,by simp;try omega⟩,rfl,made_const HNM.out (by rw [hqb.out];omega) (by rw [hqb.out];omega),hO,hfar,hnew,hCc,hG⟩
 ·have zp:_=some (Value.slice Ad ds.length cd):=HP3.out.cell 0
  rw [HW3.out] at zp;have hki':=hki.out.resolve_left (by omega);have hds0:0<ds.length:=by obtain ⟨i,hi,_⟩:=hki';omega
  have CI:=lhd (l4Integer_c Ad ds cd hds0 hDn hki' wb W3 p A l c hA M0.out.cur (HD.out _ M0.out.grow));unfold vdesc at CI;clear hki' hki;go_wp2_with fail;rw [← HW3.out];refine CI.out.mono ?_;rintro _ w4 ⟨x,hx,hxk,rfl,hC4,hg4⟩;have HXK:=lhd hxk;have HXL:=lhd hx;clear CI zp hxk;have M4:=M0.out.moved hC4 hg4;have HR4:=lhd (HR3.out.moved hg4 (some_ne (by omega)));have x5:=Ext_alloc (.cells #[.int .i64 x] 3) (Ext.refl w4);have ho5:=OwnL.lit (f:=vint) (e:=3) hC4.2.1 [(x:Int)] #[.int .i64 x] rfl 1 rfl (by omega);have M5:=M4.ext x5;have z7:_=some (Value.slice none 0 0):=M5.box.cell 7
  have y7:=M5.box.free 7;have hgl4:=M4.box.lt;have hpl4:=hC4.lt;have M6:=lhd (M5.fresh_k ho5 (n0:=w4.heap.size) (fun b hb=>by injection hb with hb;simp at hb;omega) (by simp [RV.vals,Value.ownBlock]) (by omega) (by omega) (by have:=M4.grow.size;omega));have HR6:=lhd ((HR4.out.ext x5).other (g':=w2.heap.size) (by omega) 7 (.slice (some ⟨w4.heap.size,0,none⟩) 1 1));have hcm:=World.setCell_alloc_past (w:=w4) (.cells #[.int .i64 x] 3) w2.heap.size 7 (.slice (some ⟨w4.heap.size,0,none⟩) 1 1) (by omega);rw [hcm] at M6 HR6;clear M4 M5 ho5 x5 hC4 hg4 HR4 hcm;obtain ⟨⟨a0,a1,a2,a3⟩,a4,a5,a6,a7⟩:=cells8 M6.out.box;obtain ⟨⟨b0,b1,b2,b3⟩,b4,b5,b6,b7⟩:=cells8 (q:=⟨⟨⟨#[]⟩,0,0,false,[],[],[],[]⟩,.slice none 0 0,.slice none 0 0,.slice none 0 0,.slice none 0 0⟩) HR6.out;obtain ⟨⟨d0,d1,d2,d3⟩,d4,d5,d6,d7⟩:=frees8 HR6.out;dsimp only at a0 a1 a2 a3 a4 a5 a6 a7 b0 b1 b2 b3 b4 b5 b6 b7
  have hR2:∀ u∈RV.vals ⟨⟨nm0++it,4,0,false,[],[],[],[(x:Int)]⟩,.slice none 0 0,.slice none 0 0,.slice none 0 0,.slice (some ⟨w4.heap.size,0,none⟩) 1 1⟩,∀ b,u.ownBlock=some b→b≠w.heap.size+1:=by
   intro u hu b hb;simp only [RV.vals,List.mem_cons,List.not_mem_nil,or_false] at hu;rcases hu with rfl | rfl | rfl | rfl
   ·cases hb
   ·cases hb
   ·cases hb
   ·(have:some w4.heap.size=some b:=hb);injection this;omega
  have HOUT:=lhd (M6.out.out HR6.out (by omega) (by omega) (by omega) hR2);dsimp only at HOUT;have hnew:=fun u hu b hb=>(M6.out.new u hu b hb).1
  have hfar:=M6.out.far;go_wp2_with fail;obtain ⟨hB,hO,hCc,hG⟩:=HOUT.out;obtain ⟨⟨e0,e1,e2,e3⟩,e4,e5,e6,e7⟩:=cells8 (q:=⟨⟨nm0++it,4,0,false,[],[],[],[(x:Int)]⟩,.slice none 0 0,.slice none 0 0,.slice none 0 0,.slice (some ⟨w4.heap.size,0,none⟩) 1 1⟩) hB;dsimp only at e0 e1 e2 e3 e4 e5 e6 e7;refine bodyPost_ret (v:=vrule ⟨nm0++it,4,0,false,[],[],[],[(x:Int)]⟩ (.slice none 0 0) (.slice none 0 0) (.slice none 0 0) (.slice (some ⟨w4.heap.size,0,none⟩) 1 1)) (by simp [results,Tryz.results157,go_sem,e0,e1,e2,e3,e4,e5,e6,e7,vrule]) rfl ?_;exact ⟨_,rfl,⟨by show (nm0++it).size≤40;omega,by simp,by simp,by simp;omega⟩,rfl,made_sized HNM.out hMD.out HXL.out HXK.out,hO,hfar,hnew,hCc,hG⟩
 ·have zp:_=some (Value.slice Ad ds.length cd):=HP3.out.cell 0
  rw [HW3.out] at zp;have hki':=hki.out.resolve_left (by omega);have hds0:0<ds.length:=by obtain ⟨i,hi,_⟩:=hki';omega
  have CI:=lhd (l4Integer_c Ad ds cd hds0 hDn hki' wb W3 p A l c hA M0.out.cur (HD.out _ M0.out.grow));unfold vdesc at CI;clear hki' hki;go_wp2_with fail;rw [← HW3.out];refine CI.out.mono ?_;rintro _ w3' ⟨x,hx,hxk,rfl,hC3,hg3⟩;have HXK:=lhd hxk;have HXL:=lhd hx;clear CI zp hxk;have M3:=lhd (M0.out.moved hC3 hg3);have HR3':=lhd (HR3.out.moved hg3 (some_ne (by omega)));go_wp2_with fail;refine (CBe.out ds.length _ M3.out.cur (by omega)).mono ?_;rintro _ w4 ⟨y,hy,rfl,hC4,hg4⟩;have HYL:Hid (y<ds.length):=by show _<_;unfold below at hy;rw [if_neg (by omega)] at hy;omega
  have hyn:y≤64:=by have:=HYL.out;omega
  have M4:=M3.out.moved hC4 hg4;have HR4:=lhd (HR3'.out.moved hg4 (some_ne (by omega)));clear M3 HR3';have x5:=Ext_alloc (.cells #[.int .i64 x,.int .i64 y] 3) (Ext.refl w4);have ho5:=OwnL.lit (f:=vint) (e:=3) hC4.2.1 [(x:Int),(y:Int)] #[.int .i64 x,.int .i64 y] rfl 2 rfl (by omega);have M5:=M4.ext x5;have z7:_=some (Value.slice none 0 0):=M5.box.cell 7
  have y7:=M5.box.free 7;have hgl4:=M4.box.lt;have hpl4:=hC4.lt;have M6:=lhd (M5.fresh_k ho5 (n0:=w4.heap.size) (fun b hb=>by injection hb with hb;simp at hb;omega) (by simp [RV.vals,Value.ownBlock]) (by omega) (by omega) (by have:=M4.grow.size;omega));have HR6:=lhd ((HR4.out.ext x5).other (g':=w2.heap.size) (by omega) 7 (.slice (some ⟨w4.heap.size,0,none⟩) 2 2));have hcm:=World.setCell_alloc_past (w:=w4) (.cells #[.int .i64 x,.int .i64 y] 3) w2.heap.size 7 (.slice (some ⟨w4.heap.size,0,none⟩) 2 2) (by omega);rw [hcm] at M6 HR6;clear M4 M5 ho5 x5 hC4 hg4 HR4 hcm;obtain ⟨⟨a0,a1,a2,a3⟩,a4,a5,a6,a7⟩:=cells8 M6.out.box;obtain ⟨⟨b0,b1,b2,b3⟩,b4,b5,b6,b7⟩:=cells8 (q:=⟨⟨⟨#[]⟩,0,0,false,[],[],[],[]⟩,.slice none 0 0,.slice none 0 0,.slice none 0 0,.slice none 0 0⟩) HR6.out;obtain ⟨⟨d0,d1,d2,d3⟩,d4,d5,d6,d7⟩:=frees8 HR6.out;dsimp only at a0 a1 a2 a3 a4 a5 a6 a7 b0 b1 b2 b3 b4 b5 b6 b7
  have hR2:∀ u∈RV.vals ⟨⟨nm0++it,5,0,false,[],[],[],[(x:Int),(y:Int)]⟩,.slice none 0 0,.slice none 0 0,.slice none 0 0,.slice (some ⟨w4.heap.size,0,none⟩) 2 2⟩,∀ b,u.ownBlock=some b→b≠w.heap.size+1:=by
   intro u hu b hb;simp only [RV.vals,List.mem_cons,List.not_mem_nil,or_false] at hu;rcases hu with rfl | rfl | rfl | rfl
   ·cases hb
   ·cases hb
   ·cases hb
   ·(have:some w4.heap.size=some b:=hb);injection this;omega
  have HOUT:=lhd (M6.out.out HR6.out (by omega) (by omega) (by omega) hR2);dsimp only at HOUT;have hnew:=fun u hu b hb=>(M6.out.new u hu b hb).1
  have hfar:=M6.out.far;go_wp2_with fail;obtain ⟨hB,hO,hCc,hG⟩:=HOUT.out;obtain ⟨⟨e0,e1,e2,e3⟩,e4,e5,e6,e7⟩:=cells8 (q:=⟨⟨nm0++it,5,0,false,[],[],[],[(x:Int),(y:Int)]⟩,.slice none 0 0,.slice none 0 0,.slice none 0 0,.slice (some ⟨w4.heap.size,0,none⟩) 2 2⟩) hB;dsimp only at e0 e1 e2 e3 e4 e5 e6 e7;refine bodyPost_ret (v:=vrule ⟨nm0++it,5,0,false,[],[],[],[(x:Int),(y:Int)]⟩ (.slice none 0 0) (.slice none 0 0) (.slice none 0 0) (.slice (some ⟨w4.heap.size,0,none⟩) 2 2)) (by simp [results,Tryz.results157,go_sem,e0,e1,e2,e3,e4,e5,e6,e7,vrule]) rfl ?_;exact ⟨_,rfl,⟨by show (nm0++it).size≤40;omega,by simp,by simp,by simp;omega⟩,rfl,made_array HNM.out hMD.out HXL.out HXK.out HYL.out,hO,hfar,hnew,hCc,hG⟩
section
variable {P:Program} {ops:Array Oper} {o:Oper} {a:Act} {Q:Exit→Act→World→Prop} {K:Act→World→Prop} {E:Prop}
theorem step_appG (hgd:o.guard=none) (s x:Operand) (t:TypeId) (ho:o.op=.call { callee:=.builtin .append,args:=#[s,x],argTypes:=#[t,t] })
 {e:TypeId} {bytes:Nat} {z:Value} (hE:Elem P t e 1 bytes z) (hby:1≤bytes) (w0 w:World) {α:Type} (f:α→Value) (hf:∀ x,(f x).oneCell'=true) (v:Value) (hs:a.eval s=v) (A:Option Addr) (m c:Nat) (hx:a.eval x=.slice A m c)
 (l ys:List α) (hown:OwnL f e w0 w v l) (he:Ext w0 w) (hm:m=ys.length)
 (hA:0<ys.length→∃ ad,A=some ad∧∀ j u,(ys.map f)[j]?=some u→w.cell? (ad.add j)=some u)
 (hb:(l.length+ys.length)*bytes≤140737488355328)
 (h:∀ v' w',OwnL f e w0 w' v' (l++ys)→Ext w0 w'→(v'.ownBlock=v.ownBlock∨v'.ownBlock=some w.heap.size)→w.grownBy w' v.ownBlock→K (a.put o.dst v') w') :
 if Region.wanted o (yielded ops a.tmps)=true then Oper.wp P o a w K Q else E:=by
 have hw:Region.wanted o (yielded ops a.tmps)=true:=by simp [Region.wanted,hgd]
 rw [if_pos hw];obtain ⟨i0,hi0,hz0,hz1,hz2⟩:=info_parts hE.hi;subst hm;have hfin:∀ v' w',Own e 1 w0 w' v' (l.length+ys.length) (l.map f++ys.map f)→Ext w0 w'→(v'.ownBlock=v.ownBlock∨v'.ownBlock=some w.heap.size)→w.grownBy w' v.ownBlock→K (a.put o.dst v') w':=fun v' w' h1 h2 h3 h4=>h v' w' (by simpa [OwnL] using h1) h2 h3 h4
 rcases A with _ | ad
 ·have hm0:ys.length=0:=by
   rcases Nat.eq_zero_or_pos ys.length with h0 | h0
   ·exact h0
   ·obtain ⟨ad,h,_⟩:=hA h0
    cases h
  obtain rfl:ys=[]:=List.eq_nil_of_length_eq_zero hm0
  unfold Oper.wp execOp;simp only [ho,resolve,invoke,builtin,Sem.run_bind,Sem.run_pure,Result.andThen_ok,List.map_toArray,List.map_cons,List.map_nil,List.length_nil,hs,hx,run_app_nil w w0.heap.size t o.type e i0 1 hE.ht hi0 v l.length (l.map f) hown c];exact hfin v w (by have h':=hown;unfold OwnL at h';simpa using h') he (.inl rfl) (World.grownBy.refl w _)
 ·obtain ⟨v',w',hr,h2,h3,h4,h5⟩:=run_append_own_at (P:=P) w w0.heap.size t o.type e i0 z 1 bytes hE.ht hi0 hz0 hz1 hz2 hE.hz hE.hs v l.length (l.map f) hown ad ys.length c (ys.map f) (by simp)
   (fun j u hu=>by
    rcases Nat.eq_zero_or_pos ys.length with h0 | h0
    ·obtain rfl:ys=[]:=List.eq_nil_of_length_eq_zero h0
     simp at hu
    ·obtain ⟨ad',h',hc⟩:=hA h0
     injection h' with h'
     subst h';exact hc j u hu)
   (fun u hu=>by obtain ⟨x,_,rfl⟩:=List.mem_map.1 hu;exact hf x) (by have:=Nat.mul_le_mul_left (l.length+ys.length) hby;simp only [maxLen];omega) hb he.size
  unfold Oper.wp execOp;simp only [ho,resolve,invoke,builtin,Sem.run_bind,Sem.run_pure,Result.andThen_ok,List.map_toArray,List.map_cons,List.map_nil,hs,hx,hr];exact hfin v' w' h2 (he.grown h3 (fun k hk=>(hown.lt k hk).1)) h5 h3
end
def appOk (l:List UInt8) (s k:Int) (nm:ByteArray) (ver:Int) (d:List UInt8):Bool:=validLog l s&&validRec k nm ver d.length
def appBytes (l:List UInt8) (s k:Int) (nm:ByteArray) (ver:Int) (d:List UInt8):List UInt8:=if appOk l s k nm ver d then l++encRec k nm ver d else l
theorem l1StrBox_c (ns:List ByteArray) (hns:0<ns.length) (hns2:ns.length≤256) (n:Nat) (hn:n=ns.length) (cs:Array Value) (hcs:cs=(ns.map vstr).toArray) (wb w:World) (p:Nat) (A:Option Addr) (l:List UInt8) (c:Nat) (hA:Bs wb A l c) (b:Nat) (hC:Cur wb w p A l c) (hb:Box w b cs 9) :
 Calls Tryz.prog 124 #[.pointer (some ⟨p,0,none⟩),.slice (some ⟨b,0,none⟩) n n] w fun e w'=>∃ x∈ns,e=.returned (.string x)∧Cur wb w' p A l c∧w.grownBy w' (some p):=by
 subst hn;subst hcs
 have hbp:p≠b:=by
  rintro rfl;obtain ⟨_,_,i,x,_,h4⟩:=hC;have h5:w.heap[p]?=_:=hb
  rw [h5] at h4;injection h4 with h4
  injection h4 with _ h7
  exact absurd h7 (by decide)
 refine (l1Str_c (some ⟨b,0,none⟩) ns ns.length hns hns2 wb _ p A l c hA hC ?_).mono ?_
 ·intro w' hg i hi
  refine ⟨b,0,rfl,?_⟩;rw [(hb.moved hg (some_ne hbp)).cell (0+i),Nat.zero_add];simp [vstr,hi]
 ·rintro e w' ⟨x,hx,he,hC1,hg⟩
  exact ⟨x,hx,he,hC1,hg⟩
theorem l4Make6_c (Ad:Option Addr) (ds:List DRule) (cd:Nat) (kind:Int) (hkind:kind=6) (hDn:ds.length≤64) (hki:kind=1∨∃ i,∃ h:i<ds.length,ds[i].kind=1) (hMD:MadeD ds)
 (wb w:World) (p:Nat) (A:Option Addr) (l:List UInt8) (c:Nat) (hA:Bs wb A l c) (hC:Cur wb w p A l c) (hD:∀ w',w.grownBy w' (some p)→RdD w' Ad ds cd) :
 Calls Tryz.prog 157 #[.pointer (some ⟨p,0,none⟩),vdesc (.slice Ad ds.length cd),.int .i64 kind] w fun e w'=>∃ q:RV,e=.returned (vrule q.r q.vb q.vn q.vt q.vk)∧SmallR q.r∧q.r.kind=kind∧MadeR ds q.r∧RuleOwn wb w' q∧Far q.vals∧(∀ u∈q.vals,∀ b,u.ownBlock=some b→w.heap.size≤b)∧Cur wb w' p A l c∧w.grownBy w' (some p):=by
 have hplt:=hC.lt;have hbw:=hC.2.1.size;have CBe:=lhd (fun n w h hn=>l1Below_c n wb w p A l c hA h hn);have COn:=lhd (fun n w h hn=>l1Once_c n wb w p A l c hA h hn);have CS:=lhd (fun w h=>l1StrLit_c [⟨#[97]⟩,⟨#[105,116,101,109]⟩,⟨#[98]⟩,⟨#[104,101,97,100]⟩,⟨#[120]⟩] (by simp) (by simp) 5 rfl #[.string ⟨#[97]⟩,.string ⟨#[105,116,101,109]⟩,.string ⟨#[98]⟩,.string ⟨#[104,101,97,100]⟩,.string ⟨#[120]⟩] rfl wb w p A l c hA h);have CF:=lhd (fun w=>sFormatInt_c (ds.length:Int) w (by omega) (by omega));have hit:=itoa_size (ds.length:Int) (by omega) (by omega);obtain ⟨it,hit0⟩:∃ it,itoaB (ds.length:Int)=it:=⟨_,rfl⟩;rw [hit0] at hit CF;have HIT:=lhd hit0;clear hit0;have HD:=lhd hD;have hki:=lhd hki;have hMD:=lhd hMD;clear hD;obtain ⟨W0,hW0,HP,HR,e0,hsA⟩:=boxes2' w #[.slice Ad ds.length cd] #[.string ⟨#[]⟩,.int .i64 0,.int .i64 0,.bool false,.slice none 0 0,.slice none 0 0,.slice none 0 0,.slice none 0 0] 26 96;unfold vdesc;go_enter Tryz.func157,Tryz.ntmps157;go_wp2_with fail;rw [← hW0.out];have C1:=CS.out W0 (hC.ext e0);rw [hsA] at C1;have C1:=lhd C1;refine C1.out.mono ?_;rintro _ w1 ⟨nm0,hnm0,rfl,hC1,hg1⟩;have HNM:Hid (∃ s∈heads,nm0++it=s++itoaB (ds.length:Int)):=⟨nm0,hnm0,by rw [HIT.out]⟩
 have hnm:nm0.size≤4:=by simp at hnm0;rcases hnm0 with rfl | rfl | rfl | rfl | rfl<;>decide
 have G1:=(grown_ext e0 (some p)).trans hg1;have HP1:=lhd (HP.moved hg1 (some_ne (by omega)));have HR1:=lhd (HR.moved hg1 (some_ne (by omega)));clear hnm0 hg1 C1 CS HP HR e0;go_wp2_with fail;refine (CF.out _).mono ?_;rintro _ w2 ⟨rfl,s2⟩;have G2:=lhd (G1.trans (grown_ext s2 _));have HP2:=lhd (HP1.out.ext s2);have HR2:=lhd (HR1.out.ext s2);have hC2:=hC1.ext s2;clear G1 HP1 HR1 hC1 s2;have hnl:(nm0++it).size≤24:=by have:=ByteArray.size_append (a:=nm0) (b:=it);omega
 have x3:=Ext_alloc (.cells #[.string (nm0++it),.int .i64 kind,.int .i64 0,.bool false,.slice none 0 0,.slice none 0 0,.slice none 0 0,.slice none 0 0] 96) (Ext.refl w2);have hgs:=G2.out.size
 have M0:Hid (Mk wb w (w2.alloc (.cells #[.string (nm0++it),.int .i64 kind,.int .i64 0,.bool false,.slice none 0 0,.slice none 0 0,.slice none 0 0,.slice none 0 0] 96)) p A l c w2.heap.size ⟨⟨nm0++it,kind,0,false,[],[],[],[]⟩,.slice none 0 0,.slice none 0 0,.slice none 0 0,.slice none 0 0⟩) :=
  ⟨Box.new w2 _ _,⟨OwnL.nil _ _,OwnL.nil _ _,OwnL.nil _ _,OwnL.nil _ _⟩,by simp [Far,RV.vals,Value.ownBlock],by simp [RV.vals,Value.ownBlock],hC2.ext x3,G2.out.trans (grown_ext x3 _),hgs,by omega,by omega⟩
 have HP3:=lhd (HP2.out.ext x3);have HR3:=lhd (HR2.out.ext x3);have hlt2:w.heap.size+1<w2.heap.size:=HR2.out.lt
 clear HP2 HR2 hC2 G2 x3 CF;obtain ⟨W3,hW3⟩:∃ W3,W3=w2.alloc (.cells #[.string (nm0++it),.int .i64 kind,.int .i64 0,.bool false,.slice none 0 0,.slice none 0 0,.slice none 0 0,.slice none 0 0] 96):=⟨_,rfl⟩;rw [← hW3] at M0 HP3 HR3;have HW3:=lhd hW3;clear hW3;subst hkind;have hds0:0<ds.length:=by obtain ⟨i,hi,_⟩:=hki.out.resolve_left (by omega);omega
 clear hki HP3 HD;go_wp2_with fail;rw [← HW3.out];refine (CBe.out 3 _ M0.out.cur (by omega)).mono ?_;rintro _ w4 ⟨y,hy,rfl,hC4,hg4⟩;have hyn:y<3:=by unfold below at hy;rw [if_neg (by omega)] at hy;omega
 have S4:Hid (MS wb w w4 p A l c w2.heap.size ⟨⟨nm0++it,6,0,false,[],[],[],[]⟩,.slice none 0 0,.slice none 0 0,.slice none 0 0,.slice none 0 0⟩ (w.heap.size+1)) :=
  ⟨M0.out.moved hC4 hg4,HR3.out.moved hg4 (some_ne (by omega)),by simp [RV.vals,Value.ownBlock],by omega,by omega⟩
 clear hy hC4 hg4 HR3 M0 HW3;generalize hgg:w2.heap.size=g at *;clear hgg;have CS3:=lhd (fun w b h hb=>l1StrBox_c [⟨#[112]⟩,⟨#[113]⟩,⟨#[114]⟩] (by simp) (by simp) 3 rfl #[.string ⟨#[112]⟩,.string ⟨#[113]⟩,.string ⟨#[114]⟩] rfl wb w p A l c hA b h hb);go_wp2;go_loopw [9] (fun t wr=>∃ (i:Nat) (r:DRule) (vb vn vt vk:Value),i≤3∧t=.int .i64 i∧Hid (r.nm=nm0++it∧r.kind=6∧r.size=0∧r.bytes=[]∧r.tags=[]∧r.little=false)∧Hid ((r.names.length+i=1+y∧r.kids.length+i=1+y)∧(∀ t∈r.names,t.size≤40)∧(∀ x∈r.kids,0≤x∧x<(ds.length:Int))∧SeqInv i r.names)∧Hid (MS wb w wr p A l c g ⟨r,vb,vn,vt,vk⟩ (w.heap.size+1))) (fun t _=>(intOf t).toNat)
 case atStart=>exact ⟨1+y,_,_,_,_,_,by omega,by simp,⟨rfl,rfl,rfl,rfl,rfl,rfl⟩,⟨⟨by simp,by simp⟩,by simp,by simp,SeqInv.nil _⟩,S4⟩
 case round =>
  clear S4;obtain ⟨i,r,vb,vn,vt,vk,hi3,rfl,hr,hl,hM⟩:=hrel
  by_cases hi0:0<i
  ·have CF3:=lhd (fun w=>sFormatInt_c (i:Int) w (by omega) (by omega))
   have hit3:=itoa_size (i:Int) (by omega) (by omega);obtain ⟨it3,hit0⟩:∃ it3,itoaB (i:Int)=it3:=⟨_,rfl⟩;rw [hit0] at hit3 CF3;have HIT3:=lhd hit0;clear hit0;have hMd:=lhd (hM.out.ext (Ext_drew (Ext.refl wr)));have cd0:_=some vn:=hM.out.M.box.cell 5
   have cd1:_=some vn:=(hM.out.ext (Ext_drew (Ext_alloc (.cells #[.string ⟨#[112]⟩,.string ⟨#[113]⟩,.string ⟨#[114]⟩] 9) (Ext.refl wr)))).M.box.cell 5
   have HBn:Hid (∀ s:ByteArray,(r.names.length+[s].length)*16≤140737488355328):=fun s=>by have:=hl.out.1.1;simp;omega
   have HLn:Hid (∀ s:ByteArray,(r.names++[s]).length≤140737488351232):=fun s=>by have:=hl.out.1.1;simp;omega
   have hS3:Hid (∀ s:ByteArray,s∈[(⟨#[112]⟩:ByteArray),⟨#[113]⟩,⟨#[114]⟩]→s.size≤4):=fun s h=>by simp only [List.mem_cons,List.not_mem_nil,or_false] at h;rcases h with rfl | rfl | rfl<;>decide
   go_wp2_with fail;go_cut [86] from 77 to 87 (fun _ wx=>∃ s v,s.size≤40∧Hid (SeqInv (i-1) (r.names++[s]))∧Hid (MS wb w wx p A l c g ⟨{ r with names:=r.names++[s] },vb,v,vt,vk⟩ (w.heap.size+1)))
   case first =>
    go_region_law (first
     | (go_simp;go_at_call 124;refine (CS3.out _ _ (hMd.out.ext (Ext_alloc _ (Ext.refl _))).M.cur (Box.new _ _ _)).mono ?_;rintro _ w5 ⟨s5,hs5,rfl,hC5,hg5⟩;have M5:=lhd ((hMd.out.ext (Ext_alloc (.cells #[.string ⟨#[112]⟩,.string ⟨#[113]⟩,.string ⟨#[114]⟩] 9) (Ext.refl _))).moved hC5 hg5);have c5:_=some vn:=M5.out.M.box.cell 5;have hs5b:=hS3.out _ hs5;have HS5:=lhd hs5;have hcat:¬ 9223372036854775807<s5.size+it3.size:=(by omega);clear hs5 hC5 hg5)
     | (go_simp;go_at_call 131;refine (CF3.out _).mono ?_;rintro _ w6 ⟨rfl,e6⟩;have M6:=lhd (M5.out.ext e6);have c6:_=some vn:=M6.out.M.box.cell 5;have M6':=lhd (M6.out.ext (Ext_alloc (.cells #[.string (s5++it3)] 9) (Ext.refl _)));have c6':_=some vn:=M6'.out.M.box.cell 5;clear M5 e6)
     | (refine step_appG rfl (.tmp 78) (.tmp 85) _ rfl E_str (by omega) wb _ vstr (fun _=>rfl) vn rfl (some ⟨w6.heap.size,0,none⟩) 1 1 rfl r.names [s5++it3] M6'.out.M.own.n M6'.out.M.cur.2.1 rfl (fun _=>⟨_,rfl,fun j u hu=>(World.cell?_alloc_at' w6 [.string (s5++it3)] 9 j).trans hu⟩) (HBn.out _) ?_;intro v7 w7 ho7 he7 hv7 hg7;obtain ⟨A7,c7,hsh,_⟩:=OwnL.rd ho7 (HLn.out _);replace hsh:v7=.slice A7 (r.names.length+1) c7:=(by rw [hsh,List.length_append];rfl);subst hsh;obtain ⟨⟨z7,y7⟩,M7⟩:=M6'.out.app_n ho7 he7 hv7 hg7;clear ho7 he7 hv7 hg7;have M7:=lhd M7))
    all_goals
     go_wp2_with fail;go_meet;exact ⟨s5++it3,_,by have:=ByteArray.size_append (a:=s5) (b:=it3);omega,by rw [← HIT3.out];exact hl.out.2.2.2.snoc HS5.out hi0 (by omega),M7⟩
   case rest =>
    obtain ⟨s,v,hs,hSI,hM'⟩:=hcut;clear hM hMd cd0 cd1 HBn HLn hS3 CF3 hit3;have hMd:=lhd (hM'.out.ext (Ext_drew (Ext.refl wc)));have cd0:_=some vk:=hM'.out.M.box.cell 7
    have HBn:Hid (∀ x:Int,(r.kids.length+[x].length)*8≤140737488355328):=fun s=>by have:=hl.out.1.2;simp;omega
    have HLn:Hid (∀ x:Int,(r.kids++[x]).length≤140737488351232):=fun s=>by have:=hl.out.1.2;simp;omega
    go_wp2_with fail
    go_region_law (first
     | (go_simp;go_at_call 122;refine (CBe.out ds.length _ hMd.out.M.cur (by omega)).mono ?_;rintro _ w5 ⟨x,hx,rfl,hC5,hg5⟩;have M5:=lhd (hMd.out.moved hC5 hg5);have c5:_=some vk:=M5.out.M.box.cell 7;have M5':=lhd (M5.out.ext (Ext_alloc (.cells #[.int .i64 x] 3) (Ext.refl _)));have c5':_=some vk:=M5'.out.M.box.cell 7;clear hC5 hg5)
     | (refine step_appG rfl (.tmp 89) (.tmp 93) _ rfl E_int (by omega) wb _ vint (fun _=>rfl) vk rfl (some ⟨w5.heap.size,0,none⟩) 1 1 rfl r.kids [(x:Int)] M5'.out.M.own.k M5'.out.M.cur.2.1 rfl (fun _=>⟨_,rfl,fun j u hu=>(World.cell?_alloc_at' w5 [.int .i64 x] 3 j).trans hu⟩) (HBn.out _) ?_;intro v7 w7 ho7 he7 hv7 hg7;obtain ⟨A7,c7,hsh,_⟩:=OwnL.rd ho7 (HLn.out _);replace hsh:v7=.slice A7 (r.kids.length+1) c7:=(by rw [hsh,List.length_append];rfl);subst hsh;obtain ⟨⟨z7,y7⟩,M7⟩:=M5'.out.app_k ho7 he7 hv7 hg7;clear ho7 he7 hv7 hg7;have M7:=lhd M7))
    all_goals
     have hxn:x<ds.length:=by unfold below at hx;rw [if_neg (by omega)] at hx;omega
     clear hx
     have HR':Hid (∀ t∈r.names++[s],t.size≤40):=fun t ht=>by
      rcases List.mem_append.1 ht with h1 | h1
      ·exact hl.out.2.1 t h1
      ·rw [List.mem_singleton.1 h1];exact hs
     have HK':Hid (∀ z∈r.kids++[(x:Int)],0≤z∧z<(ds.length:Int)):=fun t ht=>by
      rcases List.mem_append.1 ht with h1 | h1
      ·exact hl.out.2.2.1 t h1
      ·rw [List.mem_singleton.1 h1];omega
     go_wp2;go_roundw
     case rel=>exact ⟨i-1,{ r with names:=r.names++[s],kids:=r.kids++[(x:Int)] },vb,v,vt,_,by omega,by go_num,hr,⟨⟨by have:=hl.out.1.1;simp;omega,by have:=hl.out.1.2;simp;omega⟩,HR'.out,HK'.out,hSI.out⟩,M7⟩
     case measure=>simp [intOf];omega
  ·obtain rfl:i=0:=by omega
   have hM0:=hM.out.M.own;obtain ⟨Ab,cb,hvb,_⟩:=OwnL.rd hM0.b (by show r.bytes.length≤_;rw [hr.out.2.2.2.1];simp);obtain ⟨An,cn,hvn,_⟩:=OwnL.rd hM0.n (by have:=hl.out.1.1;show r.names.length≤_;omega);obtain ⟨At,ct,hvt,_⟩:=OwnL.rd hM0.t (by show r.tags.length≤_;rw [hr.out.2.2.2.2.1];simp);obtain ⟨Ak,ck,hvk,_⟩:=OwnL.rd hM0.k (by have:=hl.out.1.2;show r.kids.length≤_;omega);dsimp only at hvb hvn hvt hvk;subst hvb;subst hvn;subst hvt;subst hvk;clear hM0;have M6:=lhd hM.out.M;have HR6:=lhd hM.out.res;obtain ⟨⟨a0,a1,a2,a3⟩,a4,a5,a6,a7⟩:=cells8 M6.out.box;obtain ⟨⟨b0,b1,b2,b3⟩,b4,b5,b6,b7⟩:=cells8 (q:=⟨⟨⟨#[]⟩,0,0,false,[],[],[],[]⟩,.slice none 0 0,.slice none 0 0,.slice none 0 0,.slice none 0 0⟩) HR6.out;obtain ⟨⟨d0,d1,d2,d3⟩,d4,d5,d6,d7⟩:=frees8 HR6.out;dsimp only at a0 a1 a2 a3 a4 a5 a6 a7 b0 b1 b2 b3 b4 b5 b6 b7;have hgs':=hM.out.M.grow.size;have HOUT:=lhd (M6.out.out HR6.out (by omega) (by omega) (by omega) hM.out.nR);dsimp only at HOUT;have hnew:=fun u hu b hb=>(M6.out.new u hu b hb).1
   have hfar:=M6.out.far;clear hM;go_wp2_with fail;obtain ⟨hB,hO,hCc,hG⟩:=HOUT.out;obtain ⟨⟨e0,e1,e2,e3⟩,e4,e5,e6,e7⟩:=cells8 (q:=⟨r,.slice Ab r.bytes.length cb,.slice An r.names.length cn,.slice At r.tags.length ct,.slice Ak r.kids.length ck⟩) hB;dsimp only at e0 e1 e2 e3 e4 e5 e6 e7;refine bodyPost_ret (v:=vrule r (.slice Ab r.bytes.length cb) (.slice An r.names.length cn) (.slice At r.tags.length ct) (.slice Ak r.kids.length ck)) (by simp [results,Tryz.results157,go_sem,e0,e1,e2,e3,e4,e5,e6,e7,vrule]) rfl ?_;exact ⟨⟨r,.slice Ab r.bytes.length cb,.slice An r.names.length cn,.slice At r.tags.length ct,.slice Ak r.kids.length ck⟩,rfl,⟨by rw [hr.out.1];omega,⟨by rw [hr.out.2.2.2.1];simp,by have:=hl.out.1.1;show r.names.length≤_;omega,by rw [hr.out.2.2.2.2.1];simp,by have:=hl.out.1.2;show r.kids.length≤_;omega⟩,hl.out.2.1,⟨by rw [hr.out.2.2.1];omega,by rw [hr.out.2.2.2.2.1];simp,fun x hx=>by have:=hl.out.2.2.1 x hx;omega⟩⟩,hr.out.2.1,made_seq (r:=r) (by obtain ⟨s,hs,he⟩:=HNM.out;exact ⟨s,hs,by rw [hr.out.1];exact he⟩) hr.out.2.1 hr.out.2.2.1 hr.out.2.2.2.1 hr.out.2.2.2.2.1 hr.out.2.2.2.2.2 (by have:=hl.out.1;omega) (by have:=hl.out.1;omega) (by have:=hl.out.1;omega) hl.out.2.2.2 hl.out.2.2.1,hO,hfar,hnew,hCc,hG⟩
theorem l4Make7_c (Ad:Option Addr) (ds:List DRule) (cd:Nat) (kind:Int) (hkind:kind=7) (hDn:ds.length≤64) (hki:kind=1∨∃ i,∃ h:i<ds.length,ds[i].kind=1) (hMD:MadeD ds)
 (wb w:World) (p:Nat) (A:Option Addr) (l:List UInt8) (c:Nat) (hA:Bs wb A l c) (hC:Cur wb w p A l c) (hD:∀ w',w.grownBy w' (some p)→RdD w' Ad ds cd) :
 Calls Tryz.prog 157 #[.pointer (some ⟨p,0,none⟩),vdesc (.slice Ad ds.length cd),.int .i64 kind] w fun e w'=>∃ q:RV,e=.returned (vrule q.r q.vb q.vn q.vt q.vk)∧SmallR q.r∧q.r.kind=kind∧MadeR ds q.r∧RuleOwn wb w' q∧Far q.vals∧(∀ u∈q.vals,∀ b,u.ownBlock=some b→w.heap.size≤b)∧Cur wb w' p A l c∧w.grownBy w' (some p):=by
 have hplt:=hC.lt;have hbw:=hC.2.1.size;have CBe:=lhd (fun n w h hn=>l1Below_c n wb w p A l c hA h hn);have COn:=lhd (fun n w h hn=>l1Once_c n wb w p A l c hA h hn);have CS:=lhd (fun w h=>l1StrLit_c [⟨#[97]⟩,⟨#[105,116,101,109]⟩,⟨#[98]⟩,⟨#[104,101,97,100]⟩,⟨#[120]⟩] (by simp) (by simp) 5 rfl #[.string ⟨#[97]⟩,.string ⟨#[105,116,101,109]⟩,.string ⟨#[98]⟩,.string ⟨#[104,101,97,100]⟩,.string ⟨#[120]⟩] rfl wb w p A l c hA h);have CF:=lhd (fun w=>sFormatInt_c (ds.length:Int) w (by omega) (by omega));have hit:=itoa_size (ds.length:Int) (by omega) (by omega);obtain ⟨it,hit0⟩:∃ it,itoaB (ds.length:Int)=it:=⟨_,rfl⟩;rw [hit0] at hit CF;have HIT:=lhd hit0;clear hit0;have HD:=lhd hD;have hki:=lhd hki;have hMD:=lhd hMD;clear hD;obtain ⟨W0,hW0,HP,HR,e0,hsA⟩:=boxes2' w #[.slice Ad ds.length cd] #[.string ⟨#[]⟩,.int .i64 0,.int .i64 0,.bool false,.slice none 0 0,.slice none 0 0,.slice none 0 0,.slice none 0 0] 26 96;unfold vdesc;go_enter Tryz.func157,Tryz.ntmps157;go_wp2_with fail;rw [← hW0.out];have C1:=CS.out W0 (hC.ext e0);rw [hsA] at C1;have C1:=lhd C1;refine C1.out.mono ?_;rintro _ w1 ⟨nm0,hnm0,rfl,hC1,hg1⟩;have HNM:Hid (∃ s∈heads,nm0++it=s++itoaB (ds.length:Int)):=⟨nm0,hnm0,by rw [HIT.out]⟩
 have hnm:nm0.size≤4:=by simp at hnm0;rcases hnm0 with rfl | rfl | rfl | rfl | rfl<;>decide
 have G1:=(grown_ext e0 (some p)).trans hg1;have HP1:=lhd (HP.moved hg1 (some_ne (by omega)));have HR1:=lhd (HR.moved hg1 (some_ne (by omega)));clear hnm0 hg1 C1 CS HP HR e0;go_wp2_with fail;refine (CF.out _).mono ?_;rintro _ w2 ⟨rfl,s2⟩;have G2:=lhd (G1.trans (grown_ext s2 _));have HP2:=lhd (HP1.out.ext s2);have HR2:=lhd (HR1.out.ext s2);have hC2:=hC1.ext s2;clear G1 HP1 HR1 hC1 s2;have hnl:(nm0++it).size≤24:=by have:=ByteArray.size_append (a:=nm0) (b:=it);omega
 have x3:=Ext_alloc (.cells #[.string (nm0++it),.int .i64 kind,.int .i64 0,.bool false,.slice none 0 0,.slice none 0 0,.slice none 0 0,.slice none 0 0] 96) (Ext.refl w2);have hgs:=G2.out.size
 have M0:Hid (Mk wb w (w2.alloc (.cells #[.string (nm0++it),.int .i64 kind,.int .i64 0,.bool false,.slice none 0 0,.slice none 0 0,.slice none 0 0,.slice none 0 0] 96)) p A l c w2.heap.size ⟨⟨nm0++it,kind,0,false,[],[],[],[]⟩,.slice none 0 0,.slice none 0 0,.slice none 0 0,.slice none 0 0⟩) :=
  ⟨Box.new w2 _ _,⟨OwnL.nil _ _,OwnL.nil _ _,OwnL.nil _ _,OwnL.nil _ _⟩,by simp [Far,RV.vals,Value.ownBlock],by simp [RV.vals,Value.ownBlock],hC2.ext x3,G2.out.trans (grown_ext x3 _),hgs,by omega,by omega⟩
 have HP3:=lhd (HP2.out.ext x3);have HR3:=lhd (HR2.out.ext x3);have hlt2:w.heap.size+1<w2.heap.size:=HR2.out.lt
 clear HP2 HR2 hC2 G2 x3 CF;obtain ⟨W3,hW3⟩:∃ W3,W3=w2.alloc (.cells #[.string (nm0++it),.int .i64 kind,.int .i64 0,.bool false,.slice none 0 0,.slice none 0 0,.slice none 0 0,.slice none 0 0] 96):=⟨_,rfl⟩;rw [← hW3] at M0 HP3 HR3;have HW3:=lhd hW3;clear hW3;subst hkind;have zp:_=some (Value.slice Ad ds.length cd):=HP3.out.cell 0
 rw [HW3.out] at zp;have hki':=hki.out.resolve_left (by omega);have hds0:0<ds.length:=by obtain ⟨i,hi,_⟩:=hki';omega
 have CI:=lhd (l4Integer_c Ad ds cd hds0 hDn hki' wb W3 p A l c hA M0.out.cur (HD.out _ M0.out.grow));unfold vdesc at CI;clear hki' hki HP3 HD;go_wp2_with fail;rw [← HW3.out];refine CI.out.mono ?_;rintro _ w4 ⟨x,hx,hxk,rfl,hC4,hg4⟩;have HXK:=lhd hxk;clear CI zp HW3 hxk;have M4:=M0.out.moved hC4 hg4;have HR4:=lhd (HR3.out.moved hg4 (some_ne (by omega)));have x5:=Ext_alloc (.cells #[.int .i64 x] 3) (Ext.refl w4);have ho5:=OwnL.lit (f:=vint) (e:=3) hC4.2.1 [(x:Int)] #[.int .i64 x] rfl 1 rfl (by omega);have M5:=M4.ext x5;have z7:_=some (Value.slice none 0 0):=M5.box.cell 7
 have y7:=M5.box.free 7;have hgl4:=M4.box.lt;have hpl4:=hC4.lt;have hRl:=HR4.out.lt
 have S6:Hid (MS wb w ((w4.alloc (.cells #[.int .i64 x] 3)).setCell ⟨w2.heap.size,7,none⟩ (.slice (some ⟨w4.heap.size,0,none⟩) 1 1)) p A l c w2.heap.size ⟨⟨nm0++it,7,0,false,[],[],[],[(x:Int)]⟩,.slice none 0 0,.slice none 0 0,.slice none 0 0,.slice (some ⟨w4.heap.size,0,none⟩) 1 1⟩ (w.heap.size+1)) :=
  ⟨M5.fresh_k ho5 (n0:=w4.heap.size) (fun b hb=>by injection hb with hb;simp at hb;omega) (by simp [RV.vals,Value.ownBlock]) (by omega) (by omega) (by have:=M4.grow.size;omega),(HR4.out.ext x5).other (by omega) 7 _,fun u hu b hb=>by
   simp only [RV.vals,List.mem_cons,List.not_mem_nil,or_false] at hu;rcases hu with rfl | rfl | rfl | rfl
   ·cases hb
   ·cases hb
   ·cases hb
   ·(have:some w4.heap.size=some b:=hb);injection this;omega,by omega,by omega⟩
 clear M4 M5 ho5 x5 hC4 hg4 HR4 HR3 M0 hgl4 hpl4 hRl;generalize hgg:w2.heap.size=g at *;clear hgg;go_wp2_with fail;refine (CBe.out 3 _ S6.out.M.cur (by omega)).mono ?_;rintro _ w6 ⟨y,hy,rfl,hC6,hg6⟩;have hyn:y<3:=by unfold below at hy;rw [if_neg (by omega)] at hy;omega
 have S4:=lhd (S6.out.moved hC6 hg6);clear hy hC6 hg6 S6 z7 y7;go_wp2;go_loopw [10] (fun t wr=>∃ (i:Nat) (r:DRule) (vb vn vt vk:Value),i≤3∧t=.int .i64 i∧Hid (r.nm=nm0++it∧r.kind=7∧r.size=0∧r.bytes=[]∧r.names=[]∧r.little=false)∧Hid ((r.tags.length+i=1+y∧r.kids.length+i=2+y)∧TagInv r.tags∧(∀ x∈r.kids,0≤x∧x<(ds.length:Int))∧∃ t,r.kids=(x:Int)::t)∧Hid (MS wb w wr p A l c g ⟨r,vb,vn,vt,vk⟩ (w.heap.size+1))) (fun t _=>(intOf t).toNat)
 case atStart=>exact ⟨1+y,_,_,_,_,_,by omega,by simp,⟨rfl,rfl,rfl,rfl,rfl,rfl⟩,⟨⟨by simp,by simp;omega⟩,TagInv.nil,by simp;omega,⟨[],rfl⟩⟩,S4⟩
 case round =>
  clear S4;obtain ⟨i,r,vb,vn,vt,vk,hi3,rfl,hr,hl,hM⟩:=hrel
  by_cases hi0:0<i
  ·obtain ⟨At,ct,hvt,_⟩:=OwnL.rd hM.out.M.own.t (by have:=hl.out.1.1;show r.tags.length≤_;omega)
   dsimp only at hvt;subst hvt;have hMd:=lhd (hM.out.ext (Ext_drew (Ext.refl wr)));have cd0:_=some (Value.slice At r.tags.length ct):=hM.out.M.box.cell 6
   have HBn:Hid (∀ x:Int,(r.tags.length+[x].length)*8≤140737488355328):=fun s=>by have:=hl.out.1.1;simp;omega
   have HLn:Hid (∀ x:Int,(r.tags++[x]).length≤140737488351232):=fun s=>by have:=hl.out.1.1;simp;omega
   have htl:=hl.out.1.1;have hw1:IntKind.i64.wrap (4*(r.tags.length:Int))=4*(r.tags.length:Int):=IntWalk.i64_in _ (by omega)
   have hw2:Hid (∀ z:Nat,z<4→IntKind.i64.wrap (4*(r.tags.length:Int)+(z:Int))=4*(r.tags.length:Int)+(z:Int)):=fun z hz=>IntWalk.i64_in _ (by omega)
   have hb4:Hid (∀ z:Nat,below 4 z→z<4):=fun z hz=>by unfold below at hz;rw [if_neg (by omega)] at hz;omega
   clear htl;go_wp2_with fail;go_cut [120] from 110 to 121 (fun _ wx=>∃ s v,Hid (TagInv (r.tags++[s]))∧Hid (MS wb w wx p A l c g ⟨{ r with tags:=r.tags++[s] },vb,vn,v,vk⟩ (w.heap.size+1)))
   case first =>
    go_region_law (first
     | (go_simp;go_at_call 122;refine (CBe.out 4 _ hMd.out.M.cur (by omega)).mono ?_;rintro _ w5 ⟨z,hz,rfl,hC5,hg5⟩;have M5:=lhd (hMd.out.moved hC5 hg5);have c5:_=some (Value.slice At r.tags.length ct):=M5.out.M.box.cell 6;have M5':=lhd (M5.out.ext (Ext_alloc (.cells #[.int .i64 (4*(r.tags.length:Int)+(z:Int))] 3) (Ext.refl _)));have c5':_=some (Value.slice At r.tags.length ct):=M5'.out.M.box.cell 6;have hz4:=hb4.out _ hz;have hw3:=hw2.out z hz4;clear hC5 hg5 hz)
     | (refine step_appG rfl (.tmp 111) (.tmp 119) _ rfl E_int (by omega) wb _ vint (fun _=>rfl) (.slice At r.tags.length ct) rfl (some ⟨w5.heap.size,0,none⟩) 1 1 rfl r.tags [4*(r.tags.length:Int)+(z:Int)] M5'.out.M.own.t M5'.out.M.cur.2.1 rfl (fun _=>⟨_,rfl,fun j u hu=>(World.cell?_alloc_at' w5 [.int .i64 (4*(r.tags.length:Int)+(z:Int))] 3 j).trans hu⟩) (HBn.out _) ?_;intro v7 w7 ho7 he7 hv7 hg7;obtain ⟨A7,c7,hsh,_⟩:=OwnL.rd ho7 (HLn.out _);replace hsh:v7=.slice A7 (r.tags.length+1) c7:=(by rw [hsh,List.length_append];rfl);subst hsh;obtain ⟨⟨z7,y7⟩,M7⟩:=M5'.out.app_t ho7 he7 hv7 hg7;clear ho7 he7 hv7 hg7;have M7:=lhd M7))
    all_goals
     go_wp2_with fail;go_meet;exact ⟨4*(r.tags.length:Int)+(z:Int),_,hl.out.2.1.snoc hz4,M7⟩
   case rest =>
    obtain ⟨s,v,hs,hM'⟩:=hcut;clear hM hMd cd0 HBn HLn hw1 hw2 hb4;have hMd:=lhd (hM'.out.ext (Ext_drew (Ext.refl wc)));have cd0:_=some vk:=hM'.out.M.box.cell 7
    have HBn:Hid (∀ x:Int,(r.kids.length+[x].length)*8≤140737488355328):=fun s=>by have:=hl.out.1.2;simp;omega
    have HLn:Hid (∀ x:Int,(r.kids++[x]).length≤140737488351232):=fun s=>by have:=hl.out.1.2;simp;omega
    go_wp2_with fail
    go_region_law (first
     | (go_simp;go_at_call 122;refine (CBe.out ds.length _ hMd.out.M.cur (by omega)).mono ?_;rintro _ w5 ⟨x2,hx2,rfl,hC5,hg5⟩;have M5:=lhd (hMd.out.moved hC5 hg5);have c5:_=some vk:=M5.out.M.box.cell 7;have M5':=lhd (M5.out.ext (Ext_alloc (.cells #[.int .i64 x2] 3) (Ext.refl _)));have c5':_=some vk:=M5'.out.M.box.cell 7;clear hC5 hg5)
     | (refine step_appG rfl (.tmp 123) (.tmp 127) _ rfl E_int (by omega) wb _ vint (fun _=>rfl) vk rfl (some ⟨w5.heap.size,0,none⟩) 1 1 rfl r.kids [(x2:Int)] M5'.out.M.own.k M5'.out.M.cur.2.1 rfl (fun _=>⟨_,rfl,fun j u hu=>(World.cell?_alloc_at' w5 [.int .i64 x2] 3 j).trans hu⟩) (HBn.out _) ?_;intro v7 w7 ho7 he7 hv7 hg7;obtain ⟨A7,c7,hsh,_⟩:=OwnL.rd ho7 (HLn.out _);replace hsh:v7=.slice A7 (r.kids.length+1) c7:=(by rw [hsh,List.length_append];rfl);subst hsh;obtain ⟨⟨z7,y7⟩,M7⟩:=M5'.out.app_k ho7 he7 hv7 hg7;clear ho7 he7 hv7 hg7;have M7:=lhd M7))
    all_goals
     have hxn:x2<ds.length:=by unfold below at hx2;rw [if_neg (by omega)] at hx2;omega
     clear hx2
     have HK':Hid (∀ z∈r.kids++[(x2:Int)],0≤z∧z<(ds.length:Int)):=fun t ht=>by
      rcases List.mem_append.1 ht with h1 | h1
      ·exact hl.out.2.2.1 t h1
      ·rw [List.mem_singleton.1 h1];omega
     go_wp2;go_roundw
     case rel=>exact ⟨i-1,{ r with tags:=r.tags++[s],kids:=r.kids++[(x2:Int)] },vb,vn,v,_,by omega,by go_num,hr,⟨⟨by have:=hl.out.1.1;simp;omega,by have:=hl.out.1.2;simp;omega⟩,hs.out,HK'.out,by obtain ⟨t,ht⟩:=hl.out.2.2.2;exact ⟨t++[(x2:Int)],by show r.kids++_=_;rw [ht];rfl⟩⟩,M7⟩
     case measure=>simp [intOf];omega
  ·obtain rfl:i=0:=by omega
   have hM0:=hM.out.M.own;obtain ⟨Ab,cb,hvb,_⟩:=OwnL.rd hM0.b (by show r.bytes.length≤_;rw [hr.out.2.2.2.1];simp);obtain ⟨An,cn,hvn,_⟩:=OwnL.rd hM0.n (by show r.names.length≤_;rw [hr.out.2.2.2.2.1];simp);obtain ⟨At,ct,hvt,_⟩:=OwnL.rd hM0.t (by have:=hl.out.1.1;show r.tags.length≤_;omega);obtain ⟨Ak,ck,hvk,_⟩:=OwnL.rd hM0.k (by have:=hl.out.1.2;show r.kids.length≤_;omega);dsimp only at hvb hvn hvt hvk;subst hvb;subst hvn;subst hvt;subst hvk;clear hM0;have M6:=lhd hM.out.M;have HR6:=lhd hM.out.res;obtain ⟨⟨a0,a1,a2,a3⟩,a4,a5,a6,a7⟩:=cells8 M6.out.box;obtain ⟨⟨b0,b1,b2,b3⟩,b4,b5,b6,b7⟩:=cells8 (q:=⟨⟨⟨#[]⟩,0,0,false,[],[],[],[]⟩,.slice none 0 0,.slice none 0 0,.slice none 0 0,.slice none 0 0⟩) HR6.out;obtain ⟨⟨d0,d1,d2,d3⟩,d4,d5,d6,d7⟩:=frees8 HR6.out;dsimp only at a0 a1 a2 a3 a4 a5 a6 a7 b0 b1 b2 b3 b4 b5 b6 b7;have hgs':=hM.out.M.grow.size;have HOUT:=lhd (M6.out.out HR6.out (by omega) (by omega) (by omega) hM.out.nR);dsimp only at HOUT;have hnew:=fun u hu b hb=>(M6.out.new u hu b hb).1
   have hfar:=M6.out.far;clear hM;go_wp2_with fail;obtain ⟨hB,hO,hCc,hG⟩:=HOUT.out;obtain ⟨⟨e0,e1,e2,e3⟩,e4,e5,e6,e7⟩:=cells8 (q:=⟨r,.slice Ab r.bytes.length cb,.slice An r.names.length cn,.slice At r.tags.length ct,.slice Ak r.kids.length ck⟩) hB;dsimp only at e0 e1 e2 e3 e4 e5 e6 e7;refine bodyPost_ret (v:=vrule r (.slice Ab r.bytes.length cb) (.slice An r.names.length cn) (.slice At r.tags.length ct) (.slice Ak r.kids.length ck)) (by simp [results,Tryz.results157,go_sem,e0,e1,e2,e3,e4,e5,e6,e7,vrule]) rfl ?_;exact ⟨⟨r,.slice Ab r.bytes.length cb,.slice An r.names.length cn,.slice At r.tags.length ct,.slice Ak r.kids.length ck⟩,rfl,⟨by rw [hr.out.1];omega,⟨by rw [hr.out.2.2.2.1];simp,by rw [hr.out.2.2.2.2.1];simp,by have:=hl.out.1.1;show r.tags.length≤_;omega,by have:=hl.out.1.2;show r.kids.length≤_;omega⟩,by rw [hr.out.2.2.2.2.1];simp,⟨by rw [hr.out.2.2.1];omega,fun x hx=>by obtain ⟨j,hj,rfl⟩:=List.getElem_of_mem hx;have h1:=hl.out.2.1.at' j hj;have h2:=hl.out.1.1;dsimp only at hj ⊢;omega,fun x hx=>by have:=hl.out.2.2.1 x hx;omega⟩⟩,hr.out.2.1,made_cho (r:=r) hMD.out (by obtain ⟨s,hs,he⟩:=HNM.out;exact ⟨s,hs,by rw [hr.out.1];exact he⟩) hr.out.2.1 hr.out.2.2.1 hr.out.2.2.2.1 hr.out.2.2.2.2.1 hr.out.2.2.2.2.2 (by have:=hl.out.1;omega) (by have:=hl.out.1;omega) (by have:=hl.out.1;omega) hl.out.2.1 hx HXK.out hl.out.2.2.2.choose_spec hl.out.2.2.1,hO,hfar,hnew,hCc,hG⟩
end Go.Proofs.YtpmcofmdjckijaaGreat
