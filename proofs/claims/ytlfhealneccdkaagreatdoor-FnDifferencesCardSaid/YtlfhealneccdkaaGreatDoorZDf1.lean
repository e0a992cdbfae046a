/- Texts, laid into one. -/
import Derived.Test.YtlfhealneccdkaaGreatDoorRows
import Derived.WalkKit
import Derived.WalkSpells
import Derived.WalkLawsBesides
import Derived.BigQuiet
import Derived.Deep.QuietTactic
import Derived.Lib.Hide
import Derived.Lib.QuietBelow
import Derived.Maps.AppendAt
import Derived.Deep.AppendLies
import Derived.Deep.RegionLaw
set_option linter.unusedVariables false
set_option linter.unusedSimpArgs false
set_option maxRecDepth 100000
set_option maxHeartbeats 16000000
namespace Go.Proofs.YtlfhealneccdkaaGreatDoor
open Go.RowKit Go.Sort
theorem lhd {p:Prop} (h:p):Hid p:=Lib.hid h
theorem nmw (x:World):∃ W,Hid (W=x):=⟨_,rfl⟩
theorem kfF {k a:Int} (h:k=a) (b:Int) (e:(a==b)=false:=by rfl):(k==b)=false:=by rw [h];exact e
theorem kfT {k a:Int} (h:k=a) (b:Int) (e:(a==b)=true:=by rfl):(k==b)=true:=by rw [h];exact e
theorem lpz {α:Type} (a b:α) (l:List α):(a::l).set 0 b=b::l:=rfl
theorem lps {α:Type} (a b:α) (n:Nat) (l:List α):(a::l).set (n+1) b=a::l.set n b:=rfl
theorem lpa {α:Type} (l:List α) (i:Nat) (a:α):l.toArray.setIfInBounds i a=(l.set i a).toArray:=by simp
def Ext (w w':World):Prop:=Below w.heap.size w w'
theorem Ext.refl (w:World):Ext w w:=Below.refl _ _
theorem Ext.size {w w':World} (h:Ext w w'):w.heap.size≤w'.heap.size:=Below.size h
theorem Ext.trans {a b c:World} (h:Ext a b) (k:Ext b c):Ext a c:=Below.trans h (Below.mono k h.size)
@[go_sem] theorem Ext_self (w:World):Ext w w:=Below.refl _ _
@[go_sem] theorem Ext_drew {w w1:World} (h:Ext w w1):Ext w w1.drew:=Below.drew h
@[go_sem] theorem Ext_drewN {w w1:World} (n:Nat) (h:Ext w w1):Ext w (w1.drewN n):=below_drewN h n
@[go_sem] theorem Ext_alloc {w w1:World} (o:Obj) (h:Ext w w1):Ext w (w1.alloc o):=Below.alloc h h.size o
theorem kx {C:World→Prop} {w1 w2:World} (h:∀ w',Ext w1 w'→C w') (e:Ext w1 w2):∀ w',Ext w2 w'→C w':=fun w' x=>h w' (e.trans x)
theorem ka {w W:World} {o:Obj} (h:Hid (W=w.alloc o)):Ext w W:=by rw [h.out];exact Ext_alloc _ (Ext.refl _)
@[go_sem] theorem Ext_regrown {w w1:World} (d:Nat) (os:Array Obj) (h:Ext w w1):Ext w (grow (redrawn w1 d) os):=Ext.trans h (below_regrown w1 d os)
theorem Ext.setCell {w w1:World} (h:Ext w w1) {p:Addr} (hp:w.heap.size≤p.block) (u:Value):Ext w (w1.setCell p u):=Below.setCell h hp u
theorem Ext.grown {w w1 w2:World} {row:Option Nat} (h:Ext w w1) (hg:w1.grownBy w2 row) (hr:∀ k,row=some k→w.heap.size≤k):Ext w w2:=Below.grown h hg h.size hr
theorem ext_of_q {W w1:World} {n:Nat} {os:Array Obj} (h:w1=grow (redrawn W n) os):Ext W w1:=by rw [h];exact Ext_regrown _ _ (Ext.refl _)
theorem qnl {W:World} {C:World→Prop} (h:∀ w',Ext W w'→C w'):∀ w',(∃ p:Regrown,w'=grow (redrawn W p.d) p.os)→C w':=fun w' ⟨_,hq⟩=>h w' (ext_of_q hq)
theorem boxed {w:World} {cs:Array Value} {T:TypeId} {w':World} (h:Ext (w.alloc (.cells cs T)) w') (i:Nat):w'.cell? ⟨w.heap.size,i,none⟩=cs[i]?:=by
 have hb:w'.heap[w.heap.size]?=some (.cells cs T (0,0)):=by
  rw [Below.block h w.heap.size (by simp)];exact heap_alloc_new w _
 exact cell_of_row w' w.heap.size i cs T (0,0) hb
theorem boxed_free {w:World} {cs:Array Value} {T:TypeId} {w':World} (h:Ext (w.alloc (.cells cs T)) w') (i:Nat):w'.frozen? ⟨w.heap.size,i,none⟩=false:=by
 have hb:w'.heap[w.heap.size]?=some (.cells cs T (0,0)):=by
  rw [Below.block h w.heap.size (by simp)];exact heap_alloc_new w _
 exact frozen_of_row w' w.heap.size i cs T hb
theorem boxed2 {w:World} {c0 c1:Array Value} {T0 T1:TypeId} {w':World} (h:Ext ((w.alloc (.cells c0 T0)).alloc (.cells c1 T1)) w') :
 (∀ i,w'.cell? ⟨w.heap.size,i,none⟩=c0[i]?)∧(∀ i,w'.cell? ⟨w.heap.size+1,i,none⟩=c1[i]?) ∧
 (∀ i,w'.frozen? ⟨w.heap.size,i,none⟩=false)∧(∀ i,w'.frozen? ⟨w.heap.size+1,i,none⟩=false)∧w.heap.size+2≤w'.heap.size:=by
 have h1:Ext (w.alloc (.cells c0 T0)) w':=(Ext_alloc _ (Ext.refl _)).trans h
 have s1:(w.alloc (.cells c0 T0)).heap.size=w.heap.size+1:=by simp
 refine ⟨fun i=>boxed h1 i,fun i=>?_,fun i=>boxed_free h1 i,fun i=>?_,?_⟩
 ·have:=boxed h i;rwa [s1] at this
 ·have:=boxed_free h i;rwa [s1] at this
 ·have:=h.size;simpa using this
theorem boxed3 {w:World} {c0 c1 c2:Array Value} {T0 T1 T2:TypeId} {w':World} (h:Ext (((w.alloc (.cells c0 T0)).alloc (.cells c1 T1)).alloc (.cells c2 T2)) w') :
 (∀ i,w'.cell? ⟨w.heap.size,i,none⟩=c0[i]?)∧(∀ i,w'.cell? ⟨w.heap.size+1,i,none⟩=c1[i]?)∧(∀ i,w'.cell? ⟨w.heap.size+1+1,i,none⟩=c2[i]?) ∧
 (∀ i,w'.frozen? ⟨w.heap.size,i,none⟩=false)∧(∀ i,w'.frozen? ⟨w.heap.size+1,i,none⟩=false)∧(∀ i,w'.frozen? ⟨w.heap.size+1+1,i,none⟩=false)∧w.heap.size+3≤w'.heap.size:=by
 have h2:Ext ((w.alloc (.cells c0 T0)).alloc (.cells c1 T1)) w':=(Ext_alloc _ (Ext.refl _)).trans h
 have h1:Ext (w.alloc (.cells c0 T0)) w':=(Ext_alloc _ (Ext.refl _)).trans h2
 have s1:(w.alloc (.cells c0 T0)).heap.size=w.heap.size+1:=by simp
 have s2:((w.alloc (.cells c0 T0)).alloc (.cells c1 T1)).heap.size=w.heap.size+1+1:=by simp
 refine ⟨fun i=>boxed h1 i,fun i=>?_,fun i=>?_,fun i=>boxed_free h1 i,fun i=>?_,fun i=>?_,?_⟩
 ·have:=boxed h2 i;rwa [s1] at this
 ·have:=boxed h i;rwa [s2] at this
 ·have:=boxed_free h2 i;rwa [s1] at this
 ·have:=boxed_free h i;rwa [s2] at this
 ·have:=h.size;simpa using this
theorem World.ownsRow.lower {w:World} {B B':Nat} {e:TypeId} {size:Nat} {v:Value} {n:Nat} {xs:List Value} (h:w.ownsRow B e size v n xs) (hb:B'≤B):w.ownsRow B' e size v n xs:=by
 refine ⟨h.1,?_⟩;rcases h.2 with h0 | ⟨g,cap,cur,hv,hg,r⟩
 ·exact .inl h0
 ·exact .inr ⟨g,cap,cur,hv,by omega,r⟩
def Gives (P:Program) (f:FuncId) (args:Array Value) (w:World) (v:Value):Prop:=Calls P f args w fun e w'=>e=.returned v∧Ext w w'
def Rd0 {α:Type} (f:α→Value) (w:World) (A:Option Addr) (l:List α) (c:Nat):Prop :=
 l.length≤c∧l.length≤9223372036854775807∧(0<l.length→∃ b off,A=some ⟨b,off,none⟩∧b<w.heap.size∧∀ (w':World),Ext w w'→∀ i (h:i<l.length),w'.cell? ⟨b,off+i,none⟩=some (f l[i]))
def Rd {α:Type} (f:α→Value) (w:World) (A:Option Addr) (l:List α) (c:Nat):Prop:=Rd0 f w A l c∧l.length≤140737488351232
theorem Rd0.ext {α:Type} {f:α→Value} {w w1:World} {A:Option Addr} {l:List α} {c:Nat} (h:Rd0 f w A l c) (e:Ext w w1):Rd0 f w1 A l c :=
 ⟨h.1,h.2.1,fun hp=>let ⟨b,off,h1,h2,h3⟩:=h.2.2 hp;⟨b,off,h1,Nat.lt_of_lt_of_le h2 e.size,fun w' e'=>h3 w' (e.trans e')⟩⟩
theorem Rd.ext {α:Type} {f:α→Value} {w w1:World} {A:Option Addr} {l:List α} {c:Nat} (h:Rd f w A l c) (e:Ext w w1):Rd f w1 A l c:=⟨h.1.ext e,h.2⟩
theorem Rd.len {α:Type} {f:α→Value} {w:World} {A:Option Addr} {l:List α} {c:Nat} (h:Rd f w A l c):l.length≤140737488351232:=h.2
theorem Rd0.len {α:Type} {f:α→Value} {w:World} {A:Option Addr} {l:List α} {c:Nat} (h:Rd0 f w A l c):l.length≤9223372036854775807:=h.2.1
theorem Rd0.cap {α:Type} {f:α→Value} {w:World} {A:Option Addr} {l:List α} {c:Nat} (h:Rd0 f w A l c):l.length≤c:=h.1
theorem Rd.cap {α:Type} {f:α→Value} {w:World} {A:Option Addr} {l:List α} {c:Nat} (h:Rd f w A l c):l.length≤c:=h.1.1
@[go_sem] def vu8 (x:UInt8):Value:=.int .u8 x.toNat
@[go_sem] def vint (x:Int):Value:=.int .i64 x
@[go_sem] def vstr (x:ByteArray):Value:=.string x
abbrev Bs (w:World) (A:Option Addr) (l:List UInt8) (c:Nat):Prop:=Rd vu8 w A l c
abbrev Is (w:World) (A:Option Addr) (l:List Int) (c:Nat):Prop:=Rd vint w A l c
abbrev Ss (w:World) (A:Option Addr) (l:List ByteArray) (c:Nat):Prop:=Rd vstr w A l c
theorem Rd0.at {α:Type} {f:α→Value} {w:World} {A:Option Addr} {l:List α} {c:Nat} (h:Rd0 f w A l c) (k:Nat) (hk:k<l.length) :
 ∃ b off,A=some ⟨b,off,none⟩∧b<w.heap.size∧∀ (w':World),Ext w w'→w'.cell? ⟨b,off+k,none⟩=some (f l[k]) :=
 let ⟨b,off,h1,h2,h3⟩:=h.2.2 (by omega)
 ⟨b,off,h1,h2,fun w' e=>h3 w' e k hk⟩
theorem Rd.at {α:Type} {f:α→Value} {w:World} {A:Option Addr} {l:List α} {c:Nat} (h:Rd f w A l c) (k:Nat) (hk:k<l.length) :
 ∃ b off,A=some ⟨b,off,none⟩∧b<w.heap.size∧∀ (w':World),Ext w w'→w'.cell? ⟨b,off+k,none⟩=some (f l[k]):=h.1.at k hk
theorem World.cell?_alloc_at' (w:World) (news:List Value) (e:TypeId) (j:Nat):(w.alloc (.cells news.toArray e)).cell? ((⟨w.heap.size,0,none⟩:Addr).add j)=news[j]?:=by
 have hadd:(⟨w.heap.size,0,none⟩:Addr).add j=⟨w.heap.size,j,none⟩:=by unfold Addr.add;split<;>simp_all
 rw [hadd,World.cell?_alloc_at _ _ _ _ rfl];simp
structure Elem (P:Program) (t e:TypeId) (size bytes:Nat) (z:Value):Prop where
 ht:P.underlying t=some (.slice e)
 hi:(P.info? e).map (fun i=>(i.zero,i.size,i.bytes))=some (some z,size,bytes)
 hz:z.cells.size=size
 hs:0<size
abbrev Own (e:TypeId) (size:Nat) (w0 w:World) (v:Value) (n:Nat) (xs:List Value):Prop:=w.ownsRow w0.heap.size e size v n xs
section
variable {P:Program} {ops:Array Oper} {rest:List Oper} {o:Oper} {a:Act} {Q:Exit→Act→World→Prop}
theorem run_app_nil (w:World) (base:Nat) (t ty e:TypeId) (i:TypeInfo) (size:Nat) (ht:P.underlying t=some (.slice e)) (hi:P.info? e=some i)
 (v:Value) (n:Nat) (xs:List Value) (hown:w.ownsRow base e size v n xs) (c:Nat):(Builtin.append_ #[t,t] ty #[v,.slice none 0 c]).run P w=.ok v w:=by
 rcases hown.2 with ⟨rfl,rfl⟩ | ⟨g,cap,cur,rfl,_,_,hnc,_⟩
 ·simp [Builtin.append_,run_underlying ht,sizeOf,typeInfo,hi,Builtin.lenOf,Builtin.firstCells]
 ·simp [Builtin.append_,run_underlying ht,sizeOf,typeInfo,hi,Builtin.lenOf,Builtin.firstCells,hnc,storeCells]
theorem wpList_app_any (hgd:o.guard=none) (s x:Operand) (t:TypeId) (ho:o.op=.call { callee:=.builtin .append,args:=#[s,x],argTypes:=#[t,t] })
 {e:TypeId} {size bytes:Nat} {z:Value} (hE:Elem P t e size bytes z) (w0 w:World) (v:Value) (n:Nat) (xs:List Value) (hs:a.eval s=v) (hown:Own e size w0 w v n xs)
 (he:Ext w0 w) (news:List Value) (A:Option Addr) (m c:Nat) (hx:a.eval x=.slice A m c) (hl:news.length=m*size)
 (hA:0<m→∃ ad,A=some ad∧∀ j u,news[j]?=some u→w.cell? (ad.add j)=some u) (h1:∀ u∈news,u.oneCell'=true)
 (hm:n+m≤maxLen) (hb:(n+m)*bytes≤140737488355328)
 (h:∀ v' w',Own e size w0 w' v' (n+m) (xs++news)→Ext w0 w'→(v'.ownBlock=v.ownBlock∨v'.ownBlock=some w.heap.size)→w.grownBy w' v.ownBlock→wpList P ops Q rest (a.put o.dst v') w') :
 wpList P ops Q (o::rest) a w:=by
 obtain ⟨i0,hi0,hz0,hz1,hz2⟩:=info_parts hE.hi;rcases A with _ | ad
 ·have hm0:m=0:=by
   rcases Nat.eq_zero_or_pos m with h0 | h0
   ·exact h0
   ·obtain ⟨ad,h,_⟩:=hA h0
    cases h
  subst hm0;obtain rfl:news=[]:=List.eq_nil_of_length_eq_zero (by simpa using hl)
  refine wpList_plain hgd fun K hK=>?_
  unfold Oper.wp execOp;simp only [ho,resolve,invoke,builtin,Sem.run_bind,Sem.run_pure,Result.andThen_ok,List.map_toArray,List.map_cons,List.map_nil,hs,hx,run_app_nil w w0.heap.size t o.type e i0 size hE.ht hi0 v n xs hown c];exact hK _ _ (h v w (by simpa using hown) he (.inl rfl) (World.grownBy.refl w _))
 ·refine wpList_append_own_at _ hgd s x t ho w0.heap.size e i0 z size bytes hE.ht hi0 hz0 hz1 hz2 hE.hz hE.hs v n xs hs hown ad m c news hx hl ?_ h1 hm hb he.size ?_
  ·intro j u hu
   rcases Nat.eq_zero_or_pos m with h0 | h0
   ·subst h0
    obtain rfl:news=[]:=List.eq_nil_of_length_eq_zero (by simpa using hl)
    simp at hu
   ·obtain ⟨ad',h',hc⟩:=hA h0
    injection h' with h'
    subst h';exact hc j u hu
  ·intro v' w' ho' hg _ hat
   exact h v' w' ho' (he.grown hg (fun k hk=>(hown.lt k hk).1)) hat hg
theorem wpList_mk (hg:o.guard=none) (l c:Operand) (t:TypeId) (hop:o.op=Op.makeSlice t l c)
 {e:TypeId} {size bytes:Nat} {z:Value} (hE:Elem P t e size bytes z) (w0 w:World) (he:Ext w0 w)
 (n:Nat) (hl:a.eval l=.int .i64 n) (hc:a.eval c=.int .i64 n) (hb:bytes*n≤281474976710656) (hn:n≤maxLen)
 (h:∀ w',Own e size w0 w' (.slice (some ⟨w.heap.size,0,none⟩) n n) n (madeCells z.cells (n*size)).toList→Ext w0 w'→Ext w w'→wpList P ops Q rest (a.put o.dst (.slice (some ⟨w.heap.size,0,none⟩) n n)) w') :
 wpList P ops Q (o::rest) a w:=by
 obtain ⟨i0,hi0,hz0,hz1,hz2⟩:=info_parts hE.hi;refine wpList_make_full w hg l c t hop w0.heap.size e i0 z size hE.ht hi0 hz0 hz1 .i64 .i64 n n n hl hc rfl rfl (by rw [hz2];exact hb) hn he.size ?_;intro w' ho' hg';exact h w' ho' (he.grown hg' (fun k hk=>by cases hk)) ((Ext.refl w).grown hg' (fun k hk=>by cases hk))
theorem wpList_mk0 (hg:o.guard=none) (l c:Operand) (t:TypeId) (hop:o.op=Op.makeSlice t l c)
 {e:TypeId} {size bytes:Nat} {z:Value} (hE:Elem P t e size bytes z) (w0 w:World) (he:Ext w0 w)
 (n:Nat) (hl:a.eval l=.int .i64 0) (hc:a.eval c=.int .i64 n) (hb:bytes*n≤281474976710656) (hn:n≤maxLen)
 (h:∀ w',Own e size w0 w' (.slice (some ⟨w.heap.size,0,none⟩) 0 n) 0 []→Ext w0 w'→wpList P ops Q rest (a.put o.dst (.slice (some ⟨w.heap.size,0,none⟩) 0 n)) w') :
 wpList P ops Q (o::rest) a w:=by
 obtain ⟨i0,hi0,hz0,hz1,hz2⟩:=info_parts hE.hi;refine wpList_make_own w hg l c t hop w0.heap.size e i0 z size hE.ht hi0 hz0 hz1 .i64 .i64 n n hl hc rfl (by rw [hz2];exact hb) hn he.size ?_;intro w' ho' hg';exact h w' ho' (he.grown hg' (fun k hk=>by cases hk))
end
theorem Own.rd {α:Type} {f:α→Value} {e:TypeId} {w0 w:World} {v:Value} {n:Nat} {l:List α} (h:Own e 1 w0 w v n (l.map f)) (hl:l.length≤140737488351232) :
 ∃ A c,v=.slice A l.length c∧Rd f w A l c:=by
 have hn:n=l.length:=by have:=h.1;simpa using this.symm
 subst hn;rcases h.2 with ⟨rfl,h0⟩ | ⟨g,cap,cur,rfl,hb,hg,hnc,hcm,hcs,htake⟩
 ·exact ⟨none,0,by rw [h0],⟨by omega,by omega,fun hp=>by omega⟩,hl⟩
 ·refine ⟨_,_,rfl,⟨by omega,by omega,fun _=>⟨g,0,rfl,(Array.getElem?_eq_some_iff.1 hg).1,fun w' e' i hi=>?_⟩⟩,hl⟩
  have hg':w'.heap[g]?=some (.cells cur _ (0,0)):=(Below.block e' g (Array.getElem?_eq_some_iff.1 hg).1).trans hg
  rw [cell_of_row w' g (0+i) cur _ (0,0) hg'];have h2:(cur.toList.take (l.length*1))[i]?=(l.map f)[i]?:=by rw [htake]
  rw [List.getElem?_take,if_pos (by omega)] at h2
  simpa [hi] using h2
theorem Own.empty {e:TypeId} {size:Nat} {w0 w:World} (he:Ext w0 w):Own e size w0 (w.alloc (.cells #[] e)) (.slice (some ⟨w.heap.size,0,none⟩) 0 0) 0 [] :=
 ⟨by simp,.inr ⟨w.heap.size,0,#[],rfl,he.size,heap_alloc_new w _,by omega,by simp [maxLen],by simp,by simp⟩⟩
theorem Own.ext {e:TypeId} {size:Nat} {w0 w w1:World} {v:Value} {n:Nat} {xs:List Value} (h:Own e size w0 w v n xs) (k:Ext w w1):Own e size w0 w1 v n xs:=by
 refine ⟨h.1,?_⟩;rcases h.2 with h0 | ⟨g,cap,cur,rfl,hb,hg,r⟩
 ·exact .inl h0
 ·exact .inr ⟨g,cap,cur,rfl,hb,(Below.block k g (Array.getElem?_eq_some_iff.1 hg).1).trans hg,r⟩
theorem Own.slot {e:TypeId} {size:Nat} {w0 w:World} {g n cap:Nat} {xs:List Value} (h:Own e size w0 w (.slice (some ⟨g,0,none⟩) n cap) n xs) (k:Nat) (hk:k<xs.length) :
 (∃ u,w.cell? ⟨g,k,none⟩=some u)∧w.frozen? ⟨g,k,none⟩=false :=
 ⟨⟨xs[k],by rw [h.cellAt k (by have:=h.1;omega)];simp [hk]⟩,h.frozenAt k⟩
theorem Own.store {e:TypeId} {size:Nat} {w0 w:World} {g n cap:Nat} {xs:List Value} (h:Own e size w0 w (.slice (some ⟨g,0,none⟩) n cap) n xs) (he:Ext w0 w) (k:Nat) (u:Value) :
 Own e size w0 (w.setCell ⟨g,k,none⟩ u) (.slice (some ⟨g,0,none⟩) n cap) n (xs.set k u)∧Ext w0 (w.setCell ⟨g,k,none⟩ u) :=
 ⟨(h.stored k u).1,he.setCell (h.lt g rfl).1 u⟩
theorem Rd.base {α:Type} {f:α→Value} {w:World} {A:Option Addr} {l:List α} {c:Nat} (h:Rd f w A l c) (hp:0<l.length) :
 ∃ b off,A=some ⟨b,off,none⟩∧b<w.heap.size∧∀ (w':World),Ext w w'→∀ i (h:i<l.length),w'.cell? ⟨b,off+i,none⟩=some (f l[i]):=h.1.2.2 hp
theorem part_cells {α:Type} {f:α→Value} {w:World} {b off:Nat} {l:List α} (h:∀ i (h:i<l.length),w.cell? ⟨b,off+i,none⟩=some (f l[i])) (lo m:Nat) :
 ∀ j u,(((l.drop lo).take m).map f)[j]?=some u→w.cell? ((⟨b,off+lo,none⟩:Addr).add j)=some u:=by
 intro j u hu;rw [List.getElem?_map,List.getElem?_take] at hu
 split at hu
 ·rw [List.getElem?_drop] at hu
  have hlt:lo+j<l.length:=by
   rcases Nat.lt_or_ge (lo+j) l.length with h' | h'
   ·exact h'
   ·rw [List.getElem?_eq_none h'] at hu;simp at hu
  rw [List.getElem?_eq_getElem hlt] at hu;have hadd:(⟨b,off+lo,none⟩:Addr).add j=⟨b,off+(lo+j),none⟩:=by unfold Addr.add;split<;>simp_all [Nat.add_assoc]
  rw [hadd,h _ hlt]
  simpa using hu
 ·simp at hu
def OwnL {α:Type} (f:α→Value) (e:TypeId) (w0 w:World) (v:Value) (l:List α):Prop:=Own e 1 w0 w v l.length (l.map f)
theorem OwnL.rd {α:Type} {f:α→Value} {e:TypeId} {w0 w:World} {v:Value} {l:List α} (h:OwnL f e w0 w v l) (hl:l.length≤140737488351232):∃ A c,v=.slice A l.length c∧Rd f w A l c:=Own.rd h hl
theorem OwnL.ext {α:Type} {f:α→Value} {e:TypeId} {w0 w w1:World} {v:Value} {l:List α} (h:OwnL f e w0 w v l) (k:Ext w w1):OwnL f e w0 w1 v l:=Own.ext h k
theorem OwnL.empty {α:Type} {f:α→Value} {e:TypeId} {w0 w:World} (he:Ext w0 w):OwnL f e w0 (w.alloc (.cells #[] e)) (.slice (some ⟨w.heap.size,0,none⟩) 0 0) []:=Own.empty he
theorem OwnL.nil {α:Type} {f:α→Value} {e:TypeId} (w0 w:World):OwnL f e w0 w (.slice none 0 0) []:=⟨by simp,.inl ⟨rfl,rfl⟩⟩
section
variable {P:Program} {ops:Array Oper} {rest:List Oper} {o:Oper} {a:Act} {Q:Exit→Act→World→Prop}
theorem wpList_appL (hgd:o.guard=none) (s x:Operand) (t:TypeId) (ho:o.op=.call { callee:=.builtin .append,args:=#[s,x],argTypes:=#[t,t] })
 {e:TypeId} {bytes:Nat} {z:Value} (hE:Elem P t e 1 bytes z) (hby:1≤bytes) (w0 w:World) {α:Type} (f:α→Value) (hf:∀ x,(f x).oneCell'=true) (v:Value) (hs:a.eval s=v) (A:Option Addr) (m c:Nat) (hx:a.eval x=.slice A m c)
 (l ys:List α) (hown:OwnL f e w0 w v l) (he:Ext w0 w) (hm:m=ys.length)
 (hA:0<ys.length→∃ ad,A=some ad∧∀ j u,(ys.map f)[j]?=some u→w.cell? (ad.add j)=some u)
 (hb:(l.length+ys.length)*bytes≤140737488355328)
 (h:∀ v' w',OwnL f e w0 w' v' (l++ys)→Ext w0 w'→(v'.ownBlock=v.ownBlock∨v'.ownBlock=some w.heap.size)→w.grownBy w' v.ownBlock→wpList P ops Q rest (a.put o.dst v') w') :
 wpList P ops Q (o::rest) a w:=by
 subst hm
 refine wpList_app_any hgd s x t ho hE w0 w v l.length (l.map f) hs hown he (ys.map f) A ys.length c hx (by simp) hA (fun u hu=>by obtain ⟨x,_,rfl⟩:=List.mem_map.1 hu;exact hf x)
  (by have:=Nat.mul_le_mul_left (l.length+ys.length) hby;simp only [maxLen];omega) hb ?_
 intro v' w' h1 h2 h3 h4;exact h v' w' (by simpa [OwnL] using h1) h2 h3 h4
theorem wpList_appN (hgd:o.guard=none) (s x:Operand) (t:TypeId) (ho:o.op=.call { callee:=.builtin .append,args:=#[s,x],argTypes:=#[t,t] })
 {e:TypeId} {bytes:Nat} {z:Value} (hE:Elem P t e 1 bytes z) (hby:1≤bytes) (w0 w:World) {α:Type} (f:α→Value) (hf:∀ x,(f x).oneCell'=true) (v:Value) (hs:a.eval s=v) (m c:Nat) (hx:a.eval x=.slice (some ⟨w.heap.size,0,none⟩) m c)
 (l ys:List α) (cs:Array Value) (hcs:cs=(ys.map f).toArray) (hown:OwnL f e w0 w v l) (he:Ext w0 w) (hm:m=ys.length)
 (hb:(l.length+ys.length)*bytes≤140737488355328)
 (h:∀ v' w',OwnL f e w0 w' v' (l++ys)→Ext w0 w'→wpList P ops Q rest (a.put o.dst v') w') :
 wpList P ops Q (o::rest) a (w.alloc (.cells cs e)):=by
 subst hcs;refine wpList_appL hgd s x t ho hE hby w0 _ f hf v hs (some ⟨w.heap.size,0,none⟩) m c hx l ys (hown.ext (Ext_alloc _ (Ext.refl w))) (Ext_alloc _ he) hm (fun _=>⟨_,rfl,fun j u hu=>?_⟩) hb (fun v' w' h1 h2 _ _=>h v' w' h1 h2);rw [World.cell?_alloc_at'];exact hu
end
section
variable {P:Program} {ops:Array Oper} {rest:List Oper} {o:Oper} {a:Act} {Q:Exit→Act→World→Prop} {K:Act→World→Prop} {E:Prop}
theorem step_appL (hgd:o.guard=none) (s x:Operand) (t:TypeId) (ho:o.op=.call { callee:=.builtin .append,args:=#[s,x],argTypes:=#[t,t] })
 {e:TypeId} {bytes:Nat} {z:Value} (hE:Elem P t e 1 bytes z) (hby:1≤bytes) (w0 w:World) {α:Type} (f:α→Value) (hf:∀ x,(f x).oneCell'=true) (v:Value) (hs:a.eval s=v) (A:Option Addr) (m c:Nat) (hx:a.eval x=.slice A m c)
 (l ys:List α) (hown:OwnL f e w0 w v l) (he:Ext w0 w) (hm:m=ys.length)
 (hA:0<ys.length→∃ ad,A=some ad∧∀ j u,(ys.map f)[j]?=some u→w.cell? (ad.add j)=some u)
 (hb:(l.length+ys.length)*bytes≤140737488355328)
 (h:∀ v' w',OwnL f e w0 w' v' (l++ys)→Ext w0 w'→K (a.put o.dst v') w') :
 if Region.wanted o (yielded ops a.tmps)=true then Oper.wp P o a w K Q else E:=by
 have hw:Region.wanted o (yielded ops a.tmps)=true:=by simp [Region.wanted,hgd]
 rw [if_pos hw];obtain ⟨i0,hi0,hz0,hz1,hz2⟩:=info_parts hE.hi;subst hm;have hfin:∀ v' w',Own e 1 w0 w' v' (l.length+ys.length) (l.map f++ys.map f)→Ext w0 w'→K (a.put o.dst v') w':=fun v' w' h1 h2=>h v' w' (by simpa [OwnL] using h1) h2
 rcases A with _ | ad
 ·have hm0:ys.length=0:=by
   rcases Nat.eq_zero_or_pos ys.length with h0 | h0
   ·exact h0
   ·obtain ⟨ad,h,_⟩:=hA h0
    cases h
  obtain rfl:ys=[]:=List.eq_nil_of_length_eq_zero hm0
  unfold Oper.wp execOp;simp only [ho,resolve,invoke,builtin,Sem.run_bind,Sem.run_pure,Result.andThen_ok,List.map_toArray,List.map_cons,List.map_nil,List.length_nil,hs,hx,run_app_nil w w0.heap.size t o.type e i0 1 hE.ht hi0 v l.length (l.map f) hown c];exact hfin v w (by have h':=hown;unfold OwnL at h';simpa using h') he
 ·obtain ⟨v',w',hr,h2,h3,h4,h5⟩:=run_append_own_at (P:=P) w w0.heap.size t o.type e i0 z 1 bytes hE.ht hi0 hz0 hz1 hz2 hE.hz hE.hs v l.length (l.map f) hown ad ys.length c (ys.map f) (by simp)
   (fun j u hu=>by
    rcases Nat.eq_zero_or_pos ys.length with h0 | h0
    ·obtain rfl:ys=[]:=List.eq_nil_of_length_eq_zero h0
     simp at hu
    ·obtain ⟨ad',h',hc⟩:=hA h0
     injection h' with h'
     subst h';exact hc j u hu)
   (fun u hu=>by obtain ⟨x,_,rfl⟩:=List.mem_map.1 hu;exact hf x) (by have:=Nat.mul_le_mul_left (l.length+ys.length) hby;simp only [maxLen];omega) hb he.size
  unfold Oper.wp execOp;simp only [ho,resolve,invoke,builtin,Sem.run_bind,Sem.run_pure,Result.andThen_ok,List.map_toArray,List.map_cons,List.map_nil,hs,hx,hr];exact hfin v' w' h2 (he.grown h3 (fun k hk=>(hown.lt k hk).1))
theorem step_appN (hgd:o.guard=none) (s x:Operand) (t:TypeId) (ho:o.op=.call { callee:=.builtin .append,args:=#[s,x],argTypes:=#[t,t] })
 {e:TypeId} {bytes:Nat} {z:Value} (hE:Elem P t e 1 bytes z) (hby:1≤bytes) (w0 w W:World) {α:Type} (f:α→Value) (hf:∀ x,(f x).oneCell'=true) (v:Value) (hs:a.eval s=v) (m c:Nat) (hx:a.eval x=.slice (some ⟨w.heap.size,0,none⟩) m c)
 (l ys:List α) (cs:Array Value) (hcs:cs=(ys.map f).toArray) (hW:W=w.alloc (.cells cs e)) (hown:OwnL f e w0 w v l) (he:Ext w0 w) (hm:m=ys.length)
 (hb:(l.length+ys.length)*bytes≤140737488355328)
 (h:∀ v' w',OwnL f e w0 w' v' (l++ys)→Ext w0 w'→K (a.put o.dst v') w') :
 if Region.wanted o (yielded ops a.tmps)=true then Oper.wp P o a W K Q else E:=by
 subst hW;subst hcs;refine step_appL hgd s x t ho hE hby w0 _ f hf v hs (some ⟨w.heap.size,0,none⟩) m c hx l ys (hown.ext (Ext_alloc _ (Ext.refl w))) (Ext_alloc _ he) hm (fun _=>⟨_,rfl,fun j u hu=>?_⟩) hb h;rw [World.cell?_alloc_at'];exact hu
end
theorem OwnL.kept {α:Type} {f:α→Value} {e:TypeId} {w0 w w':World} {v:Value} {l:List α} (h:OwnL f e w0 w v l) {row:Option Nat} (hg:w.grownBy w' row) (hr:∀ g,row=some g→g<w0.heap.size):OwnL f e w0 w' v l:=by
 refine World.ownsRow.kept h hg ?_;cases hv:v.ownBlock with
 | none=>exact .inl rfl
 | some g =>
  right
  intro e
  have:=hr g e.symm
  have:=(h.lt g hv).1
  omega
theorem OwnL.block {α:Type} {f:α→Value} {e:TypeId} {w0 w:World} {v:Value} {l:List α} (h:OwnL f e w0 w v l):∀ g,v.ownBlock=some g→g<w.heap.size:=fun g hg=>(h.lt g hg).2
theorem u8_inj {x y:UInt8} (h:(x.toNat:Int)=(y.toNat:Int)):x=y:=UInt8.toNat_inj.1 (by omega)
theorem take_eq_succ {α:Type} {l l':List α} {k:Nat} (h1:k<l.length) (h2:k<l'.length) (h:l.take k=l'.take k) (e:l[k]=l'[k]):l.take (k+1)=l'.take (k+1):=by
 rw [List.take_succ_eq_append_getElem h1,List.take_succ_eq_append_getElem h2,h,e]
theorem ret_i64 {a b:Int} (h:a=b):Ending.returned (.int .i64 a)=.returned (.int .i64 b):=by rw [h]
theorem ret_bool {a b:Bool} (h:a=b):Ending.returned (.bool a)=.returned (.bool b):=by rw [h]
end Go.Proofs.YtlfhealneccdkaaGreatDoor
