/- Texts, laid into one. -/
import Derived.Test.YtpmcofmdjckijaaGreatZDg8
set_option linter.unusedVariables false
set_option linter.unusedSimpArgs false
set_option maxRecDepth 100000
set_option maxHeartbeats 16000000
namespace Go.Proofs.YtpmcofmdjckijaaGreat
open Go.RowKit Go.Sort
theorem E_str:Elem Tryz.prog 85 9 1 16 (.string ⟨#[]⟩):=⟨Tryz.underlying85,by kernel_rfl,rfl,by omega⟩
def at0 (l:List Int) (i:Nat):Int:=l.getD i 0
def merged (a b:List Int):List Int:=(List.range (max a.length b.length)).map fun i=>wrap64 (at0 a i+at0 b i)
def eqNm (a b:ByteArray):Bool:=a.toList==b.toList
def eqNms (l l':List ByteArray):Bool:=l.map ByteArray.toList==l'.map ByteArray.toList
def eqR (r q:DRule):Bool:=r.nm.toList==q.nm.toList&&r.kind==q.kind&&r.size==q.size&&r.little==q.little&&r.bytes==q.bytes&&eqNms r.names q.names&&r.tags==q.tags&&r.kids==q.kids
def eqAll {α:Type} (f:α→α→Bool):List α→List α→Bool
 | [],[]=>true
 | a::s,b::t=>f a b&&eqAll f s t
 | _,_=>false
def eqD (s t:List DRule):Bool:=eqAll eqR s t
def eqG (s t:List (List DRule)):Bool:=eqAll eqD s t
def ShortD (ds:List DRule):Prop:=∀ r∈ds,ShortR r
def ShortG (gs:List (List DRule)):Prop:=∀ d∈gs,ShortD d
theorem shortD_of {ds:List DRule} (h:szD ds≤1048576):ShortD ds:=fun _ hr=>(szRl_short (szD_mem h hr)).1
end Go.Proofs.YtpmcofmdjckijaaGreat
namespace Go.Proofs.YtpmcofmdjckijaaGreat
def kidsOf (r:DRule):List Int:=if r.kind=4∨r.kind=5∨r.kind=7 then r.kids.drop 1 else r.kids
def setAll (c:List Bool) (l:List Int):List Bool:=l.foldl (fun c k=>c.set k.toNat true) c
def possAt (ds:List DRule) (c:List Bool) (i:Nat):List Bool:=if c.getD i false then setAll c (kidsOf (ds.getD i ⟨⟨#[]⟩,0,0,false,[],[],[],[]⟩)) else c
def possFrom (ds:List DRule):Nat→List Bool→List Bool
 | 0,c=>c
 | i+1,c=>possFrom ds i (possAt ds c i)
def possible (ds:List DRule):List Bool:=possFrom ds ds.length ((List.replicate ds.length false).set (ds.length-1) true)
def entries (ds:List DRule):List Nat:=(List.range ds.length).filter fun i=>(possible ds).getD i false
def entriesUpTo (c:List Bool) (n:Nat):List Nat:=(List.range n).filter fun i=>c.getD i false
def covered (ds:List DRule) (cov:List Int):Nat:=((entries ds).filter fun i=>decide (0<at0 cov i)).length
def percent (ds:List DRule) (cov:List Int):Int:=if descOk ds then (100*covered ds cov:Nat) / (entries ds).length else 0
def uncovered (ds:List DRule) (cov:List Int):List ByteArray:=if descOk ds then ((entries ds).filter fun i=>at0 cov i==0).map (fun i=>(ds.getD i ⟨⟨#[]⟩,0,0,false,[],[],[],[]⟩).nm) else []
end Go.Proofs.YtpmcofmdjckijaaGreat
namespace Go.Proofs.YtpmcofmdjckijaaGreat
open Go.RowKit Go.Sort
def findR (ds:List DRule) (s:ByteArray):Int:=match ds.findIdx? (fun r=>r.nm.toList==s.toList) with | some i=>(i:Int) | none => -1
def nmsOf (ds:List DRule):List ByteArray:=ds.map DRule.nm
section
variable {P:Program} {ops:Array Oper} {rest:List Oper} {o:Oper} {a:Act} {Q:Exit→Act→World→Prop}
theorem wpList_appNB (hgd:o.guard=none) (s x:Operand) (t:TypeId) (ho:o.op=.call { callee:=.builtin .append,args:=#[s,x],argTypes:=#[t,t] })
 {e:TypeId} {bytes:Nat} {z:Value} (hE:Elem P t e 1 bytes z) (hby:1≤bytes) (w0 w:World) {α:Type} (f:α→Value) (hf:∀ x,(f x).oneCell'=true) (v:Value) (hs:a.eval s=v) (m c g:Nat) (hx:a.eval x=.slice (some ⟨g,0,none⟩) m c) (hg:g=w.heap.size)
 (l ys:List α) (cs:Array Value) (hcs:cs=(ys.map f).toArray) (hown:OwnL f e w0 w v l) (he:Ext w0 w) (hm:m=ys.length)
 (hb:(l.length+ys.length)*bytes≤140737488355328)
 (h:∀ v' w',OwnL f e w0 w' v' (l++ys)→Ext w0 w'→(v'.ownBlock=v.ownBlock∨v'.ownBlock=some (w.alloc (.cells cs e)).heap.size)→(w.alloc (.cells cs e)).grownBy w' v.ownBlock→wpList P ops Q rest (a.put o.dst v') w') :
 wpList P ops Q (o::rest) a (w.alloc (.cells cs e)):=by
 subst hcs;subst hg;refine wpList_appL hgd s x t ho hE hby w0 _ f hf v hs (some ⟨w.heap.size,0,none⟩) m c hx l ys (hown.ext (Ext_alloc _ (Ext.refl w))) (Ext_alloc _ he) hm (fun _=>⟨_,rfl,fun j u hu=>?_⟩) hb h;rw [World.cell?_alloc_at'];exact hu
end
theorem take_snoc' {α β:Type} (f:α→β) (l:List α) (k:Nat) (hk:k<l.length):(l.take k).map f++[f l[k]]=(l.take (k+1)).map f:=by
 rw [List.take_succ_eq_append_getElem hk,List.map_append];rfl
def shared (a b:List DRule):List ByteArray:=(nmsOf a).filter (hasNm (nmsOf b))
def shr (a b:List DRule) (k:Nat):List ByteArray:=((a.take k).map DRule.nm).filter (hasNm (nmsOf b))
theorem allN_at {n k:Nat} {f:Nat→Bool} (h:allN n f=true) (hk:k<n):f k=true:=by
 cases h1:f k
 ·rw [allN_no hk h1] at h;cases h
 ·rfl
theorem descOk_len {ds:List DRule} (h:descOk ds=true):0<ds.length∧ds.length≤24:=by
 unfold descOk between at h;simp at h;omega
theorem descOk_kid {ds:List DRule} (h:descOk ds=true) (i:Nat) (hi:i<ds.length) (j:Nat) (hj:j<ds[i].kids.length):0≤ds[i].kids[j]∧ds[i].kids[j]<i:=by
 unfold descOk at h;rw [Bool.and_eq_true] at h;have h1:=allN_at h.2 hi;unfold ruleOk at h1;rw [List.getElem?_eq_getElem hi] at h1;simp only [Bool.and_eq_true] at h1;have h2:=allN_at h1.1.2 hj;unfold kidOk at h2;rw [List.getElem?_eq_getElem hj] at h2;unfold between at h2;simp at h2;omega
def selK (r:DRule) (k:Nat):List Int:=if r.kind=4∨r.kind=5∨r.kind=7 then (r.kids.take k).drop 1 else r.kids.take k
theorem sRoot_c (A:Option Addr) (ds:List DRule) (c:Nat) (w:World) (hl:ds.length≤9223372036854775807) :
 Gives Tryz.prog 40 #[vdesc (.slice A ds.length c)] w (.int .i64 ((ds.length:Int)-1)):=by
 have eb:=Ext_alloc (.cells #[.slice A ds.length c] 26) (Ext.refl w);have BX:=fun w' (e:Ext (w.alloc (.cells #[.slice A ds.length c] 26)) w')=>boxed e
 unfold vdesc;go_enter Tryz.func40,Tryz.ntmps40;go_wp2;go_ret;exact ⟨ret_i64 (by go_num),eb⟩
theorem boxes2' (w:World) (c0 c1:Array Value) (T0 T1:TypeId) :
 ∃ W,Hid (W=((w.alloc (.cells c0 T0)).alloc (.cells c1 T1)))∧Box W w.heap.size c0 T0∧Box W (w.heap.size+1) c1 T1∧Ext w W∧W.heap.size=w.heap.size+2:=by
 have s1:(w.alloc (.cells c0 T0)).heap.size=w.heap.size+1:=by simp
 have h1:=Box.new (w.alloc (.cells c0 T0)) c1 T1;rw [s1] at h1;exact ⟨_,rfl,(Box.new w c0 T0).ext (Ext_alloc _ (Ext.refl _)),h1,Ext_alloc _ (Ext_alloc _ (Ext.refl w)),by simp⟩
end Go.Proofs.YtpmcofmdjckijaaGreat
