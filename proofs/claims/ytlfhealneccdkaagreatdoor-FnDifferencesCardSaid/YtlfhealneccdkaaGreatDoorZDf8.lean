/- Texts, laid into one. -/
import Derived.Test.YtlfhealneccdkaaGreatDoorZDf7
import Derived.Test.YtlfhealneccdkaaGreatDoorZDf4
set_option linter.unusedVariables false
set_option linter.unusedSimpArgs false
set_option maxRecDepth 100000
set_option maxHeartbeats 16000000
namespace Go.Proofs.YtlfhealneccdkaaGreatDoor
open Go.RowKit Go.Sort
theorem E_rule:Elem Tryz.prog 24 67 8 136 (.agg #[.string ⟨#[]⟩,.int .i64 0,.int .i64 0,.bool false,.slice none 0 0,.slice none 0 0,.slice none 0 0,.slice none 0 0]):=⟨Tryz.underlying24,by kernel_rfl,rfl,by omega⟩
def Far (vs:List Value):Prop:=vs.Pairwise fun a b=>∀ g,a.ownBlock=some g→b.ownBlock≠some g
structure RV where
 r:DRule
 vb:Value
 vn:Value
 vt:Value
 vk:Value
def RV.cells (p:RV):List Value:=[.string p.r.nm,.int .i64 p.r.kind,.int .i64 p.r.size,.bool p.r.little,p.vb,p.vn,p.vt,p.vk]
def RV.vals (p:RV):List Value:=[p.vb,p.vn,p.vt,p.vk]
theorem RV.cells_one (p:RV) (hb:p.vb.oneCell'=true) (hn:p.vn.oneCell'=true) (ht:p.vt.oneCell'=true) (hk:p.vk.oneCell'=true):∀ u∈p.cells,u.oneCell'=true:=by
 intro u hu;simp [RV.cells] at hu;rcases hu with rfl | rfl | rfl | rfl | rfl | rfl | rfl | rfl<;>first | rfl | assumption
structure RuleOwn (w0 w:World) (p:RV):Prop where
 b:OwnL vu8 5 w0 w p.vb p.r.bytes
 n:OwnL vstr 9 w0 w p.vn p.r.names
 t:OwnL vint 3 w0 w p.vt p.r.tags
 k:OwnL vint 3 w0 w p.vk p.r.kids
theorem Own.keep {e:TypeId} {size:Nat} {w0 w w':World} {v:Value} {n:Nat} {xs:List Value} (h:Own e size w0 w v n xs) {row:Option Nat} (hg:w.grownBy w' row) (hne:∀ g,v.ownBlock=some g→row≠some g):Own e size w0 w' v n xs:=by
 refine World.ownsRow.kept h hg ?_;cases hb:v.ownBlock with
 | none=>exact .inl rfl
 | some g=>right;exact fun he=>hne g hb he.symm
theorem OwnL.keep {α:Type} {f:α→Value} {e:TypeId} {w0 w w':World} {v:Value} {l:List α} (h:OwnL f e w0 w v l) {row:Option Nat} (hg:w.grownBy w' row) (hne:∀ g,v.ownBlock=some g→row≠some g):OwnL f e w0 w' v l:=Own.keep h hg hne
theorem RuleOwn.ext {w0 w w':World} {p:RV} (h:RuleOwn w0 w p) (e:Ext w w'):RuleOwn w0 w' p:=⟨h.b.ext e,h.n.ext e,h.t.ext e,h.k.ext e⟩
theorem RuleOwn.down {w0 w1 w:World} {p:RV} (h:RuleOwn w1 w p) (e:w0.heap.size≤w1.heap.size):RuleOwn w0 w p:=⟨h.b.down e,h.n.down e,h.t.down e,h.k.down e⟩
theorem RuleOwn.keep {w0 w w':World} {p:RV} (h:RuleOwn w0 w p) {row:Option Nat} (hg:w.grownBy w' row) (hne:∀ v∈p.vals,∀ g,v.ownBlock=some g→row≠some g):RuleOwn w0 w' p :=
 ⟨h.b.keep hg (hne _ (by simp [RV.vals])),h.n.keep hg (hne _ (by simp [RV.vals])),h.t.keep hg (hne _ (by simp [RV.vals])),h.k.keep hg (hne _ (by simp [RV.vals]))⟩
theorem RuleOwn.block {w0 w:World} {p:RV} (h:RuleOwn w0 w p):∀ v∈p.vals,∀ g,v.ownBlock=some g→w0.heap.size≤g∧g<w.heap.size:=by
 intro v hv;simp [RV.vals] at hv
 rcases hv with rfl | rfl | rfl | rfl
 ·exact fun g hg=>World.ownsRow.lt h.b g hg
 ·exact fun g hg=>World.ownsRow.lt h.n g hg
 ·exact fun g hg=>World.ownsRow.lt h.t g hg
 ·exact fun g hg=>World.ownsRow.lt h.k g hg
def ShortR (r:DRule):Prop:=r.bytes.length≤140737488351232∧r.names.length≤140737488351232∧r.tags.length≤140737488351232∧r.kids.length≤140737488351232
theorem szRl_short {r:DRule} (h:szRl r≤1048576):ShortR r∧r.bytes.length≤1048576∧r.names.length≤1048576∧r.tags.length≤1048576∧r.kids.length≤1048576:=by
 unfold szRl at h;unfold ShortR;omega
theorem sum_mem {α:Type} (f:α→Nat):∀ (l:List α) (x:α),x∈l→f x≤(l.map f).sum
 | a::t,x,hx=>by
  rw [List.map_cons,List.sum_cons];rcases List.mem_cons.1 hx with rfl | h
  ·omega
  ·have:=sum_mem f t x h;omega
theorem szD_mem {ds:List DRule} {n:Nat} (h:szD ds≤n) {r:DRule} (hr:r∈ds):szRl r≤n:=by
 unfold szD at h;have:=sum_mem szRl ds r hr;omega
theorem RuleOwn.rd {w0 w:World} {p:RV} (h:RuleOwn w0 w p) (hs:ShortR p.r):∃ Ab cb An cn At ct Ak ck,p.vb=.slice Ab p.r.bytes.length cb∧p.vn=.slice An p.r.names.length cn∧p.vt=.slice At p.r.tags.length ct∧p.vk=.slice Ak p.r.kids.length ck∧RdS w p.r Ab cb An cn At ct Ak ck:=by
 obtain ⟨Ab,cb,h1,r1⟩:=OwnL.rd h.b hs.1;obtain ⟨An,cn,h2,r2⟩:=OwnL.rd h.n hs.2.1;obtain ⟨At,ct,h3,r3⟩:=OwnL.rd h.t hs.2.2.1;obtain ⟨Ak,ck,h4,r4⟩:=OwnL.rd h.k hs.2.2.2;exact ⟨Ab,cb,An,cn,At,ct,Ak,ck,h1,h2,h3,h4,r1.1,r2.1,r3.1,r4.1⟩
structure OwnD (w0 w:World) (v:Value) (ps:List RV):Prop where
 row:Own 67 8 w0 w v ps.length (ps.flatMap RV.cells)
 each:∀ p∈ps,RuleOwn w0 w p
 far:Far (v::ps.flatMap RV.vals)
def rulesOf (ps:List RV):List DRule:=ps.map RV.r
theorem cells_get:∀ (ps:List RV) (i j:Nat) (h:i<ps.length),j<8→(ps.flatMap RV.cells)[i*8+j]?=ps[i].cells[j]?:=by
 intro ps
 induction ps with
 | nil=>intro i j h;simp at h
 | cons p t ih =>
  intro i j h hj;rw [List.flatMap_cons];cases i with
  | zero =>
   rw [List.getElem?_append_left (by simp [RV.cells];omega)];simp
  | succ i =>
   rw [List.getElem?_append_right (by simp [RV.cells];omega)]
   have:(i+1)*8+j-p.cells.length=i*8+j:=by simp [RV.cells];omega
   rw [this,ih i j (by simpa using h) hj];simp
theorem OwnD.ext {w0 w w':World} {v:Value} {ps:List RV} (h:OwnD w0 w v ps) (e:Ext w w'):OwnD w0 w' v ps:=⟨h.row.ext e,fun p hp=>(h.each p hp).ext e,h.far⟩
theorem OwnD.down {w0 w1 w:World} {v:Value} {ps:List RV} (h:OwnD w1 w v ps) (e:w0.heap.size≤w1.heap.size):OwnD w0 w v ps:=⟨World.ownsRow.lower h.row e,fun p hp=>(h.each p hp).down e,h.far⟩
theorem OwnD.keep {w0 w w':World} {v:Value} {ps:List RV} (h:OwnD w0 w v ps) {row:Option Nat} (hg:w.grownBy w' row) (hne:∀ u∈v::ps.flatMap RV.vals,∀ g,u.ownBlock=some g→row≠some g):OwnD w0 w' v ps :=
 ⟨h.row.keep hg (hne _ (by simp)),fun p hp=>(h.each p hp).keep hg (fun u hu=>hne u (List.mem_cons_of_mem _ (List.mem_flatMap.2 ⟨p,hp,hu⟩))),h.far⟩
theorem OwnD.shape {w0 w:World} {v:Value} {ps:List RV} (h:OwnD w0 w v ps):∃ A c,v=.slice A ps.length c:=by
 rcases h.row.2 with ⟨rfl,hn⟩ | ⟨g,cap,_,rfl,_⟩
 ·exact ⟨none,0,by rw [hn]⟩
 ·exact ⟨_,_,rfl⟩
theorem OwnD.block {w0 w:World} {v:Value} {ps:List RV} (h:OwnD w0 w v ps):∀ u∈v::ps.flatMap RV.vals,∀ g,u.ownBlock=some g→w0.heap.size≤g∧g<w.heap.size:=by
 intro u hu;rcases List.mem_cons.1 hu with rfl | hu
 ·exact fun g hg=>World.ownsRow.lt h.row g hg
 ·obtain ⟨p,hp,hu⟩:=List.mem_flatMap.1 hu
  exact (h.each p hp).block u hu
theorem heap_row {w:World} {g:Nat} {cur:Array Value} {T:TypeId} (hg:w.heap[g]?=some (.cells cur T (0,0))) {w':World} (e:Ext w w') (i:Nat):w'.cell? ⟨g,i,none⟩=cur[i]? :=
 cell_of_row w' g i cur T (0,0) ((Below.block e g (Array.getElem?_eq_some_iff.1 hg).1).trans hg)
theorem OwnD.rd {w0 w:World} {v:Value} {ps:List RV} (h:OwnD w0 w v ps) (hl:ps.length≤9223372036854775807) (hs:∀ p∈ps,ShortR p.r):∃ A c,v=.slice A (rulesOf ps).length c∧RdD w A (rulesOf ps) c:=by
 have hlen:(rulesOf ps).length=ps.length:=by simp [rulesOf]
 rcases h.row.2 with ⟨rfl,h0⟩ | ⟨g,cap,cur,rfl,hb,hg,hnc,hcm,hcs,htake⟩
 ·exact ⟨none,0,by rw [hlen,h0],by omega,by omega,fun hp=>by omega⟩
 ·refine ⟨_,_,by rw [hlen],by omega,by omega,fun hp=>⟨g,0,rfl,(Array.getElem?_eq_some_iff.1 hg).1,fun i hi=>?_⟩⟩
  have hi':i<ps.length:=by omega
  have hr:(rulesOf ps)[i]=ps[i].r:=by simp [rulesOf]
  have hc:∀ (w':World),Ext w w'→∀ j,j<8→w'.cell? ⟨g,i*8+j,none⟩=ps[i].cells[j]?:=by
   intro w' e j hj;rw [heap_row hg e,← cells_get ps i j hi' hj,← htake,List.getElem?_take,if_pos (by omega)];simp
  obtain ⟨Ab,cb,An,cn,At,ct,Ak,ck,e1,e2,e3,e4,hS⟩:=(h.each _ (List.getElem_mem hi')).rd (hs _ (List.getElem_mem hi'));rw [hr];refine ⟨Ab,cb,An,cn,At,ct,Ak,ck,hS,?_⟩;rw [← e1,← e2,← e3,← e4,Nat.zero_add]
  exact ⟨fun w' e=>by have:=hc w' e 0 (by omega);simpa [RV.cells] using this,fun w' e=>by have:=hc w' e 1 (by omega);simpa [RV.cells] using this,fun w' e=>by have:=hc w' e 2 (by omega);simpa [RV.cells] using this,fun w' e=>by have:=hc w' e 3 (by omega);simpa [RV.cells] using this,
   fun w' e=>by have:=hc w' e 4 (by omega);simpa [RV.cells] using this,fun w' e=>by have:=hc w' e 5 (by omega);simpa [RV.cells] using this,fun w' e=>by have:=hc w' e 6 (by omega);simpa [RV.cells] using this,fun w' e=>by have:=hc w' e 7 (by omega);simpa [RV.cells] using this⟩
theorem set8 (xs:List Value) (p:RV) (rest:List Value) (hr:8≤rest.length) (k:Nat) (hk:xs.length=k) :
 ((((((((xs++rest).set k (.string p.r.nm)).set (k+1) (.int .i64 p.r.kind)).set (k+2) (.int .i64 p.r.size)).set (k+3) (.bool p.r.little)).set (k+4) p.vb).set (k+5) p.vn).set (k+6) p.vt).set (k+7) p.vk=(xs++p.cells)++rest.drop 8:=by
 match rest,hr with
 | a0::a1::a2::a3::a4::a5::a6::a7::t,_ =>
  subst hk;rw [List.set_append_right _ _ (by omega),List.set_append_right _ _ (by omega),List.set_append_right _ _ (by omega),List.set_append_right _ _ (by omega),List.set_append_right _ _ (by omega),List.set_append_right _ _ (by omega),List.set_append_right _ _ (by omega),List.set_append_right _ _ (by omega)];rw [show xs.length-xs.length=0 by omega,show xs.length+1-xs.length=1 by omega,show xs.length+2-xs.length=2 by omega,show xs.length+3-xs.length=3 by omega,show xs.length+4-xs.length=4 by omega,show xs.length+5-xs.length=5 by omega,show xs.length+6-xs.length=6 by omega,show xs.length+7-xs.length=7 by omega];simp [RV.cells]
def put8 (w:World) (g k:Nat) (p:RV):World :=
 (((((((w.setCell ⟨g,k,none⟩ (.string p.r.nm)).setCell ⟨g,k+1,none⟩ (.int .i64 p.r.kind)).setCell ⟨g,k+2,none⟩ (.int .i64 p.r.size)).setCell ⟨g,k+3,none⟩ (.bool p.r.little)).setCell ⟨g,k+4,none⟩ p.vb).setCell ⟨g,k+5,none⟩ p.vn).setCell ⟨g,k+6,none⟩ p.vt).setCell ⟨g,k+7,none⟩ p.vk
theorem Own.put8 {e:TypeId} {w0 w:World} {g n cap:Nat} {xs rest:List Value} (h:Own e 8 w0 w (.slice (some ⟨g,0,none⟩) n cap) n (xs++rest)) (he:Ext w0 w) (p:RV) (hr:8≤rest.length) (k:Nat) (hk:xs.length=k) :
 Own e 8 w0 (put8 w g k p) (.slice (some ⟨g,0,none⟩) n cap) n ((xs++p.cells)++rest.drop 8)∧Ext w0 (put8 w g k p):=by
 rw [← set8 xs p rest hr k hk];obtain ⟨h0,e0⟩:=h.store he k (.string p.r.nm);obtain ⟨h1,e1⟩:=Own.store h0 e0 (k+1) (.int .i64 p.r.kind);obtain ⟨h2,e2⟩:=Own.store h1 e1 (k+2) (.int .i64 p.r.size);obtain ⟨h3,e3⟩:=Own.store h2 e2 (k+3) (.bool p.r.little);obtain ⟨h4,e4⟩:=Own.store h3 e3 (k+4) p.vb;obtain ⟨h5,e5⟩:=Own.store h4 e4 (k+5) p.vn;obtain ⟨h6,e6⟩:=Own.store h5 e5 (k+6) p.vt;obtain ⟨h7,e7⟩:=Own.store h6 e6 (k+7) p.vk;exact ⟨h7,e7⟩
theorem Far.append {a b:List Value} (ha:Far a) (hb:Far b) (h:∀ u∈a,∀ v∈b,∀ g,u.ownBlock=some g→v.ownBlock≠some g):Far (a++b):=List.pairwise_append.2 ⟨ha,hb,h⟩
theorem Far.cons {u:Value} {b:List Value} (hb:Far b) (h:∀ v∈b,∀ g,u.ownBlock=some g→v.ownBlock≠some g):Far (u::b):=List.pairwise_cons.2 ⟨h,hb⟩
theorem Far.nil:Far []:=List.Pairwise.nil
theorem Far.one (v:Value):Far [v]:=List.pairwise_singleton _ v
structure OwnG (w0 w:World) (v:Value) (qs:List (Value × List RV)):Prop where
 row:Own 26 1 w0 w v qs.length (qs.map Prod.fst)
 each:∀ q∈qs,OwnD w0 w q.1 q.2
 far:Far (v::qs.flatMap fun q=>q.1::q.2.flatMap RV.vals)
def descsOf (qs:List (Value × List RV)):List (List DRule):=qs.map fun q=>rulesOf q.2
theorem OwnG.ext {w0 w w':World} {v:Value} {qs:List (Value × List RV)} (h:OwnG w0 w v qs) (e:Ext w w'):OwnG w0 w' v qs:=⟨h.row.ext e,fun p hp=>(h.each p hp).ext e,h.far⟩
theorem OwnG.down {w0 w1 w:World} {v:Value} {qs:List (Value × List RV)} (h:OwnG w1 w v qs) (e:w0.heap.size≤w1.heap.size):OwnG w0 w v qs:=⟨World.ownsRow.lower h.row e,fun p hp=>(h.each p hp).down e,h.far⟩
theorem OwnG.shape {w0 w:World} {v:Value} {qs:List (Value × List RV)} (h:OwnG w0 w v qs):∃ A c,v=.slice A qs.length c:=by
 rcases h.row.2 with ⟨rfl,hn⟩ | ⟨g,cap,_,rfl,_⟩
 ·exact ⟨none,0,by rw [hn]⟩
 ·exact ⟨_,_,rfl⟩
theorem OwnG.block {w0 w:World} {v:Value} {qs:List (Value × List RV)} (h:OwnG w0 w v qs):∀ u∈v::(qs.flatMap fun q=>q.1::q.2.flatMap RV.vals),∀ g,u.ownBlock=some g→w0.heap.size≤g∧g<w.heap.size:=by
 intro u hu;rcases List.mem_cons.1 hu with rfl | hu
 ·exact fun g hg=>World.ownsRow.lt h.row g hg
 ·obtain ⟨p,hp,hu⟩:=List.mem_flatMap.1 hu
  exact (h.each p hp).block u hu
theorem OwnG.keep {w0 w w':World} {v:Value} {qs:List (Value × List RV)} (h:OwnG w0 w v qs) {row:Option Nat} (hg:w.grownBy w' row) (hne:∀ u∈v::(qs.flatMap fun q=>q.1::q.2.flatMap RV.vals),∀ g,u.ownBlock=some g→row≠some g):OwnG w0 w' v qs :=
 ⟨h.row.keep hg (hne _ (by simp)),fun p hp=>(h.each p hp).keep hg (fun u hu=>hne u (List.mem_cons_of_mem _ (List.mem_flatMap.2 ⟨p,hp,hu⟩))),h.far⟩
theorem OwnG.rd {w0 w:World} {v:Value} {qs:List (Value × List RV)} (h:OwnG w0 w v qs) (hl:qs.length≤9223372036854775807) (hl2:∀ q∈qs,q.2.length≤9223372036854775807) (hs:∀ q∈qs,∀ p∈q.2,ShortR p.r):∃ A c,v=.slice A (descsOf qs).length c∧RdG w A (descsOf qs) c:=by
 have hlen:(descsOf qs).length=qs.length:=by simp [descsOf]
 rcases h.row.2 with ⟨rfl,h0⟩ | ⟨g,cap,cur,rfl,hb,hg,hnc,hcm,hcs,htake⟩
 ·exact ⟨none,0,by rw [hlen,h0],by omega,by omega,fun hp=>by omega⟩
 ·refine ⟨_,_,by rw [hlen],by omega,by omega,fun hp=>⟨g,0,rfl,(Array.getElem?_eq_some_iff.1 hg).1,fun i hi=>?_⟩⟩
  have hi':i<qs.length:=by omega
  have hr:(descsOf qs)[i]=rulesOf qs[i].2:=by simp [descsOf]
  rw [hr];obtain ⟨A',c',hv,hR⟩:=(h.each _ (List.getElem_mem hi')).rd (hl2 _ (List.getElem_mem hi')) (hs _ (List.getElem_mem hi'));refine ⟨A',c',hR,fun w' e=>?_⟩;rw [heap_row hg e,← hv,Nat.zero_add];have h2:(cur.toList.take (qs.length*1))[i]?=(qs.map Prod.fst)[i]?:=by rw [htake]
  rw [List.getElem?_take,if_pos (by omega)] at h2
  simpa [hi'] using h2
end Go.Proofs.YtlfhealneccdkaaGreatDoor
