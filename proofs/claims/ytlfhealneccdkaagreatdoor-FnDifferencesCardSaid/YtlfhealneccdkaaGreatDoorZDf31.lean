/- Texts, laid into one. -/
import Derived.Test.YtlfhealneccdkaaGreatDoorZDf25
import Derived.Test.YtlfhealneccdkaaGreatDoorZDf28
import Derived.Test.YtlfhealneccdkaaGreatDoorZDf22
import Derived.Deep.CutBlock
set_option linter.unusedVariables false
set_option linter.unusedSimpArgs false
set_option maxRecDepth 100000
set_option maxHeartbeats 16000000
namespace Go.Proofs.YtlfhealneccdkaaGreatDoor
open Go.RowKit Go.Sort
abbrev bentS (t:VT) (w:World) (b:Nat):Prop:=blks t.vals b∨w.heap.size+2≤b
abbrev bentB (t:VT) (p:Nat) (b:Nat):Prop:=b=p∨blks t.vals b
structure BI (t:VT) (wb w W:World) (p:Nat) (A:Option Addr) (l:List UInt8) (c:Nat):Prop where
 own:OwnT wb W t
 far:Far t.vals
 old:∀ b,blks t.vals b→b<w.heap.size∧b≠p
 box3:Box W w.heap.size #[.int .i64 t.num,t.vb,t.vi] 29
 box4:Box W (w.heap.size+1) val0 29
 wrote:WroteB (bentB t p) w W
 cur:Cur wb W p A l c
 hp:p<w.heap.size
 hw:wb.heap.size≤w.heap.size
 sz:szV t.val≤1000000
structure BS (t:VT) (wb w W:World) (p:Nat) (A:Option Addr) (l:List UInt8) (c:Nat) (v:DVal) (vb vi:Value):Prop where
 old:∀ b,blks t.vals b→b<w.heap.size∧b≠p
 box3:Box W w.heap.size #[.int .i64 v.num,vb,vi] 29
 box4:Box W (w.heap.size+1) val0 29
 keep:KeepS (bentS t w) W v vb vi
 wrote:WroteB (bentB t p) w W
 cur:Cur wb W p A l c
 hp:p<w.heap.size
 hw:wb.heap.size≤w.heap.size
 sz:szV v≤szV t.val+1
section
variable {t:VT} {wb w W W':World} {p:Nat} {A:Option Addr} {l:List UInt8} {c:Nat}
theorem BI.moved (h:BI t wb w W p A l c) (hC:Cur wb W' p A l c) (hg:W.grownBy W' (some p)):BI t wb w W' p A l c:=by
 have hp:=h.hp
 exact ⟨h.own.keep hg (fun u hu b hb hh=>by injection hh with hh;exact (h.old b ⟨u,hu,hb⟩).2 hh.symm),h.far,h.old,h.box3.moved hg (by intro hh;injection hh with hh;omega),h.box4.moved hg (by intro hh;injection hh with hh;omega),
  h.wrote.trans (WroteB.grown hg (fun b hb=>by injection hb with hb;exact .inl hb.symm)),hC,h.hp,h.hw,h.sz⟩
theorem BI.ext (h:BI t wb w W p A l c) (e:Ext W W'):BI t wb w W' p A l c:=h.moved (h.cur.ext e) (grown_ext e _)
theorem BI.asis (h:BI t wb w W p A l c):BS t wb w W p A l c t.val t.vb t.vi :=
 ⟨h.old,by rw [VT.val_num];exact h.box3,h.box4,h.own.keepS (fun b hb=>.inl hb) (by have:=h.sz;omega),h.wrote,h.cur,h.hp,h.hw,by omega⟩
theorem VT.val_eq (t:VT):t.val=.mk t.num t.bs (valsOf t.its):=by cases t;rw [VT.val];rfl
theorem BI.asis' (h:BI t wb w W p A l c):BS t wb w W p A l c (.mk t.num t.bs (valsOf t.its)) t.vb t.vi:=by
 have h1:=h.asis;have h2:=VT.val_eq t;obtain ⟨a1,a2,a3,a4,a5,a6,a7,a8,a9⟩:=h1;rw [h2] at a2 a4;exact ⟨a1,a2,a3,a4,a5,a6,a7,a8,by rw [← h2];exact a9⟩
theorem WroteB.new {B:Nat→Prop} {w w1 w2:World} {row:Option Nat} (h:WroteB B w w1) (hg:w1.grownBy w2 row) (hr:∀ k,row=some k→B k∨w.heap.size≤k):WroteB B w w2 :=
 ⟨hg.os.trans h.os,hg.tape.trans h.tape,hg.output.trans h.output,Nat.le_trans h.size hg.size,fun i hi hb=>(hg.block i (Nat.lt_of_lt_of_le hi h.size) (fun e=>by
  rcases hr i e.symm with h1 | h1
  ·exact hb h1
  ·omega)).trans (h.block i hi hb)⟩
theorem BI.stored (h:BI t wb w W p A l c) {W2:World} {row:Option Nat} (hg:W.grownBy W2 row) (hr:∀ k,row=some k→bentB t p k∨w.heap.size+2≤k) (hr2:∀ k,row=some k→k≠p) (hE:Ext wb W2) (t':VT) (ho:OwnT wb W2 t') (hS:∀ b,blks t'.vals b→bentS t w b) (hz:szV t'.val≤szV t.val+1)
 (k:Nat) (u:Value) (hq:(#[.int .i64 t.num,t.vb,t.vi]:Array Value).setIfInBounds k u=#[.int .i64 t'.num,t'.vb,t'.vi]) :
 (∃ x,W2.cell? ⟨w.heap.size,k,none⟩=x)∧BS t wb w (W2.setCell ⟨w.heap.size,k,none⟩ u) p A l c t'.val t'.vb t'.vi:=by
 have hp:=h.hp;have hbl:=h.box3.lt;have hw:=h.hw
 have hrow:∀ j,j<2→row≠some (w.heap.size+j):=fun j hj hh=>by
  rcases hr _ hh with h1 | h1
  ·rcases h1 with h1 | h1
   ·omega
   ·have:=(h.old _ h1).1;omega
  ·omega
 have hg2:=grown_set W2 ⟨w.heap.size,k,none⟩ u;have b3:=(h.box3.moved hg (hrow 0 (by omega))).set k u;rw [hq] at b3;have b4:=(h.box4.moved hg (hrow 1 (by omega))).other (g':=w.heap.size) (by omega) k u
 have ho2:=ho.keep hg2 (fun x hx b hb hh=>by
  injection hh with hh;simp at hh
  rcases hS b ⟨x,hx,hb⟩ with h1 | h1
  ·have:=(h.old b h1).1;omega
  ·omega)
 refine ⟨⟨_,rfl⟩,h.old,by rw [VT.val_num];exact b3,b4,ho2.keepS hS (by have:=h.sz;omega),(h.wrote.new hg (fun k hk=>?_)).new hg2 (fun k hk=>?_),(h.cur.kept hg (fun hh=>hr2 p hh rfl) hE).set (a:=⟨w.heap.size,k,none⟩) (by show w.heap.size≠p;omega) (by show wb.heap.size≤w.heap.size;exact hw) u,h.hp,h.hw,hz⟩
 ·rcases hr k hk with h1 | h1
  ·exact .inl h1
  ·right;omega
 ·injection hk with hk;right;show w.heap.size≤k;simp at hk;omega
theorem BI.num (h:BI t wb w W p A l c) (z:Int):BS t wb w (W.setCell ⟨w.heap.size,0,none⟩ (.int .i64 z)) p A l c (.mk z t.bs (valsOf t.its)) t.vb t.vi:=by
 have h1:=(h.stored (W2:=W) (row:=none) (World.grownBy.refl _ _) (fun k hk=>by cases hk) (fun k hk=>by cases hk) h.cur.2.1 (.mk z t.bs t.vb t.its t.vi) (.mk (t:=.mk z t.bs t.vb t.its t.vi) h.own.b h.own.i h.own.kids)
  (fun b ⟨u,hu,hb⟩=>.inl ⟨u,by rw [VT.vals_eq] at hu ⊢;exact hu,hb⟩) (by rw [szV_eq,szV_eq t.val,VT.val_bytes,VT.val_items,VT.val_bytes,VT.val_items];exact Nat.le_succ _) 0 (.int .i64 z) rfl).2
 rw [VT.val] at h1;exact h1
theorem BI.bytes (h:BI t wb w W p A l c) {W2:World} {v':Value} (x:UInt8) (ho:OwnL vu8 5 wb W2 v' (t.bs++[x])) (hE:Ext wb W2) (hv:v'.ownBlock=t.vb.ownBlock∨∃ n0,v'.ownBlock=some n0∧W.heap.size≤n0) (hg:W.grownBy W2 t.vb.ownBlock):BS t wb w (W2.setCell ⟨w.heap.size,1,none⟩ v') p A l c (.mk t.num (t.bs++[x]) (valsOf t.its)) v' t.vi:=by
 obtain ⟨f1,f2,f3,f4⟩:=far_vb h.far;have hbl:=h.box3.lt;have hb4:=h.box4.lt
 have h1:=(h.stored (W2:=W2) hg (fun k hk=>.inl (.inr ⟨_,vb_mem t,hk⟩)) (fun k hk=>(h.old k ⟨_,vb_mem t,hk⟩).2) hE (.mk t.num (t.bs++[x]) v' t.its t.vi)
  (.mk (t:=.mk t.num (t.bs++[x]) v' t.its t.vi) ho (h.own.i.keep hg (fun g hgi hh=>f1 g hh hgi)) (fun q hq=>(h.own.kids q hq).keep hg (fun u hu g hgu hh=>f2 q hq u hu g hh hgu)))
  (fun b ⟨u,hu,hb⟩=>by
   rw [VT.vals_eq] at hu;rcases List.mem_cons.1 hu with hue | hu
   ·rw [hue] at hb;change v'.ownBlock=some b at hb
    rcases hv with hv | ⟨n0,hv,hn⟩
    ·exact .inl ⟨_,vb_mem t,hv.symm.trans hb⟩
    ·rw [hv] at hb;injection hb with hb;subst hb;right;omega
   ·exact .inl ⟨u,by rw [VT.vals_eq];exact List.mem_cons_of_mem _ hu,hb⟩)
  (by rw [szV_eq,szV_eq t.val,VT.val_bytes,VT.val_items,VT.val_bytes,VT.val_items];show (t.bs++[x]).length+_≤_;rw [List.length_append,List.length_singleton];show _+szVs (valsOf t.its)≤_;omega) 1 v' rfl).2
 rw [VT.val] at h1;exact h1
theorem BI.items (h:BI t wb w W p A l c) {W2:World} {v':Value} (ho:Own 29 3 wb W2 v' (t.its.length+1) (t.its.flatMap VT.cells++[.int .i64 0,.slice none 0 0,.slice none 0 0])) (hE:Ext wb W2) (hv:v'.ownBlock=t.vi.ownBlock∨∃ n0,v'.ownBlock=some n0∧W.heap.size≤n0) (hg:W.grownBy W2 t.vi.ownBlock) :
 BS t wb w (W2.setCell ⟨w.heap.size,2,none⟩ v') p A l c (.mk t.num t.bs (valsOf t.its++[.mk 0 [] []])) t.vb v':=by
 obtain ⟨f1,f2,f3,f4⟩:=far_vb h.far;have hbl:=h.box3.lt;have hb4:=h.box4.lt;have hvl:valsOf (t.its++[.mk 0 [] (.slice none 0 0) [] (.slice none 0 0)])=valsOf t.its++[.mk 0 [] []]:=by rw [valsOf_append,valsOf,valsOf,VT.val,valsOf]
 have hso:szV (VT.val (.mk t.num t.bs t.vb (t.its++[.mk 0 [] (.slice none 0 0) [] (.slice none 0 0)]) v'))≤szV t.val+1:=by
  rw [szV_eq,szV_eq t.val,VT.val_bytes,VT.val_items,VT.val_bytes,VT.val_items];show _+szVs (valsOf (t.its++_))≤_
  rw [hvl,szVs_sum,szVs_sum,List.map_append,List.sum_append,List.length_append];simp [szV_eq,DVal.bytes,DVal.items,szVs]
  show t.bs.length+_≤_;omega
 have h1:=(h.stored (W2:=W2) hg (fun k hk=>.inl (.inr ⟨_,vi_mem t,hk⟩)) (fun k hk=>(h.old k ⟨_,vi_mem t,hk⟩).2) hE (.mk t.num t.bs t.vb (t.its++[.mk 0 [] (.slice none 0 0) [] (.slice none 0 0)]) v')
  (.mk (t:=.mk t.num t.bs t.vb (t.its++[.mk 0 [] (.slice none 0 0) [] (.slice none 0 0)]) v') (h.own.b.keep hg (fun g hgi hh=>f1 g hgi hh))
   (by show Own _ 3 wb W2 v' (t.its++[_]).length ((t.its++[_]).flatMap VT.cells);rw [List.length_append,List.flatMap_append,List.flatMap_cons,List.flatMap_nil,List.append_nil];exact ho)
   (fun q hq=>by
    rcases List.mem_append.1 (show q∈t.its++_ from hq) with hq | hq
    ·exact (h.own.kids q hq).keep hg (fun u hu g hgu hh=>f3 q hq u hu g hh hgu)
    ·rw [List.mem_singleton.1 hq]
     exact .mk (OwnL.nil _ _) ⟨rfl,.inl ⟨rfl,rfl⟩⟩ (fun x hx=>by cases hx)))
  (fun b ⟨u,hu,hb⟩=>by
   rw [VT.vals_eq] at hu;rcases List.mem_cons.1 hu with rfl | hu
   ·exact .inl ⟨_,vb_mem t,hb⟩
   rcases List.mem_cons.1 hu with hue | hu
   ·rw [hue] at hb;change v'.ownBlock=some b at hb
    rcases hv with hv | ⟨n0,hv,hn⟩
    ·exact .inl ⟨_,vi_mem t,hv.symm.trans hb⟩
    ·rw [hv] at hb;injection hb with hb;subst hb;right;omega
   ·obtain ⟨z,hz,hz2⟩:=List.mem_flatMap.1 hu
    rcases List.mem_append.1 (show z∈t.its++_ from hz) with hz | hz
    ·exact .inl ⟨u,mem_vals hz hz2,hb⟩
    ·rw [List.mem_singleton.1 hz,VT.vals_eq] at hz2
     simp [VT.vb,VT.vi,VT.its] at hz2
     rw [hz2] at hb;cases hb)
  hso 2 v' rfl).2
 rw [VT.val,hvl] at h1;exact h1
theorem BI.tail (h:BI t wb w W p A l c) {g cap:Nat} {x:VT} {rest:List VT} (hits:t.its=x::rest) (hvi:t.vi=.slice (some ⟨g,0,none⟩) t.its.length cap) {Ar:Option Addr} {cr:Nat} (hr:(cap=1∧Ar=some ⟨g,0,none⟩∧cr=0)∨(¬ cap=1∧Ar=some ⟨g,3,none⟩∧cr=cap-1)) :
 BS t wb w (W.setCell ⟨w.heap.size,2,none⟩ (.slice Ar rest.length cr)) p A l c (.mk t.num t.bs (valsOf rest)) t.vb (.slice Ar rest.length cr):=by
 have hg:=grown_set W ⟨w.heap.size,2,none⟩ (.slice Ar rest.length cr);have hp:=h.hp;have hw:=h.hw;have hz:=h.sz;have ho:=h.own.keep hg (fun u hu b hb hh=>by injection hh with hh;have:=(h.old b ⟨u,hu,hb⟩).1;simp at hh;omega);obtain ⟨Ab,cb,Ai,ci,h1,h2,h3⟩:=ho.keepS (S:=bentS t w) (fun b hb=>.inl hb) (by omega);rw [hvi] at h2;injection h2 with h2 h4 h5
 subst h2;subst h5;rw [VT.val_bytes] at h1;have hlr:(valsOf rest).length=rest.length:=valsOf_len rest
 refine ⟨h.old,h.box3.set 2 _,h.box4.other (by omega) _ _,⟨Ab,cb,Ar,cr,h1,by rw [← hlr];rfl,fun w' hs=>?_⟩,h.wrote.new hg (fun k hk=>by injection hk with hk;right;simp at hk;omega),h.cur.set (a:=⟨w.heap.size,2,none⟩) (by show w.heap.size≠p;omega) (by show wb.heap.size≤w.heap.size;exact hw) _,h.hp,h.hw,?_⟩
 ·have h6:=h3 w' hs
  have hb:=h6.b;have hi:=h6.i;rw [VT.val_bytes] at hb;rw [VT.val_items,hits,valsOf] at hi;refine ⟨hb,?_⟩;show RdVs w' Ar (valsOf rest) cr
  have hcap:=hi.cap;simp only [List.length_cons] at hcap;rcases hr with ⟨e1,e2,e3⟩ | ⟨e1,e2,e3⟩
  ·subst e1;subst e2;subst e3
   have:valsOf rest=[]:=List.eq_nil_of_length_eq_zero (by omega)
   rw [this];exact .of (by simp) (by simp) g 0 (fun hp=>by simp at hp) (fun i hi=>by simp at hi)
  ·subst e2;subst e3
   have:=hi.tail
   simpa using this
 ·have e1:szV t.val=t.bs.length+(1+szV x.val+szVs (valsOf rest)):=by rw [szV_eq,VT.val_bytes,VT.val_items,hits,valsOf,szVs_cons]
  have e2:szV (DVal.mk t.num t.bs (valsOf rest))=t.bs.length+szVs (valsOf rest):=by rw [szV_eq];rfl
  omega
theorem BI.put (h:BI t wb w W p A l c) {k g cap:Nat} (hk:k<t.its.length) (hvi:t.vi=.slice (some ⟨g,0,none⟩) t.its.length cap) {W5:World} {y:DVal} {yb yi:Value} (hy:KeepS (bentS t.its[k] W) W5 y yb yi) (hw5:WroteB (bentB t.its[k] p) W W5) (hC:Cur wb W5 p A l c) (hz:szV y≤szV t.its[k].val+1) :
 BS t wb w (put3 W5 g (k*3) (VT.withS y yb yi)) p A l c (t.val.setItem k y) t.vb t.vi:=by
 have hg:=grown_put3 W5 g (k*3) (VT.withS y yb yi);have hp:=h.hp;have hw:=h.hw;have hsz:=h.sz;obtain ⟨f1,f2,f3,f4⟩:=far_vb h.far;have hgb:t.vi.ownBlock=some g:=by rw [hvi];rfl
 have hgo:=h.old g ⟨_,vi_mem t,hgb⟩;have hkm:=List.getElem_mem hk;have hsub:∀ b,blks t.its[k].vals b→blks t.vals b:=fun b ⟨u,hu,hb⟩=>⟨u,mem_vals hkm hu,hb⟩
 have hWs:=h.wrote.size;have hb3:=h.box3.lt;have hb4:=h.box4.lt;have hgk:¬ blks t.its[k].vals g:=fun ⟨u,hu,hb⟩=>f3 _ hkm u hu g hgb hb
 have nB:∀ b,w.heap.size≤b→¬ bentB t.its[k] p b:=fun b hb hh=>by
  rcases hh with h1 | h1
  ·omega
  ·have:=(h.old b (hsub b h1)).1;omega
 have b3:Box W5 w.heap.size #[.int .i64 t.num,t.vb,t.vi] 29:=(hw5.block _ hb3 (nB _ (Nat.le_refl _))).trans h.box3
 have b4:Box W5 (w.heap.size+1) val0 29:=(hw5.block _ hb4 (nB _ (by omega))).trans h.box4
 have hbk:∀ b,t.vb.ownBlock=some b→¬ bentB t.its[k] p b:=fun b hb hh=>by
  rcases hh with h1 | ⟨u,hu,h1⟩
  ·exact (h.old b ⟨_,vb_mem t,hb⟩).2 h1
  ·exact f2 _ hkm u hu b hb h1
 have hgn:¬ bentB t.its[k] p g:=fun hh=>by
  rcases hh with h1 | h1
  ·exact hgo.2 h1
  ·exact hgk h1
 have hval:t.val.items[k]'(by rw [VT.val_items,valsOf_len];exact hk)=t.its[k].val:=by
  have:t.val.items[k]'(by rw [VT.val_items,valsOf_len];exact hk)=(valsOf t.its)[k]'(by rw [valsOf_len];exact hk):=by congr 1;exact VT.val_items t
  rw [this,valsOf_get]
 refine ⟨h.old,?_,b4.moved hg (by intro hh;injection hh with hh;omega),?_,(h.wrote.trans (hw5.mono (fun b hb=>?_))).new hg (fun b hb=>?_),hC.kept hg (by intro hh;injection hh with hh;exact hgo.2 hh) (hC.2.1.grown hg (fun b hb=>?_)),h.hp,h.hw,?_⟩
 ·have hn:(t.val.setItem k y).num=t.num:=by show t.val.num=_;exact VT.val_num t
  rw [hn];exact b3.moved hg (by intro hh;injection hh with hh;omega)
 ·refine keepS_put (Sk:=bentS t.its[k] W) hk hvi (OwnL.wroteB h.own.b hw5 hbk) (Own.wroteB h.own.i hw5 (fun b hb hh=>by rw [hgb] at hb;injection hb with hb;subst hb;exact hgn hh)) hC.2.1 (fun i hi hne=>(h.own.kids _ (List.getElem_mem hi)).wroteB hw5 (fun u hu b hb hh=>?_)) hy (fun b hb hh=>?_) (fun i hi hne b ⟨u,hu,hb⟩ hh=>?_) (fun hh=>?_) (fun b hb=>.inl hb) (fun b hb=>?_) (by omega)
  ·rcases hh with h1 | ⟨u2,hu2,h1⟩
   ·exact (h.old b ⟨u,mem_vals (List.getElem_mem hi) hu,hb⟩).2 h1
   ·exact far_flat f4 hi hk hne u hu u2 hu2 b hb h1
  ·subst hh;exact f1 b hb hgb
  ·subst hh;exact f3 _ (List.getElem_mem hi) u hu b hgb hb
  ·rcases hh with h1 | h1
   ·exact hgk h1
   ·omega
  ·rcases hb with h1 | h1
   ·exact .inl (hsub b h1)
   ·right;omega
 ·rcases hb with h1 | h1
  ·exact .inl h1
  ·exact .inr (hsub b h1)
 ·injection hb with hb;subst hb;exact .inl (.inr ⟨_,vi_mem t,hgb⟩)
 ·injection hb with hb;subst hb
  exact (h.own.block _ (vi_mem t) g hgb).1
 ·have hkk:k<t.val.items.length:=by rw [VT.val_items,valsOf_len];exact hk
  have h6:=sz_setItem (v:=t.val) (z:=y) hkk;rw [hval] at h6
  omega
theorem BS.out {v:DVal} {vb vi:Value} (h:BS t wb w W p A l c v vb vi):KeepS (bentS t w) (put3 W (w.heap.size+1) 0 (.mk v.num [] vb [] vi)) v vb vi∧WroteB (bentB t p) w (put3 W (w.heap.size+1) 0 (.mk v.num [] vb [] vi))∧Cur wb (put3 W (w.heap.size+1) 0 (.mk v.num [] vb [] vi)) p A l c:=by
 have hg:=grown_put3 W (w.heap.size+1) 0 (.mk v.num [] vb [] vi);have hp:=h.hp;have hw:=h.hw;refine ⟨?_,h.wrote.new hg (fun k hk=>by injection hk with hk;right;omega),h.cur.kept hg (by intro hh;injection hh with hh;omega) (h.cur.2.1.grown hg (fun k hk=>by injection hk with hk;omega))⟩;refine h.keep.same (SameS.grown hg (fun k hk=>?_));injection hk with hk
 left
 rintro (h1 | h1)
 ·have:=(h.old k h1).1;omega
 ·omega
end
def BentOut (t:VT) (wb w:World) (p:Nat) (A:Option Addr) (l:List UInt8) (c:Nat) (e:Ending) (w':World):Prop:=∃ (v:DVal) (A1:Option Addr) (n1 c1:Nat) (A2:Option Addr) (n2 c2:Nat),e=.returned (.agg #[.int .i64 v.num,.slice A1 n1 c1,.slice A2 n2 c2])∧KeepS (bentS t w) w' v (.slice A1 n1 c1) (.slice A2 n2 c2)∧WroteB (bentB t p) w w'∧Cur wb w' p A l c∧szV v≤szV t.val+1
def BentOk (t:VT):Prop:=∀ (wb w:World) (p:Nat) (A:Option Addr) (l:List UInt8) (c:Nat) (A1:Option Addr) (c1:Nat) (A2:Option Addr) (c2:Nat),Bs wb A l c→Cur wb w p A l c→OwnT wb w t→Far t.vals→(∀ b,blks t.vals b→b≠p)→szV t.val≤1000000→t.vb=.slice A1 t.bs.length c1→t.vi=.slice A2 t.its.length c2 →
 Calls Tryz.prog 59 #[.pointer (some ⟨p,0,none⟩),.agg #[.int .i64 t.num,.slice A1 t.bs.length c1,.slice A2 t.its.length c2]] w (BentOut t wb w p A l c)
theorem OwnT.itemCells {w0 w:World} {t:VT} {g cap:Nat} (h:OwnT w0 w t) (hvi:t.vi=.slice (some ⟨g,0,none⟩) t.its.length cap) (k:Nat) (hk:k<t.its.length):∀ w',Ext w w'→∀ j,j<3→w'.cell? ⟨g,k*3+j,none⟩=t.its[k].cells[j]?:=by
 intro w' e j hj;rcases h.i.2 with ⟨_,h0⟩ | ⟨g',cap',cur,hv,hb,hg,hnc,hcm,hcs,htake⟩
 ·omega
 ·rw [hvi] at hv
  injection hv with hv;injection hv with hv;injection hv with hv _ _;subst hv
  rw [heap_row hg e,← vcells_get t.its k j hk hj,← htake,List.getElem?_take,if_pos (by omega)];simp
theorem bent_of (t:VT) (H:∀ x∈t.its,BentOk x):BentOk t:=by
 intro wb w p A l c A1 c1 A2 c2 hA hC hown hfar hne hz h1 h2;have hpl:=hC.lt;have hbw:=hC.2.1.size;obtain ⟨W0,HW0,B3,B4,eA,hsA⟩:=boxes2' w #[.int .i64 t.num,.slice A1 t.bs.length c1,.slice A2 t.its.length c2] #[.int .i64 0,.slice none 0 0,.slice none 0 0] 29 29;have hI:BI t wb w W0 p A l c:=⟨hown.ext eA,hfar,(fun b ⟨u,hu,hb⟩=>⟨(hown.block u hu b hb).2,hne b ⟨u,hu,hb⟩⟩),by rw [h1,h2];exact B3,B4,WroteB.ext eA,hC.ext eA,hpl,hbw,hz⟩
 have HI:=lhd hI;have CB:=lhd (fun n w h1 hn=>l1Below_c n wb w p A l c hA h1 hn);have CL:=lhd (fun ns h1 h2 n h3 cs h4 w h5=>l1IntLit_c ns h1 h2 n h3 cs h4 wb w p A l c hA h5);have HH:=lhd H;have hbl:=bytes_le t.val;rw [VT.val_bytes] at hbl;have hil:=items_le t.val;rw [VT.val_items,valsOf_len] at hil;have hbl':t.bs.length≤1000000:=by omega
 have hil':t.its.length≤1000000:=by omega
 have HV1:=lhd h1;have HV2:=lhd h2;have HA:=lhd hA;clear hown hfar hne hz h1 h2 B3 B4 hI hC H hbl hil hsA hA;go_enter Tryz.func59,Tryz.ntmps59;go_wp2_with fail;rw [← HW0.out];refine (CB.out 5 _ HI.out.cur (by omega)).mono ?_;rintro _ w1 ⟨x,hx,rfl,hC1,hg1⟩;have HI1:=lhd (HI.out.moved hC1 hg1);have hx5:x<5:=by unfold below at hx;rw [if_neg (by omega)] at hx;omega
 clear hC1 hg1 hx HI HW0 eA;rcases (by omega:x=0∨x=1∨x=2∨x=3∨x=4) with rfl | rfl | rfl | rfl | rfl
 case inl =>
  have CL1:=lhd (CL.out [-1,1,256,4294967296] (by simp) (by simp) 4 rfl _ rfl w1 HI1.out.cur);go_wp2_with fail;refine CL1.out.mono ?_;rintro _ w2 ⟨z,_,rfl,hC2,hg2⟩;have HI2:=lhd (HI1.out.moved hC2 hg2);have HB:=lhd (HI2.out.num z);rw [HV1.out,HV2.out] at HB;have y0:=HI2.out.box3.cell 0;have y1:=HI2.out.box3.cell 1;have y2:=HI2.out.box3.cell 2;have f0:=HI2.out.box3.free 0;have f1:=HI2.out.box3.free 1;have f2:=HI2.out.box3.free 2;have r2:=HI2.out.box4.cell;have t2:=HI2.out.box4.free;unfold val0 at r2;rw [HV1.out] at y1;rw [HV2.out] at y2;clear hC2 hg2 CL1 HI1;have HO:=lhd HB.out.out;have HZ:=lhd HB.out.sz;go_wp2;exact bodyPost_ret (v:=.agg #[.int .i64 (DVal.mk z t.bs (valsOf t.its)).num,.slice A1 t.bs.length c1,.slice A2 t.its.length c2]) (by simp [results,Tryz.results59,go_sem,r2,t2,DVal.num]) rfl ⟨DVal.mk z t.bs (valsOf t.its),_,_,_,_,_,_,rfl,HO.out.1,HO.out.2.1,HO.out.2.2,HZ.out⟩
 case inr.inl =>
  have y0:=HI1.out.box3.cell 0;have y1:=HI1.out.box3.cell 1;have y2:=HI1.out.box3.cell 2;have f0:=HI1.out.box3.free 0;have f1:=HI1.out.box3.free 1;have f2:=HI1.out.box3.free 2;have r2:=HI1.out.box4.cell;have t2:=HI1.out.box4.free;unfold val0 at r2;rw [HV1.out] at y1;rw [HV2.out] at y2;have HI1':=lhd (HI1.out.ext (Ext_alloc (.cells #[.int .u8 1] 5) (Ext.refl w1)));have HO1:=lhd HI1'.out.own.b;rw [HV1.out] at HO1
  have HFIN:Hid (∀ v2 w2,OwnL vu8 5 wb w2 v2 (t.bs++[1])→Ext wb w2→(v2.ownBlock=(Value.slice A1 t.bs.length c1).ownBlock∨v2.ownBlock=some (w1.alloc (.cells #[.int .u8 1] 5)).heap.size)→(w1.alloc (.cells #[.int .u8 1] 5)).grownBy w2 (Value.slice A1 t.bs.length c1).ownBlock→(∃ A5 c5,v2=.slice A5 (t.bs.length+1) c5)∧BS t wb w (w2.setCell ⟨w.heap.size,1,none⟩ v2) p A l c (.mk t.num (t.bs++[1]) (valsOf t.its)) v2 (.slice A2 t.its.length c2)∧Box w2 w.heap.size #[.int .i64 t.num,.slice A1 t.bs.length c1,.slice A2 t.its.length c2] 29∧Box w2 (w.heap.size+1) val0 29):=by
   intro v2 w2 ho2 he2 hv2 hg2;obtain ⟨A5,c5,hv5,_⟩:=OwnL.rd ho2 (by simp;omega);have HB:=HI1'.out.bytes (W2:=w2) (v':=v2) 1 ho2 he2 (hv2.imp (fun h=>by rw [HV1.out];exact h) (fun h=>⟨_,h,Nat.le_refl _⟩)) (by rw [HV1.out];exact hg2);have hbx:=HI1'.out.box3.moved hg2 (by intro hh;have h3:=(HI1'.out.old _ ⟨_,vb_mem t,by rw [HV1.out];exact hh⟩).1;omega);have hbx4:=HI1'.out.box4.moved hg2 (by intro hh;have h3:=(HI1'.out.old _ ⟨_,vb_mem t,by rw [HV1.out];exact hh⟩).1;omega);rw [HV2.out] at HB;rw [HV1.out,HV2.out] at hbx;exact ⟨⟨A5,c5,by rw [hv5,List.length_append];rfl⟩,HB,hbx,hbx4⟩
  go_wp2_with (at_builtin;refine wpList_appL rfl (.tmp 25) (.tmp 26) _ rfl E_u8 (by omega) wb _ vu8 (fun _=>rfl) (.slice A1 t.bs.length c1) rfl (some ⟨w1.heap.size,0,none⟩) 1 1 rfl t.bs [1] HO1.out HI1'.out.cur.2.1 rfl (fun _=>⟨_,rfl,fun j u hu=>(World.cell?_alloc_at' w1 [.int .u8 1] 5 j).trans hu⟩) (by simp;omega) ?_;intro v2 w2 ho2 he2 hv2 hg2;obtain ⟨⟨A5,c5,rfl⟩,hB,hbx,hbx4⟩:=HFIN.out v2 w2 ho2 he2 hv2 hg2;have HB:=lhd hB;clear y0 y1 y2 f0 f1 f2 r2 t2 ho2 he2 hv2 hg2 hB;have y0:=hbx.cell 0;have y1:=hbx.cell 1;have y2:=hbx.cell 2;have f0:=hbx.free 0;have f1:=hbx.free 1;have f2:=hbx.free 2;have r2:=hbx4.cell;have t2:=hbx4.free;unfold val0 at r2;clear hbx hbx4)
  have HO:=lhd HB.out.out;have HZ:=lhd HB.out.sz
  skip
  exact bodyPost_ret (v:=.agg #[.int .i64 (DVal.mk t.num (t.bs++[1]) (valsOf t.its)).num,.slice A5 (t.bs.length+1) c5,.slice A2 t.its.length c2]) (by simp [results,Tryz.results59,go_sem,r2,t2,DVal.num]) rfl ⟨DVal.mk t.num (t.bs++[1]) (valsOf t.its),_,_,_,_,_,_,rfl,HO.out.1,HO.out.2.1,HO.out.2.2,HZ.out⟩
 case inr.inr.inl =>
  have y0:=HI1.out.box3.cell 0;have y1:=HI1.out.box3.cell 1;have y2:=HI1.out.box3.cell 2;have f0:=HI1.out.box3.free 0;have f1:=HI1.out.box3.free 1;have f2:=HI1.out.box3.free 2;have r2:=HI1.out.box4.cell;have t2:=HI1.out.box4.free;unfold val0 at r2;rw [HV1.out] at y1;rw [HV2.out] at y2;have HI1':=lhd (HI1.out.ext (Ext_alloc (.cells #[.int .i64 0,.slice none 0 0,.slice none 0 0] 29) (Ext.refl w1)));have HO1:=lhd HI1.out.own.i;rw [HV2.out] at HO1
  have HFIN:Hid (∀ v2 w2,Own 29 3 wb w2 v2 (t.its.length+1) (t.its.flatMap VT.cells++[.int .i64 0,.slice none 0 0,.slice none 0 0])→Ext wb w2→(v2.ownBlock=(Value.slice A2 t.its.length c2).ownBlock∨v2.ownBlock=some (w1.alloc (.cells #[.int .i64 0,.slice none 0 0,.slice none 0 0] 29)).heap.size)→(w1.alloc (.cells #[.int .i64 0,.slice none 0 0,.slice none 0 0] 29)).grownBy w2 (Value.slice A2 t.its.length c2).ownBlock→(∃ A5 c5,v2=.slice A5 (t.its.length+1) c5)∧BS t wb w (w2.setCell ⟨w.heap.size,2,none⟩ v2) p A l c (.mk t.num t.bs (valsOf t.its++[.mk 0 [] []])) (.slice A1 t.bs.length c1) v2∧Box w2 w.heap.size #[.int .i64 t.num,.slice A1 t.bs.length c1,.slice A2 t.its.length c2] 29∧Box w2 (w.heap.size+1) val0 29):=by
   intro v2 w2 ho2 he2 hv2 hg2;have HB:=HI1'.out.items (W2:=w2) (v':=v2) ho2 he2 (hv2.imp (fun h=>by rw [HV2.out];exact h) (fun h=>⟨_,h,Nat.le_refl _⟩)) (by rw [HV2.out];exact hg2);have hbx:=HI1'.out.box3.moved hg2 (by intro hh;have h3:=(HI1'.out.old _ ⟨_,vi_mem t,by rw [HV2.out];exact hh⟩).1;omega);have hbx4:=HI1'.out.box4.moved hg2 (by intro hh;have h3:=(HI1'.out.old _ ⟨_,vi_mem t,by rw [HV2.out];exact hh⟩).1;omega);rw [HV1.out] at HB;rw [HV1.out,HV2.out] at hbx;exact ⟨Own.shape ho2,HB,hbx,hbx4⟩
  have HONE:Hid (∀ u∈[Value.int .i64 0,.slice none 0 0,.slice none 0 0],u.oneCell'=true):=lhd (by simp [Value.oneCell'])
  go_wp2_with ((at_builtin;refine wpList_appE rfl (.tmp 32) (.tmp 34) _ rfl E_val wb w1 (.slice A2 t.its.length c2) t.its.length (t.its.flatMap VT.cells) rfl HO1.out HI1.out.cur.2.1 [.int .i64 0,.slice none 0 0,.slice none 0 0] #[.int .i64 0,.slice none 0 0,.slice none 0 0] rfl 1 1 w1.heap.size rfl rfl rfl HONE.out (by simp only [maxLen];omega) (by omega) ?_;intro v2 w2 ho2 he2 hv2 hg2;obtain ⟨⟨A5,c5,rfl⟩,hB,hbx,hbx4⟩:=HFIN.out v2 w2 ho2 he2 hv2 hg2;have HB:=lhd hB;clear y0 y1 y2 f0 f1 f2 r2 t2 ho2 he2 hv2 hg2 hB;have y0:=hbx.cell 0;have y1:=hbx.cell 1;have y2:=hbx.cell 2;have f0:=hbx.free 0;have f1:=hbx.free 1;have f2:=hbx.free 2;have r2:=hbx4.cell;have t2:=hbx4.free;unfold val0 at r2;clear hbx hbx4))
  have HO:=lhd HB.out.out;have HZ:=lhd HB.out.sz
  skip
  exact bodyPost_ret (v:=.agg #[.int .i64 (DVal.mk t.num t.bs (valsOf t.its++[DVal.mk 0 [] []])).num,.slice A1 t.bs.length c1,.slice A5 (t.its.length+1) c5]) (by simp [results,Tryz.results59,go_sem,r2,t2,DVal.num]) rfl ⟨DVal.mk t.num t.bs (valsOf t.its++[DVal.mk 0 [] []]),_,_,_,_,_,_,rfl,HO.out.1,HO.out.2.1,HO.out.2.2,HZ.out⟩
 case inr.inr.inr.inl =>
  rcases hits:t.its with _ | ⟨x0,rest⟩
  ·have hlen:t.its.length=0:=by rw [hits];rfl
   have HB:=lhd HI1.out.asis';rw [HV1.out,HV2.out] at HB;have y0:=HI1.out.box3.cell 0;have y1:=HI1.out.box3.cell 1;have y2:=HI1.out.box3.cell 2;have f0:=HI1.out.box3.free 0;have f1:=HI1.out.box3.free 1;have f2:=HI1.out.box3.free 2;have r2:=HI1.out.box4.cell;have t2:=HI1.out.box4.free;unfold val0 at r2;rw [HV1.out] at y1;rw [HV2.out] at y2;generalize t.its.length=m at *;subst hlen;have HO:=lhd HB.out.out;have HZ:=lhd HB.out.sz;go_wp2;exact bodyPost_ret (v:=.agg #[.int .i64 (DVal.mk t.num t.bs (valsOf t.its)).num,.slice A1 t.bs.length c1,.slice A2 0 c2]) (by simp [results,Tryz.results59,go_sem,r2,t2,DVal.num]) rfl ⟨DVal.mk t.num t.bs (valsOf t.its),_,_,_,_,_,_,rfl,HO.out.1,HO.out.2.1,HO.out.2.2,HZ.out⟩
  ·have hlen0:0<t.its.length:=by rw [hits];simp
   have hleni:(0:Int)<(t.its.length:Int):=by omega
   obtain ⟨g,hA2,hcl⟩:∃ g,A2=some ⟨g,0,none⟩∧t.its.length≤c2:=by
    have hi6:=HI1.out.own.i;rcases hi6.2 with ⟨_,h0⟩ | ⟨g,cap,cur,hv6,hb,hg,hnc,_⟩
    ·omega
    ·rw [HV2.out] at hv6;injection hv6 with e1 _ e2;exact ⟨g,e1,by omega⟩
   subst hA2;have y0:=HI1.out.box3.cell 0;have y1:=HI1.out.box3.cell 1;have y2:=HI1.out.box3.cell 2;have f0:=HI1.out.box3.free 0;have f1:=HI1.out.box3.free 1;have f2:=HI1.out.box3.free 2;have r2:=HI1.out.box4.cell;have t2:=HI1.out.box4.free;unfold val0 at r2;rw [HV1.out] at y1;rw [HV2.out] at y2;clear hits;go_wp2_with fail;refine (CB.out (t.its.length:Int) _ HI1.out.cur (by omega)).mono ?_;rintro _ w2 ⟨k,hk,rfl,hC2,hg2⟩;have hkl:k<t.its.length:=by unfold below at hk;rw [if_neg (by omega)] at hk;omega
   have hki:(k:Int)<(t.its.length:Int):=by omega
   have HI2:=lhd ((HI1.out.moved hC2 hg2).ext (Ext_drew (Ext.refl w2)));obtain ⟨⟨A3,c3,e3⟩,⟨A4,c4,e4⟩⟩:(∃ A c,t.its[k].vb=.slice A t.its[k].bs.length c)∧(∃ A c,t.its[k].vi=.slice A t.its[k].its.length c):=⟨Own.shape (HI2.out.own.kids _ (List.getElem_mem hkl)).b,Own.shape (HI2.out.own.kids _ (List.getElem_mem hkl)).i⟩;have HIC:=HI2.out.own.itemCells HV2.out k hkl;have i0:∀ w',Ext w2.drew w'→w'.cell? ⟨g,k*3,none⟩=some (.int .i64 t.its[k].num):=fun w' e=>by have:=HIC w' e 0 (by omega);simpa [VT.cells] using this
   have i1:∀ w',Ext w2.drew w'→w'.cell? ⟨g,k*3+1,none⟩=some (.slice A3 t.its[k].bs.length c3):=fun w' e=>by have:=HIC w' e 1 (by omega);simpa [VT.cells,e3] using this
   have i2:∀ w',Ext w2.drew w'→w'.cell? ⟨g,k*3+2,none⟩=some (.slice A4 t.its[k].its.length c4):=fun w' e=>by have:=HIC w' e 2 (by omega);simpa [VT.cells,e4] using this
   have hsk:szV t.its[k].val≤1000000:=by
    have h3:szV t.its[k].val<szV t.val:=szV_item (by rw [VT.val_items,valsOf_map];exact List.mem_map_of_mem (List.getElem_mem hkl))
    have:=HI2.out.sz;omega
   obtain ⟨_,_,_,ff4⟩:=far_vb HI2.out.far;have CK:=lhd (HH.out _ (List.getElem_mem hkl) wb w2.drew p A l c A3 c3 A4 c4 HA.out HI2.out.cur (HI2.out.own.kids _ (List.getElem_mem hkl)) (far_each ff4 _ (List.getElem_mem hkl)) (fun b ⟨u,hu,hb⟩=>(HI2.out.old b ⟨u,mem_vals (List.getElem_mem hkl) hu,hb⟩).2) hsk e3 e4)
   have HBP:Hid (∀ W5 (y:DVal) (yb yi:Value),KeepS (bentS t.its[k] w2.drew) W5 y yb yi→WroteB (bentB t.its[k] p) w2.drew W5→Cur wb W5 p A l c→szV y≤szV t.its[k].val+1→BS t wb w (put3 W5 g (k*3) (VT.withS y yb yi)) p A l c (t.val.setItem k y) (.slice A1 t.bs.length c1) (.slice (some ⟨g,0,none⟩) t.its.length c2)∧Box W5 w.heap.size #[.int .i64 t.num,.slice A1 t.bs.length c1,.slice (some ⟨g,0,none⟩) t.its.length c2] 29∧(∀ j,j<3→(∃ u,W5.cell? ⟨g,k*3+j,none⟩=some u)∧W5.frozen? ⟨g,k*3+j,none⟩=false)):=by
    intro W5 y yb yi h5 h6 h7 h8;have q1:=HI2.out.put hkl HV2.out h5 h6 h7 h8;rw [HV1.out,HV2.out] at q1;refine ⟨q1,?_,?_⟩
    ·have hb3:=HI2.out.box3
     rw [HV1.out,HV2.out] at hb3;refine (h6.block _ hb3.lt (fun hh=>?_)).trans hb3;rcases hh with h9 | ⟨u,hu,h9⟩
     ·have:=HI2.out.hp;omega
     ·have:=(HI2.out.old _ ⟨u,mem_vals (List.getElem_mem hkl) hu,h9⟩).1;omega
    ·intro j hj
     obtain ⟨_,_,f3,_⟩:=far_vb HI2.out.far
     have hi5:=Own.wroteB HI2.out.own.i h6 (fun b hb hh=>by
      rcases hh with h9 | ⟨u,hu,h9⟩
      ·exact (HI2.out.old b ⟨_,vi_mem t,hb⟩).2 h9
      ·exact f3 _ (List.getElem_mem hkl) u hu b hb h9)
     rw [HV2.out] at hi5;exact hi5.slot (k*3+j) (by rw [vcells_len];omega)
   clear HIC hk hC2 hg2 e3 e4 ff4 y0 y1 y2 f0 f1 f2 r2 t2 hsk;have b2:w2.drew.cell? ⟨w.heap.size,2,none⟩=some (Value.slice (some ⟨g,0,none⟩) t.its.length c2):=by have h:=HI2.out.box3.cell 2;rw [HV2.out] at h;exact h
   have HAB:lv2 (fun w'=>w'.cell? ⟨w.heap.size,2,none⟩=some (Value.slice (some ⟨g,0,none⟩) t.its.length c2)) (fun w'=>Ext w2.drew w') 2 w2.drew:=⟨b2,Ext.refl _⟩
   generalize t.its[k]=q at *;go_wp2_with fail;refine wp_region_C (C:=fun j=>lv2 (fun w'=>w'.cell? ⟨w.heap.size,2,none⟩=some (Value.slice (some ⟨g,0,none⟩) t.its.length c2)) (fun w'=>Ext w2.drew w') (([0,1,0,0,0,1,0,1,2,1,0,0]:List Nat).getD j 0)) (by kernel_rfl) ?_;refine tkD 0 (i:=0) (v:=?_) rfl trivial ?_ ?_;rotate_left
   ·(intro w_1 hSw;clear hSw;go_simp;try with_reducible rfl)
   try simp only [Act.put,lpa,lpz,lps]
   refine tkD 0 (i:=2) (v:=?_) rfl trivial ?_ ?_;rotate_left
   ·(intro w_1 hSw;clear hSw;go_simp;try with_reducible rfl)
   try simp only [Act.put,lpa,lpz,lps]
   refine tkD 0 (i:=3) (v:=?_) rfl trivial ?_ ?_;rotate_left
   ·(intro w_1 hSw;clear hSw;go_simp;try with_reducible rfl)
   try simp only [Act.put,lpa,lpz,lps]
   refine tkD 0 (i:=4) (v:=?_) rfl trivial ?_ ?_;rotate_left
   ·(intro w_1 hSw;clear hSw;go_simp;try with_reducible rfl)
   try simp only [Act.put,lpa,lpz,lps]
   refine tkD 0 (i:=6) (v:=?_) rfl trivial ?_ ?_;rotate_left
   ·(intro w_1 hSw;clear hSw;go_simp;try with_reducible rfl)
   try simp only [Act.put,lpa,lpz,lps]
   refine tkD 1 (i:=1) (v:=?_) rfl (And.left HAB) ?_ ?_;rotate_left
   ·(intro w_1 hSw;have hfact:w_1.cell? ⟨w.heap.size,2,none⟩=some (Value.slice (some ⟨g,0,none⟩) t.its.length c2):=hSw;clear hSw;go_simp;try with_reducible rfl)
   try simp only [Act.put,lpa,lpz,lps]
   refine tkD 1 (i:=5) (v:=?_) rfl (And.left HAB) ?_ ?_;rotate_left
   ·(intro w_1 hSw;have hfact:w_1.cell? ⟨w.heap.size,2,none⟩=some (Value.slice (some ⟨g,0,none⟩) t.its.length c2):=hSw;clear hSw;go_simp;try with_reducible rfl)
   try simp only [Act.put,lpa,lpz,lps]
   refine tkD 1 (i:=7) (v:=?_) rfl (And.left HAB) ?_ ?_;rotate_left
   ·(intro w_1 hSw;clear hSw;go_simp;try with_reducible rfl)
   try simp only [Act.put,lpa,lpz,lps]
   refine tkD 2 (i:=8) (v:=?_) rfl HAB ?_ ?_;rotate_left
   ·(intro w_1 hSw;have hfact:Ext w2.drew w_1:=hSw.2;clear hSw;go_simp;try with_reducible rfl)
   try simp only [Act.put,lpa,lpz,lps]
   refine wpAnyC_one (i:=9) (by kernel_rfl) rfl (fun K hK=>?_);go_simp;go_at_call 59;refine CK.out.mono ?_;rintro _ w5 ⟨y,A5,n5,c5,A6,n6,c6,rfl,hy5,hw5,hC5,hz5⟩;obtain ⟨HBS,k3,k4⟩:=HBP.out w5 y _ _ hy5 hw5 hC5 hz5;have k5:=k3.cell 2;obtain ⟨⟨u0,k0⟩,z0⟩:=k4 0 (by omega);obtain ⟨⟨u1,k1⟩,z1⟩:=k4 1 (by omega);obtain ⟨⟨u2,k2⟩,z2⟩:=k4 2 (by omega);rw [Nat.add_zero] at k0 z0;clear hy5 hw5 hC5 hz5 k4;refine Shut.out hK _ _ k5 ?_;(try simp only [Act.put,lpa,lpz,lps]);refine tkD 0 (i:=10) (v:=?_) rfl (trivial) ?_ ?_;rotate_left
   ·(intro w_1 hSw;clear hSw;go_simp;try with_reducible rfl)
   try simp only [Act.put,lpa,lpz,lps]
   refine wpAnyC_one (i:=11) (by kernel_rfl) rfl (fun K hK=>?_);go_simp;refine Shut.out hK _ _ trivial ?_;(try simp only [Act.put,lpa,lpz,lps]);refine wpAnyC_done (by kernel_rfl) ?_ _;obtain ⟨W6,hW6⟩:∃ W6,W6=put3 w5 g (k*3) (VT.withS y (.slice A5 n5 c5) (.slice A6 n6 c6)):=⟨_,rfl⟩;rw [← hW6] at HBS;unfold put3 VT.withS at hW6;simp only [VT.num,VT.vb,VT.vi] at hW6;rw [← hW6];have HB:=lhd HBS;clear hW6 HBS z0 z1 z2 k0 k1 k2 b2 HAB i0 i1 i2 k3 k5;have y0:=HB.out.box3.cell 0;have y1:=HB.out.box3.cell 1;have y2:=HB.out.box3.cell 2;have f0:=HB.out.box3.free 0;have f1:=HB.out.box3.free 1;have f2:=HB.out.box3.free 2;have r2:=HB.out.box4.cell;have t2:=HB.out.box4.free;unfold val0 at r2;have HO:=lhd HB.out.out;have HZ:=lhd HB.out.sz;go_wp2;exact bodyPost_ret (v:=.agg #[.int .i64 (t.val.setItem k y).num,.slice A1 t.bs.length c1,.slice (some ⟨g,0,none⟩) t.its.length c2]) (by simp [results,Tryz.results59,go_sem,r2,t2,DVal.num]) rfl ⟨t.val.setItem k y,_,_,_,_,_,_,rfl,HO.out.1,HO.out.2.1,HO.out.2.2,HZ.out⟩
 case inr.inr.inr.inr =>
  rcases hits:t.its with _ | ⟨x0,rest⟩
  ·have hlen:t.its.length=0:=by rw [hits];rfl
   have HB:=lhd HI1.out.asis';rw [HV1.out,HV2.out] at HB;have y0:=HI1.out.box3.cell 0;have y1:=HI1.out.box3.cell 1;have y2:=HI1.out.box3.cell 2;have f0:=HI1.out.box3.free 0;have f1:=HI1.out.box3.free 1;have f2:=HI1.out.box3.free 2;have r2:=HI1.out.box4.cell;have t2:=HI1.out.box4.free;unfold val0 at r2;rw [HV1.out] at y1;rw [HV2.out] at y2;generalize t.its.length=m at *;subst hlen;have HO:=lhd HB.out.out;have HZ:=lhd HB.out.sz;go_wp2;exact bodyPost_ret (v:=.agg #[.int .i64 (DVal.mk t.num t.bs (valsOf t.its)).num,.slice A1 t.bs.length c1,.slice A2 0 c2]) (by simp [results,Tryz.results59,go_sem,r2,t2,DVal.num]) rfl ⟨DVal.mk t.num t.bs (valsOf t.its),_,_,_,_,_,_,rfl,HO.out.1,HO.out.2.1,HO.out.2.2,HZ.out⟩
  ·have hlen:t.its.length=rest.length+1:=by rw [hits];rfl
   obtain ⟨g,hA2,hcl⟩:∃ g,A2=some ⟨g,0,none⟩∧t.its.length≤c2:=by
    have hi6:=HI1.out.own.i;rcases hi6.2 with ⟨_,h0⟩ | ⟨g,cap,cur,hv6,hb,hg,hnc,_⟩
    ·omega
    ·rw [HV2.out] at hv6;injection hv6 with e1 _ e2;exact ⟨g,e1,by omega⟩
   subst hA2
   have HB0:Hid (∀ Ar cr,((c2=1∧Ar=some ⟨g,0,none⟩∧cr=0)∨(¬ c2=1∧Ar=some ⟨g,3,none⟩∧cr=c2-1))→BS t wb w (w1.setCell ⟨w.heap.size,2,none⟩ (.slice Ar rest.length cr)) p A l c (.mk t.num t.bs (valsOf rest)) (.slice A1 t.bs.length c1) (.slice Ar rest.length cr)):=by
    intro Ar cr hr;have h1:=HI1.out.tail hits HV2.out hr
    rwa [HV1.out] at h1
   have y0:=HI1.out.box3.cell 0;have y1:=HI1.out.box3.cell 1;have y2:=HI1.out.box3.cell 2;have f0:=HI1.out.box3.free 0;have f1:=HI1.out.box3.free 1;have f2:=HI1.out.box3.free 2;have r2:=HI1.out.box4.cell;have t2:=HI1.out.box4.free;unfold val0 at r2;rw [HV1.out] at y1;rw [HV2.out] at y2;generalize t.its.length=m at *;subst hlen;have h1s:(1:Int)≤(rest.length:Int)+1:=by omega
   by_cases hc1:c2=1
   ·subst hc1
    have h0:rest.length=0:=by omega
    have HB:=lhd (HB0.out _ _ (.inl ⟨rfl,rfl,rfl⟩));generalize rest.length=m at *;subst h0;clear hits;have h1s:(1:Int)≤1:=by omega
    have HO:=lhd HB.out.out;have HZ:=lhd HB.out.sz;go_wp2;exact bodyPost_ret (v:=.agg #[.int .i64 (DVal.mk t.num t.bs (valsOf rest)).num,.slice A1 t.bs.length c1,.slice (some ⟨g,0,none⟩) 0 0]) (by simp [results,Tryz.results59,go_sem,r2,t2,DVal.num]) rfl ⟨DVal.mk t.num t.bs (valsOf rest),_,_,_,_,_,_,rfl,HO.out.1,HO.out.2.1,HO.out.2.2,HZ.out⟩
   ·have HB:=lhd (HB0.out _ _ (.inr ⟨hc1,rfl,rfl⟩))
    clear hits;have HO:=lhd HB.out.out;have HZ:=lhd HB.out.sz;go_wp2;exact bodyPost_ret (v:=.agg #[.int .i64 (DVal.mk t.num t.bs (valsOf rest)).num,.slice A1 t.bs.length c1,.slice (some ⟨g,3,none⟩) rest.length (c2-1)]) (by simp [results,Tryz.results59,go_sem,r2,t2,DVal.num]) rfl ⟨DVal.mk t.num t.bs (valsOf rest),_,_,_,_,_,_,rfl,HO.out.1,HO.out.2.1,HO.out.2.2,HZ.out⟩
theorem bent_all:∀ t,BentOk t:=fun t=>VT.ind bent_of t
end Go.Proofs.YtlfhealneccdkaaGreatDoor
