/- Texts, laid into one. -/
import Derived.Test.YtlfhealneccdkaaGreatDoorZDf24
import Derived.Test.YtlfhealneccdkaaGreatDoorZDf26
import Derived.Test.YtlfhealneccdkaaGreatDoorZDf19
set_option linter.unusedVariables false
set_option linter.unusedSimpArgs false
set_option maxRecDepth 100000
set_option maxHeartbeats 16000000
namespace Go.Proofs.YtlfhealneccdkaaGreatDoor
open Go.RowKit Go.Sort
def intRes (o:Option Nat) (a n:Nat):Value:=match o with
 | some k=>.tuple #[.int .i64 (k:Int),.int .i64 (n:Int),.bool true]
 | none=>.tuple #[.int .i64 0,.int .i64 (a:Int),.bool false]
def rrVal (R:RR) (t:VT):Value:=.tuple #[vval R.v t.vb t.vi,.int .i64 (R.next:Int),.int .i64 (R.code:Int)]
def RdOut (R:RR) (w:World) (e:Ending) (w':World):Prop:=∃ t,e=.returned (rrVal R t)∧GotV w w' t R.v∧Ext w w'
def t0:VT:=.mk 0 [] (.slice none 0 0) [] (.slice none 0 0)
theorem GotV.zero (w w':World):GotV w w' t0 v0:=by
 refine ⟨rfl,.mk (OwnL.nil _ _) ⟨by simp [t0,VT.its],.inl ⟨rfl,rfl⟩⟩ (fun x hx=>by simp [t0,VT.its] at hx),?_⟩;rw [VT.vals_eq];simp [Far,t0,VT.vb,VT.vi,VT.its,Value.ownBlock]
def zeroV:Value:=.agg #[.int .i64 0,.slice none 0 0,.slice none 0 0]
def badRes (next code:Nat):Value:=.tuple #[zeroV,.int .i64 (next:Int),.int .i64 (code:Int)]
theorem RdOut.bad {w w':World} {next code:Nat} (e:Ext w w'):RdOut (.bad next code) w (.returned (badRes next code)) w':=⟨t0,rfl,GotV.zero _ _,e⟩
def untilRes (o:Option (List UInt8 × Nat)) (a:Nat):List UInt8 × Nat × Bool:=match o with
 | some q=>(q.1,a+q.2,true)
 | none=>([],a,false)
section
variable {P:Program} {ops:Array Oper} {rest:List Oper} {o:Oper} {a:Act} {Q:Exit→Act→World→Prop}
end
theorem boxes4' (w:World) (c0 c1 c2 c3:Array Value) (T0 T1 T2 T3:TypeId) :
 ∃ W0 W1,Hid (W0=(((w.alloc (.cells c0 T0)).alloc (.cells c1 T1)).alloc (.cells c2 T2)))∧Hid (W1=W0.alloc (.cells c3 T3))∧Box W0 w.heap.size c0 T0∧Box W0 (w.heap.size+1) c1 T1∧Box W0 (w.heap.size+1+1) c2 T2∧Box W1 (w.heap.size+1+1+1) c3 T3∧Ext w W0∧Ext W0 W1∧W0.heap.size=w.heap.size+1+1+1∧W1.heap.size=w.heap.size+1+1+1+1:=by
 obtain ⟨W0,h1,h2,h3,h4,h5,h6⟩:=boxes3' w c0 c1 c2 T0 T1 T2;have h6':W0.heap.size=w.heap.size+1+1+1:=by omega
 have h7:=Box.new W0 c3 T3;rw [h6'] at h7;exact ⟨W0,_,h1,rfl,h2,h3,h4,h7,h5,Ext_alloc _ (Ext.refl W0),h6',by rw [World.size_alloc,h6']⟩
theorem RdOut.shape {R:RR} {w w':World} {e:Ending} (h:RdOut R w e w'):∃ (t:VT) (A1:Option Addr) (n1 c1:Nat) (A2:Option Addr) (n2 c2:Nat),e=.returned (.tuple #[.agg #[.int .i64 R.v.num,.slice A1 n1 c1,.slice A2 n2 c2],.int .i64 (R.next:Int),.int .i64 (R.code:Int)])∧Hid (t.vb=.slice A1 n1 c1∧t.vi=.slice A2 n2 c2)∧Hid (GotV w w' t R.v)∧Ext w w':=by
 obtain ⟨t,he,hg,hx⟩:=h;obtain ⟨A1,c1,h1⟩:=Own.shape (show Own _ 1 w w' t.vb t.bs.length _ from hg.own.b);obtain ⟨A2,c2,h2⟩:=Own.shape hg.own.i;refine ⟨t,A1,_,c1,A2,_,c2,?_,⟨h1,h2⟩,hg,hx⟩;rw [he];unfold rrVal vval;rw [h1,h2]
theorem OwnD.stay {wb w:World} {v:Value} {ps:List RV} (h:OwnD wb w v ps) (hs:∀ q∈ps,ShortR q.r) (hn:ps.length≤24) {p:Nat} (hp:∀ u∈v::ps.flatMap RV.vals,∀ b,u.ownBlock=some b→b≠p) (i:Nat) (hi:i<ps.length) :
 ∃ g cap Ab cb An cn At ct Ak ck,v=.slice (some ⟨g,0,none⟩) ps.length cap∧∀ w',w.grownBy w' (some p) →
  RdS w' ps[i].r Ab cb An cn At ct Ak ck∧RuleAt w' g (i*8) ps[i].r (.slice Ab ps[i].r.bytes.length cb) (.slice An ps[i].r.names.length cn) (.slice At ps[i].r.tags.length ct) (.slice Ak ps[i].r.kids.length ck):=by
 obtain ⟨Ab,cb,An,cn,At,ct,Ak,ck,e1,e2,e3,e4,hS⟩:=(h.each _ (List.getElem_mem hi)).rd (hs _ (List.getElem_mem hi));have hkeep:∀ w',w.grownBy w' (some p)→OwnD wb w' v ps:=fun w' hg=>h.keep hg (fun u hu b hb hh=>by injection hh with hh;exact hp u hu b hb hh.symm)
 rcases h.row.2 with ⟨_,h0⟩ | ⟨g,cap,cur,hv,hb,hg,hnc,hcm,hcs,htake⟩
 ·omega
 ·refine ⟨g,cap,Ab,cb,An,cn,At,ct,Ak,ck,hv,fun w' hgw=>?_⟩
  have hO:=hkeep w' hgw;obtain ⟨Ab',cb',An',cn',At',ct',Ak',ck',f1,f2,f3,f4,hS'⟩:=(hO.each _ (List.getElem_mem hi)).rd (hs _ (List.getElem_mem hi));rw [e1] at f1;rw [e2] at f2;rw [e3] at f3;rw [e4] at f4;injection f1 with x1 _ x2;injection f2 with x3 _ x4;injection f3 with x5 _ x6;injection f4 with x7 _ x8
  subst x1;subst x2;subst x3;subst x4;subst x5;subst x6;subst x7;subst x8;refine ⟨hS',?_⟩;rcases hO.row.2 with ⟨_,h0⟩ | ⟨g',cap',cur',hv',hb',hg',hnc',hcm',hcs',htake'⟩
  ·omega
  ·rw [hv] at hv'
   injection hv' with y1 _ _
   injection y1 with y1;injection y1 with y1 _ _
   subst y1
   have hc:∀ (w2:World),Ext w' w2→∀ j,j<8→w2.cell? ⟨g,i*8+j,none⟩=ps[i].cells[j]?:=by
    intro w2 e j hj;rw [heap_row hg' e,← cells_get ps i j hi hj,← htake',List.getElem?_take,if_pos (by omega)];simp
   rw [← e1,← e2,← e3,← e4]
   exact ⟨fun w2 e=>by have:=hc w2 e 0 (by omega);simpa [RV.cells] using this,fun w2 e=>by have:=hc w2 e 1 (by omega);simpa [RV.cells] using this,fun w2 e=>by have:=hc w2 e 2 (by omega);simpa [RV.cells] using this,fun w2 e=>by have:=hc w2 e 3 (by omega);simpa [RV.cells] using this,
    fun w2 e=>by have:=hc w2 e 4 (by omega);simpa [RV.cells] using this,fun w2 e=>by have:=hc w2 e 5 (by omega);simpa [RV.cells] using this,fun w2 e=>by have:=hc w2 e 6 (by omega);simpa [RV.cells] using this,fun w2 e=>by have:=hc w2 e 7 (by omega);simpa [RV.cells] using this⟩
abbrev val0:Array Value:=#[.int .i64 0,.slice none 0 0,.slice none 0 0]
structure VM (wb w wr:World) (p:Nat) (A:Option Addr) (l:List UInt8) (c:Nat) (dv:Value) (rc:Array Value) (n:Int) (vb:Value) (bs:List UInt8) (vi:Value) (ps:List VT):Prop where
 db:Box wr w.heap.size #[dv] 26
 res:Box wr (w.heap.size+1) val0 29
 rb:Box wr (w.heap.size+1+1) rc 67
 box:Box wr (w.heap.size+1+1+1) #[.int .i64 n,vb,vi] 29
 own:OwnL vu8 5 wb wr vb bs
 its:OwnTs wb wr vi ps
 far:Far (vb::vi::ps.flatMap VT.vals)
 new:∀ u∈vb::vi::ps.flatMap VT.vals,∀ b,u.ownBlock=some b→w.heap.size+4≤b
 cur:Cur wb wr p A l c
 grow:w.grownBy wr (some p)
section
variable {wb w wr w':World} {p:Nat} {A:Option Addr} {l:List UInt8} {c:Nat} {dv:Value} {rc:Array Value} {n:Int} {vb:Value} {bs:List UInt8} {vi:Value} {ps:List VT}
theorem VM.moved (h:VM wb w wr p A l c dv rc n vb bs vi ps) (hp:p<w.heap.size) (hC:Cur wb w' p A l c) (hg:wr.grownBy w' (some p)):VM wb w w' p A l c dv rc n vb bs vi ps:=by
 have ne:∀ k,w.heap.size≤k→(some p:Option Nat)≠some k:=fun k hk hh=>by injection hh with hh;omega
 exact ⟨h.db.moved hg (ne _ (by omega)),h.res.moved hg (ne _ (by omega)),h.rb.moved hg (ne _ (by omega)),h.box.moved hg (ne _ (by omega)),
  h.own.keep hg (fun b hb=>ne b (by have:=h.new _ (List.mem_cons_self ..) b hb;omega)),
  h.its.keep hg (fun u hu b hb=>ne b (by have:=h.new u (List.mem_cons_of_mem _ hu) b hb;omega)),h.far,h.new,hC,h.grow.trans hg⟩
theorem VM.ext (h:VM wb w wr p A l c dv rc n vb bs vi ps) (hp:p<w.heap.size) (e:Ext wr w'):VM wb w w' p A l c dv rc n vb bs vi ps:=h.moved hp (h.cur.ext e) (grown_ext e _)
theorem VM.size (h:VM wb w wr p A l c dv rc n vb bs vi ps):w.heap.size+4≤wr.heap.size:=h.box.lt
theorem VM.stored (hp:p<w.heap.size) (hw:wb.heap.size≤w.heap.size) {n':Int} {vb' vi':Value} {bs':List UInt8} {ps':List VT} {a b c':Value}
 (db:Box wr w.heap.size #[dv] 26) (res:Box wr (w.heap.size+1) val0 29) (rb:Box wr (w.heap.size+1+1) rc 67) (box:Box wr (w.heap.size+1+1+1) #[a,b,c'] 29)
 (own:OwnL vu8 5 wb wr vb' bs') (its:OwnTs wb wr vi' ps') (far:Far (vb'::vi'::ps'.flatMap VT.vals)) (new:∀ u∈vb'::vi'::ps'.flatMap VT.vals,∀ b,u.ownBlock=some b→w.heap.size+4≤b) (cur:Cur wb wr p A l c) (grow:w.grownBy wr (some p))
 (k:Nat) (u:Value) (hq:(#[a,b,c']:Array Value).setIfInBounds k u=#[.int .i64 n',vb',vi']):VM wb w (wr.setCell ⟨w.heap.size+1+1+1,k,none⟩ u) p A l c dv rc n' vb' bs' vi' ps':=by
 have hs:=box.set k u;rw [hq] at hs;refine ⟨db.other (by omega) _ _,res.other (by omega) _ _,rb.other (by omega) _ _,hs,own.keep (grown_set wr ⟨w.heap.size+1+1+1,k,none⟩ u) (fun b hb hh=>?_),its.keep (grown_set wr ⟨w.heap.size+1+1+1,k,none⟩ u) (fun x hx b hb hh=>?_),far,new,cur.set (a:=⟨w.heap.size+1+1+1,k,none⟩) (by show w.heap.size+1+1+1≠p;omega) (by show wb.heap.size≤w.heap.size+1+1+1;omega) u,grown_new (a:=⟨w.heap.size+1+1+1,k,none⟩) grow (by show w.heap.size≤w.heap.size+1+1+1;omega) u⟩
 ·have:=new _ (List.mem_cons_self ..) b hb;injection hh with hh;simp at hh;omega
 ·have:=new _ (List.mem_cons_of_mem _ hx) b hb;injection hh with hh;simp at hh;omega
theorem VM.num (h:VM wb w wr p A l c dv rc n vb bs vi ps) (hp:p<w.heap.size) (hw:wb.heap.size≤w.heap.size) (n':Int):VM wb w (wr.setCell ⟨w.heap.size+1+1+1,0,none⟩ (.int .i64 n')) p A l c dv rc n' vb bs vi ps :=
 VM.stored hp hw h.db h.res h.rb h.box h.own h.its h.far h.new h.cur h.grow 0 _ rfl
theorem VM.bytes (h:VM wb w wr p A l c dv rc n vb bs vi ps) (hp:p<w.heap.size) (hw:wb.heap.size≤w.heap.size) {vb':Value} {bs':List UInt8} (ho:OwnL vu8 5 wb wr vb' bs') {n0:Nat} (hn:∀ b,vb'.ownBlock=some b→n0≤b) (ho0:∀ u∈vi::ps.flatMap VT.vals,∀ b,u.ownBlock=some b→b<n0) (h4:w.heap.size+4≤n0) :
 VM wb w (wr.setCell ⟨w.heap.size+1+1+1,1,none⟩ vb') p A l c dv rc n vb' bs' vi ps:=by
 have hf:=h.far;unfold Far at hf;rw [List.pairwise_cons] at hf;refine VM.stored hp hw h.db h.res h.rb h.box ho h.its (Far.cons hf.2 (fun u hu b h1 h2=>by have:=hn b h1;have:=ho0 u hu b h2;omega)) (fun u hu b hb=>?_) h.cur h.grow 1 _ rfl;rcases List.mem_cons.1 hu with rfl | hu
 ·have:=hn b hb;omega
 ·exact h.new u (List.mem_cons_of_mem _ hu) b hb
theorem VM.items (h:VM wb w wr p A l c dv rc n vb bs vi ps) (hp:p<w.heap.size) (hw:wb.heap.size≤w.heap.size) {w7:World} {vi':Value} {ps':List VT} (db:Box w7 w.heap.size #[dv] 26) (res:Box w7 (w.heap.size+1) val0 29) (rb:Box w7 (w.heap.size+1+1) rc 67) (box:Box w7 (w.heap.size+1+1+1) #[.int .i64 n,vb,vi] 29)
 (own:OwnL vu8 5 wb w7 vb bs) (its:OwnTs wb w7 vi' ps') (hfr:∀ u∈vi'::ps'.flatMap VT.vals,∀ b,u.ownBlock=some b→w.heap.size+4≤b∧vb.ownBlock≠some b) (cur:Cur wb w7 p A l c) (grow:w.grownBy w7 (some p)) :
 VM wb w (w7.setCell ⟨w.heap.size+1+1+1,2,none⟩ vi') p A l c dv rc n vb bs vi' ps':=by
 refine VM.stored hp hw db res rb box own its (Far.cons its.far (fun u hu b h1 h2=>(hfr u hu b h2).2 h1)) (fun u hu b hb=>?_) cur grow 2 _ rfl;rcases List.mem_cons.1 hu with rfl | hu
 ·exact h.new _ (List.mem_cons_self ..) b hb
 ·exact (hfr u hu b hb).1
theorem VM.snoc {w5 w7:World} {t:VT} {vi':Value} (h:VM wb w w5 p A l c dv rc n vb bs vi ps) (hp:p<w.heap.size) (hw:wb.heap.size≤w.heap.size) (hro:OwnT wb w5 t) (hfr:Far t.vals) {n0:Nat} (hnew:∀ u∈t.vals,∀ b,u.ownBlock=some b→n0≤b) (hold:∀ u∈vb::vi::ps.flatMap VT.vals,∀ b,u.ownBlock=some b→b<n0) (h4:w.heap.size+4≤n0) (hn5:n0≤w5.heap.size)
 (ho7:Own 29 3 wb w7 vi' (ps.length+1) (ps.flatMap VT.cells++t.cells)) (he7:Ext wb w7) (hg7:w5.grownBy w7 vi.ownBlock) (hv:vi'.ownBlock=vi.ownBlock∨vi'.ownBlock=some w5.heap.size) :
 (w7.cell? ⟨w.heap.size+1+1+1,2,none⟩=some vi∧w7.frozen? ⟨w.heap.size+1+1+1,2,none⟩=false)∧VM wb w (w7.setCell ⟨w.heap.size+1+1+1,2,none⟩ vi') p A l c dv rc n vb bs vi' (ps++[t]):=by
 have hvi:∀ b,vi.ownBlock=some b→w.heap.size+4≤b:=fun b hb=>h.new vi (by simp) b hb
 have ne:∀ k,k<w.heap.size+4→vi.ownBlock≠some k:=fun k hk hh=>by have:=hvi k hh;omega
 have hb:=h.box.moved hg7 (ne _ (by omega));have hf:=h.far;unfold Far at hf;rw [List.pairwise_cons] at hf;have hf2:=hf.2;rw [List.pairwise_cons] at hf2
 have hts:OwnTs wb w7 vi' (ps++[t]):=by
  refine ⟨?_,fun q hq=>?_,?_⟩
  ·rw [List.length_append,List.flatMap_append,List.flatMap_cons,List.flatMap_nil,List.append_nil];exact ho7
  ·rcases List.mem_append.1 hq with hq | hq
   ·exact (h.its.each q hq).keep hg7 (fun u hu b hb he=>hf2.1 u (List.mem_flatMap.2 ⟨q,hq,hu⟩) b he hb)
   ·obtain rfl:=List.mem_singleton.1 hq
    exact hro.keep hg7 (fun u hu b hb he=>by have:=hnew u hu b hb;have:=hold vi (by simp) b he;omega)
  ·rw [List.flatMap_append,List.flatMap_cons,List.flatMap_nil,List.append_nil]
   refine Far.cons (Far.append hf2.2 hfr (fun u hu x hx b h1 h2=>by have:=hold u (by simp [hu]) b h1;have:=hnew x hx b h2;omega)) (fun x hx b h1 h2=>?_);rcases hv with hv | hv
   ·rw [hv] at h1
    rcases List.mem_append.1 hx with hx | hx
    ·exact hf2.1 x hx b h1 h2
    ·have:=hold vi (by simp) b h1;have:=hnew x hx b h2;omega
   ·rw [hv] at h1
    injection h1 with h1
    rcases List.mem_append.1 hx with hx | hx
    ·have:=hold x (by simp [hx]) b h2;omega
    ·have:=(hro.block x hx b h2).2;omega
 refine ⟨⟨hb.cell 2,hb.free 2⟩,VM.items h hp hw (h.db.moved hg7 (ne _ (by omega))) (h.res.moved hg7 (ne _ (by omega))) (h.rb.moved hg7 (ne _ (by omega))) hb (h.own.keep hg7 (fun b h1 h2=>hf.1 vi (by simp) b h1 h2)) hts (fun u hu b hub=>?_) (h.cur.kept hg7 (fun hh=>by have:=hvi p hh;omega) he7) (grown_own h.grow (fun b hb=>by have:=hvi b hb;omega) hg7)⟩;rcases List.mem_cons.1 hu with rfl | hu
 ·rcases hv with hv | hv
  ·rw [hv] at hub
   exact ⟨hvi b hub,fun h1=>hf.1 vi (by simp) b h1 hub⟩
  ·rw [hv] at hub
   injection hub with hub
   exact ⟨by omega,fun h1=>by have:=hold vb (by simp) b h1;omega⟩
 ·rw [List.flatMap_append,List.flatMap_cons,List.flatMap_nil,List.append_nil] at hu
  rcases List.mem_append.1 hu with hu | hu
  ·exact ⟨h.new u (by simp [hu]) b hub,fun h1=>hf.1 u (by simp [hu]) b h1 hub⟩
  ·exact ⟨by have:=hnew u hu b hub;omega,fun h1=>by have:=hold vb (by simp) b h1;have:=hnew u hu b hub;omega⟩
theorem VM.out (h:VM wb w wr p A l c dv rc n vb bs vi ps) (hp:p<w.heap.size) (hw:wb.heap.size≤w.heap.size) (x y z:Value) :
 OwnT wb (((wr.setCell ⟨w.heap.size+1,0,none⟩ x).setCell ⟨w.heap.size+1,1,none⟩ y).setCell ⟨w.heap.size+1,2,none⟩ z) (.mk n bs vb ps vi)∧Far (VT.vals (.mk n bs vb ps vi))∧(∀ u∈VT.vals (.mk n bs vb ps vi),∀ b,u.ownBlock=some b→w.heap.size≤b) ∧
 Cur wb (((wr.setCell ⟨w.heap.size+1,0,none⟩ x).setCell ⟨w.heap.size+1,1,none⟩ y).setCell ⟨w.heap.size+1,2,none⟩ z) p A l c∧w.grownBy (((wr.setCell ⟨w.heap.size+1,0,none⟩ x).setCell ⟨w.heap.size+1,1,none⟩ y).setCell ⟨w.heap.size+1,2,none⟩ z) (some p):=by
 have G:=((grown_set wr ⟨w.heap.size+1,0,none⟩ x).trans (grown_set _ ⟨w.heap.size+1,1,none⟩ y)).trans (grown_set _ ⟨w.heap.size+1,2,none⟩ z);have hne:∀ u∈vb::vi::ps.flatMap VT.vals,∀ b,u.ownBlock=some b→(some (w.heap.size+1):Option Nat)≠some b:=fun u hu b hb hh=>by have:=h.new u hu b hb;injection hh with hh;omega
 have o2:=h.its.keep G (fun u hu b hb=>hne u (List.mem_cons_of_mem _ hu) b hb);refine ⟨.mk (h.own.keep G (fun b hb=>hne _ (List.mem_cons_self ..) b hb)) o2.row o2.each,by rw [VT.vals_eq];exact h.far,fun u hu b hb=>by rw [VT.vals_eq] at hu;have:=h.new u hu b hb;omega,?_,?_⟩
 ·exact ((h.cur.set (a:=⟨w.heap.size+1,0,none⟩) (by show w.heap.size+1≠p;omega) (by show wb.heap.size≤w.heap.size+1;omega) x).set (a:=⟨w.heap.size+1,1,none⟩) (by show w.heap.size+1≠p;omega) (by show wb.heap.size≤w.heap.size+1;omega) y).set (a:=⟨w.heap.size+1,2,none⟩) (by show w.heap.size+1≠p;omega) (by show wb.heap.size≤w.heap.size+1;omega) z
 ·exact grown_new (a:=⟨w.heap.size+1,2,none⟩) (grown_new (a:=⟨w.heap.size+1,1,none⟩) (grown_new (a:=⟨w.heap.size+1,0,none⟩) h.grow (by show w.heap.size≤w.heap.size+1;omega) x) (by show w.heap.size≤w.heap.size+1;omega) y) (by show w.heap.size≤w.heap.size+1;omega) z
theorem VM.old (h:VM wb w wr p A l c dv rc n vb bs vi ps):∀ u∈vb::vi::ps.flatMap VT.vals,∀ b,u.ownBlock=some b→b<wr.heap.size:=by
 intro u hu b hb;rcases List.mem_cons.1 hu with rfl | hu
 ·exact (World.ownsRow.lt h.own b hb).2
 ·exact (h.its.block u hu b hb).2
end
structure StayD (w:World) (p:Nat) (Ad:Option Addr) (ds:List DRule) (cd:Nat):Prop where
 out:∃ g off,Ad=some ⟨g,off,none⟩∧g<w.heap.size∧∀ i (hi:i<ds.length),∃ Ab cb An cn At ct Ak ck,∀ w',w.grownBy w' (some p) →
  RdS w' ds[i] Ab cb An cn At ct Ak ck∧RuleAt w' g (off+i*8) ds[i] (.slice Ab ds[i].bytes.length cb) (.slice An ds[i].names.length cn) (.slice At ds[i].tags.length ct) (.slice Ak ds[i].kids.length ck)
theorem StayD.mono {w w':World} {p:Nat} {Ad:Option Addr} {ds:List DRule} {cd:Nat} (h:StayD w p Ad ds cd) (hg:w.grownBy w' (some p)):StayD w' p Ad ds cd:=by
 obtain ⟨g,off,h1,h0,h2⟩:=h.out;refine ⟨g,off,h1,Nat.lt_of_lt_of_le h0 hg.size,fun i hi=>?_⟩;obtain ⟨Ab,cb,An,cn,At,ct,Ak,ck,h3⟩:=h2 i hi;exact ⟨Ab,cb,An,cn,At,ct,Ak,ck,fun w2 h4=>h3 w2 (hg.trans h4)⟩
theorem Rd0.cellAt {α:Type} {f:α→Value} {w:World} {b o:Nat} {l:List α} {c:Nat} (h:Rd0 f w (some ⟨b,o,none⟩) l c) (k:Nat) (hk:k<l.length):w.cell? ⟨b,o+k,none⟩=some (f l[k]):=by
 obtain ⟨b',o',h1,_,h2⟩:=h.at k hk;injection h1 with h1
 injection h1 with h1 h3 _
 subst h1;subst h3;exact h2 w (Ext.refl w)
def Slim (ds:List DRule):Prop:=∀ i (hi:i<ds.length),ds[i].names.length≤3
structure DrawnV (ds:List DRule) (i:Nat) (wb w w':World) (p:Nat) (A:Option Addr) (l:List UInt8) (c:Nat) (t:VT):Prop where
 valid:validV ds i t.val=true
 sz:Slim ds→szV t.val≤100*4^i
 own:OwnT wb w' t
 far:Far t.vals
 new:∀ u∈t.vals,∀ b,u.ownBlock=some b→w.heap.size≤b
 cur:Cur wb w' p A l c
 grow:w.grownBy w' (some p)
def MakeOk (Ad:Option Addr) (ds:List DRule) (cd:Nat) (wb:World) (p:Nat) (A:Option Addr) (l:List UInt8) (c i:Nat):Prop :=
 ∀ (m:Nat),m≤100→∀ w,Cur wb w p A l c→StayD w p Ad ds cd→Calls Tryz.prog 33 #[.pointer (some ⟨p,0,none⟩),.agg #[.slice Ad ds.length cd],.int .i64 (i:Int),.int .i64 (m:Int)] w fun e w' =>
  ∃ (t:VT) (A1:Option Addr) (n1 c1:Nat) (A2:Option Addr) (n2 c2:Nat),e=.returned (.agg #[.int .i64 t.num,.slice A1 n1 c1,.slice A2 n2 c2])∧Hid (t.vb=.slice A1 n1 c1∧t.vi=.slice A2 n2 c2)∧DrawnV ds i wb w w' p A l c t
theorem VM.asis {wb w wr:World} {p:Nat} {A:Option Addr} {l:List UInt8} {c:Nat} {dv:Value} {rc:Array Value} {n:Int} {vb:Value} {bs:List UInt8} {vi:Value} {ps:List VT} (h:VM wb w wr p A l c dv rc n vb bs vi ps) :
 OwnT wb wr (.mk n bs vb ps vi)∧Far (VT.vals (.mk n bs vb ps vi))∧(∀ u∈VT.vals (.mk n bs vb ps vi),∀ b,u.ownBlock=some b→w.heap.size≤b)∧Cur wb wr p A l c∧w.grownBy wr (some p) :=
 ⟨.mk h.own h.its.row h.its.each,by rw [VT.vals_eq];exact h.far,fun u hu b hb=>by rw [VT.vals_eq] at hu;have:=h.new u hu b hb;omega,h.cur,h.grow⟩
theorem VM.single {wb w w5:World} {p:Nat} {A:Option Addr} {l:List UInt8} {c:Nat} {dv:Value} {rc:Array Value} {n:Int} {vb:Value} {bs:List UInt8} {t:VT} (h:VM wb w w5 p A l c dv rc n vb bs (.slice none 0 0) []) (hp:p<w.heap.size) (hw:wb.heap.size≤w.heap.size) (ht:OwnT wb w5 t) (hf:Far t.vals) {n0:Nat} (hnew:∀ u∈t.vals,∀ b,u.ownBlock=some b→n0≤b) (hvb:∀ b,vb.ownBlock=some b→b<n0) (h4:w.heap.size+4≤n0) {cs:Array Value} (hcs:cs=t.cells.toArray) :
 VM wb w ((w5.alloc (.cells cs 29)).setCell ⟨w.heap.size+1+1+1,2,none⟩ (.slice (some ⟨w5.heap.size,0,none⟩) 1 1)) p A l c dv rc n vb bs (.slice (some ⟨w5.heap.size,0,none⟩) 1 1) [t]:=by
 subst hcs;have e:=Ext_alloc (.cells t.cells.toArray 29) (Ext.refl w5);have h1:=h.ext hp e;have hs:=h.size;have hb5:=h.cur.2.1.size;refine VM.items h1 hp hw h1.db h1.res h1.rb h1.box h1.own (ps':=[t]) ⟨?_,fun q hq=>?_,?_⟩ (fun u hu b hb=>?_) h1.cur h1.grow
 ·exact ⟨by simp [VT.cells],.inr ⟨w5.heap.size,1,_,rfl,hb5,heap_alloc_new w5 _,by simp,by simp [maxLen],by simp [VT.cells],by simp [VT.cells]⟩⟩
 ·obtain rfl:=List.mem_singleton.1 hq
  exact ht.ext e
 ·rw [List.flatMap_cons,List.flatMap_nil,List.append_nil]
  refine Far.cons hf (fun x hx b h2 h3=>?_);injection h2 with h2
  have:=(ht.block x hx b h3).2;simp at h2;omega
 ·rw [List.flatMap_cons,List.flatMap_nil,List.append_nil] at hu
  rcases List.mem_cons.1 hu with rfl | hu
  ·injection hb with hb
   simp at hb
   refine ⟨by omega,fun h2=>?_⟩
   have:=(World.ownsRow.lt h.own b h2).2
   omega
  ·have h5:=hnew u hu b hb
   refine ⟨by omega,fun h2=>?_⟩
   have:=hvb b h2
   omega
theorem VM.byte0 {wb w wr:World} {p:Nat} {A:Option Addr} {l:List UInt8} {c:Nat} {dv:Value} {rc:Array Value} {n:Int} {g3 c3:Nat} {bs:List UInt8} {vi:Value} {ps:List VT} (h:VM wb w wr p A l c dv rc n (.slice (some ⟨g3,0,none⟩) bs.length c3) bs vi ps) (hp:p<w.heap.size) (hw:wb.heap.size≤w.heap.size) (h0:0<bs.length) (y:UInt8) (u:Int) (hu:u=(y.toNat:Int)) :
 (∃ u0,wr.cell? ⟨g3,0,none⟩=some u0)∧wr.frozen? ⟨g3,0,none⟩=false∧VM wb w (wr.setCell ⟨g3,0,none⟩ (.int .u8 u)) p A l c dv rc n (.slice (some ⟨g3,0,none⟩) bs.length c3) (bs.set 0 y) vi ps:=by
 subst hu;obtain ⟨hs,hf⟩:=Own.slot h.own 0 (by simp;omega);obtain ⟨ho',he'⟩:=Own.store h.own h.cur.2.1 0 (.int .u8 (y.toNat:Int));have hset:(bs.map vu8).set 0 (.int .u8 (y.toNat:Int))=(bs.set 0 y).map vu8:=by rw [List.map_set];rfl
 rw [hset] at ho';have hg:=h.new _ (List.mem_cons_self ..) g3 rfl;have hfar:=h.far;unfold Far at hfar;rw [List.pairwise_cons] at hfar;refine ⟨hs,hf,h.db.other (by omega) _ _,h.res.other (by omega) _ _,h.rb.other (by omega) _ _,h.box.other (by omega) _ _,?_,h.its.keep (grown_set wr ⟨g3,0,none⟩ _) (fun x hx b hb hh=>?_),h.far,h.new,h.cur.set (a:=⟨g3,0,none⟩) (by show g3≠p;omega) (by show wb.heap.size≤g3;omega) _,grown_new (a:=⟨g3,0,none⟩) h.grow (by show w.heap.size≤g3;omega) _⟩
 ·unfold OwnL;rw [List.length_set];exact ho'
 ·injection hh with hh
  exact hfar.1 x hx b (congrArg some hh) hb
def FitV (ds:List DRule) (i:Nat) (v:DVal):Prop:=validV ds i v=true∧(Slim ds→szV v≤100*4^i)
theorem fit_flat {ds:List DRule} {i:Nat} (hi:i<ds.length) {n:Int} {b:List UInt8} (ho:ownV ds ds[i] n b.length 0=true) (hb:b.length≤100):FitV ds i (.mk n b []):=by
 refine ⟨validV_yes (hi:=hi) ho (fun j hj=>by simp [DVal.items] at hj),fun _=>?_⟩;rw [szV_eq];simp only [DVal.bytes,DVal.items,szVs]
 have:=Nat.one_le_pow i 4 (by omega)
 omega
theorem fit_items {ds:List DRule} {i:Nat} (hi:i<ds.length) {n:Int} {its:List DVal} (ho:ownV ds ds[i] n 0 its.length=true) (hl:Slim ds→its.length≤3) (hi0:0<i∨its=[]) (hv:∀ j (hj:j<its.length),kidV ds[i] n j<i∧FitV ds (kidV ds[i] n j) its[j]):FitV ds i (.mk n [] its):=by
 refine ⟨validV_yes (hi:=hi) ho (fun j hj=>(hv j hj).2.1),fun hS=>?_⟩;replace hl:=hl hS;rw [szV_eq,szVs_sum];simp only [DVal.bytes,DVal.items,List.length_nil];rcases hi0 with hi0 | rfl
 ·have h1:∀ x∈its,szV x≤100*4^(i-1):=fun x hx=>by
   obtain ⟨j,hj,rfl⟩:=List.getElem_of_mem hx;have h2:=(hv j hj).2.2 hS;have h3:=Nat.pow_le_pow_right (n:=4) (by omega) (show kidV ds[i] n j≤i-1 by have:=(hv j hj).1;omega)
   omega
  have h4:(its.map szV).sum≤its.length*(100*4^(i-1)):=by
   have:∀ (B:Nat) (q:List DVal),(∀ x∈q,szV x≤B)→(q.map szV).sum≤q.length*B:=by
    intro B q
    induction q with
    | nil=>intro _;simp
    | cons x t ih =>
     intro h
     have:=ih (fun y hy=>h y (List.mem_cons_of_mem _ hy));have h5:=h x (List.mem_cons_self ..);simp only [List.map_cons,List.sum_cons,List.length_cons,Nat.succ_mul]
     omega
   exact this _ its h1
  have h5:its.length*(100*4^(i-1))≤3*(100*4^(i-1)):=Nat.mul_le_mul_right _ hl
  have h6:4^i=4*4^(i-1):=by rw [← Nat.pow_succ'];congr 1;omega
  have:=Nat.one_le_pow (i-1) 4 (by omega)
  omega
 ·simp
theorem limK_ge {ds:List DRule} (hok:descOk ds=true) {i:Nat} (hi:i<ds.length) (hk:ds[i].kind=4∨ds[i].kind=5):255≤limD ds (ds[i].kids.getD 0 0):=by
 have h0:0<limD ds (ds[i].kids.getD 0 0):=by
  have:=kids_len hok i hi;rcases hk with hk | hk
  ·exact (this.1 hk).2
  ·exact (this.2.1 hk).2
 unfold limD at *
 split at h0
 ·rename_i h1
  rw [if_pos h1]
  split at h0
  ·rename_i r hr
   try rw [hr]
   try dsimp only
   rcases limR_cases r with h2 | h2 | h2 | h2 | h2<;>omega
  ·omega
 ·omega
theorem made2 {ds:List DRule} {i:Nat} (hi:i<ds.length) (hk:ds[i].kind=2):FitV ds i (.mk 0 [] []):=fit_flat hi (by unfold ownV;rw [if_neg (by omega),if_pos hk];rfl) (by simp)
theorem made1 {ds:List DRule} (hok:descOk ds=true) {i:Nat} (hi:i<ds.length) (hk:ds[i].kind=1):∃ s:Nat,ds[i].size=(s:Int)∧1≤s∧s≤4∧∀ x:Nat,x<256^s→FitV ds i (.mk (x:Int) [] []):=by
 have hs:=(kids_len hok i hi).2.2.2.2.2.1 hk;refine ⟨ds[i].size.toNat,by omega,by omega,by omega,fun x hx=>fit_flat hi ?_ (by simp)⟩;unfold ownV;rw [if_pos hk];have hl:limR ds[i]=256^ds[i].size.toNat-1:=by unfold limR;rw [if_pos ⟨hk,by omega,by omega⟩]
 have:(x:Int)≤limR ds[i]:=by
  rw [hl];have h2:(x:Int)<((256^ds[i].size.toNat:Nat):Int):=Int.ofNat_lt.2 hx
  rw [Int.natCast_pow] at h2;have h3:(((256:Nat):Int)^ds[i].size.toNat)=(256:Int)^ds[i].size.toNat:=rfl
  rw [h3] at h2;exact Int.le_sub_one_of_lt h2
 rw [decide_eq_true this,decide_eq_true (show (0:Int)≤(x:Int) by omega)];rfl
theorem made3 {ds:List DRule} (hok:descOk ds=true) {i:Nat} (hi:i<ds.length) (hk:ds[i].kind=3):∃ s:Nat,ds[i].size=(s:Int)∧s≤64∧∀ b:List UInt8,b.length=s→FitV ds i (.mk 0 b []):=by
 have hs:=(kids_len hok i hi).2.2.2.2.2.2 hk;refine ⟨ds[i].size.toNat,by omega,by omega,fun b hb=>fit_flat hi ?_ (by omega)⟩;unfold ownV;rw [if_neg (by omega),if_neg (by omega),if_pos hk];have h2:(b.length:Int)=ds[i].size:=by omega
 simp only [h2,decide_true];rfl
theorem made4 {ds:List DRule} (hok:descOk ds=true) {i:Nat} (hi:i<ds.length) (hk:ds[i].kind=4):∀ b:List UInt8,b.length≤6→FitV ds i (.mk 0 b []):=by
 intro b hb;refine fit_flat hi ?_ (by omega);have hs:=limK_ge hok hi (.inl hk);unfold ownV;rw [if_neg (by omega),if_neg (by omega),if_neg (by omega),if_pos hk]
 have:(b.length:Int)≤min 400 (limD ds (ds[i].kids.getD 0 0)):=by omega
 rw [decide_eq_true this];rfl
theorem made10 {ds:List DRule} {i:Nat} (hi:i<ds.length) (hk:ds[i].kind=10):∀ b:List UInt8,b.length≤6→FitV ds i (.mk 0 b []):=by
 intro b hb;refine fit_flat hi ?_ (by omega);unfold ownV;simp [hk];omega
theorem made9 {ds:List DRule} (hok:descOk ds=true) {i:Nat} (hi:i<ds.length) (hk:ds[i].kind=8∨ds[i].kind=9):kd ds[i] 0<i∧∀ d,FitV ds (kd ds[i] 0) d→FitV ds i (.mk 0 [] [d]):=by
 have hkl:=(kids_len hok i hi).2.2.2.2.1 hk;have hlt:=kd_lt hok i hi 0 (by omega);have hkv:∀ j,kidV ds[i] 0 j=kd ds[i] 0:=fun j=>by unfold kidV;rw [if_neg (by omega),if_neg (by omega),if_neg (by omega)]
 refine ⟨hlt,fun d hd=>fit_items hi ?_ (fun _=>by simp) (.inl (by omega)) (fun j hj=>?_)⟩
 ·unfold ownV
  rcases hk with hk | hk
  ·simp [hk]
  ·simp [hk]
 ·rw [hkv]
  have:j=0:=by simp at hj;omega
  subst this;exact ⟨hlt,hd⟩
theorem made8n {ds:List DRule} {i:Nat} (hi:i<ds.length) (hk:ds[i].kind=8):FitV ds i (.mk 0 [] []):=fit_flat hi (by unfold ownV;simp [hk]) (by simp)
theorem choice_tags {ds:List DRule} (hok:descOk ds=true) {i:Nat} (hi:i<ds.length) (hk:ds[i].kind=7):0<ds[i].tags.length∧ds[i].tags.length≤8:=by
 have h:=ruleKind hok i hi;unfold kindOk at h;rw [if_neg (by omega),if_neg (by omega),if_neg (by omega),if_neg (by omega),if_neg (by omega),if_neg (by omega),if_pos hk] at h;unfold choOk at h;simp only [Bool.and_eq_true,between_iff] at h
 omega
theorem made7 {ds:List DRule} (hok:descOk ds=true) {i:Nat} (hi:i<ds.length) (hk:ds[i].kind=7) (x:Nat) (hx:x<ds[i].tags.length):∀ d,FitV ds (kd ds[i] (x+1)) d→FitV ds i (.mk ds[i].tags[x] [] [d]):=by
 have hkt:=((kids_len hok i hi).2.2.2.1 hk).1;have hlt:=kd_lt hok i hi (x+1) (by omega)
 have hself:tagN ds[i].tags ds[i].tags[x]=x:=by
  have:=tagN_self hok i hi hk x hx
  rwa [List.getD_eq_getElem?_getD,List.getElem?_eq_getElem hx,Option.getD_some] at this
 have hkv:∀ j,kidV ds[i] ds[i].tags[x] j=kd ds[i] (x+1):=fun j=>by unfold kidV;rw [if_neg (by omega),if_neg (by omega),if_pos hk,hself]
 refine fun d hd=>fit_items hi ?_ (fun _=>by simp) (.inl (by omega)) (fun j hj=>?_)
 ·unfold ownV
  rw [if_neg (by omega),if_neg (by omega),if_neg (by omega),if_neg (by omega),if_neg (by omega),if_neg (by omega),if_pos hk,hself,decide_eq_true hx]
  rfl
 ·rw [hkv]
  have:j=0:=by simp at hj;omega
  subst this;exact ⟨hlt,hd⟩
def FitL (ds:List DRule) (KD:Nat→Nat) (l:List DVal):Prop:=∀ j (hj:j<l.length),FitV ds (KD j) l[j]
theorem FitL.nil (ds:List DRule) (KD:Nat→Nat):FitL ds KD []:=fun j hj=>by simp at hj
theorem FitL.snoc {ds:List DRule} {KD:Nat→Nat} {l:List DVal} (h:FitL ds KD l) {x:DVal} (hx:FitV ds (KD l.length) x):FitL ds KD (l++[x]):=by
 intro j hj;rw [List.length_append,List.length_singleton] at hj;rcases (by omega:j<l.length∨j=l.length) with h1 | rfl
 ·rw [List.getElem_append_left h1];exact h j h1
 ·rw [List.getElem_append_right (by omega)];simpa using hx
theorem FitL.put {ds:List DRule} {KD:Nat→Nat} {ps:List VT} (h:FitL ds KD (valsOf ps)) {t:VT} (hx:FitV ds (KD ps.length) t.val):FitL ds KD (valsOf (ps++[t])):=by
 rw [valsOf_append];refine FitL.snoc h ?_
 rwa [valsOf_len]
theorem made6 {ds:List DRule} (hok:descOk ds=true) {i:Nat} (hi:i<ds.length) (hk:ds[i].kind=6):(0<ds[i].kids.length∧ds[i].kids.length≤8)∧∀ its:List DVal,its.length=ds[i].kids.length→FitL ds (fun k=>kd ds[i] k) its→FitV ds i (.mk 0 [] its):=by
 have h:=ruleKind hok i hi;unfold kindOk at h;rw [if_neg (by omega),if_neg (by omega),if_neg (by omega),if_neg (by omega),if_neg (by omega),if_pos hk] at h;unfold seqOk at h;simp only [Bool.and_eq_true,between_iff] at h;have h8:0<ds[i].kids.length∧ds[i].kids.length≤8:=by omega
 have h3:=((kids_len hok i hi).2.2.1 hk).1;refine ⟨h8,fun its hl hf=>fit_items hi ?_ (fun hS=>by have:=hS i hi;omega) ?_ (fun j hj=>?_)⟩
 ·unfold ownV
  rw [if_neg (by omega),if_neg (by omega),if_neg (by omega),if_neg (by omega),if_neg (by omega),if_pos hk,hl];simp
 ·have:=kd_lt hok i hi 0 (by omega)
  left;omega
 ·have hkv:kidV ds[i] 0 j=kd ds[i] j:=by unfold kidV;rw [if_neg (by omega),if_pos hk]
  rw [hkv];exact ⟨kd_lt hok i hi j (by omega),hf j hj⟩
theorem made5 {ds:List DRule} (hok:descOk ds=true) {i:Nat} (hi:i<ds.length) (hk:ds[i].kind=5):∀ its:List DVal,its.length≤3→FitL ds (fun _=>kd ds[i] 1) its→FitV ds i (.mk 0 [] its):=by
 have hkl:=((kids_len hok i hi).2.1 hk).1;have hlim:=limK_ge hok hi (.inr hk);have hlt:=kd_lt hok i hi 1 (by omega);refine fun its hl hf=>fit_items hi ?_ (fun _=>by omega) (.inl (by omega)) (fun j hj=>?_)
 ·unfold ownV
  rw [if_neg (by omega),if_neg (by omega),if_neg (by omega),if_neg (by omega),if_pos hk]
  have:(its.length:Int)≤min 40 (limD ds (ds[i].kids.getD 0 0)):=by omega
  rw [decide_eq_true this];rfl
 ·have hkv:kidV ds[i] 0 j=kd ds[i] 1:=by unfold kidV;rw [if_pos hk]
  rw [hkv];exact ⟨hlt,hf j hj⟩
end Go.Proofs.YtlfhealneccdkaaGreatDoor
