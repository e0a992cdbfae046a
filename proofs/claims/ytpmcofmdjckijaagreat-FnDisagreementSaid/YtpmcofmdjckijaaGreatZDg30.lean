/- Texts, laid into one. -/
import Derived.Test.YtpmcofmdjckijaaGreatZDg18
import Derived.Test.YtpmcofmdjckijaaGreatZDg27
set_option linter.unusedVariables false
set_option linter.unusedSimpArgs false
set_option maxRecDepth 100000
set_option maxHeartbeats 16000000
namespace Go.Proofs.YtpmcofmdjckijaaGreat
open Go.RowKit Go.Sort
theorem OwnD.stay {wb w:World} {v:Value} {ps:List RV} (h:OwnD wb w v ps) (hs:∀ q∈ps,ShortR q.r) (hn:ps.length≤24) {p:Nat} (hp:∀ u∈v::ps.flatMap RV.vals,∀ b,u.ownBlock=some b→b≠p) (i:Nat) (hi:i<ps.length) :
 ∃ g cap Ab cb An cn At ct Ak ck,v=.slice (some ⟨g,0,none⟩) ps.length cap∧∀ w',w.grownBy w' (some p) →
  RdS w' ps[i].r Ab cb An cn At ct Ak ck∧RuleAt w' g (i*8) ps[i].r (.slice Ab ps[i].r.bytes.length cb) (.slice An ps[i].r.names.length cn) (.slice At ps[i].r.tags.length ct) (.slice Ak ps[i].r.kids.length ck):=by
 obtain ⟨Ab,cb,An,cn,At,ct,Ak,ck,e1,e2,e3,e4,hS⟩:=(h.each _ (List.getElem_mem hi)).rd (hs _ (List.getElem_mem hi));have hkeep:∀ w',w.grownBy w' (some p)→OwnD wb w' v ps:=fun w' hg=>h.keep hg (fun u hu b hb hh=>by injection hh with hh;exact hp u hu b hb hh.symm)
 rcases h.row.2 with ⟨_,h0⟩ | ⟨g,cap,cur,hv,hb,hg,hnc,hcm,hcs,htake⟩
 ·omega
 ·refine ⟨g,cap,Ab,cb,An,cn,At,ct,Ak,ck,hv,fun w' hgw=>?_⟩
  have hO:=hkeep w' hgw;obtain ⟨Ab',cb',An',cn',At',ct',Ak',ck',f1,f2,f3,f4,hS'⟩:=(hO.each _ (List.getElem_mem hi)).rd (hs _ (List.getElem_mem hi));rw [e1] at f1;rw [e2] at f2;rw [e3] at f3;rw [e4] at f4;injection f1 with x1 _ x2;injection f2 with x3 _ x4;injection f3 with x5 _ x6;injection f4 with x7 _ x8
  subst x1;subst x2;subst x3;subst x4;subst x5;subst x6;subst x7;subst x8;refine ⟨hS',?_⟩;rcases hO.row.2 with ⟨_,h0⟩ | ⟨g',cap',cur',hv',hb',hg',hnc',hcm',hcs',htake'⟩
  ·omega
  ·rw [hv] at hv'
   injection hv' with y1 _ _
   injection y1 with y1;injection y1 with y1 _ _
   subst y1
   have hc:∀ (w2:World),Ext w' w2→∀ j,j<8→w2.cell? ⟨g,i*8+j,none⟩=ps[i].cells[j]?:=by
    intro w2 e j hj;rw [heap_row hg' e,← cells_get ps i j hi hj,← htake',List.getElem?_take,if_pos (by omega)];simp
   rw [← e1,← e2,← e3,← e4]
   exact ⟨fun w2 e=>by have:=hc w2 e 0 (by omega);simpa [RV.cells] using this,fun w2 e=>by have:=hc w2 e 1 (by omega);simpa [RV.cells] using this,fun w2 e=>by have:=hc w2 e 2 (by omega);simpa [RV.cells] using this,fun w2 e=>by have:=hc w2 e 3 (by omega);simpa [RV.cells] using this,
    fun w2 e=>by have:=hc w2 e 4 (by omega);simpa [RV.cells] using this,fun w2 e=>by have:=hc w2 e 5 (by omega);simpa [RV.cells] using this,fun w2 e=>by have:=hc w2 e 6 (by omega);simpa [RV.cells] using this,fun w2 e=>by have:=hc w2 e 7 (by omega);simpa [RV.cells] using this⟩
abbrev val0:Array Value:=#[.int .i64 0,.slice none 0 0,.slice none 0 0]
structure VM (wb w wr:World) (p:Nat) (A:Option Addr) (l:List UInt8) (c:Nat) (dv:Value) (rc:Array Value) (n:Int) (vb:Value) (bs:List UInt8) (vi:Value) (ps:List VT):Prop where
 db:Box wr w.heap.size #[dv] 26
 res:Box wr (w.heap.size+1) val0 46
 rb:Box wr (w.heap.size+1+1) rc 96
 box:Box wr (w.heap.size+1+1+1) #[.int .i64 n,vb,vi] 46
 own:OwnL vu8 5 wb wr vb bs
 its:OwnTs wb wr vi ps
 far:Far (vb::vi::ps.flatMap VT.vals)
 new:∀ u∈vb::vi::ps.flatMap VT.vals,∀ b,u.ownBlock=some b→w.heap.size+4≤b
 cur:Cur wb wr p A l c
 grow:w.grownBy wr (some p)
section
variable {wb w wr w':World} {p:Nat} {A:Option Addr} {l:List UInt8} {c:Nat} {dv:Value} {rc:Array Value} {n:Int} {vb:Value} {bs:List UInt8} {vi:Value} {ps:List VT}
theorem VM.moved (h:VM wb w wr p A l c dv rc n vb bs vi ps) (hp:p<w.heap.size) (hC:Cur wb w' p A l c) (hg:wr.grownBy w' (some p)):VM wb w w' p A l c dv rc n vb bs vi ps:=by
 have ne:∀ k,w.heap.size≤k→(some p:Option Nat)≠some k:=fun k hk hh=>by injection hh with hh;omega
 exact ⟨h.db.moved hg (ne _ (by omega)),h.res.moved hg (ne _ (by omega)),h.rb.moved hg (ne _ (by omega)),h.box.moved hg (ne _ (by omega)),
  h.own.keep hg (fun b hb=>ne b (by have:=h.new _ (List.mem_cons_self ..) b hb;omega)),
  h.its.keep hg (fun u hu b hb=>ne b (by have:=h.new u (List.mem_cons_of_mem _ hu) b hb;omega)),h.far,h.new,hC,h.grow.trans hg⟩
theorem VM.ext (h:VM wb w wr p A l c dv rc n vb bs vi ps) (hp:p<w.heap.size) (e:Ext wr w'):VM wb w w' p A l c dv rc n vb bs vi ps:=h.moved hp (h.cur.ext e) (grown_ext e _)
theorem VM.size (h:VM wb w wr p A l c dv rc n vb bs vi ps):w.heap.size+4≤wr.heap.size:=h.box.lt
theorem VM.stored (hp:p<w.heap.size) (hw:wb.heap.size≤w.heap.size) {n':Int} {vb' vi':Value} {bs':List UInt8} {ps':List VT} {a b c':Value}
 (db:Box wr w.heap.size #[dv] 26) (res:Box wr (w.heap.size+1) val0 46) (rb:Box wr (w.heap.size+1+1) rc 96) (box:Box wr (w.heap.size+1+1+1) #[a,b,c'] 46)
 (own:OwnL vu8 5 wb wr vb' bs') (its:OwnTs wb wr vi' ps') (far:Far (vb'::vi'::ps'.flatMap VT.vals)) (new:∀ u∈vb'::vi'::ps'.flatMap VT.vals,∀ b,u.ownBlock=some b→w.heap.size+4≤b) (cur:Cur wb wr p A l c) (grow:w.grownBy wr (some p))
 (k:Nat) (u:Value) (hq:(#[a,b,c']:Array Value).setIfInBounds k u=#[.int .i64 n',vb',vi']):VM wb w (wr.setCell ⟨w.heap.size+1+1+1,k,none⟩ u) p A l c dv rc n' vb' bs' vi' ps':=by
 have hs:=box.set k u;rw [hq] at hs;refine ⟨db.other (by omega) _ _,res.other (by omega) _ _,rb.other (by omega) _ _,hs,own.keep (grown_set wr ⟨w.heap.size+1+1+1,k,none⟩ u) (fun b hb hh=>?_),its.keep (grown_set wr ⟨w.heap.size+1+1+1,k,none⟩ u) (fun x hx b hb hh=>?_),far,new,cur.set (a:=⟨w.heap.size+1+1+1,k,none⟩) (by show w.heap.size+1+1+1≠p;omega) (by show wb.heap.size≤w.heap.size+1+1+1;omega) u,grown_new (a:=⟨w.heap.size+1+1+1,k,none⟩) grow (by show w.heap.size≤w.heap.size+1+1+1;omega) u⟩
 ·have:=new _ (List.mem_cons_self ..) b hb;injection hh with hh;simp at hh;omega
 ·have:=new _ (List.mem_cons_of_mem _ hx) b hb;injection hh with hh;simp at hh;omega
theorem VM.num (h:VM wb w wr p A l c dv rc n vb bs vi ps) (hp:p<w.heap.size) (hw:wb.heap.size≤w.heap.size) (n':Int):VM wb w (wr.setCell ⟨w.heap.size+1+1+1,0,none⟩ (.int .i64 n')) p A l c dv rc n' vb bs vi ps :=
 VM.stored hp hw h.db h.res h.rb h.box h.own h.its h.far h.new h.cur h.grow 0 _ rfl
theorem VM.bytes (h:VM wb w wr p A l c dv rc n vb bs vi ps) (hp:p<w.heap.size) (hw:wb.heap.size≤w.heap.size) {vb':Value} {bs':List UInt8} (ho:OwnL vu8 5 wb wr vb' bs') {n0:Nat} (hn:∀ b,vb'.ownBlock=some b→n0≤b) (ho0:∀ u∈vi::ps.flatMap VT.vals,∀ b,u.ownBlock=some b→b<n0) (h4:w.heap.size+4≤n0) :
 VM wb w (wr.setCell ⟨w.heap.size+1+1+1,1,none⟩ vb') p A l c dv rc n vb' bs' vi ps:=by
 have hf:=h.far;unfold Far at hf;rw [List.pairwise_cons] at hf;refine VM.stored hp hw h.db h.res h.rb h.box ho h.its (Far.cons hf.2 (fun u hu b h1 h2=>by have:=hn b h1;have:=ho0 u hu b h2;omega)) (fun u hu b hb=>?_) h.cur h.grow 1 _ rfl;rcases List.mem_cons.1 hu with rfl | hu
 ·have:=hn b hb;omega
 ·exact h.new u (List.mem_cons_of_mem _ hu) b hb
theorem VM.items (h:VM wb w wr p A l c dv rc n vb bs vi ps) (hp:p<w.heap.size) (hw:wb.heap.size≤w.heap.size) {w7:World} {vi':Value} {ps':List VT} (db:Box w7 w.heap.size #[dv] 26) (res:Box w7 (w.heap.size+1) val0 46) (rb:Box w7 (w.heap.size+1+1) rc 96) (box:Box w7 (w.heap.size+1+1+1) #[.int .i64 n,vb,vi] 46)
 (own:OwnL vu8 5 wb w7 vb bs) (its:OwnTs wb w7 vi' ps') (hfr:∀ u∈vi'::ps'.flatMap VT.vals,∀ b,u.ownBlock=some b→w.heap.size+4≤b∧vb.ownBlock≠some b) (cur:Cur wb w7 p A l c) (grow:w.grownBy w7 (some p)) :
 VM wb w (w7.setCell ⟨w.heap.size+1+1+1,2,none⟩ vi') p A l c dv rc n vb bs vi' ps':=by
 refine VM.stored hp hw db res rb box own its (Far.cons its.far (fun u hu b h1 h2=>(hfr u hu b h2).2 h1)) (fun u hu b hb=>?_) cur grow 2 _ rfl;rcases List.mem_cons.1 hu with rfl | hu
 ·exact h.new _ (List.mem_cons_self ..) b hb
 ·exact (hfr u hu b hb).1
theorem VM.snoc {w5 w7:World} {t:VT} {vi':Value} (h:VM wb w w5 p A l c dv rc n vb bs vi ps) (hp:p<w.heap.size) (hw:wb.heap.size≤w.heap.size) (hro:OwnT wb w5 t) (hfr:Far t.vals) {n0:Nat} (hnew:∀ u∈t.vals,∀ b,u.ownBlock=some b→n0≤b) (hold:∀ u∈vb::vi::ps.flatMap VT.vals,∀ b,u.ownBlock=some b→b<n0) (h4:w.heap.size+4≤n0) (hn5:n0≤w5.heap.size)
 (ho7:Own 46 3 wb w7 vi' (ps.length+1) (ps.flatMap VT.cells++t.cells)) (he7:Ext wb w7) (hg7:w5.grownBy w7 vi.ownBlock) (hv:vi'.ownBlock=vi.ownBlock∨vi'.ownBlock=some w5.heap.size) :
 (w7.cell? ⟨w.heap.size+1+1+1,2,none⟩=some vi∧w7.frozen? ⟨w.heap.size+1+1+1,2,none⟩=false)∧VM wb w (w7.setCell ⟨w.heap.size+1+1+1,2,none⟩ vi') p A l c dv rc n vb bs vi' (ps++[t]):=by
 have hvi:∀ b,vi.ownBlock=some b→w.heap.size+4≤b:=fun b hb=>h.new vi (by simp) b hb
 have ne:∀ k,k<w.heap.size+4→vi.ownBlock≠some k:=fun k hk hh=>by have:=hvi k hh;omega
 have hb:=h.box.moved hg7 (ne _ (by omega));have hf:=h.far;unfold Far at hf;rw [List.pairwise_cons] at hf;have hf2:=hf.2;rw [List.pairwise_cons] at hf2
 have hts:OwnTs wb w7 vi' (ps++[t]):=by
  refine ⟨?_,fun q hq=>?_,?_⟩
  ·rw [List.length_append,List.flatMap_append,List.flatMap_cons,List.flatMap_nil,List.append_nil];exact ho7
  ·rcases List.mem_append.1 hq with hq | hq
   ·exact (h.its.each q hq).keep hg7 (fun u hu b hb he=>hf2.1 u (List.mem_flatMap.2 ⟨q,hq,hu⟩) b he hb)
   ·obtain rfl:=List.mem_singleton.1 hq
    exact hro.keep hg7 (fun u hu b hb he=>by have:=hnew u hu b hb;have:=hold vi (by simp) b he;omega)
  ·rw [List.flatMap_append,List.flatMap_cons,List.flatMap_nil,List.append_nil]
   refine Far.cons (Far.append hf2.2 hfr (fun u hu x hx b h1 h2=>by have:=hold u (by simp [hu]) b h1;have:=hnew x hx b h2;omega)) (fun x hx b h1 h2=>?_);rcases hv with hv | hv
   ·rw [hv] at h1
    rcases List.mem_append.1 hx with hx | hx
    ·exact hf2.1 x hx b h1 h2
    ·have:=hold vi (by simp) b h1;have:=hnew x hx b h2;omega
   ·rw [hv] at h1
    injection h1 with h1
    rcases List.mem_append.1 hx with hx | hx
    ·have:=hold x (by simp [hx]) b h2;omega
    ·have:=(hro.block x hx b h2).2;omega
 refine ⟨⟨hb.cell 2,hb.free 2⟩,VM.items h hp hw (h.db.moved hg7 (ne _ (by omega))) (h.res.moved hg7 (ne _ (by omega))) (h.rb.moved hg7 (ne _ (by omega))) hb (h.own.keep hg7 (fun b h1 h2=>hf.1 vi (by simp) b h1 h2)) hts (fun u hu b hub=>?_) (h.cur.kept hg7 (fun hh=>by have:=hvi p hh;omega) he7) (grown_own h.grow (fun b hb=>by have:=hvi b hb;omega) hg7)⟩;rcases List.mem_cons.1 hu with rfl | hu
 ·rcases hv with hv | hv
  ·rw [hv] at hub
   exact ⟨hvi b hub,fun h1=>hf.1 vi (by simp) b h1 hub⟩
  ·rw [hv] at hub
   injection hub with hub
   exact ⟨by omega,fun h1=>by have:=hold vb (by simp) b h1;omega⟩
 ·rw [List.flatMap_append,List.flatMap_cons,List.flatMap_nil,List.append_nil] at hu
  rcases List.mem_append.1 hu with hu | hu
  ·exact ⟨h.new u (by simp [hu]) b hub,fun h1=>hf.1 u (by simp [hu]) b h1 hub⟩
  ·exact ⟨by have:=hnew u hu b hub;omega,fun h1=>by have:=hold vb (by simp) b h1;have:=hnew u hu b hub;omega⟩
theorem VM.out (h:VM wb w wr p A l c dv rc n vb bs vi ps) (hp:p<w.heap.size) (hw:wb.heap.size≤w.heap.size) (x y z:Value) :
 OwnT wb (((wr.setCell ⟨w.heap.size+1,0,none⟩ x).setCell ⟨w.heap.size+1,1,none⟩ y).setCell ⟨w.heap.size+1,2,none⟩ z) (.mk n bs vb ps vi)∧Far (VT.vals (.mk n bs vb ps vi))∧(∀ u∈VT.vals (.mk n bs vb ps vi),∀ b,u.ownBlock=some b→w.heap.size≤b) ∧
 Cur wb (((wr.setCell ⟨w.heap.size+1,0,none⟩ x).setCell ⟨w.heap.size+1,1,none⟩ y).setCell ⟨w.heap.size+1,2,none⟩ z) p A l c∧w.grownBy (((wr.setCell ⟨w.heap.size+1,0,none⟩ x).setCell ⟨w.heap.size+1,1,none⟩ y).setCell ⟨w.heap.size+1,2,none⟩ z) (some p):=by
 have G:=((grown_set wr ⟨w.heap.size+1,0,none⟩ x).trans (grown_set _ ⟨w.heap.size+1,1,none⟩ y)).trans (grown_set _ ⟨w.heap.size+1,2,none⟩ z);have hne:∀ u∈vb::vi::ps.flatMap VT.vals,∀ b,u.ownBlock=some b→(some (w.heap.size+1):Option Nat)≠some b:=fun u hu b hb hh=>by have:=h.new u hu b hb;injection hh with hh;omega
 have o2:=h.its.keep G (fun u hu b hb=>hne u (List.mem_cons_of_mem _ hu) b hb);refine ⟨.mk (h.own.keep G (fun b hb=>hne _ (List.mem_cons_self ..) b hb)) o2.row o2.each,by rw [VT.vals_eq];exact h.far,fun u hu b hb=>by rw [VT.vals_eq] at hu;have:=h.new u hu b hb;omega,?_,?_⟩
 ·exact ((h.cur.set (a:=⟨w.heap.size+1,0,none⟩) (by show w.heap.size+1≠p;omega) (by show wb.heap.size≤w.heap.size+1;omega) x).set (a:=⟨w.heap.size+1,1,none⟩) (by show w.heap.size+1≠p;omega) (by show wb.heap.size≤w.heap.size+1;omega) y).set (a:=⟨w.heap.size+1,2,none⟩) (by show w.heap.size+1≠p;omega) (by show wb.heap.size≤w.heap.size+1;omega) z
 ·exact grown_new (a:=⟨w.heap.size+1,2,none⟩) (grown_new (a:=⟨w.heap.size+1,1,none⟩) (grown_new (a:=⟨w.heap.size+1,0,none⟩) h.grow (by show w.heap.size≤w.heap.size+1;omega) x) (by show w.heap.size≤w.heap.size+1;omega) y) (by show w.heap.size≤w.heap.size+1;omega) z
theorem VM.old (h:VM wb w wr p A l c dv rc n vb bs vi ps):∀ u∈vb::vi::ps.flatMap VT.vals,∀ b,u.ownBlock=some b→b<wr.heap.size:=by
 intro u hu b hb;rcases List.mem_cons.1 hu with rfl | hu
 ·exact (World.ownsRow.lt h.own b hb).2
 ·exact (h.its.block u hu b hb).2
end
structure StayD (w:World) (p:Nat) (Ad:Option Addr) (ds:List DRule) (cd:Nat):Prop where
 out:∃ g off,Ad=some ⟨g,off,none⟩∧g<w.heap.size∧∀ i (hi:i<ds.length),∃ Ab cb An cn At ct Ak ck,∀ w',w.grownBy w' (some p) →
  RdS w' ds[i] Ab cb An cn At ct Ak ck∧RuleAt w' g (off+i*8) ds[i] (.slice Ab ds[i].bytes.length cb) (.slice An ds[i].names.length cn) (.slice At ds[i].tags.length ct) (.slice Ak ds[i].kids.length ck)
theorem StayD.mono {w w':World} {p:Nat} {Ad:Option Addr} {ds:List DRule} {cd:Nat} (h:StayD w p Ad ds cd) (hg:w.grownBy w' (some p)):StayD w' p Ad ds cd:=by
 obtain ⟨g,off,h1,h0,h2⟩:=h.out;refine ⟨g,off,h1,Nat.lt_of_lt_of_le h0 hg.size,fun i hi=>?_⟩;obtain ⟨Ab,cb,An,cn,At,ct,Ak,ck,h3⟩:=h2 i hi;exact ⟨Ab,cb,An,cn,At,ct,Ak,ck,fun w2 h4=>h3 w2 (hg.trans h4)⟩
theorem Rd0.cellAt {α:Type} {f:α→Value} {w:World} {b o:Nat} {l:List α} {c:Nat} (h:Rd0 f w (some ⟨b,o,none⟩) l c) (k:Nat) (hk:k<l.length):w.cell? ⟨b,o+k,none⟩=some (f l[k]):=by
 obtain ⟨b',o',h1,_,h2⟩:=h.at k hk;injection h1 with h1
 injection h1 with h1 h3 _
 subst h1;subst h3;exact h2 w (Ext.refl w)
structure DrawnV (ds:List DRule) (i:Nat) (wb w w':World) (p:Nat) (A:Option Addr) (l:List UInt8) (c:Nat) (t:VT):Prop where
 valid:validV ds i t.val=true
 sz:szV t.val≤100*9^i
 own:OwnT wb w' t
 far:Far t.vals
 new:∀ u∈t.vals,∀ b,u.ownBlock=some b→w.heap.size≤b
 cur:Cur wb w' p A l c
 grow:w.grownBy w' (some p)
def MakeOk (Ad:Option Addr) (ds:List DRule) (cd:Nat) (wb:World) (p:Nat) (A:Option Addr) (l:List UInt8) (c i:Nat):Prop :=
 ∀ (m:Nat),m≤100→∀ w,Cur wb w p A l c→StayD w p Ad ds cd→Calls Tryz.prog 120 #[.pointer (some ⟨p,0,none⟩),.agg #[.slice Ad ds.length cd],.int .i64 (i:Int),.int .i64 (m:Int)] w fun e w' =>
  ∃ (t:VT) (A1:Option Addr) (n1 c1:Nat) (A2:Option Addr) (n2 c2:Nat),e=.returned (.agg #[.int .i64 t.num,.slice A1 n1 c1,.slice A2 n2 c2])∧Hid (t.vb=.slice A1 n1 c1∧t.vi=.slice A2 n2 c2)∧DrawnV ds i wb w w' p A l c t
theorem VM.asis {wb w wr:World} {p:Nat} {A:Option Addr} {l:List UInt8} {c:Nat} {dv:Value} {rc:Array Value} {n:Int} {vb:Value} {bs:List UInt8} {vi:Value} {ps:List VT} (h:VM wb w wr p A l c dv rc n vb bs vi ps) :
 OwnT wb wr (.mk n bs vb ps vi)∧Far (VT.vals (.mk n bs vb ps vi))∧(∀ u∈VT.vals (.mk n bs vb ps vi),∀ b,u.ownBlock=some b→w.heap.size≤b)∧Cur wb wr p A l c∧w.grownBy wr (some p) :=
 ⟨.mk h.own h.its.row h.its.each,by rw [VT.vals_eq];exact h.far,fun u hu b hb=>by rw [VT.vals_eq] at hu;have:=h.new u hu b hb;omega,h.cur,h.grow⟩
theorem VM.single {wb w w5:World} {p:Nat} {A:Option Addr} {l:List UInt8} {c:Nat} {dv:Value} {rc:Array Value} {n:Int} {vb:Value} {bs:List UInt8} {t:VT} (h:VM wb w w5 p A l c dv rc n vb bs (.slice none 0 0) []) (hp:p<w.heap.size) (hw:wb.heap.size≤w.heap.size) (ht:OwnT wb w5 t) (hf:Far t.vals) {n0:Nat} (hnew:∀ u∈t.vals,∀ b,u.ownBlock=some b→n0≤b) (hvb:∀ b,vb.ownBlock=some b→b<n0) (h4:w.heap.size+4≤n0) {cs:Array Value} (hcs:cs=t.cells.toArray) :
 VM wb w ((w5.alloc (.cells cs 46)).setCell ⟨w.heap.size+1+1+1,2,none⟩ (.slice (some ⟨w5.heap.size,0,none⟩) 1 1)) p A l c dv rc n vb bs (.slice (some ⟨w5.heap.size,0,none⟩) 1 1) [t]:=by
 subst hcs;have e:=Ext_alloc (.cells t.cells.toArray 46) (Ext.refl w5);have h1:=h.ext hp e;have hs:=h.size;have hb5:=h.cur.2.1.size;refine VM.items h1 hp hw h1.db h1.res h1.rb h1.box h1.own (ps':=[t]) ⟨?_,fun q hq=>?_,?_⟩ (fun u hu b hb=>?_) h1.cur h1.grow
 ·exact ⟨by simp [VT.cells],.inr ⟨w5.heap.size,1,_,rfl,hb5,heap_alloc_new w5 _,by simp,by simp [maxLen],by simp [VT.cells],by simp [VT.cells]⟩⟩
 ·obtain rfl:=List.mem_singleton.1 hq
  exact ht.ext e
 ·rw [List.flatMap_cons,List.flatMap_nil,List.append_nil]
  refine Far.cons hf (fun x hx b h2 h3=>?_);injection h2 with h2
  have:=(ht.block x hx b h3).2;simp at h2;omega
 ·rw [List.flatMap_cons,List.flatMap_nil,List.append_nil] at hu
  rcases List.mem_cons.1 hu with rfl | hu
  ·injection hb with hb
   simp at hb
   refine ⟨by omega,fun h2=>?_⟩
   have:=(World.ownsRow.lt h.own b h2).2
   omega
  ·have h5:=hnew u hu b hb
   refine ⟨by omega,fun h2=>?_⟩
   have:=hvb b h2
   omega
theorem VM.byte0 {wb w wr:World} {p:Nat} {A:Option Addr} {l:List UInt8} {c:Nat} {dv:Value} {rc:Array Value} {n:Int} {g3 c3:Nat} {bs:List UInt8} {vi:Value} {ps:List VT} (h:VM wb w wr p A l c dv rc n (.slice (some ⟨g3,0,none⟩) bs.length c3) bs vi ps) (hp:p<w.heap.size) (hw:wb.heap.size≤w.heap.size) (h0:0<bs.length) (y:UInt8) (u:Int) (hu:u=(y.toNat:Int)) :
 (∃ u0,wr.cell? ⟨g3,0,none⟩=some u0)∧wr.frozen? ⟨g3,0,none⟩=false∧VM wb w (wr.setCell ⟨g3,0,none⟩ (.int .u8 u)) p A l c dv rc n (.slice (some ⟨g3,0,none⟩) bs.length c3) (bs.set 0 y) vi ps:=by
 subst hu;obtain ⟨hs,hf⟩:=Own.slot h.own 0 (by simp;omega);obtain ⟨ho',he'⟩:=Own.store h.own h.cur.2.1 0 (.int .u8 (y.toNat:Int));have hset:(bs.map vu8).set 0 (.int .u8 (y.toNat:Int))=(bs.set 0 y).map vu8:=by rw [List.map_set];rfl
 rw [hset] at ho';have hg:=h.new _ (List.mem_cons_self ..) g3 rfl;have hfar:=h.far;unfold Far at hfar;rw [List.pairwise_cons] at hfar;refine ⟨hs,hf,h.db.other (by omega) _ _,h.res.other (by omega) _ _,h.rb.other (by omega) _ _,h.box.other (by omega) _ _,?_,h.its.keep (grown_set wr ⟨g3,0,none⟩ _) (fun x hx b hb hh=>?_),h.far,h.new,h.cur.set (a:=⟨g3,0,none⟩) (by show g3≠p;omega) (by show wb.heap.size≤g3;omega) _,grown_new (a:=⟨g3,0,none⟩) h.grow (by show w.heap.size≤g3;omega) _⟩
 ·unfold OwnL;rw [List.length_set];exact ho'
 ·injection hh with hh
  exact hfar.1 x hx b (congrArg some hh) hb
def FitV (ds:List DRule) (i:Nat) (v:DVal):Prop:=validV ds i v=true∧szV v≤100*9^i
theorem fit_flat {ds:List DRule} {i:Nat} (hi:i<ds.length) {n:Int} {b:List UInt8} (ho:ownV ds ds[i] n b.length 0=true) (hb:b.length≤100):FitV ds i (.mk n b []):=by
 refine ⟨validV_yes (hi:=hi) ho (fun j hj=>by simp [DVal.items] at hj),?_⟩;rw [szV_eq];simp only [DVal.bytes,DVal.items,szVs]
 have:=Nat.one_le_pow i 9 (by omega)
 omega
theorem fit_items {ds:List DRule} {i:Nat} (hi:i<ds.length) {n:Int} {its:List DVal} (ho:ownV ds ds[i] n 0 its.length=true) (hl:its.length≤8) (hi0:0<i∨its=[]) (hv:∀ j (hj:j<its.length),kidV ds[i] n j<i∧FitV ds (kidV ds[i] n j) its[j]):FitV ds i (.mk n [] its):=by
 refine ⟨validV_yes (hi:=hi) ho (fun j hj=>(hv j hj).2.1),?_⟩;rw [szV_eq,szVs_sum];simp only [DVal.bytes,DVal.items,List.length_nil];rcases hi0 with hi0 | rfl
 ·have h1:∀ x∈its,szV x≤100*9^(i-1):=fun x hx=>by
   obtain ⟨j,hj,rfl⟩:=List.getElem_of_mem hx;have h2:=(hv j hj).2.2;have h3:=Nat.pow_le_pow_right (n:=9) (by omega) (show kidV ds[i] n j≤i-1 by have:=(hv j hj).1;omega)
   omega
  have h4:(its.map szV).sum≤its.length*(100*9^(i-1)):=by
   have:∀ (B:Nat) (q:List DVal),(∀ x∈q,szV x≤B)→(q.map szV).sum≤q.length*B:=by
    intro B q
    induction q with
    | nil=>intro _;simp
    | cons x t ih =>
     intro h
     have:=ih (fun y hy=>h y (List.mem_cons_of_mem _ hy));have h5:=h x (List.mem_cons_self ..);simp only [List.map_cons,List.sum_cons,List.length_cons,Nat.succ_mul]
     omega
   exact this _ its h1
  have h5:its.length*(100*9^(i-1))≤8*(100*9^(i-1)):=Nat.mul_le_mul_right _ hl
  have h6:9^i=9*9^(i-1):=by rw [← Nat.pow_succ'];congr 1;omega
  have:=Nat.one_le_pow (i-1) 9 (by omega)
  omega
 ·simp
theorem limK_ge {ds:List DRule} (hok:descOk ds=true) {i:Nat} (hi:i<ds.length) (hk:ds[i].kind=4∨ds[i].kind=5):255≤limD ds (ds[i].kids.getD 0 0):=by
 have h0:0<limD ds (ds[i].kids.getD 0 0):=by
  have:=kids_len hok i hi;rcases hk with hk | hk
  ·exact (this.1 hk).2
  ·exact (this.2.1 hk).2
 unfold limD at *
 split at h0
 ·rename_i h1
  rw [if_pos h1]
  split at h0
  ·rename_i r hr
   try rw [hr]
   try dsimp only
   rcases limR_cases r with h2 | h2 | h2 | h2 | h2<;>omega
  ·omega
 ·omega
theorem made2 {ds:List DRule} {i:Nat} (hi:i<ds.length) (hk:ds[i].kind=2):FitV ds i (.mk 0 [] []):=fit_flat hi (by unfold ownV;rw [if_neg (by omega),if_pos hk];rfl) (by simp)
theorem made1 {ds:List DRule} (hok:descOk ds=true) {i:Nat} (hi:i<ds.length) (hk:ds[i].kind=1):∃ s:Nat,ds[i].size=(s:Int)∧1≤s∧s≤4∧∀ x:Nat,x<256^s→FitV ds i (.mk (x:Int) [] []):=by
 have hs:=(kids_len hok i hi).2.2.2.2.2.1 hk;refine ⟨ds[i].size.toNat,by omega,by omega,by omega,fun x hx=>fit_flat hi ?_ (by simp)⟩;unfold ownV;rw [if_pos hk];have hl:limR ds[i]=256^ds[i].size.toNat-1:=by unfold limR;rw [if_pos ⟨hk,by omega,by omega⟩]
 have:(x:Int)≤limR ds[i]:=by
  rw [hl];have h2:(x:Int)<((256^ds[i].size.toNat:Nat):Int):=Int.ofNat_lt.2 hx
  rw [Int.natCast_pow] at h2;have h3:(((256:Nat):Int)^ds[i].size.toNat)=(256:Int)^ds[i].size.toNat:=rfl
  rw [h3] at h2;exact Int.le_sub_one_of_lt h2
 rw [decide_eq_true this,decide_eq_true (show (0:Int)≤(x:Int) by omega)];rfl
theorem made3 {ds:List DRule} (hok:descOk ds=true) {i:Nat} (hi:i<ds.length) (hk:ds[i].kind=3):∃ s:Nat,ds[i].size=(s:Int)∧s≤64∧∀ b:List UInt8,b.length=s→FitV ds i (.mk 0 b []):=by
 have hs:=(kids_len hok i hi).2.2.2.2.2.2 hk;refine ⟨ds[i].size.toNat,by omega,by omega,fun b hb=>fit_flat hi ?_ (by omega)⟩;unfold ownV;rw [if_neg (by omega),if_neg (by omega),if_pos hk];have h2:(b.length:Int)=ds[i].size:=by omega
 simp only [h2,decide_true];rfl
theorem made4 {ds:List DRule} (hok:descOk ds=true) {i:Nat} (hi:i<ds.length) (hk:ds[i].kind=4):∀ b:List UInt8,b.length≤6→FitV ds i (.mk 0 b []):=by
 intro b hb;refine fit_flat hi ?_ (by omega);have hs:=limK_ge hok hi (.inl hk);unfold ownV;rw [if_neg (by omega),if_neg (by omega),if_neg (by omega),if_pos hk]
 have:(b.length:Int)≤min 400 (limD ds (ds[i].kids.getD 0 0)):=by omega
 rw [decide_eq_true this];rfl
theorem made10 {ds:List DRule} {i:Nat} (hi:i<ds.length) (hk:ds[i].kind=10):∀ b:List UInt8,b.length≤6→FitV ds i (.mk 0 b []):=by
 intro b hb;refine fit_flat hi ?_ (by omega);unfold ownV;simp [hk];omega
theorem made9 {ds:List DRule} (hok:descOk ds=true) {i:Nat} (hi:i<ds.length) (hk:ds[i].kind=8∨ds[i].kind=9):kd ds[i] 0<i∧∀ d,FitV ds (kd ds[i] 0) d→FitV ds i (.mk 0 [] [d]):=by
 have hkl:=(kids_len hok i hi).2.2.2.2.1 hk;have hlt:=kd_lt hok i hi 0 (by omega);have hkv:∀ j,kidV ds[i] 0 j=kd ds[i] 0:=fun j=>by unfold kidV;rw [if_neg (by omega),if_neg (by omega),if_neg (by omega)]
 refine ⟨hlt,fun d hd=>fit_items hi ?_ (by simp) (.inl (by omega)) (fun j hj=>?_)⟩
 ·unfold ownV
  rcases hk with hk | hk
  ·simp [hk]
  ·simp [hk]
 ·rw [hkv]
  have:j=0:=by simp at hj;omega
  subst this;exact ⟨hlt,hd⟩
theorem made8n {ds:List DRule} {i:Nat} (hi:i<ds.length) (hk:ds[i].kind=8):FitV ds i (.mk 0 [] []):=fit_flat hi (by unfold ownV;simp [hk]) (by simp)
theorem choice_tags {ds:List DRule} (hok:descOk ds=true) {i:Nat} (hi:i<ds.length) (hk:ds[i].kind=7):0<ds[i].tags.length∧ds[i].tags.length≤8:=by
 have h:=ruleKind hok i hi;unfold kindOk at h;rw [if_neg (by omega),if_neg (by omega),if_neg (by omega),if_neg (by omega),if_neg (by omega),if_neg (by omega),if_pos hk] at h;unfold choOk at h;simp only [Bool.and_eq_true,between_iff] at h
 omega
theorem made7 {ds:List DRule} (hok:descOk ds=true) {i:Nat} (hi:i<ds.length) (hk:ds[i].kind=7) (x:Nat) (hx:x<ds[i].tags.length):∀ d,FitV ds (kd ds[i] (x+1)) d→FitV ds i (.mk ds[i].tags[x] [] [d]):=by
 have hkt:=((kids_len hok i hi).2.2.2.1 hk).1;have hlt:=kd_lt hok i hi (x+1) (by omega)
 have hself:tagN ds[i].tags ds[i].tags[x]=x:=by
  have:=tagN_self hok i hi hk x hx
  rwa [List.getD_eq_getElem?_getD,List.getElem?_eq_getElem hx,Option.getD_some] at this
 have hkv:∀ j,kidV ds[i] ds[i].tags[x] j=kd ds[i] (x+1):=fun j=>by unfold kidV;rw [if_neg (by omega),if_neg (by omega),if_pos hk,hself]
 refine fun d hd=>fit_items hi ?_ (by simp) (.inl (by omega)) (fun j hj=>?_)
 ·unfold ownV
  rw [if_neg (by omega),if_neg (by omega),if_neg (by omega),if_neg (by omega),if_neg (by omega),if_neg (by omega),if_pos hk,hself,decide_eq_true hx]
  rfl
 ·rw [hkv]
  have:j=0:=by simp at hj;omega
  subst this;exact ⟨hlt,hd⟩
def FitL (ds:List DRule) (KD:Nat→Nat) (l:List DVal):Prop:=∀ j (hj:j<l.length),FitV ds (KD j) l[j]
theorem FitL.nil (ds:List DRule) (KD:Nat→Nat):FitL ds KD []:=fun j hj=>by simp at hj
theorem FitL.snoc {ds:List DRule} {KD:Nat→Nat} {l:List DVal} (h:FitL ds KD l) {x:DVal} (hx:FitV ds (KD l.length) x):FitL ds KD (l++[x]):=by
 intro j hj;rw [List.length_append,List.length_singleton] at hj;rcases (by omega:j<l.length∨j=l.length) with h1 | rfl
 ·rw [List.getElem_append_left h1];exact h j h1
 ·rw [List.getElem_append_right (by omega)];simpa using hx
theorem FitL.put {ds:List DRule} {KD:Nat→Nat} {ps:List VT} (h:FitL ds KD (valsOf ps)) {t:VT} (hx:FitV ds (KD ps.length) t.val):FitL ds KD (valsOf (ps++[t])):=by
 rw [valsOf_append];refine FitL.snoc h ?_
 rwa [valsOf_len]
theorem made6 {ds:List DRule} (hok:descOk ds=true) {i:Nat} (hi:i<ds.length) (hk:ds[i].kind=6):(0<ds[i].kids.length∧ds[i].kids.length≤8)∧∀ its:List DVal,its.length=ds[i].kids.length→FitL ds (fun k=>kd ds[i] k) its→FitV ds i (.mk 0 [] its):=by
 have h:=ruleKind hok i hi;unfold kindOk at h;rw [if_neg (by omega),if_neg (by omega),if_neg (by omega),if_neg (by omega),if_neg (by omega),if_pos hk] at h;unfold seqOk at h;simp only [Bool.and_eq_true,between_iff] at h;have h8:0<ds[i].kids.length∧ds[i].kids.length≤8:=by omega
 refine ⟨h8,fun its hl hf=>fit_items hi ?_ (by omega) ?_ (fun j hj=>?_)⟩
 ·unfold ownV
  rw [if_neg (by omega),if_neg (by omega),if_neg (by omega),if_neg (by omega),if_neg (by omega),if_pos hk,hl];simp
 ·have:=kd_lt hok i hi 0 (by omega)
  left;omega
 ·have hkv:kidV ds[i] 0 j=kd ds[i] j:=by unfold kidV;rw [if_neg (by omega),if_pos hk]
  rw [hkv];exact ⟨kd_lt hok i hi j (by omega),hf j hj⟩
theorem made5 {ds:List DRule} (hok:descOk ds=true) {i:Nat} (hi:i<ds.length) (hk:ds[i].kind=5):∀ its:List DVal,its.length≤3→FitL ds (fun _=>kd ds[i] 1) its→FitV ds i (.mk 0 [] its):=by
 have hkl:=((kids_len hok i hi).2.1 hk).1;have hlim:=limK_ge hok hi (.inr hk);have hlt:=kd_lt hok i hi 1 (by omega);refine fun its hl hf=>fit_items hi ?_ (by omega) (.inl (by omega)) (fun j hj=>?_)
 ·unfold ownV
  rw [if_neg (by omega),if_neg (by omega),if_neg (by omega),if_neg (by omega),if_pos hk]
  have:(its.length:Int)≤min 40 (limD ds (ds[i].kids.getD 0 0)):=by omega
  rw [decide_eq_true this];rfl
 ·have hkv:kidV ds[i] 0 j=kd ds[i] 1:=by unfold kidV;rw [if_pos hk]
  rw [hkv];exact ⟨hlt,hf j hj⟩
theorem l9Make2_c (Ad:Option Addr) (ds:List DRule) (cd:Nat) (hok:descOk ds=true) (i:Nat) (hi:i<ds.length) (hk:ds[i].kind=2) (wb:World) (p:Nat) (A:Option Addr) (l:List UInt8) (c:Nat) (hA:Bs wb A l c) (HR:∀ j,j<i→MakeOk Ad ds cd wb p A l c j):MakeOk Ad ds cd wb p A l c i:=by
 intro m hm w hC hD;have hplt:=hC.lt;have hbw:=hC.2.1.size;have hdl:=(descOk_len hok).2;have CBe:=lhd (fun n w h hn=>l1Below_c n wb w p A l c hA h hn);have COn:=lhd (fun n w h hn=>l1Once_c n wb w p A l c hA h hn);obtain ⟨g,off,hAd,hgw,hall⟩:=hD.out;obtain ⟨Ab,cb,An,cn,At,ct,Ak,ck,hst⟩:=hall i hi;subst hAd;have hS:=(hst w (World.grownBy.refl _ _)).1;obtain ⟨r0,r1,r2,r3,r4,r5,r6,r7⟩:=(hst w (World.grownBy.refl _ _)).2;have HST:=lhd hst;have HD:=lhd hD;have HC:=lhd hC;have hii:(i:Int)<(ds.length:Int):=by omega
 have hi0:(0:Int)≤(i:Int):=by omega
 clear hall hst hD;have t1:=kfF hk 1;have t3:=kfF hk 3;have t4:=kfF hk 4;have t10:=kfF hk 10;have t5:=kfF hk 5;have t6:=kfF hk 6;have t7:=kfF hk 7;have t8:=kfF hk 8;have t9:=kfF hk 9;have HFT:Hid (FitV ds i (.mk 0 [] [])):=made2 hi hk
 generalize ds[i]=r at *;obtain ⟨W0,W1,HW0,HW1,B1,B2,B3,B4,e0,x1,hs0,hs1⟩:=boxes4' w #[Value.slice (some ⟨g,off,none⟩) ds.length cd] val0 (rcs r Ab cb An cn At ct Ak ck) val0 26 46 96 46;have e01:=e0.trans x1
 have M0:Hid (VM wb w W1 p A l c (Value.slice (some ⟨g,off,none⟩) ds.length cd) (rcs r Ab cb An cn At ct Ak ck) 0 (.slice none 0 0) [] (.slice none 0 0) []) :=
  ⟨B1.ext x1,B2.ext x1,B3.ext x1,B4,OwnL.nil _ _,OwnTs.nil _ _,by simp [Far,Value.ownBlock],by simp [Value.ownBlock],HC.out.ext e01,grown_ext e01 _⟩
 have q0:∀ w',Ext W0 w'→_=some (Value.slice (some ⟨g,off,none⟩) ds.length cd):=B1.at 0
 have k0:∀ w',Ext W0 w'→_=some (Value.string r.nm):=B3.at 0
 have k1:∀ w',Ext W0 w'→_=some (Value.int .i64 r.kind):=B3.at 1
 have k2:∀ w',Ext W0 w'→_=some (Value.int .i64 r.size):=B3.at 2
 have k3:∀ w',Ext W0 w'→_=some (Value.bool r.little):=B3.at 3
 have k4:∀ w',Ext W0 w'→_=some (Value.slice Ab r.bytes.length cb):=B3.at 4
 have k5:∀ w',Ext W0 w'→_=some (Value.slice An r.names.length cn):=B3.at 5
 have k6:∀ w',Ext W0 w'→_=some (Value.slice At r.tags.length ct):=B3.at 6
 have k7:∀ w',Ext W0 w'→_=some (Value.slice Ak r.kids.length ck):=B3.at 7
 have HWM:Hid (IntKind.i64.wrap ((m:Int) / 2)=((m / 2:Nat):Int)):=by
  show _=_
  rw [IntWalk.i64_in _ (by omega)];omega
 have HS1:=lhd hs1;have HX1:=lhd x1;clear B1 B2 B3 B4 hs0 hs1 hk;unfold val0 at *;go_enter Tryz.func120,Tryz.ntmps120;rw [HW1.out,HW0.out] at M0;have HOUT:=lhd M0.out.asis;have m0:_=some (Value.int .i64 0):=M0.out.box.cell 0
 have m1:_=some (Value.slice none 0 0):=M0.out.box.cell 1
 have m2:_=some (Value.slice none 0 0):=M0.out.box.cell 2
 have f1:=M0.out.res.cell;have f2:=M0.out.res.free;go_wp2;obtain ⟨hO,hF,hN,hCc,hG⟩:=HOUT.out;exact bodyPost_ret (v:=.agg #[.int .i64 0,.slice none 0 0,.slice none 0 0]) (by simp [results,Tryz.results120,go_sem,f1,f2]) rfl ⟨.mk 0 [] (.slice none 0 0) [] (.slice none 0 0),_,_,_,_,_,_,rfl,⟨rfl,rfl⟩,⟨HFT.out.1,HFT.out.2,hO,hF,hN,hCc,hG⟩⟩
theorem l9Make1_c (Ad:Option Addr) (ds:List DRule) (cd:Nat) (hok:descOk ds=true) (i:Nat) (hi:i<ds.length) (hk:ds[i].kind=1) (wb:World) (p:Nat) (A:Option Addr) (l:List UInt8) (c:Nat) (hA:Bs wb A l c) (HR:∀ j,j<i→MakeOk Ad ds cd wb p A l c j):MakeOk Ad ds cd wb p A l c i:=by
 intro m hm w hC hD;have hplt:=hC.lt;have hbw:=hC.2.1.size;have hdl:=(descOk_len hok).2;have CBe:=lhd (fun n w h hn=>l1Below_c n wb w p A l c hA h hn);have COn:=lhd (fun n w h hn=>l1Once_c n wb w p A l c hA h hn);obtain ⟨g,off,hAd,hgw,hall⟩:=hD.out;obtain ⟨Ab,cb,An,cn,At,ct,Ak,ck,hst⟩:=hall i hi;subst hAd;have hS:=(hst w (World.grownBy.refl _ _)).1;obtain ⟨r0,r1,r2,r3,r4,r5,r6,r7⟩:=(hst w (World.grownBy.refl _ _)).2;have HST:=lhd hst;have HD:=lhd hD;have HC:=lhd hC;have hii:(i:Int)<(ds.length:Int):=by omega
 have hi0:(0:Int)≤(i:Int):=by omega
 clear hall hst hD;have t1:=kfT hk 1;have t3:=kfF hk 3;have t4:=kfF hk 4;have t10:=kfF hk 10;have t5:=kfF hk 5;have t6:=kfF hk 6;have t7:=kfF hk 7;have t8:=kfF hk 8;have t9:=kfF hk 9;obtain ⟨s,hs,hs1,hs4,hft⟩:=made1 hok hi hk;have HFT:=lhd hft;clear hft;have CP:Hid (∀ w,Gives Tryz.prog 159 #[.int .i64 ds[i].size] w (.int .i64 (256^s))):=fun w=>by rw [hs];exact l2PowerN_c s w hs1 hs4
 clear hs;have CM:=lhd (fun w=>sMin_c (256^s) 70000 w);generalize ds[i]=r at *;obtain ⟨W0,W1,HW0,HW1,B1,B2,B3,B4,e0,x1,hs0,hs1⟩:=boxes4' w #[Value.slice (some ⟨g,off,none⟩) ds.length cd] val0 (rcs r Ab cb An cn At ct Ak ck) val0 26 46 96 46;have e01:=e0.trans x1
 have M0:Hid (VM wb w W1 p A l c (Value.slice (some ⟨g,off,none⟩) ds.length cd) (rcs r Ab cb An cn At ct Ak ck) 0 (.slice none 0 0) [] (.slice none 0 0) []) :=
  ⟨B1.ext x1,B2.ext x1,B3.ext x1,B4,OwnL.nil _ _,OwnTs.nil _ _,by simp [Far,Value.ownBlock],by simp [Value.ownBlock],HC.out.ext e01,grown_ext e01 _⟩
 have q0:∀ w',Ext W0 w'→_=some (Value.slice (some ⟨g,off,none⟩) ds.length cd):=B1.at 0
 have k0:∀ w',Ext W0 w'→_=some (Value.string r.nm):=B3.at 0
 have k1:∀ w',Ext W0 w'→_=some (Value.int .i64 r.kind):=B3.at 1
 have k2:∀ w',Ext W0 w'→_=some (Value.int .i64 r.size):=B3.at 2
 have k3:∀ w',Ext W0 w'→_=some (Value.bool r.little):=B3.at 3
 have k4:∀ w',Ext W0 w'→_=some (Value.slice Ab r.bytes.length cb):=B3.at 4
 have k5:∀ w',Ext W0 w'→_=some (Value.slice An r.names.length cn):=B3.at 5
 have k6:∀ w',Ext W0 w'→_=some (Value.slice At r.tags.length ct):=B3.at 6
 have k7:∀ w',Ext W0 w'→_=some (Value.slice Ak r.kids.length ck):=B3.at 7
 have HWM:Hid (IntKind.i64.wrap ((m:Int) / 2)=((m / 2:Nat):Int)):=by
  show _=_
  rw [IntWalk.i64_in _ (by omega)];omega
 have HS1:=lhd hs1;have HX1:=lhd x1;clear B1 B2 B3 B4 hs0 hs1 hk;obtain ⟨N,hN⟩:∃ N:Int,N=(if (70000:Int)<256^s then 70000 else 256^s):=⟨_,rfl⟩
 have HN:Hid (N≤70000∧∀ x:Nat,below N x→x<256^s):=by
  have hp:(256:Int)^s=((256^s:Nat):Int):=by push_cast;rfl
  have hp1:0<256^s:=Nat.pow_pos (by omega)
  rw [hN,hp]
  split
  ·exact ⟨by omega,fun x hx=>by unfold below at hx;rw [if_neg (by omega)] at hx;omega⟩
  ·exact ⟨by omega,fun x hx=>by unfold below at hx;rw [if_neg (by omega)] at hx;omega⟩
 rw [← hN] at CM;clear hN;generalize (256:Int)^s=Z at *;have hN7:=HN.out.1;unfold val0 at *;go_enter Tryz.func120,Tryz.ntmps120;go_wp2_with fail;rw [← HW0.out,← HW1.out];refine (CP.out _).mono ?_;rintro _ w1 ⟨rfl,he1⟩;have M1:=lhd (M0.out.ext hplt he1);clear M0;go_wp2_with fail;refine (CM.out _).mono ?_;rintro _ w2 ⟨rfl,he2⟩;have M2:=lhd (M1.out.ext hplt he2);clear M1;go_wp2_with fail;refine (CBe.out N _ M2.out.cur (by omega)).mono ?_;rintro _ w3 ⟨x,hx,rfl,hC3,hg3⟩;have M3:=lhd (M2.out.moved hplt hC3 hg3);have HX:=lhd (HN.out.2 x hx);have z0:_=some (Value.int .i64 0):=M3.out.box.cell 0
 have y0:=M3.out.box.free 0;have M4:=lhd (M3.out.num hplt hbw (x:Int));have kk:=M3.out.rb.cell 1;clear M2 hC3 hg3 hx HN;have m0:_=some (Value.int .i64 (x:Int)):=M4.out.box.cell 0
 have m1:_=some (Value.slice none 0 0):=M4.out.box.cell 1
 have m2:_=some (Value.slice none 0 0):=M4.out.box.cell 2
 have f1:=M4.out.res.cell;have f2:=M4.out.res.free;have HOUT:=lhd (M4.out.out hplt hbw (.int .i64 (x:Int)) (Value.slice none 0 0) (Value.slice none 0 0));have HV:=lhd (HFT.out x HX.out);go_wp2_with fail;obtain ⟨hO,hF,hN,hCc,hG⟩:=HOUT.out;exact bodyPost_ret (v:=.agg #[.int .i64 (x:Int),Value.slice none 0 0,Value.slice none 0 0]) (by simp [results,Tryz.results120,go_sem,f1,f2]) rfl ⟨.mk (x:Int) [] (Value.slice none 0 0) [] (Value.slice none 0 0),_,_,_,_,_,_,rfl,⟨rfl,rfl⟩,⟨HV.out.1,HV.out.2,hO,hF,hN,hCc,hG⟩⟩
theorem l9Make3_c (Ad:Option Addr) (ds:List DRule) (cd:Nat) (hok:descOk ds=true) (i:Nat) (hi:i<ds.length) (hk:ds[i].kind=3) (wb:World) (p:Nat) (A:Option Addr) (l:List UInt8) (c:Nat) (hA:Bs wb A l c) (HR:∀ j,j<i→MakeOk Ad ds cd wb p A l c j):MakeOk Ad ds cd wb p A l c i:=by
 intro m hm w hC hD;have hplt:=hC.lt;have hbw:=hC.2.1.size;have hdl:=(descOk_len hok).2;have CBe:=lhd (fun n w h hn=>l1Below_c n wb w p A l c hA h hn);have COn:=lhd (fun n w h hn=>l1Once_c n wb w p A l c hA h hn);obtain ⟨g,off,hAd,hgw,hall⟩:=hD.out;obtain ⟨Ab,cb,An,cn,At,ct,Ak,ck,hst⟩:=hall i hi;subst hAd;have hS:=(hst w (World.grownBy.refl _ _)).1;obtain ⟨r0,r1,r2,r3,r4,r5,r6,r7⟩:=(hst w (World.grownBy.refl _ _)).2;have HST:=lhd hst;have HD:=lhd hD;have HC:=lhd hC;have hii:(i:Int)<(ds.length:Int):=by omega
 have hi0:(0:Int)≤(i:Int):=by omega
 clear hall hst hD;have t1:=kfF hk 1;have t3:=kfT hk 3;have t4:=kfF hk 4;have t10:=kfF hk 10;have t5:=kfF hk 5;have t6:=kfF hk 6;have t7:=kfF hk 7;have t8:=kfF hk 8;have t9:=kfF hk 9;obtain ⟨s,hs,hs64,hft⟩:=made3 hok hi hk;have HFT:=lhd hft;clear hft;have CB:=fun w h=>l1Bytes_c s hs64 wb w p A l c hA h
 rw [← hs] at CB;have CB:=lhd CB;clear hs;generalize ds[i]=r at *;obtain ⟨W0,W1,HW0,HW1,B1,B2,B3,B4,e0,x1,hs0,hs1⟩:=boxes4' w #[Value.slice (some ⟨g,off,none⟩) ds.length cd] val0 (rcs r Ab cb An cn At ct Ak ck) val0 26 46 96 46;have e01:=e0.trans x1
 have M0:Hid (VM wb w W1 p A l c (Value.slice (some ⟨g,off,none⟩) ds.length cd) (rcs r Ab cb An cn At ct Ak ck) 0 (.slice none 0 0) [] (.slice none 0 0) []) :=
  ⟨B1.ext x1,B2.ext x1,B3.ext x1,B4,OwnL.nil _ _,OwnTs.nil _ _,by simp [Far,Value.ownBlock],by simp [Value.ownBlock],HC.out.ext e01,grown_ext e01 _⟩
 have q0:∀ w',Ext W0 w'→_=some (Value.slice (some ⟨g,off,none⟩) ds.length cd):=B1.at 0
 have k0:∀ w',Ext W0 w'→_=some (Value.string r.nm):=B3.at 0
 have k1:∀ w',Ext W0 w'→_=some (Value.int .i64 r.kind):=B3.at 1
 have k2:∀ w',Ext W0 w'→_=some (Value.int .i64 r.size):=B3.at 2
 have k3:∀ w',Ext W0 w'→_=some (Value.bool r.little):=B3.at 3
 have k4:∀ w',Ext W0 w'→_=some (Value.slice Ab r.bytes.length cb):=B3.at 4
 have k5:∀ w',Ext W0 w'→_=some (Value.slice An r.names.length cn):=B3.at 5
 have k6:∀ w',Ext W0 w'→_=some (Value.slice At r.tags.length ct):=B3.at 6
 have k7:∀ w',Ext W0 w'→_=some (Value.slice Ak r.kids.length ck):=B3.at 7
 have HWM:Hid (IntKind.i64.wrap ((m:Int) / 2)=((m / 2:Nat):Int)):=by
  show _=_
  rw [IntWalk.i64_in _ (by omega)];omega
 have HS1:=lhd hs1;have HX1:=lhd x1;clear B1 B2 B3 B4 hs0 hs1 hk;unfold val0 at *;go_enter Tryz.func120,Tryz.ntmps120;go_wp2_with fail;rw [← HW0.out,← HW1.out];refine (CB.out _ M0.out.cur).mono ?_;rintro _ w3 ⟨v,bs,hbl,rfl,hO3,hn3,hC3,hg3⟩;obtain ⟨A3,c3,hsh⟩:=Own.shape hO3;subst hsh;have M3:=lhd (M0.out.moved hplt hC3 hg3);have HX:=lhd (HFT.out bs hbl);have z0:_=some (Value.slice none 0 0):=M3.out.box.cell 1
 have y0:=M3.out.box.free 1;have M4:=lhd (M3.out.bytes hplt hbw hO3 hn3 (by simp [Value.ownBlock]) (by have:=M0.out.size;omega));clear M0 M3 hC3 hg3 hO3 hn3 hbl;have m0:_=some (Value.int .i64 0):=M4.out.box.cell 0
 have m1:_=some (Value.slice A3 bs.length c3):=M4.out.box.cell 1
 have m2:_=some (Value.slice none 0 0):=M4.out.box.cell 2
 have f1:=M4.out.res.cell;have f2:=M4.out.res.free;have HOUT:=lhd (M4.out.out hplt hbw (.int .i64 0) (Value.slice A3 bs.length c3) (Value.slice none 0 0));have HV:=lhd (HX.out);go_wp2_with fail;obtain ⟨hO,hF,hN,hCc,hG⟩:=HOUT.out;exact bodyPost_ret (v:=.agg #[.int .i64 0,Value.slice A3 bs.length c3,Value.slice none 0 0]) (by simp [results,Tryz.results120,go_sem,f1,f2]) rfl ⟨.mk 0 bs (Value.slice A3 bs.length c3) [] (Value.slice none 0 0),_,_,_,_,_,_,rfl,⟨rfl,rfl⟩,⟨HV.out.1,HV.out.2,hO,hF,hN,hCc,hG⟩⟩
theorem l9Make9_c (Ad:Option Addr) (ds:List DRule) (cd:Nat) (hok:descOk ds=true) (i:Nat) (hi:i<ds.length) (hk:ds[i].kind=9) (wb:World) (p:Nat) (A:Option Addr) (l:List UInt8) (c:Nat) (hA:Bs wb A l c) (HR:∀ j,j<i→MakeOk Ad ds cd wb p A l c j):MakeOk Ad ds cd wb p A l c i:=by
 intro m hm w hC hD;have hplt:=hC.lt;have hbw:=hC.2.1.size;have hdl:=(descOk_len hok).2;have CBe:=lhd (fun n w h hn=>l1Below_c n wb w p A l c hA h hn);have COn:=lhd (fun n w h hn=>l1Once_c n wb w p A l c hA h hn);obtain ⟨g,off,hAd,hgw,hall⟩:=hD.out;obtain ⟨Ab,cb,An,cn,At,ct,Ak,ck,hst⟩:=hall i hi;subst hAd;have hS:=(hst w (World.grownBy.refl _ _)).1;obtain ⟨r0,r1,r2,r3,r4,r5,r6,r7⟩:=(hst w (World.grownBy.refl _ _)).2;have HST:=lhd hst;have HD:=lhd hD;have HC:=lhd hC;have hii:(i:Int)<(ds.length:Int):=by omega
 have hi0:(0:Int)≤(i:Int):=by omega
 clear hall hst hD;have t1:=kfF hk 1;have t3:=kfF hk 3;have t4:=kfF hk 4;have t10:=kfF hk 10;have t5:=kfF hk 5;have t6:=kfF hk 6;have t7:=kfF hk 7;have t8:=kfF hk 8;have t9:=kfT hk 9;obtain ⟨hjl,hft⟩:=made9 hok hi (.inr hk);have hkl:=(kids_len hok i hi).2.2.2.2.1 (.inr hk);obtain ⟨bk,ok,hAk,hbk,hcel⟩:=hS.k.at 0 (by omega);subst hAk;clear hcel
 have HK:Hid (∀ w',w.grownBy w' (some p)→w'.cell? ⟨bk,ok,none⟩=some (Value.int .i64 ((kd ds[i] 0:Nat):Int))):=fun w' hg=>by
  have h1:=(HST.out w' hg).1.k.cellAt 0 (by omega);rw [kd_int hok i hi 0 (by omega)] at h1;exact h1
 have CR:Hid (∀ w',w.grownBy w' (some p)→Cur wb w' p A l c→∀ x:Int,x=((m / 2:Nat):Int)→Calls Tryz.prog 120 #[.pointer (some ⟨p,0,none⟩),.agg #[Value.slice (some ⟨g,off,none⟩) ds.length cd],.int .i64 ((kd ds[i] 0:Nat):Int),.int .i64 x] w' fun e w''=>∃ (t:VT) (A1:Option Addr) (n1 c1:Nat) (A2:Option Addr) (n2 c2:Nat),e=.returned (.agg #[.int .i64 t.num,.slice A1 n1 c1,.slice A2 n2 c2])∧Hid (t.vb=.slice A1 n1 c1∧t.vi=.slice A2 n2 c2)∧DrawnV ds (kd ds[i] 0) wb w' w'' p A l c t):=fun w' hg hc x hx=>by
  subst hx;exact HR _ hjl (m / 2) (by omega) w' hc (HD.out.mono hg)
 have HFT:=lhd hft;clear hft;generalize kd ds[i] 0=kj at *;have hkl0:0<ds[i].kids.length:=by omega
 have hkl1:(0:Int)<(ds[i].kids.length:Int):=by omega
 clear hkl;generalize ds[i]=r at *;obtain ⟨W0,W1,HW0,HW1,B1,B2,B3,B4,e0,x1,hs0,hs1⟩:=boxes4' w #[Value.slice (some ⟨g,off,none⟩) ds.length cd] val0 (rcs r Ab cb An cn At ct (some ⟨bk,ok,none⟩) ck) val0 26 46 96 46;have e01:=e0.trans x1
 have M0:Hid (VM wb w W1 p A l c (Value.slice (some ⟨g,off,none⟩) ds.length cd) (rcs r Ab cb An cn At ct (some ⟨bk,ok,none⟩) ck) 0 (.slice none 0 0) [] (.slice none 0 0) []) :=
  ⟨B1.ext x1,B2.ext x1,B3.ext x1,B4,OwnL.nil _ _,OwnTs.nil _ _,by simp [Far,Value.ownBlock],by simp [Value.ownBlock],HC.out.ext e01,grown_ext e01 _⟩
 have q0:∀ w',Ext W0 w'→_=some (Value.slice (some ⟨g,off,none⟩) ds.length cd):=B1.at 0
 have k0:∀ w',Ext W0 w'→_=some (Value.string r.nm):=B3.at 0
 have k1:∀ w',Ext W0 w'→_=some (Value.int .i64 r.kind):=B3.at 1
 have k2:∀ w',Ext W0 w'→_=some (Value.int .i64 r.size):=B3.at 2
 have k3:∀ w',Ext W0 w'→_=some (Value.bool r.little):=B3.at 3
 have k4:∀ w',Ext W0 w'→_=some (Value.slice Ab r.bytes.length cb):=B3.at 4
 have k5:∀ w',Ext W0 w'→_=some (Value.slice An r.names.length cn):=B3.at 5
 have k6:∀ w',Ext W0 w'→_=some (Value.slice At r.tags.length ct):=B3.at 6
 have k7:∀ w',Ext W0 w'→_=some (Value.slice (some ⟨bk,ok,none⟩) r.kids.length ck):=B3.at 7
 have HWM:Hid (IntKind.i64.wrap ((m:Int) / 2)=((m / 2:Nat):Int)):=by
  show _=_
  rw [IntWalk.i64_in _ (by omega)];omega
 have HS1:=lhd hs1;have HX1:=lhd x1;clear B1 B2 B3 B4 hs0 hs1 hk;unfold val0 at *;go_enter Tryz.func120,Tryz.ntmps120;go_wp2_with fail;rw [← HW0.out,← HW1.out];have MD:=lhd (M0.out.ext hplt (Ext_drew (Ext.refl W1)));have HAB:lv2 (fun w'=>w'.cell? ⟨w.heap.size,0,none⟩=some (Value.slice (some ⟨g,off,none⟩) ds.length cd)∧w'.cell? ⟨w.heap.size+1+1,7,none⟩=some (Value.slice (some ⟨bk,ok,none⟩) r.kids.length ck)∧w'.cell? ⟨bk,ok,none⟩=some (Value.int .i64 (kj:Int))) (fun _=>True) 1 (W1).drew:=⟨MD.out.db.cell 0,MD.out.rb.cell 7,HK.out _ MD.out.grow⟩
 clear M0;refine wp_region_C (C:=fun j=>lv2 (fun w'=>w'.cell? ⟨w.heap.size,0,none⟩=some (Value.slice (some ⟨g,off,none⟩) ds.length cd)∧w'.cell? ⟨w.heap.size+1+1,7,none⟩=some (Value.slice (some ⟨bk,ok,none⟩) r.kids.length ck)∧w'.cell? ⟨bk,ok,none⟩=some (Value.int .i64 (kj:Int))) (fun _=>True) (([0,1,0,1,0,1,0,0,0,0,0,0]:List Nat).getD j 0)) (by kernel_rfl) ?_;refine tkD 0 (i:=0) (v:=?_) rfl trivial ?_ ?_;rotate_left
 ·(intro w9 hSw;clear hSw;go_simp;try with_reducible rfl)
 try simp only [Act.put,lpa,lpz,lps]
 refine tkD 0 (i:=2) (v:=?_) rfl trivial ?_ ?_;rotate_left
 ·(intro w9 hSw;clear hSw;go_simp;try with_reducible rfl)
 try simp only [Act.put,lpa,lpz,lps]
 refine tkD 0 (i:=6) (v:=?_) rfl trivial ?_ ?_;rotate_left
 ·(intro w9 hSw;clear hSw;go_simp;try with_reducible rfl)
 try simp only [Act.put,lpa,lpz,lps]
 refine tkD 0 (i:=7) (v:=?_) rfl trivial ?_ ?_;rotate_left
 ·(intro w9 hSw;clear hSw;go_simp;try with_reducible rfl)
 try simp only [Act.put,lpa,lpz,lps]
 refine tkD 1 (i:=3) (v:=?_) rfl HAB ?_ ?_;rotate_left
 ·(intro w9 hSw;have hfact:w9.cell? ⟨w.heap.size+1+1,7,none⟩=some (Value.slice (some ⟨bk,ok,none⟩) r.kids.length ck):=hSw.2.1;clear hSw;go_simp;try with_reducible rfl)
 try simp only [Act.put,lpa,lpz,lps]
 refine tkD 0 (i:=4) (v:=?_) rfl trivial ?_ ?_;rotate_left
 ·(intro w9 hSw;clear hSw;go_simp;try with_reducible rfl)
 try simp only [Act.put,lpa,lpz,lps]
 refine tkD 1 (i:=1) (v:=?_) rfl HAB ?_ ?_;rotate_left
 ·(intro w9 hSw;have hfact:w9.cell? ⟨w.heap.size,0,none⟩=some (Value.slice (some ⟨g,off,none⟩) ds.length cd):=hSw.1;clear hSw;go_simp;try with_reducible rfl)
 try simp only [Act.put,lpa,lpz,lps]
 refine tkD 1 (i:=5) (v:=?_) rfl HAB ?_ ?_;rotate_left
 ·(intro w9 hSw;have hfact:w9.cell? ⟨bk,ok,none⟩=some (Value.int .i64 (kj:Int)):=hSw.2.2;clear hSw;go_simp;try with_reducible rfl)
 try simp only [Act.put,lpa,lpz,lps]
 refine wpAnyC_one (i:=8) (by kernel_rfl) rfl (fun K hK=>?_);go_simp;go_at_call 120;refine (CR.out _ MD.out.grow MD.out.cur _ (by first | exact HWM.out | omega)).mono ?_;rintro _ w6 ⟨t,A1,n1,c1,A2,n2,c2,rfl,hsh,hdv⟩;have hsz6:=hdv.grow.size;have M6:=MD.out.moved hplt hdv.cur hdv.grow;have z2:_=some (Value.slice none 0 0):=(M6.ext hplt (Ext_alloc (.cells #[.int .i64 t.num,.slice A1 n1 c1,.slice A2 n2 c2] 46) (Ext.refl w6))).box.cell 2
 have y2:=(M6.ext hplt (Ext_alloc (.cells #[.int .i64 t.num,.slice A1 n1 c1,.slice A2 n2 c2] 46) (Ext.refl w6))).box.free 2;have hms:=M6.size;have M7:=M6.single hplt hbw hdv.own hdv.far hdv.new (by simp [Value.ownBlock]) (by have:=MD.out.size;omega) (cs:=#[.int .i64 t.num,.slice A1 n1 c1,.slice A2 n2 c2]) (by unfold VT.cells;rw [hsh.out.1,hsh.out.2]);have M7:=lhd M7;have HFT':=lhd (HFT.out t.val ⟨hdv.valid,hdv.sz⟩);clear hdv M6;refine Shut.out hK _ _ trivial ?_;try simp only [Act.put,lpa,lpz,lps]
 refine wpAnyC_one (i:=9) (by kernel_rfl) rfl (fun K hK=>?_);go_simp;refine Shut.out hK _ _ trivial ?_;try simp only [Act.put,lpa,lpz,lps]
 refine wpAnyC_one (i:=10) (by kernel_rfl) rfl (fun K hK=>?_);go_simp;refine Shut.out hK _ _ trivial ?_;try simp only [Act.put,lpa,lpz,lps]
 refine wpAnyC_one (i:=11) (by kernel_rfl) rfl (fun K hK=>?_);go_simp;refine Shut.out hK _ _ trivial ?_;try simp only [Act.put,lpa,lpz,lps]
 refine wpAnyC_done (by kernel_rfl) ?_ _;clear HAB;have m0:_=some (Value.int .i64 0):=M7.out.box.cell 0
 have m1:_=some (Value.slice none 0 0):=M7.out.box.cell 1
 have m2:_=some (Value.slice (some ⟨w6.heap.size,0,none⟩) 1 1):=M7.out.box.cell 2
 have f1:=M7.out.res.cell;have f2:=M7.out.res.free;have HOUT:=lhd (M7.out.out hplt hbw (.int .i64 0) (Value.slice none 0 0) (Value.slice (some ⟨w6.heap.size,0,none⟩) 1 1));have HV:=lhd (HFT'.out);go_wp2_with fail;obtain ⟨hO,hF,hN,hCc,hG⟩:=HOUT.out;exact bodyPost_ret (v:=.agg #[.int .i64 0,Value.slice none 0 0,Value.slice (some ⟨w6.heap.size,0,none⟩) 1 1]) (by simp [results,Tryz.results120,go_sem,f1,f2]) rfl ⟨VT.mk 0 [] (Value.slice none 0 0) [t] (Value.slice (some ⟨w6.heap.size,0,none⟩) 1 1),_,_,_,_,_,_,rfl,⟨rfl,rfl⟩,⟨HV.out.1,HV.out.2,hO,hF,hN,hCc,hG⟩⟩
theorem l9Make8_c (Ad:Option Addr) (ds:List DRule) (cd:Nat) (hok:descOk ds=true) (i:Nat) (hi:i<ds.length) (hk:ds[i].kind=8) (wb:World) (p:Nat) (A:Option Addr) (l:List UInt8) (c:Nat) (hA:Bs wb A l c) (HR:∀ j,j<i→MakeOk Ad ds cd wb p A l c j):MakeOk Ad ds cd wb p A l c i:=by
 intro m hm w hC hD;have hplt:=hC.lt;have hbw:=hC.2.1.size;have hdl:=(descOk_len hok).2;have CBe:=lhd (fun n w h hn=>l1Below_c n wb w p A l c hA h hn);have COn:=lhd (fun n w h hn=>l1Once_c n wb w p A l c hA h hn);obtain ⟨g,off,hAd,hgw,hall⟩:=hD.out;obtain ⟨Ab,cb,An,cn,At,ct,Ak,ck,hst⟩:=hall i hi;subst hAd;have hS:=(hst w (World.grownBy.refl _ _)).1;obtain ⟨r0,r1,r2,r3,r4,r5,r6,r7⟩:=(hst w (World.grownBy.refl _ _)).2;have HST:=lhd hst;have HD:=lhd hD;have HC:=lhd hC;have hii:(i:Int)<(ds.length:Int):=by omega
 have hi0:(0:Int)≤(i:Int):=by omega
 clear hall hst hD;have t1:=kfF hk 1;have t3:=kfF hk 3;have t4:=kfF hk 4;have t10:=kfF hk 10;have t5:=kfF hk 5;have t6:=kfF hk 6;have t7:=kfF hk 7;have t8:=kfT hk 8;have t9:=kfF hk 9;obtain ⟨hjl,hft⟩:=made9 hok hi (.inl hk);have hkl:=(kids_len hok i hi).2.2.2.2.1 (.inl hk);obtain ⟨bk,ok,hAk,hbk,hcel⟩:=hS.k.at 0 (by omega);subst hAk;clear hcel
 have HK:Hid (∀ w',w.grownBy w' (some p)→w'.cell? ⟨bk,ok,none⟩=some (Value.int .i64 ((kd ds[i] 0:Nat):Int))):=fun w' hg=>by
  have h1:=(HST.out w' hg).1.k.cellAt 0 (by omega);rw [kd_int hok i hi 0 (by omega)] at h1;exact h1
 have CR:Hid (∀ w',w.grownBy w' (some p)→Cur wb w' p A l c→∀ x:Int,x=((m / 2:Nat):Int)→Calls Tryz.prog 120 #[.pointer (some ⟨p,0,none⟩),.agg #[Value.slice (some ⟨g,off,none⟩) ds.length cd],.int .i64 ((kd ds[i] 0:Nat):Int),.int .i64 x] w' fun e w''=>∃ (t:VT) (A1:Option Addr) (n1 c1:Nat) (A2:Option Addr) (n2 c2:Nat),e=.returned (.agg #[.int .i64 t.num,.slice A1 n1 c1,.slice A2 n2 c2])∧Hid (t.vb=.slice A1 n1 c1∧t.vi=.slice A2 n2 c2)∧DrawnV ds (kd ds[i] 0) wb w' w'' p A l c t):=fun w' hg hc x hx=>by
  subst hx;exact HR _ hjl (m / 2) (by omega) w' hc (HD.out.mono hg)
 have HFT:=lhd hft;clear hft;generalize kd ds[i] 0=kj at *;have hkl0:0<ds[i].kids.length:=by omega
 have hkl1:(0:Int)<(ds[i].kids.length:Int):=by omega
 clear hkl;have HF0:Hid (FitV ds i (.mk 0 [] [])):=made8n hi hk
 generalize ds[i]=r at *;obtain ⟨W0,W1,HW0,HW1,B1,B2,B3,B4,e0,x1,hs0,hs1⟩:=boxes4' w #[Value.slice (some ⟨g,off,none⟩) ds.length cd] val0 (rcs r Ab cb An cn At ct (some ⟨bk,ok,none⟩) ck) val0 26 46 96 46;have e01:=e0.trans x1
 have M0:Hid (VM wb w W1 p A l c (Value.slice (some ⟨g,off,none⟩) ds.length cd) (rcs r Ab cb An cn At ct (some ⟨bk,ok,none⟩) ck) 0 (.slice none 0 0) [] (.slice none 0 0) []) :=
  ⟨B1.ext x1,B2.ext x1,B3.ext x1,B4,OwnL.nil _ _,OwnTs.nil _ _,by simp [Far,Value.ownBlock],by simp [Value.ownBlock],HC.out.ext e01,grown_ext e01 _⟩
 have q0:∀ w',Ext W0 w'→_=some (Value.slice (some ⟨g,off,none⟩) ds.length cd):=B1.at 0
 have k0:∀ w',Ext W0 w'→_=some (Value.string r.nm):=B3.at 0
 have k1:∀ w',Ext W0 w'→_=some (Value.int .i64 r.kind):=B3.at 1
 have k2:∀ w',Ext W0 w'→_=some (Value.int .i64 r.size):=B3.at 2
 have k3:∀ w',Ext W0 w'→_=some (Value.bool r.little):=B3.at 3
 have k4:∀ w',Ext W0 w'→_=some (Value.slice Ab r.bytes.length cb):=B3.at 4
 have k5:∀ w',Ext W0 w'→_=some (Value.slice An r.names.length cn):=B3.at 5
 have k6:∀ w',Ext W0 w'→_=some (Value.slice At r.tags.length ct):=B3.at 6
 have k7:∀ w',Ext W0 w'→_=some (Value.slice (some ⟨bk,ok,none⟩) r.kids.length ck):=B3.at 7
 have HWM:Hid (IntKind.i64.wrap ((m:Int) / 2)=((m / 2:Nat):Int)):=by
  show _=_
  rw [IntWalk.i64_in _ (by omega)];omega
 have HS1:=lhd hs1;have HX1:=lhd x1;clear B1 B2 B3 B4 hs0 hs1 hk;unfold val0 at *;go_enter Tryz.func120,Tryz.ntmps120;go_wp2_with fail;rw [← HW0.out,← HW1.out];refine (COn.out 2 _ M0.out.cur (by omega)).mono ?_;rintro _ w1 ⟨b,rfl,hC1,hg1⟩;have M1:=lhd (M0.out.moved hplt hC1 hg1);clear M0 hC1 hg1;cases b with
 | false =>
  have m0:_=some (Value.int .i64 0):=M1.out.box.cell 0
  have m1:_=some (Value.slice none 0 0):=M1.out.box.cell 1
  have m2:_=some (Value.slice none 0 0):=M1.out.box.cell 2
  have f1:=M1.out.res.cell;have f2:=M1.out.res.free;have HOUT:=lhd (M1.out.out hplt hbw (.int .i64 0) (Value.slice none 0 0) (Value.slice none 0 0));have HV:=lhd (HF0.out);go_wp2_with fail;obtain ⟨hO,hF,hN,hCc,hG⟩:=HOUT.out;exact bodyPost_ret (v:=.agg #[.int .i64 0,Value.slice none 0 0,Value.slice none 0 0]) (by simp [results,Tryz.results120,go_sem,f1,f2]) rfl ⟨.mk 0 [] (Value.slice none 0 0) [] (Value.slice none 0 0),_,_,_,_,_,_,rfl,⟨rfl,rfl⟩,⟨HV.out.1,HV.out.2,hO,hF,hN,hCc,hG⟩⟩
 | true =>
  go_wp2_with fail;have MD:=lhd (M1.out.ext hplt (Ext_drew (Ext.refl w1)));have HAB:lv2 (fun w'=>w'.cell? ⟨w.heap.size,0,none⟩=some (Value.slice (some ⟨g,off,none⟩) ds.length cd)∧w'.cell? ⟨w.heap.size+1+1,7,none⟩=some (Value.slice (some ⟨bk,ok,none⟩) r.kids.length ck)∧w'.cell? ⟨bk,ok,none⟩=some (Value.int .i64 (kj:Int))) (fun _=>True) 1 (w1).drew:=⟨MD.out.db.cell 0,MD.out.rb.cell 7,HK.out _ MD.out.grow⟩
  clear M1;refine wp_region_C (C:=fun j=>lv2 (fun w'=>w'.cell? ⟨w.heap.size,0,none⟩=some (Value.slice (some ⟨g,off,none⟩) ds.length cd)∧w'.cell? ⟨w.heap.size+1+1,7,none⟩=some (Value.slice (some ⟨bk,ok,none⟩) r.kids.length ck)∧w'.cell? ⟨bk,ok,none⟩=some (Value.int .i64 (kj:Int))) (fun _=>True) (([0,1,0,1,0,1,0,0,0,0,0,0]:List Nat).getD j 0)) (by kernel_rfl) ?_;refine tkD 0 (i:=0) (v:=?_) rfl trivial ?_ ?_;rotate_left
  ·(intro w9 hSw;clear hSw;go_simp;try with_reducible rfl)
  try simp only [Act.put,lpa,lpz,lps]
  refine tkD 0 (i:=2) (v:=?_) rfl trivial ?_ ?_;rotate_left
  ·(intro w9 hSw;clear hSw;go_simp;try with_reducible rfl)
  try simp only [Act.put,lpa,lpz,lps]
  refine tkD 0 (i:=6) (v:=?_) rfl trivial ?_ ?_;rotate_left
  ·(intro w9 hSw;clear hSw;go_simp;try with_reducible rfl)
  try simp only [Act.put,lpa,lpz,lps]
  refine tkD 0 (i:=7) (v:=?_) rfl trivial ?_ ?_;rotate_left
  ·(intro w9 hSw;clear hSw;go_simp;try with_reducible rfl)
  try simp only [Act.put,lpa,lpz,lps]
  refine tkD 1 (i:=3) (v:=?_) rfl HAB ?_ ?_;rotate_left
  ·(intro w9 hSw;have hfact:w9.cell? ⟨w.heap.size+1+1,7,none⟩=some (Value.slice (some ⟨bk,ok,none⟩) r.kids.length ck):=hSw.2.1;clear hSw;go_simp;try with_reducible rfl)
  try simp only [Act.put,lpa,lpz,lps]
  refine tkD 0 (i:=4) (v:=?_) rfl trivial ?_ ?_;rotate_left
  ·(intro w9 hSw;clear hSw;go_simp;try with_reducible rfl)
  try simp only [Act.put,lpa,lpz,lps]
  refine tkD 1 (i:=1) (v:=?_) rfl HAB ?_ ?_;rotate_left
  ·(intro w9 hSw;have hfact:w9.cell? ⟨w.heap.size,0,none⟩=some (Value.slice (some ⟨g,off,none⟩) ds.length cd):=hSw.1;clear hSw;go_simp;try with_reducible rfl)
  try simp only [Act.put,lpa,lpz,lps]
  refine tkD 1 (i:=5) (v:=?_) rfl HAB ?_ ?_;rotate_left
  ·(intro w9 hSw;have hfact:w9.cell? ⟨bk,ok,none⟩=some (Value.int .i64 (kj:Int)):=hSw.2.2;clear hSw;go_simp;try with_reducible rfl)
  try simp only [Act.put,lpa,lpz,lps]
  refine wpAnyC_one (i:=8) (by kernel_rfl) rfl (fun K hK=>?_);go_simp;go_at_call 120;refine (CR.out _ MD.out.grow MD.out.cur _ (by first | exact HWM.out | omega)).mono ?_;rintro _ w6 ⟨t,A1,n1,c1,A2,n2,c2,rfl,hsh,hdv⟩;have hsz6:=hdv.grow.size;have M6:=MD.out.moved hplt hdv.cur hdv.grow;have z2:_=some (Value.slice none 0 0):=(M6.ext hplt (Ext_alloc (.cells #[.int .i64 t.num,.slice A1 n1 c1,.slice A2 n2 c2] 46) (Ext.refl w6))).box.cell 2
  have y2:=(M6.ext hplt (Ext_alloc (.cells #[.int .i64 t.num,.slice A1 n1 c1,.slice A2 n2 c2] 46) (Ext.refl w6))).box.free 2;have hms:=M6.size;have M7:=M6.single hplt hbw hdv.own hdv.far hdv.new (by simp [Value.ownBlock]) (by have:=MD.out.size;omega) (cs:=#[.int .i64 t.num,.slice A1 n1 c1,.slice A2 n2 c2]) (by unfold VT.cells;rw [hsh.out.1,hsh.out.2]);have M7:=lhd M7;have HFT':=lhd (HFT.out t.val ⟨hdv.valid,hdv.sz⟩);clear hdv M6;refine Shut.out hK _ _ trivial ?_;try simp only [Act.put,lpa,lpz,lps]
  refine wpAnyC_one (i:=9) (by kernel_rfl) rfl (fun K hK=>?_);go_simp;refine Shut.out hK _ _ trivial ?_;try simp only [Act.put,lpa,lpz,lps]
  refine wpAnyC_one (i:=10) (by kernel_rfl) rfl (fun K hK=>?_);go_simp;refine Shut.out hK _ _ trivial ?_;try simp only [Act.put,lpa,lpz,lps]
  refine wpAnyC_one (i:=11) (by kernel_rfl) rfl (fun K hK=>?_);go_simp;refine Shut.out hK _ _ trivial ?_;try simp only [Act.put,lpa,lpz,lps]
  refine wpAnyC_done (by kernel_rfl) ?_ _;clear HAB;have m0:_=some (Value.int .i64 0):=M7.out.box.cell 0
  have m1:_=some (Value.slice none 0 0):=M7.out.box.cell 1
  have m2:_=some (Value.slice (some ⟨w6.heap.size,0,none⟩) 1 1):=M7.out.box.cell 2
  have f1:=M7.out.res.cell;have f2:=M7.out.res.free;have HOUT:=lhd (M7.out.out hplt hbw (.int .i64 0) (Value.slice none 0 0) (Value.slice (some ⟨w6.heap.size,0,none⟩) 1 1));have HV:=lhd (HFT'.out);go_wp2_with fail;obtain ⟨hO,hF,hN,hCc,hG⟩:=HOUT.out;exact bodyPost_ret (v:=.agg #[.int .i64 0,Value.slice none 0 0,Value.slice (some ⟨w6.heap.size,0,none⟩) 1 1]) (by simp [results,Tryz.results120,go_sem,f1,f2]) rfl ⟨VT.mk 0 [] (Value.slice none 0 0) [t] (Value.slice (some ⟨w6.heap.size,0,none⟩) 1 1),_,_,_,_,_,_,rfl,⟨rfl,rfl⟩,⟨HV.out.1,HV.out.2,hO,hF,hN,hCc,hG⟩⟩
theorem l9Make7_c (Ad:Option Addr) (ds:List DRule) (cd:Nat) (hok:descOk ds=true) (i:Nat) (hi:i<ds.length) (hk:ds[i].kind=7) (wb:World) (p:Nat) (A:Option Addr) (l:List UInt8) (c:Nat) (hA:Bs wb A l c) (HR:∀ j,j<i→MakeOk Ad ds cd wb p A l c j):MakeOk Ad ds cd wb p A l c i:=by
 intro m hm w hC hD;have hplt:=hC.lt;have hbw:=hC.2.1.size;have hdl:=(descOk_len hok).2;have CBe:=lhd (fun n w h hn=>l1Below_c n wb w p A l c hA h hn);have COn:=lhd (fun n w h hn=>l1Once_c n wb w p A l c hA h hn);obtain ⟨g,off,hAd,hgw,hall⟩:=hD.out;obtain ⟨Ab,cb,An,cn,At,ct,Ak,ck,hst⟩:=hall i hi;subst hAd;have hS:=(hst w (World.grownBy.refl _ _)).1;obtain ⟨r0,r1,r2,r3,r4,r5,r6,r7⟩:=(hst w (World.grownBy.refl _ _)).2;have HST:=lhd hst;have HD:=lhd hD;have HC:=lhd hC;have hii:(i:Int)<(ds.length:Int):=by omega
 have hi0:(0:Int)≤(i:Int):=by omega
 clear hall hst hD;have t1:=kfF hk 1;have t3:=kfF hk 3;have t4:=kfF hk 4;have t10:=kfF hk 10;have t5:=kfF hk 5;have t6:=kfF hk 6;have t7:=kfT hk 7;have t8:=kfF hk 8;have t9:=kfF hk 9;have hkt:=((kids_len hok i hi).2.2.2.1 hk).1;have htn:0<ds[i].tags.length∧ds[i].tags.length≤8:=choice_tags hok hi hk
 obtain ⟨bk,ok,hAk,hbk,hcel⟩:=hS.k.at 0 (by omega);subst hAk;clear hcel;obtain ⟨bt,ot,hAt,hbt,hcel⟩:=hS.t.at 0 (by omega);subst hAt;clear hcel
 have HTG:Hid (∀ x,x<ds[i].tags.length→∃ (n:Int) (kj:Nat),kj<i∧(∀ w',w.grownBy w' (some p)→w'.cell? ⟨bt,ot+x,none⟩=some (Value.int .i64 n)∧w'.cell? ⟨bk,ok+(x+1),none⟩=some (Value.int .i64 (kj:Int)))∧∀ d:DVal,FitV ds kj d→FitV ds i (.mk n [] [d])):=fun x hx=>by
  refine ⟨ds[i].tags[x],kd ds[i] (x+1),kd_lt hok i hi _ (by omega),fun w' hg=>⟨(HST.out w' hg).1.t.cellAt x hx,?_⟩,made7 hok hi hk x hx⟩;have h1:=(HST.out w' hg).1.k.cellAt (x+1) (by omega);rw [kd_int hok i hi (x+1) (by omega)] at h1;exact h1
 have CR0:Hid (∀ kj,kj<i→∀ w',w.grownBy w' (some p)→Cur wb w' p A l c→∀ x:Int,x=((m / 2:Nat):Int)→Calls Tryz.prog 120 #[.pointer (some ⟨p,0,none⟩),.agg #[Value.slice (some ⟨g,off,none⟩) ds.length cd],.int .i64 ((kj:Nat):Int),.int .i64 x] w' fun e w''=>∃ (t:VT) (A1:Option Addr) (n1 c1:Nat) (A2:Option Addr) (n2 c2:Nat),e=.returned (.agg #[.int .i64 t.num,.slice A1 n1 c1,.slice A2 n2 c2])∧Hid (t.vb=.slice A1 n1 c1∧t.vi=.slice A2 n2 c2)∧DrawnV ds (kj) wb w' w'' p A l c t):=fun kj hj w' hg hc x hx=>by
  subst hx;exact HR _ hj (m / 2) (by omega) w' hc (HD.out.mono hg)
 have HKT:=lhd hkt;clear hkt;generalize ds[i]=r at *;obtain ⟨W0,W1,HW0,HW1,B1,B2,B3,B4,e0,x1,hs0,hs1⟩:=boxes4' w #[Value.slice (some ⟨g,off,none⟩) ds.length cd] val0 (rcs r Ab cb An cn (some ⟨bt,ot,none⟩) ct (some ⟨bk,ok,none⟩) ck) val0 26 46 96 46;have e01:=e0.trans x1
 have M0:Hid (VM wb w W1 p A l c (Value.slice (some ⟨g,off,none⟩) ds.length cd) (rcs r Ab cb An cn (some ⟨bt,ot,none⟩) ct (some ⟨bk,ok,none⟩) ck) 0 (.slice none 0 0) [] (.slice none 0 0) []) :=
  ⟨B1.ext x1,B2.ext x1,B3.ext x1,B4,OwnL.nil _ _,OwnTs.nil _ _,by simp [Far,Value.ownBlock],by simp [Value.ownBlock],HC.out.ext e01,grown_ext e01 _⟩
 have q0:∀ w',Ext W0 w'→_=some (Value.slice (some ⟨g,off,none⟩) ds.length cd):=B1.at 0
 have k0:∀ w',Ext W0 w'→_=some (Value.string r.nm):=B3.at 0
 have k1:∀ w',Ext W0 w'→_=some (Value.int .i64 r.kind):=B3.at 1
 have k2:∀ w',Ext W0 w'→_=some (Value.int .i64 r.size):=B3.at 2
 have k3:∀ w',Ext W0 w'→_=some (Value.bool r.little):=B3.at 3
 have k4:∀ w',Ext W0 w'→_=some (Value.slice Ab r.bytes.length cb):=B3.at 4
 have k5:∀ w',Ext W0 w'→_=some (Value.slice An r.names.length cn):=B3.at 5
 have k6:∀ w',Ext W0 w'→_=some (Value.slice (some ⟨bt,ot,none⟩) r.tags.length ct):=B3.at 6
 have k7:∀ w',Ext W0 w'→_=some (Value.slice (some ⟨bk,ok,none⟩) r.kids.length ck):=B3.at 7
 have HWM:Hid (IntKind.i64.wrap ((m:Int) / 2)=((m / 2:Nat):Int)):=by
  show _=_
  rw [IntWalk.i64_in _ (by omega)];omega
 have HS1:=lhd hs1;have HX1:=lhd x1;clear B1 B2 B3 B4 hs0 hs1 hk;unfold val0 at *;go_enter Tryz.func120,Tryz.ntmps120;go_wp2_with fail;rw [← HW0.out,← HW1.out];refine (CBe.out _ _ M0.out.cur (by omega)).mono ?_;rintro _ w1 ⟨y,hy,rfl,hC1,hg1⟩;have hyt:y<r.tags.length:=by unfold below at hy;rw [if_neg (by omega)] at hy;omega
 obtain ⟨n,kj,hjl,htk,hft⟩:=HTG.out y hyt;have M1:=lhd (M0.out.moved hplt hC1 hg1);have CR:=lhd (CR0.out kj hjl);have HFT:=lhd hft;have HK:Hid (∀ w',w.grownBy w' (some p)→w'.cell? ⟨bk,ok+(y+1),none⟩=some (Value.int .i64 (kj:Int))):=fun w' hg=>(htk w' hg).2
 have tc:=(htk w1 M1.out.grow).1;have u6:_=some (Value.slice (some ⟨bt,ot,none⟩) r.tags.length ct):=M1.out.rb.cell 6
 have z0:_=some (Value.int .i64 0):=M1.out.box.cell 0
 have y0:=M1.out.box.free 0;have hkt:=HKT.out;have hy1:(y:Int)<(r.tags.length:Int):=by omega
 have hy2:(y:Int)+1<(r.kids.length:Int):=by omega
 have hy3:y+1<r.kids.length:=by omega
 have hy4:(0:Int)≤(y:Int)+1:=by omega
 have hyw:IntKind.i64.wrap ((y:Int)+1)=(y:Int)+1:=IntWalk.i64_in _ (by omega)
 have M2:=lhd (M1.out.num hplt hbw n);clear M0 hC1 hg1 htk hft hy CR0 HTG hkt;go_wp2_with fail;have MD:=lhd (M2.out.ext hplt (Ext_drew (Ext.refl (w1.setCell ⟨w.heap.size+1+1+1,0,none⟩ (.int .i64 n)))));have HAB:lv2 (fun w'=>w'.cell? ⟨w.heap.size,0,none⟩=some (Value.slice (some ⟨g,off,none⟩) ds.length cd)∧w'.cell? ⟨w.heap.size+1+1,7,none⟩=some (Value.slice (some ⟨bk,ok,none⟩) r.kids.length ck)∧w'.cell? ⟨bk,ok+(y+1),none⟩=some (Value.int .i64 (kj:Int))) (fun _=>True) 1 ((w1.setCell ⟨w.heap.size+1+1+1,0,none⟩ (.int .i64 n))).drew:=⟨MD.out.db.cell 0,MD.out.rb.cell 7,HK.out _ MD.out.grow⟩
 clear M2;refine wp_region_C (C:=fun j=>lv2 (fun w'=>w'.cell? ⟨w.heap.size,0,none⟩=some (Value.slice (some ⟨g,off,none⟩) ds.length cd)∧w'.cell? ⟨w.heap.size+1+1,7,none⟩=some (Value.slice (some ⟨bk,ok,none⟩) r.kids.length ck)∧w'.cell? ⟨bk,ok+(y+1),none⟩=some (Value.int .i64 (kj:Int))) (fun _=>True) (([0,1,0,1,0,0,0,1,0,0,0,0,0,0]:List Nat).getD j 0)) (by kernel_rfl) ?_;refine tkD 0 (i:=0) (v:=?_) rfl trivial ?_ ?_;rotate_left
 ·(intro w9 hSw;clear hSw;go_simp;try with_reducible rfl)
 try simp only [Act.put,lpa,lpz,lps]
 refine tkD 0 (i:=2) (v:=?_) rfl trivial ?_ ?_;rotate_left
 ·(intro w9 hSw;clear hSw;go_simp;try with_reducible rfl)
 try simp only [Act.put,lpa,lpz,lps]
 refine tkD 0 (i:=4) (v:=?_) rfl trivial ?_ ?_;rotate_left
 ·(intro w9 hSw;clear hSw;go_simp;try with_reducible rfl)
 try simp only [Act.put,lpa,lpz,lps]
 refine tkD 0 (i:=5) (v:=?_) rfl trivial ?_ ?_;rotate_left
 ·(intro w9 hSw;clear hSw;go_simp;try with_reducible rfl)
 try simp only [Act.put,lpa,lpz,lps]
 refine tkD 0 (i:=8) (v:=?_) rfl trivial ?_ ?_;rotate_left
 ·(intro w9 hSw;clear hSw;go_simp;try with_reducible rfl)
 try simp only [Act.put,lpa,lpz,lps]
 refine tkD 0 (i:=9) (v:=?_) rfl trivial ?_ ?_;rotate_left
 ·(intro w9 hSw;clear hSw;go_simp;try with_reducible rfl)
 try simp only [Act.put,lpa,lpz,lps]
 refine tkD 1 (i:=3) (v:=?_) rfl HAB ?_ ?_;rotate_left
 ·(intro w9 hSw;have hfact:w9.cell? ⟨w.heap.size+1+1,7,none⟩=some (Value.slice (some ⟨bk,ok,none⟩) r.kids.length ck):=hSw.2.1;clear hSw;go_simp;try with_reducible rfl)
 try simp only [Act.put,lpa,lpz,lps]
 refine tkD 0 (i:=6) (v:=?_) rfl trivial ?_ ?_;rotate_left
 ·(intro w9 hSw;clear hSw;go_simp;try with_reducible rfl)
 try simp only [Act.put,lpa,lpz,lps]
 refine tkD 1 (i:=1) (v:=?_) rfl HAB ?_ ?_;rotate_left
 ·(intro w9 hSw;have hfact:w9.cell? ⟨w.heap.size,0,none⟩=some (Value.slice (some ⟨g,off,none⟩) ds.length cd):=hSw.1;clear hSw;go_simp;try with_reducible rfl)
 try simp only [Act.put,lpa,lpz,lps]
 refine tkD 1 (i:=7) (v:=?_) rfl HAB ?_ ?_;rotate_left
 ·(intro w9 hSw;have hfact:w9.cell? ⟨bk,ok+(y+1),none⟩=some (Value.int .i64 (kj:Int)):=hSw.2.2;clear hSw;go_simp;try with_reducible rfl)
 try simp only [Act.put,lpa,lpz,lps]
 refine wpAnyC_one (i:=10) (by kernel_rfl) rfl (fun K hK=>?_);go_simp;go_at_call 120;refine (CR.out _ MD.out.grow MD.out.cur _ (by first | exact HWM.out | omega)).mono ?_;rintro _ w6 ⟨t,A1,n1,c1,A2,n2,c2,rfl,hsh,hdv⟩;have hsz6:=hdv.grow.size;have M6:=MD.out.moved hplt hdv.cur hdv.grow;have z2:_=some (Value.slice none 0 0):=(M6.ext hplt (Ext_alloc (.cells #[.int .i64 t.num,.slice A1 n1 c1,.slice A2 n2 c2] 46) (Ext.refl w6))).box.cell 2
 have y2:=(M6.ext hplt (Ext_alloc (.cells #[.int .i64 t.num,.slice A1 n1 c1,.slice A2 n2 c2] 46) (Ext.refl w6))).box.free 2;have hms:=M6.size;have M7:=M6.single hplt hbw hdv.own hdv.far hdv.new (by simp [Value.ownBlock]) (by have:=MD.out.size;omega) (cs:=#[.int .i64 t.num,.slice A1 n1 c1,.slice A2 n2 c2]) (by unfold VT.cells;rw [hsh.out.1,hsh.out.2]);have M7:=lhd M7;have HFT':=lhd (HFT.out t.val ⟨hdv.valid,hdv.sz⟩);clear hdv M6;refine Shut.out hK _ _ trivial ?_;try simp only [Act.put,lpa,lpz,lps]
 refine wpAnyC_one (i:=11) (by kernel_rfl) rfl (fun K hK=>?_);go_simp;refine Shut.out hK _ _ trivial ?_;try simp only [Act.put,lpa,lpz,lps]
 refine wpAnyC_one (i:=12) (by kernel_rfl) rfl (fun K hK=>?_);go_simp;refine Shut.out hK _ _ trivial ?_;try simp only [Act.put,lpa,lpz,lps]
 refine wpAnyC_one (i:=13) (by kernel_rfl) rfl (fun K hK=>?_);go_simp;refine Shut.out hK _ _ trivial ?_;try simp only [Act.put,lpa,lpz,lps]
 refine wpAnyC_done (by kernel_rfl) ?_ _;clear HAB;have m0:_=some (Value.int .i64 n):=M7.out.box.cell 0
 have m1:_=some (Value.slice none 0 0):=M7.out.box.cell 1
 have m2:_=some (Value.slice (some ⟨w6.heap.size,0,none⟩) 1 1):=M7.out.box.cell 2
 have f1:=M7.out.res.cell;have f2:=M7.out.res.free;have HOUT:=lhd (M7.out.out hplt hbw (.int .i64 n) (Value.slice none 0 0) (Value.slice (some ⟨w6.heap.size,0,none⟩) 1 1));have HV:=lhd (HFT'.out);go_wp2_with fail;obtain ⟨hO,hF,hN,hCc,hG⟩:=HOUT.out;exact bodyPost_ret (v:=.agg #[.int .i64 n,Value.slice none 0 0,Value.slice (some ⟨w6.heap.size,0,none⟩) 1 1]) (by simp [results,Tryz.results120,go_sem,f1,f2]) rfl ⟨VT.mk n [] (Value.slice none 0 0) [t] (Value.slice (some ⟨w6.heap.size,0,none⟩) 1 1),_,_,_,_,_,_,rfl,⟨rfl,rfl⟩,⟨HV.out.1,HV.out.2,hO,hF,hN,hCc,hG⟩⟩
theorem l9Make4_c (Ad:Option Addr) (ds:List DRule) (cd:Nat) (hok:descOk ds=true) (i:Nat) (hi:i<ds.length) (hk:ds[i].kind=4) (wb:World) (p:Nat) (A:Option Addr) (l:List UInt8) (c:Nat) (hA:Bs wb A l c) (HR:∀ j,j<i→MakeOk Ad ds cd wb p A l c j):MakeOk Ad ds cd wb p A l c i:=by
 intro m hm w hC hD;have hplt:=hC.lt;have hbw:=hC.2.1.size;have hdl:=(descOk_len hok).2;have CBe:=lhd (fun n w h hn=>l1Below_c n wb w p A l c hA h hn);have COn:=lhd (fun n w h hn=>l1Once_c n wb w p A l c hA h hn);obtain ⟨g,off,hAd,hgw,hall⟩:=hD.out;obtain ⟨Ab,cb,An,cn,At,ct,Ak,ck,hst⟩:=hall i hi;subst hAd;have hS:=(hst w (World.grownBy.refl _ _)).1;obtain ⟨r0,r1,r2,r3,r4,r5,r6,r7⟩:=(hst w (World.grownBy.refl _ _)).2;have HST:=lhd hst;have HD:=lhd hD;have HC:=lhd hC;have hii:(i:Int)<(ds.length:Int):=by omega
 have hi0:(0:Int)≤(i:Int):=by omega
 clear hall hst hD;have t1:=kfF hk 1;have t3:=kfF hk 3;have t4:=kfT hk 4;have t10:=kfF hk 10;have t5:=kfF hk 5;have t6:=kfF hk 6;have t7:=kfF hk 7;have t8:=kfF hk 8;have t9:=kfF hk 9;have HFT:Hid (∀ b:List UInt8,b.length≤6→FitV ds i (.mk 0 b [])):=made4 hok hi hk
 obtain ⟨q,hq⟩:∃ q:Nat,q=(if m<6 then m else 6):=⟨_,rfl⟩;have hq6:q≤6:=by rw [hq];split<;>omega
 have CM:Hid (∀ w,Gives Tryz.prog 26 #[.int .i64 (m:Int),.int .i64 6] w (.int .i64 (q:Int))):=fun w=>by
  have h:=sMin_c (m:Int) 6 w;have e:(if (6:Int)<(m:Int) then (6:Int) else (m:Int))=(q:Int):=by rw [hq];split<;>split<;>omega
  rwa [e] at h
 clear hq;have CB:=lhd (fun n (hn:n≤64) w h=>l1Bytes_c n hn wb w p A l c hA h);generalize ds[i]=r at *;obtain ⟨W0,W1,HW0,HW1,B1,B2,B3,B4,e0,x1,hs0,hs1⟩:=boxes4' w #[Value.slice (some ⟨g,off,none⟩) ds.length cd] val0 (rcs r Ab cb An cn At ct Ak ck) val0 26 46 96 46;have e01:=e0.trans x1
 have M0:Hid (VM wb w W1 p A l c (Value.slice (some ⟨g,off,none⟩) ds.length cd) (rcs r Ab cb An cn At ct Ak ck) 0 (.slice none 0 0) [] (.slice none 0 0) []) :=
  ⟨B1.ext x1,B2.ext x1,B3.ext x1,B4,OwnL.nil _ _,OwnTs.nil _ _,by simp [Far,Value.ownBlock],by simp [Value.ownBlock],HC.out.ext e01,grown_ext e01 _⟩
 have q0:∀ w',Ext W0 w'→_=some (Value.slice (some ⟨g,off,none⟩) ds.length cd):=B1.at 0
 have k0:∀ w',Ext W0 w'→_=some (Value.string r.nm):=B3.at 0
 have k1:∀ w',Ext W0 w'→_=some (Value.int .i64 r.kind):=B3.at 1
 have k2:∀ w',Ext W0 w'→_=some (Value.int .i64 r.size):=B3.at 2
 have k3:∀ w',Ext W0 w'→_=some (Value.bool r.little):=B3.at 3
 have k4:∀ w',Ext W0 w'→_=some (Value.slice Ab r.bytes.length cb):=B3.at 4
 have k5:∀ w',Ext W0 w'→_=some (Value.slice An r.names.length cn):=B3.at 5
 have k6:∀ w',Ext W0 w'→_=some (Value.slice At r.tags.length ct):=B3.at 6
 have k7:∀ w',Ext W0 w'→_=some (Value.slice Ak r.kids.length ck):=B3.at 7
 have HWM:Hid (IntKind.i64.wrap ((m:Int) / 2)=((m / 2:Nat):Int)):=by
  show _=_
  rw [IntWalk.i64_in _ (by omega)];omega
 have HS1:=lhd hs1;have HX1:=lhd x1;clear B1 B2 B3 B4 hs0 hs1 hk;unfold val0 at *;go_enter Tryz.func120,Tryz.ntmps120;go_wp2_with fail;rw [← HW0.out,← HW1.out];refine (CM.out _).mono ?_;rintro _ w1 ⟨rfl,he1⟩;have M1:=lhd (M0.out.ext hplt he1);clear M0 he1;go_wp2_with fail;refine (CBe.out ((q:Int)+1) _ M1.out.cur (by omega)).mono ?_;rintro _ w2 ⟨x,hx,rfl,hC2,hg2⟩;have hx6:x≤6:=by unfold below at hx;rw [if_neg (by omega)] at hx;omega
 have M2:=lhd (M1.out.moved hplt hC2 hg2);clear M1 hC2 hg2 hx;go_wp2_with fail;refine (CB.out x (by omega) _ M2.out.cur).mono ?_;rintro _ w3 ⟨v,bs,hbl,rfl,hO3,hn3,hC3,hg3⟩;obtain ⟨A3,c3,hsh⟩:=Own.shape hO3;subst hsh;have M3:=lhd (M2.out.moved hplt hC3 hg3);have z0:_=some (Value.slice none 0 0):=M3.out.box.cell 1
 have y0:=M3.out.box.free 1;have M4:=lhd (M3.out.bytes hplt hbw hO3 hn3 (by simp [Value.ownBlock]) (by have:=M2.out.size;omega));have HX:=lhd (HFT.out bs (by omega));have kk:_=some (Value.int .i64 r.kind):=M4.out.rb.cell 1
 clear M2 M3 hC3 hg3 hO3 hn3 hbl;have m0:_=some (Value.int .i64 0):=M4.out.box.cell 0
 have m1:_=some (Value.slice A3 bs.length c3):=M4.out.box.cell 1
 have m2:_=some (Value.slice none 0 0):=M4.out.box.cell 2
 have f1:=M4.out.res.cell;have f2:=M4.out.res.free;have HOUT:=lhd (M4.out.out hplt hbw (.int .i64 0) (Value.slice A3 bs.length c3) (Value.slice none 0 0));have HV:=lhd (HX.out);go_wp2_with fail;obtain ⟨hO,hF,hN,hCc,hG⟩:=HOUT.out;exact bodyPost_ret (v:=.agg #[.int .i64 0,Value.slice A3 bs.length c3,Value.slice none 0 0]) (by simp [results,Tryz.results120,go_sem,f1,f2]) rfl ⟨.mk 0 bs (Value.slice A3 bs.length c3) [] (Value.slice none 0 0),_,_,_,_,_,_,rfl,⟨rfl,rfl⟩,⟨HV.out.1,HV.out.2,hO,hF,hN,hCc,hG⟩⟩
theorem l9Make10_c (Ad:Option Addr) (ds:List DRule) (cd:Nat) (hok:descOk ds=true) (i:Nat) (hi:i<ds.length) (hk:ds[i].kind=10) (wb:World) (p:Nat) (A:Option Addr) (l:List UInt8) (c:Nat) (hA:Bs wb A l c) (HR:∀ j,j<i→MakeOk Ad ds cd wb p A l c j):MakeOk Ad ds cd wb p A l c i:=by
 intro m hm w hC hD;have hplt:=hC.lt;have hbw:=hC.2.1.size;have hdl:=(descOk_len hok).2;have CBe:=lhd (fun n w h hn=>l1Below_c n wb w p A l c hA h hn);have COn:=lhd (fun n w h hn=>l1Once_c n wb w p A l c hA h hn);obtain ⟨g,off,hAd,hgw,hall⟩:=hD.out;obtain ⟨Ab,cb,An,cn,At,ct,Ak,ck,hst⟩:=hall i hi;subst hAd;have hS:=(hst w (World.grownBy.refl _ _)).1;obtain ⟨r0,r1,r2,r3,r4,r5,r6,r7⟩:=(hst w (World.grownBy.refl _ _)).2;have HST:=lhd hst;have HD:=lhd hD;have HC:=lhd hC;have hii:(i:Int)<(ds.length:Int):=by omega
 have hi0:(0:Int)≤(i:Int):=by omega
 clear hall hst hD;have t1:=kfF hk 1;have t3:=kfF hk 3;have t4:=kfF hk 4;have t10:=kfT hk 10;have t5:=kfF hk 5;have t6:=kfF hk 6;have t7:=kfF hk 7;have t8:=kfF hk 8;have t9:=kfF hk 9;have HFT:Hid (∀ b:List UInt8,b.length≤6→FitV ds i (.mk 0 b [])):=made10 hi hk
 obtain ⟨q,hq⟩:∃ q:Nat,q=(if m<6 then m else 6):=⟨_,rfl⟩;have hq6:q≤6:=by rw [hq];split<;>omega
 have CM:Hid (∀ w,Gives Tryz.prog 26 #[.int .i64 (m:Int),.int .i64 6] w (.int .i64 (q:Int))):=fun w=>by
  have h:=sMin_c (m:Int) 6 w;have e:(if (6:Int)<(m:Int) then (6:Int) else (m:Int))=(q:Int):=by rw [hq];split<;>split<;>omega
  rwa [e] at h
 clear hq;have CB:=lhd (fun n (hn:n≤64) w h=>l1Bytes_c n hn wb w p A l c hA h);have hb1:=(term_byte hok i hi hk).2;obtain ⟨bb,ob,hAb,hbb,hcel⟩:=hS.b.at 0 (by omega);subst hAb;clear hcel;have HBC:Hid (∃ tb:UInt8,∀ w',w.grownBy w' (some p)→w'.cell? ⟨bb,ob,none⟩=some (Value.int .u8 (tb.toNat:Int))):=⟨ds[i].bytes[0]'(by omega),fun w' hg=>(HST.out w' hg).1.b.cellAt 0 (by omega)⟩
 have hbl0:0<ds[i].bytes.length:=by omega
 have hbl1:(0:Int)<(ds[i].bytes.length:Int):=by omega
 clear hb1;obtain ⟨tb,hbc⟩:=HBC.out;replace HBC:=lhd hbc;clear hbc;generalize ds[i]=r at *;obtain ⟨W0,W1,HW0,HW1,B1,B2,B3,B4,e0,x1,hs0,hs1⟩:=boxes4' w #[Value.slice (some ⟨g,off,none⟩) ds.length cd] val0 (rcs r (some ⟨bb,ob,none⟩) cb An cn At ct Ak ck) val0 26 46 96 46;have e01:=e0.trans x1
 have M0:Hid (VM wb w W1 p A l c (Value.slice (some ⟨g,off,none⟩) ds.length cd) (rcs r (some ⟨bb,ob,none⟩) cb An cn At ct Ak ck) 0 (.slice none 0 0) [] (.slice none 0 0) []) :=
  ⟨B1.ext x1,B2.ext x1,B3.ext x1,B4,OwnL.nil _ _,OwnTs.nil _ _,by simp [Far,Value.ownBlock],by simp [Value.ownBlock],HC.out.ext e01,grown_ext e01 _⟩
 have q0:∀ w',Ext W0 w'→_=some (Value.slice (some ⟨g,off,none⟩) ds.length cd):=B1.at 0
 have k0:∀ w',Ext W0 w'→_=some (Value.string r.nm):=B3.at 0
 have k1:∀ w',Ext W0 w'→_=some (Value.int .i64 r.kind):=B3.at 1
 have k2:∀ w',Ext W0 w'→_=some (Value.int .i64 r.size):=B3.at 2
 have k3:∀ w',Ext W0 w'→_=some (Value.bool r.little):=B3.at 3
 have k4:∀ w',Ext W0 w'→_=some (Value.slice (some ⟨bb,ob,none⟩) r.bytes.length cb):=B3.at 4
 have k5:∀ w',Ext W0 w'→_=some (Value.slice An r.names.length cn):=B3.at 5
 have k6:∀ w',Ext W0 w'→_=some (Value.slice At r.tags.length ct):=B3.at 6
 have k7:∀ w',Ext W0 w'→_=some (Value.slice Ak r.kids.length ck):=B3.at 7
 have HWM:Hid (IntKind.i64.wrap ((m:Int) / 2)=((m / 2:Nat):Int)):=by
  show _=_
  rw [IntWalk.i64_in _ (by omega)];omega
 have HS1:=lhd hs1;have HX1:=lhd x1;clear B1 B2 B3 B4 hs0 hs1 hk;unfold val0 at *;go_enter Tryz.func120,Tryz.ntmps120;go_wp2_with fail;rw [← HW0.out,← HW1.out];refine (CM.out _).mono ?_;rintro _ w1 ⟨rfl,he1⟩;have M1:=lhd (M0.out.ext hplt he1);clear M0 he1;go_wp2_with fail;refine (CBe.out ((q:Int)+1) _ M1.out.cur (by omega)).mono ?_;rintro _ w2 ⟨x,hx,rfl,hC2,hg2⟩;have hx6:x≤6:=by unfold below at hx;rw [if_neg (by omega)] at hx;omega
 have M2:=lhd (M1.out.moved hplt hC2 hg2);clear M1 hC2 hg2 hx;go_wp2_with fail;refine (CB.out x (by omega) _ M2.out.cur).mono ?_;rintro _ w3 ⟨v,bs,hbl,rfl,hO3,hn3,hC3,hg3⟩;obtain ⟨A3,c3,hsh⟩:=Own.shape hO3;subst hsh;have M3:=lhd (M2.out.moved hplt hC3 hg3);have z0:_=some (Value.slice none 0 0):=M3.out.box.cell 1
 have y0:=M3.out.box.free 1;have M4:=lhd (M3.out.bytes hplt hbw hO3 hn3 (by simp [Value.ownBlock]) (by have:=M2.out.size;omega));have kk:_=some (Value.int .i64 r.kind):=M4.out.rb.cell 1
 have u1:_=some (Value.slice A3 bs.length c3):=M4.out.box.cell 1
 have hbx:bs.length≤6:=by omega
 clear M2 M3 hC3 hg3 hO3 hn3 hbl
 by_cases hb0:0<bs.length
 ·have hb1:(0:Int)<(bs.length:Int):=by omega
  go_wp2_with fail;refine (COn.out 2 _ M4.out.cur (by omega)).mono ?_;rintro _ w5 ⟨b,rfl,hC5,hg5⟩;have M5:=lhd (M4.out.moved hplt hC5 hg5);clear M4 hC5 hg5 kk u1;cases b with
  | false =>
   have HX:=lhd (HFT.out bs hbx);have m0:_=some (Value.int .i64 0):=M5.out.box.cell 0
   have m1:_=some (Value.slice A3 bs.length c3):=M5.out.box.cell 1
   have m2:_=some (Value.slice none 0 0):=M5.out.box.cell 2
   have f1:=M5.out.res.cell;have f2:=M5.out.res.free;have HOUT:=lhd (M5.out.out hplt hbw (.int .i64 0) (Value.slice A3 bs.length c3) (Value.slice none 0 0));have HV:=lhd (HX.out);go_wp2_with fail;obtain ⟨hO,hF,hN,hCc,hG⟩:=HOUT.out;exact bodyPost_ret (v:=.agg #[.int .i64 0,Value.slice A3 bs.length c3,Value.slice none 0 0]) (by simp [results,Tryz.results120,go_sem,f1,f2]) rfl ⟨.mk 0 bs (Value.slice A3 bs.length c3) [] (Value.slice none 0 0),_,_,_,_,_,_,rfl,⟨rfl,rfl⟩,⟨HV.out.1,HV.out.2,hO,hF,hN,hCc,hG⟩⟩
  | true =>
   obtain ⟨g3,cap3,hv3,_,_⟩:=World.ownsRow.form M5.out.own hb0;injection hv3 with hv31 _ hv33
   subst hv31;subst hv33;have htb:IntKind.i64.wrap (tb.toNat:Int)=(tb.toNat:Int):=IntWalk.i64_in _ (by have:=tb.toNat_lt;omega)
   go_wp2_with fail;have MD:=lhd (M5.out.ext hplt (Ext_drew (Ext.refl w5)));have HAB:lv2 (fun w'=>w'.cell? ⟨w.heap.size+1+1+1,1,none⟩=some (Value.slice (some ⟨g3,0,none⟩) bs.length c3)∧w'.cell? ⟨w.heap.size+1+1,4,none⟩=some (Value.slice (some ⟨bb,ob,none⟩) r.bytes.length cb)∧w'.cell? ⟨bb,ob,none⟩=some (Value.int .u8 (tb.toNat:Int))) (fun _=>True) 1 w5.drew:=⟨MD.out.box.cell 1,MD.out.rb.cell 4,HBC.out _ MD.out.grow⟩
   clear M5;refine wp_region_C (C:=fun j=>lv2 (fun w'=>w'.cell? ⟨w.heap.size+1+1+1,1,none⟩=some (Value.slice (some ⟨g3,0,none⟩) bs.length c3)∧w'.cell? ⟨w.heap.size+1+1,4,none⟩=some (Value.slice (some ⟨bb,ob,none⟩) r.bytes.length cb)∧w'.cell? ⟨bb,ob,none⟩=some (Value.int .u8 (tb.toNat:Int))) (fun _=>True) (([0,1,0,0,1,0,1,0,1,1,1,0,0]:List Nat).getD j 0)) (by kernel_rfl) ?_;refine tkD 0 (i:=0) (v:=?_) rfl trivial ?_ ?_;rotate_left
   ·(intro w9 hSw;clear hSw;go_simp;try with_reducible rfl)
   try simp only [Act.put,lpa,lpz,lps]
   refine tkD 0 (i:=2) (v:=?_) rfl trivial ?_ ?_;rotate_left
   ·(intro w9 hSw;clear hSw;go_simp;try with_reducible rfl)
   try simp only [Act.put,lpa,lpz,lps]
   refine tkD 0 (i:=3) (v:=?_) rfl trivial ?_ ?_;rotate_left
   ·(intro w9 hSw;clear hSw;go_simp;try with_reducible rfl)
   try simp only [Act.put,lpa,lpz,lps]
   refine tkD 1 (i:=4) (v:=?_) rfl HAB ?_ ?_;rotate_left
   ·(intro w9 hSw;have hfact:w9.cell? ⟨w.heap.size+1+1,4,none⟩=some (Value.slice (some ⟨bb,ob,none⟩) r.bytes.length cb):=hSw.2.1;clear hSw;go_simp;try with_reducible rfl)
   try simp only [Act.put,lpa,lpz,lps]
   refine tkD 0 (i:=5) (v:=?_) rfl trivial ?_ ?_;rotate_left
   ·(intro w9 hSw;clear hSw;go_simp;try with_reducible rfl)
   try simp only [Act.put,lpa,lpz,lps]
   refine tkD 1 (i:=6) (v:=?_) rfl HAB ?_ ?_;rotate_left
   ·(intro w9 hSw;have hfact:w9.cell? ⟨bb,ob,none⟩=some (Value.int .u8 (tb.toNat:Int)):=hSw.2.2;clear hSw;go_simp;try with_reducible rfl)
   try simp only [Act.put,lpa,lpz,lps]
   refine tkD 0 (i:=7) (v:=?_) rfl trivial ?_ ?_;rotate_left
   ·(intro w9 hSw;clear hSw;go_simp;try with_reducible rfl)
   try simp only [Act.put,lpa,lpz,lps]
   refine tkD 1 (i:=1) (v:=?_) rfl HAB ?_ ?_;rotate_left
   ·(intro w9 hSw;have hfact:w9.cell? ⟨w.heap.size+1+1+1,1,none⟩=some (Value.slice (some ⟨g3,0,none⟩) bs.length c3):=hSw.1;clear hSw;go_simp;try with_reducible rfl)
   try simp only [Act.put,lpa,lpz,lps]
   refine wpAnyC_one (i:=8) (by kernel_rfl) rfl (fun K hK=>?_);go_simp;have M7:=lhd (MD.out.ext hplt (Ext_alloc (.cells #[.int .i64 (tb.toNat:Int),.int .i64 92] 3) (Ext.refl _)));refine Shut.out hK _ _ ⟨M7.out.box.cell 1,M7.out.rb.cell 4,HBC.out _ M7.out.grow⟩ ?_;(try simp only [Act.put,lpa,lpz,lps]);refine wpAnyC_one (i:=9) (by kernel_rfl) rfl (fun K hK=>?_);go_simp;go_at_call 125;refine (l1IntBox_c [(tb.toNat:Int),92] (by simp) (by simp) 2 rfl #[.int .i64 (tb.toNat:Int),.int .i64 92] rfl wb _ p A l c hA _ M7.out.cur (by first | (refine Box.newd' _ _ _ _ ?_;first | rfl | (simp;done)) | (refine Box.new' _ _ _ _ ?_;first | rfl | (simp;done)))).mono ?_;rintro _ w8 ⟨x,hx,rfl,hC8,hg8⟩;have M8:=lhd (M7.out.moved hplt hC8 hg8)
   obtain ⟨y,hyw⟩:∃ y:UInt8,IntKind.u8.wrap x=(y.toNat:Int):=(by
    simp only [List.mem_cons,List.not_mem_nil,or_false] at hx;rcases hx with rfl | rfl
    ·exact ⟨tb,IntWalk.u8_in _ (by have:=tb.toNat_lt;omega)⟩
    ·exact ⟨92,IntWalk.u8_in _ (by omega)⟩)
   obtain ⟨⟨u0,zz⟩,yy,M9⟩:=M8.out.byte0 hplt hbw hb0 y _ rfl;have M9:=lhd M9;have HX:=lhd (HFT.out (bs.set 0 y) (by rw [List.length_set];omega));clear hC8 hg8 hx;refine Shut.out hK _ _ ⟨M8.out.box.cell 1,M8.out.rb.cell 4,HBC.out _ M8.out.grow⟩ ?_;(try simp only [Act.put,lpa,lpz,lps]);refine wpAnyC_one (i:=10) (by kernel_rfl) rfl (fun K hK=>?_);go_simp;refine Shut.out hK _ _ ⟨M8.out.box.cell 1,M8.out.rb.cell 4,HBC.out _ M8.out.grow⟩ ?_;(try simp only [Act.put,lpa,lpz,lps]);refine wpAnyC_one (i:=11) (by kernel_rfl) rfl (fun K hK=>?_);go_simp;refine Shut.out hK _ _ trivial ?_;(try simp only [Act.put,lpa,lpz,lps]);refine wpAnyC_one (i:=12) (by kernel_rfl) rfl (fun K hK=>?_);go_simp;refine Shut.out hK _ _ trivial ?_;(try simp only [Act.put,lpa,lpz,lps]);refine wpAnyC_done (by kernel_rfl) ?_ _;clear HAB MD M7 M8;have m0:_=some (Value.int .i64 0):=M9.out.box.cell 0
   have m1:_=some (Value.slice (some ⟨g3,0,none⟩) bs.length c3):=M9.out.box.cell 1
   have m2:_=some (Value.slice none 0 0):=M9.out.box.cell 2
   have f1:=M9.out.res.cell;have f2:=M9.out.res.free;have HOUT:=lhd (M9.out.out hplt hbw (.int .i64 0) (Value.slice (some ⟨g3,0,none⟩) bs.length c3) (Value.slice none 0 0));have HV:=lhd (HX.out);go_wp2_with fail;obtain ⟨hO,hF,hN,hCc,hG⟩:=HOUT.out;exact bodyPost_ret (v:=.agg #[.int .i64 0,Value.slice (some ⟨g3,0,none⟩) bs.length c3,Value.slice none 0 0]) (by simp [results,Tryz.results120,go_sem,f1,f2]) rfl ⟨.mk 0 (bs.set 0 y) (Value.slice (some ⟨g3,0,none⟩) bs.length c3) [] (Value.slice none 0 0),_,_,_,_,_,_,rfl,⟨rfl,rfl⟩,⟨HV.out.1,HV.out.2,hO,hF,hN,hCc,hG⟩⟩
 ·have HX:=lhd (HFT.out bs hbx)
  have hb1:¬ (0:Int)<(bs.length:Int):=by omega
  have m0:_=some (Value.int .i64 0):=M4.out.box.cell 0
  have m1:_=some (Value.slice A3 bs.length c3):=M4.out.box.cell 1
  have m2:_=some (Value.slice none 0 0):=M4.out.box.cell 2
  have f1:=M4.out.res.cell;have f2:=M4.out.res.free;have HOUT:=lhd (M4.out.out hplt hbw (.int .i64 0) (Value.slice A3 bs.length c3) (Value.slice none 0 0));have HV:=lhd (HX.out);go_wp2_with fail;obtain ⟨hO,hF,hN,hCc,hG⟩:=HOUT.out;exact bodyPost_ret (v:=.agg #[.int .i64 0,Value.slice A3 bs.length c3,Value.slice none 0 0]) (by simp [results,Tryz.results120,go_sem,f1,f2]) rfl ⟨.mk 0 bs (Value.slice A3 bs.length c3) [] (Value.slice none 0 0),_,_,_,_,_,_,rfl,⟨rfl,rfl⟩,⟨HV.out.1,HV.out.2,hO,hF,hN,hCc,hG⟩⟩
theorem l9Make6_c (Ad:Option Addr) (ds:List DRule) (cd:Nat) (hok:descOk ds=true) (i:Nat) (hi:i<ds.length) (hk:ds[i].kind=6) (wb:World) (p:Nat) (A:Option Addr) (l:List UInt8) (c:Nat) (hA:Bs wb A l c) (HR:∀ j,j<i→MakeOk Ad ds cd wb p A l c j):MakeOk Ad ds cd wb p A l c i:=by
 intro m hm w hC hD;have hplt:=hC.lt;have hbw:=hC.2.1.size;have hdl:=(descOk_len hok).2;have CBe:=lhd (fun n w h hn=>l1Below_c n wb w p A l c hA h hn);have COn:=lhd (fun n w h hn=>l1Once_c n wb w p A l c hA h hn);obtain ⟨g,off,hAd,hgw,hall⟩:=hD.out;obtain ⟨Ab,cb,An,cn,At,ct,Ak,ck,hst⟩:=hall i hi;subst hAd;have hS:=(hst w (World.grownBy.refl _ _)).1;obtain ⟨r0,r1,r2,r3,r4,r5,r6,r7⟩:=(hst w (World.grownBy.refl _ _)).2;have HST:=lhd hst;have HD:=lhd hD;have HC:=lhd hC;have hii:(i:Int)<(ds.length:Int):=by omega
 have hi0:(0:Int)≤(i:Int):=by omega
 clear hall hst hD;have t1:=kfF hk 1;have t3:=kfF hk 3;have t4:=kfF hk 4;have t10:=kfF hk 10;have t5:=kfF hk 5;have t6:=kfT hk 6;have t7:=kfF hk 7;have t8:=kfF hk 8;have t9:=kfF hk 9;obtain ⟨hk8,hft⟩:=made6 hok hi hk;obtain ⟨bk,ok,hAk,hbk,hcel⟩:=hS.k.at 0 (by omega);subst hAk;clear hcel
 have HTK:Hid (∀ k,k<ds[i].kids.length→∀ w',w.grownBy w' (some p)→w'.cell? ⟨bk,ok+k,none⟩=some (Value.int .i64 ((kd ds[i] k:Nat):Int))):=fun k hk' w' hg=>by
  have h1:=(HST.out w' hg).1.k.cellAt k hk';rw [kd_int hok i hi k hk'] at h1;exact h1
 have CR:Hid (∀ k,k<ds[i].kids.length→∀ w',w.grownBy w' (some p)→Cur wb w' p A l c→∀ x:Int,x=((m / 2:Nat):Int)→Calls Tryz.prog 120 #[.pointer (some ⟨p,0,none⟩),.agg #[Value.slice (some ⟨g,off,none⟩) ds.length cd],.int .i64 ((kd ds[i] k:Nat):Int),.int .i64 x] w' fun e w''=>∃ (t:VT) (A1:Option Addr) (n1 c1:Nat) (A2:Option Addr) (n2 c2:Nat),e=.returned (.agg #[.int .i64 t.num,.slice A1 n1 c1,.slice A2 n2 c2])∧Hid (t.vb=.slice A1 n1 c1∧t.vi=.slice A2 n2 c2)∧DrawnV ds (kd ds[i] k) wb w' w'' p A l c t):=fun k hk' w' hg hc x hx=>by
  subst hx;exact HR _ (kd_lt hok i hi k hk') (m / 2) (by omega) w' hc (HD.out.mono hg)
 have HFT:=lhd hft;clear hft;obtain ⟨KD,hKD⟩:∃ KD:Nat→Nat,KD=fun k=>kd ds[i] k:=⟨_,rfl⟩
 have e:∀ k,kd ds[i] k=KD k:=fun k=>by rw [hKD]
 simp only [e] at HTK CR HFT;clear e hKD;generalize ds[i]=r at *;obtain ⟨W0,W1,HW0,HW1,B1,B2,B3,B4,e0,x1,hs0,hs1⟩:=boxes4' w #[Value.slice (some ⟨g,off,none⟩) ds.length cd] val0 (rcs r Ab cb An cn At ct (some ⟨bk,ok,none⟩) ck) val0 26 46 96 46;have e01:=e0.trans x1
 have M0:Hid (VM wb w W1 p A l c (Value.slice (some ⟨g,off,none⟩) ds.length cd) (rcs r Ab cb An cn At ct (some ⟨bk,ok,none⟩) ck) 0 (.slice none 0 0) [] (.slice none 0 0) []) :=
  ⟨B1.ext x1,B2.ext x1,B3.ext x1,B4,OwnL.nil _ _,OwnTs.nil _ _,by simp [Far,Value.ownBlock],by simp [Value.ownBlock],HC.out.ext e01,grown_ext e01 _⟩
 have q0:∀ w',Ext W0 w'→_=some (Value.slice (some ⟨g,off,none⟩) ds.length cd):=B1.at 0
 have k0:∀ w',Ext W0 w'→_=some (Value.string r.nm):=B3.at 0
 have k1:∀ w',Ext W0 w'→_=some (Value.int .i64 r.kind):=B3.at 1
 have k2:∀ w',Ext W0 w'→_=some (Value.int .i64 r.size):=B3.at 2
 have k3:∀ w',Ext W0 w'→_=some (Value.bool r.little):=B3.at 3
 have k4:∀ w',Ext W0 w'→_=some (Value.slice Ab r.bytes.length cb):=B3.at 4
 have k5:∀ w',Ext W0 w'→_=some (Value.slice An r.names.length cn):=B3.at 5
 have k6:∀ w',Ext W0 w'→_=some (Value.slice At r.tags.length ct):=B3.at 6
 have k7:∀ w',Ext W0 w'→_=some (Value.slice (some ⟨bk,ok,none⟩) r.kids.length ck):=B3.at 7
 have HWM:Hid (IntKind.i64.wrap ((m:Int) / 2)=((m / 2:Nat):Int)):=by
  show _=_
  rw [IntWalk.i64_in _ (by omega)];omega
 have HS1:=lhd hs1;have HX1:=lhd x1;clear B1 B2 B3 B4 hs0 hs1 hk;unfold val0 at *;go_enter Tryz.func120,Tryz.ntmps120;go_wp2;rw [← HW0.out,← HW1.out];go_loopw [12] (fun t wr=>∃ (k:Nat) (vi:Value) (ps:List VT),t=.int .i64 k∧(k=ps.length∧k≤r.kids.length)∧Hid (FitL ds (KD) (valsOf ps))∧Hid (VM wb w wr p A l c (Value.slice (some ⟨g,off,none⟩) ds.length cd) (rcs r Ab cb An cn At ct (some ⟨bk,ok,none⟩) ck) 0 (.slice none 0 0) [] vi ps)) (fun t _=>r.kids.length-(intOf t).toNat)
 case atStart=>exact ⟨0,_,[],rfl,⟨rfl,by omega⟩,FitL.nil _ _,M0⟩
 case round =>
  clear M0;obtain ⟨k,vi,ps,rfl,⟨hkp,hkl⟩,HF,M1⟩:=hrel;subst hkp;obtain ⟨Ai,ci,hvi⟩:=M1.out.its.shape;subst hvi;have u7:_=some (Value.slice (some ⟨bk,ok,none⟩) r.kids.length ck):=M1.out.rb.cell 7
  by_cases hlt:ps.length<r.kids.length
  ·have HKC:=lhd (HTK.out _ hlt)
   have HMX:Hid (ps.length+1≤maxLen∧(ps.length+1)*56≤140737488355328):=⟨by simp only [maxLen];omega,by omega⟩
   have hi1:(ps.length:Int)<(r.kids.length:Int):=by omega
   go_wp2_with fail;have MD:=lhd (M1.out.ext hplt (Ext_drew (Ext.refl wr)));have HOLD:=lhd MD.out.old;have HAB:lv2 (fun w'=>w'.cell? ⟨w.heap.size,0,none⟩=some (Value.slice (some ⟨g,off,none⟩) ds.length cd)∧w'.cell? ⟨w.heap.size+1+1,7,none⟩=some (Value.slice (some ⟨bk,ok,none⟩) r.kids.length ck)∧w'.cell? ⟨bk,ok+ps.length,none⟩=some (Value.int .i64 (KD ps.length:Int))∧w'.cell? ⟨w.heap.size+1+1+1,2,none⟩=some (Value.slice Ai ps.length ci)) (fun _=>True) 1 wr.drew:=⟨MD.out.db.cell 0,MD.out.rb.cell 7,HKC.out _ MD.out.grow,MD.out.box.cell 2⟩
   clear M1;refine wp_region_C (C:=fun j=>lv2 (fun w'=>w'.cell? ⟨w.heap.size,0,none⟩=some (Value.slice (some ⟨g,off,none⟩) ds.length cd)∧w'.cell? ⟨w.heap.size+1+1,7,none⟩=some (Value.slice (some ⟨bk,ok,none⟩) r.kids.length ck)∧w'.cell? ⟨bk,ok+ps.length,none⟩=some (Value.int .i64 (KD ps.length:Int))∧w'.cell? ⟨w.heap.size+1+1+1,2,none⟩=some (Value.slice Ai ps.length ci)) (fun _=>True) (([0,1,0,1,0,1,0,0,1,0,0,1,1,0,0,0]:List Nat).getD j 0)) (by kernel_rfl) ?_;refine tkD 0 (i:=0) (v:=?_) rfl trivial ?_ ?_;rotate_left
   ·(intro w9 hSw;clear hSw;go_simp;try with_reducible rfl)
   try simp only [Act.put,lpa,lpz,lps]
   refine tkD 0 (i:=2) (v:=?_) rfl trivial ?_ ?_;rotate_left
   ·(intro w9 hSw;clear hSw;go_simp;try with_reducible rfl)
   try simp only [Act.put,lpa,lpz,lps]
   refine tkD 0 (i:=4) (v:=?_) rfl trivial ?_ ?_;rotate_left
   ·(intro w9 hSw;clear hSw;go_simp;try with_reducible rfl)
   try simp only [Act.put,lpa,lpz,lps]
   refine tkD 0 (i:=6) (v:=?_) rfl trivial ?_ ?_;rotate_left
   ·(intro w9 hSw;clear hSw;go_simp;try with_reducible rfl)
   try simp only [Act.put,lpa,lpz,lps]
   refine tkD 0 (i:=9) (v:=?_) rfl trivial ?_ ?_;rotate_left
   ·(intro w9 hSw;clear hSw;go_simp;try with_reducible rfl)
   try simp only [Act.put,lpa,lpz,lps]
   refine tkD 0 (i:=10) (v:=?_) rfl trivial ?_ ?_;rotate_left
   ·(intro w9 hSw;clear hSw;go_simp;try with_reducible rfl)
   try simp only [Act.put,lpa,lpz,lps]
   refine tkD 1 (i:=5) (v:=?_) rfl HAB ?_ ?_;rotate_left
   ·(intro w9 hSw;have hfact:w9.cell? ⟨w.heap.size+1+1,7,none⟩=some (Value.slice (some ⟨bk,ok,none⟩) r.kids.length ck):=hSw.2.1;clear hSw;go_simp;try with_reducible rfl)
   try simp only [Act.put,lpa,lpz,lps]
   refine tkD 0 (i:=7) (v:=?_) rfl trivial ?_ ?_;rotate_left
   ·(intro w9 hSw;clear hSw;go_simp;try with_reducible rfl)
   try simp only [Act.put,lpa,lpz,lps]
   refine tkD 1 (i:=1) (v:=?_) rfl HAB ?_ ?_;rotate_left
   ·(intro w9 hSw;have hfact:w9.cell? ⟨w.heap.size+1+1+1,2,none⟩=some (Value.slice Ai ps.length ci):=hSw.2.2.2;clear hSw;go_simp;try with_reducible rfl)
   try simp only [Act.put,lpa,lpz,lps]
   refine tkD 1 (i:=3) (v:=?_) rfl HAB ?_ ?_;rotate_left
   ·(intro w9 hSw;have hfact:w9.cell? ⟨w.heap.size,0,none⟩=some (Value.slice (some ⟨g,off,none⟩) ds.length cd):=hSw.1;clear hSw;go_simp;try with_reducible rfl)
   try simp only [Act.put,lpa,lpz,lps]
   refine tkD 1 (i:=8) (v:=?_) rfl HAB ?_ ?_;rotate_left
   ·(intro w9 hSw;have hfact:w9.cell? ⟨bk,ok+ps.length,none⟩=some (Value.int .i64 (KD ps.length:Int)):=hSw.2.2.1;clear hSw;go_simp;try with_reducible rfl)
   try simp only [Act.put,lpa,lpz,lps]
   refine wpAnyC_one (i:=11) (by kernel_rfl) rfl (fun K hK=>?_);go_simp;go_at_call 120;refine (CR.out _ hlt _ MD.out.grow MD.out.cur _ (by first | exact HWM.out | omega)).mono ?_;rintro _ w6 ⟨t,A1,n1,c1,A2,n2,c2,rfl,hsh,hdv⟩;have M6:=lhd (MD.out.moved hplt hdv.cur hdv.grow);have HDV:=lhd hdv;clear hdv;refine Shut.out hK _ _ ⟨M6.out.db.cell 0,M6.out.rb.cell 7,HKC.out _ M6.out.grow,M6.out.box.cell 2⟩ ?_;(try simp only [Act.put,lpa,lpz,lps]);refine wpAnyC_one (i:=12) (by kernel_rfl) rfl (fun K hK=>?_);go_simp;have M6':=lhd (M6.out.ext hplt (Ext_alloc (.cells #[.int .i64 t.num,.slice A1 n1 c1,.slice A2 n2 c2] 46) (Ext.refl w6)));have hcs:t.cells=[.int .i64 t.num,.slice A1 n1 c1,.slice A2 n2 c2]:=by unfold VT.cells;rw [hsh.out.1,hsh.out.2]
   have HCS:=lhd hcs;have hone:=lhd HDV.out.own.one;rw [hcs] at hone;clear hcs;refine Shut.out hK _ _ ⟨M6'.out.db.cell 0,M6'.out.rb.cell 7,HKC.out _ M6'.out.grow,M6'.out.box.cell 2⟩ ?_;(try simp only [Act.put,lpa,lpz,lps]);refine wpAnyC_one (i:=13) (by kernel_rfl) rfl (fun K hK=>?_);refine step_app8 rfl (.tmp 109) (.tmp 120) _ rfl E_val wb (w6.alloc (.cells #[.int .i64 t.num,.slice A1 n1 c1,.slice A2 n2 c2] 46)) (Value.slice Ai ps.length ci) ps.length (ps.flatMap VT.cells) rfl M6'.out.its.row M6'.out.cur.2.1.size ⟨w6.heap.size,0,none⟩ 1 1 [.int .i64 t.num,.slice A1 n1 c1,.slice A2 n2 c2] rfl rfl (fun j u hu=>(World.cell?_alloc_at' w6 [.int .i64 t.num,.slice A1 n1 c1,.slice A2 n2 c2] 46 j).trans hu) hone.out HMX.out.1 HMX.out.2 ?_;intro v7 w7 ho7 hg7 hv7;rw [← HCS.out] at ho7;obtain ⟨⟨z7,y7⟩,M7⟩:=VM.snoc M6'.out hplt hbw (HDV.out.own.ext (Ext_alloc (.cells #[.int .i64 t.num,.slice A1 n1 c1,.slice A2 n2 c2] 46) (Ext.refl w6))) HDV.out.far HDV.out.new HOLD.out MD.out.size (by have:=HDV.out.grow.size;rw [World.size_alloc];omega) ho7 (M6'.out.cur.2.1.grown hg7 (fun k hk=>(World.ownsRow.lt M6'.out.its.row k hk).1)) hg7 hv7;obtain ⟨A7,c7,hsh7⟩:=M7.its.shape;replace hsh7:v7=.slice A7 (ps.length+1) c7:=(by rw [hsh7,List.length_append];rfl);subst hsh7;have M7:=lhd M7;have HX:=lhd (HF.out.put ⟨HDV.out.valid,HDV.out.sz⟩);clear ho7 hg7 hv7;refine Shut.out hK _ _ trivial ?_;(try simp only [Act.put,lpa,lpz,lps]);refine wpAnyC_one (i:=14) (by kernel_rfl) rfl (fun K hK=>?_);go_simp;refine Shut.out hK _ _ trivial ?_;(try simp only [Act.put,lpa,lpz,lps]);refine wpAnyC_one (i:=15) (by kernel_rfl) rfl (fun K hK=>?_);go_simp;refine Shut.out hK _ _ trivial ?_;(try simp only [Act.put,lpa,lpz,lps]);refine wpAnyC_done (by kernel_rfl) ?_ _;clear HAB MD M6 M6' HDV HOLD;clear u7 HKC HMX z7 y7;go_wp2;go_roundw
   case rel=>exact ⟨ps.length+1,_,ps++[t],by go_num,⟨by simp,by omega⟩,HX,M7⟩
   case measure=>simp [intOf];omega
  ·have hle:ps.length=r.kids.length:=by omega
   have HV6:=lhd (HFT.out (valsOf ps) (by rw [valsOf_len];exact hle) HF.out);clear hle;have m0:_=some (Value.int .i64 0):=M1.out.box.cell 0
   have m1:_=some (Value.slice none 0 0):=M1.out.box.cell 1
   have m2:_=some (Value.slice Ai ps.length ci):=M1.out.box.cell 2
   have f1:=M1.out.res.cell;have f2:=M1.out.res.free;have HOUT:=lhd (M1.out.out hplt hbw (.int .i64 0) (Value.slice none 0 0) (Value.slice Ai ps.length ci));have HV:=lhd (HV6.out);go_wp2_with fail;obtain ⟨hO,hF,hN,hCc,hG⟩:=HOUT.out;exact bodyPost_ret (v:=.agg #[.int .i64 0,Value.slice none 0 0,Value.slice Ai ps.length ci]) (by simp [results,Tryz.results120,go_sem,f1,f2]) rfl ⟨.mk 0 [] (Value.slice none 0 0) ps (Value.slice Ai ps.length ci),_,_,_,_,_,_,rfl,⟨rfl,rfl⟩,⟨HV.out.1,HV.out.2,hO,hF,hN,hCc,hG⟩⟩
theorem l9Make5_c (Ad:Option Addr) (ds:List DRule) (cd:Nat) (hok:descOk ds=true) (i:Nat) (hi:i<ds.length) (hk:ds[i].kind=5) (wb:World) (p:Nat) (A:Option Addr) (l:List UInt8) (c:Nat) (hA:Bs wb A l c) (HR:∀ j,j<i→MakeOk Ad ds cd wb p A l c j):MakeOk Ad ds cd wb p A l c i:=by
 intro m hm w hC hD;have hplt:=hC.lt;have hbw:=hC.2.1.size;have hdl:=(descOk_len hok).2;have CBe:=lhd (fun n w h hn=>l1Below_c n wb w p A l c hA h hn);have COn:=lhd (fun n w h hn=>l1Once_c n wb w p A l c hA h hn);obtain ⟨g,off,hAd,hgw,hall⟩:=hD.out;obtain ⟨Ab,cb,An,cn,At,ct,Ak,ck,hst⟩:=hall i hi;subst hAd;have hS:=(hst w (World.grownBy.refl _ _)).1;obtain ⟨r0,r1,r2,r3,r4,r5,r6,r7⟩:=(hst w (World.grownBy.refl _ _)).2;have HST:=lhd hst;have HD:=lhd hD;have HC:=lhd hC;have hii:(i:Int)<(ds.length:Int):=by omega
 have hi0:(0:Int)≤(i:Int):=by omega
 clear hall hst hD;have t1:=kfF hk 1;have t3:=kfF hk 3;have t4:=kfF hk 4;have t10:=kfF hk 10;have t5:=kfT hk 5;have t6:=kfF hk 6;have t7:=kfF hk 7;have t8:=kfF hk 8;have t9:=kfF hk 9;have hkl5:=((kids_len hok i hi).2.1 hk).1;have hft:=made5 hok hi hk;obtain ⟨bk,ok,hAk,hbk,hcel⟩:=hS.k.at 0 (by omega);subst hAk;clear hcel
 have HKC:Hid (∀ w',w.grownBy w' (some p)→w'.cell? ⟨bk,ok+1,none⟩=some (Value.int .i64 ((kd ds[i] 1:Nat):Int))):=fun w' hg=>by
  have h1:=(HST.out w' hg).1.k.cellAt 1 (by omega);rw [kd_int hok i hi 1 (by omega)] at h1;exact h1
 have CR:Hid (∀ w',w.grownBy w' (some p)→Cur wb w' p A l c→∀ x:Int,x=((m / 2:Nat):Int)→Calls Tryz.prog 120 #[.pointer (some ⟨p,0,none⟩),.agg #[Value.slice (some ⟨g,off,none⟩) ds.length cd],.int .i64 ((kd ds[i] 1:Nat):Int),.int .i64 x] w' fun e w''=>∃ (t:VT) (A1:Option Addr) (n1 c1:Nat) (A2:Option Addr) (n2 c2:Nat),e=.returned (.agg #[.int .i64 t.num,.slice A1 n1 c1,.slice A2 n2 c2])∧Hid (t.vb=.slice A1 n1 c1∧t.vi=.slice A2 n2 c2)∧DrawnV ds (kd ds[i] 1) wb w' w'' p A l c t):=fun w' hg hc x hx=>by
  subst hx;exact HR _ (kd_lt hok i hi 1 (by omega)) (m / 2) (by omega) w' hc (HD.out.mono hg)
 have HFT:=lhd hft;clear hft;generalize kd ds[i] 1=kj at *;have hkl0:1<ds[i].kids.length:=by omega
 have hkl1:(1:Int)<(ds[i].kids.length:Int):=by omega
 clear hkl5;obtain ⟨q,hq⟩:∃ q:Nat,q=(if m<3 then m else 3):=⟨_,rfl⟩;have hq3:q≤3:=by rw [hq];split<;>omega
 have CM:Hid (∀ w,Gives Tryz.prog 26 #[.int .i64 (m:Int),.int .i64 3] w (.int .i64 (q:Int))):=fun w=>by
  have h:=sMin_c (m:Int) 3 w;have e:(if (3:Int)<(m:Int) then (3:Int) else (m:Int))=(q:Int):=by rw [hq];split<;>split<;>omega
  rwa [e] at h
 clear hq;generalize ds[i]=r at *;obtain ⟨W0,W1,HW0,HW1,B1,B2,B3,B4,e0,x1,hs0,hs1⟩:=boxes4' w #[Value.slice (some ⟨g,off,none⟩) ds.length cd] val0 (rcs r Ab cb An cn At ct (some ⟨bk,ok,none⟩) ck) val0 26 46 96 46;have e01:=e0.trans x1
 have M0:Hid (VM wb w W1 p A l c (Value.slice (some ⟨g,off,none⟩) ds.length cd) (rcs r Ab cb An cn At ct (some ⟨bk,ok,none⟩) ck) 0 (.slice none 0 0) [] (.slice none 0 0) []) :=
  ⟨B1.ext x1,B2.ext x1,B3.ext x1,B4,OwnL.nil _ _,OwnTs.nil _ _,by simp [Far,Value.ownBlock],by simp [Value.ownBlock],HC.out.ext e01,grown_ext e01 _⟩
 have q0:∀ w',Ext W0 w'→_=some (Value.slice (some ⟨g,off,none⟩) ds.length cd):=B1.at 0
 have k0:∀ w',Ext W0 w'→_=some (Value.string r.nm):=B3.at 0
 have k1:∀ w',Ext W0 w'→_=some (Value.int .i64 r.kind):=B3.at 1
 have k2:∀ w',Ext W0 w'→_=some (Value.int .i64 r.size):=B3.at 2
 have k3:∀ w',Ext W0 w'→_=some (Value.bool r.little):=B3.at 3
 have k4:∀ w',Ext W0 w'→_=some (Value.slice Ab r.bytes.length cb):=B3.at 4
 have k5:∀ w',Ext W0 w'→_=some (Value.slice An r.names.length cn):=B3.at 5
 have k6:∀ w',Ext W0 w'→_=some (Value.slice At r.tags.length ct):=B3.at 6
 have k7:∀ w',Ext W0 w'→_=some (Value.slice (some ⟨bk,ok,none⟩) r.kids.length ck):=B3.at 7
 have HWM:Hid (IntKind.i64.wrap ((m:Int) / 2)=((m / 2:Nat):Int)):=by
  show _=_
  rw [IntWalk.i64_in _ (by omega)];omega
 have HS1:=lhd hs1;have HX1:=lhd x1;clear B1 B2 B3 B4 hs0 hs1 hk;unfold val0 at *;go_enter Tryz.func120,Tryz.ntmps120;go_wp2_with fail;rw [← HW0.out,← HW1.out];refine (CM.out _).mono ?_;rintro _ w1 ⟨rfl,he1⟩;have M1:=lhd (M0.out.ext hplt he1);clear M0 he1;go_wp2_with fail;refine (CBe.out ((q:Int)+1) _ M1.out.cur (by omega)).mono ?_;rintro _ w2 ⟨x,hx,rfl,hC2,hg2⟩;have hx3:x≤3:=by unfold below at hx;rw [if_neg (by omega)] at hx;omega
 have M2:=lhd (M1.out.moved hplt hC2 hg2);clear M1 hC2 hg2 hx;go_wp2;go_loopw [11] (fun t wr=>∃ (k:Nat) (vi:Value) (ps:List VT),t=.int .i64 k∧(k+ps.length≤3)∧Hid (FitL ds (fun _=>kj) (valsOf ps))∧Hid (VM wb w wr p A l c (Value.slice (some ⟨g,off,none⟩) ds.length cd) (rcs r Ab cb An cn At ct (some ⟨bk,ok,none⟩) ck) 0 (.slice none 0 0) [] vi ps)) (fun t _=>(intOf t).toNat)
 case atStart=>exact ⟨x,_,[],rfl,by simpa using hx3,FitL.nil _ _,M2⟩
 case round =>
  clear M2;obtain ⟨k,vi,ps,rfl,hkp,HF,M1⟩:=hrel;obtain ⟨Ai,ci,hvi⟩:=M1.out.its.shape;subst hvi
  by_cases hlt:0<k
  ·have HMX:Hid (ps.length+1≤maxLen∧(ps.length+1)*56≤140737488355328):=⟨by simp only [maxLen];omega,by omega⟩
   go_wp2_with fail;have MD:=lhd (M1.out.ext hplt (Ext_drew (Ext.refl wr)));have HOLD:=lhd MD.out.old;have HAB:lv2 (fun w'=>w'.cell? ⟨w.heap.size,0,none⟩=some (Value.slice (some ⟨g,off,none⟩) ds.length cd)∧w'.cell? ⟨w.heap.size+1+1,7,none⟩=some (Value.slice (some ⟨bk,ok,none⟩) r.kids.length ck)∧w'.cell? ⟨bk,ok+1,none⟩=some (Value.int .i64 (kj:Int))∧w'.cell? ⟨w.heap.size+1+1+1,2,none⟩=some (Value.slice Ai ps.length ci)) (fun _=>True) 1 wr.drew:=⟨MD.out.db.cell 0,MD.out.rb.cell 7,HKC.out _ MD.out.grow,MD.out.box.cell 2⟩
   clear M1;refine wp_region_C (C:=fun j=>lv2 (fun w'=>w'.cell? ⟨w.heap.size,0,none⟩=some (Value.slice (some ⟨g,off,none⟩) ds.length cd)∧w'.cell? ⟨w.heap.size+1+1,7,none⟩=some (Value.slice (some ⟨bk,ok,none⟩) r.kids.length ck)∧w'.cell? ⟨bk,ok+1,none⟩=some (Value.int .i64 (kj:Int))∧w'.cell? ⟨w.heap.size+1+1+1,2,none⟩=some (Value.slice Ai ps.length ci)) (fun _=>True) (([0,1,0,1,0,1,0,1,0,0,1,1,0,0,0]:List Nat).getD j 0)) (by kernel_rfl) ?_;refine tkD 0 (i:=0) (v:=?_) rfl trivial ?_ ?_;rotate_left
   ·(intro w9 hSw;clear hSw;go_simp;try with_reducible rfl)
   try simp only [Act.put,lpa,lpz,lps]
   refine tkD 0 (i:=2) (v:=?_) rfl trivial ?_ ?_;rotate_left
   ·(intro w9 hSw;clear hSw;go_simp;try with_reducible rfl)
   try simp only [Act.put,lpa,lpz,lps]
   refine tkD 0 (i:=4) (v:=?_) rfl trivial ?_ ?_;rotate_left
   ·(intro w9 hSw;clear hSw;go_simp;try with_reducible rfl)
   try simp only [Act.put,lpa,lpz,lps]
   refine tkD 0 (i:=8) (v:=?_) rfl trivial ?_ ?_;rotate_left
   ·(intro w9 hSw;clear hSw;go_simp;try with_reducible rfl)
   try simp only [Act.put,lpa,lpz,lps]
   refine tkD 0 (i:=9) (v:=?_) rfl trivial ?_ ?_;rotate_left
   ·(intro w9 hSw;clear hSw;go_simp;try with_reducible rfl)
   try simp only [Act.put,lpa,lpz,lps]
   refine tkD 1 (i:=5) (v:=?_) rfl HAB ?_ ?_;rotate_left
   ·(intro w9 hSw;have hfact:w9.cell? ⟨w.heap.size+1+1,7,none⟩=some (Value.slice (some ⟨bk,ok,none⟩) r.kids.length ck):=hSw.2.1;clear hSw;go_simp;try with_reducible rfl)
   try simp only [Act.put,lpa,lpz,lps]
   refine tkD 0 (i:=6) (v:=?_) rfl trivial ?_ ?_;rotate_left
   ·(intro w9 hSw;clear hSw;go_simp;try with_reducible rfl)
   try simp only [Act.put,lpa,lpz,lps]
   refine tkD 1 (i:=1) (v:=?_) rfl HAB ?_ ?_;rotate_left
   ·(intro w9 hSw;have hfact:w9.cell? ⟨w.heap.size+1+1+1,2,none⟩=some (Value.slice Ai ps.length ci):=hSw.2.2.2;clear hSw;go_simp;try with_reducible rfl)
   try simp only [Act.put,lpa,lpz,lps]
   refine tkD 1 (i:=3) (v:=?_) rfl HAB ?_ ?_;rotate_left
   ·(intro w9 hSw;have hfact:w9.cell? ⟨w.heap.size,0,none⟩=some (Value.slice (some ⟨g,off,none⟩) ds.length cd):=hSw.1;clear hSw;go_simp;try with_reducible rfl)
   try simp only [Act.put,lpa,lpz,lps]
   refine tkD 1 (i:=7) (v:=?_) rfl HAB ?_ ?_;rotate_left
   ·(intro w9 hSw;have hfact:w9.cell? ⟨bk,ok+1,none⟩=some (Value.int .i64 (kj:Int)):=hSw.2.2.1;clear hSw;go_simp;try with_reducible rfl)
   try simp only [Act.put,lpa,lpz,lps]
   refine wpAnyC_one (i:=10) (by kernel_rfl) rfl (fun K hK=>?_);go_simp;go_at_call 120;refine (CR.out _ MD.out.grow MD.out.cur _ (by first | exact HWM.out | omega)).mono ?_;rintro _ w6 ⟨t,A1,n1,c1,A2,n2,c2,rfl,hsh,hdv⟩;have M6:=lhd (MD.out.moved hplt hdv.cur hdv.grow);have HDV:=lhd hdv;clear hdv;refine Shut.out hK _ _ ⟨M6.out.db.cell 0,M6.out.rb.cell 7,HKC.out _ M6.out.grow,M6.out.box.cell 2⟩ ?_;(try simp only [Act.put,lpa,lpz,lps]);refine wpAnyC_one (i:=11) (by kernel_rfl) rfl (fun K hK=>?_);go_simp;have M6':=lhd (M6.out.ext hplt (Ext_alloc (.cells #[.int .i64 t.num,.slice A1 n1 c1,.slice A2 n2 c2] 46) (Ext.refl w6)));have hcs:t.cells=[.int .i64 t.num,.slice A1 n1 c1,.slice A2 n2 c2]:=by unfold VT.cells;rw [hsh.out.1,hsh.out.2]
   have HCS:=lhd hcs;have hone:=lhd HDV.out.own.one;rw [hcs] at hone;clear hcs;refine Shut.out hK _ _ ⟨M6'.out.db.cell 0,M6'.out.rb.cell 7,HKC.out _ M6'.out.grow,M6'.out.box.cell 2⟩ ?_;(try simp only [Act.put,lpa,lpz,lps]);refine wpAnyC_one (i:=12) (by kernel_rfl) rfl (fun K hK=>?_);refine step_app8 rfl (.tmp 86) (.tmp 96) _ rfl E_val wb (w6.alloc (.cells #[.int .i64 t.num,.slice A1 n1 c1,.slice A2 n2 c2] 46)) (Value.slice Ai ps.length ci) ps.length (ps.flatMap VT.cells) rfl M6'.out.its.row M6'.out.cur.2.1.size ⟨w6.heap.size,0,none⟩ 1 1 [.int .i64 t.num,.slice A1 n1 c1,.slice A2 n2 c2] rfl rfl (fun j u hu=>(World.cell?_alloc_at' w6 [.int .i64 t.num,.slice A1 n1 c1,.slice A2 n2 c2] 46 j).trans hu) hone.out HMX.out.1 HMX.out.2 ?_;intro v7 w7 ho7 hg7 hv7;rw [← HCS.out] at ho7;obtain ⟨⟨z7,y7⟩,M7⟩:=VM.snoc M6'.out hplt hbw (HDV.out.own.ext (Ext_alloc (.cells #[.int .i64 t.num,.slice A1 n1 c1,.slice A2 n2 c2] 46) (Ext.refl w6))) HDV.out.far HDV.out.new HOLD.out MD.out.size (by have:=HDV.out.grow.size;rw [World.size_alloc];omega) ho7 (M6'.out.cur.2.1.grown hg7 (fun k hk=>(World.ownsRow.lt M6'.out.its.row k hk).1)) hg7 hv7;obtain ⟨A7,c7,hsh7⟩:=M7.its.shape;replace hsh7:v7=.slice A7 (ps.length+1) c7:=(by rw [hsh7,List.length_append];rfl);subst hsh7;have M7:=lhd M7;have HX:=lhd (HF.out.put ⟨HDV.out.valid,HDV.out.sz⟩);clear ho7 hg7 hv7;refine Shut.out hK _ _ trivial ?_;(try simp only [Act.put,lpa,lpz,lps]);refine wpAnyC_one (i:=13) (by kernel_rfl) rfl (fun K hK=>?_);go_simp;refine Shut.out hK _ _ trivial ?_;(try simp only [Act.put,lpa,lpz,lps]);refine wpAnyC_one (i:=14) (by kernel_rfl) rfl (fun K hK=>?_);go_simp;refine Shut.out hK _ _ trivial ?_;(try simp only [Act.put,lpa,lpz,lps]);refine wpAnyC_done (by kernel_rfl) ?_ _;clear HAB MD M6 M6' HDV HOLD;clear HMX z7 y7;go_wp2;go_roundw
   case rel=>exact ⟨k-1,_,ps++[t],by go_num,by simp;omega,HX,M7⟩
   case measure=>simp [intOf];omega
  ·obtain rfl:k=0:=by omega
   have HV6:=lhd (HFT.out (valsOf ps) (by rw [valsOf_len];omega) HF.out);have m0:_=some (Value.int .i64 0):=M1.out.box.cell 0
   have m1:_=some (Value.slice none 0 0):=M1.out.box.cell 1
   have m2:_=some (Value.slice Ai ps.length ci):=M1.out.box.cell 2
   have f1:=M1.out.res.cell;have f2:=M1.out.res.free;have HOUT:=lhd (M1.out.out hplt hbw (.int .i64 0) (Value.slice none 0 0) (Value.slice Ai ps.length ci));have HV:=lhd (HV6.out);go_wp2_with fail;obtain ⟨hO,hF,hN,hCc,hG⟩:=HOUT.out;exact bodyPost_ret (v:=.agg #[.int .i64 0,Value.slice none 0 0,Value.slice Ai ps.length ci]) (by simp [results,Tryz.results120,go_sem,f1,f2]) rfl ⟨.mk 0 [] (Value.slice none 0 0) ps (Value.slice Ai ps.length ci),_,_,_,_,_,_,rfl,⟨rfl,rfl⟩,⟨HV.out.1,HV.out.2,hO,hF,hN,hCc,hG⟩⟩
end Go.Proofs.YtpmcofmdjckijaaGreat
