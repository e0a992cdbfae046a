/- Texts, laid into one. -/
import Derived.Test.YtlfhealneccdkaaGreatDoorZDf6
set_option linter.unusedVariables false
set_option linter.unusedSimpArgs false
set_option maxRecDepth 100000
set_option maxHeartbeats 16000000
namespace Go.Proofs.YtlfhealneccdkaaGreatDoor
open Go.RowKit Go.Sort
structure DRule where
 nm:ByteArray
 kind:Int
 size:Int
 little:Bool
 bytes:List UInt8
 names:List ByteArray
 tags:List Int
 kids:List Int
@[reducible] def rcs (r:DRule) (A:Option Addr) (a:Nat) (B:Option Addr) (b:Nat) (C:Option Addr) (c:Nat) (D:Option Addr) (d:Nat):Array Value:=#[.string r.nm,.int .i64 r.kind,.int .i64 r.size,.bool r.little,.slice A r.bytes.length a,.slice B r.names.length b,.slice C r.tags.length c,.slice D r.kids.length d]
def vrule (r:DRule) (vb vn vt vk:Value):Value:=.agg #[.string r.nm,.int .i64 r.kind,.int .i64 r.size,.bool r.little,vb,vn,vt,vk]
def vdesc (v:Value):Value:=.agg #[v]
structure RdS (w:World) (r:DRule) (Ab:Option Addr) (cb:Nat) (An:Option Addr) (cn:Nat) (At:Option Addr) (ct:Nat) (Ak:Option Addr) (ck:Nat):Prop where
 b:Rd0 vu8 w Ab r.bytes cb
 n:Rd0 vstr w An r.names cn
 t:Rd0 vint w At r.tags ct
 k:Rd0 vint w Ak r.kids ck
theorem RdS.ext {w w':World} {r:DRule} {Ab:Option Addr} {cb:Nat} {An:Option Addr} {cn:Nat} {At:Option Addr} {ct:Nat} {Ak:Option Addr} {ck:Nat} (h:RdS w r Ab cb An cn At ct Ak ck) (e:Ext w w'):RdS w' r Ab cb An cn At ct Ak ck :=
 ⟨h.b.ext e,h.n.ext e,h.t.ext e,h.k.ext e⟩
structure RuleAt (w:World) (b o:Nat) (r:DRule) (vb vn vt vk:Value):Prop where
 c0:∀ (w':World),Ext w w'→w'.cell? ⟨b,o,none⟩=some (.string r.nm)
 c1:∀ (w':World),Ext w w'→w'.cell? ⟨b,o+1,none⟩=some (.int .i64 r.kind)
 c2:∀ (w':World),Ext w w'→w'.cell? ⟨b,o+2,none⟩=some (.int .i64 r.size)
 c3:∀ (w':World),Ext w w'→w'.cell? ⟨b,o+3,none⟩=some (.bool r.little)
 c4:∀ (w':World),Ext w w'→w'.cell? ⟨b,o+4,none⟩=some vb
 c5:∀ (w':World),Ext w w'→w'.cell? ⟨b,o+5,none⟩=some vn
 c6:∀ (w':World),Ext w w'→w'.cell? ⟨b,o+6,none⟩=some vt
 c7:∀ (w':World),Ext w w'→w'.cell? ⟨b,o+7,none⟩=some vk
theorem RuleAt.ext {w w':World} {b o:Nat} {r:DRule} {vb vn vt vk:Value} (h:RuleAt w b o r vb vn vt vk) (e:Ext w w'):RuleAt w' b o r vb vn vt vk :=
 ⟨fun w1 e1=>h.c0 w1 (e.trans e1),fun w1 e1=>h.c1 w1 (e.trans e1),fun w1 e1=>h.c2 w1 (e.trans e1),fun w1 e1=>h.c3 w1 (e.trans e1),fun w1 e1=>h.c4 w1 (e.trans e1),fun w1 e1=>h.c5 w1 (e.trans e1),fun w1 e1=>h.c6 w1 (e.trans e1),fun w1 e1=>h.c7 w1 (e.trans e1)⟩
structure RdD (w:World) (A:Option Addr) (ds:List DRule) (c:Nat):Prop where
 cap:ds.length≤c
 len:ds.length≤9223372036854775807
 cells:0<ds.length→∃ b off,A=some ⟨b,off,none⟩∧b<w.heap.size∧∀ i (h:i<ds.length),∃ Ab cb An cn At ct Ak ck,RdS w ds[i] Ab cb An cn At ct Ak ck ∧
  RuleAt w b (off+i*8) ds[i] (.slice Ab ds[i].bytes.length cb) (.slice An ds[i].names.length cn) (.slice At ds[i].tags.length ct) (.slice Ak ds[i].kids.length ck)
theorem RdD.ext {w w':World} {A:Option Addr} {ds:List DRule} {c:Nat} (h:RdD w A ds c) (e:Ext w w'):RdD w' A ds c :=
 ⟨h.cap,h.len,fun hp=>let ⟨b,off,h1,h2,h3⟩:=h.cells hp;⟨b,off,h1,Nat.lt_of_lt_of_le h2 e.size,fun i hi=>let ⟨Ab,cb,An,cn,At,ct,Ak,ck,h4,h5⟩:=h3 i hi;⟨Ab,cb,An,cn,At,ct,Ak,ck,h4.ext e,h5.ext e⟩⟩⟩
theorem RdD.at {w:World} {A:Option Addr} {ds:List DRule} {c:Nat} (h:RdD w A ds c) (i:Nat) (hi:i<ds.length) :
 ∃ b off Ab cb An cn At ct Ak ck,A=some ⟨b,off,none⟩∧b<w.heap.size∧RdS w ds[i] Ab cb An cn At ct Ak ck ∧
 RuleAt w b (off+i*8) ds[i] (.slice Ab ds[i].bytes.length cb) (.slice An ds[i].names.length cn) (.slice At ds[i].tags.length ct) (.slice Ak ds[i].kids.length ck):=by
 obtain ⟨b,off,h1,h2,h3⟩:=h.cells (by omega);obtain ⟨Ab,cb,An,cn,At,ct,Ak,ck,h4,h5⟩:=h3 i hi;exact ⟨b,off,Ab,cb,An,cn,At,ct,Ak,ck,h1,h2,h4,h5⟩
theorem RdD.nil (w:World):RdD w none [] 0:=⟨by simp,by simp,fun h=>by simp at h⟩
structure RdG (w:World) (A:Option Addr) (ds:List (List DRule)) (c:Nat):Prop where
 cap:ds.length≤c
 len:ds.length≤9223372036854775807
 cells:0<ds.length→∃ b off,A=some ⟨b,off,none⟩∧b<w.heap.size∧∀ i (h:i<ds.length),∃ A' c',RdD w A' ds[i] c'∧∀ (w':World),Ext w w'→w'.cell? ⟨b,off+i,none⟩=some (.slice A' ds[i].length c')
theorem RdG.ext {w w':World} {A:Option Addr} {ds:List (List DRule)} {c:Nat} (h:RdG w A ds c) (e:Ext w w'):RdG w' A ds c :=
 ⟨h.cap,h.len,fun hp=>let ⟨b,off,h1,h2,h3⟩:=h.cells hp;⟨b,off,h1,Nat.lt_of_lt_of_le h2 e.size,fun i hi=>let ⟨A',c',h4,h5⟩:=h3 i hi;⟨A',c',h4.ext e,fun w1 e1=>h5 w1 (e.trans e1)⟩⟩⟩
theorem RdG.at {w:World} {A:Option Addr} {ds:List (List DRule)} {c:Nat} (h:RdG w A ds c) (i:Nat) (hi:i<ds.length) :
 ∃ b off A' c',A=some ⟨b,off,none⟩∧b<w.heap.size∧RdD w A' ds[i] c'∧∀ (w':World),Ext w w'→w'.cell? ⟨b,off+i,none⟩=some (.slice A' ds[i].length c'):=by
 obtain ⟨b,off,h1,h2,h3⟩:=h.cells (by omega);obtain ⟨A',c',h4,h5⟩:=h3 i hi;exact ⟨b,off,A',c',h1,h2,h4,h5⟩
def szStrs (l:List ByteArray):Nat:=(l.map ByteArray.size).sum
def szRl (r:DRule):Nat:=r.nm.size+r.bytes.length+(r.names.length+szStrs r.names)+r.tags.length+r.kids.length
def szD (ds:List DRule):Nat:=ds.length+(ds.map szRl).sum
def szG (ds:List (List DRule)):Nat:=ds.length+(ds.map szD).sum
structure WfR (r:DRule):Prop where
 nm:r.nm.size≤9223372036854775807
 names:∀ s∈r.names,s.size≤9223372036854775807
 kind:(Lit.int .i64 r.kind).wf=true
 size:(Lit.int .i64 r.size).wf=true
 tags:∀ x∈r.tags,(Lit.int .i64 x).wf=true
 kids:∀ x∈r.kids,(Lit.int .i64 x).wf=true
def WfD (ds:List DRule):Prop:=∀ r∈ds,WfR r
def WfG (ds:List (List DRule)):Prop:=∀ d∈ds,WfD d
theorem sum_take {α:Type} (f:α→Nat) (l:List α) (k:Nat) (hk:k<l.length):((l.take (k+1)).map f).sum=((l.take k).map f).sum+f l[k]:=by
 rw [List.take_succ_eq_append_getElem hk,List.map_append,List.sum_append,List.map_cons,List.map_nil,List.sum_cons,List.sum_nil,Nat.add_zero]
theorem sum_split {α:Type} (f:α→Nat) (l:List α) (k:Nat):(l.map f).sum=((l.take k).map f).sum+((l.drop k).map f).sum:=by
 rw [← List.sum_append,← List.map_append,List.take_append_drop]
end Go.Proofs.YtlfhealneccdkaaGreatDoor
