/- Texts, laid into one. -/
import Derived.Test.YtpmcofmdjckijaaGreatZDg2
import Derived.Laws.RangeAny
import Derived.Test.YtpmcofmdjckijaaGreatZDg3
set_option linter.unusedVariables false
set_option linter.unusedSimpArgs false
set_option maxRecDepth 100000
set_option maxHeartbeats 16000000
namespace Go.Proofs.YtpmcofmdjckijaaGreat
open Go.RowKit Go.Sort
def nameCh (i:Nat) (x:UInt8):Bool:=decide (97≤x.toNat∧x.toNat≤122)||(decide (48≤x.toNat∧x.toNat≤57)&&decide (i≠0))
def okCh (s:ByteArray) (i:Nat):Bool:=if h:i<s.size then nameCh i s[i] else true
def isName (s:ByteArray):Bool:=decide (1≤s.size∧s.size≤12)&&(List.range s.size).all (okCh s)
theorem isName_no {s:ByteArray} {k:Nat} (hk:k<s.size) (h:okCh s k=false):isName s=false:=by
 unfold isName;rw [Bool.and_eq_false_iff];right;rw [Bool.eq_false_iff];intro hall
 have:=List.all_eq_true.1 hall k (by simpa using hk);rw [h] at this;cases this
theorem isName_all {s:ByteArray} (h:∀ j,j<s.size→okCh s j=true):isName s=decide (1≤s.size∧s.size≤12):=by
 unfold isName;rw [List.all_eq_true.2 (fun j hj=>h j (by simpa using hj)),Bool.and_true]
theorem okCh_at {s:ByteArray} {k:Nat} (hk:k<s.size):okCh s k=nameCh k s[k]:=dif_pos hk
theorem sIsName_c (s:ByteArray) (w:World) (hs:s.size≤9223372036854775807):Gives Tryz.prog 128 #[.string s] w (.bool (isName s)):=by
 go_enter Tryz.func128,Tryz.ntmps128;go_wp2;go_loopw [3] (fun i wr=>∃ k:Nat,k≤s.size∧i=.int .i64 k∧Hid (∀ j,j<k→okCh s j=true)∧Ext w wr) (fun i _=>s.size-(intOf i).toNat)
 case atStart=>exact ⟨0,by omega,rfl,(fun j hj=>by omega),Ext.refl _⟩
 case round =>
  obtain ⟨k,hk,rfl,ho,he⟩:=hrel
  by_cases hlt:k<s.size
  ·have hb:(s[k].toNat:Int)≤255:=by have:=s[k].toNat_lt;omega
   have hok:=lhd (okCh_at hlt);rcases (by omega:(s[k].toNat:Int)<48∨((48:Int)≤s[k].toNat∧(s[k].toNat:Int)≤57∧k=0)∨((48:Int)≤s[k].toNat∧(s[k].toNat:Int)≤57∧0<k)∨((57:Int)<s[k].toNat∧(s[k].toNat:Int)<97)∨((97:Int)≤s[k].toNat∧(s[k].toNat:Int)≤122)∨(122:Int)<s[k].toNat) with c | ⟨c,c',rfl⟩ | ⟨c,c',c''⟩ | ⟨c,c'⟩ | ⟨c,c'⟩ | c
   all_goals
    go_wp2
    all_goals first
     | (exfalso
        have hq:(!decide ((s[k].toNat:Int)≤122))=false:=by assumption
        simp at hq
        omega)
     | (go_ret
        refine ⟨ret_bool ?_,he⟩;rw [isName_no hlt];rw [hok.out];unfold nameCh;simp;omega)
     | (go_roundw
        case rel=>exact ⟨k+1,by omega,by go_num,(fun j hj=>by
         rcases (by omega:j<k∨j=k) with hj | rfl
         ·exact ho.out j hj
         ·rw [hok.out];unfold nameCh;simp;omega),he⟩
        case measure=>simp [intOf];omega)
  ·obtain rfl:k=s.size:=by omega
   have HE:=lhd (isName_all ho.out);go_wp2_with (go_at_call 71;refine (l1In_c _ _ _ _).mono ?_;rintro _ w1 ⟨rfl,he1⟩)
   go_ret;refine ⟨ret_bool ?_,he.trans he1⟩;rw [HE.out,Bool.eq_iff_iff];simp;omega
end Go.Proofs.YtpmcofmdjckijaaGreat
namespace Go.Proofs.YtpmcofmdjckijaaGreat
def allN (n:Nat) (f:Nat→Bool):Bool:=(List.range n).all f
theorem allN_no {n k:Nat} {f:Nat→Bool} (hk:k<n) (h:f k=false):allN n f=false:=by
 unfold allN;rw [Bool.eq_false_iff];intro hall
 have:=List.all_eq_true.1 hall k (by simpa using hk);rw [h] at this;cases this
theorem allN_yes {n:Nat} {f:Nat→Bool} (h:∀ j,j<n→f j=true):allN n f=true:=List.all_eq_true.2 fun j hj=>h j (by simpa using hj)
theorem upTo {k:Nat} {f:Nat→Bool} (h:∀ j,j<k→f j=true) (hk:f k=true):∀ j,j<k+1→f j=true:=by
 intro j hj;rcases (by omega:j<k∨j=k) with hj | rfl
 ·exact h j hj
 ·exact hk
def hasNm (l:List ByteArray) (s:ByteArray):Bool:=l.any fun x=>x.toList==s.toList
theorem hasNm_at {l:List ByteArray} {s:ByteArray} {k:Nat} (hk:k<l.length) (h:(l[k].toList==s.toList)=true):hasNm l s=true:=List.any_eq_true.2 ⟨l[k],List.getElem_mem hk,h⟩
theorem hasNm_none {l:List ByteArray} {s:ByteArray} (h:∀ k (hk:k<l.length),(l[k].toList==s.toList)=false):hasNm l s=false:=by
 unfold hasNm;rw [List.any_eq_false];intro x hx;obtain ⟨k,hk,rfl⟩:=List.getElem_of_mem hx;rw [h k hk];simp
def limR (r:DRule):Int:=if r.kind=1∧1≤r.size∧r.size≤4 then 256^r.size.toNat-1 else -1
def limD (ds:List DRule) (i:Int):Int:=if 0≤i then (match ds[i.toNat]? with | some r=>limR r | none => -1) else -1
theorem limR_cases (r:DRule):limR r = -1∨limR r=255∨limR r=65535∨limR r=16777215∨limR r=4294967295:=by
 unfold limR
 split
 ·rename_i h
  rcases (by omega:r.size=1∨r.size=2∨r.size=3∨r.size=4) with e | e | e | e<;>rw [e]<;>simp
 ·exact .inl rfl
def plainB (r:DRule) (size bytes names tags:Bool) (kids:Int):Bool :=
 (size||r.size==0)&&(bytes||r.bytes.length==0)&&(names||r.names.length==0)&&(tags||r.tags.length==0)&&(decide (kids<0)||decide ((r.kids.length:Int)=kids))
def between (n lo hi:Int):Bool:=decide (lo≤n)&&decide (n≤hi)
def nameOk (l:List ByteArray) (i:Nat):Bool:=match l[i]? with | some s=>isName s&&!hasNm (l.take i) s | none=>true
def seqOk (r:DRule):Bool:=plainB r false false true false (-1)&&r.kids.length==r.names.length&&between r.kids.length 1 8&&allN r.names.length (nameOk r.names)
def tagOk (lim:Int) (l:List Int) (i:Nat):Bool:=match l[i]? with | some t=>between t 0 lim&&(i==0||decide (l.getD (i-1) 0<t)) | none=>true
def choOk (ds:List DRule) (r:DRule):Bool:=plainB r false false false true (r.tags.length+1)&&between r.tags.length 1 8&&allN r.tags.length (tagOk (limD ds (r.kids.getD 0 0)) r.tags)
def kindOk (ds:List DRule) (r:DRule):Bool :=
 if r.kind=1 then plainB r true false false false 0&&between r.size 1 4&&(!r.little||decide (1<r.size))
 else if r.kind=2 then plainB r false true false false 0&&between r.bytes.length 1 16
 else if r.kind=3 then plainB r true false false false 0&&between r.size 1 64
 else if r.kind=4 then plainB r false false false false 1&&decide (0<limD ds (r.kids.getD 0 0))
 else if r.kind=5 then plainB r false false false false 2&&decide (0<limD ds (r.kids.getD 0 0))
 else if r.kind=6 then seqOk r
 else if r.kind=7 then choOk ds r
 else if r.kind=8 then plainB r false false false false 1
 else if r.kind=9 then plainB r false false false false 1
 else if r.kind=10 then plainB r false true false false 0&&r.bytes.length==1&&!(r.bytes.getD 0 0==92)
 else false
def freshNm (ds:List DRule) (r:DRule) (j:Nat):Bool:=match ds[j]? with | some q=>!(q.nm.toList==r.nm.toList) | none=>true
def kidOk (l:List Int) (i:Nat) (j:Nat):Bool:=match l[j]? with | some k=>between k 0 ((i:Int)-1) | none=>true
def ruleOk (ds:List DRule) (i:Nat):Bool:=match ds[i]? with
 | some r=>isName r.nm&&(!r.little||r.kind==1)&&allN i (freshNm ds r)&&allN r.kids.length (kidOk r.kids i)&&kindOk ds r
 | none=>false
def ruleOkI (ds:List DRule) (i:Int):Bool:=decide (0≤i)&&ruleOk ds i.toNat
def descOk (ds:List DRule):Bool:=between ds.length 1 24&&allN ds.length (ruleOk ds)
def regOk (gs:List (List DRule)):Bool:=decide (gs.length≤8)&&allN gs.length (fun i=>match gs[i]? with | some d=>descOk d | none=>true)
end Go.Proofs.YtpmcofmdjckijaaGreat
