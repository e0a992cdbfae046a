/- Texts, laid into one. -/
import Derived.Test.YtlfhealneccdkaaGreatDoorZDf3
import Derived.Laws.RangeAny
set_option linter.unusedVariables false
set_option linter.unusedSimpArgs false
set_option maxRecDepth 100000
set_option maxHeartbeats 16000000
namespace Go.Proofs.YtlfhealneccdkaaGreatDoor
open Go.RowKit Go.Sort
theorem iMinLess_c (a b:Int) (w:World):Gives Tryz.prog 99 #[.int .i64 a,.int .i64 b] w (.bool (decide (a<b))):=by
 go_enter Tryz.func99,Tryz.ntmps99;go_wp2;go_ret;exact ⟨rfl,Ext.refl _⟩
theorem iInRange_c (n a b:Int) (w:World):Gives Tryz.prog 85 #[.int .i64 n,.int .i64 a,.int .i64 b] w (.bool (decide (a≤n)&&decide (n≤b))):=by
 by_cases h:a≤n
 ·go_enter Tryz.func85,Tryz.ntmps85
  go_wp2;go_ret;exact ⟨ret_bool (by simp [h]),Ext.refl _⟩
 ·go_enter Tryz.func85,Tryz.ntmps85
  go_wp2;go_ret;exact ⟨ret_bool (by simp;omega),Ext.refl _⟩
theorem sMin_c (a b:Int) (w:World):Gives Tryz.prog 60 #[.int .i64 a,.int .i64 b] w (.int .i64 (if b<a then b else a)):=by
 by_cases h:b<a
 ·have H:Hid ((if b<a then b else a)=b):=if_pos h
  rw [H.out];go_enter Tryz.func60,Tryz.ntmps60;go_wp2;go_ret;exact ⟨rfl,Ext.refl _⟩
 ·have H:Hid ((if b<a then b else a)=a):=if_neg h
  rw [H.out];go_enter Tryz.func60,Tryz.ntmps60;go_wp2;go_ret;exact ⟨rfl,Ext.refl _⟩
theorem pickMin_c (a b:Int) (g:Nat) (w:World) (hc:∀ w',Ext w w'→w'.cell? ⟨g,0,none⟩=some (.int .i64 b)) :
 Gives Tryz.prog 98 #[.func (.func 99) #[] #[],.int .i64 a,.slice (some ⟨g,0,none⟩) 1 1] w (.int .i64 (if b<a then b else a)):=by
 go_enter Tryz.func98,Tryz.ntmps98;go_wp2_with fail;go_loopw [1,11] (fun t i wr=>∃ k:Nat,k≤1∧i=.int .i64 k∧t=.int .i64 (if k=0 then a else if b<a then b else a)∧Ext w wr) (fun _ i _=>1-(intOf i).toNat)
 case atStart=>exact ⟨0,by omega,rfl,rfl,Ext.refl _⟩
 case round =>
  obtain ⟨k,hk,rfl,rfl,he⟩:=hrel;rcases (by omega:k=0∨k=1) with rfl | rfl
  ·by_cases h:b<a
   ·have H:Hid ((if b<a then b else a)=b):=if_pos h
    have hd:decide (b<a)=true:=decide_eq_true h
    rw [H.out];go_wp2_with (go_at_call 99;refine (iMinLess_c _ _ _).mono ?_;rintro _ w1 ⟨rfl,he1⟩;rw [hd])
    go_roundw
    case rel=>exact ⟨1,by omega,by go_num,rfl,he.trans he1⟩
    case measure=>simp [intOf]
   ·have H:Hid ((if b<a then b else a)=a):=if_neg h
    have hd:decide (b<a)=false:=decide_eq_false h
    rw [H.out];go_wp2_with (go_at_call 99;refine (iMinLess_c _ _ _).mono ?_;rintro _ w1 ⟨rfl,he1⟩;rw [hd])
    go_roundw
    case rel=>exact ⟨1,by omega,by go_num,rfl,he.trans he1⟩
    case measure=>simp [intOf]
  ·by_cases h:b<a
   ·have H:Hid ((if b<a then b else a)=b):=if_pos h
    rw [H.out];go_wp2;go_ret;exact ⟨rfl,he⟩
   ·have H:Hid ((if b<a then b else a)=a):=if_neg h
    rw [H.out];go_wp2;go_ret;exact ⟨rfl,he⟩
theorem iMin_c (a b:Int) (w:World):Gives Tryz.prog 88 #[.int .i64 a,.int .i64 b] w (.int .i64 (if b<a then b else a)):=by
 have C:=lhd (fun g w hc=>pickMin_c a b g w hc);generalize (if b<a then b else a)=r at *;go_enter Tryz.func88,Tryz.ntmps88;go_wp2_with fail;refine (C.out _ _ (fun w' e=>boxed e 0)).mono ?_;rintro _ w1 ⟨rfl,he⟩;go_wp2;go_ret;exact ⟨rfl,(Ext_alloc _ (Ext.refl w)).trans he⟩
end Go.Proofs.YtlfhealneccdkaaGreatDoor
namespace Go.Proofs.YtlfhealneccdkaaGreatDoor
def runLen:List UInt8→Nat
 | []=>0
 | x::t=>1+(t.takeWhile (·==x)).length
def runAt (l:List UInt8) (i:Int):Nat:=if 0≤i∧i<l.length then runLen (l.drop i.toNat) else 0
def countFrom (l:List UInt8):Nat→Nat→Nat
 | 0,_=>0
 | f+1,a=>if a<l.length then 1+countFrom l f (a+runAt l a) else 0
def countRuns (l:List UInt8):Nat:=countFrom l l.length 0
end Go.Proofs.YtlfhealneccdkaaGreatDoor
namespace Go.Proofs.YtlfhealneccdkaaGreatDoor
open Go.RowKit Go.Sort
theorem l1In_c (n a b:Int) (w:World):Gives Tryz.prog 44 #[.int .i64 n,.int .i64 a,.int .i64 b] w (.bool (decide (a≤n)&&decide (n≤b))):=by
 by_cases h:a≤n
 ·go_enter Tryz.func44,Tryz.ntmps44
  go_wp2;go_ret;exact ⟨ret_bool (by simp [h]),Ext.refl _⟩
 ·go_enter Tryz.func44,Tryz.ntmps44
  go_wp2;go_ret;exact ⟨ret_bool (by simp;omega),Ext.refl _⟩
def nameCh (i:Nat) (x:UInt8):Bool:=decide (97≤x.toNat∧x.toNat≤122)||(decide (48≤x.toNat∧x.toNat≤57)&&decide (i≠0))
def okCh (s:ByteArray) (i:Nat):Bool:=if h:i<s.size then nameCh i s[i] else true
def isName (s:ByteArray):Bool:=decide (1≤s.size∧s.size≤12)&&(List.range s.size).all (okCh s)
theorem isName_no {s:ByteArray} {k:Nat} (hk:k<s.size) (h:okCh s k=false):isName s=false:=by
 unfold isName;rw [Bool.and_eq_false_iff];right;rw [Bool.eq_false_iff];intro hall
 have:=List.all_eq_true.1 hall k (by simpa using hk);rw [h] at this;cases this
theorem isName_all {s:ByteArray} (h:∀ j,j<s.size→okCh s j=true):isName s=decide (1≤s.size∧s.size≤12):=by
 unfold isName;rw [List.all_eq_true.2 (fun j hj=>h j (by simpa using hj)),Bool.and_true]
theorem okCh_at {s:ByteArray} {k:Nat} (hk:k<s.size):okCh s k=nameCh k s[k]:=dif_pos hk
theorem sIsName_c (s:ByteArray) (w:World) (hs:s.size≤9223372036854775807):Gives Tryz.prog 76 #[.string s] w (.bool (isName s)):=by
 go_enter Tryz.func76,Tryz.ntmps76;go_wp2;go_loopw [3] (fun i wr=>∃ k:Nat,k≤s.size∧i=.int .i64 k∧Hid (∀ j,j<k→okCh s j=true)∧Ext w wr) (fun i _=>s.size-(intOf i).toNat)
 case atStart=>exact ⟨0,by omega,rfl,(fun j hj=>by omega),Ext.refl _⟩
 case round =>
  obtain ⟨k,hk,rfl,ho,he⟩:=hrel
  by_cases hlt:k<s.size
  ·have hb:(s[k].toNat:Int)≤255:=by have:=s[k].toNat_lt;omega
   have hok:=lhd (okCh_at hlt);rcases (by omega:(s[k].toNat:Int)<48∨((48:Int)≤s[k].toNat∧(s[k].toNat:Int)≤57∧k=0)∨((48:Int)≤s[k].toNat∧(s[k].toNat:Int)≤57∧0<k)∨((57:Int)<s[k].toNat∧(s[k].toNat:Int)<97)∨((97:Int)≤s[k].toNat∧(s[k].toNat:Int)≤122)∨(122:Int)<s[k].toNat) with c | ⟨c,c',rfl⟩ | ⟨c,c',c''⟩ | ⟨c,c'⟩ | ⟨c,c'⟩ | c
   all_goals
    go_wp2
    all_goals first
     | (exfalso
        have hq:(!decide ((s[k].toNat:Int)≤122))=false:=by assumption
        simp at hq
        omega)
     | (go_ret
        refine ⟨ret_bool ?_,he⟩;rw [isName_no hlt];rw [hok.out];unfold nameCh;simp;omega)
     | (go_roundw
        case rel=>exact ⟨k+1,by omega,by go_num,(fun j hj=>by
         rcases (by omega:j<k∨j=k) with hj | rfl
         ·exact ho.out j hj
         ·rw [hok.out];unfold nameCh;simp;omega),he⟩
        case measure=>simp [intOf];omega)
  ·obtain rfl:k=s.size:=by omega
   have HE:=lhd (isName_all ho.out);go_wp2_with (go_at_call 44;refine (l1In_c _ _ _ _).mono ?_;rintro _ w1 ⟨rfl,he1⟩)
   go_ret;refine ⟨ret_bool ?_,he.trans he1⟩;rw [HE.out,Bool.eq_iff_iff];simp;omega
theorem iIsName_c (s:ByteArray) (w:World) (hs:s.size≤9223372036854775807):Gives Tryz.prog 92 #[.string s] w (.bool (isName s)):=by
 by_cases hlen:1≤s.size∧s.size≤12
 ·obtain ⟨hlo,hhi⟩:=hlen
  have d1:decide ((s.size:Int)<1)=false:=by simp;omega
  have d2:decide ((12:Int)<(s.size:Int))=false:=by simp;omega
  go_enter Tryz.func92,Tryz.ntmps92;go_wp2;go_loopw [3,4,5,6] (fun _ _ _ _ wr=>∃ k:Nat,k≤s.size∧Hid (∀ j,j<k→okCh s j=true)∧wr=w.iter s k) (fun _ _ _ _ wr=>s.size-wr.iterPos w.heap.size)
  case atStart=>exact ⟨0,by omega,(fun j hj=>by omega),rfl⟩
  case round =>
   obtain ⟨k,hk,ho,rfl⟩:=hrel
   by_cases hlt:k<s.size
   ·have hok:=lhd (okCh_at hlt)
    by_cases ha:s[k].toNat<128
    ·have hnx:∀ ty,(Instr.next (.pointer (some ⟨w.heap.size,0,none⟩)) true ty).run Tryz.prog (w.iter s k)=_:=fun ty=>run_next_ascii w s k ty hlt ha
     rcases (by omega:(s[k].toNat:Int)<48∨((48:Int)≤s[k].toNat∧(s[k].toNat:Int)≤57∧k=0)∨((48:Int)≤s[k].toNat∧(s[k].toNat:Int)≤57∧0<k)∨((57:Int)<s[k].toNat∧(s[k].toNat:Int)<97)∨((97:Int)≤s[k].toNat∧(s[k].toNat:Int)≤122)∨(122:Int)<s[k].toNat) with c | ⟨c,c',rfl⟩ | ⟨c,c',c''⟩ | ⟨c,c'⟩ | ⟨c,c'⟩ | c
     all_goals
      go_wp2
      all_goals first
       | (exfalso
          have hq:(!decide ((s[k].toNat:Int)≤122))=false:=by assumption
          simp at hq
          omega)
       | (go_ret
          refine ⟨ret_bool ?_,Ext_alloc _ (Ext.refl w)⟩;rw [isName_no hlt];rw [hok.out];unfold nameCh;simp;omega)
       | (go_roundw
          case rel=>exact ⟨k+1,by omega,(fun j hj=>by
           rcases (by omega:j<k∨j=k) with hj | rfl
           ·exact ho.out j hj
           ·rw [hok.out];unfold nameCh;simp;omega),rfl⟩
          case measure=>simp;omega)
    ·obtain ⟨hr1,hr2⟩:=decode_high s k hlt (by omega)
     have hr3:=decode_le s k;have hnx:∀ ty,(Instr.next (.pointer (some ⟨w.heap.size,0,none⟩)) true ty).run Tryz.prog (w.iter s k)=_:=fun ty=>run_next_any w s k ty hlt
     generalize (Utf8.decode s k).1=rn at *;generalize (Utf8.decode s k).2=wd at *;have d1:decide ((rn:Int)≤122)=false:=by simp;omega
     have d2:decide ((rn:Int)≤57)=false:=by simp;omega
     have hr1:(128:Int)≤(rn:Int):=by omega
     go_wp2;go_ret;refine ⟨ret_bool ?_,Ext_alloc _ (Ext.refl w)⟩;rw [isName_no hlt];rw [hok.out];unfold nameCh;simp;omega
   ·obtain rfl:k=s.size:=by omega
    have HE:=lhd (isName_all ho.out);have hnx:∀ ty,(Instr.next (.pointer (some ⟨w.heap.size,0,none⟩)) true ty).run Tryz.prog (w.iter s s.size)=_:=fun ty=>run_next_end w s s.size ty hlt
    go_wp2;go_ret;refine ⟨ret_bool ?_,Ext_alloc _ (Ext.refl w)⟩;rw [HE.out];simp;omega
 ·have hno:Hid (isName s=false):=by show _=_;unfold isName;rw [decide_eq_false hlen];rfl
  rcases (by omega:(s.size:Int)<1∨((1:Int)≤s.size∧(12:Int)<s.size)) with c | ⟨c,c'⟩
  all_goals
   go_enter Tryz.func92,Tryz.ntmps92;go_wp2;go_ret;exact ⟨ret_bool hno.out.symm,Ext.refl w⟩
end Go.Proofs.YtlfhealneccdkaaGreatDoor
