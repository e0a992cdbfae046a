/- Texts, laid into one. -/
import Derived.JoinedOf
import Derived.KernelRfl
import Derived.ProofKit
import Derived.OpenShut
import Derived.ShutString
import Derived.ChangeOld
import Derived.Deep.Fields
import Derived.Shelf.Strings.OnBuilder
import Derived.Shelf.LaysM
import Derived.Shelf.Strconv.Itoa3
import Derived.Test.YtlfhealneccdkaaGreatDoorProg
import Derived.Lib.LaidTab
import Derived.Test.YtlfhealneccdkaaGreatDoorZDf16
import Derived.Test.YtlfhealneccdkaaGreatDoorZDf20
import Derived.Maps.OwnOps
import Derived.Maps.OwnSet
import Derived.Maps.Views
import Derived.DeepKeys4
import Derived.Stop.LaidErr
import Derived.LaidLaws
set_option linter.unusedVariables false
set_option linter.unusedSimpArgs false
set_option maxRecDepth 100000
set_option maxHeartbeats 16000000
namespace Go.Proofs.YtlfhealneccdkaaGreatDoor
theorem and_:∀ {a b:Bool},a=true→b=true→(a&&b)=true
 | true,true,_,_=>rfl
def ioL:List Char:=List.map Char.ofNat [104,97,114,110,101,115,115,32,99,56,50,97,98,97,55,49,99,51,51,49,52,98,100,49,48,56,50,99,54,99,49,51,100,99,55,48,101,49,49,48,54,53,99,101,52,50,99,51,98,51,51,99,57,100,48,101,54,48,97,57,99,102,50,57,100,55,102,98,48,98,57,51,32,99,117,116,32,97,116,32,108,111,111,112,46,101,120,97,109,112,108,101,47,103,48,48,53,49,56,47,108,97,119,115,46,70,110,68,105,102,102,101,114,101,110,99,101,115]
def cutW:List Char:=List.map Char.ofNat [99,117,116]
theorem io_eq:Tryz.prog.initOrder=String.ofList ioL:=by
 unfold Tryz.prog;dsimp only [Tryz.progTables]
 kernel_rfl
theorem io_list:Tryz.prog.initOrder.toList=ioL:=by rw [io_eq,String.toList_ofList]
theorem io_words:behindMainWord (wordsSigns ioL)=cutW::(behindMainWord (wordsSigns ioL)).tail:=by kernel_rfl
theorem io_strip (rest:List (List Char)):stripLifts liftWords (cutW::rest)=([],cutW::rest):=by kernel_rfl
theorem cut_gc : (cutW == "gc".toList || cutW == "spec".toList) = false := by kernel_rfl
theorem cut_carried : (cutW == "carried".toList) = false := by kernel_rfl
theorem cut_carried' : (some cutW == some "carried".toList) = false := by kernel_rfl
theorem cut_cut : (some cutW == some "cut".toList) = true := by kernel_rfl
theorem cut_cut' : (cutW == "cut".toList) = true := by kernel_rfl
theorem no_later:Tryz.prog.laysLater=false:=by kernel_rfl
theorem no_reflect:Tryz.prog.bearsReflect=false:=by kernel_rfl
theorem door_fits:Tryz.prog.doorFits []=true:=by kernel_rfl
section
variable {P:Program} {rest:List (List Char)} (h:behindMainWord (wordsSigns P.initOrder.toList)=cutW::rest)
include h
theorem head_lifts_of:P.headLifts=[]:=by
 unfold Program.headLifts;rw [h,io_strip];simp only [List.head?_cons,cut_cut,if_true]
theorem enter_of (h1:P.laysLater=false) (h2:P.bearsReflect=false) (h3:P.doorFits []=true):P.mayEnter=true:=by
 unfold Program.mayEnter;rw [h];simp only [io_strip,cut_gc,cut_carried,cut_cut,h1,h2,h3,List.head?_cons,Bool.false_and,Bool.false_or,Bool.not_false,Bool.and_true,Bool.or_true,List.contains_nil]
theorem final_of:P.liftsFinal=false:=by
 unfold Program.liftsFinal;rw [head_lifts_of h,h];simp only [List.head?_cons,cut_carried',Bool.false_and,Bool.false_or,List.contains_nil]
theorem make_of:P.make=some .cut:=by
 unfold Program.make;rw [h];simp only [cut_gc,cut_cut',Bool.true_or,if_true]
 rfl
end
theorem io_head:behindMainWord (wordsSigns Tryz.prog.initOrder.toList)=cutW::(behindMainWord (wordsSigns ioL)).tail:=by rw [io_list];exact io_words
theorem fact_enter:Tryz.prog.mayEnter=true:=enter_of io_head no_later no_reflect door_fits
theorem fact_final:Tryz.prog.liftsFinal=false:=final_of io_head
theorem fact_make:Tryz.prog.make=some .cut:=make_of io_head
theorem fact_final':(false==Tryz.prog.liftsFinal)=true:=by rw [fact_final];rfl
theorem fact_make':(Tryz.prog.make==some Make.cut)=true:=by rw [fact_make];kernel_rfl
theorem fact_laid:laidOutB Tryz.prog=true:=by kernel_rfl
theorem fact_maps:mapsRowed Tryz.prog=true:=by kernel_rfl
theorem fact_stops:(Tryz.prog.stops==[])=true:=by kernel_rfl
theorem fact_knobs:(Tryz.prog.stopKnobs==[])=true:=by kernel_rfl
theorem fact_heard:Tryz.prog.stopsHeard=true:=by kernel_rfl
end Go.Proofs.YtlfhealneccdkaaGreatDoor
namespace Go.Proofs.YtlfhealneccdkaaGreatDoor
open Go.ChangeShapes Go.WideShapes Go.ChangeAt Go.RowKit Go.Deep
theorem own:ownKnob Tryz.prog.godebug=none:=by kernel_rfl
theorem laidOut:laidOutB Tryz.prog=true:=fact_laid
theorem rd0_of_cells {α:Type} {f:α→Value} {W:World} {x:Addr} {l:List α} {c:Nat} (hc0:l.length≤c) (hl:l.length≤9223372036854775807) (hc:∀ i (h:i<l.length),W.cell? (x.add i)=some (f l[i])):Rd0 f W (some x) l c:=by
 refine ⟨hc0,hl,fun hp=>?_⟩;obtain ⟨b,off,spot⟩:=x;have h0:=hc 0 hp;have hspot:spot=none:=by simpa [Addr.add] using World.cell?_spot h0
 subst hspot;refine ⟨b,off,rfl,?_,fun w' e i hi=>?_⟩
 ·have:=block_lt_of_cell h0;simpa [Addr.add] using this
 ·have h1:=hc i hi
  have hadd:(⟨b,off,none⟩:Addr).add i=⟨b,off+i,none⟩:=by unfold Addr.add;split<;>simp_all
  rw [hadd] at h1;exact (Below.cell e (by simpa using block_lt_of_cell h1)).trans h1
section
variable {H:Type} {enc:TypeId × Value→H} {W:World} {base:Nat} {spare:Nat→Bool} {held:Bool}
theorem in_bytes {T E:TypeId} (hT:Tryz.prog.underlying T=some (.slice E)) (hE:Tryz.prog.underlying E=some (.int .u8)) (hC:Tryz.prog.cellsOf E=1)
 {n:Nat} {v:Value} {y:DataW H × List MemPlace} (h:DataW.trod enc Tryz.prog W base spare held n T [v]=some y) :
 ∃ (A:Option Addr) (l:List UInt8) (c:Nat),v=.slice A l.length c∧Rd0 vu8 W A l c:=by
 rcases open_ints hT hE hC h with ⟨hcs,_⟩ | ⟨x,len,c,zs,hcs,_,hl,hm,hz,_,hcell,hwz⟩
 ·obtain rfl:v=.slice none 0 0:=by simpa using hcs
  exact ⟨none,[],0,rfl,by simp,by simp,fun h=>by simp at h⟩
 ·obtain rfl:v=.slice (some x) len c:=by simpa using hcs
  have hlz:len≤zs.length:=by rw [hz];split<;>omega
  refine ⟨some x,(zs.take len).map (fun z=>UInt8.ofNat z.toNat),c,by simp;omega,rd0_of_cells (by simp;omega) (by simp [maxLen] at hm ⊢;omega) fun i hi=>?_⟩;have hi':i<len:=by simp at hi;omega
  rw [hcell i (by omega)];have hb:=bounds_u8 (hwz zs[i] (List.getElem_mem (by omega)));simp [vu8,List.getElem?_eq_getElem (show i<zs.length by omega)]
  omega
def RdInts (W:World) (A:Option Addr) (l:List Int) (c:Nat):Prop:=Rd0 vint W A l c∧∀ x∈l,(Lit.int .i64 x).wf=true
end
end Go.Proofs.YtlfhealneccdkaaGreatDoor
namespace Go.Proofs.YtlfhealneccdkaaGreatDoor
open Go.RowKit Go.Sort
theorem baInj {a b:ByteArray} (h:a.toList=b.toList):a=b:=by
 rw [ByteArray.toList_eq,ByteArray.toList_eq] at h;exact ByteArray.ext (Array.toList_inj.1 h)
theorem ba_eqT {a b:ByteArray} (h:a=b):(a.toList==b.toList)=true:=by rw [h];simp
theorem ba_eqF {a b:ByteArray} (h:¬ a=b):(a.toList==b.toList)=false:=by rw [beq_eq_false_iff_ne];exact fun e=>h (baInj e)
def digAt (s:ByteArray) (i:Nat):Bool:=if h:i<s.size then decide (48≤s[i].toNat∧s[i].toNat≤57) else true
def numN (s:ByteArray):Nat→Nat
 | 0=>0
 | k+1=>10*numN s k+(if h:k<s.size then s[k].toNat-48 else 0)
def intOkB (s:ByteArray):Bool:=decide (1≤s.size∧s.size≤13)&&(List.range s.size).all (digAt s)&&decide (numN s s.size≤1000000000000)&&decide (itoaB (numN s s.size:Nat)=s)
def parseV (s:ByteArray):Int:=if intOkB s=true then (numN s s.size:Int) else 0
theorem parse_no {s:ByteArray} (h:intOkB s=false):parseV s=0:=by unfold parseV;rw [h];rfl
theorem parse_yes {s:ByteArray} (h:intOkB s=true):parseV s=(numN s s.size:Int):=by unfold parseV;rw [if_pos h]
theorem digAt_at {s:ByteArray} {k:Nat} (hk:k<s.size):digAt s k=decide (48≤s[k].toNat∧s[k].toNat≤57):=dif_pos hk
theorem numN_succ {s:ByteArray} {k:Nat} (hk:k<s.size):numN s (k+1)=10*numN s k+(s[k].toNat-48):=by rw [numN,dif_pos hk]
theorem numN_lt {s:ByteArray}:∀ (k:Nat),k≤s.size→(∀ j,j<k→digAt s j=true)→numN s k<10^k
 | 0,_,_=>by simp [numN]
 | k+1,hk,h=>by
  have h1:=numN_lt k (by omega) (fun j hj=>h j (by omega));have h2:=h k (by omega);rw [digAt_at (by omega)] at h2;simp only [decide_eq_true_eq] at h2;rw [numN_succ (by omega),Nat.pow_succ];omega
theorem intOk_size {s:ByteArray} (h:¬ (1≤s.size∧s.size≤13)):intOkB s=false:=by unfold intOkB;simp [h]
theorem intOk_dig {s:ByteArray} {k:Nat} (hk:k<s.size) (h:digAt s k=false):intOkB s=false:=by
 unfold intOkB
 rw [show (List.range s.size).all (digAt s)=false from by
  rw [Bool.eq_false_iff];intro hall
  have:=List.all_eq_true.1 hall k (by simpa using hk);rw [h] at this;cases this]
 simp
theorem intOk_all {s:ByteArray} (hs:1≤s.size∧s.size≤13) (h:∀ j,j<s.size→digAt s j=true):intOkB s=(decide (numN s s.size≤1000000000000)&&decide (itoaB (numN s s.size:Nat)=s)):=by
 unfold intOkB;rw [List.all_eq_true.2 (fun j hj=>h j (by simpa using hj)),decide_eq_true hs];simp
theorem intOk_num {s:ByteArray} (h:intOkB s=true):itoaB (numN s s.size:Nat)=s∧numN s s.size≤1000000000000:=by
 unfold intOkB at h;simp only [Bool.and_eq_true,decide_eq_true_eq] at h;exact ⟨h.2,h.1.2⟩
theorem sParse_c (s:ByteArray) (w:World) (hs:s.size≤9223372036854775807):Gives Tryz.prog 77 #[.string s] w (.tuple #[.int .i64 (parseV s),.bool (intOkB s)]):=by
 by_cases hz:1≤s.size∧s.size≤13
 case neg =>
  have HI:=lhd (intOk_size hz);have HD:Hid ((decide ((1:Int)≤(s.size:Int))&&decide ((s.size:Int)≤13))=false):=lhd (by rw [Bool.and_eq_false_iff];simp;omega)
  rw [HI.out,parse_no HI.out];go_enter Tryz.func77,Tryz.ntmps77;go_wp2_with (go_at_call 44;refine (l1In_c _ _ _ _).mono ?_;rintro _ w1 ⟨rfl,he1⟩;rw [HD.out])
  exact bodyPost_ret (v:=.tuple #[.int .i64 0,.bool false]) (by simp [results,Tryz.results77,go_sem]) rfl ⟨rfl,he1⟩
 case pos =>
  have HD:Hid ((decide ((1:Int)≤(s.size:Int))&&decide ((s.size:Int)≤13))=true):=lhd (by simp;omega)
  have hz':=lhd hz;have hs13:s.size≤13:=hz.2
  clear hz;go_enter Tryz.func77,Tryz.ntmps77;go_wp2_with (go_at_call 44;refine (l1In_c _ _ _ _).mono ?_;rintro _ w1 ⟨rfl,he1⟩;rw [HD.out])
  go_loopw [5,4] (fun i n wr=>∃ k m:Nat,k≤s.size∧i=.int .i64 k∧n=.int .i64 m∧Hid (m=numN s k)∧Hid (∀ j,j<k→digAt s j=true)∧Ext w wr) (fun i _ _=>s.size-(intOf i).toNat)
  case atStart=>exact ⟨0,0,by omega,rfl,rfl,rfl,fun j hj=>by omega,he1⟩
  case round =>
   obtain ⟨k,m,hk,rfl,rfl,hm,ho,he⟩:=hrel
   by_cases hlt:k<s.size
   ·have hb:(s[k].toNat:Int)≤255:=by have:=s[k].toNat_lt;omega
    have hok:=lhd (digAt_at hlt);have hsu:=lhd (numN_succ hlt)
    have hm2:m<1000000000000:=by
     have h1:=numN_lt k (by omega) ho.out;rw [← hm.out] at h1
     exact Nat.lt_of_lt_of_le h1 (by
      have:10^k≤10^12:=Nat.pow_le_pow_right (by omega) (by omega)
      simpa using this)
    by_cases hd:48≤s[k].toNat∧s[k].toNat≤57
    ·have HB:Hid ((decide ((48:Int)≤(s[k].toNat:Int))&&decide ((s[k].toNat:Int)≤57))=true):=lhd (by simp;omega)
     have hd1:(48:Int)≤(s[k].toNat:Int):=by omega
     have hd2:(s[k].toNat:Int)≤57:=by omega
     have hdh:=lhd hd;clear hd;go_wp2_with (go_at_call 44;refine (l1In_c _ _ _ _).mono ?_;rintro _ w2 ⟨rfl,he2⟩;rw [HB.out])
     go_roundw
     case rel=>exact ⟨k+1,m*10+(s[k].toNat-48),by omega,by go_num,by go_num,lhd (by rw [hsu.out,← hm.out];omega),lhd (fun j hj=>by
         rcases (by omega:j<k∨j=k) with hj | rfl
         ·exact ho.out j hj
         ·rw [hok.out];exact decide_eq_true hdh.out),he.trans he2⟩
     case measure=>simp [intOf];omega
    ·have HB:Hid ((decide ((48:Int)≤(s[k].toNat:Int))&&decide ((s[k].toNat:Int)≤57))=false):=lhd (by rw [Bool.and_eq_false_iff];simp;omega)
     have HI:Hid (intOkB s=false):=lhd (intOk_dig hlt (by rw [hok.out];exact decide_eq_false hd))
     clear hd;go_wp2_with (go_at_call 44;refine (l1In_c _ _ _ _).mono ?_;rintro _ w2 ⟨rfl,he2⟩;rw [HB.out])
     exact bodyPost_ret (v:=.tuple #[.int .i64 0,.bool false]) (by simp [results,Tryz.results77,go_sem]) rfl ⟨by rw [HI.out,parse_no HI.out],he.trans he2⟩
   ·obtain rfl:k=s.size:=by omega
    have HE:=lhd (intOk_all hz'.out ho.out);rw [← hm.out] at HE
    have hm2:m<10000000000000:=by
     have h1:=numN_lt s.size (by omega) ho.out;rw [← hm.out] at h1
     exact Nat.lt_of_lt_of_le h1 (by
      have:10^s.size≤10^13:=Nat.pow_le_pow_right (by omega) (by omega)
      simpa using this)
    clear ho
    by_cases hbig:m≤1000000000000
    ·have HB:Hid (decide ((1000000000000:Int)<(m:Int))=false):=lhd (decide_eq_false (by omega))
     have d1:=HB.out;have CF:=lhd (fun w'=>sFormatInt_c (m:Int) w' (by omega) (by omega))
     by_cases hq:itoaB (m:Nat)=s
     ·have hq2:=ba_eqT hq
      have HI:Hid (intOkB s=true):=lhd (by rw [HE.out,decide_eq_true hbig,decide_eq_true hq];rfl)
      generalize itoaB (m:Nat)=z at *;clear hq;go_wp2_with (go_at_call 78;refine (CF.out _).mono ?_;rintro _ w2 ⟨rfl,he2⟩)
      exact bodyPost_ret (v:=.tuple #[.int .i64 (m:Int),.bool true]) (by simp [results,Tryz.results77,go_sem]) rfl ⟨by rw [HI.out,parse_yes HI.out,← hm.out],he.trans he2⟩
     ·have hq2:=ba_eqF hq
      have HI:Hid (intOkB s=false):=lhd (by rw [HE.out,decide_eq_false hq];simp)
      generalize itoaB (m:Nat)=z at *;clear hq;go_wp2_with (go_at_call 78;refine (CF.out _).mono ?_;rintro _ w2 ⟨rfl,he2⟩)
      exact bodyPost_ret (v:=.tuple #[.int .i64 0,.bool false]) (by simp [results,Tryz.results77,go_sem]) rfl ⟨by rw [HI.out,parse_no HI.out],he.trans he2⟩
    ·have HB:Hid (decide ((1000000000000:Int)<(m:Int))=true):=lhd (decide_eq_true (by omega))
     have d1:=HB.out;have HI:Hid (intOkB s=false):=lhd (by rw [HE.out,decide_eq_false hbig];rfl)
     clear hbig;go_wp2;exact bodyPost_ret (v:=.tuple #[.int .i64 0,.bool false]) (by simp [results,Tryz.results77,go_sem]) rfl ⟨by rw [HI.out,parse_no HI.out],he⟩
def isStepB (s:ByteArray):Bool:=isName s||decide (s=⟨#[42]⟩)||decide (s=⟨#[63]⟩)||decide (s=⟨#[43]⟩)||intOkB s
theorem toL1 (x:UInt8):ByteArray.toList ⟨#[x]⟩=[x]:=by rw [ByteArray.toList_eq]
theorem sIsStep_c (s:ByteArray) (w:World) (hs:s.size≤9223372036854775807):Gives Tryz.prog 52 #[.string s] w (.bool (isStepB s)):=by
 have CN:=lhd (fun w'=>sIsName_c s w' hs);have CP:=lhd (fun w'=>sParse_c s w' hs);rcases (by cases h:isName s<;>simp:isName s=true∨isName s=false) with hn | hn
 ·have HI:Hid (isStepB s=true):=lhd (by unfold isStepB;rw [hn];rfl)
  rw [hn] at CN;clear hn CP;go_enter Tryz.func52,Tryz.ntmps52;go_wp2_with (go_at_call 76;refine (CN.out _).mono ?_;rintro _ w1 ⟨rfl,he1⟩)
  go_ret;exact ⟨by rw [HI.out];rfl,he1⟩
 ·rw [hn] at CN
  by_cases c1:s=⟨#[42]⟩
  ·subst c1
   have HI:Hid (isStepB ⟨#[42]⟩=true):=lhd (by unfold isStepB;simp)
   clear hn CP;go_enter Tryz.func52,Tryz.ntmps52;go_wp2_with (go_at_call 76;refine (CN.out _).mono ?_;rintro _ w1 ⟨rfl,he1⟩)
   go_ret;exact ⟨by rw [HI.out];rfl,he1⟩
  by_cases c2:s=⟨#[63]⟩
  ·subst c2
   have HI:Hid (isStepB ⟨#[63]⟩=true):=lhd (by unfold isStepB;simp)
   clear hn CP c1;go_enter Tryz.func52,Tryz.ntmps52;go_wp2_with (go_at_call 76;refine (CN.out _).mono ?_;rintro _ w1 ⟨rfl,he1⟩)
   go_ret;exact ⟨by rw [HI.out];rfl,he1⟩
  by_cases c3:s=⟨#[43]⟩
  ·subst c3
   have HI:Hid (isStepB ⟨#[43]⟩=true):=lhd (by unfold isStepB;simp)
   clear hn CP c1 c2;go_enter Tryz.func52,Tryz.ntmps52;go_wp2_with (go_at_call 76;refine (CN.out _).mono ?_;rintro _ w1 ⟨rfl,he1⟩)
   go_ret;exact ⟨by rw [HI.out];rfl,he1⟩
  have HI:Hid (isStepB s=intOkB s):=lhd (by unfold isStepB;rw [hn,decide_eq_false c1,decide_eq_false c2,decide_eq_false c3];rfl)
  have d1:(s.toList==[42])=false:=by rw [← toL1 42];exact ba_eqF c1
  have d2:(s.toList==[63])=false:=by rw [← toL1 63];exact ba_eqF c2
  have d3:(s.toList==[43])=false:=by rw [← toL1 43];exact ba_eqF c3
  have n1:¬ s.toList=[42]:=by simpa using d1
  have n2:¬ s.toList=[63]:=by simpa using d2
  have n3:¬ s.toList=[43]:=by simpa using d3
  clear c1 c2 c3 hn;cases hb:intOkB s
  ·rw [hb,parse_no hb] at CP
   rw [hb] at HI;clear hb;go_enter Tryz.func52,Tryz.ntmps52
   go_wp2_with (first
    | (go_at_call 76;refine (CN.out _).mono ?_;rintro _ w1 ⟨rfl,he1⟩)
    | (go_at_call 77;refine (CP.out _).mono ?_;rintro _ w2 ⟨rfl,he2⟩))
   go_ret;exact ⟨by rw [HI.out];rfl,he1.trans he2⟩
  ·have hq:=lhd (intOk_num hb).1
   have hle:=(intOk_num hb).2;rw [hb,parse_yes hb] at CP;rw [hb] at HI;clear hb;generalize numN s s.size=m at *;have CF:=lhd (fun w'=>sFormatInt_c (m:Int) w' (by omega) (by omega));rw [hq.out] at CF;have d4:=ba_eqT (rfl:s=s);go_enter Tryz.func52,Tryz.ntmps52
   go_wp2_with (first
    | (go_at_call 76;refine (CN.out _).mono ?_;rintro _ w1 ⟨rfl,he1⟩)
    | (go_at_call 77;refine (CP.out _).mono ?_;rintro _ w2 ⟨rfl,he2⟩)
    | (go_at_call 78;refine (CF.out _).mono ?_;rintro _ w3 ⟨rfl,he3⟩))
   go_ret;exact ⟨by rw [HI.out];rfl,(he1.trans he2).trans he3⟩
def cutAt (s:ByteArray) (i:Nat):Bool:=if h:i<s.size then decide (s[i].toNat=47) else true
def splitF (s:ByteArray):Nat→List ByteArray × Nat
 | 0=>([],0)
 | i+1=>if cutAt s i=true then ((splitF s i).1++[s.extract (splitF s i).2 i],i+1) else splitF s i
def splitB (s:ByteArray):List ByteArray:=(splitF s (s.size+1)).1
theorem splitF_yes {s:ByteArray} {i:Nat} {L:List ByteArray} {f:Nat} (h:splitF s i=(L,f)) (c:cutAt s i=true):splitF s (i+1)=(L++[s.extract f i],i+1):=by rw [splitF,if_pos c,h]
theorem splitF_no {s:ByteArray} {i:Nat} {L:List ByteArray} {f:Nat} (h:splitF s i=(L,f)) (c:cutAt s i=false):splitF s (i+1)=(L,f):=by rw [splitF,c,if_neg (by simp),h]
theorem cut_end (s:ByteArray):cutAt s s.size=true:=by unfold cutAt;rw [dif_neg (by omega)]
theorem cut_in {s:ByteArray} {i:Nat} (h:i<s.size):cutAt s i=decide (s[i].toNat=47):=by unfold cutAt;rw [dif_pos h]
theorem sSplitText_c (s:ByteArray) (w:World) (hs:s.size≤1000000):Calls Tryz.prog 51 #[.string s,.int .u8 47] w fun e w'=>∃ v,e=.returned v∧OwnL vstr 9 w w' v (splitB s)∧Ext w w':=by
 have OE:=lhd (OwnL.empty (f:=vstr) (e:=9) (Ext.refl w));have x0:=Ext_alloc (.cells #[] 9) (Ext.refl w);go_enter Tryz.func51,Tryz.ntmps51;go_wp2;go_loopw [7,5,6] (fun i v f wr=>∃ (k fr:Nat) (L:List ByteArray),k≤s.size+1∧fr≤k∧L.length≤k∧i=.int .i64 k∧f=.int .i64 fr∧Hid (splitF s k=(L,fr))∧Hid (OwnL vstr 9 w wr v L)∧Ext w wr) (fun i _ _ _=>s.size+1-(intOf i).toNat)
 case atStart=>exact ⟨0,0,[],by omega,by omega,by simp,rfl,rfl,rfl,OE.out,x0⟩
 case round =>
  clear OE x0;obtain ⟨k,fr,L,hk,hf,hL,rfl,rfl,hsp,ho,he⟩:=hrel
  by_cases hlt:k<s.size+1
  ·have HB:Hid ((L.length+[s.extract fr k].length)*16≤140737488355328):=by show _≤_;simp only [List.length_cons,List.length_nil];omega
   by_cases he1:k=s.size
   ·have HN:=lhd (splitF_yes hsp.out (by rw [he1];exact cut_end s))
    subst he1;have HL:Hid ((L++[s.extract fr s.size]).length≤s.size+1):=by show _≤_;simp;omega
    go_wp2_with (at_builtin;go_must (refine wpList_appN rfl (.tmp 26) (.tmp 31) _ rfl E_str (by omega) _ _ vstr (fun _=>rfl) _ rfl _ _ rfl L [s.extract fr s.size] _ rfl ho.out he rfl HB.out ?_);intro v1 w6 ho1 he1)
    have H1:=lhd ho1;clear ho1;go_roundw
    case rel=>exact ⟨s.size+1,s.size+1,_,by omega,by omega,HL.out,by go_num,by go_num,HN,H1,he1⟩
    case measure=>simp [intOf]<;>omega
   ·have hlt2:k<s.size:=by omega
    have hci:=lhd (cut_in hlt2);have hne:((k:Int)==(s.size:Int))=false:=by simp;omega
    by_cases hc:s[k].toNat=47
    ·have HN:=lhd (splitF_yes hsp.out (by rw [hci.out];exact decide_eq_true hc))
     have hci2:((s[k].toNat:Int)==47)=true:=by simp;omega
     clear hc;have HL:Hid ((L++[s.extract fr k]).length≤k+1):=by show _≤_;simp;omega
     go_wp2_with (at_builtin;go_must (refine wpList_appN rfl (.tmp 26) (.tmp 31) _ rfl E_str (by omega) _ _ vstr (fun _=>rfl) _ rfl _ _ rfl L [s.extract fr k] _ rfl ho.out he rfl HB.out ?_);intro v1 w6 ho1 he1)
     have H1:=lhd ho1;clear ho1;go_roundw
     case rel=>exact ⟨k+1,k+1,_,by omega,by omega,HL.out,by go_num,by go_num,HN,H1,he1⟩
     case measure=>simp [intOf]<;>omega
    ·have HN:=lhd (splitF_no hsp.out (by rw [hci.out];exact decide_eq_false hc))
     have hci2:((s[k].toNat:Int)==47)=false:=by simp;omega
     clear hc;go_wp2;go_roundw
     case rel=>exact ⟨k+1,fr,L,by omega,by omega,by omega,by go_num,rfl,HN,ho,he⟩
     case measure=>simp [intOf]<;>omega
  ·obtain rfl:k=s.size+1:=by omega
   have HE:Hid (splitB s=L):=lhd (by unfold splitB;rw [hsp.out])
   go_wp2;go_ret;exact ⟨_,rfl,by rw [HE.out];exact ho.out,he⟩
theorem splitF_size (s:ByteArray):∀ i,(∀ x∈(splitF s i).1,x.size≤s.size)∧(splitF s i).1.length≤i
 | 0=>⟨fun x hx=>by simp [splitF] at hx,by simp [splitF]⟩
 | i+1=>by
  obtain ⟨h1,h2⟩:=splitF_size s i;rw [splitF]
  split
  ·refine ⟨fun x hx=>?_,by simp;omega⟩
   rcases List.mem_append.1 hx with hx | hx
   ·exact h1 x hx
   ·rw [List.mem_singleton.1 hx,ByteArray.size_extract];omega
  ·exact ⟨h1,by omega⟩
theorem splitB_pos (s:ByteArray):∃ h t,splitB s=h::t:=by
 have:(splitB s).length≠0:=by
  unfold splitB;rw [splitF,if_pos (cut_end s)];simp
 cases h:splitB s with
 | nil=>rw [h] at this;simp at this
 | cons a t=>exact ⟨a,t,rfl⟩
def splitP (s:ByteArray):Option (List ByteArray) :=
 if s=⟨#[]⟩ then some [] else
 match splitB s with
 | []=>none
 | h::t=>if h=⟨#[]⟩∧t.all isStepB=true∧t≠[] then some t else none
theorem splitP_at {s h:ByteArray} {t:List ByteArray} (h0:¬ s=⟨#[]⟩) (e:splitB s=h::t):splitP s=if h=⟨#[]⟩∧t.all isStepB=true∧t≠[] then some t else none:=by
 unfold splitP;rw [if_neg h0,e]
def SplitOut (R:Option (List ByteArray)) (w0:World) (e:Ending) (w':World):Prop:=∃ A n c,e=.returned (.tuple #[.slice A n c,.bool R.isSome])∧(∀ t,R=some t→n=t.length∧Rd vstr w' A t c)∧Ext w0 w'
theorem SplitOut.no {w0 w':World} (A:Option Addr) (n c:Nat) (h:Ext w0 w'):SplitOut none w0 (.returned (.tuple #[.slice A n c,.bool false])) w':=⟨A,n,c,rfl,(fun t ht=>by cases ht),h⟩
theorem SplitOut.yes {w0 w':World} {A:Option Addr} {t:List ByteArray} {n c:Nat} (hn:n=t.length) (hr:Rd vstr w' A t c) (h:Ext w0 w'):SplitOut (some t) w0 (.returned (.tuple #[.slice A n c,.bool true])) w':=⟨A,n,c,rfl,(fun t' ht=>by injection ht with ht;subst ht;exact ⟨hn,hr⟩),h⟩
theorem rdPart {α:Type} {f:α→Value} {w:World} {b off:Nat} {l:List α} {c:Nat} (h:Rd f w (some ⟨b,off,none⟩) l c) {i k:Nat} (hi:i≤k) (hk:k≤l.length):Rd f w (some ⟨b,off+i,none⟩) ((l.drop i).take (k-i)) (c-i):=by
 have hl:((l.drop i).take (k-i)).length=k-i:=by rw [List.length_take,List.length_drop];omega
 refine ⟨⟨by have:=h.cap;omega,by have:=h.1.2.1;omega,fun hp=>?_⟩,by have:=h.len;omega⟩;obtain ⟨b',off',h1,h2,h3⟩:=h.base (by omega);injection h1 with h1;injection h1 with h1 h4;subst h1;subst h4
 refine ⟨b,off+i,rfl,h2,fun w' e j hj=>?_⟩;have h5:=h3 w' e (i+j) (by omega);rw [show off+(i+j)=off+i+j by omega] at h5;rw [h5];simp
theorem all_no {t:List ByteArray} {k:Nat} (hk:k<t.length) (h:isStepB t[k]=false):t.all isStepB=false:=by
 rw [Bool.eq_false_iff];intro ha
 have:=List.all_eq_true.1 ha t[k] (List.getElem_mem hk);rw [h] at this;cases this
theorem all_yes {t:List ByteArray} (h:∀ j (hj:j<t.length),isStepB t[j]=true):t.all isStepB=true:=by
 rw [List.all_eq_true];intro x hx;obtain ⟨j,hj,rfl⟩:=List.getElem_of_mem hx;exact h j hj
theorem sSplitPath_c (s:ByteArray) (w:World) (hs:s.size≤1000000):Calls Tryz.prog 25 #[.string s] w (SplitOut (splitP s) w):=by
 by_cases h0:s=⟨#[]⟩
 ·subst h0
  have x1:=Ext_alloc (.cells #[] 9) (Ext.refl w);have HR:Hid (splitP ⟨#[]⟩=some []):=lhd (by unfold splitP;rw [if_pos rfl])
  rw [HR.out];go_enter Tryz.func25,Tryz.ntmps25;go_wp2;exact bodyPost_ret (v:=.tuple #[.slice (some ⟨w.heap.size,0,none⟩) 0 0,.bool true]) (by simp [results,Tryz.results25,go_sem]) rfl (SplitOut.yes rfl ⟨⟨by simp,by simp,fun h=>by simp at h⟩,by simp⟩ x1)
 obtain ⟨h,t,hL⟩:=splitB_pos s;have HP:=lhd (splitP_at h0 hL);have CT:=lhd (sSplitText_c s w hs);obtain ⟨hz,hlen⟩:=splitF_size s (s.size+1)
 change (∀ x∈splitB s,x.size≤s.size) at hz
 change (splitB s).length≤s.size+1 at hlen
 rw [hL] at CT hz hlen
 have d0:(s.toList==[])=false:=by
  rw [beq_eq_false_iff_ne];intro e;exact h0 (baInj (by rw [e,ByteArray.toList_eq]))
 have n0:¬ s.toList=[]:=by simpa using d0
 rw [HP.out];simp only [List.length_cons] at hlen;have CI:Hid (∀ k (hk:k<t.length) w',Gives Tryz.prog 52 #[.string t[k]] w' (.bool (isStepB t[k]))):=lhd (fun k hk w'=>sIsStep_c _ w' (by have:=hz t[k] (List.mem_cons_of_mem _ (List.getElem_mem hk));omega))
 have hlt0:t.length≤1000000:=by omega
 clear hL h0 hz hlen HP;generalize hR:(if h=⟨#[]⟩∧t.all isStepB=true∧t≠[] then some t else none)=R;have HR:=lhd hR;clear hR
 by_cases hh:h=⟨#[]⟩
 case neg =>
  have d1:(h.toList==[])=false:=by
   rw [beq_eq_false_iff_ne];intro e;exact hh (baInj (by rw [e,ByteArray.toList_eq]))
  have n1:¬ h.toList=[]:=by simpa using d1
  have HN:Hid (R=none):=lhd (by rw [← HR.out,if_neg (fun hc=>hh hc.1)])
  rw [HN.out];clear hh HR;go_enter Tryz.func25,Tryz.ntmps25;go_wp2_with (go_at_call 51;refine CT.out.mono ?_;rintro _ w1 ⟨v,rfl,ho,e1⟩;obtain ⟨A,c,rfl,hr⟩:=OwnL.rd ho (by simp;omega);obtain ⟨b,off,hA,hb,hc⟩:=hr.at 0 (by simp);subst hA;have hc0:w1.cell? ⟨b,off,none⟩=some (Value.string h):=hc w1 (Ext.refl _);have hd0:∀ w',Ext w1 w'→w'.cell? ⟨b,off,none⟩=some (Value.string h):=fun w' e=>hc w' e;clear hc ho hr)
  have x1:=e1.trans (Ext_alloc (.cells #[] 9) (Ext.refl w1));exact bodyPost_ret (v:=.tuple #[.slice (some ⟨w1.heap.size,0,none⟩) 0 0,.bool false]) (by simp [results,Tryz.results25,go_sem]) rfl (SplitOut.no _ _ _ x1)
 case pos =>
  subst hh;have HR2:Hid ((if t.all isStepB=true∧t≠[] then some t else none)=R):=lhd (by rw [← HR.out];simp)
  clear HR;go_enter Tryz.func25,Tryz.ntmps25;go_wp2_with (go_at_call 51;refine CT.out.mono ?_;rintro _ w1 ⟨v,rfl,ho,e1⟩;obtain ⟨A,c,rfl,hr⟩:=OwnL.rd ho (by simp;omega);obtain ⟨b,off,hA,hb,hc⟩:=hr.at 0 (by simp);subst hA;have hc0:w1.cell? ⟨b,off,none⟩=some (Value.string ⟨#[]⟩):=hc w1 (Ext.refl _);have hd0:∀ w',Ext w1 w'→w'.cell? ⟨b,off,none⟩=some (Value.string ⟨#[]⟩):=fun w' e=>hc w' e;clear hc ho;have HRD:=lhd hr;clear hr)
  have HAT:Hid (∀ k (hk:k<t.length) w',Ext w1 w'→w'.cell? ⟨b,off+(k+1),none⟩=some (Value.string t[k])):=lhd (fun k hk w' e=>by
   obtain ⟨b',off',h1,h2,h3⟩:=HRD.out.at (k+1) (by simp;omega);injection h1 with h1;injection h1 with h1 h4;subst h1;subst h4
   exact h3 w' e)
  go_loopw [5] (fun i wr=>∃ k:Nat,k≤t.length∧i=.int .i64 ((k:Int)+1)∧Hid (∀ j (hj:j<t.length),j<k→isStepB t[j]=true)∧Ext w1 wr) (fun i _=>t.length+1-(intOf i).toNat)
  case atStart=>exact ⟨0,by omega,rfl,(fun j hj hj2=>by omega),Ext.refl _⟩
  case round =>
   obtain ⟨k,hk,rfl,hall,he⟩:=hrel
   by_cases hlt:k<t.length
   ·have C:=lhd (CI.out k hlt)
    have hc1:=HAT.out k hlt wr he;have hstep:=lhd (fun h=>all_no hlt h)
    have hsy:Hid (isStepB t[k]=true→∀ j (hj:j<t.length),j<k+1→isStepB t[j]=true):=lhd (fun h j hj hj2=>by
     rcases (by omega:j<k∨j=k) with h' | rfl
     ·exact hall.out j hj h'
     ·exact h)
    have hki:(k:Int)+1<(t.length:Int)+1:=by omega
    generalize isStepB t[k]=q at *;generalize t[k]=x at *;clear CI CT HAT;cases q
    ·have HN:Hid (R=none):=lhd (by rw [← HR2.out,hstep.out rfl];simp)
     rw [HN.out];go_wp2_with (go_at_call 52;refine (C.out _).mono ?_;rintro _ w2 ⟨rfl,e2⟩)
     have x1:=(e1.trans (he.trans e2)).trans (Ext_alloc (.cells #[] 9) (Ext.refl w2));exact bodyPost_ret (v:=.tuple #[.slice (some ⟨w2.heap.size,0,none⟩) 0 0,.bool false]) (by simp [results,Tryz.results25,go_sem]) rfl (SplitOut.no _ _ _ x1)
    ·go_wp2_with (go_at_call 52;refine (C.out _).mono ?_;rintro _ w2 ⟨rfl,e2⟩)
     go_roundw
     case rel=>exact ⟨k+1,by omega,by go_num,lhd (hsy.out (by first | rfl | trivial)),he.trans e2⟩
     case measure=>simp [intOf];omega
   ·obtain rfl:k=t.length:=by omega
    have hno:¬ (t.length:Int)+1<(t.length:Int)+1:=by omega
    have hal:=all_yes (fun j hj=>hall.out j hj hj);rw [hal] at HR2;have hcap:=HRD.out.cap;simp only [List.length_cons] at hcap;clear hal hall HAT CI CT;cases t with
    | nil =>
     have HN:Hid (R=none):=lhd (by rw [← HR2.out];simp)
     clear HRD HR2
     by_cases hc1:c=1
     ·subst hc1
      go_wp2;exact bodyPost_ret (v:=.tuple #[.slice (some ⟨b,off,none⟩) 0 0,.bool false]) (by simp [results,Tryz.results25,go_sem]) rfl (by rw [HN.out];exact SplitOut.no _ _ _ (e1.trans he))
     ·go_wp2
      exact bodyPost_ret (v:=.tuple #[.slice (some ⟨b,off+1,none⟩) 0 (c-1),.bool false]) (by simp [results,Tryz.results25,go_sem]) rfl (by rw [HN.out];exact SplitOut.no _ _ _ (e1.trans he))
    | cons y t =>
     have HN:Hid (R=some (y::t)):=lhd (by rw [← HR2.out];simp)
     have hR:=rdPart HRD.out (i:=1) (k:=(y::t).length+1) (by omega) (by simp);have hR2:Rd vstr w1 (some ⟨b,off+1,none⟩) (y::t) (c-1):=by simpa using hR
     have HR3:=lhd (hR2.ext he);simp only [List.length_cons] at hcap hno ⊢;have hc1:¬ c=1:=by omega
     clear HRD HR2 hR hR2;go_wp2;exact bodyPost_ret (v:=.tuple #[.slice (some ⟨b,off+1,none⟩) (t.length+1) (c-1),.bool true]) (by simp [results,Tryz.results25,go_sem];omega) rfl (by rw [HN.out];exact SplitOut.yes (by simp) HR3.out (e1.trans he))
end Go.Proofs.YtlfhealneccdkaaGreatDoor
namespace Go.Proofs
open Go.Shelf Go.RowKit Go.Sort
def Tryz.laysM171_ren:Go.Shelf.Ren:=⟨fun | 171=>89 | 243=>100 | 246=>112 | 283=>117 | 284=>118 | 285=>119 | 286=>120 | 129=>124 | 317=>123 | 318=>125 | 319=>126 | 320=>127 | 337=>128 | 338=>129 | n=>n,fun | 3=>3 | 9=>9 | 2=>2 | 4=>4 | 171=>148 | 0=>0 | 53=>149 | 37=>22 | 5=>5 | 173=>152 | 212=>158 | 51=>159 | 20=>20 | 213=>160 | 46=>124 | 232=>164 | 233=>165 | n=>n,fun | 17=>0 | 18=>2 | 19=>3 | n=>n⟩
theorem Tryz.laysM171:Go.Proofs.LaysM.n171 Tryz.prog Tryz.laysM171_ren:={
 mixed:=by kernel_rfl
 f129:=Tryz.func124.trans (congrArg some (by kernel_rfl))
 f171:=Tryz.func89.trans (congrArg some (by kernel_rfl))
 f243:=Tryz.func100.trans (congrArg some (by kernel_rfl))
 f246:=Tryz.func112.trans (congrArg some (by kernel_rfl))
 f283:=Tryz.func117.trans (congrArg some (by kernel_rfl))
 f284:=Tryz.func118.trans (congrArg some (by kernel_rfl))
 f285:=Tryz.func119.trans (congrArg some (by kernel_rfl))
 f286:=Tryz.func120.trans (congrArg some (by kernel_rfl))
 f317:=Tryz.func123.trans (congrArg some (by kernel_rfl))
 f318:=Tryz.func125.trans (congrArg some (by kernel_rfl))
 f319:=Tryz.func126.trans (congrArg some (by kernel_rfl))
 f320:=Tryz.func127.trans (congrArg some (by kernel_rfl))
 f337:=Tryz.func128.trans (congrArg some (by kernel_rfl))
 f338:=Tryz.func129.trans (congrArg some (by kernel_rfl))
 t0:=Tryz.underlying0
 a0:=Tryz.isAgg0
 z0:=Tryz.sizeOf0
 v0:=Tryz.zeroValue0
 t2:=Tryz.underlying2
 a2:=Tryz.isAgg2
 z2:=Tryz.sizeOf2
 v2:=Tryz.zeroValue2
 t3:=Tryz.underlying3
 a3:=Tryz.isAgg3
 z3:=Tryz.sizeOf3
 v3:=Tryz.zeroValue3
 t4:=Tryz.underlying4
 a4:=Tryz.isAgg4
 z4:=Tryz.sizeOf4
 v4:=Tryz.zeroValue4
 t5:=Tryz.underlying5
 a5:=Tryz.isAgg5
 z5:=Tryz.sizeOf5
 v5:=Tryz.zeroValue5
 t9:=Tryz.underlying9
 a9:=Tryz.isAgg9
 z9:=Tryz.sizeOf9
 v9:=Tryz.zeroValue9
 t20:=Tryz.underlying20
 a20:=Tryz.isAgg20
 z20:=Tryz.sizeOf20
 v20:=Tryz.zeroValue20
 t37:=Tryz.underlying22
 a37:=Tryz.isAgg22
 z37:=Tryz.sizeOf22
 v37:=Tryz.zeroValue22
 t46:=Tryz.underlying124
 a46:=Tryz.isAgg124
 z46:=Tryz.sizeOf124
 v46:=Tryz.zeroValue124
 t51:=Tryz.underlying159
 a51:=Tryz.isAgg159
 z51:=Tryz.sizeOf159
 v51:=Tryz.zeroValue159
 t53:=Tryz.underlying149
 a53:=Tryz.isAgg149
 z53:=Tryz.sizeOf149
 v53:=Tryz.zeroValue149
 t171:=Tryz.underlying148
 a171:=Tryz.isAgg148
 z171:=Tryz.sizeOf148
 v171:=Tryz.zeroValue148
 t173:=Tryz.underlying152
 a173:=Tryz.isAgg152
 z173:=Tryz.sizeOf152
 v173:=Tryz.zeroValue152
 t212:=Tryz.underlying158
 a212:=Tryz.isAgg158
 z212:=Tryz.sizeOf158
 v212:=Tryz.zeroValue158
 t213:=Tryz.underlying160
 a213:=Tryz.isAgg160
 z213:=Tryz.sizeOf160
 t232:=Tryz.underlying164
 a232:=Tryz.isAgg164
 z232:=Tryz.sizeOf164
 v232:=Tryz.zeroValue164
 t233:=Tryz.underlying165
 a233:=Tryz.isAgg165
 z233:=Tryz.sizeOf165
 v233:=Tryz.zeroValue165
 g17:=by kernel_rfl
 g18:=by kernel_rfl
 g19:=by kernel_rfl
 i0:=by kernel_rfl
 i2:=by kernel_rfl
 i3:=by kernel_rfl
 i4:=by kernel_rfl
 i5:=by kernel_rfl
 i9:=by kernel_rfl
 i20:=by kernel_rfl
 i37:=by kernel_rfl
 i46:=by kernel_rfl
 i51:=by kernel_rfl
 i53:=by kernel_rfl
 i171:=by kernel_rfl
 i173:=by kernel_rfl
 i212:=by kernel_rfl
 i232:=by kernel_rfl
 i233:=by kernel_rfl
 m17:=by kernel_rfl
 m18:=by kernel_rfl
 m19:=by kernel_rfl }
theorem Tryz.strconv_Itoa (n : Int) (h0 : -9223372036854775808 ≤ n) (h1 : n ≤ 9223372036854775807) (w : World) (htab : Lib.TabIs Tryz.prog w "internal/strconv.uint64pow10" .u64 Lib.pow10Tab) :
 Calls Tryz.prog 89 #[.int .i64 n] w fun e w'=>e=.returned (.string ⟨(Lib.itoa n).toArray⟩)∧∃ k os,w'=grow (w.drewN k) os:=Any.strconv_Itoa Tryz.laysM171 n h0 h1 w htab
def Tryz.lays156_ren:Go.Shelf.Ren:=⟨fun | 156=>96 | 165=>106 | 166=>107 | 169=>108 | 240=>114 | 241=>115 | 276=>121 | 277=>122 | n=>n,fun | 31=>60 | 9=>9 | 3=>3 | 4=>4 | 0=>0 | 20=>20 | 72=>137 | 76=>141 | 70=>135 | 37=>22 | 75=>140 | 127=>147 | 164=>154 | 5=>5 | 80=>143 | n=>n,fun | n=>n⟩
theorem Tryz.lays156:Go.Proofs.Lays.n156 Tryz.prog Tryz.lays156_ren:={
 mixed:=by kernel_rfl
 f156:=Tryz.func96.trans (congrArg some (by kernel_rfl))
 f165:=Tryz.func106.trans (congrArg some (by kernel_rfl))
 f166:=Tryz.func107.trans (congrArg some (by kernel_rfl))
 f169:=Tryz.func108.trans (congrArg some (by kernel_rfl))
 f240:=Tryz.func114.trans (congrArg some (by kernel_rfl))
 f241:=Tryz.func115.trans (congrArg some (by kernel_rfl))
 f276:=Tryz.func121.trans (congrArg some (by kernel_rfl))
 f277:=Tryz.func122.trans (congrArg some (by kernel_rfl))
 t0:=Tryz.underlying0
 a0:=Tryz.isAgg0
 z0:=Tryz.sizeOf0
 v0:=Tryz.zeroValue0
 t3:=Tryz.underlying3
 a3:=Tryz.isAgg3
 z3:=Tryz.sizeOf3
 v3:=Tryz.zeroValue3
 t4:=Tryz.underlying4
 a4:=Tryz.isAgg4
 z4:=Tryz.sizeOf4
 v4:=Tryz.zeroValue4
 t9:=Tryz.underlying9
 a9:=Tryz.isAgg9
 z9:=Tryz.sizeOf9
 v9:=Tryz.zeroValue9
 t20:=Tryz.underlying20
 a20:=Tryz.isAgg20
 z20:=Tryz.sizeOf20
 v20:=Tryz.zeroValue20
 t31:=Tryz.underlying60
 a31:=Tryz.isAgg60
 z31:=Tryz.sizeOf60
 v31:=Tryz.zeroValue60
 t37:=Tryz.underlying22
 a37:=Tryz.isAgg22
 z37:=Tryz.sizeOf22
 v37:=Tryz.zeroValue22
 t70:=Tryz.underlying135
 a70:=Tryz.isAgg135
 z70:=Tryz.sizeOf135
 v70:=Tryz.zeroValue135
 t72:=Tryz.underlying137
 a72:=Tryz.isAgg137
 z72:=Tryz.sizeOf137
 v72:=Tryz.zeroValue137
 t75:=Tryz.underlying140
 a75:=Tryz.isAgg140
 z75:=Tryz.sizeOf140
 v75:=Tryz.zeroValue140
 t76:=Tryz.underlying141
 a76:=Tryz.isAgg141
 z76:=Tryz.sizeOf141
 v76:=Tryz.zeroValue141
 t127:=Tryz.underlying147
 a127:=Tryz.isAgg147
 z127:=Tryz.sizeOf147
 v127:=Tryz.zeroValue147
 t164:=Tryz.underlying154
 a164:=Tryz.isAgg154
 z164:=Tryz.sizeOf154
 v164:=Tryz.zeroValue154 }
theorem Tryz.Builder_Extra_156:Builder.Extra Tryz.prog Tryz.lays156_ren:={
 sizeBuilder:=by kernel_rfl
 liesBuilder:=by kernel_rfl
 t5:=Tryz.underlying5
 a5:=Tryz.isAgg5
 z5:=Tryz.sizeOf5
 v5:=Tryz.zeroValue5
 infoByte:=by kernel_rfl
 cellsByte:=by kernel_rfl
 sizeByte:=by kernel_rfl
 neB5:=by decide }
theorem Tryz.strings_Join_none (a:Option Addr) (c:Nat) (sep:ByteArray) (w:World) :
 Calls Tryz.prog 96 #[.slice a 0 c,.string sep] w fun e w'=>e=.returned (.string ⟨#[]⟩)∧w'=w:=Any.strings_Join_none Tryz.lays156 Tryz.Builder_Extra_156 a c sep w
theorem Tryz.strings_Join (bk o c:Nat) (xs:List ByteArray) (sep:ByteArray) (w:World) (hcells:∀ (j:Nat) x,xs[j]?=some x→w.cell? ⟨bk,o+j,none⟩=some (.string x)) (hbk:bk<w.heap.size) (hN:xs.length≤140737488355328) (hcap:xs.length≤c) (hlen:(Lib.join (xs.map (·.data.toList)) sep.data.toList).length≤140737488355328) :
 Calls Tryz.prog 96 #[.slice (some ⟨bk,o,none⟩) xs.length c,.string sep] w fun e w'=>e=.returned (.string ⟨(Lib.join (xs.map (·.data.toList)) sep.data.toList).toArray⟩)∧Below w.heap.size w w':=Any.strings_Join Tryz.lays156 Tryz.Builder_Extra_156 bk o c xs sep w hcells hbk hN hcap hlen
end Go.Proofs
namespace Go.Proofs.YtlfhealneccdkaaGreatDoor
open Go.RowKit Go.Sort
def Tab (w : World) : Prop := Lib.TabIs Tryz.prog w "internal/strconv.uint64pow10" .u64 Lib.pow10Tab
theorem Tab.ext {w w':World} (h:Tab w) (e:Ext w w'):Tab w':=by
 unfold Tab Lib.TabIs World.var? at *;rw [Option.bind_eq_some_iff] at *;obtain ⟨g,hg,hc⟩:=h;refine ⟨g,hg,?_⟩;rcases Nat.lt_or_ge g w.heap.size with hlt | hge
 ·rw [Below.block e g hlt];exact hc
 ·rw [Array.getElem?_eq_none hge] at hc;simp at hc
theorem iFormatInt_c (n:Int) (w:World) (hT:Tab w) (h0 : -9223372036854775808≤n) (h1:n≤9223372036854775807) :
 Gives Tryz.prog 70 #[.int .i64 n] w (.string (itoaB n)):=by
 have C:=lhd (Tryz.strconv_Itoa n h0 h1 w hT);unfold itoaB;generalize (Lib.itoa n)=l at *;go_enter Tryz.func70,Tryz.ntmps70;go_wp2_with fail;refine C.out.mono ?_;rintro _ w1 ⟨rfl,k,os,hw⟩;have he:Ext w w1:=by rw [hw];exact Lib.below_grow _ w (Nat.le_refl _) k os
 clear hw;go_wp2;go_ret;exact ⟨rfl,he⟩
theorem iSplitText_c (s:ByteArray) (w:World) (hs:s.size≤1000000):Calls Tryz.prog 105 #[.string s,.int .u8 47] w fun e w'=>∃ v,e=.returned v∧OwnL vstr 9 w w' v (splitB s)∧Ext w w':=by
 have OE:=lhd (OwnL.empty (f:=vstr) (e:=9) (Ext.refl w));have x0:=Ext_alloc (.cells #[] 9) (Ext.refl w);go_enter Tryz.func105,Tryz.ntmps105;go_wp2;go_loopw [7,5,6] (fun i v f wr=>∃ (k fr:Nat) (L:List ByteArray),k≤s.size∧fr≤k∧L.length≤k∧i=.int .i64 k∧f=.int .i64 fr∧Hid (splitF s k=(L,fr))∧Hid (OwnL vstr 9 w wr v L)∧Ext w wr) (fun i _ _ _=>s.size-(intOf i).toNat)
 case atStart=>exact ⟨0,0,[],by omega,by omega,by simp,rfl,rfl,rfl,OE.out,x0⟩
 case round =>
  clear OE x0;obtain ⟨k,fr,L,hk,hf,hL,rfl,rfl,hsp,ho,he⟩:=hrel;have hfk:(fr:Int)≤(k:Int):=by omega
  by_cases hlt:k<s.size
  ·have HB:Hid ((L.length+[s.extract fr k].length)*16≤140737488355328):=by show _≤_;simp only [List.length_cons,List.length_nil];omega
   have hci:=lhd (cut_in hlt);have hki:(k:Int)<(s.size:Int):=by omega
   by_cases hc:s[k].toNat=47
   ·have HN:=lhd (splitF_yes hsp.out (by rw [hci.out];exact decide_eq_true hc))
    have hci2:((s[k].toNat:Int)==47)=true:=by simp;omega
    clear hc;have HL:Hid ((L++[s.extract fr k]).length≤k+1):=by show _≤_;simp;omega
    go_wp2_with (at_builtin;go_must (refine wpList_appN rfl (.tmp 20) (.tmp 25) _ rfl E_str (by omega) _ _ vstr (fun _=>rfl) _ rfl _ _ rfl L [s.extract fr k] _ rfl ho.out he rfl HB.out ?_);intro v1 w6 ho1 he1)
    have H1:=lhd ho1;clear ho1;go_roundw
    case rel=>exact ⟨k+1,k+1,_,by omega,by omega,HL.out,by go_num,by go_num,HN,H1,he1⟩
    case measure=>simp [intOf]<;>omega
   ·have HN:=lhd (splitF_no hsp.out (by rw [hci.out];exact decide_eq_false hc))
    have hci2:((s[k].toNat:Int)==47)=false:=by simp;omega
    clear hc;go_wp2;go_roundw
    case rel=>exact ⟨k+1,fr,L,by omega,by omega,by omega,by go_num,rfl,HN,ho,he⟩
    case measure=>simp [intOf]<;>omega
  ·obtain rfl:k=s.size:=by omega
   have HB:Hid ((L.length+[s.extract fr s.size].length)*16≤140737488355328):=by show _≤_;simp only [List.length_cons,List.length_nil];omega
   have HN:=splitF_yes hsp.out (cut_end s);have HE:Hid (splitB s=L++[s.extract fr s.size]):=lhd (by unfold splitB;rw [HN])
   clear HN;go_wp2_with (at_builtin;go_must (refine wpList_appN rfl (.tmp 29) (.tmp 33) _ rfl E_str (by omega) _ _ vstr (fun _=>rfl) _ rfl _ _ rfl L [s.extract fr s.size] _ rfl ho.out he rfl HB.out ?_);intro v1 w6 ho1 he1)
   have H1:=lhd ho1;clear ho1;go_ret;exact ⟨_,rfl,by rw [HE.out];exact H1.out,he1⟩
theorem boxAt0 {W:World} {cs:Array Value} {T:TypeId} {n:Nat} (h:W.heap.size=n):Box (W.alloc (.cells cs T)) n cs T:=h▸Box.new W cs T
theorem Box.al {W:World} {cs:Array Value} {T:TypeId} {n:Nat} {o:Obj} (h:Box W n cs T):Box (W.alloc o) n cs T:=h.ext (Ext_alloc _ (Ext.refl _))
theorem Box.dr {W:World} {cs:Array Value} {T:TypeId} {n:Nat} (h:Box W n cs T):Box W.drew n cs T:=h.ext (Ext_drew (Ext.refl _))
theorem row0 {w0 w:World} {n:Nat} {α:Type} {f:α→Value} {e:TypeId} (hb:Box w n #[] e) (h:w0.heap.size≤n):OwnL f e w0 w (.slice (some ⟨n,0,none⟩) 0 0) [] :=
 ⟨by simp,.inr ⟨n,0,#[],rfl,h,hb,by simp,by simp [maxLen],by simp,by simp⟩⟩
theorem rowN {w0 w:World} {n N size:Nat} {e:TypeId} {cs:Array Value} (hb:Box w n cs e) (hc:cs.size=N*size) (hN:N≤maxLen) (h:w0.heap.size≤n):Own e size w0 w (.slice (some ⟨n,0,none⟩) 0 N) 0 [] :=
 ⟨by simp,.inr ⟨n,N,cs,rfl,h,hb,by simp,hN,hc,by simp⟩⟩
def LaidV (W2 wx:World) (num:Int) (bytes:List UInt8) (N:Nat) (g:Nat) (v4 vM:Value):Prop :=
 Box wx g #[.int .i64 num,v4,vM] 29∧OwnL vu8 5 W2 wx v4 bytes∧Own 29 3 W2 wx vM 0 []∧v4.ownBlock≠some g∧vM.ownBlock≠some g∧(∀ b,v4.ownBlock=some b→vM.ownBlock≠some b)∧W2.heap.size≤g∧Ext W2 wx
theorem laid_last {W2 X:World} {num:Int} {bytes:List UInt8} {N n:Nat} {v4 vM:Value} (ho:OwnL vu8 5 W2 X v4 bytes) (hM:Own 29 3 W2 X vM 0 []) (hne:∀ b,v4.ownBlock=some b→vM.ownBlock≠some b) (he:Ext W2 X) (hn:X.heap.size=n) :
 LaidV W2 (X.alloc (.cells #[.int .i64 num,v4,vM] 29)) num bytes N n v4 vM:=by
 subst hn;exact ⟨Box.new X _ _,ho.ext (Ext_alloc _ (Ext.refl _)),hM.ext (Ext_alloc _ (Ext.refl _)),OwnL.far ho (.inr (Nat.le_refl _)),fun hh=>absurd (World.ownsRow.lt hM _ hh).2 (Nat.lt_irrefl _),hne,he.size,Ext_alloc _ he⟩
theorem laid_set {W2 X:World} {num:Int} {bytes:List UInt8} {N g:Nat} {v4 vM:Value} (hb:Box X g #[.int .i64 0,.slice none 0 0,.slice none 0 0] 29) (ho:OwnL vu8 5 W2 X v4 bytes) (hM:Own 29 3 W2 X vM 0 [])
 (h1:v4.ownBlock≠some g) (h2:vM.ownBlock≠some g) (hne:∀ b,v4.ownBlock=some b→vM.ownBlock≠some b) (hg:W2.heap.size≤g) (he:Ext W2 X) :
 LaidV W2 (((X.setCell ⟨g,0,none⟩ (.int .i64 num)).setCell ⟨g,1,none⟩ v4).setCell ⟨g,2,none⟩ vM) num bytes N g v4 vM:=by
 obtain ⟨q1,q2,q3,q4⟩:=val_laid (num:=num) (v2:=vM) hb ho h1 hg he;exact ⟨q1,q2,((Own.other hM ⟨g,0,none⟩ _ h2).other ⟨g,1,none⟩ _ h2).other ⟨g,2,none⟩ _ h2,h1,h2,hne,q3,q4⟩
theorem row_ne {n m k N:Nat} (h:n≠m):(Value.slice (some ⟨n,0,none⟩) k N).ownBlock≠some m:=by
 intro hh
 have:some n=some m:=hh
 injection this with this;exact h this
theorem laidF {W2 w4:World} {num:Int} {bytes:List UInt8} {N g n1:Nat} {v4:Value} {CS:Array Value} (hb:Box w4 g #[.int .i64 0,.slice none 0 0,.slice none 0 0] 29) (ho:OwnL vu8 5 W2 w4 v4 bytes) (hne:v4.ownBlock≠some g) (hg:W2.heap.size≤g) (he:Ext W2 w4) (hc:CS.size=N*3) (hN:N≤1048576) (h1:w4.heap.size=n1) :
 LaidV W2 ((((w4.alloc (.cells CS 29)).setCell ⟨g,0,none⟩ (.int .i64 num)).setCell ⟨g,1,none⟩ v4).setCell ⟨g,2,none⟩ (.slice (some ⟨n1,0,none⟩) 0 N)) num bytes N g v4 (.slice (some ⟨n1,0,none⟩) 0 N):=by
 subst h1;exact laid_set hb.al (OwnL.ext ho (Ext_alloc _ (Ext.refl _))) (rowN (Box.new _ _ _) hc (by simp only [maxLen];omega) he.size) hne (row_ne (by have:=hb.lt;omega)) (fun b hb=>row_ne (by have:=(World.ownsRow.lt ho b hb).2;omega)) hg (Ext_alloc _ he)
theorem laidB {W2 w4:World} {num:Int} {bytes:List UInt8} {N n1 n2:Nat} {v4:Value} {CS:Array Value} (ho:OwnL vu8 5 W2 w4 v4 bytes) (he:Ext W2 w4) (hc:CS.size=N*3) (hN:N≤1048576) (h1:w4.heap.size=n1) (h2:n1+1=n2) :
 LaidV W2 ((w4.alloc (.cells CS 29)).alloc (.cells #[.int .i64 num,v4,.slice (some ⟨n1,0,none⟩) 0 N] 29)) num bytes N n2 v4 (.slice (some ⟨n1,0,none⟩) 0 N):=by
 subst h1;subst h2;exact laid_last (OwnL.ext ho (Ext_alloc _ (Ext.refl _))) (rowN (Box.new _ _ _) hc (by simp only [maxLen];omega) he.size) (fun b hb=>row_ne (by have:=(World.ownsRow.lt ho b hb).2;omega)) (Ext_alloc _ he) (by simp)
theorem laidC {W2 w4:World} {num:Int} {bytes:List UInt8} {N n1 n2:Nat} {v4:Value} {CS:Array Value} (ho:OwnL vu8 5 W2 w4 v4 bytes) (he:Ext W2 w4) (hc:CS.size=N*3) (hN:N≤1048576) (h1:w4.heap.size=n1) (h2:n1+1=n2) :
 LaidV W2 ((w4.alloc (.cells #[.int .i64 num,v4,.slice (some ⟨n2,0,none⟩) 0 N] 29)).alloc (.cells CS 29)) num bytes N n1 v4 (.slice (some ⟨n2,0,none⟩) 0 N):=by
 subst h1;subst h2;exact ⟨(Box.new _ _ _).ext (Ext_alloc _ (Ext.refl _)),OwnL.ext ho (Ext_alloc _ (Ext_alloc _ (Ext.refl _))),rowN (boxAt0 (by simp)) hc (by simp only [maxLen];omega) (by have:=he.size;omega),OwnL.far ho (.inr (Nat.le_refl _)),row_ne (by omega),fun b hb=>row_ne (by have:=(World.ownsRow.lt ho b hb).2;omega),he.size,Ext_alloc _ (Ext_alloc _ he)⟩
theorem neq_row {v:Value} {n m N:Nat} (h:v.ownBlock≠some n):∀ b,v.ownBlock=some b→(Value.slice (some ⟨n,0,none⟩) m N).ownBlock≠some b:=by
 intro b hb hh
 have:some n=some b:=hh
 rw [← this] at hb;exact h hb
def iCopyOk (v:DVal):Prop:=∀ (Ab:Option Addr) (cb:Nat) (Ai:Option Addr) (ci:Nat) (w:World),RdV w v Ab cb Ai ci→szV v≤1048576 →
 Calls Tryz.prog 21 #[vval v (.slice Ab v.bytes.length cb) (.slice Ai v.items.length ci)] w fun e w'=>∃ t,e=.returned (vval v t.vb t.vi)∧GotV w w' t v∧Ext w w'
theorem mk_val (N:Nat) (hN:N≤1048576):∃ CS:Array Value,CS.size=N*3∧∀ W:World,(Instr.makeSlice 27 (.int .i64 0) (.int .i64 (N:Int))).run Tryz.prog W=.ok (.slice (some ⟨W.heap.size,0,none⟩) 0 N) (W.alloc (.cells CS 29)):=by
 obtain ⟨i0,hi0,hz0,hz1,hz2⟩:=info_parts E_val.hi;refine ⟨madeCells (Value.agg #[.int .i64 0,.slice none 0 0,.slice none 0 0]).cells (N*3),size_madeCells _ _,fun W=>?_⟩;have hr:=run_makeSlice (P:=Tryz.prog) W 27 29 i0 _ E_val.ht hi0 hz0 .i64 .i64 0 (N:Int) (Int.le_refl _) (by omega) (by rw [hz1];simp;omega) (by rw [hz2];omega) (by omega);simp only [Int.toNat_zero,Int.toNat_natCast,hz1] at hr;exact hr
theorem iCopy_of (v:DVal) (H:∀ x∈v.items,iCopyOk x):iCopyOk v:=by
 intro Ab cb Ai ci w h hz;obtain ⟨hb,hi⟩:=h;have z1:v.bytes.length≤1048576:=by have:=bytes_le v;omega
 have HZ:Hid (∀ x∈v.items,szV x≤1048576):=fun x hx=>by have:=szV_item hx;omega
 have hn:v.items.length≤1048576:=by have:=items_le v;omega
 have HH:=lhd H;have HDV:Hid (DVal.mk v.num v.bytes v.items=v):=v.eta
 unfold vval;generalize v.num=num at *;generalize v.bytes=bytes at *;generalize v.items=items at *;clear H;obtain ⟨CS,hCS,HM⟩:=mk_val items.length hn;have HCS:=lhd hCS;clear hCS;have ea:=Ext_alloc (.cells #[.int .i64 num,.slice Ab bytes.length cb,.slice Ai items.length ci] 29) (Ext.refl w);have B0:=fun w' (e:Ext (w.alloc (.cells #[.int .i64 num,.slice Ab bytes.length cb,.slice Ai items.length ci] 29)) w')=>boxed e
 obtain ⟨W1,hW1⟩:∃ W1,W1=w.alloc (.cells #[.int .i64 num,.slice Ab bytes.length cb,.slice Ai items.length ci] 29):=⟨_,rfl⟩;have HW1:=lhd hW1;have hs1:W1.heap.size=w.heap.size+1:=by rw [hW1];simp
 rw [← hW1] at ea B0;have ey:=Ext_alloc (.cells #[.int .i64 0,.slice none 0 0,.slice none 0 0] 29) (Ext.refl W1);have BR:=Box.new W1 #[.int .i64 0,.slice none 0 0,.slice none 0 0] 29;rw [hs1] at BR;obtain ⟨W2,hW2⟩:∃ W2,W2=W1.alloc (.cells #[.int .i64 0,.slice none 0 0,.slice none 0 0] 29):=⟨_,rfl⟩;have HW2:=lhd hW2;have hs2:W2.heap.size=w.heap.size+2:=by rw [hW2];simp;omega
 rw [← hW2] at ey BR;clear hW1 hW2;go_enter Tryz.func21,Tryz.ntmps21;go_wp2_with fail;rw [← HW1.out,← HW2.out];have HD:=lhd hb;have HEY:=lhd ey;have HB2:Hid ((([]:List UInt8).length+bytes.length)*1≤140737488355328):=by show _≤_;simp;omega
 have HDL:Hid (bytes.length≤140737488351232):=by show _≤_;omega
 have SX:Hid (∀ w',Ext W1 w'→((w'.cell? ⟨w.heap.size,0,none⟩=some (.int .i64 num)∧w'.cell? ⟨w.heap.size,1,none⟩=some (.slice Ab bytes.length cb)∧w'.cell? ⟨w.heap.size,2,none⟩=some (.slice Ai items.length ci))∧Ext W1 w')):=fun w' e=>⟨⟨B0 w' e 0,B0 w' e 1,B0 w' e 2⟩,e⟩
 have HSX0:=lhd B0;have HBR:=lhd BR;clear BR;go_cut [3] (fun s3 wx=>∃ g A4 c4 A5,s3=.pointer (some ⟨g,0,none⟩)∧LaidV W2 wx num bytes items.length g (.slice A4 bytes.length c4) (.slice A5 0 items.length))
 case first =>
  go_region_held3 (fun w'=>(w'.cell? ⟨w.heap.size,0,none⟩=some (.int .i64 num)∧w'.cell? ⟨w.heap.size,1,none⟩=some (.slice Ab bytes.length cb)∧w'.cell? ⟨w.heap.size,2,none⟩=some (.slice Ai items.length ci))∧Ext W1 w') (exact SX.out _ (by repeat' (first | assumption | (with_reducible refine Ext_alloc _ ?_) | (with_reducible refine Ext_drew ?_) | (with_reducible refine Ext.setCell ?_ (by simp;try omega) _)))) (first
   | (refine step_appH rfl (.tmp 8) (.tmp 10) _ rfl E_u8 (by omega) W2 _ vu8 (fun _=>rfl) _ rfl _ _ _ rfl [] bytes (row0 (by first | (with_reducible exact Box.dr (boxAt0 (by (try simp only [World.size_alloc,size_drew']);omega))) | (with_reducible exact Box.dr (Box.al (boxAt0 (by (try simp only [World.size_alloc,size_drew']);omega)))) | (with_reducible exact Box.dr (Box.al (Box.al (boxAt0 (by (try simp only [World.size_alloc,size_drew']);omega)))))) (by omega)) (by repeat' (first | (with_reducible exact Ext.refl _) | (with_reducible refine Ext_drew ?_) | (with_reducible refine Ext_alloc _ ?_))) rfl (fun hp=>src0 HD.out ((ea.trans ey).trans (by repeat' (first | (with_reducible exact Ext.refl _) | (with_reducible refine Ext_drew ?_) | (with_reducible refine Ext_alloc _ ?_)))) hp) HB2.out ?_;intro v4 w4 ho4 he4 hv4 hg4;rw [List.nil_append] at ho4;have e14:=ey.trans he4;obtain ⟨A4,c4,hvv,r4⟩:=OwnL.rd ho4 HDL.out;subst hvv;(first | (have hbz:Box w4 (w.heap.size+2) #[.int .i64 0,.slice none 0 0,.slice none 0 0] 29:=Box.moved (by first | (with_reducible exact Box.dr (boxAt0 (by (try simp only [World.size_alloc,size_drew']);omega))) | (with_reducible exact Box.dr (Box.al (boxAt0 (by (try simp only [World.size_alloc,size_drew']);omega)))) | (with_reducible exact Box.dr (Box.al (Box.al (boxAt0 (by (try simp only [World.size_alloc,size_drew']);omega)))))) hg4 (fun hh=>by injection hh with hh;(first | (simp at hh;done) | (simp at hh;omega)));have z0:∀ w',Ext w4 w'→w'.cell? ⟨w.heap.size+2,0,none⟩=some (Value.int .i64 0):=(fun w' e=>hbz.at 0 w' e);have z1:∀ w',Ext w4 w'→w'.cell? ⟨w.heap.size+2,1,none⟩=some (Value.slice none 0 0):=(fun w' e=>hbz.at 1 w' e);have z2:∀ w',Ext w4 w'→w'.cell? ⟨w.heap.size+2,2,none⟩=some (Value.slice none 0 0):=(fun w' e=>hbz.at 2 w' e);have y0:∀ w',Ext w4 w'→w'.frozen? ⟨w.heap.size+2,0,none⟩=false:=(fun w' e=>hbz.frees 0 w' e);have y1:∀ w',Ext w4 w'→w'.frozen? ⟨w.heap.size+2,1,none⟩=false:=(fun w' e=>hbz.frees 1 w' e);have y2:∀ w',Ext w4 w'→w'.frozen? ⟨w.heap.size+2,2,none⟩=false:=(fun w' e=>hbz.frees 2 w' e);have hnb:=own_nb' hv4 (b:=w.heap.size+2) (by omega) (by (try simp only [World.size_alloc,size_drew']);omega);have hgz:W2.heap.size≤w.heap.size+2:=(by omega)) | (have hbz:Box w4 (w.heap.size+2+1) #[.int .i64 0,.slice none 0 0,.slice none 0 0] 29:=Box.moved (by first | (with_reducible exact Box.dr (boxAt0 (by (try simp only [World.size_alloc,size_drew']);omega))) | (with_reducible exact Box.dr (Box.al (boxAt0 (by (try simp only [World.size_alloc,size_drew']);omega)))) | (with_reducible exact Box.dr (Box.al (Box.al (boxAt0 (by (try simp only [World.size_alloc,size_drew']);omega)))))) hg4 (fun hh=>by injection hh with hh;(first | (simp at hh;done) | (simp at hh;omega)));have z0:∀ w',Ext w4 w'→w'.cell? ⟨w.heap.size+2+1,0,none⟩=some (Value.int .i64 0):=(fun w' e=>hbz.at 0 w' e);have z1:∀ w',Ext w4 w'→w'.cell? ⟨w.heap.size+2+1,1,none⟩=some (Value.slice none 0 0):=(fun w' e=>hbz.at 1 w' e);have z2:∀ w',Ext w4 w'→w'.cell? ⟨w.heap.size+2+1,2,none⟩=some (Value.slice none 0 0):=(fun w' e=>hbz.at 2 w' e);have y0:∀ w',Ext w4 w'→w'.frozen? ⟨w.heap.size+2+1,0,none⟩=false:=(fun w' e=>hbz.frees 0 w' e);have y1:∀ w',Ext w4 w'→w'.frozen? ⟨w.heap.size+2+1,1,none⟩=false:=(fun w' e=>hbz.frees 1 w' e);have y2:∀ w',Ext w4 w'→w'.frozen? ⟨w.heap.size+2+1,2,none⟩=false:=(fun w' e=>hbz.frees 2 w' e);have hnb:=own_nb' hv4 (b:=w.heap.size+2+1) (by omega) (by (try simp only [World.size_alloc,size_drew']);omega);have hgz:W2.heap.size≤w.heap.size+2+1:=(by omega)) | (have hbz:Box w4 (w.heap.size+2+1+1) #[.int .i64 0,.slice none 0 0,.slice none 0 0] 29:=Box.moved (by first | (with_reducible exact Box.dr (boxAt0 (by (try simp only [World.size_alloc,size_drew']);omega))) | (with_reducible exact Box.dr (Box.al (boxAt0 (by (try simp only [World.size_alloc,size_drew']);omega)))) | (with_reducible exact Box.dr (Box.al (Box.al (boxAt0 (by (try simp only [World.size_alloc,size_drew']);omega)))))) hg4 (fun hh=>by injection hh with hh;(first | (simp at hh;done) | (simp at hh;omega)));have z0:∀ w',Ext w4 w'→w'.cell? ⟨w.heap.size+2+1+1,0,none⟩=some (Value.int .i64 0):=(fun w' e=>hbz.at 0 w' e);have z1:∀ w',Ext w4 w'→w'.cell? ⟨w.heap.size+2+1+1,1,none⟩=some (Value.slice none 0 0):=(fun w' e=>hbz.at 1 w' e);have z2:∀ w',Ext w4 w'→w'.cell? ⟨w.heap.size+2+1+1,2,none⟩=some (Value.slice none 0 0):=(fun w' e=>hbz.at 2 w' e);have y0:∀ w',Ext w4 w'→w'.frozen? ⟨w.heap.size+2+1+1,0,none⟩=false:=(fun w' e=>hbz.frees 0 w' e);have y1:∀ w',Ext w4 w'→w'.frozen? ⟨w.heap.size+2+1+1,1,none⟩=false:=(fun w' e=>hbz.frees 1 w' e);have y2:∀ w',Ext w4 w'→w'.frozen? ⟨w.heap.size+2+1+1,2,none⟩=false:=(fun w' e=>hbz.frees 2 w' e);have hnb:=own_nb' hv4 (b:=w.heap.size+2+1+1) (by omega) (by (try simp only [World.size_alloc,size_drew']);omega);have hgz:W2.heap.size≤w.heap.size+2+1+1:=(by omega)) | skip);(first | (have hMr:Own 29 3 W2 w4 (.slice (some ⟨w.heap.size+2,0,none⟩) 0 items.length) 0 []:=rowN (Box.moved (by first | (with_reducible exact Box.dr (boxAt0 (by (try simp only [World.size_alloc,size_drew']);omega))) | (with_reducible exact Box.dr (Box.al (boxAt0 (by (try simp only [World.size_alloc,size_drew']);omega)))) | (with_reducible exact Box.dr (Box.al (Box.al (boxAt0 (by (try simp only [World.size_alloc,size_drew']);omega)))))) hg4 (fun hh=>by injection hh with hh;(first | (simp at hh;done) | (simp at hh;omega)))) HCS.out (by simp only [maxLen];omega) (by omega);have hnm:=own_nb' hv4 (b:=w.heap.size+2) (by omega) (by (try simp only [World.size_alloc,size_drew']);omega)) | (have hMr:Own 29 3 W2 w4 (.slice (some ⟨w.heap.size+2+1,0,none⟩) 0 items.length) 0 []:=rowN (Box.moved (by first | (with_reducible exact Box.dr (boxAt0 (by (try simp only [World.size_alloc,size_drew']);omega))) | (with_reducible exact Box.dr (Box.al (boxAt0 (by (try simp only [World.size_alloc,size_drew']);omega)))) | (with_reducible exact Box.dr (Box.al (Box.al (boxAt0 (by (try simp only [World.size_alloc,size_drew']);omega)))))) hg4 (fun hh=>by injection hh with hh;(first | (simp at hh;done) | (simp at hh;omega)))) HCS.out (by simp only [maxLen];omega) (by omega);have hnm:=own_nb' hv4 (b:=w.heap.size+2+1) (by omega) (by (try simp only [World.size_alloc,size_drew']);omega)) | (have hMr:Own 29 3 W2 w4 (.slice (some ⟨w.heap.size+2+1+1,0,none⟩) 0 items.length) 0 []:=rowN (Box.moved (by first | (with_reducible exact Box.dr (boxAt0 (by (try simp only [World.size_alloc,size_drew']);omega))) | (with_reducible exact Box.dr (Box.al (boxAt0 (by (try simp only [World.size_alloc,size_drew']);omega)))) | (with_reducible exact Box.dr (Box.al (Box.al (boxAt0 (by (try simp only [World.size_alloc,size_drew']);omega)))))) hg4 (fun hh=>by injection hh with hh;(first | (simp at hh;done) | (simp at hh;omega)))) HCS.out (by simp only [maxLen];omega) (by omega);have hnm:=own_nb' hv4 (b:=w.heap.size+2+1+1) (by omega) (by (try simp only [World.size_alloc,size_drew']);omega)) | skip)))
  all_goals
   go_wp2_with fail;go_meet
   first
    | (with_reducible exact ⟨_,A4,c4,_,rfl,laidB ho4 he4 HCS.out hn rfl rfl⟩)
    | (with_reducible exact ⟨_,A4,c4,_,rfl,laidC ho4 he4 HCS.out hn rfl rfl⟩)
    | (with_reducible exact ⟨_,A4,c4,_,rfl,laid_last ho4 hMr (neq_row hnm) he4 rfl⟩)
    | (with_reducible exact ⟨_,A4,c4,_,rfl,laidF hbz ho4 hnb hgz he4 HCS.out hn rfl⟩)
    | (with_reducible exact ⟨_,A4,c4,_,rfl,laid_set hbz ho4 hMr hnb (row_ne (by omega)) (neq_row hnm) hgz he4⟩)
 case rest =>
  obtain ⟨g,A4,c4,A5,rfl,hb4,ho4,hM4,hne4,hnm4,hnn4,hg4,he4⟩:=hcut;clear SX HB2 HD hb HDL B0 HM HCS;have OD0:Hid (OwnTs W2 wc (.slice A5 0 items.length) []):=⟨hM4,fun p hp=>by simp at hp,Far.one _⟩
  have NF0:Hid (∀ u∈(Value.slice A5 0 items.length)::([]:List VT).flatMap VT.vals,u.ownBlock≠some g∧∀ b,(Value.slice A4 bytes.length c4).ownBlock=some b→u.ownBlock≠some b):=by
   intro u hu;simp only [List.flatMap_nil,List.mem_cons,List.not_mem_nil,or_false] at hu;subst hu;exact ⟨hnm4,hnn4⟩
  have HB4:=lhd hb4;have HO4:=lhd ho4;have HNE:=lhd hne4;have hgc:=hb4.lt;have hgw:w.heap.size+2≤g:=by omega
  have HBL:Hid (∀ b,(Value.slice A4 bytes.length c4).ownBlock=some b→w.heap.size+2≤b∧b<wc.heap.size):=fun b hb=>by have:=World.ownsRow.lt ho4 b hb;omega
  have hs2':=lhd hs2;have cB:=fun w' (e:Ext W2 w')=>HSX0.out w' (HEY.out.trans e) 2
  simp only [List.getElem?_toArray,List.getElem?_cons_zero,List.getElem?_cons_succ] at cB;clear hb4 ho4 hne4 hnm4 hnn4 hM4 hg4 HW1 HW2 hs2;go_wp2;go_loopw [20] (fun ix wr=>∃ (k:Nat) (ps:List VT) (v:Value),k≤items.length∧ix=.int .i64 k∧ps.length≤k∧k≤ps.length∧Hid (valsOf ps=items.take k)∧Hid (OwnTs W2 wr v ps)∧Hid (Box wr g #[.int .i64 num,.slice A4 bytes.length c4,v] 29)∧Hid (OwnL vu8 5 W2 wr (.slice A4 bytes.length c4) bytes)∧Hid (∀ u∈v::ps.flatMap VT.vals,u.ownBlock≠some g∧∀ b,(Value.slice A4 bytes.length c4).ownBlock=some b→u.ownBlock≠some b)∧Ext W2 wr∧wc.heap.size≤wr.heap.size) (fun ix _=>items.length-(intOf ix).toNat)
  case atStart=>exact ⟨0,[],_,by omega,rfl,by simp,by simp,by simp [Hid,valsOf],OD0,HB4,HO4,NF0,he4,Nat.le_refl _⟩
  case round =>
   clear OD0 HB4 HO4 NF0 he4;obtain ⟨k,ps,v,hk,rfl,hl1,hl2,hps,hod,hbo,hby,hnf,he,hsz⟩:=hrel;have e1:=HEY.out.trans he
   by_cases hlt:k<items.length
   ·obtain ⟨b,off,A1,c1,D1,d1,hA,hb,hs,hr⟩:=hi.at k hlt
    subst hA;have hzk:=HZ.out _ (List.getElem_mem hlt);have HT:Hid (items.take (k+1)=items.take k++[items[k]]):=List.take_succ_eq_append_getElem hlt
    have Hk:=HH.out _ (List.getElem_mem hlt);generalize items[k]=r at *;have C:=lhd (fun w h=>Hk A1 c1 D1 d1 w h hzk);have ew:=ea.trans e1;obtain ⟨k0,k1,k2⟩:=hr;replace k0:=kx k0 ew;replace k1:=kx k1 ew;replace k2:=kx k2 ew;unfold vval at C;have xr:=Ext_alloc (.cells #[.int .i64 r.num,.slice A1 r.bytes.length c1,.slice D1 r.items.length d1] 29) (Ext.refl wr);have xd:=Ext_drew xr;have hbx:=lhd ((Box.new wr #[.int .i64 r.num,.slice A1 r.bytes.length c1,.slice D1 r.items.length d1] 29).ext (Ext_drew (Ext.refl (wr.alloc (.cells #[.int .i64 r.num,.slice A1 r.bytes.length c1,.slice D1 r.items.length d1] 29)))));have cx:=hbx.out.cell;have cv:_=some v:=(hbo.out.ext xd).cell 2
    have HS:=lhd (hs.ext (ew.trans xd));have hzk:=lhd hzk;have hbod:=lhd (hbo.out.ext xd);have hodd:=lhd (hod.out.ext xd);have hszd:Hid (W2.heap.size≤(wr.alloc (.cells #[.int .i64 r.num,.slice A1 r.bytes.length c1,.slice D1 r.items.length d1] 29)).drew.heap.size):=by have:=he.size;show _≤_;rw [size_drew',World.size_alloc];omega
    have hszc:Hid (wc.heap.size≤(wr.alloc (.cells #[.int .i64 r.num,.slice A1 r.bytes.length c1,.slice D1 r.items.length d1] 29)).drew.heap.size):=by show _≤_;rw [size_drew',World.size_alloc];omega
    have b1:(0:Int)≤(k:Int):=by omega
    have b2:(k:Int)<(items.length:Int):=by omega
    clear hs Hk hi ew e1 cB;go_wp2_with fail
    go_region_law (first
     | (go_simp;go_at_call 21;refine (C.out _ HS.out).mono ?_;rintro _ w2 ⟨t,rfl,hgt,he2⟩;have hgt:=lhd hgt;have hbo3:=lhd ((hbod.out.ext he2).ext (Ext_alloc (.cells #[.int .i64 r.num,t.vb,t.vi] 29) (Ext.refl w2)));have c2':_=some v:=(hbod.out.ext he2).cell 2;have c3:_=some v:=hbo3.out.cell 2;have hsz2:Hid (W2.heap.size≤(w2.alloc (.cells #[.int .i64 r.num,t.vb,t.vi] 29)).heap.size):=(by have h1:=he2.size;have h2:=hszd.out;show _≤_;rw [World.size_alloc];omega);have hone:Hid (∀ u∈[Value.int .i64 r.num,t.vb,t.vi],u.oneCell'=true):=(by have:=hgt.out.own.one;unfold VT.cells at this;rw [hgt.out.num] at this;exact this);have hNv:Hid (v.ownBlock≠some g):=(hnf.out v (List.mem_cons_self ..)).1)
     | (refine step_app8 rfl (.tmp 25) (.tmp 28) _ rfl E_val W2 (w2.alloc (.cells #[.int .i64 r.num,t.vb,t.vi] 29)) v ps.length (ps.flatMap VT.cells) rfl (Own.ext (Own.ext hodd.out.row he2) (Ext_alloc _ (Ext.refl _))) hsz2.out ⟨w2.heap.size,0,none⟩ 1 1 [.int .i64 r.num,t.vb,t.vi] rfl rfl (fun j u hu=>(World.cell?_alloc_at' w2 [.int .i64 r.num,t.vb,t.vi] 29 j).trans hu) hone.out (by simp [maxLen];omega) (by omega) ?_;intro v4 w4 ho4 hg4 hv4;have hbo4:=lhd (Box.moved (hbo3.out) hg4 hNv.out);have c4':=hbo4.out.cell 2;have f4:=hbo4.out.free 2;have HO4:Hid (OwnTs W2 w4 v4 (ps++[t])):=OwnTs.snoc hodd.out he2 hgt.out.own hgt.out.far hszd.out (by unfold VT.cells at ho4 ⊢;rw [hgt.out.num];exact ho4) hg4 hv4;have HG4:=lhd hg4;have HV4:=lhd hv4;clear ho4 hg4 hv4;obtain ⟨A6,q6,hA6⟩:=HO4.out.shape;replace hA6:v4=.slice A6 (ps.length+1) q6:=(by rw [hA6,List.length_append];rfl);subst hA6))
    all_goals
     have x3:=Ext_alloc (.cells #[.int .i64 r.num,t.vb,t.vi] 29) (Ext.refl w2);have bV:∀ b,v.ownBlock=some b→W2.heap.size≤b:=fun b hb=>(hod.out.block v (List.mem_cons_self ..) b hb).1
     have hs2'':=hs2'.out;have e4:=(((he.trans xd).trans he2).trans x3).grown HG4.out (fun b hb=>by have:=bV b hb;omega);have O5:Hid (Box (w4.setCell ⟨g,2,none⟩ (.slice A6 (ps.length+1) q6)) g #[.int .i64 num,.slice A4 bytes.length c4,.slice A6 (ps.length+1) q6] 29):=hbo4.out.set 2 (.slice A6 (ps.length+1) q6)
     have NF5:Hid (∀ u∈(Value.slice A6 (ps.length+1) q6)::(ps++[t]).flatMap VT.vals,u.ownBlock≠some g∧∀ b,(Value.slice A4 bytes.length c4).ownBlock=some b→u.ownBlock≠some b):=by
      have hx2:=he2.size;rw [size_drew',World.size_alloc] at hx2;have hgl:=hbo.out.lt;intro u hu;rcases List.mem_cons.1 hu with rfl | hu
      ·rcases HV4.out with h4 | h4
       ·rw [h4];exact hnf.out v (List.mem_cons_self ..)
       ·rw [h4,World.size_alloc]
        exact ⟨fun hh=>by injection hh with hh;omega,fun b hb hh=>by have:=(HBL.out b hb).2;injection hh with hh;omega⟩
      ·rw [List.flatMap_append] at hu
       rcases List.mem_append.1 hu with hu | hu
       ·exact hnf.out u (List.mem_cons_of_mem _ hu)
       ·rw [List.flatMap_cons,List.flatMap_nil,List.append_nil] at hu
        have h4:=fun b hb=>(hgt.out.own.block u hu b hb).1
        exact ⟨fun hh=>by have:=h4 _ hh;rw [size_drew',World.size_alloc] at this;omega,fun b hb hh=>by have:=h4 _ hh;have:=(HBL.out b hb).2;rw [size_drew',World.size_alloc] at *;omega⟩
     have D5:Hid (OwnTs W2 (w4.setCell ⟨g,2,none⟩ (.slice A6 (ps.length+1) q6)) (.slice A6 (ps.length+1) q6) (ps++[t])):=HO4.out.keep (grown_set w4 ⟨g,2,none⟩ _) (fun u hu b hb hh=>by injection hh with hh;simp at hh;subst hh;exact (NF5.out u hu).1 hb)
     have Y5:Hid (OwnL vu8 5 W2 (w4.setCell ⟨g,2,none⟩ (.slice A6 (ps.length+1) q6)) (.slice A4 bytes.length c4) bytes):=(((hby.out.ext (xd.trans he2)).ext x3).keep HG4.out (fun b hb hh=>(hnf.out v (List.mem_cons_self ..)).2 b hb hh)).keep (grown_set w4 ⟨g,2,none⟩ _) (fun b hb hh=>by injection hh with hh;simp at hh;subst hh;exact HNE.out hb)
     have E5:Hid (Ext W2 (w4.setCell ⟨g,2,none⟩ (.slice A6 (ps.length+1) q6))):=e4.setCell (p:=⟨g,2,none⟩) (by show W2.heap.size≤g;omega) _
     have S5:Hid (wc.heap.size≤(w4.setCell ⟨g,2,none⟩ (.slice A6 (ps.length+1) q6)).heap.size):=by
      have h1:=HG4.out.size;have h2:=he2.size;have h3:=hszc.out;rw [World.size_alloc] at h1;show _≤_;simp only [World.size_setCell];omega
     have N5:Hid (valsOf (ps++[t])=items.take (k+1)):=by show _=_;rw [valsOf_append,hps.out,HT.out,valsOf,valsOf,hgt.out.val]
     clear x3 bV e4 hs2'';go_wp2;go_roundw
     case rel=>exact ⟨k+1,ps++[t],_,by omega,by go_num,by simp;omega,by simp;omega,N5,D5,O5,Y5,NF5,E5.out,S5.out⟩
     case measure=>simp [intOf];omega
   ·obtain rfl:k=items.length:=by omega
    obtain ⟨A6,c6,hA6⟩:=hod.out.shape;have hpl:ps.length=items.length:=by omega
    rw [hpl] at hA6;subst hA6;have HN:Hid (valsOf ps=items):=by show _=_;rw [hps.out,List.take_length]
    have p2:=hbo.out.cell;have r2:=(HBR.out.ext he).cell;have t2:=(HBR.out.ext he).free;have hs2'':=hs2'.out;have G:=grown_put3 wr (w.heap.size+1) 0 (.mk num bytes (.slice A4 bytes.length c4) ps (.slice A6 items.length c6));have E5:Hid (Ext w (put3 wr (w.heap.size+1) 0 (.mk num bytes (.slice A4 bytes.length c4) ps (.slice A6 items.length c6)))):=(ea.trans e1).grown G (fun b hb=>by injection hb with hb;omega)
    have O5:Hid (OwnT w (put3 wr (w.heap.size+1) 0 (.mk num bytes (.slice A4 bytes.length c4) ps (.slice A6 items.length c6))) (.mk num bytes (.slice A4 bytes.length c4) ps (.slice A6 items.length c6))):=by
     have o2:=(hod.out.keep G (fun u hu b hb he=>by have:=hod.out.block u hu b hb;injection he with he;omega)).down (w0:=w) (by omega);exact .mk ((OwnL.keep hby.out G (fun b hb he=>by have:=HBL.out b hb;injection he with he;omega)).down (by omega)) o2.row o2.each
    have F5:Hid (Far (VT.vals (.mk num bytes (.slice A4 bytes.length c4) ps (.slice A6 items.length c6)))):=by
     rw [VT.vals_eq];refine Far.cons hod.out.far ?_;intro u hu b h1 h2;exact (hnf.out u hu).2 b h1 h2
    clear G hps hod hbo hby hi hs2'' hnf cB;go_wp2;exact bodyPost_ret (v:=.agg #[.int .i64 num,.slice A4 bytes.length c4,.slice A6 items.length c6]) (by simp [results,Tryz.results21,go_sem,p2,r2,t2]) rfl ⟨.mk num bytes (.slice A4 bytes.length c4) ps (.slice A6 items.length c6),rfl,⟨by rw [VT.val,HN.out];exact HDV.out,O5.out,F5.out⟩,E5.out⟩
theorem iCopy_all:∀ v,iCopyOk v:=fun v=>DVal.ind iCopy_of v
section
variable {P:Program} {ops:Array Oper} {rest:List Oper} {o:Oper} {a:Act} {Q:Exit→Act→World→Prop}
theorem wpList_appE (hgd:o.guard=none) (s x:Operand) (t:TypeId) (ho:o.op=.call { callee:=.builtin .append,args:=#[s,x],argTypes:=#[t,t] })
 {e:TypeId} {size bytes:Nat} {z:Value} (hE:Elem P t e size bytes z) (w0 w:World) (v:Value) (n:Nat) (xs:List Value) (hs:a.eval s=v) (hown:Own e size w0 w v n xs)
 (he:Ext w0 w) (news:List Value) (cs:Array Value) (hcs:cs=news.toArray) (m c g:Nat) (hx:a.eval x=.slice (some ⟨g,0,none⟩) m c) (hgw:g=w.heap.size) (hl:news.length=m*size) (h1:∀ u∈news,u.oneCell'=true)
 (hm:n+m≤maxLen) (hb:(n+m)*bytes≤140737488355328)
 (h:∀ v' w',Own e size w0 w' v' (n+m) (xs++news)→Ext w0 w'→(v'.ownBlock=v.ownBlock∨v'.ownBlock=some (w.alloc (.cells cs e)).heap.size)→(w.alloc (.cells cs e)).grownBy w' v.ownBlock→wpList P ops Q rest (a.put o.dst v') w') :
 wpList P ops Q (o::rest) a (w.alloc (.cells cs e)):=by
 subst hcs;subst hgw;refine wpList_app_any hgd s x t ho hE w0 _ v n xs hs (World.ownsRow.alloc hown _) (Ext_alloc _ he) news (some ⟨w.heap.size,0,none⟩) m c hx hl (fun _=>⟨_,rfl,fun j u hj=>?_⟩) h1 hm hb h;rw [World.cell?_alloc_at'];exact hj
end
section
variable {P:Program} {ops:Array Oper} {o:Oper} {a:Act} {Q:Exit→Act→World→Prop} {K:Act→World→Prop} {E:Prop}
end
theorem E_chg:Elem Tryz.prog 32 41 4 72 (.agg #[.string ⟨#[]⟩,.int .i64 0,.slice none 0 0,.slice none 0 0]):=⟨Tryz.underlying32,by kernel_rfl,rfl,by omega⟩
abbrev CT:=ByteArray × VT
def ccells (c:CT):List Value:=.string c.1::c.2.cells
def chOf (cs:List CT):List (ByteArray × DVal):=cs.map fun c=>(c.1,c.2.val)
def cvals (cs:List CT):List Value:=cs.flatMap fun c=>c.2.vals
structure OwnC (w0 w:World) (v:Value) (cs:List CT):Prop where
 row:Own 41 4 w0 w v cs.length (cs.flatMap ccells)
 each:∀ c∈cs,OwnT w0 w c.2
 far:Far (v::cvals cs)
theorem chOf_append (a b:List CT):chOf (a++b)=chOf a++chOf b:=by simp [chOf]
theorem chOf_len (a:List CT):(chOf a).length=a.length:=by simp [chOf]
theorem cvals_append (a b:List CT):cvals (a++b)=cvals a++cvals b:=by simp [cvals]
theorem mem_cvals {cs:List CT} {c:CT} (hc:c∈cs) {u:Value} (hu:u∈c.2.vals):u∈cvals cs:=List.mem_flatMap.2 ⟨c,hc,hu⟩
theorem OwnC.nil {w0 w:World} {v:Value} (h:Own 41 4 w0 w v 0 []):OwnC w0 w v []:=⟨h,(fun c hc=>by cases hc),Far.one _⟩
theorem OwnC.ext {w0 w w':World} {v:Value} {cs:List CT} (h:OwnC w0 w v cs) (e:Ext w w'):OwnC w0 w' v cs:=⟨h.row.ext e,fun p hp=>(h.each p hp).ext e,h.far⟩
theorem OwnC.down {w0 w1 w:World} {v:Value} {cs:List CT} (h:OwnC w1 w v cs) (e:w0.heap.size≤w1.heap.size):OwnC w0 w v cs:=⟨World.ownsRow.lower h.row e,fun p hp=>(h.each p hp).down e,h.far⟩
theorem OwnC.shape {w0 w:World} {v:Value} {cs:List CT} (h:OwnC w0 w v cs):∃ A c,v=.slice A cs.length c:=h.row.shape
theorem OwnC.block {w0 w:World} {v:Value} {cs:List CT} (h:OwnC w0 w v cs):∀ u∈v::cvals cs,∀ g,u.ownBlock=some g→w0.heap.size≤g∧g<w.heap.size:=by
 intro u hu;rcases List.mem_cons.1 hu with rfl | hu
 ·exact fun g hg=>World.ownsRow.lt h.row g hg
 ·obtain ⟨p,hp,hu⟩:=List.mem_flatMap.1 hu
  exact (h.each p hp).block u hu
theorem OwnC.keep {w0 w w':World} {v:Value} {cs:List CT} (h:OwnC w0 w v cs) {row:Option Nat} (hg:w.grownBy w' row) (hne:∀ u∈v::cvals cs,∀ g,u.ownBlock=some g→row≠some g):OwnC w0 w' v cs :=
 ⟨h.row.keep hg (hne _ (by simp)),fun p hp=>(h.each p hp).keep hg (fun u hu=>hne u (List.mem_cons_of_mem _ (mem_cvals hp hu))),h.far⟩
theorem ccells_one {w0 w:World} {cs:List CT} (h:∀ c∈cs,OwnT w0 w c.2):∀ u∈cs.flatMap ccells,u.oneCell'=true:=by
 intro u hu;obtain ⟨c,hc,hu⟩:=List.mem_flatMap.1 hu;rcases List.mem_cons.1 hu with rfl | hu
 ·rfl
 ·exact (h c hc).one u hu
theorem OwnC.join {W0 wr wb w1 w2:World} {v v' vB:Value} {cs csB:List CT} (h:OwnC W0 wr v cs) (hB:OwnC wb w1 vB csB) (e1:wr.heap.size≤wb.heap.size) (h0:W0.heap.size≤wr.heap.size) (e:Ext wr w1)
 (ho:Own 41 4 W0 w2 v' (cs.length+csB.length) (cs.flatMap ccells++csB.flatMap ccells)) (hg:w1.grownBy w2 v.ownBlock) (hv:v'.ownBlock=v.ownBlock∨v'.ownBlock=some w1.heap.size):OwnC W0 w2 v' (cs++csB):=by
 have hfar:=h.far;have hfarB:=hB.far;unfold Far at hfar hfarB;rw [List.pairwise_cons] at hfar hfarB;have hbl:=h.block;have hblB:=hB.block;have hvb:∀ g,v.ownBlock=some g→g<wr.heap.size:=fun g hg=>(hbl v (List.mem_cons_self ..) g hg).2
 refine ⟨by rw [List.length_append,List.flatMap_append];exact ho,fun c hc=>?_,?_⟩
 ·rcases List.mem_append.1 hc with hc | hc
  ·exact ((h.each c hc).ext e).keep hg (fun u hu g hg he=>hfar.1 u (mem_cvals hc hu) g he hg)
  ·refine ((hB.each c hc).keep hg (fun u hu g hg he=>?_)).down (by omega)
   have h1:=(hblB u (List.mem_cons_of_mem _ (mem_cvals hc hu)) g hg).1;have h2:=hvb g he
   omega
 ·rw [cvals_append]
  have hold:∀ u∈cvals cs,∀ g,u.ownBlock=some g→g<wr.heap.size:=fun u hu g hg=>(hbl u (List.mem_cons_of_mem _ hu) g hg).2
  have hnew:∀ u∈cvals csB,∀ g,u.ownBlock=some g→wb.heap.size≤g∧g<w1.heap.size:=fun u hu g hg=>hblB u (List.mem_cons_of_mem _ hu) g hg
  have hsz:=e.size;refine Far.cons (Far.append hfar.2 hfarB.2 (fun u hu x hx g h1 h2=>by have:=hold u hu g h1;have:=(hnew x hx g h2).1;omega)) (fun x hx g h1 h2=>?_);rcases hv with hv | hv
  ·rw [hv] at h1
   rcases List.mem_append.1 hx with hx | hx
   ·exact hfar.1 x hx g h1 h2
   ·have:=hvb g h1;have:=(hnew x hx g h2).1;omega
  ·rw [hv] at h1
   injection h1 with h1
   rcases List.mem_append.1 hx with hx | hx
   ·have:=hold x hx g h2;omega
   ·have:=(hnew x hx g h2).2;omega
theorem OwnC.snoc {W0 wr w2 w4:World} {v v':Value} {cs:List CT} {c:CT} (h:OwnC W0 wr v cs) (e2:Ext wr w2) {wb:World} (hro:OwnT wb w2 c.2) (hwb:wr.heap.size≤wb.heap.size) (hfr:Far c.2.vals) (hb:W0.heap.size≤wr.heap.size) {ds:Array Value} {T:TypeId}
 (ho4:Own 41 4 W0 w4 v' (cs.length+1) (cs.flatMap ccells++ccells c)) (hg4:(w2.alloc (.cells ds T)).grownBy w4 v.ownBlock) (hv:v'.ownBlock=v.ownBlock∨v'.ownBlock=some (w2.alloc (.cells ds T)).heap.size):OwnC W0 w4 v' (cs++[c]):=by
 have ex:=Ext_alloc (.cells ds T) (Ext.refl w2);have hsz:(w2.alloc (.cells ds T)).heap.size=w2.heap.size+1:=by simp
 have hbl:=h.block;have hfar:=h.far;unfold Far at hfar;rw [List.pairwise_cons] at hfar;have hs2:=e2.size;have hnew:∀ u∈c.2.vals,∀ g,u.ownBlock=some g→wb.heap.size≤g∧g<w2.heap.size:=fun u hu g hg=>hro.block u hu g hg
 refine ⟨by rw [List.length_append,List.flatMap_append,List.flatMap_cons,List.flatMap_nil,List.append_nil];exact ho4,fun q hq=>?_,?_⟩
 ·rcases List.mem_append.1 hq with hq | hq
  ·exact (((h.each q hq).ext e2).ext ex).keep hg4 (fun u hu g hg he=>hfar.1 u (mem_cvals hq hu) g he hg)
  ·obtain rfl:=List.mem_singleton.1 hq
   refine ((hro.ext ex).keep hg4 (fun u hu g hg he=>?_)).down (by omega);have h1:=(hnew u hu g hg).1;have h2:=(hbl v (List.mem_cons_self ..) g he).2
   omega
 ·rw [cvals_append]
  have hone:cvals [c]=c.2.vals:=by simp [cvals]
  rw [hone];have hold:∀ u∈cvals cs,∀ g,u.ownBlock=some g→g<wr.heap.size:=fun u hu g hg=>(hbl u (List.mem_cons_of_mem _ hu) g hg).2
  refine Far.cons (Far.append hfar.2 hfr (fun u hu x hx g h1 h2=>by have:=hold u hu g h1;have:=(hnew x hx g h2).1;omega)) (fun x hx g h1 h2=>?_);rcases hv with hv | hv
  ·rw [hv] at h1
   rcases List.mem_append.1 hx with hx | hx
   ·exact hfar.1 x hx g h1 h2
   ·have:=(hbl v (List.mem_cons_self ..) g h1).2;have:=(hnew x hx g h2).1;omega
  ·rw [hv,hsz] at h1
   injection h1 with h1
   rcases List.mem_append.1 hx with hx | hx
   ·have:=hold x hx g h2;omega
   ·have:=(hnew x hx g h2).2;omega
noncomputable def eqVs (a b:List DVal):Bool:=decide (a=b)
theorem eqVs_all {a b:List DVal} (hl:a.length=b.length) (h:∀ j (h1:j<a.length) (h2:j<b.length),eqV a[j] b[j]=true):eqVs a b=true:=by
 unfold eqVs;rw [decide_eq_true_eq];exact List.ext_getElem hl (fun i h1 h2=>eqV_iff.1 (h i h1 h2))
theorem eqV_num {a b:DVal} (h:(a.num !=b.num)=true):eqV a b=false:=eqV_no (by rintro rfl;simp at h)
theorem eqV_bytes {a b:DVal} (h:(a.bytes==b.bytes)=false):eqV a b=false:=eqV_no (by rintro rfl;simp at h)
theorem eqV_parts {a b:DVal} (h1:(a.num !=b.num)=false) (h2:(a.bytes==b.bytes)=true) (h3:eqVs a.items b.items=true):eqV a b=true:=by
 rw [eqV_iff];exact DVal.ext' (by simpa using h1) (by simpa using h2) (by unfold eqVs at h3;simpa using h3)
theorem Rd0.bs {w:World} {A:Option Addr} {l:List UInt8} {c:Nat} (h:Rd0 vu8 w A l c) {n:Nat} (hn:l.length≤n) (hm:n≤140737488351232):Bs w A l c:=⟨h,by omega⟩
def szCh (cs:List (ByteArray × DVal)):Nat:=(cs.map fun c=>1+szV c.2).sum
theorem szCh_append (a b:List (ByteArray × DVal)):szCh (a++b)=szCh a+szCh b:=by simp [szCh]
theorem szCh_mem {cs:List (ByteArray × DVal)} {c:ByteArray × DVal} (h:c∈cs):1+szV c.2≤szCh cs:=sum_mem (fun c:ByteArray × DVal=>1+szV c.2) cs c h
theorem szCh_len (cs:List (ByteArray × DVal)):cs.length≤szCh cs:=by
 induction cs with
 | nil=>simp
 | cons c t ih => have : szCh (c :: t) = 1 + szV c.2 + szCh t := by simp [szCh]
                  rw [this,List.length_cons];omega
theorem diffV_szCh (ds:List DRule):∀ (b:DVal) (a:DVal) (i:Nat) (p:ByteArray),szCh (diffV ds i a b p)≤1+szV b:=by
 intro b;refine DVal.ind (P:=fun b=>∀ (a:DVal) (i:Nat) (p:ByteArray),szCh (diffV ds i a b p)≤1+szV b) ?_ b;clear b;intro b ih a i p
 have hs:∀ (u:List DVal) (r:DRule) (n:Int) (k:Nat) (l:List DVal) (p:ByteArray),(∀ x∈u,x∈b.items)→szCh (diffVs ds r n k l u p)≤szVs u:=by
  intro u
  induction u with
  | nil =>
   intro r n k l p _;cases l with
   | nil=>rw [diffVs_nil];simp [szCh]
   | cons x t=>rw [diffVs];simp [szCh]
  | cons y u ihu =>
   intro r n k l p hu;cases l with
   | nil=>rw [diffVs_nil];simp [szCh]
   | cons x t =>
    rw [diffVs,szCh_append,szVs_cons];have h1:=ih y (hu y (List.mem_cons_self ..)) x (kidV r n k) (under p r k);have h2:=ihu r n (k+1) t p (fun z hz=>hu z (List.mem_cons_of_mem _ hz))
    omega
 cases he:eqV a b
 ·cases ha:alikeV a b
  ·rw [diffV_whole he ha];simp [szCh]
  ·have e:diffV ds i a b p=diffVs ds (ds.getD i noRule) a.num 0 a.items b.items p:=by
    cases a;rw [diffV,he,if_neg (by simp),ha,if_pos rfl];rfl
   rw [e];have h1:=hs b.items (ds.getD i noRule) a.num 0 a.items p (fun _ h=>h);have h2:=szVs_le_szV b
   omega
 ·rw [eqV_iff.1 he,diffV_same];simp [szCh]
structure RdC (w:World) (A:Option Addr) (cs:List (ByteArray × DVal)) (c:Nat):Prop where
 cap:cs.length≤c
 len:cs.length≤9223372036854775807
 get:∀ i (hi:i<cs.length),∃ b off Ab cb Ai ci,A=some ⟨b,off,none⟩∧b<w.heap.size∧RdV w cs[i].2 Ab cb Ai ci∧∀ (w':World),Ext w w'→∀ j,j<4 →
  w'.cell? ⟨b,off+i*4+j,none⟩=([.string cs[i].1,.int .i64 cs[i].2.num,.slice Ab cs[i].2.bytes.length cb,.slice Ai cs[i].2.items.length ci]:List Value)[j]?
theorem RdC.ext {w w':World} {A:Option Addr} {cs:List (ByteArray × DVal)} {c:Nat} (h:RdC w A cs c) (e:Ext w w'):RdC w' A cs c :=
 ⟨h.cap,h.len,fun i hi=>let ⟨b,off,Ab,cb,Ai,ci,h1,h2,h3,h4⟩:=h.get i hi;⟨b,off,Ab,cb,Ai,ci,h1,Nat.lt_of_lt_of_le h2 e.size,h3.ext e,fun w1 e1=>h4 w1 (e.trans e1)⟩⟩
theorem ccells_get:∀ (ps:List CT) (i j:Nat) (h:i<ps.length),j<4→(ps.flatMap ccells)[i*4+j]?=(ccells ps[i])[j]?:=by
 intro ps
 induction ps with
 | nil=>intro i j h;simp at h
 | cons p t ih =>
  intro i j h hj;rw [List.flatMap_cons];cases i with
  | zero =>
   rw [List.getElem?_append_left (by simp [ccells,VT.cells];omega)];simp
  | succ i =>
   rw [List.getElem?_append_right (by simp [ccells,VT.cells];omega)]
   have:(i+1)*4+j-(ccells p).length=i*4+j:=by simp [ccells,VT.cells];omega
   rw [this,ih i j (by simpa using h) hj];simp
theorem OwnC.rd {w0 w:World} {v:Value} {cs:List CT} (h:OwnC w0 w v cs) (hz:szCh (chOf cs)≤140737488351232):∃ A c,v=.slice A (chOf cs).length c∧RdC w A (chOf cs) c:=by
 have hlen:=chOf_len cs;have hl:=szCh_len (chOf cs);rcases h.row.2 with ⟨rfl,h0⟩ | ⟨g,cap,cur,rfl,hb,hg,hnc,hcm,hcs,htake⟩
 ·refine ⟨none,0,by rw [hlen,h0],⟨by omega,by omega,fun i hi=>by omega⟩⟩
 ·refine ⟨_,_,by rw [hlen],⟨by omega,by omega,fun i hi=>?_⟩⟩
  have hi':i<cs.length:=by omega
  have he:(chOf cs)[i]=(cs[i].1,cs[i].2.val):=by simp [chOf]
  rw [he];have hm:=szCh_mem (List.getElem_mem hi);rw [he] at hm;obtain ⟨Ab,cb,Ai,ci,e1,e2,hR⟩:=(h.each _ (List.getElem_mem hi')).rd (by simp only at hm;omega);refine ⟨g,0,Ab,cb,Ai,ci,rfl,(Array.getElem?_eq_some_iff.1 hg).1,hR,fun w' e j hj=>?_⟩;dsimp only;rw [Nat.zero_add,heap_row hg e,← e1,← e2,show ([.string cs[i].1,.int .i64 cs[i].2.val.num,cs[i].2.vb,cs[i].2.vi]:List Value)=ccells cs[i] by simp [ccells,VT.cells,VT.val_num],← ccells_get cs i j hi' hj,← htake,List.getElem?_take,if_pos (by omega)];simp
end Go.Proofs.YtlfhealneccdkaaGreatDoor
namespace Go.Proofs.YtlfhealneccdkaaGreatDoor
open Go.RowKit Go.Sort
open Go.Maps (Keyed)
def numV (n:Nat):Value:=.agg #[.int .i64 (n:Int)]
theorem keyOf_num {P : Program} {k e : TypeId} {f0 : Field} (hk : P.underlying k = some (.struct #[f0])) (he : P.underlying f0.type = some (.int .i64)) (hn : (f0.name != "_") = true) (ho : f0.offset = 0) (hkt : P.keyType k = true) (hc : P.cellsOf k = 1) (hce : P.cellsOf f0.type = 1)
 (hsz:0<P.types.size) {x:Int} (hx:(Lit.int .i64 x).wf=true):keyOf P k (.agg #[.int .i64 x])=some (.string (keyBytes [.int .i64 x])):=by
 have hf:(Value.agg #[.int .i64 x]).formed P k=true:=by simp [Value.formed,hk,hc]
 have hcs:(Value.agg #[.int .i64 x]).cells=#[.int .i64 x]:=rfl
 unfold keyOf;simp only [hk];rw [if_pos (by rw [hkt,hf];rfl),hcs];obtain ⟨n,hn'⟩:∃ n,P.types.size=n+1:=⟨P.types.size-1,by omega⟩;rw [hn']
 have h1:P.keyLits (n+1+1) k [.int .i64 x]=some [.int .i64 x]:=by
  have e0:P.keyLits (n+1) f0.type [.int .i64 x]=some [.int .i64 x]:=by unfold Program.keyLits;simp only [he];rw [if_pos ⟨trivial,hx⟩]
  unfold Program.keyLits;simp only [hk];rw [if_pos ⟨by rw [hc];rfl,by simp [hn]⟩];simp [List.mapM_cons,hce,e0,ho]
 simp [h1]
theorem numKey:Keyed Tryz.prog 56:=Keyed.of_law (deep_law_laid fact_laid (m:=2) (by omega) (of_decide_eq_true (by kernel_rfl)) (by kernel_rfl) (by kernel_rfl))
theorem numKeyOf (n:Nat) (hn:n≤9223372036854775807):∃ kl,keyOf Tryz.prog 56 (numV n)=some kl :=
 ⟨_,keyOf_num (e:=3) Tryz.underlying56 Tryz.underlying3 (by kernel_rfl) (by kernel_rfl) (by kernel_rfl) (by kernel_rfl) (by kernel_rfl) (of_decide_eq_true (by kernel_rfl)) (by
  have h1:IntKind.i64.min = -9223372036854775808:=by rfl
  have h2:IntKind.i64.max=9223372036854775807:=by rfl
  show (decide (IntKind.i64.min≤(n:Int))&&decide ((n:Int)≤IntKind.i64.max))=true
  rw [h1,h2,Bool.and_eq_true,decide_eq_true_eq,decide_eq_true_eq]
  omega)⟩
theorem numV_inj {m n:Nat} (h:numV m=numV n):m=n:=by
 unfold numV at h;injection h with h
 simp at h
 omega
def asIs (v:Value):Option (DataW Value × List MemPlace):=some (.held v,[])
structure NumMap (w:World) (b:Nat) (vs:List Value):Prop where
 own:∃ D:DataW Value,w.ownsMap Tryz.prog 56 asIs b vs.length D∧Maps.IsMap D∧Maps.size D=vs.length ∧
  ∀ (n:Nat) kl,n≤9223372036854775807→keyOf Tryz.prog 56 (numV n)=some kl→(∀ h:n<vs.length,∀ z,D.atKey kl z=.held vs[n])∧(vs.length≤n→Maps.has D kl=false)
theorem NumMap.lt {w:World} {b:Nat} {vs:List Value} (h:NumMap w b vs):b<w.heap.size:=by obtain ⟨D,h1,_⟩:=h.own;exact h1.lt
theorem NumMap.kept {w w':World} {b:Nat} {vs:List Value} (h:NumMap w b vs) {row:Option Nat} (hg:w.grownBy w' row) (hne:some b≠row):NumMap w' b vs:=by
 obtain ⟨D,h1,h2⟩:=h.own;exact ⟨⟨D,h1.kept hg hne,h2⟩⟩
theorem NumMap.ext {w w':World} {b:Nat} {vs:List Value} (h:NumMap w b vs) (e:Ext w w'):NumMap w' b vs:=h.kept (grown_ext e none) (by simp)
theorem NumMap.made (w:World):NumMap (w.alloc (.map #[] 0)) w.heap.size [] :=
 ⟨⟨.map [],World.ownsMap_made w _ _ _,Maps.isMap_empty,rfl,fun n kl _ _=>⟨fun h=>by simp at h,fun _=>by simp [Maps.has_eq]⟩⟩⟩
theorem NumMap.len {w:World} {b:Nat} {vs:List Value} (h:NumMap w b vs) (ty:TypeId):(Builtin.len_ #[50] ty #[.map (some b)]).run Tryz.prog w=.ok (.int .i64 (vs.length:Int)) w:=by
 obtain ⟨D,h1,_,h3,_⟩:=h.own
 have:=h1.len Tryz.underlying50 ty;rw [h3] at this;exact this
theorem zeroChg (w:World):∃ z,(zeroValue 41).run Tryz.prog w=.ok z w:=⟨.agg #[.string ⟨#[]⟩,.int .i64 0,.slice none 0 0,.slice none 0 0],by kernel_rfl⟩
theorem NumMap.look {w:World} {b:Nat} {vs:List Value} (h:NumMap w b vs) (n:Nat) (hn:n<vs.length) (hm:n≤9223372036854775807) :
 (Instr.lookup 50 (.map (some b)) (numV n) false).run Tryz.prog w=.ok vs[n] w:=by
 obtain ⟨D,h1,_,_,h4⟩:=h.own;obtain ⟨kl,hkl⟩:=numKeyOf n hm;obtain ⟨z,hz⟩:=zeroChg w;obtain ⟨v,ps,hrun,hv⟩:=h1.lookup numKey Tryz.underlying50 hz rfl hkl;rw [(h4 n kl hm hkl).1 hn] at hv;unfold asIs at hv;simp at hv
 rw [hrun,hv.1]
theorem NumMap.put {w:World} {b:Nat} {vs:List Value} (h:NumMap w b vs) (hm:vs.length<140737488351232) (u:Value) :
 ∃ w',(Instr.mapUpdate 50 (.map (some b)) (numV vs.length) u).run Tryz.prog w=.ok () w'∧NumMap w' b (vs++[u])∧w.grownBy w' (some b):=by
 obtain ⟨D,h1,h2,h3,h4⟩:=h.own;obtain ⟨kl,hkl⟩:=numKeyOf vs.length (by omega);have hnot:=(h4 vs.length kl (by omega) hkl).2 (Nat.le_refl _);obtain ⟨w',hrun,ho,hg⟩:=h1.update numKey Tryz.underlying50 (by simp only [maxLen];omega) (val:=u) hkl (d:=.held u) (ps:=[]) rfl;refine ⟨w',hrun,⟨⟨_,by rw [List.length_append];exact ho,h2.put kl _,?_,fun n kl' hn hk'=>?_⟩⟩,hg⟩
 ·rw [Maps.size_put (h1.tidy numKey),hnot,h3,List.length_append];simp
 ·by_cases hkk:kl'=kl
  ·subst hkk
   have hp:=numV_inj (numKey.inj hk' hkl);subst hp;exact ⟨fun _ z=>by rw [Maps.atKey_put_same h2 (numKey.key hkl)];simp,fun hle=>by rw [List.length_append] at hle;simp at hle;omega⟩
  ·obtain ⟨g1,g2⟩:=h4 n kl' hn hk'
   have hne:n≠vs.length:=by rintro rfl;rw [hkl] at hk';injection hk' with hk';exact hkk hk'.symm
   refine ⟨fun hlt z=>?_,fun hle=>?_⟩
   ·rw [List.length_append] at hlt
    have hlt':n<vs.length:=by simp at hlt;omega
    rw [Maps.atKey_put_other hkk,g1 hlt',List.getElem_append_left hlt']
   ·rw [List.length_append] at hle
    rw [Maps.has_put_other hkk];exact g2 (by simp at hle;omega)
def chV (c:CT):Value:=.agg #[.string c.1,.int .i64 c.2.num,c.2.vb,c.2.vi]
end Go.Proofs.YtlfhealneccdkaaGreatDoor
namespace Go.Proofs.YtlfhealneccdkaaGreatDoor
open Go.RowKit Go.Sort
theorem eqV_count {a b:DVal} (h:a.items.length≠b.items.length):eqV a b=false:=eqV_no (by rintro rfl;exact h rfl)
theorem eqV_item {a b:DVal} {k:Nat} (h1:k<a.items.length) (h2:k<b.items.length) (h:eqV a.items[k] b.items[k]=false):eqV a b=false:=eqV_no (by rintro rfl;rw [eqV_refl] at h;cases h)
theorem eqV_all {a b:DVal} (h1:(a.num !=b.num)=false) (h2:(a.bytes==b.bytes)=true) (hl:a.items.length=b.items.length) (h:∀ j (h1:j<a.items.length) (h2:j<b.items.length),eqV a.items[j] b.items[j]=true):eqV a b=true :=
 eqV_parts h1 h2 (eqVs_all hl h)
def sEqVOk (a:DVal):Prop:=∀ (b:DVal) (Ab:Option Addr) (cb:Nat) (Ai:Option Addr) (ci:Nat) (Ab':Option Addr) (cb':Nat) (Ai':Option Addr) (ci':Nat) (w:World),RdV w a Ab cb Ai ci→RdV w b Ab' cb' Ai' ci'→szV a≤140737488351232→szV b≤140737488351232 →
 Gives Tryz.prog 11 #[vval a (.slice Ab a.bytes.length cb) (.slice Ai a.items.length ci),vval b (.slice Ab' b.bytes.length cb') (.slice Ai' b.items.length ci')] w (.bool (eqV a b))
theorem sEqV_of (a:DVal) (H:∀ x∈a.items,sEqVOk x):sEqVOk a:=by
 intro b Ab cb Ai ci Ab' cb' Ai' ci' w h h' hs hs';have C1:=lhd (fun w h h'=>sEqualBytes_c Ab Ab' a.bytes b.bytes cb cb' w h h');have h1:Bs w Ab a.bytes cb:=h.b.bs (bytes_le a) hs
 have h1':Bs w Ab' b.bytes cb':=h'.b.bs (bytes_le b) hs'
 have hi:=h.i;have hi':=h'.i;have hl:=hi.len;have hl':=hi'.len;have HH:=lhd H;have HS1:Hid (∀ x∈a.items,szV x≤140737488351232):=fun x hx=>by have:=szV_item hx;omega
 have HS2:Hid (∀ x∈b.items,szV x≤140737488351232):=fun x hx=>by have:=szV_item hx;omega
 have eb:=Ext_alloc (.cells #[.int .i64 b.num,.slice Ab' b.bytes.length cb',.slice Ai' b.items.length ci'] 29) (Ext_alloc (.cells #[.int .i64 a.num,.slice Ab a.bytes.length cb,.slice Ai a.items.length ci] 29) (Ext.refl w));have BX:=fun w' (e:Ext ((w.alloc (.cells #[.int .i64 a.num,.slice Ab a.bytes.length cb,.slice Ai a.items.length ci] 29)).alloc (.cells #[.int .i64 b.num,.slice Ab' b.bytes.length cb',.slice Ai' b.items.length ci'] 29)) w')=>boxed2 e
 have B0:=fun w' e=>(BX w' e).1
 have B1:=fun w' e=>(BX w' e).2.1
 clear BX h h' H hs hs';unfold vval;cases hq:(a.num !=b.num)
 ·have HQ:=lhd hq
  cases hz:(a.bytes==b.bytes)
  ·have E:=lhd (eqV_bytes hz)
   rw [hz] at C1;clear hz;go_enter Tryz.func11,Tryz.ntmps11;go_wp2_with fail;refine (C1.out _ (h1.ext eb) (h1'.ext eb)).mono ?_;rintro _ w1 ⟨rfl,he1⟩;go_wp2;go_ret;exact ⟨ret_bool E.out.symm,eb.trans he1⟩
  ·have HZ:=lhd hz
   rw [hz] at C1;clear hz
   by_cases hn:a.items.length=b.items.length
   ·have hb1:((a.items.length:Int) !=(b.items.length:Int))=false:=by simp [hn]
    have H:=lhd hn;clear hn;go_enter Tryz.func11,Tryz.ntmps11;go_wp2_with fail;refine (C1.out _ (h1.ext eb) (h1'.ext eb)).mono ?_;rintro _ w1 ⟨rfl,he1⟩;have e1:=eb.trans he1;replace B0:=kx B0 he1;replace B1:=kx B1 he1;clear eb he1;have n0:=fun w' e=>B0 w' e 2
    have n1:=fun w' e=>B1 w' e 2
    simp only [List.getElem?_toArray,List.getElem?_cons_zero,List.getElem?_cons_succ] at n0 n1;clear B0 B1 h1 h1' C1;go_wp2;go_loopw [5] (fun i wr=>∃ k:Nat,k≤a.items.length∧i=.int .i64 k∧Hid (∀ j (h1:j<a.items.length) (h2:j<b.items.length),j<k→eqV a.items[j] b.items[j]=true)∧Ext w1 wr) (fun i _=>a.items.length-(intOf i).toNat)
    case atStart=>exact ⟨0,by omega,rfl,(fun j _ _ hj=>by omega),Ext.refl _⟩
    case round =>
     obtain ⟨k,hk,rfl,ht,he⟩:=hrel
     by_cases hlt:k<a.items.length
     ·have hlt':k<b.items.length:=by have:=H.out;omega
      obtain ⟨bb,off,A1,c1,D1,d1,rfl,hb,hS,k0,k1,k2⟩:=hi.at k hlt;obtain ⟨bb',off',A1',c1',D1',d1',rfl,hb',hS',j0,j1,j2⟩:=hi'.at k hlt';replace k0:=kx k0 e1;replace k1:=kx k1 e1;replace k2:=kx k2 e1;replace j0:=kx j0 e1;replace j1:=kx j1 e1;replace j2:=kx j2 e1;have s1:=HS1.out _ (List.getElem_mem hlt);have s2:=HS2.out _ (List.getElem_mem hlt');have NO:Hid (eqV a.items[k] b.items[k]=false→eqV a b=false):=eqV_item hlt hlt'
      have YES:Hid (eqV a.items[k] b.items[k]=true→∀ j (h1:j<a.items.length) (h2:j<b.items.length),j<k+1→eqV a.items[j] b.items[j]=true):=by
       intro hy j h1 h2 hj;rcases (by omega:j<k∨j=k) with hj | rfl
       ·exact ht.out j h1 h2 hj
       ·exact hy
      have Hk:=HH.out _ (List.getElem_mem hlt);generalize a.items[k]=r at *;generalize b.items[k]=q at *;have CE:=lhd (fun w h h'=>Hk q A1 c1 D1 d1 A1' c1' D1' d1' w h h' s1 s2);generalize eqV r q=z at *;unfold vval at CE;have H1:=lhd (fun w' (e:Ext w1 w')=>hS.ext (e1.trans e));have H2:=lhd (fun w' (e:Ext w1 w')=>hS'.ext (e1.trans e));clear s1 s2 hS hS' Hk hi hi';have HT:=ht;clear ht;go_wp2_with fail;refine wp_region_quiet_below (by kernel_rfl) (by kernel_rfl) ?_;repeat (go_big_quiet_step ((go_at_call 11;exact Calls.regrown_of (CE.out _ (H1.out _ (by first | assumption | exact Ext_regrown _ _ he)) (H2.out _ (by first | assumption | exact Ext_regrown _ _ he))))))
      refine wpQuiet_nil (qnl ?_);intro w2 ew2;have he1:=he.trans ew2;cases z
      ·have NO':=lhd (NO.out rfl);clear NO YES
       go_wp2;go_ret;exact ⟨ret_bool NO'.out.symm,e1.trans he1⟩
      ·have YES':=lhd (YES.out rfl);clear NO YES
       go_wp2;go_roundw
       case rel=>exact ⟨k+1,by omega,by go_num,YES'.out,he1⟩
       case measure=>simp [intOf];omega
     ·have hk':k=a.items.length:=by omega
      have HE:Hid (eqV a b=true):=eqV_all HQ.out HZ.out H.out (fun j h1 h2=>ht.out j h1 h2 (by omega))
      go_wp2;go_ret;exact ⟨ret_bool HE.out.symm,e1.trans he⟩
   ·have hb1:((a.items.length:Int) !=(b.items.length:Int))=true:=by simp;omega
    have E:=lhd (eqV_count hn);clear hn;go_enter Tryz.func11,Tryz.ntmps11;go_wp2_with fail;refine (C1.out _ (h1.ext eb) (h1'.ext eb)).mono ?_;rintro _ w1 ⟨rfl,he1⟩;replace B0:=kx B0 he1;replace B1:=kx B1 he1;go_wp2;go_ret;exact ⟨ret_bool E.out.symm,eb.trans he1⟩
 ·have E:=lhd (eqV_num hq);clear C1
  go_enter Tryz.func11,Tryz.ntmps11;go_wp2;go_ret;exact ⟨ret_bool E.out.symm,eb⟩
theorem sEqV_all:∀ v,sEqVOk v:=fun v=>DVal.ind sEqV_of v
def iEqVOk (a:DVal):Prop:=∀ (b:DVal) (Ab:Option Addr) (cb:Nat) (Ai:Option Addr) (ci:Nat) (Ab':Option Addr) (cb':Nat) (Ai':Option Addr) (ci':Nat) (w:World),RdV w a Ab cb Ai ci→RdV w b Ab' cb' Ai' ci'→szV a≤140737488351232→szV b≤140737488351232 →
 Gives Tryz.prog 40 #[vval a (.slice Ab a.bytes.length cb) (.slice Ai a.items.length ci),vval b (.slice Ab' b.bytes.length cb') (.slice Ai' b.items.length ci')] w (.bool (eqV a b))
theorem iEqV_of (a:DVal) (H:∀ x∈a.items,iEqVOk x):iEqVOk a:=by
 intro b Ab cb Ai ci Ab' cb' Ai' ci' w h h' hs hs';have C1:=lhd (fun w h h'=>iEqualBytes_c Ab Ab' a.bytes b.bytes cb cb' w h h');have h1:Bs w Ab a.bytes cb:=h.b.bs (bytes_le a) hs
 have h1':Bs w Ab' b.bytes cb':=h'.b.bs (bytes_le b) hs'
 have hi:=h.i;have hi':=h'.i;have hl:=hi.len;have hl':=hi'.len;have HH:=lhd H;have HS1:Hid (∀ x∈a.items,szV x≤140737488351232):=fun x hx=>by have:=szV_item hx;omega
 have HS2:Hid (∀ x∈b.items,szV x≤140737488351232):=fun x hx=>by have:=szV_item hx;omega
 have eb:=Ext_alloc (.cells #[.int .i64 b.num,.slice Ab' b.bytes.length cb',.slice Ai' b.items.length ci'] 29) (Ext_alloc (.cells #[.int .i64 a.num,.slice Ab a.bytes.length cb,.slice Ai a.items.length ci] 29) (Ext.refl w));have BX:=fun w' (e:Ext ((w.alloc (.cells #[.int .i64 a.num,.slice Ab a.bytes.length cb,.slice Ai a.items.length ci] 29)).alloc (.cells #[.int .i64 b.num,.slice Ab' b.bytes.length cb',.slice Ai' b.items.length ci'] 29)) w')=>boxed2 e
 have B0:=fun w' e=>(BX w' e).1
 have B1:=fun w' e=>(BX w' e).2.1
 clear BX h h' H hs hs';unfold vval;cases hq:(a.num !=b.num)
 ·have HQ:=lhd hq
  cases hz:(a.bytes==b.bytes)
  ·have E:=lhd (eqV_bytes hz)
   rw [hz] at C1;clear hz;go_enter Tryz.func40,Tryz.ntmps40;go_wp2_with fail;refine (C1.out _ (h1.ext eb) (h1'.ext eb)).mono ?_;rintro _ w1 ⟨rfl,he1⟩;go_wp2;go_ret;exact ⟨ret_bool E.out.symm,eb.trans he1⟩
  ·have HZ:=lhd hz
   rw [hz] at C1;clear hz
   by_cases hn:a.items.length=b.items.length
   ·have hb1:((a.items.length:Int) !=(b.items.length:Int))=false:=by simp [hn]
    have H:=lhd hn;clear hn;go_enter Tryz.func40,Tryz.ntmps40;go_wp2_with fail;refine (C1.out _ (h1.ext eb) (h1'.ext eb)).mono ?_;rintro _ w1 ⟨rfl,he1⟩;have e1:=eb.trans he1;replace B0:=kx B0 he1;replace B1:=kx B1 he1;clear eb he1;have n0:=fun w' e=>B0 w' e 2
    have n1:=fun w' e=>B1 w' e 2
    simp only [List.getElem?_toArray,List.getElem?_cons_zero,List.getElem?_cons_succ] at n0 n1;clear B0 B1 h1 h1' C1;go_wp2;go_loopw [31] (fun i wr=>∃ k:Nat,k≤a.items.length∧i=.int .i64 k∧Hid (∀ j (h1:j<a.items.length) (h2:j<b.items.length),j<k→eqV a.items[j] b.items[j]=true)∧Ext w1 wr) (fun i _=>a.items.length-(intOf i).toNat)
    case atStart=>exact ⟨0,by omega,rfl,(fun j _ _ hj=>by omega),Ext.refl _⟩
    case round =>
     obtain ⟨k,hk,rfl,ht,he⟩:=hrel
     by_cases hlt:k<a.items.length
     ·have hlt':k<b.items.length:=by have:=H.out;omega
      obtain ⟨bb,off,A1,c1,D1,d1,rfl,hb,hS,k0,k1,k2⟩:=hi.at k hlt;obtain ⟨bb',off',A1',c1',D1',d1',rfl,hb',hS',j0,j1,j2⟩:=hi'.at k hlt';replace k0:=kx k0 e1;replace k1:=kx k1 e1;replace k2:=kx k2 e1;replace j0:=kx j0 e1;replace j1:=kx j1 e1;replace j2:=kx j2 e1;have s1:=HS1.out _ (List.getElem_mem hlt);have s2:=HS2.out _ (List.getElem_mem hlt');have NO:Hid (eqV a.items[k] b.items[k]=false→eqV a b=false):=eqV_item hlt hlt'
      have YES:Hid (eqV a.items[k] b.items[k]=true→∀ j (h1:j<a.items.length) (h2:j<b.items.length),j<k+1→eqV a.items[j] b.items[j]=true):=by
       intro hy j h1 h2 hj;rcases (by omega:j<k∨j=k) with hj | rfl
       ·exact ht.out j h1 h2 hj
       ·exact hy
      have Hk:=HH.out _ (List.getElem_mem hlt);generalize a.items[k]=r at *;generalize b.items[k]=q at *;have CE:=lhd (fun w h h'=>Hk q A1 c1 D1 d1 A1' c1' D1' d1' w h h' s1 s2);generalize eqV r q=z at *;unfold vval at CE;have H1:=lhd (fun w' (e:Ext w1 w')=>hS.ext (e1.trans e));have H2:=lhd (fun w' (e:Ext w1 w')=>hS'.ext (e1.trans e));clear s1 s2 hS hS' Hk hi hi';have HT:=ht;clear ht;go_wp2_with fail;refine wp_region_quiet_below (by kernel_rfl) (by kernel_rfl) ?_;repeat (go_big_quiet_step ((go_at_call 40;exact Calls.regrown_of (CE.out _ (H1.out _ (by first | assumption | exact Ext_regrown _ _ he)) (H2.out _ (by first | assumption | exact Ext_regrown _ _ he))))))
      refine wpQuiet_nil (qnl ?_);intro w2 ew2;have he1:=he.trans ew2;cases z
      ·have NO':=lhd (NO.out rfl);clear NO YES
       go_wp2;go_ret;exact ⟨ret_bool NO'.out.symm,e1.trans he1⟩
      ·have YES':=lhd (YES.out rfl);clear NO YES
       go_wp2;go_roundw
       case rel=>exact ⟨k+1,by omega,by go_num,YES'.out,he1⟩
       case measure=>simp [intOf];omega
     ·have hk':k=a.items.length:=by omega
      have HE:Hid (eqV a b=true):=eqV_all HQ.out HZ.out H.out (fun j h1 h2=>ht.out j h1 h2 (by omega))
      go_wp2;go_ret;exact ⟨ret_bool HE.out.symm,e1.trans he⟩
   ·have hb1:((a.items.length:Int) !=(b.items.length:Int))=true:=by simp;omega
    have E:=lhd (eqV_count hn);clear hn;go_enter Tryz.func40,Tryz.ntmps40;go_wp2_with fail;refine (C1.out _ (h1.ext eb) (h1'.ext eb)).mono ?_;rintro _ w1 ⟨rfl,he1⟩;replace B0:=kx B0 he1;replace B1:=kx B1 he1;go_wp2;go_ret;exact ⟨ret_bool E.out.symm,eb.trans he1⟩
 ·have E:=lhd (eqV_num hq);clear C1
  go_enter Tryz.func40,Tryz.ntmps40;go_wp2;go_ret;exact ⟨ret_bool E.out.symm,eb⟩
theorem iEqV_all:∀ v,iEqVOk v:=fun v=>DVal.ind iEqV_of v
def hxD (n:Nat):UInt8:=if n<10 then UInt8.ofNat (48+n) else UInt8.ofNat (87+n)
def hxL (l:List UInt8):List UInt8:=l.flatMap fun c=>[hxD (c.toNat / 16),hxD (c.toNat%16)]
def hxB (l:List UInt8):ByteArray:=⟨(hxL l).toArray⟩
theorem hxL_len (l:List UInt8):(hxL l).length=2*l.length:=by
 unfold hxL
 induction l with
 | nil=>rfl
 | cons a s ih=>simp only [List.flatMap_cons,List.length_append,List.length_cons,List.length_nil] at *;omega
theorem hxL_snoc (l:List UInt8) (c:UInt8):hxL (l++[c])=hxL l++[hxD (c.toNat / 16),hxD (c.toNat%16)]:=by unfold hxL;simp
def hexDigs:ByteArray:=⟨#[48,49,50,51,52,53,54,55,56,57,97,98,99,100,101,102]⟩
theorem hexDigs_get:∀ (a:Nat) (h:a<16) (h':a<(⟨#[48,49,50,51,52,53,54,55,56,57,97,98,99,100,101,102]⟩:ByteArray).size),(⟨#[48,49,50,51,52,53,54,55,56,57,97,98,99,100,101,102]⟩:ByteArray)[a]'h'=hxD a:=fun a h h'=>by
 have:∀ a:Fin 16,(⟨#[48,49,50,51,52,53,54,55,56,57,97,98,99,100,101,102]⟩:ByteArray)[a.val]'(by have:=a.isLt;show _<16;omega)=hxD a.val:=by decide
 exact this ⟨a,h⟩
theorem and15:∀ x:Fin 256,bits BinOp.and IntKind.u8 ((x.val:Nat):Int) 15=((x.val%16:Nat):Int):=by decide +kernel
theorem iFormatHex_c (A:Option Addr) (l:List UInt8) (c:Nat) (w:World) (h:Bs w A l c) (hL:l.length≤1099511627776) :
 Gives Tryz.prog 83 #[.slice A l.length c] w (.string (hxB l)):=by
 have HH:=lhd h;clear h;go_enter Tryz.func83,Tryz.ntmps83;go_wp2_with (at_make;go_must (refine wpList_mk0 rfl _ _ _ rfl E_u8 w w (Ext.refl w) (2*l.length) rfl (by go_num) (by omega) (by simp [maxLen];omega) ?_);intro w1 ho he)
 have HO:Hid (OwnL vu8 5 w w1 (.slice (some ⟨w.heap.size,0,none⟩) 0 (2*l.length)) (hxL (l.take 0))):=ho
 clear ho;go_loopw [12,3] (fun i s wr=>∃ k:Nat,k≤l.length∧i=.int .i64 k∧OwnL vu8 5 w wr s (hxL (l.take k))∧Ext w wr) (fun i _ _=>l.length-(intOf i).toNat)
 case atStart=>exact ⟨0,by omega,rfl,HO.out,he⟩
 case round =>
  clear he HO;obtain ⟨k,hk,rfl,ho,he⟩:=hrel
  by_cases hlt:k<l.length
  ·obtain ⟨b,off,rfl,hb,hc⟩:=HH.out.at k hlt
   have hT:Hid (hxL (l.take (k+1))=hxL (l.take k)++[hxD (l[k].toNat / 16),hxD (l[k].toNat%16)]):=by
    show _=_
    rw [List.take_succ_eq_append_getElem hlt,hxL_snoc]
   have hsz:(hxL (l.take k)).length=2*k:=by rw [hxL_len,List.length_take];omega
   have HSZ:=lhd hsz;clear hsz;have HO:=lhd ho;clear ho;generalize hxL (l.take k)=s at *;obtain ⟨x,hx⟩:∃ x:Nat,l[k].toNat=x:=⟨_,rfl⟩;have hx2:x<256:=by rw [← hx];exact l[k].toNat_lt
   have hcx:∀ w',Ext w w'→w'.cell? ⟨b,off+k,none⟩=some (.int .u8 (x:Int)):=fun w' e=>by rw [hc w' e,vu8,hx]
   rw [hx] at hT;clear hc hx;have b1:(k:Int)<(l.length:Int):=by omega
   have cw:=hcx wr he;have hr:=and15 ⟨x,hx2⟩;have hq:(x:Int) / 16=((x / 16:Nat):Int):=by omega
   dsimp only at hr;obtain ⟨a,ha⟩:∃ a,x / 16=a:=⟨_,rfl⟩;obtain ⟨m,hm⟩:∃ m,x%16=m:=⟨_,rfl⟩;have ha2:a<16:=by omega
   have hm2:m<16:=by omega
   rw [ha] at hq hT;rw [hm] at hr hT;have ga:=fun h'=>hexDigs_get a ha2 h'
   have gm:=fun h'=>hexDigs_get m hm2 h'
   have a3:(a:Int)<16:=by omega
   have m3:(m:Int)<16:=by omega
   clear ha hm;obtain ⟨A3,c3,hv3,r3⟩:=OwnL.rd HO.out (by have:=HSZ.out;omega);subst hv3;clear r3;have hd:=Ext_drew (Ext.refl wr);go_wp2_with fail
   go_region_law (first
    | (refine step_appN rfl (.tmp 16) (.tmp 23) _ rfl E_u8 (by omega) w wr.drew _ vu8 (fun _=>rfl) _ rfl 2 2 rfl s [hxD a,hxD m] _ rfl rfl (HO.out.ext hd) (he.trans hd) rfl (by have:=HSZ.out;simp;omega) ?_;intro v4 w4 ho4 he4;have HO4:=lhd ho4;clear ho4))
   all_goals
    go_wp2;go_roundw
    case rel=>exact ⟨k+1,by omega,by go_num,by rw [hT.out];exact HO4.out,he4⟩
    case measure=>simp [intOf];omega
  ·obtain rfl:k=l.length:=by omega
   rw [List.take_length] at ho;obtain ⟨A5,c5,rfl,r5⟩:=OwnL.rd ho (by rw [hxL_len];omega);have kc:=fun w' e=>conv_bytes (w':=w') r5 e
   have kc0:=kc wr (Ext.refl _);clear kc;go_wp2;go_ret;exact ⟨rfl,he⟩
def mnH (n m i:Nat):Nat:=if i+m<n then i+m else n
def lineAt (l:List UInt8) (m i:Nat):ByteArray:=itoaB (i:Int)++⟨#[58,32]⟩++hxB ((l.drop i).take (mnH l.length m i-i))
def nH (n m:Nat):Nat:=(n+m-1) / m
def linesH (l:List UInt8) (m k:Nat):List ByteArray:=(List.range k).map fun j=>lineAt l m (j*m)
def hexLs (l:List UInt8) (wd:Int):List ByteArray:=if 1≤wd∧wd≤64 then linesH l wd.toNat (nH l.length wd.toNat) else []
theorem hxB_size (l:List UInt8):(hxB l).size=2*l.length:=by
 show (hxL l).toArray.size=_
 rw [List.size_toArray,hxL_len]
def jn (l:List ByteArray):ByteArray:=⟨(Lib.join (l.map (·.data.toList)) (⟨#[44]⟩:ByteArray).data.toList).toArray⟩
theorem lens_cons (a:List UInt8) (b:List (List UInt8)):Lib.lens (a::b)=a.length+Lib.lens b:=by simp [Lib.lens]
theorem jn_size:∀ (l:List ByteArray),(jn l).size≤(l.map fun s=>s.size+1).sum
 | []=>by
  show (Lib.join ([]:List (List UInt8)) _).toArray.size≤_
  rw [Lib.join_nil];exact Nat.zero_le _
 | x::r=>by
  show (Lib.join (x.data.toList::r.map (·.data.toList)) (⟨#[44]⟩:ByteArray).data.toList).toArray.size≤(x.size+1)+(r.map fun s=>s.size+1).sum
  rw [List.size_toArray,Lib.join_length];have hsl:(⟨#[44]⟩:ByteArray).data.toList.length=1:=rfl
  have h:∀ t:List ByteArray,1*t.length+Lib.lens (t.map (·.data.toList))=(t.map fun s=>s.size+1).sum:=by
   intro t
   induction t with
   | nil=>rfl
   | cons y u ih =>
    show 1*(u.length+1)+Lib.lens (y.data.toList::u.map (·.data.toList))=(y.size+1)+(u.map fun s=>s.size+1).sum
    have hy:y.data.toList.length=y.size:=Array.length_toList
    rw [← ih,lens_cons,hy]
    omega
  have hx:x.data.toList.length=x.size:=Array.length_toList
  rw [hsl,← h r,lens_cons,hx,List.length_map]
  omega
theorem iJoinL_c (A:Option Addr) (l:List ByteArray) (c:Nat) (w:World) (h:Rd vstr w A l c) (hz:(jn l).size≤140737488355328) :
 Gives Tryz.prog 81 #[.slice A l.length c,.string ⟨#[44]⟩] w (.string (jn l)):=by
 by_cases hl:l.length=0
 ·obtain rfl:l=[]:=List.eq_nil_of_length_eq_zero hl
  have C:=lhd (Tryz.strings_Join_none A c ⟨#[44]⟩ w);have hj:jn []=⟨#[]⟩:=by show (⟨(Lib.join ([]:List (List UInt8)) _).toArray⟩:ByteArray)=_;rw [Lib.join_nil]
  rw [hj];clear h hz hj;go_enter Tryz.func81,Tryz.ntmps81;go_wp2_with fail;refine C.out.mono ?_;rintro _ w1 ⟨rfl,rfl⟩;go_wp2;go_ret;exact ⟨rfl,Ext.refl _⟩
 ·obtain ⟨b,off,rfl,hb,hc⟩:=h.base (by omega)
  have hln:l.length≤140737488355328:=by have:=h.len;omega
  have hcp:l.length≤c:=h.cap
  have C:=lhd (Tryz.strings_Join b off c l ⟨#[44]⟩ w (fun j x hx=>by
   obtain ⟨hj,rfl⟩:=List.getElem?_eq_some_iff.1 hx
   exact hc w (Ext.refl _) j hj) hb hln hcp (by
    have:(jn l).size=(Lib.join (l.map (·.data.toList)) (⟨#[44]⟩:ByteArray).data.toList).length:=by show (Lib.join (l.map (·.data.toList)) (⟨#[44]⟩:ByteArray).data.toList).toArray.size=_;rw [List.size_toArray]
    omega))
  show Gives _ _ _ _ (.string ⟨(Lib.join (l.map (·.data.toList)) (⟨#[44]⟩:ByteArray).data.toList).toArray⟩)
  clear h hz hc;go_enter Tryz.func81,Tryz.ntmps81;go_wp2_with fail;refine C.out.mono ?_;rintro _ w1 ⟨rfl,he⟩;go_wp2;go_ret;exact ⟨rfl,he⟩
def ofB (n m:Nat):Array Bool:=((List.range n).map m.testBit).toArray
section
variable {P:Program} {ops:Array Oper} {Q:Exit→Act→World→Prop} {md:Region.Mode} {S:World→Prop}
theorem tkH {i:Nat} (d:Option Nat) {oi:Oper} {v:Value} {fuel:Nat} {listed:Array Bool} (l':Array Bool) {a:Act} {w:World} (hi:ops[i]?=some oi) (hd:oi.dst=d)
 (hb:(Region.noSelect ops&&Region.free md ops listed i&&(Region.ready md ops listed).contains i)=true) (hl:listed.setIfInBounds i true=l') (hS:S w) (hy:YieldsIf P ops S oi v a)
 (h:wpAnyH P md ops Q S fuel l' (a.put d v) w) (hQ:∀ c a w,Q (.panic c) (a.put d v) w→Q (.panic c) a w:=by exact fun _ _ _ h=>h):wpAnyH P md ops Q S (fuel+1) listed a w:=by
 subst hd;subst hl;simp only [Bool.and_eq_true] at hb;exact wpAnyH_take hi hb.1.1 hb.1.2 hb.2 hQ hy hS h
theorem oneH {i:Nat} (d:Option Nat) {o:Oper} {fuel:Nat} {listed:Array Bool} (l':Array Bool) {a:Act} {w:World} (hr:Region.ready md ops listed=[i]) (ho:ops[i]?=some o) (hd:o.dst=d) (hl:listed.setIfInBounds i true=l')
 (h:∀ K:Act→World→Prop,Shut (∀ a w,S w→wpAnyH P md ops Q S fuel l' a w→K a w)→if Region.wanted { o with dst:=d } (yielded ops a.tmps)=true then Oper.wp P { o with dst:=d } a w K Q else K (a.put d undef) w):wpAnyH P md ops Q S (fuel+1) listed a w:=by
 subst hd;subst hl;refine ⟨fun h0=>(by rw [h0] at hr;cases hr),fun j hj=>?_⟩;rw [hr,List.mem_singleton] at hj;subst hj;exact wpOp_step ho (fun K' hK=>h K' (fun a w hC hW=>hK a w ⟨hC,hW⟩))
theorem wp_region_HD {id:Nat} {a:Act} {w:World} (l':Array Bool) (hl:Array.replicate ops.size false=l') (hm:P.follows .mixedOrders=true) (h:wpAnyH P .any ops Q S ops.size l' a w.drew):(Code.region id ops true).wp P Q a w:=by
 subst hl;exact wp_region_held hm h
end
theorem tkI {P:Program} {ops:Array Oper} {Q:Exit→Act→World→Prop} {md:Region.Mode} {S:World→Prop} {i:Nat} (d:Option Nat) {oi:Oper} {v:Value} {fuel:Nat} {listed:Array Bool} (l':Array Bool) {a:Act} {w:World} (hi:ops[i]?=some oi) (hd:oi.dst=d) (hS:S w) (hy:∀ w,S w→(execOp a.eval oi).run P w=.ok (.value v) w) (h:wpAnyH P md ops Q S fuel l' (a.put d v) w) (hb:(Region.noSelect ops&&Region.free md ops listed i&&(Region.ready md ops listed).contains i)=true:=by kernel_rfl) (hl:listed.setIfInBounds i true=l':=by kernel_rfl) (hw:Region.wanted oi (yielded ops a.tmps)=true:=by rfl) (hQ:∀ c a w,Q (.panic c) (a.put d v) w→Q (.panic c) a w:=by exact fun _ _ _ h=>h):wpAnyH P md ops Q S (fuel+1) listed a w:=tkH d l' hi hd hb hl hS (Or.inl ⟨hw,hy⟩) h hQ
section
variable {P:Program} {ops:Array Oper} {o:Oper} {a:Act} {Q:Exit→Act→World→Prop} {K:Act→World→Prop} {E:Prop}
end
section
variable {P:Program} {ops:Array Oper} {Q:Exit→Act→World→Prop} {md:Region.Mode} {S:World→Prop}
theorem twoH {i j:Nat} (di dj:Option Nat) {oi oj:Oper} {fuel:Nat} {listed:Array Bool} (li lj:Array Bool) {a:Act} {w:World} (hr:Region.ready md ops listed=[i,j])
 (hoi:ops[i]?=some oi) (hdi:oi.dst=di) (hli:listed.setIfInBounds i true=li) (hoj:ops[j]?=some oj) (hdj:oj.dst=dj) (hlj:listed.setIfInBounds j true=lj)
 (h1:∀ K:Act→World→Prop,Shut (∀ a w,S w→wpAnyH P md ops Q S fuel li a w→K a w)→if Region.wanted { oi with dst:=di } (yielded ops a.tmps)=true then Oper.wp P { oi with dst:=di } a w K Q else K (a.put di undef) w)
 (h2:∀ K:Act→World→Prop,Shut (∀ a w,S w→wpAnyH P md ops Q S fuel lj a w→K a w)→if Region.wanted { oj with dst:=dj } (yielded ops a.tmps)=true then Oper.wp P { oj with dst:=dj } a w K Q else K (a.put dj undef) w):wpAnyH P md ops Q S (fuel+1) listed a w:=by
 subst hdi;subst hli;subst hdj;subst hlj;refine ⟨fun h0=>(by rw [h0] at hr;cases hr),fun k hk=>?_⟩;rw [hr] at hk;simp only [List.mem_cons,List.not_mem_nil,or_false] at hk;rcases hk with rfl | rfl
 ·exact wpOp_step hoi (fun K' hK=>h1 K' (fun a w hC hW=>hK a w ⟨hC,hW⟩))
 ·exact wpOp_step hoj (fun K' hK=>h2 K' (fun a w hC hW=>hK a w ⟨hC,hW⟩))
end
end Go.Proofs.YtlfhealneccdkaaGreatDoor
namespace Go.Proofs.YtlfhealneccdkaaGreatDoor
open Go.RowKit
noncomputable def laidWorld (os:Os):World :=
 { World.holding Tryz.prog os ⟨#[],#[],[]⟩ with heap:=((((World.holding Tryz.prog os ⟨#[],#[],[]⟩).heap.modify 2 fun
  | .cells _ t frozen=>.cells #[.int .u8 0,.int .u8 1,.int .u8 28,.int .u8 2,.int .u8 29,.int .u8 14,.int .u8 24,.int .u8 3,.int .u8 30,.int .u8 22,.int .u8 20,.int .u8 15,.int .u8 25,.int .u8 17,.int .u8 4,.int .u8 8,.int .u8 31,.int .u8 27,.int .u8 13,.int .u8 23,.int .u8 21,.int .u8 19,.int .u8 16,.int .u8 7,.int .u8 26,.int .u8 12,.int .u8 18,.int .u8 6,.int .u8 11,.int .u8 5,.int .u8 10,.int .u8 9] t frozen
  | o=>o).modify 3 fun
  | .cells _ t frozen=>.cells #[.int .u8 0,.int .u8 1,.int .u8 56,.int .u8 2,.int .u8 57,.int .u8 49,.int .u8 28,.int .u8 3,.int .u8 61,.int .u8 58,.int .u8 42,.int .u8 50,.int .u8 38,.int .u8 29,.int .u8 17,.int .u8 4,.int .u8 62,.int .u8 47,.int .u8 59,.int .u8 36,.int .u8 45,.int .u8 43,.int .u8 51,.int .u8 22,.int .u8 53,.int .u8 39,.int .u8 33,.int .u8 30,.int .u8 24,.int .u8 18,.int .u8 12,.int .u8 5,.int .u8 63,.int .u8 55,.int .u8 48,.int .u8 27,.int .u8 60,.int .u8 41,.int .u8 37,.int .u8 16,.int .u8 46,.int .u8 35,.int .u8 44,.int .u8 21,.int .u8 52,.int .u8 32,.int .u8 23,.int .u8 11,.int .u8 54,.int .u8 26,.int .u8 40,.int .u8 15,.int .u8 34,.int .u8 20,.int .u8 31,.int .u8 10,.int .u8 25,.int .u8 14,.int .u8 19,.int .u8 9,.int .u8 13,.int .u8 8,.int .u8 7,.int .u8 6] t frozen
  | o=>o).modify 0 fun
  | .cells _ t frozen=>.cells #[.int .u64 1,.int .u64 10,.int .u64 100,.int .u64 1000,.int .u64 10000,.int .u64 100000,.int .u64 1000000,.int .u64 10000000,.int .u64 100000000,.int .u64 1000000000,.int .u64 10000000000,.int .u64 100000000000,.int .u64 1000000000000,.int .u64 10000000000000,.int .u64 100000000000000,.int .u64 1000000000000000,.int .u64 10000000000000000,.int .u64 100000000000000000,.int .u64 1000000000000000000,.int .u64 10000000000000000000] t frozen
  | o=>o) }
def doorList : List (String × DataW Unit) := [("math/bits.deBruijn32tab", Rows.laid_math_bits_deBruijn32tab), ("math/bits.deBruijn64tab", Rows.laid_math_bits_deBruijn64tab), ("internal/strconv.uint64pow10", Rows.laid_internal_strconv_uint64pow10)]
theorem gTab : Tryz.prog.globalNamed "internal/strconv.uint64pow10" = some 0 := by kernel_rfl
theorem gTabType:(Tryz.prog.globals[0]?).map (·.type)=some 158:=by kernel_rfl
theorem cellsTab:Tryz.prog.cellsOf 158=20:=by kernel_rfl
theorem cellsU64:Tryz.prog.cellsOf 149=1:=by kernel_rfl
theorem tab_of_laid {W:World} (h:laidMetH Tryz.prog doorList W):Tab W:=by
 have h0:laidMet Tryz.prog doorList W:=h
 have h1 : laidMet Tryz.prog [("internal/strconv.uint64pow10", Lib.tabData .u64 Lib.pow10Tab)] W := h0.tail.tail
 exact Lib.tabIs_of_head (rest:=[]) gTab gTabType Tryz.underlying158 Tryz.underlying149 cellsU64 cellsTab h1
end Go.Proofs.YtlfhealneccdkaaGreatDoor
