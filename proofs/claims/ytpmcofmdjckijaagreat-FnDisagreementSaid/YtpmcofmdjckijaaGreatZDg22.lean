/- Texts, laid into one. -/
import Derived.JoinedOf
import Derived.KernelRfl
import Derived.ProofKit
import Derived.OpenShut
import Derived.ShutString
import Derived.ChangeOld
import Derived.Deep.Fields
import Derived.Test.YtpmcofmdjckijaaGreatZDg20
import Derived.Test.YtpmcofmdjckijaaGreatZDg15
set_option linter.unusedVariables false
set_option linter.unusedSimpArgs false
set_option maxRecDepth 100000
set_option maxHeartbeats 16000000
namespace Go.Proofs.YtpmcofmdjckijaaGreat
theorem and_:∀ {a b:Bool},a=true→b=true→(a&&b)=true
 | true,true,_,_=>rfl
def ioL:List Char:=List.map Char.ofNat [104,97,114,110,101,115,115,32,102,57,54,49,53,99,49,48,101,52,97,48,57,50,57,53,53,97,51,97,98,50,102,50,101,56,50,100,99,102,55,97,56,57,57,56,50,57,97,54,52,54,56,55,53,102,97,49,49,101,53,52,54,97,99,101,101,100,100,50,53,49,97,101,32,99,117,116,32,97,116,32,108,111,111,112,46,101,120,97,109,112,108,101,47,103,48,48,53,49,56,47,108,97,119,115,46,70,110,68,105,115,97,103,114,101,101,109,101,110,116,32,108,111,111,112,46,101,120,97,109,112,108,101,47,103,48,48,53,49,56,47,108,97,119,115,46,70,110,69,120,97,99,116,80,105,101,99,101,115,65,103,114,101,101]
def cutW:List Char:=List.map Char.ofNat [99,117,116]
theorem io_eq:Tryz.prog.initOrder=String.ofList ioL:=by
 unfold Tryz.prog;dsimp only [Tryz.progTables]
 kernel_rfl
theorem io_list:Tryz.prog.initOrder.toList=ioL:=by rw [io_eq,String.toList_ofList]
theorem io_words:behindMainWord (wordsSigns ioL)=cutW::(behindMainWord (wordsSigns ioL)).tail:=by kernel_rfl
theorem io_strip (rest:List (List Char)):stripLifts liftWords (cutW::rest)=([],cutW::rest):=by kernel_rfl
theorem cut_gc : (cutW == "gc".toList || cutW == "spec".toList) = false := by kernel_rfl
theorem cut_carried : (cutW == "carried".toList) = false := by kernel_rfl
theorem cut_carried' : (some cutW == some "carried".toList) = false := by kernel_rfl
theorem cut_cut : (some cutW == some "cut".toList) = true := by kernel_rfl
theorem cut_cut' : (cutW == "cut".toList) = true := by kernel_rfl
theorem no_later:Tryz.prog.laysLater=false:=by kernel_rfl
theorem no_reflect:Tryz.prog.bearsReflect=false:=by kernel_rfl
theorem door_fits:Tryz.prog.doorFits []=true:=by kernel_rfl
section
variable {P:Program} {rest:List (List Char)} (h:behindMainWord (wordsSigns P.initOrder.toList)=cutW::rest)
include h
theorem head_lifts_of:P.headLifts=[]:=by
 unfold Program.headLifts;rw [h,io_strip];simp only [List.head?_cons,cut_cut,if_true]
theorem enter_of (h1:P.laysLater=false) (h2:P.bearsReflect=false) (h3:P.doorFits []=true):P.mayEnter=true:=by
 unfold Program.mayEnter;rw [h];simp only [io_strip,cut_gc,cut_carried,cut_cut,h1,h2,h3,List.head?_cons,Bool.false_and,Bool.false_or,Bool.not_false,Bool.and_true,Bool.or_true,List.contains_nil]
theorem final_of:P.liftsFinal=false:=by
 unfold Program.liftsFinal;rw [head_lifts_of h,h];simp only [List.head?_cons,cut_carried',Bool.false_and,Bool.false_or,List.contains_nil]
theorem make_of:P.make=some .cut:=by
 unfold Program.make;rw [h];simp only [cut_gc,cut_cut',Bool.true_or,if_true]
 rfl
end
theorem io_head:behindMainWord (wordsSigns Tryz.prog.initOrder.toList)=cutW::(behindMainWord (wordsSigns ioL)).tail:=by rw [io_list];exact io_words
theorem fact_enter:Tryz.prog.mayEnter=true:=enter_of io_head no_later no_reflect door_fits
theorem fact_final:Tryz.prog.liftsFinal=false:=final_of io_head
theorem fact_make:Tryz.prog.make=some .cut:=make_of io_head
theorem fact_final':(false==Tryz.prog.liftsFinal)=true:=by rw [fact_final];rfl
theorem fact_make':(Tryz.prog.make==some Make.cut)=true:=by rw [fact_make];kernel_rfl
theorem fact_laid:laidOutB Tryz.prog=true:=by kernel_rfl
theorem fact_maps:mapsRowed Tryz.prog=true:=by kernel_rfl
theorem fact_stops:(Tryz.prog.stops==[])=true:=by kernel_rfl
theorem fact_knobs:(Tryz.prog.stopKnobs==[])=true:=by kernel_rfl
theorem fact_heard:Tryz.prog.stopsHeard=true:=by kernel_rfl
end Go.Proofs.YtpmcofmdjckijaaGreat
namespace Go.Proofs.YtpmcofmdjckijaaGreat
open Go.ChangeShapes Go.WideShapes Go.ChangeAt Go.RowKit Go.Deep
theorem own:ownKnob Tryz.prog.godebug=none:=by kernel_rfl
theorem laidOut:laidOutB Tryz.prog=true:=fact_laid
theorem rd0_of_cells {α:Type} {f:α→Value} {W:World} {x:Addr} {l:List α} {c:Nat} (hc0:l.length≤c) (hl:l.length≤9223372036854775807) (hc:∀ i (h:i<l.length),W.cell? (x.add i)=some (f l[i])):Rd0 f W (some x) l c:=by
 refine ⟨hc0,hl,fun hp=>?_⟩;obtain ⟨b,off,spot⟩:=x;have h0:=hc 0 hp;have hspot:spot=none:=by simpa [Addr.add] using World.cell?_spot h0
 subst hspot;refine ⟨b,off,rfl,?_,fun w' e i hi=>?_⟩
 ·have:=block_lt_of_cell h0;simpa [Addr.add] using this
 ·have h1:=hc i hi
  have hadd:(⟨b,off,none⟩:Addr).add i=⟨b,off+i,none⟩:=by unfold Addr.add;split<;>simp_all
  rw [hadd] at h1;exact (Below.cell e (by simpa using block_lt_of_cell h1)).trans h1
section
variable {H:Type} {enc:TypeId × Value→H} {W:World} {base:Nat} {spare:Nat→Bool} {held:Bool}
theorem in_bytes {T E:TypeId} (hT:Tryz.prog.underlying T=some (.slice E)) (hE:Tryz.prog.underlying E=some (.int .u8)) (hC:Tryz.prog.cellsOf E=1)
 {n:Nat} {v:Value} {y:DataW H × List MemPlace} (h:DataW.trod enc Tryz.prog W base spare held n T [v]=some y) :
 ∃ (A:Option Addr) (l:List UInt8) (c:Nat),v=.slice A l.length c∧Rd0 vu8 W A l c:=by
 rcases open_ints hT hE hC h with ⟨hcs,_⟩ | ⟨x,len,c,zs,hcs,_,hl,hm,hz,_,hcell,hwz⟩
 ·obtain rfl:v=.slice none 0 0:=by simpa using hcs
  exact ⟨none,[],0,rfl,by simp,by simp,fun h=>by simp at h⟩
 ·obtain rfl:v=.slice (some x) len c:=by simpa using hcs
  have hlz:len≤zs.length:=by rw [hz];split<;>omega
  refine ⟨some x,(zs.take len).map (fun z=>UInt8.ofNat z.toNat),c,by simp;omega,rd0_of_cells (by simp;omega) (by simp [maxLen] at hm ⊢;omega) fun i hi=>?_⟩;have hi':i<len:=by simp at hi;omega
  rw [hcell i (by omega)];have hb:=bounds_u8 (hwz zs[i] (List.getElem_mem (by omega)));simp [vu8,List.getElem?_eq_getElem (show i<zs.length by omega)]
  omega
def RdInts (W:World) (A:Option Addr) (l:List Int) (c:Nat):Prop:=Rd0 vint W A l c∧∀ x∈l,(Lit.int .i64 x).wf=true
end
end Go.Proofs.YtpmcofmdjckijaaGreat
namespace Go.Proofs.YtpmcofmdjckijaaGreat
open Go.RowKit Go.Sort
theorem stepR5 {r:DRule} (h:r.kind=5) (j:Nat):stepR r j=itoaB j:=by unfold stepR;rw [if_pos h]
theorem stepR6 {r:DRule} (h:r.kind=6) (j:Nat) (hj:j<r.names.length):stepR r j=r.names[j]:=by unfold stepR;rw [if_neg (by omega),if_pos h];simp [hj]
theorem stepR7 {r:DRule} (h:r.kind=7) (j:Nat):stepR r j=⟨#[42]⟩:=by unfold stepR;rw [if_neg (by omega),if_neg (by omega),if_pos h]
theorem stepR8 {r:DRule} (h:r.kind=8) (j:Nat):stepR r j=⟨#[63]⟩:=by unfold stepR;rw [if_neg (by omega),if_neg (by omega),if_neg (by omega),if_pos h]
theorem stepR9 {r:DRule} (h:r.kind=9) (j:Nat):stepR r j=⟨#[43]⟩:=by unfold stepR;rw [if_neg (by omega),if_neg (by omega),if_neg (by omega),if_neg (by omega)]
theorem stepR_size {ds:List DRule} (hok:descOk ds=true) (i:Nat) (hi:i<ds.length) {n:Int} {j:Nat} (h:ItemAt ds[i] n j) (hj:j≤9223372036854775807):(stepR ds[i] j).size≤20:=by
 rcases h with ⟨hk,_⟩ | ⟨hk,_,hn⟩ | ⟨hk,_,_,_⟩ | ⟨hk | hk,_,_⟩
 ·rw [stepR5 hk];exact itoa_size _ (by omega) (by omega)
 ·rw [stepR6 hk j hn];have:=((kids_len hok i hi).2.2.1 hk).2 _ (List.getElem_mem hn);omega
 ·rw [stepR7 hk];show (1:Nat)≤20;omega
 ·rw [stepR8 hk];show (1:Nat)≤20;omega
 ·rw [stepR9 hk];show (1:Nat)≤20;omega
theorem sStepV_c (r:DRule) (Ab:Option Addr) (cb:Nat) (An:Option Addr) (cn:Nat) (At:Option Addr) (ct:Nat) (Ak:Option Addr) (ck:Nat) (n:Int) (j:Nat) (w:World) (h:RdS w r Ab cb An cn At ct Ak ck) (hj:j≤9223372036854775807) (hat:ItemAt r n j) :
 Gives Tryz.prog 79 #[vrule r (.slice Ab r.bytes.length cb) (.slice An r.names.length cn) (.slice At r.tags.length ct) (.slice Ak r.kids.length ck),.int .i64 (j:Int)] w (.string (stepR r j)):=by
 have hln:=h.n.len;have eb:=Ext_alloc (.cells #[.string r.nm,.int .i64 r.kind,.int .i64 r.size,.bool r.little,.slice Ab r.bytes.length cb,.slice An r.names.length cn,.slice At r.tags.length ct,.slice Ak r.kids.length ck] 96) (Ext.refl w);rcases hat with ⟨hk,_⟩ | ⟨hk,_,hl⟩ | ⟨hk,rfl,_,_⟩ | ⟨hk | hk,rfl,_⟩
 ·rw [stepR5 hk]
  have q5:(r.kind==5)=true:=by rw [hk];rfl
  have C:=lhd (fun w=>sFormatInt_c (j:Int) w (by omega) (by omega));clear hk h;generalize itoaB (j:Int)=t at *;unfold vrule;go_enter Tryz.func79,Tryz.ntmps79;go_wp2_with fail;refine (C.out _).mono ?_;rintro _ w1 ⟨rfl,he1⟩;go_wp2;go_ret;exact ⟨rfl,eb.trans he1⟩
 ·rw [stepR6 hk j hl]
  obtain ⟨bn,on,rfl,hbn,hcn⟩:=h.n.at j hl;have q5:(r.kind==5)=false:=by rw [hk];rfl
  have q6:(r.kind==6)=true:=by rw [hk];rfl
  have d1:decide ((j:Int)<(r.names.length:Int))=true:=decide_eq_true (by omega)
  have hl2:(j:Int)<(r.names.length:Int):=by omega
  generalize r.names[j]=t at *;clear hk h;unfold vrule;go_enter Tryz.func79,Tryz.ntmps79;go_wp2;go_ret;exact ⟨rfl,eb⟩
 ·rw [stepR7 hk]
  have q5:(r.kind==5)=false:=by rw [hk];rfl
  have q6:(r.kind==6)=false:=by rw [hk];rfl
  have q7:(r.kind==7)=true:=by rw [hk];rfl
  clear hk h;unfold vrule;go_enter Tryz.func79,Tryz.ntmps79;go_wp2;go_ret;exact ⟨rfl,eb⟩
 ·rw [stepR8 hk]
  have q5:(r.kind==5)=false:=by rw [hk];rfl
  have q6:(r.kind==6)=false:=by rw [hk];rfl
  have q7:(r.kind==7)=false:=by rw [hk];rfl
  have q8:(r.kind==8)=true:=by rw [hk];rfl
  clear hk h;unfold vrule;go_enter Tryz.func79,Tryz.ntmps79;go_wp2;go_ret;exact ⟨rfl,eb⟩
 ·rw [stepR9 hk]
  have q5:(r.kind==5)=false:=by rw [hk];rfl
  have q6:(r.kind==6)=false:=by rw [hk];rfl
  have q7:(r.kind==7)=false:=by rw [hk];rfl
  have q8:(r.kind==8)=false:=by rw [hk];rfl
  have q9:(r.kind==9)=true:=by rw [hk];rfl
  clear hk h;unfold vrule;go_enter Tryz.func79,Tryz.ntmps79;go_wp2;go_ret;exact ⟨rfl,eb⟩
section
variable {P:Program} {ops:Array Oper} {Q:Exit→Act→World→Prop} {md:Region.Mode} {S:World→Prop}
theorem twoH {i j:Nat} (di dj:Option Nat) {oi oj:Oper} {fuel:Nat} {listed:Array Bool} (li lj:Array Bool) {a:Act} {w:World} (hr:Region.ready md ops listed=[i,j])
 (hoi:ops[i]?=some oi) (hdi:oi.dst=di) (hli:listed.setIfInBounds i true=li) (hoj:ops[j]?=some oj) (hdj:oj.dst=dj) (hlj:listed.setIfInBounds j true=lj)
 (h1:∀ K:Act→World→Prop,Shut (∀ a w,S w→wpAnyH P md ops Q S fuel li a w→K a w)→if Region.wanted { oi with dst:=di } (yielded ops a.tmps)=true then Oper.wp P { oi with dst:=di } a w K Q else K (a.put di undef) w)
 (h2:∀ K:Act→World→Prop,Shut (∀ a w,S w→wpAnyH P md ops Q S fuel lj a w→K a w)→if Region.wanted { oj with dst:=dj } (yielded ops a.tmps)=true then Oper.wp P { oj with dst:=dj } a w K Q else K (a.put dj undef) w):wpAnyH P md ops Q S (fuel+1) listed a w:=by
 subst hdi;subst hli;subst hdj;subst hlj;refine ⟨fun h0=>(by rw [h0] at hr;cases hr),fun k hk=>?_⟩;rw [hr] at hk;simp only [List.mem_cons,List.not_mem_nil,or_false] at hk;rcases hk with rfl | rfl
 ·exact wpOp_step hoi (fun K' hK=>h1 K' (fun a w hC hW=>hK a w ⟨hC,hW⟩))
 ·exact wpOp_step hoj (fun K' hK=>h2 K' (fun a w hC hW=>hK a w ⟨hC,hW⟩))
end
end Go.Proofs.YtpmcofmdjckijaaGreat
namespace Go.Proofs.YtpmcofmdjckijaaGreat
open Go.RowKit
def Mach.fail (m:Mach) (c:Int):Mach:={ m with state:=2,code:=c }
def Mach.start (m:Mach) (n:Int):Mach:=if n=0 then { m with pc:=wrap64 (m.pc+1) } else { m with started:=true,left:=n }
def Mach.push (m:Mach) (n:Int):Mach:=if 60≤m.stack.length then m.fail 8 else { m with stack:=m.stack++[n] }
def Mach.pop (m:Mach):Mach:=if m.stack.length=0 then m.fail 8 else { m with stack:=m.stack.dropLast }
def Mach.last (m:Mach):Int:=m.stack.getLastD 0
def Mach.loop (m:Mach) (a:Int):Mach :=
 if m.stack.length=0 then m.pop
 else if m.last=0 then { m.pop with pc:=a }
 else { m.pop with stack:=m.pop.stack++[wrap64 (m.last-1)],pc:=wrap64 (m.pop.pc+1) }
def Mach.reads (m:Mach) (x:Ins):Mach × Bool :=
 if x.1=1 then (({ m with reg:=0 }:Mach).start x.2.1,true)
 else if x.1=3 then (m.start x.2.1,true)
 else if x.1=4 then (m.start m.reg,true)
 else if x.1=2 then (m.start 1,true)
 else if x.1=13 then (m.start 1,true)
 else if x.1=16 then (m.start 1,true)
 else if x.1=15 then (if m.sums.length=0 then m.fail 8 else m.start 1,true)
 else (m,false)
def Mach.moves (m:Mach) (x:Ins):Mach :=
 if x.1=6 then (if m.stack.length<60 then { m.push m.reg with pc:=wrap64 ((m.push m.reg).pc+1) } else m.push m.reg)
 else if x.1=7 then m.loop x.2.1
 else if x.1=8 then { m with pc:=x.2.1 }
 else if x.1=9 then (if m.stack.length<60 then { m.push (wrap64 (m.pc+1)) with pc:=x.2.1 } else m.push (wrap64 (m.pc+1)))
 else if x.1=10 then (if 0<m.stack.length then { m.pop with pc:=m.last } else m.pop)
 else if x.1=14 then (if 30≤m.sums.length then m.fail 8 else { m with sums:=m.sums++[0],pc:=wrap64 (m.pc+1) })
 else m
end Go.Proofs.YtpmcofmdjckijaaGreat
namespace Go.Proofs.YtpmcofmdjckijaaGreat
open Go.RowKit Go.Sort
theorem sFail_c (X:Nat→Prop) (W0:World) (p:Nat) (m:Mach) (c:Int) (w:World) (h:MV X W0 w p m) :
 Calls Tryz.prog 93 #[.pointer (some ⟨p,0,none⟩),.int .i64 c] w fun e w'=>e=.returned (.tuple #[])∧MV X W0 w' p (m.fail c)∧MR X w w':=by
 obtain ⟨vs,vq,hb⟩:=h;have r:=hb.box.cell;have f:=hb.box.free;have H1:=lhd ((hb.put (m':={ m with state:=2 }) 7 (.int .i64 2) rfl rfl rfl).put (m':=m.fail c) 8 (.int .i64 c) rfl rfl rfl);have H2:Hid (MR X w ((w.setCell ⟨p,7,none⟩ (.int .i64 2)).setCell ⟨p,8,none⟩ (.int .i64 c))):=(MR.set _ hb.xp).trans (MR.set _ hb.xp)
 have r7:w.cell? ⟨p,7,none⟩=some (.int .i64 m.state):=r 7
 have r8:w.cell? ⟨p,8,none⟩=some (.int .i64 m.code):=r 8
 have f7:=f 7;have f8:=f 8;clear r f hb;go_enter Tryz.func93,Tryz.ntmps93;go_wp2;exact bodyPost_end (results_none rfl _ _ _) rfl ⟨rfl,⟨_,_,H1.out⟩,H2.out⟩
theorem sStart_c (X:Nat→Prop) (W0:World) (p:Nat) (m:Mach) (c:Int) (w:World) (h:MV X W0 w p m) :
 Calls Tryz.prog 198 #[.pointer (some ⟨p,0,none⟩),.int .i64 c] w fun e w'=>e=.returned (.tuple #[])∧MV X W0 w' p (m.start c)∧MR X w w':=by
 obtain ⟨vs,vq,hb⟩:=h;have r:=hb.box.cell;have f:=hb.box.free;have r0:w.cell? ⟨p,0,none⟩=some (.int .i64 m.pc):=r 0
 have r4:w.cell? ⟨p,4,none⟩=some (.int .i64 m.left):=r 4
 have r5:w.cell? ⟨p,5,none⟩=some (.bool m.started):=r 5
 have f0:=f 0;have f4:=f 4;have f5:=f 5;clear r f
 by_cases hc:c=0
 ·subst hc
  have HM:Hid (m.start 0={ m with pc:=wrap64 (m.pc+1) }):=rfl
  have H1:=lhd (hb.put (m':=m.start 0) 0 (.int .i64 (wrap64 (m.pc+1))) rfl rfl rfl);have H2:Hid (MR X w (w.setCell ⟨p,0,none⟩ (.int .i64 (wrap64 (m.pc+1))))):=MR.set _ hb.xp
  clear hb;go_enter Tryz.func198,Tryz.ntmps198;go_wp2
  first
   | exact bodyPost_end (results_none rfl _ _ _) rfl ⟨rfl,⟨_,_,H1.out⟩,H2.out⟩
   | exact bodyPost_ret (results_none rfl _ _ _) rfl ⟨rfl,⟨_,_,H1.out⟩,H2.out⟩
 ·have HM:Hid (m.start c={ m with started:=true,left:=c }):=by show _=_;unfold Mach.start;rw [if_neg hc]
  have H1:=lhd ((hb.put (m':={ m with started:=true }) 5 (.bool true) rfl rfl rfl).put (m':={ m with started:=true,left:=c }) 4 (.int .i64 c) rfl rfl rfl);have H2:Hid (MR X w ((w.setCell ⟨p,5,none⟩ (.bool true)).setCell ⟨p,4,none⟩ (.int .i64 c))):=(MR.set _ hb.xp).trans (MR.set _ hb.xp)
  clear hb;rw [HM.out];go_enter Tryz.func198,Tryz.ntmps198;go_wp2
  first
   | exact bodyPost_end (results_none rfl _ _ _) rfl ⟨rfl,⟨_,_,H1.out⟩,H2.out⟩
   | exact bodyPost_ret (results_none rfl _ _ _) rfl ⟨rfl,⟨_,_,H1.out⟩,H2.out⟩
theorem MR.alloc {X:Nat→Prop} {w:World} (o:Obj) (hX:∀ k,X k→k<w.heap.size):MR X w (w.alloc o):=MR.of_ext (Ext_alloc o (Ext.refl w)) hX
theorem Own.slice2 {e:TypeId} {size:Nat} {w0 w:World} {v:Value} {n:Nat} {xs:List Value} (h:Own e size w0 w v n xs):∃ A m c,v=.slice A m c:=by
 rcases h.2 with ⟨rfl,_⟩ | ⟨g,cap,_,rfl,_⟩
 ·exact ⟨_,_,_,rfl⟩
 ·exact ⟨_,_,_,rfl⟩
theorem sPush_c (X:Nat→Prop) (W0:World) (p:Nat) (m:Mach) (n:Int) (w:World) (h:MV X W0 w p m) (hs:m.stack.length≤60) :
 Calls Tryz.prog 199 #[.pointer (some ⟨p,0,none⟩),.int .i64 n] w fun e w'=>e=.returned (.bool (decide (m.stack.length<60)))∧MV X W0 w' p (m.push n)∧MR X w w':=by
 have CF:=lhd (fun w h=>sFail_c X W0 p m 8 w h);have HV:=lhd h;obtain ⟨vs,vq,hb⟩:=h;have r:=hb.box.cell;have f:=hb.box.free;obtain ⟨A,c,hvs,_⟩:=OwnL.rd hb.os (by omega);subst hvs;have r2:w.cell? ⟨p,2,none⟩=some (.slice A m.stack.length c):=r 2
 have f2:=f 2;clear r f
 by_cases hc:60≤m.stack.length
 ·have HM:Hid (m.push n=m.fail 8):=by show _=_;unfold Mach.push;rw [if_pos hc]
  have hd:decide (m.stack.length<60)=false:=by simp;omega
  rw [hd,HM.out];have hci:(60:Int)≤(m.stack.length:Int):=by omega
  clear hb hd;go_enter Tryz.func199,Tryz.ntmps199;go_wp2_with fail;refine (CF.out _ HV.out).mono ?_;rintro _ w1 ⟨rfl,hm1,hr1⟩;go_wp2;go_ret;exact ⟨rfl,hm1,hr1⟩
 ·have HM:Hid (m.push n={ m with stack:=m.stack++[n] }):=by show _=_;unfold Mach.push;rw [if_neg hc]
  have hd:decide (m.stack.length<60)=true:=by simp;omega
  rw [hd,HM.out];have hci:¬ (60:Int)≤(m.stack.length:Int):=by omega
  have e1:=Ext_alloc (.cells #[.int .i64 n] 3) (Ext.refl w);have HB1:=lhd (hb.next e1);have HM1:Hid (MR X w (w.alloc (.cells #[.int .i64 n] 3))):=MR.alloc _ hb.low
  have HBD:Hid ((m.stack.length+[n].length)*8≤140737488355328):=by show _≤_;simp;omega
  have HO:=lhd hb.os;have HE:=lhd hb.ext;clear hb hd;go_enter Tryz.func199,Tryz.ntmps199
  go_wp2_with (first
   | (at_builtin;go_must (refine wpList_appNB rfl (.tmp 17) (.tmp 19) _ rfl E_int (by omega) W0 _ vint (fun _=>rfl) _ rfl _ _ _ rfl (by simp) m.stack [n] _ rfl HO.out HE.out rfl HBD.out ?_);intro v1 w1 ho1 he1 hv1 hg1;obtain ⟨A1,n1,c1,hv1'⟩:=Own.slice2 ho1;subst hv1';have q2:w1.cell? ⟨p,2,none⟩=some (Value.slice A m.stack.length c):=(HB1.out.box.moved hg1 HB1.out.n1).cell 2;have q2f:=(HB1.out.box.moved hg1 HB1.out.n1).free 2))
  go_ret;refine ⟨rfl,⟨_,_,HB1.out.putS (m':={ m with stack:=m.stack++[n] }) ho1 he1 hv1 hg1 rfl rfl⟩,HM1.out.trans ((MR.grown hg1 (fun b hb=>HB1.out.xs b hb) HB1.out.low).trans (MR.set _ HB1.out.xp))⟩
theorem sPop_c (X:Nat→Prop) (W0:World) (p:Nat) (m:Mach) (w:World) (h:MV X W0 w p m) (hs:m.stack.length≤60) :
 Calls Tryz.prog 201 #[.pointer (some ⟨p,0,none⟩)] w fun e w'=>e=.returned (.tuple #[.int .i64 (m.stack.getLastD 0),.bool (decide (0<m.stack.length))])∧MV X W0 w' p m.pop∧MR X w w':=by
 have CF:=lhd (fun w h=>sFail_c X W0 p m 8 w h);have HV:=lhd h;obtain ⟨vs,vq,hb⟩:=h;obtain ⟨A,c,hvs,rS⟩:=OwnL.rd hb.os (by omega);have hcap:=rS.cap;subst hvs;have r2:∀ w',Ext w w'→w'.cell? ⟨p,2,none⟩=some (Value.slice A m.stack.length c):=fun w' e=>(hb.box.ext e).cell 2
 have r20:=r2 w (Ext.refl _)
 by_cases hc:m.stack.length=0
 ·have HM:Hid (m.pop=m.fail 8):=by show _=_;unfold Mach.pop;rw [if_pos hc]
  have hd:decide (0<m.stack.length)=false:=decide_eq_false (by omega)
  have hnil:m.stack=[]:=List.eq_nil_of_length_eq_zero hc
  have hl:m.stack.getLastD 0=0:=by rw [hnil];rfl
  rw [hd,HM.out,hl];rw [hc] at r20;clear hb hd hl hnil r2 hc rS;go_enter Tryz.func201,Tryz.ntmps201;go_wp2_with fail;refine (CF.out _ HV.out).mono ?_;rintro _ w1 ⟨rfl,hm1,hr1⟩;go_wp2;exact bodyPost_ret (v:=.tuple #[.int .i64 0,.bool false]) (by simp [results,Tryz.results201,go_sem]) rfl ⟨rfl,hm1,hr1⟩
 ·have HM:Hid (m.pop={ m with stack:=m.stack.dropLast }):=by show _=_;unfold Mach.pop;rw [if_neg hc]
  have hd:decide (0<m.stack.length)=true:=decide_eq_true (by omega)
  obtain ⟨b,off,hA,_,hcl⟩:=rS.at (m.stack.length-1) (by omega)
  have HL:Hid (m.stack.getLastD 0=m.stack[m.stack.length-1]'(by omega)):=by
   show _=_
   rw [List.getLastD_eq_getLast?,List.getLast?_eq_getElem?,List.getElem?_eq_getElem (by omega)];rfl
  rw [hd,HM.out,HL.out];have hcl':∀ w',Ext w w'→w'.cell? ⟨b,off+(m.stack.length-1),none⟩=some (.int .i64 (m.stack[m.stack.length-1]'(by omega))):=hcl
  have HB:=lhd hb;have hne:((m.stack.length:Int)==0)=false:=by rw [beq_eq_false_iff_ne];omega
  have hpos:0<m.stack.length:=by omega
  have HPOS:=lhd hpos;subst hA;generalize m.stack[m.stack.length-1]'(by omega)=y at *;have hi0:(0:Int)≤(m.stack.length:Int)-1:=by omega
  have hi1:(m.stack.length:Int)-1<(m.stack.length:Int):=by omega
  have hi2:((m.stack.length:Int)-1).toNat=m.stack.length-1:=by omega
  have hi3:(m.stack.length:Int)-1≤(c:Int):=by omega
  have hiw:IntKind.i64.wrap ((m.stack.length:Int)-1)=(m.stack.length:Int)-1:=IntWalk.i64_in _ (by omega)
  clear hb hd hcl HL rS hc hpos;go_enter Tryz.func201,Tryz.ntmps201;go_wp2_with fail;refine wp_region_quiet_below (by kernel_rfl) (by kernel_rfl) ?_;repeat (go_big_quiet_step ((fail)))
  refine wpQuiet_nil (qnl ?_);intro w4 ew4;have r24:=fun w' (e:Ext w4 w')=>r2 w' (ew4.trans e)
  go_wp2_with fail;refine region_qtail_below 14 (by kernel_rfl) (by kernel_rfl) ?_;simp only [List.take_succ_cons,List.take_zero,List.drop_succ_cons,List.drop_zero];repeat (go_big_quiet_step (fail))
  refine wpQuiet_nil ?_;rintro w5 ⟨⟨nq,osq⟩,hq⟩;have e5:=ext_of_q hq;have e45:=ew4.trans e5;clear hq nq osq hiw;have HB5:=lhd (HB.out.next e45);have q2:=HB5.out.box.cell 2;have q2f:=HB5.out.box.free 2;have q2':w5.cell? ⟨p,2,none⟩=some (Value.slice (some ⟨b,off,none⟩) m.stack.length c):=q2
  clear q2;go_wp2;refine bodyPost_ret (v:=.tuple #[.int .i64 y,.bool true]) (by simp [results,Tryz.results201,go_sem]) rfl ?_;refine ⟨rfl,⟨_,_,HB5.out.putS (m':={ m with stack:=m.stack.dropLast }) (OwnL.pop HB5.out.os HPOS.out) HB5.out.ext (.inl rfl) (World.grownBy.refl _ _) rfl rfl⟩,(MR.of_ext e45 HB.out.low).trans (MR.set _ HB5.out.xp)⟩
theorem sLoopM_c (X:Nat→Prop) (W0:World) (p:Nat) (m:Mach) (a:Int) (w:World) (h:MV X W0 w p m) (hs:m.stack.length≤60) :
 Calls Tryz.prog 200 #[.pointer (some ⟨p,0,none⟩),.int .i64 a] w fun e w'=>e=.returned (.tuple #[])∧MV X W0 w' p (m.loop a)∧MR X w w':=by
 have CP:=lhd (sPop_c X W0 p m w h hs)
 by_cases h0:m.stack.length=0
 ·have HM:Hid (m.loop a=m.pop):=by show _=_;unfold Mach.loop;rw [if_pos h0]
  have hd:decide (0<m.stack.length)=false:=decide_eq_false (by omega)
  rw [hd] at CP;rw [HM.out];clear h0 hd;go_enter Tryz.func200,Tryz.ntmps200;go_wp2_with fail;refine CP.out.mono ?_;rintro _ w1 ⟨rfl,hm1,hr1⟩;go_wp2;exact bodyPost_end (results_none rfl _ _ _) rfl ⟨rfl,hm1,hr1⟩
 have hd:decide (0<m.stack.length)=true:=decide_eq_true (by omega)
 rw [hd] at CP;have hps:m.pop.stack.length≤60:=by unfold Mach.pop;rw [if_neg h0];simp;omega
 have HPS:=lhd hps
 by_cases hl:m.last=0
 ·have HM:Hid (m.loop a={ m.pop with pc:=a }):=by show _=_;unfold Mach.loop;rw [if_neg h0,if_pos hl]
  have hl':m.stack.getLastD 0=0:=hl
  rw [hl'] at CP;rw [HM.out];clear h0 hd hl hl' hps;generalize m.pop=q at *;go_enter Tryz.func200,Tryz.ntmps200;go_wp2_with fail;refine CP.out.mono ?_;rintro _ w1 ⟨rfl,⟨vs,vq,hb⟩,hr1⟩;have r0:w1.cell? ⟨p,0,none⟩=some (.int .i64 q.pc):=hb.box.cell 0
  have f0:=hb.box.free 0;go_wp2;exact bodyPost_end (results_none rfl _ _ _) rfl ⟨rfl,⟨_,_,hb.put (m':={ q with pc:=a }) 0 (.int .i64 a) rfl rfl rfl⟩,hr1.trans (MR.set _ hb.xp)⟩
 ·have HM:Hid (m.loop a={ m.pop with stack:=m.pop.stack++[wrap64 (m.stack.getLastD 0-1)],pc:=wrap64 (m.pop.pc+1) }):=by show _=_;unfold Mach.loop;rw [if_neg h0,if_neg hl];rfl
  have hl':¬ m.stack.getLastD 0=0:=hl
  rw [HM.out];generalize m.stack.getLastD 0=y at *;have hyb:(y==0)=false:=by simp [hl']
  clear h0 hd hl hps;generalize m.pop=q at *;go_enter Tryz.func200,Tryz.ntmps200;go_wp2_with fail;refine CP.out.mono ?_;rintro _ w1 ⟨rfl,⟨vs,vq,hb⟩,hr1⟩;obtain ⟨A,c,hvs,_⟩:=OwnL.rd hb.os (by have:=HPS.out;omega);subst hvs;have r2:w1.cell? ⟨p,2,none⟩=some (Value.slice A q.stack.length c):=hb.box.cell 2
  have e1:=Ext_alloc (.cells #[.int .i64 (wrap64 (y-1))] 3) (Ext.refl w1);have HB1:=lhd (hb.next e1);have HM1:Hid (MR X w1 (w1.alloc (.cells #[.int .i64 (wrap64 (y-1))] 3))):=MR.alloc _ hb.low
  have HBD:Hid ((q.stack.length+[wrap64 (y-1)].length)*8≤140737488355328):=by show _≤_;have:=HPS.out;simp;omega
  have HO:=lhd hb.os;have HE:=lhd hb.ext;have HXP:=lhd hb.xp;have HR1:=lhd hr1;clear hb hr1
  go_wp2_with (first
   | (at_builtin;go_must (refine wpList_appNB rfl (.tmp 15) (.tmp 18) _ rfl E_int (by omega) W0 _ vint (fun _=>rfl) _ rfl _ _ _ rfl (by simp) q.stack [wrap64 (y-1)] _ rfl HO.out HE.out rfl HBD.out ?_);intro v3 w3 ho3 he3 hv3 hg3;obtain ⟨A3,n3,c3,hv3'⟩:=Own.slice2 ho3;subst hv3';have q2:w3.cell? ⟨p,2,none⟩=some (Value.slice A q.stack.length c):=(HB1.out.box.moved hg3 HB1.out.n1).cell 2;have q2f:=(HB1.out.box.moved hg3 HB1.out.n1).free 2;have q0:w3.cell? ⟨p,0,none⟩=some (.int .i64 q.pc):=(HB1.out.box.moved hg3 HB1.out.n1).cell 0;have q0f:=(HB1.out.box.moved hg3 HB1.out.n1).free 0))
  have HB4:=HB1.out.putS (m':={ q with stack:=q.stack++[wrap64 (y-1)] }) ho3 he3 hv3 hg3 rfl rfl;exact bodyPost_end (results_none rfl _ _ _) rfl ⟨rfl,⟨_,_,HB4.put (m':={ q with stack:=q.stack++[wrap64 (y-1)],pc:=wrap64 (q.pc+1) }) 0 (.int .i64 (wrap64 (q.pc+1))) rfl rfl rfl⟩,HR1.out.trans (HM1.out.trans ((MR.grown hg3 (fun b hb=>HB1.out.xs b hb) HB1.out.low).trans ((MR.set _ HXP.out).trans (MR.set _ HXP.out))))⟩
theorem MR.cell {X:Nat→Prop} {w w':World} (h:MR X w w') {b:Nat} (hb:X b) (o:Nat):w'.cell? ⟨b,o,none⟩=w.cell? ⟨b,o,none⟩:=World.cell?_of_block (w:=w) (a:=⟨b,o,none⟩) (h.kept b hb)
theorem MB.weak {X Y:Nat→Prop} {W0 w:World} {p:Nat} {m:Mach} {vs vq:Value} (h:MB X W0 w p m vs vq) (hY:∀ k,Y k→X k):MB Y W0 w p m vs vq :=
 ⟨h.lo,h.box,h.os,h.oq,h.n1,h.n2,h.far,fun hy=>h.xp (hY _ hy),fun b hb hy=>h.xs b hb (hY _ hy),fun b hb hy=>h.xq b hb (hY _ hy),fun k hk=>h.low k (hY k hk),h.ext⟩
theorem MB.guard {X:Nat→Prop} {W0 w:World} {p:Nat} {m:Mach} {vs vq:Value} (h:MB X W0 w p m vs vq) (o:Obj):MB (fun k=>X k∨k=w.heap.size) W0 (w.alloc o) p m vs vq:=by
 have h1:=h.next (Ext_alloc o (Ext.refl w));have hp:=h.box.lt;refine ⟨h1.lo,h1.box,h1.os,h1.oq,h1.n1,h1.n2,h1.far,?_,?_,?_,?_,h1.ext⟩
 ·rintro (hx | hx)
  ·exact h.xp hx
  ·omega
 ·rintro b hb (hx | hx)
  ·exact h.xs b hb hx
  ·have:=(World.ownsRow.lt h.os b hb).2;omega
 ·rintro b hb (hx | hx)
  ·exact h.xq b hb hx
  ·have:=(World.ownsRow.lt h.oq b hb).2;omega
 ·rintro k (hx | hx)
  ·have:=h.low k hx;simp;omega
  ·simp;omega
theorem sReads_c (X:Nat→Prop) (W0:World) (p:Nat) (m:Mach) (x:Ins) (w:World) (h:MV X W0 w p m) :
 Calls Tryz.prog 190 #[.pointer (some ⟨p,0,none⟩),.agg #[.int .i64 x.1,.int .i64 x.2.1,.int .i64 x.2.2]] w fun e w'=>e=.returned (.bool (m.reads x).2)∧MV X W0 w' p (m.reads x).1∧MR X w w':=by
 obtain ⟨vs,vq,hb⟩:=h;have CS:=lhd (fun (m:Mach) (c:Int) w h=>sStart_c X W0 p m c w h);have CF:=lhd (fun w h=>sFail_c X W0 p m 8 w h);obtain ⟨W1,hW1⟩:=nmw (w.alloc (.cells #[.int .i64 x.1,.int .i64 x.2.1,.int .i64 x.2.2] 79));have e1:Ext w W1:=ka hW1
 have HB:=lhd (hb.next e1);have HR1:Hid (MR X w W1):=MR.of_ext e1 hb.low
 have hpl:p<w.heap.size:=hb.box.lt
 have hne:p≠w.heap.size:=by omega
 have hne':w.heap.size≠p:=by omega
 have hbi:Box W1 w.heap.size #[.int .i64 x.1,.int .i64 x.2.1,.int .i64 x.2.2] 79:=kb hW1
 have i0:W1.cell? ⟨w.heap.size,0,none⟩=some (.int .i64 x.1):=hbi.cell 0
 have i1:W1.cell? ⟨w.heap.size,1,none⟩=some (.int .i64 x.2.1):=hbi.cell 1
 have r1:W1.cell? ⟨p,1,none⟩=some (.int .i64 m.reg):=HB.out.box.cell 1
 have f1:=HB.out.box.free 1;rw [hW1.out] at i0 i1 r1 f1;obtain ⟨o,a,z⟩:=x;dsimp only at *;clear e1 hbi
 by_cases h1:o=1
 ·subst h1
  have H2:=lhd ((hb.put (m':={ m with reg:=0 }) 1 (.int .i64 0) rfl rfl rfl).next (Ext_alloc (.cells #[.int .i64 1,.int .i64 a,.int .i64 z] 79) (Ext.refl _)));have H3:=lhd ((MR.set (i:=1) (Value.int .i64 0) hb.xp).trans (MR.alloc (.cells #[.int .i64 1,.int .i64 a,.int .i64 z] 79) (fun k hk=>by simpa using hb.low k hk)));clear hb;go_enter Tryz.func190,Tryz.ntmps190;go_wp2_with fail;refine (CS.out { m with reg:=0 } a _ ⟨_,_,H2.out⟩).mono ?_;rintro _ w2 ⟨rfl,hm2,hr2⟩;go_wp2;go_ret;exact ⟨rfl,hm2,H3.out.trans hr2⟩
 by_cases h3:o=3
 ·subst h3
  clear hb;go_enter Tryz.func190,Tryz.ntmps190;go_wp2_with fail;rw [← hW1.out];refine (CS.out m (a) _ ⟨_,_,HB.out⟩).mono ?_;rintro _ w2 ⟨rfl,hm2,hr2⟩;go_wp2;go_ret;exact ⟨rfl,hm2,HR1.out.trans hr2⟩
 by_cases h4:o=4
 ·subst h4
  clear hb;go_enter Tryz.func190,Tryz.ntmps190;go_wp2_with fail;rw [← hW1.out];refine (CS.out m (m.reg) _ ⟨_,_,HB.out⟩).mono ?_;rintro _ w2 ⟨rfl,hm2,hr2⟩;go_wp2;go_ret;exact ⟨rfl,hm2,HR1.out.trans hr2⟩
 by_cases h2:o=2
 ·subst h2
  clear hb;go_enter Tryz.func190,Tryz.ntmps190;go_wp2_with fail;rw [← hW1.out];refine (CS.out m (1) _ ⟨_,_,HB.out⟩).mono ?_;rintro _ w2 ⟨rfl,hm2,hr2⟩;go_wp2;go_ret;exact ⟨rfl,hm2,HR1.out.trans hr2⟩
 by_cases h13:o=13
 ·subst h13
  clear hb;go_enter Tryz.func190,Tryz.ntmps190;go_wp2_with fail;rw [← hW1.out];refine (CS.out m (1) _ ⟨_,_,HB.out⟩).mono ?_;rintro _ w2 ⟨rfl,hm2,hr2⟩;go_wp2;go_ret;exact ⟨rfl,hm2,HR1.out.trans hr2⟩
 by_cases h16:o=16
 ·subst h16
  clear hb;go_enter Tryz.func190,Tryz.ntmps190;go_wp2_with fail;rw [← hW1.out];refine (CS.out m (1) _ ⟨_,_,HB.out⟩).mono ?_;rintro _ w2 ⟨rfl,hm2,hr2⟩;go_wp2;go_ret;exact ⟨rfl,hm2,HR1.out.trans hr2⟩
 by_cases h15:o=15
 ·subst h15
  obtain ⟨A,c,hvq,_⟩:∃ A c,vq=.slice A m.sums.length c∧True:=by
   rcases hb.oq.2 with ⟨h1,h2⟩ | ⟨g,cap,cur,h1,_⟩
   ·exact ⟨none,0,by rw [h1,h2],trivial⟩
   ·exact ⟨_,_,h1,trivial⟩
  subst hvq;have r3:W1.cell? ⟨p,3,none⟩=some (Value.slice A m.sums.length c):=HB.out.box.cell 3
  rw [hW1.out] at r3
  by_cases h0:m.sums.length=0
  ·have HM:Hid (m.reads (15,a,z)=(m.fail 8,true)):=by show _=_;unfold Mach.reads;simp [h0]
   rw [HM.out];have h0b:((m.sums.length:Int)==0)=true:=by rw [h0];rfl
   clear hb;go_enter Tryz.func190,Tryz.ntmps190;go_wp2_with fail;rw [← hW1.out];refine (CF.out _ ⟨_,_,HB.out⟩).mono ?_;rintro _ w2 ⟨rfl,hm2,hr2⟩;go_wp2;go_ret;exact ⟨rfl,hm2,HR1.out.trans hr2⟩
  ·have HM:Hid (m.reads (15,a,z)=(m.start 1,true)):=by show _=_;unfold Mach.reads;simp only [];rw [if_neg h0];rfl
   rw [HM.out];have h0b:((m.sums.length:Int)==0)=false:=by rw [beq_eq_false_iff_ne];omega
   clear hb;go_enter Tryz.func190,Tryz.ntmps190;go_wp2_with fail;rw [← hW1.out];refine (CS.out m 1 _ ⟨_,_,HB.out⟩).mono ?_;rintro _ w2 ⟨rfl,hm2,hr2⟩;go_wp2;go_ret;exact ⟨rfl,hm2,HR1.out.trans hr2⟩
 have HM:Hid (m.reads (o,a,z)=(m,false)):=by show _=_;unfold Mach.reads;rw [if_neg h1,if_neg h3,if_neg h4,if_neg h2,if_neg h13,if_neg h16,if_neg h15]
 rw [HM.out];have n1:(o==1)=false:=by simp [h1]
 have n3:(o==3)=false:=by simp [h3]
 have n4:(o==4)=false:=by simp [h4]
 have n2:(o==2)=false:=by simp [h2]
 have n13:(o==13)=false:=by simp [h13]
 have n16:(o==16)=false:=by simp [h16]
 have n15:(o==15)=false:=by simp [h15]
 clear hb;go_enter Tryz.func190,Tryz.ntmps190;go_wp2;rw [← hW1.out];go_ret;exact ⟨rfl,⟨_,_,HB.out⟩,HR1.out⟩
theorem OwnL.len_shape {w0 w:World} {v:Value} {l:List Int} (h:OwnL vint 3 w0 w v l):∃ A c,v=.slice A l.length c:=by
 rcases h.2 with ⟨h1,h2⟩ | ⟨g,cap,cur,h1,_⟩
 ·exact ⟨none,0,by rw [h1,h2]⟩
 ·exact ⟨_,_,h1⟩
theorem sMoves_c (X:Nat→Prop) (W0:World) (p:Nat) (m:Mach) (x:Ins) (w:World) (h:MV X W0 w p m) (hs:m.stack.length≤60) (hq:m.sums.length≤30) :
 Calls Tryz.prog 191 #[.pointer (some ⟨p,0,none⟩),.agg #[.int .i64 x.1,.int .i64 x.2.1,.int .i64 x.2.2]] w fun e w'=>e=.returned (.tuple #[])∧MV X W0 w' p (m.moves x)∧MR X w w':=by
 obtain ⟨vs,vq,hb⟩:=h;obtain ⟨W1,hW1⟩:=nmw (w.alloc (.cells #[.int .i64 x.1,.int .i64 x.2.1,.int .i64 x.2.2] 79));have e1:Ext w W1:=ka hW1
 have HB:Hid (MB (fun k=>X k∨k=w.heap.size) W0 W1 p m vs vq):=by rw [hW1.out];exact hb.guard _
 have HR1:Hid (MR X w W1):=MR.of_ext e1 hb.low
 have CP:=lhd (fun (n:Int) w h=>sPush_c (fun k=>X k∨k=w.heap.size) W0 p m n w h hs);have CPU:=lhd (fun (n:Int)=>sPush_c (fun k=>X k∨k=w.heap.size) W0 p m n W1 ⟨_,_,HB.out⟩ hs);have CLO:=lhd (fun (n:Int)=>sLoopM_c (fun k=>X k∨k=w.heap.size) W0 p m n W1 ⟨_,_,HB.out⟩ hs);have CPO:=lhd (sPop_c (fun k=>X k∨k=w.heap.size) W0 p m W1 ⟨_,_,HB.out⟩ hs);have CFA:=lhd (sFail_c (fun k=>X k∨k=w.heap.size) W0 p m 8 W1 ⟨_,_,HB.out⟩);have HXW:Hid (∀ k,X k→X k∨k=w.heap.size):=fun k hk=>.inl hk
 have hpl:p<w.heap.size:=hb.box.lt
 have hne:p≠w.heap.size:=by omega
 have hne':w.heap.size≠p:=by omega
 have hbi:Box W1 w.heap.size #[.int .i64 x.1,.int .i64 x.2.1,.int .i64 x.2.2] 79:=kb hW1
 have i0:W1.cell? ⟨w.heap.size,0,none⟩=some (.int .i64 x.1):=hbi.cell 0
 have i1:W1.cell? ⟨w.heap.size,1,none⟩=some (.int .i64 x.2.1):=hbi.cell 1
 have HI1:=lhd i1;have r0:W1.cell? ⟨p,0,none⟩=some (.int .i64 m.pc):=HB.out.box.cell 0
 have r1:W1.cell? ⟨p,1,none⟩=some (.int .i64 m.reg):=HB.out.box.cell 1
 have f0:=HB.out.box.free 0;rw [hW1.out] at i0 i1 r0 r1 f0;obtain ⟨o,a,z⟩:=x;dsimp only at *;clear e1 hbi CP
 by_cases h6:o=6
 ·subst h6
  by_cases hl:m.stack.length<60
  ·have HM:Hid (m.moves (6,a,z)={ m.push (m.reg) with pc:=wrap64 ((m.push m.reg).pc+1) }):=by show _=_;unfold Mach.moves;simp [hl]
   have hd:decide (m.stack.length<60)=true:=decide_eq_true hl
   have CPU1:=lhd (CPU.out (m.reg));rw [hd] at CPU1;rw [HM.out];clear hb hd CPU;generalize m.push (m.reg)=q at *;go_enter Tryz.func191,Tryz.ntmps191;go_wp2_with fail;rw [← hW1.out];refine CPU1.out.mono ?_;rintro _ w2 ⟨rfl,⟨vs2,vq2,hm⟩,hr2⟩;have s0:w2.cell? ⟨p,0,none⟩=some (.int .i64 q.pc):=hm.box.cell 0
   have s0f:=hm.box.free 0;have si:w2.cell? ⟨w.heap.size,1,none⟩=some (.int .i64 a):=(hr2.cell (.inr rfl) 1).trans HI1.out
   have hm':=hm.put (m':={ q with pc:=wrap64 (q.pc+1) }) 0 (.int .i64 (wrap64 (q.pc+1))) rfl rfl rfl;have hr3:MR (fun k=>X k∨k=w.heap.size) w2 (w2.setCell ⟨p,0,none⟩ (.int .i64 (wrap64 (q.pc+1)))):=MR.set _ hm.xp
   have HME:=lhd (show MV X W0 (w2.setCell ⟨p,0,none⟩ (.int .i64 (wrap64 (q.pc+1)))) p { q with pc:=wrap64 (q.pc+1) } from ⟨_,_,hm'.weak HXW.out⟩);have HRE:=lhd (HR1.out.trans ((hr2.trans hr3).weak HXW.out));clear hm hm' hr2 hr3;go_wp2
   first
    | exact bodyPost_end (results_none rfl _ _ _) rfl ⟨rfl,HME.out,HRE.out⟩
    | exact bodyPost_ret (results_none rfl _ _ _) rfl ⟨rfl,HME.out,HRE.out⟩
  ·have HM:Hid (m.moves (6,a,z)=m.push (m.reg)):=by show _=_;unfold Mach.moves;simp [hl]
   have hd:decide (m.stack.length<60)=false:=decide_eq_false hl
   have CPU1:=lhd (CPU.out (m.reg));rw [hd] at CPU1;rw [HM.out];clear hb hd CPU;go_enter Tryz.func191,Tryz.ntmps191;go_wp2_with fail;rw [← hW1.out];refine CPU1.out.mono ?_;rintro _ w2 ⟨rfl,⟨vs2,vq2,hm⟩,hr2⟩;go_wp2
   first
    | exact bodyPost_end (results_none rfl _ _ _) rfl ⟨rfl,⟨_,_,hm.weak HXW.out⟩,HR1.out.trans (hr2.weak HXW.out)⟩
    | exact bodyPost_ret (results_none rfl _ _ _) rfl ⟨rfl,⟨_,_,hm.weak HXW.out⟩,HR1.out.trans (hr2.weak HXW.out)⟩
 by_cases h7:o=7
 ·subst h7
  have HM:Hid (m.moves (7,a,z)=m.loop a):=rfl
  rw [HM.out];clear hb;go_enter Tryz.func191,Tryz.ntmps191;go_wp2_with fail;rw [← hW1.out];refine (CLO.out a).mono ?_;rintro _ w2 ⟨rfl,⟨vs2,vq2,hm⟩,hr2⟩;go_wp2
  first
   | exact bodyPost_end (results_none rfl _ _ _) rfl ⟨rfl,⟨_,_,hm.weak HXW.out⟩,HR1.out.trans (hr2.weak HXW.out)⟩
   | exact bodyPost_ret (results_none rfl _ _ _) rfl ⟨rfl,⟨_,_,hm.weak HXW.out⟩,HR1.out.trans (hr2.weak HXW.out)⟩
 by_cases h8:o=8
 ·subst h8
  have HM:Hid (m.moves (8,a,z)={ m with pc:=a }):=rfl
  rw [HM.out];have H2:=lhd ((hb.put (m':={ m with pc:=a }) 0 (.int .i64 a) rfl rfl rfl).next (Ext_alloc (.cells #[.int .i64 8,.int .i64 a,.int .i64 z] 79) (Ext.refl _)));have H3:=lhd ((MR.set (i:=0) (Value.int .i64 a) hb.xp).trans (MR.alloc (.cells #[.int .i64 8,.int .i64 a,.int .i64 z] 79) (fun k hk=>by simpa using hb.low k hk)));clear hb;go_enter Tryz.func191,Tryz.ntmps191;go_wp2
  first
   | exact bodyPost_end (results_none rfl _ _ _) rfl ⟨rfl,⟨_,_,H2.out⟩,H3.out⟩
   | exact bodyPost_ret (results_none rfl _ _ _) rfl ⟨rfl,⟨_,_,H2.out⟩,H3.out⟩
 by_cases h9:o=9
 ·subst h9
  by_cases hl:m.stack.length<60
  ·have HM:Hid (m.moves (9,a,z)={ m.push (wrap64 (m.pc+1)) with pc:=a }):=by show _=_;unfold Mach.moves;simp [hl]
   have hd:decide (m.stack.length<60)=true:=decide_eq_true hl
   have CPU1:=lhd (CPU.out (wrap64 (m.pc+1)));rw [hd] at CPU1;rw [HM.out];clear hb hd CPU;generalize m.push (wrap64 (m.pc+1))=q at *;go_enter Tryz.func191,Tryz.ntmps191;go_wp2_with fail;rw [← hW1.out];refine CPU1.out.mono ?_;rintro _ w2 ⟨rfl,⟨vs2,vq2,hm⟩,hr2⟩;have s0:w2.cell? ⟨p,0,none⟩=some (.int .i64 q.pc):=hm.box.cell 0
   have s0f:=hm.box.free 0;have si:w2.cell? ⟨w.heap.size,1,none⟩=some (.int .i64 a):=(hr2.cell (.inr rfl) 1).trans HI1.out
   have hm':=hm.put (m':={ q with pc:=a }) 0 (.int .i64 (a)) rfl rfl rfl;have hr3:MR (fun k=>X k∨k=w.heap.size) w2 (w2.setCell ⟨p,0,none⟩ (.int .i64 (a))):=MR.set _ hm.xp
   have HME:=lhd (show MV X W0 (w2.setCell ⟨p,0,none⟩ (.int .i64 (a))) p { q with pc:=a } from ⟨_,_,hm'.weak HXW.out⟩);have HRE:=lhd (HR1.out.trans ((hr2.trans hr3).weak HXW.out));clear hm hm' hr2 hr3;go_wp2
   first
    | exact bodyPost_end (results_none rfl _ _ _) rfl ⟨rfl,HME.out,HRE.out⟩
    | exact bodyPost_ret (results_none rfl _ _ _) rfl ⟨rfl,HME.out,HRE.out⟩
  ·have HM:Hid (m.moves (9,a,z)=m.push (wrap64 (m.pc+1))):=by show _=_;unfold Mach.moves;simp [hl]
   have hd:decide (m.stack.length<60)=false:=decide_eq_false hl
   have CPU1:=lhd (CPU.out (wrap64 (m.pc+1)));rw [hd] at CPU1;rw [HM.out];clear hb hd CPU;go_enter Tryz.func191,Tryz.ntmps191;go_wp2_with fail;rw [← hW1.out];refine CPU1.out.mono ?_;rintro _ w2 ⟨rfl,⟨vs2,vq2,hm⟩,hr2⟩;go_wp2
   first
    | exact bodyPost_end (results_none rfl _ _ _) rfl ⟨rfl,⟨_,_,hm.weak HXW.out⟩,HR1.out.trans (hr2.weak HXW.out)⟩
    | exact bodyPost_ret (results_none rfl _ _ _) rfl ⟨rfl,⟨_,_,hm.weak HXW.out⟩,HR1.out.trans (hr2.weak HXW.out)⟩
 by_cases h10:o=10
 ·subst h10
  by_cases hl:0<m.stack.length
  ·have HM:Hid (m.moves (10,a,z)={ m.pop with pc:=m.stack.getLastD 0 }):=by show _=_;unfold Mach.moves Mach.last;simp [hl]
   have hd:decide (0<m.stack.length)=true:=decide_eq_true hl
   rw [hd] at CPO;rw [HM.out];clear hb hd;generalize m.pop=q at *;generalize m.stack.getLastD 0=y at *;go_enter Tryz.func191,Tryz.ntmps191;go_wp2_with fail;rw [← hW1.out];refine CPO.out.mono ?_;rintro _ w2 ⟨rfl,⟨vs2,vq2,hm⟩,hr2⟩;have s0:w2.cell? ⟨p,0,none⟩=some (.int .i64 q.pc):=hm.box.cell 0
   have s0f:=hm.box.free 0;have hm':=hm.put (m':={ q with pc:=y }) 0 (.int .i64 y) rfl rfl rfl;have hr3:MR (fun k=>X k∨k=w.heap.size) w2 (w2.setCell ⟨p,0,none⟩ (.int .i64 y)):=MR.set _ hm.xp
   have HME:=lhd (show MV X W0 (w2.setCell ⟨p,0,none⟩ (.int .i64 y)) p { q with pc:=y } from ⟨_,_,hm'.weak HXW.out⟩);have HRE:=lhd (HR1.out.trans ((hr2.trans hr3).weak HXW.out));clear hm hm' hr2 hr3;go_wp2
   first
    | exact bodyPost_end (results_none rfl _ _ _) rfl ⟨rfl,HME.out,HRE.out⟩
    | exact bodyPost_ret (results_none rfl _ _ _) rfl ⟨rfl,HME.out,HRE.out⟩
  ·have HM:Hid (m.moves (10,a,z)=m.pop):=by show _=_;unfold Mach.moves;simp [hl]
   have hd:decide (0<m.stack.length)=false:=decide_eq_false hl
   rw [hd] at CPO;rw [HM.out];clear hb hd;go_enter Tryz.func191,Tryz.ntmps191;go_wp2_with fail;rw [← hW1.out];refine CPO.out.mono ?_;rintro _ w2 ⟨rfl,⟨vs2,vq2,hm⟩,hr2⟩;go_wp2
   first
    | exact bodyPost_end (results_none rfl _ _ _) rfl ⟨rfl,⟨_,_,hm.weak HXW.out⟩,HR1.out.trans (hr2.weak HXW.out)⟩
    | exact bodyPost_ret (results_none rfl _ _ _) rfl ⟨rfl,⟨_,_,hm.weak HXW.out⟩,HR1.out.trans (hr2.weak HXW.out)⟩
 by_cases h14:o=14
 ·subst h14
  obtain ⟨A,c,hvq⟩:=OwnL.len_shape hb.oq;subst hvq;have r3:W1.cell? ⟨p,3,none⟩=some (Value.slice A m.sums.length c):=HB.out.box.cell 3
  have r3':=r3;rw [hW1.out] at r3
  by_cases h0:30≤m.sums.length
  ·have HM:Hid (m.moves (14,a,z)=m.fail 8):=by show _=_;unfold Mach.moves;simp [h0]
   rw [HM.out];have h0i:(30:Int)≤(m.sums.length:Int):=by omega
   clear hb;go_enter Tryz.func191,Tryz.ntmps191;go_wp2_with fail;rw [← hW1.out];refine CFA.out.mono ?_;rintro _ w2 ⟨rfl,⟨vs2,vq2,hm⟩,hr2⟩;go_wp2
   first
    | exact bodyPost_end (results_none rfl _ _ _) rfl ⟨rfl,⟨_,_,hm.weak HXW.out⟩,HR1.out.trans (hr2.weak HXW.out)⟩
    | exact bodyPost_ret (results_none rfl _ _ _) rfl ⟨rfl,⟨_,_,hm.weak HXW.out⟩,HR1.out.trans (hr2.weak HXW.out)⟩
  ·have HM:Hid (m.moves (14,a,z)={ m with sums:=m.sums++[0],pc:=wrap64 (m.pc+1) }):=by show _=_;unfold Mach.moves;simp [h0]
   rw [HM.out];have h0i:¬ (30:Int)≤(m.sums.length:Int):=by omega
   have HB1:=lhd (HB.out.next (Ext_alloc (.cells #[.int .i64 0] 3) (Ext.refl W1)));have HM1:=lhd (MR.alloc (X:=fun k=>X k∨k=w.heap.size) (w:=W1) (.cells #[.int .i64 0] 3) HB.out.low);have HBD:Hid ((m.sums.length+[(0:Int)].length)*8≤140737488355328):=by show _≤_;simp;omega
   clear hb;go_enter Tryz.func191,Tryz.ntmps191
   go_wp2_with (first
    | (at_builtin;rw [← hW1.out];go_must (refine wpList_appNB rfl (.tmp 77) (.tmp 78) _ rfl E_int (by omega) W0 _ vint (fun _=>rfl) _ rfl _ _ _ rfl (by rw [hW1.out];simp) m.sums [(0:Int)] _ rfl HB.out.oq HB.out.ext rfl HBD.out ?_);intro v3 w3 ho3 he3 hv3 hg3;obtain ⟨A3,n3,c3,hv3'⟩:=Own.slice2 ho3;subst hv3';have q2:w3.cell? ⟨p,3,none⟩=some (Value.slice A m.sums.length c):=(HB1.out.box.moved hg3 HB1.out.n2).cell 3;have q2f:=(HB1.out.box.moved hg3 HB1.out.n2).free 3;have q0:w3.cell? ⟨p,0,none⟩=some (.int .i64 m.pc):=(HB1.out.box.moved hg3 HB1.out.n2).cell 0;have q0f:=(HB1.out.box.moved hg3 HB1.out.n2).free 0))
   have HB4:=HB1.out.putQ (m':={ m with sums:=m.sums++[0] }) ho3 he3 hv3 hg3 rfl rfl;have HB5:=HB4.put (m':={ m with sums:=m.sums++[0],pc:=wrap64 (m.pc+1) }) 0 (.int .i64 (wrap64 (m.pc+1))) rfl rfl rfl;have HRE:=HR1.out.trans ((HM1.out.trans ((MR.grown hg3 (fun b hb=>HB1.out.xq b hb) HB1.out.low).trans ((MR.set (i:=3) (Value.slice A3 n3 c3) HB.out.xp).trans (MR.set (i:=0) (Value.int .i64 (wrap64 (m.pc+1))) HB.out.xp)))).weak HXW.out)
   first
    | exact bodyPost_end (results_none rfl _ _ _) rfl ⟨rfl,⟨_,_,HB5.weak HXW.out⟩,HRE⟩
    | exact bodyPost_ret (results_none rfl _ _ _) rfl ⟨rfl,⟨_,_,HB5.weak HXW.out⟩,HRE⟩
 have HM:Hid (m.moves (o,a,z)=m):=by show _=_;unfold Mach.moves;rw [if_neg h6,if_neg h7,if_neg h8,if_neg h9,if_neg h10,if_neg h14]
 rw [HM.out];have n6:(o==6)=false:=by simp [h6]
 have n7:(o==7)=false:=by simp [h7]
 have n8:(o==8)=false:=by simp [h8]
 have n9:(o==9)=false:=by simp [h9]
 have n10:(o==10)=false:=by simp [h10]
 have n14:(o==14)=false:=by simp [h14]
 clear hb;go_enter Tryz.func191,Tryz.ntmps191;go_wp2;rw [← hW1.out]
 first
  | exact bodyPost_end (results_none rfl _ _ _) rfl ⟨rfl,⟨_,_,HB.out.weak HXW.out⟩,HR1.out⟩
  | exact bodyPost_ret (results_none rfl _ _ _) rfl ⟨rfl,⟨_,_,HB.out.weak HXW.out⟩,HR1.out⟩
end Go.Proofs.YtpmcofmdjckijaaGreat
namespace Go.Proofs.YtpmcofmdjckijaaGreat
open Go.RowKit
theorem Mach.reads_no {m:Mach} {x:Ins} (h:(m.reads x).2=false):(m.reads x).1=m:=by
 unfold Mach.reads at h ⊢
 by_cases h1:x.1=1
 ·exfalso
  rw [if_pos h1] at h;cases h
 by_cases h3:x.1=3
 ·exfalso
  rw [if_neg h1,if_pos h3] at h;cases h
 by_cases h4:x.1=4
 ·exfalso
  rw [if_neg h1,if_neg h3,if_pos h4] at h;cases h
 by_cases h2:x.1=2
 ·exfalso
  rw [if_neg h1,if_neg h3,if_neg h4,if_pos h2] at h;cases h
 by_cases h13:x.1=13
 ·exfalso
  rw [if_neg h1,if_neg h3,if_neg h4,if_neg h2,if_pos h13] at h;cases h
 by_cases h16:x.1=16
 ·exfalso
  rw [if_neg h1,if_neg h3,if_neg h4,if_neg h2,if_neg h13,if_pos h16] at h;cases h
 by_cases h15:x.1=15
 ·exfalso
  rw [if_neg h1,if_neg h3,if_neg h4,if_neg h2,if_neg h13,if_neg h16,if_pos h15] at h;cases h
 rw [if_neg h1,if_neg h3,if_neg h4,if_neg h2,if_neg h13,if_neg h16,if_neg h15]
def Mach.step (m:Mach) (x:Ins):Mach :=
 if (m.reads x).2 then (m.reads x).1
 else if x.1=17 then { m with state:=1 }
 else if x.1=12 then m.fail x.2.1
 else if x.1=5 then (if x.2.1<m.reg then m.fail 6 else { m with pc:=wrap64 (m.pc+1) })
 else if x.1=11 then (if m.reg=x.2.1 then { m with pc:=x.2.2 } else { m with pc:=wrap64 (m.pc+1) })
 else m.moves x
end Go.Proofs.YtpmcofmdjckijaaGreat
namespace Go.Proofs.YtpmcofmdjckijaaGreat
open Go.RowKit Go.Sort
theorem sStep_c (X:Nat→Prop) (W0:World) (p:Nat) (m:Mach) (x:Ins) (w:World) (h:MV X W0 w p m) (hs:m.stack.length≤60) (hq:m.sums.length≤30) :
 Calls Tryz.prog 163 #[.pointer (some ⟨p,0,none⟩),.agg #[.int .i64 x.1,.int .i64 x.2.1,.int .i64 x.2.2]] w fun e w'=>e=.returned (.tuple #[])∧MV X W0 w' p (m.step x)∧MR X w w':=by
 obtain ⟨vs,vq,hb⟩:=h;obtain ⟨W1,hW1⟩:=nmw (w.alloc (.cells #[.int .i64 x.1,.int .i64 x.2.1,.int .i64 x.2.2] 79));have e1:Ext w W1:=ka hW1
 have HB:Hid (MB (fun k=>X k∨k=w.heap.size) W0 W1 p m vs vq):=by rw [hW1.out];exact hb.guard _
 have HR1:Hid (MR X w W1):=MR.of_ext e1 hb.low
 have CR:=lhd (sReads_c (fun k=>X k∨k=w.heap.size) W0 p m x W1 ⟨_,_,HB.out⟩);have CF:=lhd (fun (c:Int) w' h=>sFail_c (fun k=>X k∨k=w.heap.size) W0 p m c w' h);have CM:=lhd (fun w' h=>sMoves_c (fun k=>X k∨k=w.heap.size) W0 p m x w' h hs hq);have HXW:Hid (∀ k,X k→X k∨k=w.heap.size):=fun k hk=>.inl hk
 have hbi:Box W1 w.heap.size #[.int .i64 x.1,.int .i64 x.2.1,.int .i64 x.2.2] 79:=kb hW1
 have HBI:=lhd hbi;have i0:W1.cell? ⟨w.heap.size,0,none⟩=some (.int .i64 x.1):=hbi.cell 0
 have i1:W1.cell? ⟨w.heap.size,1,none⟩=some (.int .i64 x.2.1):=hbi.cell 1
 have i2:W1.cell? ⟨w.heap.size,2,none⟩=some (.int .i64 x.2.2):=hbi.cell 2
 rw [hW1.out] at i0 i1 i2;cases hz:(m.reads x).2
 rotate_left
 ·have HM:Hid (m.step x=(m.reads x).1):=by show _=_;unfold Mach.step;rw [if_pos hz]
  rw [hz] at CR;rw [HM.out];generalize (m.reads x).1=q at *;clear hb hbi hz e1;go_enter Tryz.func163,Tryz.ntmps163;go_wp2_with fail;rw [← hW1.out];refine CR.out.mono ?_;rintro _ w2 ⟨rfl,⟨vs2,vq2,hm⟩,hr2⟩;go_wp2
  first
   | exact bodyPost_end (results_none rfl _ _ _) rfl ⟨rfl,⟨_,_,hm.weak HXW.out⟩,HR1.out.trans (hr2.weak HXW.out)⟩
   | exact bodyPost_ret (results_none rfl _ _ _) rfl ⟨rfl,⟨_,_,hm.weak HXW.out⟩,HR1.out.trans (hr2.weak HXW.out)⟩
 have hsame:=Mach.reads_no hz;rw [hz,hsame] at CR
 have HST:Hid (m.step x=if x.1=17 then { m with state:=1 } else if x.1=12 then m.fail x.2.1 else if x.1=5 then (if x.2.1<m.reg then m.fail 6 else { m with pc:=wrap64 (m.pc+1) }) else if x.1=11 then (if m.reg=x.2.1 then { m with pc:=x.2.2 } else { m with pc:=wrap64 (m.pc+1) }) else m.moves x):=by
  show _=_
  rw [Mach.step,if_neg (by rw [hz];simp)]
 obtain ⟨o,a,z⟩:=x;dsimp only at *;clear hz hsame hbi e1 hb
 by_cases h17:o=17
 ·subst h17
  have HM:Hid (m.step (17,a,z)={ m with state:=1 }):=by show _=_;rw [HST.out];rfl
  rw [HM.out];go_enter Tryz.func163,Tryz.ntmps163;go_wp2_with fail;rw [← hW1.out];refine CR.out.mono ?_;rintro _ w2 ⟨rfl,⟨vs2,vq2,hm⟩,hr2⟩;have hbi2:Box w2 w.heap.size #[.int .i64 17,.int .i64 a,.int .i64 z] 79:=(hr2.kept _ (.inr rfl)).trans HBI.out
  have j0:∀ w',Ext w2 w'→w'.cell? ⟨w.heap.size,0,none⟩=some (.int .i64 17):=hbi2.at 0
  have j1:∀ w',Ext w2 w'→w'.cell? ⟨w.heap.size,1,none⟩=some (.int .i64 a):=hbi2.at 1
  have j2:∀ w',Ext w2 w'→w'.cell? ⟨w.heap.size,2,none⟩=some (.int .i64 z):=hbi2.at 2
  have s0:∀ w',Ext w2 w'→w'.cell? ⟨p,0,none⟩=some (.int .i64 m.pc):=fun w' e=>(hm.box.ext e).cell 0
  have s1:∀ w',Ext w2 w'→w'.cell? ⟨p,1,none⟩=some (.int .i64 m.reg):=fun w' e=>(hm.box.ext e).cell 1
  have s7:∀ w',Ext w2 w'→w'.cell? ⟨p,7,none⟩=some (.int .i64 m.state):=fun w' e=>(hm.box.ext e).cell 7
  have f0:=hm.box.free 0;have f7:=hm.box.free 7;have HR2:=lhd (HR1.out.trans (hr2.weak HXW.out));have HM2:=lhd hm;clear hm hr2 hbi2 i0 i1 i2;have HB3:=lhd ((HM2.out.put (m':={ m with state:=1 }) 7 (.int .i64 1) rfl rfl rfl).weak HXW.out);have HR3:=lhd (HR2.out.trans (MR.set (i:=7) (Value.int .i64 1) HB3.out.xp));go_wp2
  first
   | exact bodyPost_end (results_none rfl _ _ _) rfl ⟨rfl,⟨_,_,HB3.out⟩,HR3.out⟩
   | exact bodyPost_ret (results_none rfl _ _ _) rfl ⟨rfl,⟨_,_,HB3.out⟩,HR3.out⟩
 by_cases h12:o=12
 ·subst h12
  have HM:Hid (m.step (12,a,z)=m.fail a):=by show _=_;rw [HST.out];rfl
  rw [HM.out];go_enter Tryz.func163,Tryz.ntmps163;go_wp2_with fail;rw [← hW1.out];refine CR.out.mono ?_;rintro _ w2 ⟨rfl,⟨vs2,vq2,hm⟩,hr2⟩;have hbi2:Box w2 w.heap.size #[.int .i64 12,.int .i64 a,.int .i64 z] 79:=(hr2.kept _ (.inr rfl)).trans HBI.out
  have j0:∀ w',Ext w2 w'→w'.cell? ⟨w.heap.size,0,none⟩=some (.int .i64 12):=hbi2.at 0
  have j1:∀ w',Ext w2 w'→w'.cell? ⟨w.heap.size,1,none⟩=some (.int .i64 a):=hbi2.at 1
  have j2:∀ w',Ext w2 w'→w'.cell? ⟨w.heap.size,2,none⟩=some (.int .i64 z):=hbi2.at 2
  have s0:∀ w',Ext w2 w'→w'.cell? ⟨p,0,none⟩=some (.int .i64 m.pc):=fun w' e=>(hm.box.ext e).cell 0
  have s1:∀ w',Ext w2 w'→w'.cell? ⟨p,1,none⟩=some (.int .i64 m.reg):=fun w' e=>(hm.box.ext e).cell 1
  have s7:∀ w',Ext w2 w'→w'.cell? ⟨p,7,none⟩=some (.int .i64 m.state):=fun w' e=>(hm.box.ext e).cell 7
  have f0:=hm.box.free 0;have f7:=hm.box.free 7;have HR2:=lhd (HR1.out.trans (hr2.weak HXW.out));have HM2:=lhd hm;clear hm hr2 hbi2 i0 i1 i2;go_wp2_with fail;refine (CF.out a _ ⟨_,_,HM2.out⟩).mono ?_;rintro _ w3 ⟨rfl,⟨vs3,vq3,hm3⟩,hr3⟩;go_wp2
  first
   | exact bodyPost_end (results_none rfl _ _ _) rfl ⟨rfl,⟨_,_,hm3.weak HXW.out⟩,HR2.out.trans (hr3.weak HXW.out)⟩
   | exact bodyPost_ret (results_none rfl _ _ _) rfl ⟨rfl,⟨_,_,hm3.weak HXW.out⟩,HR2.out.trans (hr3.weak HXW.out)⟩
 by_cases h5:o=5
 ·subst h5
  by_cases hl:a<m.reg
  ·have hd:decide (a<m.reg)=true:=decide_eq_true hl
   have HM:Hid (m.step (5,a,z)=m.fail 6):=by show _=_;rw [HST.out];simp [hl]
   rw [HM.out];go_enter Tryz.func163,Tryz.ntmps163;go_wp2_with fail;rw [← hW1.out];refine CR.out.mono ?_;rintro _ w2 ⟨rfl,⟨vs2,vq2,hm⟩,hr2⟩;have hbi2:Box w2 w.heap.size #[.int .i64 5,.int .i64 a,.int .i64 z] 79:=(hr2.kept _ (.inr rfl)).trans HBI.out
   have j0:∀ w',Ext w2 w'→w'.cell? ⟨w.heap.size,0,none⟩=some (.int .i64 5):=hbi2.at 0
   have j1:∀ w',Ext w2 w'→w'.cell? ⟨w.heap.size,1,none⟩=some (.int .i64 a):=hbi2.at 1
   have j2:∀ w',Ext w2 w'→w'.cell? ⟨w.heap.size,2,none⟩=some (.int .i64 z):=hbi2.at 2
   have s0:∀ w',Ext w2 w'→w'.cell? ⟨p,0,none⟩=some (.int .i64 m.pc):=fun w' e=>(hm.box.ext e).cell 0
   have s1:∀ w',Ext w2 w'→w'.cell? ⟨p,1,none⟩=some (.int .i64 m.reg):=fun w' e=>(hm.box.ext e).cell 1
   have s7:∀ w',Ext w2 w'→w'.cell? ⟨p,7,none⟩=some (.int .i64 m.state):=fun w' e=>(hm.box.ext e).cell 7
   have f0:=hm.box.free 0;have f7:=hm.box.free 7;have HR2:=lhd (HR1.out.trans (hr2.weak HXW.out));have HM2:=lhd hm;clear hm hr2 hbi2 i0 i1 i2;go_wp2_with fail;refine wp_region_quiet_below (by kernel_rfl) (by kernel_rfl) ?_;repeat (go_big_quiet_step ((fail)))
   refine wpQuiet_nil (qnl ?_);intro w4 ew4;go_wp2_with fail;refine (CF.out 6 _ ⟨_,_,HM2.out.next ew4⟩).mono ?_;rintro _ w3 ⟨rfl,⟨vs3,vq3,hm3⟩,hr3⟩;have HRE:=HR2.out.trans (((MR.of_ext ew4 HM2.out.low).trans hr3).weak HXW.out);go_wp2
   first
    | exact bodyPost_end (results_none rfl _ _ _) rfl ⟨rfl,⟨_,_,hm3.weak HXW.out⟩,HRE⟩
    | exact bodyPost_ret (results_none rfl _ _ _) rfl ⟨rfl,⟨_,_,hm3.weak HXW.out⟩,HRE⟩
  ·have hd:decide (a<m.reg)=false:=decide_eq_false hl
   have HM:Hid (m.step (5,a,z)={ m with pc:=wrap64 (m.pc+1) }):=by show _=_;rw [HST.out];simp [hl]
   rw [HM.out];go_enter Tryz.func163,Tryz.ntmps163;go_wp2_with fail;rw [← hW1.out];refine CR.out.mono ?_;rintro _ w2 ⟨rfl,⟨vs2,vq2,hm⟩,hr2⟩;have hbi2:Box w2 w.heap.size #[.int .i64 5,.int .i64 a,.int .i64 z] 79:=(hr2.kept _ (.inr rfl)).trans HBI.out
   have j0:∀ w',Ext w2 w'→w'.cell? ⟨w.heap.size,0,none⟩=some (.int .i64 5):=hbi2.at 0
   have j1:∀ w',Ext w2 w'→w'.cell? ⟨w.heap.size,1,none⟩=some (.int .i64 a):=hbi2.at 1
   have j2:∀ w',Ext w2 w'→w'.cell? ⟨w.heap.size,2,none⟩=some (.int .i64 z):=hbi2.at 2
   have s0:∀ w',Ext w2 w'→w'.cell? ⟨p,0,none⟩=some (.int .i64 m.pc):=fun w' e=>(hm.box.ext e).cell 0
   have s1:∀ w',Ext w2 w'→w'.cell? ⟨p,1,none⟩=some (.int .i64 m.reg):=fun w' e=>(hm.box.ext e).cell 1
   have s7:∀ w',Ext w2 w'→w'.cell? ⟨p,7,none⟩=some (.int .i64 m.state):=fun w' e=>(hm.box.ext e).cell 7
   have f0:=hm.box.free 0;have f7:=hm.box.free 7;have HR2:=lhd (HR1.out.trans (hr2.weak HXW.out));have HM2:=lhd hm;clear hm hr2 hbi2 i0 i1 i2;go_wp2_with fail;refine wp_region_quiet_below (by kernel_rfl) (by kernel_rfl) ?_;repeat (go_big_quiet_step ((fail)))
   refine wpQuiet_nil (qnl ?_);intro w4 ew4;have HB5:=lhd (HM2.out.next ew4);have HB6:=lhd ((HB5.out.put (m':={ m with pc:=wrap64 (m.pc+1) }) 0 (.int .i64 (wrap64 (m.pc+1))) rfl rfl rfl).weak HXW.out);have HR6:=lhd (HR2.out.trans (((MR.of_ext ew4 HM2.out.low).weak HXW.out).trans (MR.set (i:=0) (Value.int .i64 (wrap64 (m.pc+1))) HB6.out.xp)));have g0:=HB5.out.box.cell 0;have g0':w4.cell? ⟨p,0,none⟩=some (.int .i64 m.pc):=g0
   have g0f:=HB5.out.box.free 0;have ja:=j2 w4 ew4;clear g0;go_wp2
   first
    | exact bodyPost_end (results_none rfl _ _ _) rfl ⟨rfl,⟨_,_,HB6.out⟩,HR6.out⟩
    | exact bodyPost_ret (results_none rfl _ _ _) rfl ⟨rfl,⟨_,_,HB6.out⟩,HR6.out⟩
 by_cases h11:o=11
 ·subst h11
  by_cases hl:m.reg=a
  ·have hd:(m.reg==a)=true:=by simp [hl]
   have HM:Hid (m.step (11,a,z)={ m with pc:=z }):=by show _=_;rw [HST.out];simp [hl]
   rw [HM.out];go_enter Tryz.func163,Tryz.ntmps163;go_wp2_with fail;rw [← hW1.out];refine CR.out.mono ?_;rintro _ w2 ⟨rfl,⟨vs2,vq2,hm⟩,hr2⟩;have hbi2:Box w2 w.heap.size #[.int .i64 11,.int .i64 a,.int .i64 z] 79:=(hr2.kept _ (.inr rfl)).trans HBI.out
   have j0:∀ w',Ext w2 w'→w'.cell? ⟨w.heap.size,0,none⟩=some (.int .i64 11):=hbi2.at 0
   have j1:∀ w',Ext w2 w'→w'.cell? ⟨w.heap.size,1,none⟩=some (.int .i64 a):=hbi2.at 1
   have j2:∀ w',Ext w2 w'→w'.cell? ⟨w.heap.size,2,none⟩=some (.int .i64 z):=hbi2.at 2
   have s0:∀ w',Ext w2 w'→w'.cell? ⟨p,0,none⟩=some (.int .i64 m.pc):=fun w' e=>(hm.box.ext e).cell 0
   have s1:∀ w',Ext w2 w'→w'.cell? ⟨p,1,none⟩=some (.int .i64 m.reg):=fun w' e=>(hm.box.ext e).cell 1
   have s7:∀ w',Ext w2 w'→w'.cell? ⟨p,7,none⟩=some (.int .i64 m.state):=fun w' e=>(hm.box.ext e).cell 7
   have f0:=hm.box.free 0;have f7:=hm.box.free 7;have HR2:=lhd (HR1.out.trans (hr2.weak HXW.out));have HM2:=lhd hm;clear hm hr2 hbi2 i0 i1 i2;go_wp2_with fail;refine wp_region_quiet_below (by kernel_rfl) (by kernel_rfl) ?_;repeat (go_big_quiet_step ((fail)))
   refine wpQuiet_nil (qnl ?_);intro w4 ew4;have HB5:=lhd (HM2.out.next ew4);have HB6:=lhd ((HB5.out.put (m':={ m with pc:=z }) 0 (.int .i64 (z)) rfl rfl rfl).weak HXW.out);have HR6:=lhd (HR2.out.trans (((MR.of_ext ew4 HM2.out.low).weak HXW.out).trans (MR.set (i:=0) (Value.int .i64 (z)) HB6.out.xp)));have g0:=HB5.out.box.cell 0;have g0':w4.cell? ⟨p,0,none⟩=some (.int .i64 m.pc):=g0
   have g0f:=HB5.out.box.free 0;have ja:=j2 w4 ew4;clear g0;go_wp2
   first
    | exact bodyPost_end (results_none rfl _ _ _) rfl ⟨rfl,⟨_,_,HB6.out⟩,HR6.out⟩
    | exact bodyPost_ret (results_none rfl _ _ _) rfl ⟨rfl,⟨_,_,HB6.out⟩,HR6.out⟩
  ·have hd:(m.reg==a)=false:=by simp [hl]
   have HM:Hid (m.step (11,a,z)={ m with pc:=wrap64 (m.pc+1) }):=by show _=_;rw [HST.out];simp [hl]
   rw [HM.out];go_enter Tryz.func163,Tryz.ntmps163;go_wp2_with fail;rw [← hW1.out];refine CR.out.mono ?_;rintro _ w2 ⟨rfl,⟨vs2,vq2,hm⟩,hr2⟩;have hbi2:Box w2 w.heap.size #[.int .i64 11,.int .i64 a,.int .i64 z] 79:=(hr2.kept _ (.inr rfl)).trans HBI.out
   have j0:∀ w',Ext w2 w'→w'.cell? ⟨w.heap.size,0,none⟩=some (.int .i64 11):=hbi2.at 0
   have j1:∀ w',Ext w2 w'→w'.cell? ⟨w.heap.size,1,none⟩=some (.int .i64 a):=hbi2.at 1
   have j2:∀ w',Ext w2 w'→w'.cell? ⟨w.heap.size,2,none⟩=some (.int .i64 z):=hbi2.at 2
   have s0:∀ w',Ext w2 w'→w'.cell? ⟨p,0,none⟩=some (.int .i64 m.pc):=fun w' e=>(hm.box.ext e).cell 0
   have s1:∀ w',Ext w2 w'→w'.cell? ⟨p,1,none⟩=some (.int .i64 m.reg):=fun w' e=>(hm.box.ext e).cell 1
   have s7:∀ w',Ext w2 w'→w'.cell? ⟨p,7,none⟩=some (.int .i64 m.state):=fun w' e=>(hm.box.ext e).cell 7
   have f0:=hm.box.free 0;have f7:=hm.box.free 7;have HR2:=lhd (HR1.out.trans (hr2.weak HXW.out));have HM2:=lhd hm;clear hm hr2 hbi2 i0 i1 i2;go_wp2_with fail;refine wp_region_quiet_below (by kernel_rfl) (by kernel_rfl) ?_;repeat (go_big_quiet_step ((fail)))
   refine wpQuiet_nil (qnl ?_);intro w4 ew4;have HB5:=lhd (HM2.out.next ew4);have HB6:=lhd ((HB5.out.put (m':={ m with pc:=wrap64 (m.pc+1) }) 0 (.int .i64 (wrap64 (m.pc+1))) rfl rfl rfl).weak HXW.out);have HR6:=lhd (HR2.out.trans (((MR.of_ext ew4 HM2.out.low).weak HXW.out).trans (MR.set (i:=0) (Value.int .i64 (wrap64 (m.pc+1))) HB6.out.xp)));have g0:=HB5.out.box.cell 0;have g0':w4.cell? ⟨p,0,none⟩=some (.int .i64 m.pc):=g0
   have g0f:=HB5.out.box.free 0;have ja:=j2 w4 ew4;clear g0;go_wp2
   first
    | exact bodyPost_end (results_none rfl _ _ _) rfl ⟨rfl,⟨_,_,HB6.out⟩,HR6.out⟩
    | exact bodyPost_ret (results_none rfl _ _ _) rfl ⟨rfl,⟨_,_,HB6.out⟩,HR6.out⟩
 have HM:Hid (m.step (o,a,z)=m.moves (o,a,z)):=by show _=_;rw [HST.out,if_neg h17,if_neg h12,if_neg h5,if_neg h11]
 rw [HM.out];have n17:(o==17)=false:=by simp [h17]
 have n12:(o==12)=false:=by simp [h12]
 have n5:(o==5)=false:=by simp [h5]
 have n11:(o==11)=false:=by simp [h11]
 go_enter Tryz.func163,Tryz.ntmps163;go_wp2_with fail;rw [← hW1.out];refine CR.out.mono ?_;rintro _ w2 ⟨rfl,⟨vs2,vq2,hm⟩,hr2⟩;have hbi2:Box w2 w.heap.size #[.int .i64 o,.int .i64 a,.int .i64 z] 79:=(hr2.kept _ (.inr rfl)).trans HBI.out
 have j0:∀ w',Ext w2 w'→w'.cell? ⟨w.heap.size,0,none⟩=some (.int .i64 o):=hbi2.at 0
 have j1:∀ w',Ext w2 w'→w'.cell? ⟨w.heap.size,1,none⟩=some (.int .i64 a):=hbi2.at 1
 have j2:∀ w',Ext w2 w'→w'.cell? ⟨w.heap.size,2,none⟩=some (.int .i64 z):=hbi2.at 2
 have s0:∀ w',Ext w2 w'→w'.cell? ⟨p,0,none⟩=some (.int .i64 m.pc):=fun w' e=>(hm.box.ext e).cell 0
 have s1:∀ w',Ext w2 w'→w'.cell? ⟨p,1,none⟩=some (.int .i64 m.reg):=fun w' e=>(hm.box.ext e).cell 1
 have s7:∀ w',Ext w2 w'→w'.cell? ⟨p,7,none⟩=some (.int .i64 m.state):=fun w' e=>(hm.box.ext e).cell 7
 have f0:=hm.box.free 0;have f7:=hm.box.free 7;have HR2:=lhd (HR1.out.trans (hr2.weak HXW.out));have HM2:=lhd hm;clear hm hr2 hbi2 i0 i1 i2;go_wp2_with fail;refine (CM.out _ ⟨_,_,HM2.out⟩).mono ?_;rintro _ w3 ⟨rfl,⟨vs3,vq3,hm3⟩,hr3⟩;go_wp2
 first
  | exact bodyPost_end (results_none rfl _ _ _) rfl ⟨rfl,⟨_,_,hm3.weak HXW.out⟩,HR2.out.trans (hr3.weak HXW.out)⟩
  | exact bodyPost_ret (results_none rfl _ _ _) rfl ⟨rfl,⟨_,_,hm3.weak HXW.out⟩,HR2.out.trans (hr3.weak HXW.out)⟩
end Go.Proofs.YtpmcofmdjckijaaGreat
namespace Go.Proofs.YtpmcofmdjckijaaGreat
open Go.RowKit
structure Mach.Ok (m:Mach):Prop where
 st:m.stack.length≤60
 sm:m.sums.length≤30
theorem Mach.Ok.fail {m:Mach} (h:m.Ok) (c:Int):(m.fail c).Ok:=⟨h.st,h.sm⟩
theorem Mach.Ok.start {m:Mach} (h:m.Ok) (c:Int):(m.start c).Ok:=by unfold Mach.start;split<;>exact ⟨h.st,h.sm⟩
theorem Mach.Ok.push {m:Mach} (h:m.Ok) (c:Int):(m.push c).Ok:=by
 unfold Mach.push
 split
 ·exact h.fail 8
 ·exact ⟨by simp;omega,h.sm⟩
theorem Mach.Ok.pop {m:Mach} (h:m.Ok):m.pop.Ok:=by
 unfold Mach.pop
 split
 ·exact h.fail 8
 ·exact ⟨by have:=h.st;simp;omega,h.sm⟩
theorem Mach.Ok.pc {m:Mach} (h:m.Ok) (c:Int):({ m with pc:=c }:Mach).Ok:=⟨h.st,h.sm⟩
theorem Mach.Ok.loop {m:Mach} (h:m.Ok) (a:Int):(m.loop a).Ok:=by
 unfold Mach.loop
 split
 ·exact h.pop
 ·rename_i h0
  split
  ·exact h.pop.pc a
  ·refine ⟨?_,h.pop.sm⟩
   have:=h.st;unfold Mach.pop;rw [if_neg h0];simp;omega
theorem Mach.Ok.reads {m:Mach} (h:m.Ok) (x:Ins):(m.reads x).1.Ok:=by
 unfold Mach.reads;repeat' split
 all_goals first | exact h | exact h.fail _ | exact h.start _ | exact Mach.Ok.start (m:={ m with reg:=0 }) ⟨h.st,h.sm⟩ _ | (show (m.start 1).Ok;exact h.start 1)
theorem Mach.Ok.moves {m:Mach} (h:m.Ok) (x:Ins):(m.moves x).Ok:=by
 unfold Mach.moves;repeat' split
 all_goals first | exact h | exact (h.push _).pc _ | exact h.push _ | exact h.loop _ | exact h.pc _ | exact h.pop.pc _ | exact h.pop | exact h.fail _ | skip
 exact ⟨h.st,by simp;omega⟩
theorem Mach.Ok.step {m:Mach} (h:m.Ok) (x:Ins):(m.step x).Ok:=by
 unfold Mach.step;repeat' split
 all_goals first | exact h.reads _ | exact ⟨h.st,h.sm⟩ | exact h.fail _ | exact h.pc _ | exact h.moves _
def advN (cs:List Ins):Nat→Mach→Mach
 | 0,m=>if m.state=0∧m.started=false then m.fail 8 else m
 | f+1,m=>if m.state=0∧m.started=false then (if inB m.pc 0 ((cs.length:Int)-1) then advN cs f (m.step (insAt cs m.pc)) else m.fail 8) else m
theorem advN_ok (cs:List Ins):∀ f (m:Mach),m.Ok→(advN cs f m).Ok
 | 0,m,h=>by rw [advN];split;exact h.fail 8;exact h
 | f+1,m,h=>by
  rw [advN]
  split
  ·split
   ·exact advN_ok cs f _ (h.step _)
   ·exact h.fail 8
  ·exact h
theorem advN_stop {cs:List Ins} {f:Nat} {m:Mach} (h:¬ (m.state=0∧m.started=false)):advN cs f m=m:=by cases f<;>rw [advN,if_neg h]
theorem advN_out {cs:List Ins} {f:Nat} {m:Mach} (h:m.state=0∧m.started=false) (hi:inB m.pc 0 ((cs.length:Int)-1)=false):advN cs f m=m.fail 8:=by
 cases f with
 | zero=>rw [advN,if_pos h]
 | succ f=>rw [advN,if_pos h,hi];rfl
theorem advN_go {cs:List Ins} {f:Nat} {m:Mach} (h:m.state=0∧m.started=false) (hi:inB m.pc 0 ((cs.length:Int)-1)=true):advN cs (f+1) m=advN cs f (m.step (insAt cs m.pc)):=by rw [advN,if_pos h,hi];rfl
def Mach.mid (m:Mach) (x:Ins) (b:Int):Mach × Int :=
 if x.1=1 then ((if x.2.2=1 then { m with reg:=wrap64 (m.reg+wrap64 (b*2^(8*(x.2.1-1-m.left)).toNat)) } else { m with reg:=wrap64 (wrap64 (m.reg*256)+b) }),wrap64 (m.pc+1))
 else if x.1=2 then ((if b=x.2.1 then m else m.fail 2),wrap64 (m.pc+1))
 else if x.1=13 then ((if 1<b then m.fail 4 else m),if b=0 then x.2.1 else wrap64 (m.pc+1))
 else if x.1=16 then ((if m.escaped=true∨b≠x.2.1 then { m with left:=1,escaped:=!m.escaped&&b==92 } else m),wrap64 (m.pc+1))
 else (m,wrap64 (m.pc+1))
def Mach.done (m:Mach) (n:Int):Mach:=if m.state=0∧m.left=0 then { m with started:=false,pc:=n } else m
def Mach.take (m:Mach) (x:Ins) (b:Int):Mach:=(m.mid x b).1.done (m.mid x b).2
theorem Mach.Ok.take {m:Mach} (h:m.Ok) (x:Ins) (b:Int):(m.take x b).Ok:=by
 have h1:(m.mid x b).1.Ok:=by
  unfold Mach.mid;repeat' split
  all_goals exact ⟨h.st,h.sm⟩
 unfold Mach.take Mach.done
 split
 ·exact ⟨h1.st,h1.sm⟩
 ·exact h1
def sumUp (s b:Int):Int:=Int.tmod (wrap64 (s+b)) 256
def Mach.eat (m:Mach) (b:Int):Mach:={ m with sums:=m.sums.map (sumUp · b),read:=wrap64 (m.read+1),left:=wrap64 (m.left-1) }
theorem Mach.Ok.eat {m:Mach} (h:m.Ok) (b:Int):(m.eat b).Ok:=⟨h.st,by have:=h.sm;unfold Mach.eat;simp;omega⟩
def Mach.byteI (m:Mach) (x:Ins) (b:Int):Mach :=
 if x.1=1∧inB m.left 1 x.2.1=false then m.fail 8
 else if x.1=15 then
  (if m.sums.length=0 then m.fail 8
   else if m.sums.getLastD 0=b then (({ m with sums:=m.sums.dropLast }:Mach).eat b).take x b
   else m.fail 5)
 else (m.eat b).take x b
theorem Mach.Ok.byteI {m:Mach} (h:m.Ok) (x:Ins) (b:Int):(m.byteI x b).Ok:=by
 unfold Mach.byteI
 split
 ·exact h.fail 8
 split
 ·split
  ·exact h.fail 8
  split
  ·exact Mach.Ok.take (Mach.Ok.eat (m:={ m with sums:=m.sums.dropLast }) ⟨h.st,by have:=h.sm;simp;omega⟩ b) x b
  ·exact h.fail 5
 ·exact (h.eat b).take x b
def Mach.byte (cs:List Ins) (m:Mach) (b:Int):Mach:=if inB m.pc 0 ((cs.length:Int)-1) then m.byteI (insAt cs m.pc) b else m.fail 8
def feedO (cs:List Ins) (o:Mach) (b:Int):Mach:=if o.state=1 then o.fail 7 else if o.state=0 then Mach.byte cs o b else o
theorem Mach.Ok.byte {m:Mach} (h:m.Ok) (cs:List Ins) (b:Int):(Mach.byte cs m b).Ok:=by
 unfold Mach.byte
 split
 ·exact h.byteI _ b
 ·exact h.fail 8
theorem feedO_ok {cs:List Ins} {o:Mach} (h:o.Ok) (b:Int):(feedO cs o b).Ok:=by
 unfold feedO
 split
 ·exact h.fail 7
 split
 ·exact h.byte cs b
 ·exact h
def advF (f:Bool) (cs:List Ins) (m:Mach):Mach :=
 if m.state=0 then (if f&&!(m.started&&!inB m.pc 0 ((cs.length:Int)-1)) then advN cs 100001 m else m.fail 8) else m
theorem advF_ok {f:Bool} {cs:List Ins} {m:Mach} (h:m.Ok):(advF f cs m).Ok:=by
 unfold advF
 split
 ·split
  ·exact advN_ok cs _ m h
  ·exact h.fail 8
 ·exact h
def feedF (f:Bool) (cs:List Ins) (m:Mach) (b:Int):Mach:=feedO cs (advF f cs m) b
theorem feedF_ok {f:Bool} {cs:List Ins} {m:Mach} (h:m.Ok) (b:Int):(feedF f cs m b).Ok:=feedO_ok (advF_ok h) b
def feedL (f:Bool) (cs:List Ins) (m:Mach) (l:List UInt8):Mach:=l.foldl (fun m b=>feedF f cs m (b.toNat:Int)) m
theorem feedL_ok {f:Bool} {cs:List Ins}:∀ {l:List UInt8} {m:Mach},m.Ok→(feedL f cs m l).Ok
 | [],m,h=>h
 | b::t,m,h=>feedL_ok (l:=t) (feedF_ok h _)
theorem feedL_snoc (f:Bool) (cs:List Ins) (m:Mach) (l:List UInt8) (k:Nat) (hk:k<l.length):feedL f cs m (l.take (k+1))=feedF f cs (feedL f cs m (l.take k)) (l[k].toNat:Int):=by
 unfold feedL;rw [List.take_succ_eq_append_getElem hk,List.foldl_append];rfl
theorem start_pc {m:Mach} {n:Int} (h0:m.started=false) (h:(m.start n).started=true):(m.start n).pc=m.pc:=by
 unfold Mach.start at h ⊢
 split
 ·rename_i hn;rw [if_pos hn] at h;rw [h0] at h;cases h
 ·rfl
theorem loop_started (m:Mach) (a:Int):(m.loop a).started=m.started:=by
 unfold Mach.loop Mach.pop Mach.fail;repeat' split
 all_goals rfl
theorem push_started (m:Mach) (n:Int):(m.push n).started=m.started:=by
 unfold Mach.push Mach.fail
 split<;>rfl
theorem pop_started (m:Mach):m.pop.started=m.started:=by
 unfold Mach.pop Mach.fail
 split<;>rfl
theorem moves_started (m:Mach) (x:Ins):(m.moves x).started=m.started:=by
 unfold Mach.moves;repeat' split
 all_goals first | rfl | exact loop_started _ _ | exact push_started _ _ | exact pop_started _
theorem step_pc {m:Mach} {x:Ins} (h0:m.started=false) (h:(m.step x).started=true):(m.step x).pc=m.pc:=by
 unfold Mach.step at h ⊢
 by_cases hr:(m.reads x).2=true
 ·rw [if_pos hr] at h ⊢
  clear hr;unfold Mach.reads at h ⊢
  by_cases h1:x.1=1
  ·rw [if_pos h1] at h ⊢;exact start_pc (m:={ m with reg:=0 }) h0 h
  by_cases h3:x.1=3
  ·rw [if_neg h1,if_pos h3] at h ⊢;exact start_pc h0 h
  by_cases h4:x.1=4
  ·rw [if_neg h1,if_neg h3,if_pos h4] at h ⊢;exact start_pc h0 h
  by_cases h2:x.1=2
  ·rw [if_neg h1,if_neg h3,if_neg h4,if_pos h2] at h ⊢;exact start_pc h0 h
  by_cases h13:x.1=13
  ·rw [if_neg h1,if_neg h3,if_neg h4,if_neg h2,if_pos h13] at h ⊢;exact start_pc h0 h
  by_cases h16:x.1=16
  ·rw [if_neg h1,if_neg h3,if_neg h4,if_neg h2,if_neg h13,if_pos h16] at h ⊢;exact start_pc h0 h
  by_cases h15:x.1=15
  ·rw [if_neg h1,if_neg h3,if_neg h4,if_neg h2,if_neg h13,if_neg h16,if_pos h15] at h ⊢
   by_cases hq:m.sums.length=0
   ·rw [if_pos hq] at h ⊢;rfl
   ·rw [if_neg hq] at h ⊢;exact start_pc h0 h
  rw [if_neg h1,if_neg h3,if_neg h4,if_neg h2,if_neg h13,if_neg h16,if_neg h15] at h ⊢
 ·rw [if_neg hr] at h ⊢
  by_cases h17:x.1=17
  ·rw [if_pos h17] at h ⊢
  by_cases h12:x.1=12
  ·rw [if_neg h17,if_pos h12] at h ⊢;rfl
  by_cases h5:x.1=5
  ·rw [if_neg h17,if_neg h12,if_pos h5] at h ⊢
   by_cases hl:x.2.1<m.reg
   ·rw [if_pos hl] at h ⊢;rfl
   ·rw [if_neg hl] at h ⊢;exact absurd h (by show ¬ m.started=true;rw [h0];simp)
  by_cases h11:x.1=11
  ·rw [if_neg h17,if_neg h12,if_neg h5,if_pos h11] at h ⊢
   by_cases hl:m.reg=x.2.1
   ·rw [if_pos hl] at h ⊢;exact absurd h (by show ¬ m.started=true;rw [h0];simp)
   ·rw [if_neg hl] at h ⊢;exact absurd h (by show ¬ m.started=true;rw [h0];simp)
  rw [if_neg h17,if_neg h12,if_neg h5,if_neg h11] at h ⊢;rw [moves_started,h0] at h;cases h
theorem advN_run {cs:List Ins}:∀ {f:Nat} {m:Mach},(m.started=true→inB m.pc 0 ((cs.length:Int)-1)=true)→(advN cs f m).state=0→inB (advN cs f m).pc 0 ((cs.length:Int)-1)=true
 | 0,m,hp,h=>by
  rw [advN] at h ⊢
  by_cases hr:m.state=0∧m.started=false
  ·rw [if_pos hr] at h;exact absurd h (by show ¬ (2:Int)=0;decide)
  ·rw [if_neg hr] at h ⊢
   exact hp (by cases hs:m.started;exact absurd ⟨h,hs⟩ hr;rfl)
 | f+1,m,hp,h=>by
  rw [advN] at h ⊢
  by_cases hr:m.state=0∧m.started=false
  ·rw [if_pos hr] at h ⊢
   cases hi:inB m.pc 0 ((cs.length:Int)-1)
   ·rw [hi] at h;exact absurd h (by show ¬ (2:Int)=0;decide)
   ·rw [hi] at h
    exact advN_run (fun hs=>by rw [step_pc hr.2 hs];exact hi) h
  ·rw [if_neg hr] at h ⊢
   exact hp (by cases hs:m.started;exact absurd ⟨h,hs⟩ hr;rfl)
theorem advF_run {f:Bool} {cs:List Ins} {m:Mach} (h:(advF f cs m).state=0):f=true∧inB (advF f cs m).pc 0 ((cs.length:Int)-1)=true:=by
 unfold advF at h ⊢
 by_cases hs:m.state=0
 ·rw [if_pos hs] at h ⊢
  cases hf:(f&&!(m.started&&!inB m.pc 0 ((cs.length:Int)-1)))
  ·rw [hf] at h;exact absurd h (by show ¬ (2:Int)=0;decide)
  ·rw [hf] at h
   simp only [Bool.and_eq_true,Bool.not_eq_true',Bool.and_eq_false_iff,Bool.not_eq_false'] at hf;refine ⟨hf.1,advN_run (fun hst=>?_) h⟩;rcases hf.2 with h' | h'
   ·rw [hst] at h';cases h'
   ·exact h'
 ·rw [if_neg hs] at h;exact absurd h hs
end Go.Proofs.YtpmcofmdjckijaaGreat
namespace Go.Proofs.YtpmcofmdjckijaaGreat
open Go.RowKit Go.Sort
theorem OwnL.base {w0 w:World} {v:Value} {l:List Int} (h:OwnL vint 3 w0 w v l) (hp:0<l.length):∃ g cap,v=.slice (some ⟨g,0,none⟩) l.length cap∧l.length≤cap∧cap≤maxLen:=by
 rcases h.2 with ⟨hv,h0⟩ | ⟨g,cap,cur,hv,hb,hg,hnc,hcm,hcs,htake⟩
 ·omega
 ·exact ⟨g,cap,hv,hnc,hcm⟩
theorem OwnL.cellN {w0 w:World} {g n cap:Nat} {l:List Int} (h:OwnL vint 3 w0 w (.slice (some ⟨g,0,none⟩) n cap) l) (k:Nat) (hk:k<l.length):w.cell? ⟨g,k,none⟩=some (.int .i64 l[k]):=by
 have hn:n=l.length:=by
  rcases h.2 with ⟨hv,h0⟩ | ⟨g',cap',cur,hv,r⟩
  ·cases hv
  ·injection hv
 subst hn
 have:=World.ownsRow.cellAt h k (by omega);rw [this];simp [hk];rfl
theorem OwnL.freeN {w0 w:World} {g n cap:Nat} {l:List Int} (h:OwnL vint 3 w0 w (.slice (some ⟨g,0,none⟩) n cap) l) (k:Nat):w.frozen? ⟨g,k,none⟩=false:=by
 have hn:n=l.length:=by
  rcases h.2 with ⟨hv,h0⟩ | ⟨g',cap',cur,hv,r⟩
  ·cases hv
  ·injection hv
 subst hn;exact World.ownsRow.frozenAt h k
theorem OwnL.putN {w0 w:World} {g n cap:Nat} {l:List Int} (h:OwnL vint 3 w0 w (.slice (some ⟨g,0,none⟩) n cap) l) (k:Nat) (x:Int) :
 OwnL vint 3 w0 (w.setCell ⟨g,k,none⟩ (.int .i64 x)) (.slice (some ⟨g,0,none⟩) n cap) (l.set k x):=by
 have hn:n=l.length:=by
  rcases h.2 with ⟨hv,h0⟩ | ⟨g',cap',cur,hv,r⟩
  ·cases hv
  ·injection hv
 subst hn
 have:=(World.ownsRow.stored h k (.int .i64 x)).1;unfold OwnL;rw [List.length_set,List.map_set];exact this
theorem MB.rowQ {X:Nat→Prop} {W0 w:World} {p g n cap:Nat} {m:Mach} {vs:Value} (h:MB X W0 w p m vs (.slice (some ⟨g,0,none⟩) n cap)) (k:Nat) (x:Int) :
 MB X W0 (w.setCell ⟨g,k,none⟩ (.int .i64 x)) p { m with sums:=m.sums.set k x } vs (.slice (some ⟨g,0,none⟩) n cap):=by
 have hg:(Value.slice (some ⟨g,0,none⟩) n cap).ownBlock=some g:=rfl
 exact ⟨h.lo,h.box.other (fun hh=>h.n2 (by rw [hg,hh])) _ _,h.os.other _ _ (fun hh=>h.far g hh hg),h.oq.putN k x,h.n1,h.n2,h.far,h.xp,h.xs,h.xq,fun k hk=>by simpa using h.low k hk,h.ext.setCell (p:=⟨g,k,none⟩) (World.ownsRow.lt h.oq g hg).1 _⟩
theorem MB.gQ {X:Nat→Prop} {W0 w:World} {p g n cap:Nat} {m:Mach} {vs:Value} (h:MB X W0 w p m vs (.slice (some ⟨g,0,none⟩) n cap)):¬ X g:=h.xq g rfl
theorem MB.popQ {X:Nat→Prop} {W0 w:World} {p n cap:Nat} {A:Option Addr} {m:Mach} {vs:Value} (h:MB X W0 w p m vs (.slice A n cap)) (hp:0<m.sums.length) :
 MB X W0 (w.setCell ⟨p,3,none⟩ (.slice A (n-1) cap)) p { m with sums:=m.sums.dropLast } vs (.slice A (n-1) cap):=by
 have hb:(Value.slice A (n-1) cap).ownBlock=(Value.slice A n cap).ownBlock:=by cases A<;>rfl
 exact h.putQ (m':={ m with sums:=m.sums.dropLast }) (OwnL.pop h.oq hp) h.ext (.inl hb) (World.grownBy.refl _ _) rfl rfl
theorem last_at (l:List Int) (hp:0<l.length):l.getLastD 0=l[l.length-1]'(by omega):=by
 rw [List.getLastD_eq_getLast?,List.getLast?_eq_getElem?,List.getElem?_eq_getElem (by omega)];rfl
theorem map_take_succ (l r:List Int) (f:Int→Int) (k:Nat) (hk:k<l.length):((l.take k).map f++l.drop k).set k (f l[k])=(l.take (k+1)).map f++l.drop (k+1):=by
 rw [List.set_append_right _ _ (by simp;omega),List.length_map,List.length_take,Nat.min_eq_left (by omega),Nat.sub_self,List.drop_eq_getElem_cons hk,List.set_cons_zero,List.take_succ_eq_append_getElem hk,List.map_append,List.append_assoc];rfl
theorem l1BelowB_c (n:Int) (wb w:World) (p:Nat) (A:Option Addr) (l:List UInt8) (c:Nat) (hA:Bs wb A l c) (hC:Cur wb w p A l c) :
 Calls Tryz.prog 122 #[.pointer (some ⟨p,0,none⟩),.int .i64 n] w fun e w'=>∃ x:Nat,below n x∧e=.returned (.int .i64 x)∧Cur wb w' p A l c∧w.grownBy w' (some p):=by
 have CB:=lhd (fun w h=>l1Byte_c wb w p A l c hA h)
 by_cases h0:n≤0
 ·go_enter Tryz.func122,Tryz.ntmps122
  go_wp2;go_ret;exact ⟨0,by unfold below;rw [if_pos h0],rfl,hC,World.grownBy.refl _ _⟩
 ·by_cases h1:n≤256
  ·go_enter Tryz.func122,Tryz.ntmps122
   go_wp2_with fail;refine (CB.out _ hC).mono ?_;rintro _ w1 ⟨x,hx,rfl,hC1,hg1⟩;go_wp2;go_ret;refine ⟨((x:Int)%n).toNat,?_,?_,hC1,hg1⟩
   ·unfold below;rw [if_neg (by omega)];have:=Int.emod_lt_of_pos (x:Int) (show 0<n by omega);have:=Int.emod_nonneg (x:Int) (show n≠0 by omega);omega
   ·have:=Int.emod_nonneg (x:Int) (show n≠0 by omega)
    exact ret_i64 (Int.toNat_of_nonneg this).symm
  ·go_enter Tryz.func122,Tryz.ntmps122
   go_wp2_with fail;refine (CB.out _ hC).mono ?_;rintro _ w1 ⟨x,hx,rfl,hC1,hg1⟩;go_wp2_with fail;refine (CB.out _ hC1).mono ?_;rintro _ w2 ⟨y,hy,rfl,hC2,hg2⟩;go_wp2_with fail;refine (CB.out _ hC2).mono ?_;rintro _ w3 ⟨z,hz,rfl,hC3,hg3⟩;go_wp2;go_ret;have hq:=Int.emod_nonneg ((x:Int)*65536+(y:Int)*256+(z:Int)) (show n≠0 by omega);refine ⟨(((x:Int)*65536+(y:Int)*256+(z:Int))%n).toNat,?_,?_,hC3,(hg1.trans hg2).trans hg3⟩
   ·unfold below;rw [if_neg (by omega)];have:=Int.emod_lt_of_pos ((x:Int)*65536+(y:Int)*256+(z:Int)) (show 0<n by omega);omega
   ·exact ret_i64 (Int.toNat_of_nonneg hq).symm
theorem l1BentB_c (wb w:World) (p:Nat) (A:Option Addr) (l:List UInt8) (c:Nat) (hA:Bs wb A l c) (hC:Cur wb w p A l c) (B:Option Addr) (m:List UInt8) (cB:Nat) (hB:Bs w B m cB) (hm:m.length≤1000000000000) :
 Calls Tryz.prog 121 #[.pointer (some ⟨p,0,none⟩),.slice B m.length cB] w fun e w'=>∃ v m',m'.length≤m.length+1∧e=.returned v∧OwnL vu8 5 wb w' v m'∧Ext wb w'∧(∀ g,v.ownBlock=some g→w.heap.size≤g)∧Cur wb w' p A l c∧w.grownBy w' (some p):=by
 have CBe:=lhd (fun n w h=>l1BelowB_c n wb w p A l c hA h);have CIn:=lhd (fun w h=>l1IntLit_c [0,1,128,255] (by simp) (by simp) 4 rfl #[.int .i64 0,.int .i64 1,.int .i64 128,.int .i64 255] rfl wb w p A l c hA h);have HO:Hid (OwnL vu8 5 wb (w.alloc (.cells #[] 5)) (.slice (some ⟨w.heap.size,0,none⟩) 0 0) []):=OwnL.empty hC.2.1
 have HS:=lhd (hB.src (Ext_alloc (.cells #[] 5) (Ext.refl w)));have HB:Hid ((([]:List UInt8).length+m.length)*1≤140737488355328):=by show _≤_;simp;omega
 have HE:=lhd (Ext_alloc (.cells #[] 5) hC.2.1);clear hB;go_enter Tryz.func121,Tryz.ntmps121
 go_wp2_with (first
  | (at_builtin;refine wpList_appL rfl (.tmp 6) (.tmp 7) _ rfl E_u8 (by omega) wb _ vu8 (fun _=>rfl) _ rfl _ _ _ rfl [] m HO.out HE.out rfl HS.out HB.out ?_;intro v1 w1 ho1 he1 hv1 hg1))
 have hlt:=hC.lt;have hC4':=hC.2.1
 have hn1:v1.ownBlock≠some p:=by
  rcases hv1 with hv1 | hv1<;>(rw [hv1];intro hh;injection hh with hh;simp at hh;omega)
 have hC1:Cur wb w1 p A l c:=Cur.kept (hC.ext (Ext_alloc (.cells #[] 5) (Ext.refl w))) hg1 (by intro hh;injection hh with hh;simp at hh;omega) he1
 rw [List.nil_append] at ho1;have G1:w.grownBy w1 (some p):=grown_own (World.grownBy_alloc w (.cells #[] 5) (some p)) (by intro g hh;injection hh with hh;exact Nat.le_of_eq hh) hg1
 have hb1:∀ g,v1.ownBlock=some g→w.heap.size≤g:=by
  intro g hh;rcases hv1 with hv1 | hv1
  ·rw [hv1] at hh;injection hh with hh;simp at hh;omega
  ·rw [hv1] at hh;injection hh with hh;simp at hh;omega
 clear hv1 hg1 HS HB HE HO hC he1;go_wp2_with fail;refine (CBe.out 6 _ hC1).mono ?_;rintro _ w2 ⟨y,hy,rfl,hC2,hg2⟩;have hy5:y≤5:=by unfold below at hy;rw [if_neg (by omega)] at hy;omega
 have ho2:=OwnL.moved ho1 hg2 hn1;have G2:=G1.trans hg2;clear ho1 hC1 hg2 hy;obtain ⟨A2,c2,rfl,r2⟩:=OwnL.rd ho2 (by omega);rcases (by omega:y=0∨y=1∨y=2∨3≤y) with rfl | rfl | rfl | h3
 ·by_cases h0:0<m.length
  ·have hmi:(m.length:Int)≤1000000000001:=by omega
   go_wp2_with fail;refine (CBe.out m.length _ hC2).mono ?_;rintro _ w3 ⟨i,hi,rfl,hC3,hg3⟩;have hi2:i<m.length:=by unfold below at hi;rw [if_neg (by omega)] at hi;omega
   have ho3:=OwnL.moved ho2 hg3 hn1;have G3:=G2.trans hg3;clear ho2 hC2 hg3 hi r2;go_wp2_with fail;refine (CBe.out 256 _ hC3).mono ?_;rintro _ w4 ⟨x,hx,rfl,hC4,hg4⟩;have hx2:x<256:=by unfold below at hx;rw [if_neg (by omega)] at hx;omega
   have ho4:=OwnL.moved ho3 hg4 hn1;have G4:=G3.trans hg4;clear ho3 hC3 hg4 hx;obtain ⟨g,cap,hv,_,_⟩:=World.ownsRow.form ho4 h0;injection hv with hv1 _ hv3
   subst hv1;subst hv3;obtain ⟨⟨u0,hu⟩,hf⟩:=Own.slot ho4 i (by simp;omega);obtain ⟨ho',he'⟩:=Own.store ho4 hC4.2.1 i (.int .u8 (x:Int))
   have hset:(m.map vu8).set i (.int .u8 (x:Int))=(m.set i (UInt8.ofNat x)).map vu8:=by
    have:(UInt8.ofNat x).toNat=x:=by rw [UInt8.toNat_ofNat'];omega
    rw [List.map_set];simp [vu8,this]
   rw [hset] at ho'
   have HO':Hid (OwnL vu8 5 wb (w4.setCell ⟨g,i,none⟩ (.int .u8 (x:Int))) (.slice (some ⟨g,0,none⟩) m.length c2) (m.set i (UInt8.ofNat x))):=by
    show OwnL _ _ _ _ _ _;unfold OwnL;rw [List.length_set];exact ho'
   have HE':=lhd he';have hgb:w.heap.size≤g:=hb1 g rfl
   have HC':=lhd (hC4.set (a:=⟨g,i,none⟩) (fun hh=>hn1 (congrArg some hh)) (Nat.le_trans hC4'.size hgb) (.int .u8 (x:Int)));have HG':=lhd (grown_new (a:=⟨g,i,none⟩) G4 hgb (.int .u8 (x:Int)));clear ho' he' ho4 hC4 hset;go_wp2_with fail;go_ret;exact ⟨_,m.set i (UInt8.ofNat x),by simp,rfl,HO'.out,HE'.out,hb1,HC'.out,HG'.out⟩
  ·go_wp2_with fail
   go_ret;exact ⟨_,m,by omega,rfl,ho2,hC2.2.1,hb1,hC2,G2⟩
 ·have hmi:(m.length:Int)+1≤1000000000001:=by omega
  go_wp2_with fail;refine (CBe.out ((m.length:Int)+1) _ hC2).mono ?_;rintro _ w3 ⟨i,hi,rfl,hC3,hg3⟩;have hi2:i≤m.length:=by unfold below at hi;rw [if_neg (by omega)] at hi;omega
  have hcap:=r2.cap;have ho3:=OwnL.moved ho2 hg3 hn1;have G3:=G2.trans hg3;clear ho2 hC2 hg3 hi r2;go_wp2_with fail;go_ret;exact ⟨_,m.take i,by simp;omega,rfl,OwnL.take ho3 hi2,hC3.2.1,(fun g hh=>hb1 g ((ownBlock_len _ _ _ _).trans hh)),hC3,G3⟩
 ·go_wp2_with fail
  refine (CIn.out _ hC2).mono ?_;rintro _ w3 ⟨x,hx,rfl,hC3,hg3⟩;have ho3:=OwnL.moved ho2 hg3 hn1;have G3:=G2.trans hg3;have hx2:0≤x∧x<256:=by simp at hx;omega
  obtain ⟨x,rfl⟩:∃ k:Nat,x=(k:Int):=⟨x.toNat,by omega⟩;clear ho2 hC2 hg3 hx r2;have HB:Hid ((m.length+[UInt8.ofNat x].length)*1≤140737488355328):=by show _≤_;simp;omega
  have HCS:Hid (#[Value.int .u8 (x:Int)]=([UInt8.ofNat x].map vu8).toArray):=by
   show _=_
   have:(UInt8.ofNat x).toNat=x:=by rw [UInt8.toNat_ofNat'];omega
   simp [vu8,this]
  go_wp2_with (first
   | (at_builtin;refine wpList_appC rfl (.tmp 36) (.tmp 41) _ rfl E_u8 (by omega) wb _ vu8 (fun _=>rfl) _ rfl _ _ rfl m [UInt8.ofNat x] _ HCS.out ho3 hC3.2.1 rfl HB.out p hC3.lt hn1 ?_;intro v4 w4 ho4 he4 hn4 hg4 hb4 _))
  go_ret;exact ⟨_,m++[UInt8.ofNat x],by simp,rfl,ho4,he4,hb4 _ G3.size hb1,Cur.kept hC3 hg4 hn1 he4,grown_own G3 hb1 hg4⟩
 ·go_wp2_with fail
  go_ret;exact ⟨_,m,by omega,rfl,ho2,hC2.2.1,hb1,hC2,G2⟩
noncomputable def eqVs (a b:List DVal):Bool:=decide (a=b)
theorem Rd0.bs {w:World} {A:Option Addr} {l:List UInt8} {c:Nat} (h:Rd0 vu8 w A l c) {n:Nat} (hn:l.length≤n) (hm:n≤140737488351232):Bs w A l c:=⟨h,by omega⟩
structure VerdictD where
 parser:Int
 validator:Int
 machine:Int
 index:Bool
 lazy_:Bool
def VerdictD.val (x:VerdictD):Value:=.agg #[.int .i64 x.parser,.int .i64 x.validator,.int .i64 x.machine,.bool x.index,.bool x.lazy_]
def VerdictD.agree (x:VerdictD):Bool:=x.parser==x.validator&&(x.parser==x.machine)&&(x.index==(x.parser==0))&&(x.lazy_==x.index)
theorem iVerdictsAgree_c (x:VerdictD) (w:World):Gives Tryz.prog 9 #[x.val] w (.bool x.agree):=by
 obtain ⟨a,b,c,d,e⟩:=x;unfold VerdictD.val VerdictD.agree;dsimp only;cases h1:(a==b)<;>cases h2:(a==c)<;>cases h3:(d==(a==0))
 all_goals
  go_enter Tryz.func9,Tryz.ntmps9;go_wp2;go_ret;exact ⟨ret_bool (by cases d<;>cases e<;>revert h3<;>cases (a==0)<;>simp),Ext_alloc _ (Ext.refl _)⟩
def atV (l:List UInt8) (i:Nat):Int:=if h:i<l.length then ((l[i]'h).toNat:Int) else ((i:Int)*31+(l.length:Int)*7)%256
theorem atV_nn (l:List UInt8) (i:Nat):0≤atV l i:=by unfold atV;split<;>omega
theorem at_c (A:Option Addr) (l:List UInt8) (c:Nat) (i:Nat) (w:World) (h:Bs w A l c) (hi:i≤1000) (hL:l.length≤1048576) :
 Gives Tryz.prog 8 #[.slice A l.length c,.int .i64 i] w (.int .i64 (atV l i)):=by
 by_cases hlt:i<l.length
 ·obtain ⟨b,off,rfl,hb,hc⟩:=h.at i hlt
  have HE:Hid (atV l i=((l[i]'hlt).toNat:Int)):=dif_pos hlt
  rw [HE.out];simp only [vu8] at hc;have hx:=(l[i]'hlt).toNat_lt;generalize (l[i]'hlt).toNat=x at *;have b1:(i:Int)<(l.length:Int):=by omega
  go_enter Tryz.func8,Tryz.ntmps8;go_wp2;go_ret;exact ⟨rfl,Ext.refl _⟩
 ·have HE:Hid (atV l i=((i:Int)*31+(l.length:Int)*7)%256):=dif_neg hlt
  rw [HE.out];have b1:¬ (i:Int)<(l.length:Int):=by omega
  go_enter Tryz.func8,Tryz.ntmps8;go_wp2;go_ret;exact ⟨rfl,Ext.refl _⟩
theorem atV_lt (l:List UInt8) (i:Nat):atV l i<256:=by
 unfold atV
 split
 ·rename_i h;have:=(l[i]'h).toNat_lt;omega
 ·omega
end Go.Proofs.YtpmcofmdjckijaaGreat
