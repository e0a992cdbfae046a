/- Texts, laid into one. -/
import Derived.RangeFuncNested
import Derived.RangeFuncBound
import Derived.RangeFuncBox
import Derived.RangeFuncCalls
import Derived.RangeFuncLeaves
import Derived.Shelf.Abstract
import Derived.Shelf.RegionOpen
import Derived.OwnWalkIn
import Derived.TacticsInMore
import Derived.LoopNIn
import Derived.LoopIn
import Derived.Test.YtlfhealneccdkaaGreatDoorZDf27
import Derived.Sort.BigQuietIn
import Derived.Test.YtlfhealneccdkaaGreatDoorZDf28
set_option linter.unusedVariables false
set_option linter.unusedSimpArgs false
set_option maxRecDepth 100000
set_option maxHeartbeats 16000000
namespace Go.Proofs.YtlfhealneccdkaaGreatDoor
open Go.RowKit Go.Sort Go.Shelf
attribute [local go_sem] Oper.semAt_some
theorem wideFn (k:Nat):Fence.wide.fn k=True:=rfl
attribute [local go_sem] wideFn
attribute [local simp] wideFn
abbrev Step:={ s:ByteArray // goodStep s }
def rawS (l:List Step):List ByteArray:=l.map Subtype.val
theorem rawS_len (l:List Step):(rawS l).length=l.length:=List.length_map ..
theorem rawS_get (l:List Step) (k:Nat) (h:k<l.length):(rawS l)[k]?=some l[k].1:=by unfold rawS;simp [h]
theorem rawS_good (l:List Step):∀ s∈rawS l,goodStep s:=fun s hs=>by
 unfold rawS at hs;obtain ⟨z,_,rfl⟩:=List.mem_map.1 hs;exact z.2
theorem OwnL.cellsOf {α:Type} {f:α→Value} {e:TypeId} {w0 w:World} {v:Value} {x:α} {t:List α} (h:OwnL f e w0 w v (x::t)):∃ g cap cur,v=.slice (some ⟨g,0,none⟩) (t.length+1) cap∧w.heap[g]?=some (.cells cur e (0,0))∧t.length+1≤cap∧cur[0]?=some (f x)∧(∀ j y,t[j]?=some y→cur[j+1]?=some (f y)):=by
 rcases h.2 with ⟨_,h0⟩ | ⟨g,cap,cur,rfl,hb,hg,hnc,hcm,hcs,htake⟩
 ·simp at h0
 ·have key:∀ j u,((x::t).map f)[j]?=some u→cur[j]?=some u:=fun j u hu=>by
   have hlt:j<(x::t).length:=by
    have:=(List.getElem?_eq_some_iff.1 hu).1;simpa using this
   rw [← htake,List.getElem?_take,if_pos (by omega)] at hu
   simpa using hu
  exact ⟨g,cap,cur,rfl,hg,by simpa using hnc,key 0 _ (by simp),fun j y hy=>key (j+1) _ (by simp [hy])⟩
def SplitKp (n0:Nat) (A B:World):Prop:=Below n0 A B∧∀ (g:Nat) (cs:Array Value),A.heap[g]?=some (Obj.cells cs 9 (0,0))→cs[0]?=some (Value.string ⟨#[]⟩)→B.heap[g]?=A.heap[g]?
theorem SplitKp.trans {n0:Nat} {A B C:World} (h:SplitKp n0 A B) (k:SplitKp n0 B C):SplitKp n0 A C :=
 ⟨h.1.trans k.1,fun g cs h1 h2=>by
  have h3:=h.2 g cs h1 h2;exact (k.2 g cs (h3.trans h1) h2).trans h3⟩
theorem stepsIt_in (n:Nat) (hn:1≤n) (lp:Nat) (w1 W:World) (Bp:Nat) (ss:List Step) (hp0:0<ss.length) (hL:ss.length≤1000) (hs:(joinB (rawS ss)).size≤1000000)
 (hbp:W.cell? ⟨Bp,0,none⟩=some (.string (joinB (rawS ss))))
 (J Jx:List Step→World→Prop) (hJ:AbidesFrom W.heap.size J)
 (hY:∀ pre x W',J pre W'→pre.length<ss.length→YieldAt Fence.wide (n-1) Tryz.prog lp #[.string x.1] W' fun e W'' =>
  (e=.returned (.bool true)∧J (pre++[x]) W''∧SplitKp w1.heap.size W' W'')∨(e=.returned (.bool false)∧Jx (pre++[x]) W''))
 (eW:Ext w1 W) (h0:J [] W) :
 CallsIn Fence.wide n Tryz.prog 104 #[.func (.yield lp) #[] #[],.pointer (some ⟨Bp,0,none⟩)] W fun e W'=>(∃ v,e=.returned v) ∧
  ((∃ ys,ys=ss∧J ys W')∨(∃ pre,True∧Jx pre W')):=by
 refine callsIn_of_wp Tryz.func104 rfl trivial ?_ rfl;simp only [Tryz.ntmps104,List.size_toArray,List.length_cons,List.length_nil,Nat.reduceAdd,Nat.reduceSub,Array.replicate_succ,Array.replicate_zero,List.push_toArray,List.append_toArray,List.nil_append,List.cons_append];have hk:=hbp;have CS:=lhd (iSplitText_c (joinB (rawS ss)) W hs)
 have hsb:splitB (joinB (rawS ss))=⟨#[]⟩::rawS ss:=by
  cases ss with
  | nil=>simp at hp0
  | cons x t =>
   have h1:=splitB_cons (a:=⟨#[]⟩) (b:=x.1++joinB (rawS t)) (fun i hi=>by cases hi);rw [BA_nil'] at h1;have h2:rawS (x::t)=x.1::rawS t:=rfl
   rw [h2,joinB_cons,BA_assoc,h1,splitB_steps (rawS t) x.1 (good_step x.2).2 (fun y hy=>(good_step (rawS_good t y hy)).2)]
 rw [hsb] at CS;have HY:=lhd hY;have HJ:=lhd hJ;have H0:=lhd h0;clear hsb hbp hs hY hJ h0;have HLEN:=lhd (rawS_len ss);have HGET:Hid (∀ k (h:k<ss.length),(rawS ss)[k]?=some ss[k].1):=fun k h=>rawS_get ss k h
 gi_wp2_with (gi_at_call 105;refine (callsIn_wide.2 CS.out).mono ?_;rintro _ w2 ⟨v,rfl,ho,e2⟩;obtain ⟨g,cap,cur,rfl,hg,hcap,hc0,hcs⟩:=OwnL.cellsOf ho;rw [HLEN.out] at hcap ⊢;have HG:=lhd hg;have HC0:=lhd hc0;have HCS:=lhd hcs;have hcap1:¬ cap=1:=(by omega);have h1s:(1:Int)≤(ss.length:Int)+1:=(by omega);clear ho hg hc0 hcs)
 have HJ2:Hid (J [] w2):=HJ.out _ W w2 none H0.out (grown_ext e2 none) (fun r e=>by cases e)
 gi_loopw [9] (fun i wr=>∃ k:Nat,k≤ss.length∧i=.int .i64 k∧Hid (J (ss.take k) wr)∧Hid (Ext w1 wr)∧Hid (wr.heap[g]?=some (.cells cur 9 (0,0)))) (fun i _=>ss.length-(intOf i).toNat)
 case atStart=>exact ⟨0,by omega,rfl,by rw [List.take_zero];exact HJ2.out,eW.trans e2,HG.out⟩
 case round =>
  obtain ⟨k,hk,rfl,hJ,he,hgr⟩:=hrel
  by_cases hlt:k<ss.length
  ·have hki:(k:Int)<(ss.length:Int):=by omega
   have hcell:wr.cell? ⟨g,1+k,none⟩=some (.string ss[k].1):=by
    rw [cell_of_row wr g (1+k) cur 9 (0,0) hgr.out,Nat.add_comm];exact HCS.out k _ (HGET.out k hlt)
   obtain ⟨fn,tmps,assign,body,hy,hR⟩:=HY.out (ss.take k) ss[k] wr hJ.out (by rw [List.length_take];omega);have HTK:Hid (ss.take k++[ss[k]]=ss.take (k+1)):=by show _=_;rw [List.take_succ_eq_append_getElem hlt]
   rw [HTK.out] at hR
   gi_wp2
   refine hR.mono ?_;rintro _ w8 (⟨rfl,hJ8,hk8⟩ | ⟨rfl,hJx8⟩)
   ·have HJ8:=lhd hJ8
    have E8:Hid (Ext w1 w8):=Below.trans he.out hk8.1
    have HG8:Hid (w8.heap[g]?=some (Obj.cells cur 9 (0,0))):=by show _=_;rw [hk8.2 g cur hgr.out HC0.out];exact hgr.out
    clear hy hR hJ8 hk8 hcell
    gi_wp2
    go_roundw
    case rel=>exact ⟨k+1,by omega,by go_num,HJ8,E8,HG8⟩
    case measure=>simp [intOf];omega
   ·gi_wp2
    refine bodyPost_ret (results_none rfl _ _ _) rfl ?_;exact ⟨⟨_,rfl⟩,.inr ⟨_,trivial,hJx8⟩⟩
  ·obtain rfl:k=ss.length:=by omega
   rw [List.take_length] at hJ
   gi_wp2
   go_end0
   exact ⟨⟨_,rfl⟩,.inl ⟨_,rfl,hJ.out⟩⟩
attribute [local go_sem] Oper.semAt_some
attribute [local go_sem] wideFn
attribute [local simp] wideFn
theorem rawS_ex:∀ ss:List ByteArray,(∀ s∈ss,goodStep s)→∃ l:List Step,rawS l=ss
 | [],_=>⟨[],rfl⟩
 | s::t,h=>by
  obtain ⟨l,hl⟩:=rawS_ex t (fun x hx=>h x (List.mem_cons_of_mem _ hx));exact ⟨⟨s,h s (by simp)⟩::l,congrArg (List.cons s) hl⟩
theorem iStepsOf_c (p:ByteArray) (w:World):Calls Tryz.prog 91 #[.string p] w fun e w'=>e=.returned (.func (.func 104) #[] #[.pointer (some ⟨w.heap.size,0,none⟩)])∧w'=w.alloc (.cells #[.string p] 9):=by
 go_enter Tryz.func91,Tryz.ntmps91;go_wp2;go_ret;exact ⟨rfl,rfl⟩
def CellsAt (W:World) (b:Nat) (cs:Array Value) (T:TypeId):Prop:=W.heap[b]?=some (Obj.cells cs T (0,0))
theorem cellsAt_from {β:Type} (B b:Nat) (cs:Array Value) (T:TypeId):OwnFrom B (fun (_:β) W=>CellsAt W b cs T):=by
 intro s X Y row hs hg hr;refine (hg.block b (Array.getElem?_eq_some_iff.1 hs).1 (fun e=>?_)).trans hs;obtain ⟨_,o,ho,hc⟩:=hr b e.symm;rw [show X.heap[b]?=_ from hs] at ho;cases ho;cases hc
theorem cellsIf_from (B b:Nat) (cs:Array Value) (T:TypeId):OwnFrom B (fun (pre:List Step) W=>(pre=[]→CellsAt W b cs T)):=fun s X Y row hs hg hr h=>cellsAt_from (β:=List Step) B b cs T s X Y row (hs h) hg hr
theorem CellsAt.not_row {W:World} {b:Nat} {cs:Array Value} {T e:TypeId} (h:CellsAt W b cs T) (hte:T≠e) {base size k:Nat} {v:Value} {xs:List Value} (hr:W.ownsRow base e size v k xs):some b≠v.ownBlock:=by
 rcases hr.2 with ⟨rfl,_⟩ | ⟨g,cap,cur,rfl,_,hgb,_⟩
 ·simp [Value.ownBlock]
 ·intro e'
  obtain rfl:b=g:=by simpa [Value.ownBlock] using e'
  have:=(show W.heap[b]?=_ from h).symm.trans hgb;simp at this
  exact hte this.2
theorem rawS_snoc (l:List Step) (x:Step):rawS (l++[x])=rawS l++[x.1]:=by unfold rawS;simp
theorem SplitKp.putB {n0:Nat} {w:World} (hn:n0≤w.heap.size) (W:World) (l:Nat) (o o':Obj) (hl:w.heap.size≤l) (h:W.heap[l]?=some o) (hc:o.isCells=false) (hw:o.isWalk=false):SplitKp n0 W (W.putObj l o') :=
 ⟨belowK_b hn W l o o' hl h hc hw,fun g cs h1 h2=>(grownBy_putObj' W l o').block g (Array.getElem?_eq_some_iff.1 h1).1 (fun e=>by
  injection e with e;subst e;rw [h] at h1;injection h1 with h1;subst h1;cases hc)⟩
theorem good_pos {s:ByteArray} (h:goodStep s):0<s.size:=by
 rcases h with ⟨k,hk,rfl⟩ | h | rfl | rfl | rfl
 ·exact (num_item k hk).2
 ·unfold isName at h
  simp only [Bool.and_eq_true,decide_eq_true_eq] at h
  omega
 all_goals decide
theorem splitWith_in (n:Nat) (hn:4≤n) (ss:List Step) (hp0:0<ss.length) (hL:ss.length≤1000) (hs:(joinB (rawS ss)).size≤1000000) (w:World) :
 CallsIn Fence.wide n Tryz.prog 73 #[.string (joinB (rawS ss)),.func (.func 74) #[] #[]] w fun e W'=>∃ v,e=.returned (.tuple #[v,.bool true])∧OwnL vstr 9 w W' v (rawS ss)∧Ext w W':=by
 have h1:1≤n:=by omega
 obtain ⟨i0,hi,hz0,hz1,hz2⟩:=info_parts E_str.hi
 have hj0:0<(joinB (rawS ss)).size:=by
  cases ss with
  | nil=>simp at hp0
  | cons x t =>
   have h2:rawS (x::t)=x.1::rawS t:=rfl
   rw [h2,joinB_cons,ByteArray.size_append,ByteArray.size_append];show 0<1+_+_;omega
 have hj1:(joinB (rawS ss))[0].toNat=47:=by
  cases ss with
  | nil=>simp at hp0
  | cons x t =>
   have h2:joinB (rawS (x::t))=⟨#[47]⟩++(x.1++joinB (rawS t)):=by
    have h3:rawS (x::t)=x.1::rawS t:=rfl
    rw [h3,joinB_cons,BA_assoc]
   have h4:(⟨#[47]⟩++(x.1++joinB (rawS t)):ByteArray)[0]'(by rw [← h2];exact hj0)=(⟨#[47]⟩:ByteArray)[0]'(by decide):=nth_left (by decide) _
   have h5:(joinB (rawS (x::t)))[0]'hj0=(⟨#[47]⟩++(x.1++joinB (rawS t)):ByteArray)[0]'(by rw [← h2];exact hj0):=by congr 1
   rw [h5,h4];rfl
 have d0:((joinB (rawS ss)).toList==[])=false:=by
  rw [beq_eq_false_iff_ne];intro e;have h6:(joinB (rawS ss)).data.toList.length=0:=by rw [← ByteArray.toList_eq,e];rfl
  rw [Array.length_toList] at h6
  change (joinB (rawS ss)).size=0 at h6;omega
 have n0:¬ (joinB (rawS ss)).toList=[]:=by simpa using d0
 have hj2:((joinB (rawS ss))[0].toNat:Int)=47:=by omega
 have hj3:(((joinB (rawS ss))[0].toNat:Int) !=47)=false:=by rw [hj2];rfl
 have hj4:(((joinB (rawS ss))[0].toNat:Int)==47)=true:=by rw [hj2];rfl
 have HJ0:=lhd hj1;clear hj1 hj2;refine callsIn_of_wp_marks Tryz.func73 rfl trivial ?_ rfl;simp only [Tryz.ntmps73,List.size_toArray,List.length_cons,List.length_nil,Nat.reduceAdd,Nat.reduceSub,Array.replicate_succ,Array.replicate_zero,List.push_toArray,List.append_toArray,List.nil_append,List.cons_append]
 gi_wp2_with (gi_at_call 91;refine (callsIn_wide.2 (iStepsOf_c _ _)).mono ?_;rintro _ w2 ⟨rfl,rfl⟩)
 have hnn:60≠9:=by decide
 obtain ⟨W6,hW6⟩:∃ W6,W6=((((((w.alloc (.cells #[.func (.func 74) #[] #[]] 90)).alloc (.cells #[.slice none 0 0] 60)).alloc (.cells #[.bool false] 4)).alloc (.cells #[] 9)).alloc (.cells #[.slice (some ⟨w.heap.size+1+1+1,0,none⟩) 0 0] 60)).alloc (.cells #[.string (joinB (rawS ss))] 9)):=⟨_,rfl⟩;obtain ⟨V1,V2,hV1,hV2,b3,b4,b5,b0,e1,e2,z1,z2⟩:=boxes4' w #[.func (.func 74) #[] #[]] #[.slice none 0 0] #[.bool false] #[] 90 60 4 9;have hV:W6=(V2.alloc (.cells #[.slice (some ⟨w.heap.size+1+1+1,0,none⟩) 0 0] 60)).alloc (.cells #[.string (joinB (rawS ss))] 9):=by rw [hW6,hV2.out,hV1.out]
 have e6:Ext V2 W6:=by rw [hV];exact Ext_alloc _ (Ext_alloc _ (Ext.refl _))
 have c3:CellsAt W6 w.heap.size #[.func (.func 74) #[] #[]] 90:=(b3.ext e2).ext e6
 have c4:CellsAt W6 (w.heap.size+1) #[.slice none 0 0] 60:=(b4.ext e2).ext e6
 have c5:CellsAt W6 (w.heap.size+1+1) #[.bool false] 4:=(b5.ext e2).ext e6
 have c0:CellsAt W6 (w.heap.size+1+1+1) #[] 9:=b0.ext e6
 have c6:Boxed W6 (w.heap.size+1+1+1+1) 60 (.slice (some ⟨w.heap.size+1+1+1,0,none⟩) 0 0):=by
  have h:=Box.new V2 #[.slice (some ⟨w.heap.size+1+1+1,0,none⟩) 0 0] 60;rw [z2] at h;have h2:=h.ext (Ext_alloc (.cells #[.string (joinB (rawS ss))] 9) (Ext.refl _));rw [← hV] at h2;exact h2
 have hpb:W6.cell? ⟨w.heap.size+1+1+1+1+1,0,none⟩=some (.string (joinB (rawS ss))):=by
  have h:=Box.new (V2.alloc (.cells #[.slice (some ⟨w.heap.size+1+1+1,0,none⟩) 0 0] 60)) #[.string (joinB (rawS ss))] 9;rw [World.size_alloc,z2,← hV] at h;exact h.cell 0
 have hB0:Below w.heap.size w W6:=(e1.trans e2).trans e6
 have hz6:W6.heap.size=w.heap.size+6:=by rw [hV];simp;omega
 have r0:Own 9 1 w W6 (.slice (some ⟨w.heap.size+1+1+1,0,none⟩) 0 0) 0 []:=⟨by simp,.inr ⟨w.heap.size+1+1+1,0,#[],rfl,by omega,c0,by omega,by simp [maxLen],by simp,by simp⟩⟩
 rw [← hW6];clear hV hV1 hV2 b3 b4 b5 b0 e1 e2 z1 z2 e6 hW6 V1 V2;generalize hPP:joinB (rawS ss)=PP at *
 refine wpIn_rangeFunc_ownG (α:=Step) rfl h1 (gf:=104) (lb:=#[.pointer (some ⟨w.heap.size+1+1+1+1+1,0,none⟩)]) rfl trivial (enters_of Tryz.func104 (by kernel_rfl) rfl)
  (encs:=fun x=>#[.string x.1]) (Kp:=SplitKp w.heap.size) (S:=fun ys=>ys=ss) (Sp:=fun _=>True) (N:=ss.length)
  (fun lp J Jx W hW hJ _ hY h0=>stepsIt_in (n-1) (by omega) lp w W (w.heap.size+1+1+1+1+1) ss hp0 hL (by rw [hPP];exact hs) (by rw [hPP];exact (hW.cell (p:=⟨w.heap.size+1+1+1+1+1,0,none⟩) (by show w.heap.size+1+1+1+1+1<_;omega)).trans hpb) J Jx hJ hY (hB0.trans (hW.mono (by omega))) h0)
  SplitKp.trans (SplitKp.putB (by omega)) (Below.refl _ _) (fun _=>rfl)
  (fun (pre:List Step) W=>((∃ v,Boxed W (w.heap.size+1+1+1+1) 60 v∧W.ownsRow w.heap.size 9 1 v pre.length ((rawS pre).map vstr)∧(pre=[]→v=.slice (some ⟨w.heap.size+1+1+1,0,none⟩) 0 0))∧(CellsAt W w.heap.size #[.func (.func 74) #[] #[]] 90∧CellsAt W (w.heap.size+1) #[.slice none 0 0] 60∧CellsAt W (w.heap.size+1+1) #[.bool false] 4∧(pre=[]→CellsAt W (w.heap.size+1+1+1) #[] 9)))∧Below w.heap.size w W)
  (fun _ _ _=>False)
  (OwnFrom.and (OwnFrom.and (Go.Own.from (holdsRow_own w.heap.size (w.heap.size+1+1+1+1) 60 9 1 (fun (pre:List Step)=>pre.length) (fun (pre:List Step)=>(rawS pre).map vstr) (fun pre v=>pre=[]→v=.slice (some ⟨w.heap.size+1+1+1,0,none⟩) 0 0)) _) (OwnFrom.and (cellsAt_from _ _ _ _) (OwnFrom.and (cellsAt_from _ _ _ _) (OwnFrom.and (cellsAt_from _ _ _ _) (cellsIf_from _ _ _ _))))) (ownFrom_below (Nat.le_refl _) (by omega)))
  (fun _ _ _ _ _ hs _ _=>hs)
  ⟨⟨⟨_,c6,r0,fun _=>rfl⟩,c3,c4,c5,fun _=>c0⟩,hB0⟩
  (fun x=>{ tmps:=#[.string PP,.func (.func 74) #[] #[],undef,.pointer (some ⟨w.heap.size,0,none⟩),.pointer (some ⟨w.heap.size+1,0,none⟩),.pointer (some ⟨w.heap.size+1+1,0,none⟩),.pointer (some ⟨w.heap.size+1+1+1+1,0,none⟩),.string x.1,.slice (some ⟨w.heap.size+1+1+1,0,none⟩) 0 0,.string PP,.bool false,undef,.string PP,.int .u8 (PP[0]'hj0).toNat,.bool false,undef,.string PP,.func (.func 104) #[] #[.pointer (some ⟨w.heap.size+1+1+1+1+1,0,none⟩)],.string x.1,undef,undef,undef,undef,undef,undef,undef,undef,undef,undef],defers:=[] }) ?assign ?body ?done ?stop
 case assign =>
  intro l x W K hK
  gi_wp2
  exact hK
 case body =>
  rintro lp pre x W ⟨⟨⟨v,hv,hrow,hG⟩,c3,c4,c5,c0⟩,hB⟩ hlt;have hacc:W.cell? ⟨w.heap.size,0,none⟩=some (.func (.func 74) #[] #[]):=Box.cell c3 0
  have CIS:=lhd (fun W=>iIsStep_c x.1 x.2 W);have hb1:pre.length+1≤maxLen:=by simp only [maxLen];omega
  have hb2:(pre.length+1)*16≤140737488355328:=by omega
  have HN1:1≤n-1-1:=by omega
  gi_wp2_with (first
   | (gi_at_call 74;refine (CallsIn.inRound lp (callsIn_wide.2 (CIS.out _))).mono ?_;rintro _ W1 ⟨rfl,s1⟩;have hv1:=hv.kept (grown_ext s1 none) (by simp);have hrow1:=Own.ext hrow s1;have hB1:=hB.trans (Below.mono s1 hB.size);have hc:=hv1.cell)
   | (gi_at_builtin;refine wpListIn_append_own _ rfl _ _ 60 rfl w.heap.size 9 i0 (.string ⟨#[]⟩) 1 16 Tryz.underlying60 hi hz0 hz1 hz2 rfl (by decide) _ _ _ rfl (World.ownsRow.alloc hrow1 _) ⟨W1.heap.size,0,none⟩ 1 1 [.string x.1] rfl rfl (cell_one_new _ _ _) (by simp [Value.oneCell']) hb1 hb2 (by have:=hB1.size;simp;omega) ?_;intro v' w2 hown' hgrow _;obtain ⟨g',cap',rfl⟩:=ownsRow_succ hown';obtain ⟨hq1,hq2,hr2,hk2,hb2'⟩:=hv1.appended hnn hrow1 hB1.size (by omega) hown' hgrow;have hc1:=hq1.cell;have hf1:=hq1.frozen))
  have ga:=Ext_alloc (.cells #[.string x.1] 9) (Ext.refl W1)
  have hkeep:∀ b cs T,CellsAt W b cs T→some b≠v.ownBlock→b≠w.heap.size+1+1+1+1→CellsAt (w2.setCell ⟨w.heap.size+1+1+1+1,0,none⟩ (.slice (some ⟨g',0,none⟩) (pre.length+1) cap')) b cs T:=fun b cs T hc hne hb=>by
   have h2:(W1.alloc (.cells #[.string x.1] 9)).heap[b]?=some (Obj.cells cs T (0,0)):=heap_ext' (heap_ext' hc s1) ga
   have h3:=(hgrow.block b (Array.getElem?_eq_some_iff.1 h2).1 hne).trans h2;exact (heap_setCell_other w2 ⟨w.heap.size+1+1+1+1,0,none⟩ b _ hb).trans h3
  refine ⟨((KeepsOthers.of_grownBy (grown_ext s1 none) (fun j o e _=>by cases e)).trans hk2).from _,⟨(Below.mono s1 hB.size).trans hb2',fun g cs hg h0=>?_⟩,⟨⟨_,hq2,?_,fun h=>by simp at h⟩,hkeep _ _ _ c3 (c3.not_row (by decide) hrow) (by omega),hkeep _ _ _ c4 (c4.not_row (by decide) hrow) (by omega),hkeep _ _ _ c5 (c5.not_row (by decide) hrow) (by omega),fun h=>by simp at h⟩,hB1.trans hb2'⟩
  ·refine (hkeep g cs 9 hg ?_ ?_).trans hg.symm
   ·rcases hrow.2 with ⟨rfl,_⟩ | ⟨g2,cap,cur,rfl,_,hgb,_,_,_,htake⟩
    ·simp [Value.ownBlock]
    ·intro e'
     obtain rfl:g=g2:=by simpa [Value.ownBlock] using e'
     rw [hg] at hgb;injection hgb with hgb;injection hgb with hgb _ _
     subst hgb;cases pre with
     | nil =>
      have h5:=hG rfl;injection h5 with h5 _ _;injection h5 with h5;injection h5 with h5 _ _
      subst h5;have h6:=(c0 rfl).symm.trans hg;injection h6 with h6;injection h6 with h6 _ _
      rw [← h6] at h0;simp at h0
     | cons y t =>
      have h5:(cs.toList.take ((y::t).length*1))[0]?=((rawS (y::t)).map vstr)[0]?:=by rw [htake]
      rw [List.getElem?_take,if_pos (by simp)] at h5;have h6:cs[0]?=some (vstr y.1):=by simpa [rawS] using h5
      rw [h6] at h0;injection h0 with h0
      unfold vstr at h0;injection h0 with h0
      have h7:=good_pos y.2;rw [h0] at h7;exact absurd h7 (by decide)
   ·intro hgb
    subst hgb;have h5:=(show W.heap[_]?=_ from hv).symm.trans hg;injection h5 with h5;injection h5 with _ h5 _
    exact absurd h5 (by decide)
  ·rw [rawS_snoc,List.map_append,List.length_append];exact hr2
 case done =>
  rintro D ys W hD rfl ⟨⟨⟨v,hv,hrow,hG⟩,c3,c4,c5,c0⟩,hB⟩ hK;obtain ⟨Av,cv,rfl⟩:=Own.shape hrow;have k6:=hv.cell;have k4:W.cell? ⟨w.heap.size+1,0,none⟩=some (.slice none 0 0):=Box.cell c4 0
  have k4f:=Box.free c4 0;have k5:W.cell? ⟨w.heap.size+1+1,0,none⟩=some (.bool false):=Box.cell c5 0
  have k5f:=Box.free c5 0
  gi_wp2
  have g4:Box ((W.setCell ⟨w.heap.size+1,0,none⟩ (.slice Av ys.length cv)).setCell ⟨w.heap.size+1+1,0,none⟩ (.bool true)) (w.heap.size+1) #[.slice Av ys.length cv] 60:=(Box.set c4 0 (.slice Av ys.length cv)).other (g':=w.heap.size+1+1) (by omega) 0 (.bool true)
  have g5:Box ((W.setCell ⟨w.heap.size+1,0,none⟩ (.slice Av ys.length cv)).setCell ⟨w.heap.size+1+1,0,none⟩ (.bool true)) (w.heap.size+1+1) #[.bool true] 4:=(Box.other c5 (g':=w.heap.size+1) (by omega) 0 (.slice Av ys.length cv)).set 0 (.bool true)
  have hK2:((W.setCell ⟨w.heap.size+1,0,none⟩ (.slice Av ys.length cv)).setCell ⟨w.heap.size+1+1,0,none⟩ (.bool true)).heap[D]?=some (.deferred (some [])):=(heap_setCell_other _ ⟨w.heap.size+1+1,0,none⟩ D _ (by show D≠w.heap.size+1+1;omega)).trans ((heap_setCell_other W ⟨w.heap.size+1,0,none⟩ D _ (by show D≠w.heap.size+1;omega)).trans hK)
  have hrow2:Own 9 1 w ((W.setCell ⟨w.heap.size+1,0,none⟩ (.slice Av ys.length cv)).setCell ⟨w.heap.size+1+1,0,none⟩ (.bool true)) (.slice Av ys.length cv) ys.length ((rawS ys).map vstr):=Own.other (Own.other hrow ⟨w.heap.size+1,0,none⟩ _ (fun e=>CellsAt.not_row c4 (by decide) hrow e.symm)) ⟨w.heap.size+1+1,0,none⟩ _ (fun e=>CellsAt.not_row c5 (by decide) hrow e.symm)
  have hB2:Below w.heap.size w ((W.setCell ⟨w.heap.size+1,0,none⟩ (.slice Av ys.length cv)).setCell ⟨w.heap.size+1+1,0,none⟩ (.bool true)):=(hB.setCell (p:=⟨w.heap.size+1,0,none⟩) (by show w.heap.size≤w.heap.size+1;omega) _).setCell (p:=⟨w.heap.size+1+1,0,none⟩) (by show w.heap.size≤w.heap.size+1+1;omega) _
  obtain ⟨W2,hW2⟩:∃ W2,W2=((W.setCell ⟨w.heap.size+1,0,none⟩ (.slice Av ys.length cv)).setCell ⟨w.heap.size+1+1,0,none⟩ (.bool true)):=⟨_,rfl⟩;rw [← hW2] at g4 g5 hK2 hrow2 hB2;rw [← hW2];have q4:(W2.putObj D (.deferred none)).cell? ⟨w.heap.size+1,0,none⟩=some (.slice Av ys.length cv):=cell_kept (g4.cell 0) (grownBy_putObj' W2 D (.deferred none)) (fun r e=>by cases e;exact ⟨_,hK2,rfl⟩)
  have q5:(W2.putObj D (.deferred none)).cell? ⟨w.heap.size+1+1,0,none⟩=some (.bool true):=cell_kept (g5.cell 0) (grownBy_putObj' W2 D (.deferred none)) (fun r e=>by cases e;exact ⟨_,hK2,rfl⟩)
  refine ⟨by simp,.inl ⟨_,_,rfl,run_takeDeferred hK2,?_⟩⟩;refine ⟨.tuple #[.slice Av ys.length cv,.bool true],?_,.slice Av ys.length cv,rfl,?_,hB2.trans (belowK_b (w:=w) (Nat.le_refl _) W2 D _ _ (by omega) hK2 rfl rfl)⟩
  ·simp [results,Tryz.results73,go_sem,q4,q5]
  ·have h:=ownsRow_putObj hrow2 (.deferred none) hK2 rfl
   unfold OwnL;rw [rawS_len];exact h
 case stop =>
  rintro D c pre W _ _ h _;exact h.elim
theorem iSplitPath_c (ss:List ByteArray) (hg:∀ s∈ss,goodStep s) (hL:ss.length≤1000) (w:World):Calls Tryz.prog 49 #[.string (joinB ss)] w fun e w'=>∃ A c,e=.returned (.tuple #[.slice A ss.length c,.bool true])∧Rd vstr w' A ss c∧Ext w w':=by
 cases ss with
 | nil =>
  have CW:Hid (Calls Tryz.prog 73 #[.string ⟨#[]⟩,.func (.func 74) #[] #[]] w fun e w'=>∃ A c,e=.returned (.tuple #[.slice A 0 c,.bool true])∧Ext w w'):=by
   go_enter Tryz.func73,Tryz.ntmps73;go_wp2;exact bodyPost_ret (v:=.tuple #[.slice (some ⟨w.heap.size+1+1+1,0,none⟩) 0 0,.bool true]) (by simp [results,Tryz.results73,go_sem]) rfl ⟨_,_,rfl,Ext_alloc _ (Ext_alloc _ (Ext_alloc _ (Ext_alloc _ (Ext_alloc _ (Ext.refl w)))))⟩
  have h0:joinB []=⟨#[]⟩:=rfl
  rw [h0];go_enter Tryz.func49,Tryz.ntmps49;go_wp2_with fail;refine CW.out.mono ?_;rintro _ w1 ⟨A,c,rfl,e1⟩;have HR:Hid (Rd vstr w1 A ([]:List ByteArray) c):=⟨⟨by simp,by simp,fun h=>by simp at h⟩,by simp⟩
  clear CW h0;go_wp2;exact bodyPost_ret (v:=.tuple #[.slice A 0 c,.bool true]) (by simp [results,Tryz.results49,go_sem]) rfl ⟨A,c,rfl,HR.out,e1⟩
 | cons x t =>
  obtain ⟨l,hl⟩:∃ l:List Step,rawS l=x::t:=rawS_ex _ hg;have hll:l.length=t.length+1:=by rw [← rawS_len,hl];rfl
  have hj:=join_size hg;have hsp:(joinB (rawS l)).size≤1000000:=by rw [hl];simp only [List.length_cons] at hj hL;omega
  have CW:=lhd (callsIn_wide.1 (splitWith_in 8 (by omega) l (by omega) (by simp only [List.length_cons] at hL;omega) hsp w));rw [hl] at CW;generalize joinB (x::t)=P at *;have hLL:t.length+1≤1000:=by simpa using hL
  clear hl hll hj hsp hg hL;go_enter Tryz.func49,Tryz.ntmps49;go_wp2_with fail;refine CW.out.mono ?_;rintro _ w1 ⟨v,rfl,ho,e1⟩;obtain ⟨A,c,rfl,hr⟩:=OwnL.rd ho (by simp;omega);have HR:=lhd hr;clear ho hr CW;go_wp2;exact bodyPost_ret (v:=.tuple #[.slice A (x::t).length c,.bool true]) (by simp [results,Tryz.results49,go_sem]) rfl ⟨A,c,rfl,HR.out,e1⟩
end Go.Proofs.YtlfhealneccdkaaGreatDoor
namespace Go.Proofs.YtlfhealneccdkaaGreatDoor
open Go.RowKit Go.Sort
theorem Rd.drop1 {α:Type} {f:α→Value} {w:World} {b off:Nat} {x:α} {l:List α} {c:Nat} (h:Rd f w (some ⟨b,off,Option.none⟩) (x::l) c):Rd f w (some ⟨b,off+1,Option.none⟩) l (c-1):=by
 have h1:=rdPart h (i:=1) (k:=(x::l).length) (by simp) (Nat.le_refl _)
 simpa using h1
def sPutOk (A:Option Addr) (ds:List DRule) (c:Nat) (ss:List ByteArray):Prop:=∀ (i:Nat) (v x z:DVal) (Vb:Option Addr) (vb:Nat) (Vi:Option Addr) (vi:Nat) (Xb:Option Addr) (xb:Nat) (Xi:Option Addr) (xi:Nat) (As:Option Addr) (cs:Nat) (w:World),
 RdD w A ds c→RdV w v Vb vb Vi vi→RdV w x Xb xb Xi xi→Rd vstr w As ss cs→replV ds i v ss x=some z→validV ds i v=true→szV v≤549755813888→szV x≤549755813888→(∀ s∈ss,s.size≤1000000) →
 Calls Tryz.prog 65 #[.agg #[.slice A ds.length c],.int .i64 (i:Int),.agg #[.int .i64 v.num,.slice Vb v.bytes.length vb,.slice Vi v.items.length vi],.slice As ss.length cs,.agg #[.int .i64 x.num,.slice Xb x.bytes.length xb,.slice Xi x.items.length xi]] w (GaveV w z)
theorem sPut_nil (A:Option Addr) (ds:List DRule) (c:Nat):sPutOk A ds c []:=by
 intro i v x z Vb vb Vi vi Xb xb Xi xi As cs w hd hv hx hss hr hva hz1 hz2 hzs
 obtain rfl:x=z:=by
  rw [replV] at hr
  split at hr
  ·exact Option.some.inj hr
  ·cases hr
 obtain ⟨W0,W1,HW0,HW1,BA,BV,BX,BR,eA,e01,hs0,hs1⟩:=boxes4' w #[.slice A ds.length c] #[.int .i64 v.num,.slice Vb v.bytes.length vb,.slice Vi v.items.length vi] #[.int .i64 x.num,.slice Xb x.bytes.length xb,.slice Xi x.items.length xi] #[.int .i64 0,.slice none 0 0,.slice none 0 0] 26 29 29 29;have HX:=lhd hx;have x1:=eA.trans e01;have CC:=lhd (sCopyG x Xb xb Xi xi W1 (hx.ext x1) (by omega));have BX:=lhd (BX.ext e01);have b0:=BX.out.cell 0;have b1:=BX.out.cell 1;have b2:=BX.out.cell 2;have BR:=lhd BR;have hs1:=lhd hs1;clear hd hv hss hr hva hx BA BV hs0;go_enter Tryz.func65,Tryz.ntmps65;go_wp2_with fail;rw [← HW0.out,← HW1.out];refine CC.out.mono ?_;rintro _ w4 ⟨t,A5,n5,c5,A6,n6,c6,rfl,hsh,hgt,e4⟩;have hbs:=fun u hu b hb=>(hgt.own.block u hu b hb)
 have r2:=(BR.out.ext e4).cell;have t2:=(BR.out.ext e4).free;have G:=grown_put3 w4 (w.heap.size+1+1+1) 0 (.mk x.num [] (.slice A5 n5 c5) [] (.slice A6 n6 c6));have hlr:=BR.out.lt;have E5:=lhd ((x1.trans e4).grown G (fun b hb=>by injection hb with hb;omega));have O5:Hid (GotV w (put3 w4 (w.heap.size+1+1+1) 0 (.mk x.num [] (.slice A5 n5 c5) [] (.slice A6 n6 c6))) t x):=⟨hgt.val,(hgt.own.keep G (fun u hu b hb hh=>by have h1:=(hbs u hu b hb).1;injection hh with hh;omega)).down x1.size,hgt.far⟩
 clear hbs G hgt;go_wp2;exact bodyPost_ret (v:=.agg #[.int .i64 x.num,.slice A5 n5 c5,.slice A6 n6 c6]) (by simp [results,Tryz.results65,go_sem,r2,t2]) rfl ⟨t,A5,n5,c5,A6,n6,c6,rfl,hsh,O5.out,E5.out⟩
theorem sPut_cons (A:Option Addr) (ds:List DRule) (c:Nat) (hok:descOk ds=true) (hs:ShortD ds) (hw:WfD ds) (s:ByteArray) (ss:List ByteArray) (H:sPutOk A ds c ss):sPutOk A ds c (s::ss):=by
 intro i v x zz Vb vb Vi vi Xb xb Xi xi As cs w hd hv hx hss hr hva hz1 hz2 hzs;obtain ⟨k,hk,z,hfo,hrk,rfl⟩:=replV_step hr;have hi:=validV_lt hva;have hgd:ds.getD i noRule=ds[i]:=by simp [hi]
 rw [hgd] at hfo hrk;obtain ⟨hkl,hat⟩:=own_item hok i hi (validV_fits hva) hk;have hvk:=validV_item hva k hk;have hszk:szV v.items[k]≤549755813888:=by have:=szV_item (List.getElem_mem hk);omega
 obtain ⟨W0,W1,HW0,HW1,BA,BV,BX,BR,eA,e01,hs0,hs1⟩:=boxes4' w #[.slice A ds.length c] #[.int .i64 v.num,.slice Vb v.bytes.length vb,.slice Vi v.items.length vi] #[.int .i64 x.num,.slice Xb x.bytes.length xb,.slice Xi x.items.length xi] #[.int .i64 0,.slice none 0 0,.slice none 0 0] 26 29 29 29;have x1:=eA.trans e01;obtain ⟨bs,os,hAs,_,hcs⟩:=hss.at 0 (by simp);subst hAs;simp only [List.getElem_cons_zero,Nat.add_zero] at hcs;unfold vstr at hcs;have HSS:=lhd (Rd.drop1 hss);have hcap:=hss.cap;have hsl:=hss.len;simp only [List.length_cons] at hcap hsl;have hfI:followI ds[i] v.items.length s=(k:Int):=by unfold followI;rw [hfo]
 have CF:Hid (∀ w',Ext w w'→Gives Tryz.prog 26 #[.agg #[.slice A ds.length c],.int .i64 (i:Int),.agg #[.int .i64 v.num,.slice Vb v.bytes.length vb,.slice Vi v.items.length vi],.string s] w' (.int .i64 (k:Int))):=by
  intro w' e;have h:=sFollow_c A ds c i hi v Vb vb Vi vi s w' hok (hd.ext e) hs hw (hv.ext e) (validV_fits hva) (hzs s (by simp))
  rwa [hfI] at h
 have CCv:=lhd (sCopyG v Vb vb Vi vi W1 (hv.ext x1) (by omega));obtain ⟨bR,oR,Rb,rb,Rn,rn,Rt,rt,Rk,rk,hAR,_,hSR,hRR⟩:=hd.at i hi;subst hAR;have HKN:=kd_int hok i hi
 have CI:Hid (∀ w',Ext w w'→Gives Tryz.prog 27 #[.agg (rcs ds[i] Rb rb Rn rn Rt rt Rk rk),.int .i64 v.num,.int .i64 (k:Int)] w' (.int .i64 (kidV ds[i] v.num k:Nat))) :=
  fun w' e=>sItemV_c ds[i] Rb rb Rn rn Rt rt Rk rk v.num k w' (hSR.ext e) (by have:=hv.i.len;omega) hat (fun h7=>((kids_len hok i hi).2.2.2.1 h7).1) HKN
 obtain ⟨bI,oI,Zb,zb,Zi,zi,hVi,_,hzr,hza⟩:=hv.i.at k hk;subst hVi
 have CP:Hid (∀ Ar cr,Rd vstr w Ar ss cr→∀ w',Ext w w'→Calls Tryz.prog 65 #[.agg #[.slice (some ⟨bR,oR,none⟩) ds.length c],.int .i64 (kidV ds[i] v.num k:Nat),.agg #[.int .i64 v.items[k].num,.slice Zb v.items[k].bytes.length zb,.slice Zi v.items[k].items.length zi],.slice Ar ss.length cr,.agg #[.int .i64 x.num,.slice Xb x.bytes.length xb,.slice Xi x.items.length xi]] w' (GaveV w' z)) :=
  fun Ar cr hSS w' e=>H (kidV ds[i] v.num k) v.items[k] x z Zb zb Zi zi Xb xb Xi xi _ _ w' (hd.ext e) (hzr.ext e) (hx.ext e) (hSS.ext e) hrk hvk hszk hz2 (fun u hu=>hzs u (List.mem_cons_of_mem _ hu))
 have hkv:(k:Int)<(v.items.length:Int):=by omega
 have hil:(i:Int)<(ds.length:Int):=by omega
 have hvl:=hv.i.len;have hdl:=hd.len;have HKV:=lhd hk;obtain ⟨q0,q1,q2,q3,q4,q5,q6,q7⟩:=hRR;obtain ⟨p0,p1,p2⟩:=hza;have BA:=lhd (BA.ext e01);have BV:=lhd (BV.ext e01);have BX:=lhd (BX.ext e01);have BR:=lhd BR;have v0:=BV.out.cell 0;have v1:=BV.out.cell 1;have v2:=BV.out.cell 2;have HS1:=lhd hs1;have X1:=lhd x1;generalize hki:kidV ds[i] v.num k=kk at *;clear hr hva hd hv hx hss hzs hrk hvk hat hkl hzr hSR hfI hfo hgd hs0 hs1 HKN hki H;generalize v.items[k]=y at *;generalize ds[i]=rr at *;go_enter Tryz.func65,Tryz.ntmps65;go_wp2_with fail;rw [← HW0.out,← HW1.out];refine CCv.out.mono ?_;rintro _ w1 ⟨t,A5,n5,c5,A6,n6,c6,rfl,hsh,hgt,e1⟩;have HG1:=lhd hgt;clear hgt CCv v0 v1 v2;obtain ⟨W2,hW2⟩:∃ W2,W2=w1.alloc (.cells #[.int .i64 v.num,.slice A5 n5 c5,.slice A6 n6 c6] 29):=⟨_,rfl⟩;have HW2:=lhd hW2;have BO:Hid (Box W2 w1.heap.size #[.int .i64 v.num,.slice A5 n5 c5,.slice A6 n6 c6] 29):=by rw [hW2];exact Box.new _ _ _
 have E2:Hid (Ext W1 W2):=by rw [hW2];exact Ext_alloc _ e1
 have E12:Hid (Ext w1 W2):=by rw [hW2];exact Ext_alloc _ (Ext.refl _)
 clear hW2;have a0:∀ w',Ext W2 w'→w'.cell? ⟨w.heap.size,0,none⟩=some (.slice (some ⟨bR,oR,none⟩) ds.length c):=fun w' e=>BA.out.at 0 w' (E2.out.trans e)
 have v0:∀ w',Ext W2 w'→w'.cell? ⟨w.heap.size+1,0,none⟩=some (.int .i64 v.num):=fun w' e=>BV.out.at 0 w' (E2.out.trans e)
 have v1:∀ w',Ext W2 w'→w'.cell? ⟨w.heap.size+1,1,none⟩=some (.slice Vb v.bytes.length vb):=fun w' e=>BV.out.at 1 w' (E2.out.trans e)
 have v2:∀ w',Ext W2 w'→w'.cell? ⟨w.heap.size+1,2,none⟩=some (.slice (some ⟨bI,oI,none⟩) v.items.length vi):=fun w' e=>BV.out.at 2 w' (E2.out.trans e)
 have x0:∀ w',Ext W2 w'→w'.cell? ⟨w.heap.size+1+1,0,none⟩=some (.int .i64 x.num):=fun w' e=>BX.out.at 0 w' (E2.out.trans e)
 have x1:∀ w',Ext W2 w'→w'.cell? ⟨w.heap.size+1+1,1,none⟩=some (.slice Xb x.bytes.length xb):=fun w' e=>BX.out.at 1 w' (E2.out.trans e)
 have x2:∀ w',Ext W2 w'→w'.cell? ⟨w.heap.size+1+1,2,none⟩=some (.slice Xi x.items.length xi):=fun w' e=>BX.out.at 2 w' (E2.out.trans e)
 have XW2:=lhd (X1.out.trans E2.out);replace q0:=fun w' (e:Ext W2 w')=>q0 w' (XW2.out.trans e);replace q1:=fun w' (e:Ext W2 w')=>q1 w' (XW2.out.trans e);replace q2:=fun w' (e:Ext W2 w')=>q2 w' (XW2.out.trans e);replace q3:=fun w' (e:Ext W2 w')=>q3 w' (XW2.out.trans e)
 replace q4:=fun w' (e:Ext W2 w')=>q4 w' (XW2.out.trans e);replace q5:=fun w' (e:Ext W2 w')=>q5 w' (XW2.out.trans e);replace q6:=fun w' (e:Ext W2 w')=>q6 w' (XW2.out.trans e);replace q7:=fun w' (e:Ext W2 w')=>q7 w' (XW2.out.trans e)
 replace p0:=fun w' (e:Ext W2 w')=>p0 w' (XW2.out.trans e);replace p1:=fun w' (e:Ext W2 w')=>p1 w' (XW2.out.trans e);replace p2:=fun w' (e:Ext W2 w')=>p2 w' (XW2.out.trans e)
 replace hcs:=fun w' (e:Ext W2 w')=>hcs w' (XW2.out.trans e)
 have o2:∀ w',Ext W2 w'→w'.cell? ⟨w1.heap.size,2,none⟩=some (.slice A6 n6 c6):=BO.out.at 2
 go_wp2_with fail;rw [← HW2.out];refine wp_region_quiet_below (by kernel_rfl) (by kernel_rfl) ?_;repeat (go_big_quiet_step ((go_at_call 26;exact Calls.regrown_of (CF.out _ (Ext.trans XW2.out (by first | assumption | exact Ext_regrown _ _ (Ext.refl _)))))))
 refine wpQuiet_nil (qnl ?_);intro w4 ew4
 -- the row of the copy
 obtain ⟨g,cap6,hA6,hrow⟩:∃ g cap,t.vi=.slice (some ⟨g,0,none⟩) v.items.length cap∧g<w1.heap.size∧W1.heap.size≤g:=by
  have hi6:=HG1.out.own.i;have hl6:t.its.length=v.items.length:=by rw [← HG1.out.val,VT.val_items,valsOf_len]
  rcases hi6.2 with ⟨_,h0⟩ | ⟨g,cap,cur,hv6,hb,hg,_⟩
  ·exact absurd HKV.out (by omega)
  ·exact ⟨g,cap,by rw [hv6,hl6],(Array.getElem?_eq_some_iff.1 hg).1,hb⟩
 have HVI:=lhd hA6;have hsh2:=hsh.out.2;rw [hA6] at hsh2;injection hsh2 with s1 s2 s3
 subst s1;subst s2;subst s3
 have HSL:Hid (∀ w',Ext w1 w'→∀ j,j<3→(∃ u,w'.cell? ⟨g,k*3+j,none⟩=some u)∧w'.frozen? ⟨g,k*3+j,none⟩=false):=fun w' e j hj=>by
  have hi6:=HG1.out.own.i.ext e;have hl6:t.its.length=v.items.length:=by rw [← HG1.out.val,VT.val_items,valsOf_len]
  rw [HVI.out,hl6] at hi6;exact hi6.slot (k*3+j) (by rw [vcells_len,hl6];have:=HKV.out;omega)
 have hrow:=lhd hrow;clear hA6 CF;have X4:=lhd (XW2.out.trans ew4);have HAB:lv2 (fun w'=>Ext W2 w') (fun _=>True) 2 w4.drew:=⟨Ext_drew ew4,trivial⟩
 obtain ⟨Ar,cr,HSR,hcc⟩:∃ Ar cr,Hid (Rd vstr w Ar ss cr)∧((cs=1∧Ar=some ⟨bs,os,none⟩∧ss.length=0∧cr=0)∨(¬ cs=1∧Ar=some ⟨bs,os+1,none⟩∧cr=cs-1)):=by
  by_cases h:cs=1
  ·obtain rfl:ss=[]:=List.eq_nil_of_length_eq_zero (by omega)
   exact ⟨some ⟨bs,os,none⟩,0,⟨⟨by simp,by simp,fun h=>by simp at h⟩,by simp⟩,.inl ⟨h,rfl,rfl,rfl⟩⟩
  ·exact ⟨_,_,HSS,.inr ⟨h,rfl,rfl⟩⟩
 have h1s:(1:Int)≤(ss.length:Int)+1:=by omega
 rcases hcc with ⟨rfl,rfl,h0,rfl⟩ | ⟨hc1,rfl,rfl⟩
 case' inl=>obtain rfl:ss=[]:=List.eq_nil_of_length_eq_zero h0;clear h0;simp only [List.length_nil] at CP;clear hcap hsl h1s;have h1s:(1:Int)≤1:=by omega
 all_goals
  go_wp2_with fail;refine wp_region_C (C:=fun j=>lv2 (fun w'=>Ext W2 w') (fun _=>True) (([0,1,0,1,0,1,0,1,1,0,1,0,1,0,1,0,1,1,0,0,1,1,0,0]:List Nat).getD j 0)) (by kernel_rfl) ?_;refine tkD 0 (i:=0) (v:=?_) rfl trivial ?_ ?_;rotate_left
  ·(intro w hSw;clear hSw;go_simp;try with_reducible rfl)
  try simp only [Act.put,lpa,lpz,lps]
  refine tkD 0 (i:=2) (v:=?_) rfl trivial ?_ ?_;rotate_left
  ·(intro w hSw;clear hSw;go_simp;try with_reducible rfl)
  try simp only [Act.put,lpa,lpz,lps]
  refine tkD 0 (i:=4) (v:=?_) rfl trivial ?_ ?_;rotate_left
  ·(intro w hSw;clear hSw;go_simp;try with_reducible rfl)
  try simp only [Act.put,lpa,lpz,lps]
  refine tkD 0 (i:=6) (v:=?_) rfl trivial ?_ ?_;rotate_left
  ·(intro w hSw;clear hSw;go_simp;try with_reducible rfl)
  try simp only [Act.put,lpa,lpz,lps]
  refine tkD 0 (i:=9) (v:=?_) rfl trivial ?_ ?_;rotate_left
  ·(intro w hSw;clear hSw;go_simp;try with_reducible rfl)
  try simp only [Act.put,lpa,lpz,lps]
  refine tkD 0 (i:=11) (v:=?_) rfl trivial ?_ ?_;rotate_left
  ·(intro w hSw;clear hSw;go_simp;try with_reducible rfl)
  try simp only [Act.put,lpa,lpz,lps]
  refine tkD 0 (i:=13) (v:=?_) rfl trivial ?_ ?_;rotate_left
  ·(intro w hSw;clear hSw;go_simp;try with_reducible rfl)
  try simp only [Act.put,lpa,lpz,lps]
  refine tkD 0 (i:=15) (v:=?_) rfl trivial ?_ ?_;rotate_left
  ·(intro w hSw;clear hSw;go_simp;try with_reducible rfl)
  try simp only [Act.put,lpa,lpz,lps]
  refine tkD 0 (i:=18) (v:=?_) rfl trivial ?_ ?_;rotate_left
  ·(intro w hSw;clear hSw;go_simp;try with_reducible rfl)
  try simp only [Act.put,lpa,lpz,lps]
  refine tkD 0 (i:=19) (v:=?_) rfl trivial ?_ ?_;rotate_left
  ·(intro w hSw;clear hSw;go_simp;try with_reducible rfl)
  try simp only [Act.put,lpa,lpz,lps]
  refine tkD 1 (i:=1) (v:=?_) rfl (And.left HAB) ?_ ?_;rotate_left
  ·(intro w hSw;have hfact:Ext W2 w:=hSw;clear hSw;go_simp;try with_reducible rfl)
  try simp only [Act.put,lpa,lpz,lps]
  refine tkD 1 (i:=3) (v:=?_) rfl (And.left HAB) ?_ ?_;rotate_left
  ·(intro w hSw;have hfact:Ext W2 w:=hSw;clear hSw;go_simp;try with_reducible rfl)
  try simp only [Act.put,lpa,lpz,lps]
  refine tkD 1 (i:=5) (v:=?_) rfl (And.left HAB) ?_ ?_;rotate_left
  ·(intro w hSw;have hfact:Ext W2 w:=hSw;clear hSw;go_simp;try with_reducible rfl)
  try simp only [Act.put,lpa,lpz,lps]
  refine tkD 1 (i:=7) (v:=?_) rfl (And.left HAB) ?_ ?_;rotate_left
  ·(intro w hSw;have hfact:Ext W2 w:=hSw;clear hSw;go_simp;try with_reducible rfl)
  try simp only [Act.put,lpa,lpz,lps]
  refine tkD 1 (i:=8) (v:=?_) rfl (And.left HAB) ?_ ?_;rotate_left
  ·(intro w hSw;have hfact:Ext W2 w:=hSw;clear hSw;go_simp;try with_reducible rfl)
  try simp only [Act.put,lpa,lpz,lps]
  refine tkD 1 (i:=10) (v:=?_) rfl (And.left HAB) ?_ ?_;rotate_left
  ·(intro w hSw;have hfact:Ext W2 w:=hSw;clear hSw;go_simp;try with_reducible rfl)
  try simp only [Act.put,lpa,lpz,lps]
  refine tkD 1 (i:=14) (v:=?_) rfl (And.left HAB) ?_ ?_;rotate_left
  ·(intro w hSw;have hfact:Ext W2 w:=hSw;clear hSw;go_simp;try with_reducible rfl)
  try simp only [Act.put,lpa,lpz,lps]
  refine tkD 1 (i:=16) (v:=?_) rfl (And.left HAB) ?_ ?_;rotate_left
  ·(intro w hSw;have hfact:Ext W2 w:=hSw;clear hSw;go_simp;try with_reducible rfl)
  try simp only [Act.put,lpa,lpz,lps]
  refine tkD 1 (i:=17) (v:=?_) rfl (And.left HAB) ?_ ?_;rotate_left
  ·(intro w hSw;have hfact:Ext W2 w:=hSw;clear hSw;go_simp;try with_reducible rfl)
  try simp only [Act.put,lpa,lpz,lps]
  refine tkD 1 (i:=20) (v:=?_) rfl (And.left HAB) ?_ ?_;rotate_left
  ·(intro w hSw;have hfact:Ext W2 w:=hSw;clear hSw;go_simp;try with_reducible rfl)
  try simp only [Act.put,lpa,lpz,lps]
  refine wpAnyC_one (i:=12) (by kernel_rfl) rfl (fun K hK=>?_);go_simp;go_at_call 27;refine (CI.out _ (Ext.trans XW2.out (Ext_drew ew4))).mono ?_;rintro _ w5 ⟨rfl,e5⟩;have E5:Ext W2 w5:=(Ext_drew ew4).trans e5
  refine Shut.out hK _ _ E5 ?_;try simp only [Act.put,lpa,lpz,lps]
  refine wpAnyC_one (i:=21) (by kernel_rfl) rfl (fun K hK=>?_);go_simp;go_at_call 65;refine (CP.out _ _ HSR.out _ (Ext.trans XW2.out E5)).mono ?_;rintro _ w6 ⟨t2,A7,n7,c7,A8,n8,c8,rfl,hsh2,hgt2,e6⟩;have E6:Ext W2 w6:=E5.trans e6
  have E16:Ext w1 w6:=E12.out.trans E6
  have HG2:=lhd hgt2;have S0:=HSL.out w6 E16 0 (by omega);have S1:=HSL.out w6 E16 1 (by omega);have S2:=HSL.out w6 E16 2 (by omega);obtain ⟨⟨u0,k0⟩,f0⟩:=S0;obtain ⟨⟨u1,k1⟩,f1⟩:=S1;obtain ⟨⟨u2,k2⟩,f2⟩:=S2;rw [Nat.add_zero] at k0 f0;clear hgt2;refine Shut.out hK _ _ E6 ?_;try simp only [Act.put,lpa,lpz,lps]
  refine tkD 0 (i:=22) (v:=?_) rfl (trivial) ?_ ?_;rotate_left
  ·(intro w hSw;clear hSw;go_simp;try with_reducible rfl)
  try simp only [Act.put,lpa,lpz,lps]
  refine wpAnyC_one (i:=23) (by kernel_rfl) rfl (fun K hK=>?_);go_simp;refine Shut.out hK _ _ trivial ?_;try simp only [Act.put,lpa,lpz,lps]
  refine wpAnyC_done (by kernel_rfl) ?_ _;have PF:=GotV.setIt HG1.out e1 (HG2.out.down (by have h8:=e5.size;have h9:=E12.out.size;have h7:=ew4.size;simp only [World.size_drew] at h8;omega)) E16 HKV.out HVI.out;have hput:put3 w6 g (k*3) t2=put3 w6 g (k*3) (.mk z.num [] (.slice A7 n7 c7) [] (.slice A8 n8 c8)):=by unfold put3;rw [hsh2.out.1,hsh2.out.2,HG2.out.num];rfl
  rw [hput] at PF;have hgn:=grown_put3 w6 g (k*3) (.mk z.num [] (.slice A7 n7 c7) [] (.slice A8 n8 c8));have hgr:=hrow.out;have hs1:=HS1.out;have B7:=(BO.out.ext E6).moved hgn (by intro hh;injection hh with hh;omega);have R7:=(BR.out.ext (E2.out.trans E6)).moved hgn (by intro hh;injection hh with hh;omega);obtain ⟨W7,hW7⟩:∃ W7,W7=put3 w6 g (k*3) (.mk z.num [] (.slice A7 n7 c7) [] (.slice A8 n8 c8)):=⟨_,rfl⟩;rw [← hW7] at PF B7 R7;have HPF:=lhd PF;unfold put3 at hW7;simp only [VT.num,VT.vb,VT.vi] at hW7;rw [← hW7];have m0:=B7.cell 0;have m1:=B7.cell 1;have m2:=B7.cell 2;have r2:=R7.cell;have t2c:=R7.free;have G:=grown_put3 W7 (w.heap.size+1+1+1) 0 (.mk v.num [] (.slice A5 n5 c5) [] (.slice (some ⟨g,0,none⟩) v.items.length cap6));have E5:=lhd ((X1.out.trans HPF.out.2).grown G (fun b hb=>by injection hb with hb;omega));have O5:Hid (GotV w (put3 W7 (w.heap.size+1+1+1) 0 (.mk v.num [] (.slice A5 n5 c5) [] (.slice (some ⟨g,0,none⟩) v.items.length cap6))) (t.setIt k t2) (v.setItem k z)):=⟨HPF.out.1.val,(HPF.out.1.own.keep G (fun u hu b hb hh=>by have h1:=(HPF.out.1.own.block u hu b hb).1;injection hh with hh;omega)).down X1.out.size,HPF.out.1.far⟩
  clear G PF hW7 hput hgn B7 R7 HAB;go_wp2;exact bodyPost_ret (v:=.agg #[.int .i64 v.num,.slice A5 n5 c5,.slice (some ⟨g,0,none⟩) v.items.length cap6]) (by simp [results,Tryz.results65,go_sem,r2,t2c]) rfl ⟨t.setIt k t2,A5,n5,c5,_,_,_,rfl,⟨hsh.out.1,HVI.out⟩,O5.out,E5.out⟩
theorem sPut_all (A:Option Addr) (ds:List DRule) (c:Nat) (hok:descOk ds=true) (hs:ShortD ds) (hw:WfD ds):∀ ss,sPutOk A ds c ss
 | []=>sPut_nil A ds c
 | s::t=>sPut_cons A ds c hok hs hw s t (sPut_all A ds c hok hs hw t)
def ReplOut (w0:World) (y:DVal) (e:Ending) (w':World):Prop:=∃ (t:VT) (A1:Option Addr) (n1 c1:Nat) (A2:Option Addr) (n2 c2:Nat),e=.returned (.tuple #[.agg #[.int .i64 y.num,.slice A1 n1 c1,.slice A2 n2 c2],.bool true])∧Hid (t.vb=.slice A1 n1 c1∧t.vi=.slice A2 n2 c2)∧GotV w0 w' t y∧Ext w0 w'
theorem sRepl_c (A:Option Addr) (ds:List DRule) (c:Nat) (hok:descOk ds=true) (hs:ShortD ds) (hw:WfD ds) (n:Nat) (hn:ds.length=n+1) (v x z:DVal) (Vb:Option Addr) (vb:Nat) (Vi:Option Addr) (vi:Nat) (Xb:Option Addr) (xb:Nat) (Xi:Option Addr) (xi:Nat) (p:ByteArray) (ss:List ByteArray) (r:Nat) (y:DVal) (w:World)
 (hd:RdD w A ds c) (hv:RdV w v Vb vb Vi vi) (hx:RdV w x Xb xb Xi xi) (hp:p.size≤1000000) (hsp:splitP p=some ss) (hzs:∀ s∈ss,s.size≤1000000) (hva:validV ds n v=true) (hf:findV ds n v ss=some (r,y)) (hxv:validV ds r x=true) (hr:replV ds n v ss x=some z) (hz1:szV v≤549755813888) (hz2:szV x≤549755813888) :
 Calls Tryz.prog 37 #[.agg #[.slice A ds.length c],.agg #[.int .i64 v.num,.slice Vb v.bytes.length vb,.slice Vi v.items.length vi],.string p,.agg #[.int .i64 x.num,.slice Xb x.bytes.length xb,.slice Xi x.items.length xi]] w (ReplOut w z):=by
 have hl:=hd.len;have hrl:=validV_lt hxv;have hkn:knownB ds (r:Int)=true:=by unfold knownB;simp [hok];omega
 have hvB:=(validB_yes hkn x).trans hxv;have hFP:findP ds v p=some (r,y):=by unfold findP;rw [hsp,Option.bind_some,hn,show n+1-1=n by omega,if_pos hva];exact hf
 obtain ⟨W0,W1,HW0,HW1,BA,BV,BX,BR,eA,e01,hs0,hs1⟩:=boxes4' w #[.slice A ds.length c] #[.int .i64 v.num,.slice Vb v.bytes.length vb,.slice Vi v.items.length vi] #[.int .i64 x.num,.slice Xb x.bytes.length xb,.slice Xi x.items.length xi] #[.int .i64 0,.slice none 0 0,.slice none 0 0] 26 29 29 29;have x1:=eA.trans e01
 have CF:Hid (∀ w',Ext w w'→Calls Tryz.prog 10 #[.agg #[.slice A ds.length c],.agg #[.int .i64 v.num,.slice Vb v.bytes.length vb,.slice Vi v.items.length vi],.string p] w' (FindOut (some (r,y)) w')):=by
  intro w' e;have h:=sFindPart_c A ds c v Vb vb Vi vi p w' hok (hd.ext e) hs hw (hv.ext e) (by omega) hp (fun ss' h'=>by rw [hsp] at h';obtain rfl:=Option.some.inj h';exact hzs)
  rwa [hFP] at h
 have CV:Hid (∀ w',Ext w w'→Gives Tryz.prog 7 #[.agg #[.slice A ds.length c],.int .i64 (r:Int),.agg #[.int .i64 x.num,.slice Xb x.bytes.length xb,.slice Xi x.items.length xi]] w' (.bool true)):=by
  intro w' e;have h:=sValid_c A ds c (r:Int) x Xb xb Xi xi w' (hd.ext e) hs hw (hx.ext e)
  rwa [hvB] at h
 have CS:Hid (∀ w',Calls Tryz.prog 25 #[.string p] w' (SplitOut (some ss) w')):=by
  intro w';have h:=sSplitPath_c p w' hp
  rwa [hsp] at h
 have CR:Hid (∀ w',Gives Tryz.prog 24 #[.agg #[.slice A ds.length c]] w' (.int .i64 (n:Int))):=by
  intro w';have h:=sRoot_c A ds c w' hl
  rwa [show (ds.length:Int)-1=(n:Int) by omega] at h
 have CP:Hid (∀ As cs w',Ext w w'→Rd vstr w' As ss cs→Calls Tryz.prog 65 #[.agg #[.slice A ds.length c],.int .i64 (n:Int),.agg #[.int .i64 v.num,.slice Vb v.bytes.length vb,.slice Vi v.items.length vi],.slice As ss.length cs,.agg #[.int .i64 x.num,.slice Xb x.bytes.length xb,.slice Xi x.items.length xi]] w' (GaveV w' z)) :=
  fun As cs w' e h=>sPut_all A ds c hok hs hw ss n v x z Vb vb Vi vi Xb xb Xi xi As cs w' (hd.ext e) (hv.ext e) (hx.ext e) h hr hva hz1 hz2 hzs
 have BA:=lhd (BA.ext e01);have BV:=lhd (BV.ext e01);have BX:=lhd (BX.ext e01);have BR:=lhd BR;have a0:=BA.out.cell 0;have v0:=BV.out.cell 0;have v1:=BV.out.cell 1;have v2:=BV.out.cell 2;have HS1:=lhd hs1;have X1:=lhd x1;clear hd hv hx hsp hzs hva hf hxv hr hs0 hs1 hFP hvB hkn eA e01 x1 hok hs hw hn hrl;go_enter Tryz.func37,Tryz.ntmps37;go_wp2_with fail;rw [← HW0.out,← HW1.out];refine (CF.out _ X1.out).mono ?_;rintro _ w1 ⟨e1,hor⟩;rcases hor with ⟨h1,_⟩ | ⟨r',y',t,A5,n5,c5,A6,n6,c6,h1,rfl,hsh,hgt⟩
 ·cases h1
 obtain ⟨rfl,rfl⟩:=Prod.mk.inj (Option.some.inj h1);clear h1 hsh hgt a0 v0 v1 v2;obtain ⟨W2,hW2⟩:∃ W2,W2=w1.alloc (.cells #[.int .i64 y.num,.slice A5 n5 c5,.slice A6 n6 c6] 29):=⟨_,rfl⟩;have HW2:=lhd hW2;have E2:Hid (Ext W1 W2):=by rw [hW2];exact Ext_alloc _ e1
 clear hW2;have a0:∀ w',Ext W2 w'→w'.cell? ⟨w.heap.size,0,none⟩=some (.slice A ds.length c):=fun w' e=>BA.out.at 0 w' (E2.out.trans e)
 have v0:∀ w',Ext W2 w'→w'.cell? ⟨w.heap.size+1,0,none⟩=some (.int .i64 v.num):=fun w' e=>BV.out.at 0 w' (E2.out.trans e)
 have v1:∀ w',Ext W2 w'→w'.cell? ⟨w.heap.size+1,1,none⟩=some (.slice Vb v.bytes.length vb):=fun w' e=>BV.out.at 1 w' (E2.out.trans e)
 have v2:∀ w',Ext W2 w'→w'.cell? ⟨w.heap.size+1,2,none⟩=some (.slice Vi v.items.length vi):=fun w' e=>BV.out.at 2 w' (E2.out.trans e)
 have x0:∀ w',Ext W2 w'→w'.cell? ⟨w.heap.size+1+1,0,none⟩=some (.int .i64 x.num):=fun w' e=>BX.out.at 0 w' (E2.out.trans e)
 have x1:∀ w',Ext W2 w'→w'.cell? ⟨w.heap.size+1+1,1,none⟩=some (.slice Xb x.bytes.length xb):=fun w' e=>BX.out.at 1 w' (E2.out.trans e)
 have x2:∀ w',Ext W2 w'→w'.cell? ⟨w.heap.size+1+1,2,none⟩=some (.slice Xi x.items.length xi):=fun w' e=>BX.out.at 2 w' (E2.out.trans e)
 have XW2:=lhd (X1.out.trans E2.out);have a0':=a0 _ (Ext.refl _);have x0':=x0 _ (Ext.refl _);have x1':=x1 _ (Ext.refl _);have x2':=x2 _ (Ext.refl _);rw [HW2.out] at a0' x0' x1' x2';go_wp2_with fail;rw [← HW2.out];refine (CV.out _ XW2.out).mono ?_;rintro _ w3 ⟨rfl,e3⟩;go_wp2_with fail;refine (CS.out _).mono ?_;rintro _ w4 ⟨As,ns,cs,rfl,hR,e4⟩;obtain ⟨rfl,hSS⟩:=hR _ rfl;have HSS:=lhd hSS;have e24:=e3.trans e4;have X4:=lhd (XW2.out.trans e24);have R4:=lhd ((BR.out.ext (E2.out.trans e24)));have HAB:lv2 (fun w'=>Ext W2 w'∧Ext w4 w') (fun _=>True) 2 w4.drew:=⟨⟨Ext_drew e24,Ext_drew (Ext.refl _)⟩,trivial⟩
 clear hR hSS a0' x0' x1' x2' CF CV CS;go_wp2_with fail;refine wp_region_C (C:=fun j=>lv2 (fun w'=>Ext W2 w'∧Ext w4 w') (fun _=>True) (([1,1,1,1,0,1,0,0,0]:List Nat).getD j 0)) (by kernel_rfl) ?_;refine tkD 0 (i:=4) (v:=?_) rfl trivial ?_ ?_;rotate_left
 ·(intro w hSw;clear hSw;go_simp;try with_reducible rfl)
 try simp only [Act.put,lpa,lpz,lps]
 refine tkD 1 (i:=0) (v:=?_) rfl (And.left HAB) ?_ ?_;rotate_left
 ·(intro w hSw;have hfact:Ext W2 w:=hSw.1;clear hSw;go_simp;try with_reducible rfl)
 try simp only [Act.put,lpa,lpz,lps]
 refine tkD 1 (i:=1) (v:=?_) rfl (And.left HAB) ?_ ?_;rotate_left
 ·(intro w hSw;have hfact:Ext W2 w:=hSw.1;clear hSw;go_simp;try with_reducible rfl)
 try simp only [Act.put,lpa,lpz,lps]
 refine tkD 1 (i:=3) (v:=?_) rfl (And.left HAB) ?_ ?_;rotate_left
 ·(intro w hSw;have hfact:Ext W2 w:=hSw.1;clear hSw;go_simp;try with_reducible rfl)
 try simp only [Act.put,lpa,lpz,lps]
 refine tkD 1 (i:=5) (v:=?_) rfl (And.left HAB) ?_ ?_;rotate_left
 ·(intro w hSw;have hfact:Ext W2 w:=hSw.1;clear hSw;go_simp;try with_reducible rfl)
 try simp only [Act.put,lpa,lpz,lps]
 refine wpAnyC_one (i:=2) (by kernel_rfl) rfl (fun K hK=>?_);go_simp;go_at_call 24;refine (CR.out _).mono ?_;rintro _ w5 ⟨rfl,e5⟩;have E5:Ext W2 w5:=(Ext_drew e24).trans e5
 have F5:Ext w4 w5:=(Ext_drew (Ext.refl _)).trans e5
 refine Shut.out hK _ _ ⟨E5,F5⟩ ?_;try simp only [Act.put,lpa,lpz,lps]
 refine wpAnyC_one (i:=6) (by kernel_rfl) rfl (fun K hK=>?_);go_simp;go_at_call 65;refine (CP.out _ _ _ (Ext.trans XW2.out E5) (HSS.out.ext F5)).mono ?_;rintro _ w6 ⟨t2,A7,n7,c7,A8,n8,c8,rfl,hsh2,hgt2,e6⟩;have HG2:=lhd hgt2;have R6:=(R4.out.ext F5).ext e6;have r2:=R6.cell;have t2c:=R6.free;clear hgt2;refine Shut.out hK _ _ trivial ?_;try simp only [Act.put,lpa,lpz,lps]
 refine wpAnyC_one (i:=7) (by kernel_rfl) rfl (fun K hK=>?_);go_simp;refine Shut.out hK _ _ trivial ?_;try simp only [Act.put,lpa,lpz,lps]
 refine wpAnyC_one (i:=8) (by kernel_rfl) rfl (fun K hK=>?_);go_simp;refine Shut.out hK _ _ trivial ?_;try simp only [Act.put,lpa,lpz,lps]
 refine wpAnyC_done (by kernel_rfl) ?_ _;have G:=grown_put3 w6 (w.heap.size+1+1+1) 0 (.mk z.num [] (.slice A7 n7 c7) [] (.slice A8 n8 c8));have hs1:=HS1.out;have hx5:=F5.size;have hx4:=X4.out.size;have hR4:=R4.out.lt;have E7:=lhd (((X4.out.trans F5).trans e6).grown G (fun b hb=>by injection hb with hb;omega));have O7:Hid (GotV w (put3 w6 (w.heap.size+1+1+1) 0 (.mk z.num [] (.slice A7 n7 c7) [] (.slice A8 n8 c8))) t2 z):=⟨HG2.out.val,(HG2.out.own.keep G (fun u hu b hb hh=>by have h1:=(HG2.out.own.block u hu b hb).1;injection hh with hh;omega)).down (X4.out.trans F5).size,HG2.out.far⟩
 clear G hs1;go_wp2;exact bodyPost_ret (v:=.tuple #[.agg #[.int .i64 z.num,.slice A7 n7 c7,.slice A8 n8 c8],.bool true]) (by simp [results,Tryz.results37,go_sem,r2,t2c]) rfl ⟨t2,A7,n7,c7,A8,n8,c8,rfl,hsh2,O7.out,E7.out⟩
end Go.Proofs.YtlfhealneccdkaaGreatDoor
