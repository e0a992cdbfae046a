/- Texts, laid into one. -/
import Derived.Test.YtlfhealneccdkaaGreatDoorZDf10
import Derived.Laws.CopyOwn
import Derived.Laws.BitsAllLaws
import Derived.Deep.RegionHeld3
import Derived.StillTailTactics
import Derived.Laws.BitsLemmas
import Derived.Defers
import Derived.Recover
import Derived.Laws.Pointers
set_option linter.unusedVariables false
set_option linter.unusedSimpArgs false
set_option maxRecDepth 100000
set_option maxHeartbeats 16000000
namespace Go.Proofs.YtlfhealneccdkaaGreatDoor
open Go.RowKit Go.Sort
def DecOut (r:Option DRec) (j:Int) (w:World) (e:Ending) (w':World):Prop :=
 ∃ v,e=.returned (.tuple #[vrec (r.getD .zero).k (r.getD .zero).nm (r.getD .zero).ver v,.int .i64 j,.bool r.isSome])∧OwnL vu8 5 w w' v (r.getD .zero).l∧Ext w w'
theorem DecOut.no {j:Int} {w w':World} (he:Ext w w'):DecOut none j w (.returned (.tuple #[.agg #[.int .i64 0,.string ⟨#[]⟩,.int .i64 0,.slice none 0 0],.int .i64 j,.bool false])) w':=⟨_,rfl,OwnL.nil _ _,he⟩
section
variable {P:Program} {ops:Array Oper} {rest:List Oper} {o:Oper} {a:Act} {Q:Exit→Act→World→Prop}
end
def beN (l:List UInt8):Nat:=l.foldl (fun n x=>256*n+x.toNat) 0
end Go.Proofs.YtlfhealneccdkaaGreatDoor
namespace Go.Proofs.YtlfhealneccdkaaGreatDoor
def sizeAt (b:List UInt8) (a:Nat):Nat:=nmAt b a+6+szAt b a
def readF:Nat→List UInt8→Nat→List DRec × Nat
 | 0,_,a=>([],a)
 | f+1,b,a=>match decN b a with
  | none=>([],a)
  | some r=>(r::(readF f b (a+sizeAt b a)).1,(readF f b (a+sizeAt b a)).2)
theorem decN_out {b:List UInt8} {a:Nat} (h:b.length<a+6):decN b a=none:=by
 cases hd:decN b a with
 | none=>rfl
 | some r=>have:=(decN_some hd).1;omega
theorem decN_fits {b:List UInt8} {a:Nat} {r:DRec} (h:decN b a=some r):a+sizeAt b a≤b.length∧6≤sizeAt b a:=by
 have:=(decN_some h).1;unfold sizeAt;omega
theorem readF_fuel (b:List UInt8):∀ f g a,b.length-a≤f→b.length-a≤g→readF f b a=readF g b a:=by
 intro f
 induction f with
 | zero =>
  intro g a h _;cases g with
  | zero=>rfl
  | succ g=>rw [readF,readF,decN_out (by omega)]
 | succ f ih =>
  intro g a h1 h2;cases g with
  | zero=>rw [readF,readF,decN_out (by omega)]
  | succ g =>
   rw [readF,readF];cases hd:decN b a with
   | none=>rfl
   | some r =>
    have:=decN_fits hd;simp only
    rw [ih g (a+sizeAt b a) (by omega) (by omega)]
def recs (b:List UInt8) (a:Nat):List DRec:=(readF b.length b a).1
def stop (b:List UInt8) (a:Nat):Nat:=(readF b.length b a).2
theorem read_none {b:List UInt8} {a:Nat} (h:decN b a=none):recs b a=[]∧stop b a=a:=by
 unfold recs stop;cases b.length with
 | zero=>exact ⟨rfl,rfl⟩
 | succ n=>rw [readF,h];exact ⟨rfl,rfl⟩
theorem read_some {b:List UInt8} {a:Nat} {r:DRec} (h:decN b a=some r):recs b a=r::recs b (a+sizeAt b a)∧stop b a=stop b (a+sizeAt b a):=by
 have hf:=decN_fits h;unfold recs stop;rw [readF_fuel b b.length (b.length+1) a (by omega) (by omega),readF,h];exact ⟨rfl,rfl⟩
theorem take_drop_take {α:Type} (b:List α) {s k m:Nat} (h:k+m≤s):((b.take s).drop k).take m=(b.drop k).take m:=by
 rw [List.drop_take,List.take_take,Nat.min_eq_left (by omega)]
theorem getD_take {b:List UInt8} {s i:Nat} (h:i<s):(b.take s).getD i 0=b.getD i 0:=by
 simp [List.getD,List.getElem?_take,h]
theorem nmAt_take {b:List UInt8} {s a:Nat} (h:a+1<s):nmAt (b.take s) a=nmAt b a:=by unfold nmAt;rw [getD_take h]
theorem szAt_take {b:List UInt8} {s a:Nat} (h:a+nmAt b a+4<s):szAt (b.take s) a=szAt b a:=by
 unfold szAt;rw [nmAt_take (by omega),getD_take (by omega),getD_take (by omega)]
theorem decN_take_eq {b:List UInt8} {s a:Nat} (hs:s≤b.length) (h:a+sizeAt b a≤s):decN (b.take s) a=decN b a:=by
 unfold sizeAt at h;have hl:(b.take s).length=s:=by rw [List.length_take];omega
 have e1:nmAt (b.take s) a=nmAt b a:=nmAt_take (by omega)
 have e2:szAt (b.take s) a=szAt b a:=szAt_take (by omega)
 have e3:∀ d,recAt (b.take s) a d=recAt b a d:=by
  intro d;unfold recAt;rw [e1,getD_take (by omega),getD_take (by omega),take_drop_take b (by omega)]
 unfold decN;rw [e1,e2,hl,if_neg (by omega),if_neg (by omega),take_drop_take b (by omega),take_drop_take b (by omega)];simp only [e3]
theorem decN_take_some {b:List UInt8} {s a:Nat} {r:DRec} (hs:s≤b.length) (h:decN (b.take s) a=some r):decN b a=some r∧a+sizeAt b a≤s:=by
 have hf:=(decN_some h).1;have hl:(b.take s).length=s:=by rw [List.length_take];omega
 rw [hl] at hf;have e1:nmAt (b.take s) a=nmAt b a:=nmAt_take (by omega)
 rw [e1] at hf;have e2:szAt (b.take s) a=szAt b a:=szAt_take (by omega)
 rw [e2] at hf;have hz:a+sizeAt b a≤s:=by unfold sizeAt;omega
 exact ⟨(decN_take_eq hs hz).symm.trans h,hz⟩
theorem decN_take_none {b:List UInt8} {s a:Nat} (hs:s≤b.length) (h:decN b a=none∨s<a+sizeAt b a):decN (b.take s) a=none:=by
 cases hd:decN (b.take s) a with
 | none=>rfl
 | some r =>
  obtain ⟨h1,h2⟩:=decN_take_some hs hd;rcases h with h | h
  ·rw [h] at h1;cases h1
  ·omega
def validLog (b:List UInt8) (s:Int):Bool:=decide (0≤s)&&decide (s≤b.length)&&(stop b 0==b.length)&&(stop (b.take s.toNat) 0==s.toNat)
def endsAt (b:List UInt8) (s:Nat):Bool:=stop (b.take s) 0==s
def Scan (b:List UInt8) (s a:Nat) (e:Bool):Prop :=
 (e=true∧endsAt b s=true)∨(e=false∧a<s∧stop (b.take s) a=stop (b.take s) 0)∨(e=false∧s<a∧endsAt b s=false)
theorem Scan.start (b:List UInt8) (s:Nat):Scan b s 0 (s==0):=by
 by_cases h:s=0
 ·subst h
  refine .inl ⟨rfl,?_⟩;unfold endsAt;rw [List.take_zero,(read_none (decN_out (by simp))).2];rfl
 ·exact .inr (.inl ⟨by simpa using h,by omega,rfl⟩)
theorem Scan.step {b:List UInt8} {s a:Nat} {e:Bool} {r:DRec} (hs:s≤b.length) (hd:decN b a=some r) (h:Scan b s a e):Scan b s (a+sizeAt b a) (e||(a+sizeAt b a==s)):=by
 have hf:=decN_fits hd;rcases h with ⟨rfl,h⟩ | ⟨rfl,h1,h2⟩ | ⟨rfl,h1,h2⟩
 ·exact .inl ⟨rfl,h⟩
 ·by_cases hle:a+sizeAt b a≤s
  ·have hd':=(decN_take_eq hs hle).trans hd
   have hz:sizeAt (b.take s) a=sizeAt b a:=by
    unfold sizeAt at hle ⊢;rw [nmAt_take (by omega),szAt_take (by omega)]
   have h3:=(read_some hd').2;rw [hz] at h3
   by_cases he:a+sizeAt b a=s
   ·rw [he]
    refine .inl ⟨by simp,?_⟩;unfold endsAt;rw [← h2,h3,he,(read_none (decN_out (by rw [List.length_take];omega))).2];simp
   ·exact .inr (.inl ⟨by simpa using he,by omega,by rw [← h3];exact h2⟩)
  ·refine .inr (.inr ⟨by simp;omega,by omega,?_⟩)
   unfold endsAt;rw [← h2,(read_none (decN_take_none hs (.inr (by omega)))).2];simp;omega
 ·exact .inr (.inr ⟨by simp;omega,by omega,h2⟩)
theorem Scan.done {b:List UInt8} {s:Nat} {e:Bool} (hs:s≤b.length) (h:Scan b s b.length e):e=endsAt b s:=by
 rcases h with ⟨rfl,h⟩ | ⟨rfl,h1,_⟩ | ⟨rfl,_,h⟩
 ·exact h.symm
 ·omega
 ·exact h.symm
end Go.Proofs.YtlfhealneccdkaaGreatDoor
namespace Go.Proofs.YtlfhealneccdkaaGreatDoor
open Go.RowKit Go.Sort
theorem OwnL.ne {α:Type} {f:α→Value} {e:TypeId} {w0 w:World} {v:Value} {l:List α} (h:OwnL f e w0 w v l) {g:Nat} (hg:w.heap.size≤g):some g≠v.ownBlock:=by
 intro he;have:=(World.ownsRow.lt h g he.symm).2;omega
def rcells (p:DRec × Value):List Value:=[.int .i64 p.1.k,.string p.1.nm,.int .i64 p.1.ver,p.2]
def Apart (vs:List Value):Prop:=vs.Pairwise fun a b=>∀ g,a.ownBlock=some g→b.ownBlock≠some g
section
variable {P:Program} {ops:Array Oper} {rest:List Oper} {o:Oper} {a:Act} {Q:Exit→Act→World→Prop}
end
theorem Rd.take {α:Type} {f:α→Value} {w:World} {A:Option Addr} {l:List α} {c:Nat} (h:Rd f w A l c) (n:Nat):Rd f w A (l.take n) c:=by
 have hn:(l.take n).length≤l.length:=by simp;omega
 refine ⟨⟨by have:=h.cap;omega,by have:=h.1.2.1;omega,fun hp=>?_⟩,by have:=h.len;omega⟩;obtain ⟨b,off,h1,h2,h3⟩:=h.base (by omega);refine ⟨b,off,h1,h2,fun w' e i hi=>?_⟩;rw [h3 w' e i (by omega)];simp
theorem Rd.none {α:Type} {f:α→Value} {l:List α} (hl:l.length=0) (w:World) (A:Option Addr) (c:Nat):Rd f w A l c:=⟨⟨by omega,by omega,fun h=>by omega⟩,by omega⟩
theorem i64_and255 (n:Int):bits .and .i64 n 255=n%256:=by
 have h255:(BitVec.ofInt 64 255).toNat=2^8-1:=by decide
 have key:(BitVec.ofInt 64 n &&& BitVec.ofInt 64 255).toNat=(n%((2^64:Nat):Int)).toNat%2^8:=by
  rw [BitVec.toNat_and,BitVec.toNat_ofInt,h255,Nat.and_two_pow_sub_one_eq_mod]
 show IntKind.i64.wrap ((BitVec.ofInt 64 n &&& BitVec.ofInt 64 255).toNat:Nat)=n%256
 rw [key,IntKind.wrap_i64]
 omega
theorem i64_and30 (n:Int):bits .and .i64 n 1073741823=n%1073741824:=by
 have h255:(BitVec.ofInt 64 1073741823).toNat=2^30-1:=by decide
 have key:(BitVec.ofInt 64 n &&& BitVec.ofInt 64 1073741823).toNat=(n%((2^64:Nat):Int)).toNat%2^30:=by
  rw [BitVec.toNat_and,BitVec.toNat_ofInt,h255,Nat.and_two_pow_sub_one_eq_mod]
 show IntKind.i64.wrap ((BitVec.ofInt 64 n &&& BitVec.ofInt 64 1073741823).toNat:Nat)=n%1073741824
 rw [key,IntKind.wrap_i64]
 omega
def Cur (wb w:World) (p:Nat) (A:Option Addr) (l:List UInt8) (c:Nat):Prop :=
 wb.heap.size≤p∧Ext wb w∧∃ (i:Nat) (h:Int),i≤l.length∧w.heap[p]?=some (.cells #[.slice A l.length c,.int .i64 i,.int .i64 h] 72 (0,0))
theorem l1New_c (A:Option Addr) (l:List UInt8) (c:Nat) (w:World) (hA:Bs w A l c) :
 Calls Tryz.prog 14 #[.slice A l.length c] w fun e w'=>∃ p,e=.returned (.pointer (some ⟨p,0,none⟩))∧Cur w w' p A l c:=by
 have hl:=hA.len;have H30:∀ n:Int,bits .and .i64 n 1073741823=n%1073741824:=i64_and30
 go_enter Tryz.func14,Tryz.ntmps14;go_wp2;go_loopw [3,4] (fun h i wr=>∃ (k:Nat) (x:Int),k≤l.length∧i=.int .i64 k∧h=.int .i64 x∧0≤x∧x≤140737488551232∧Ext w wr) (fun _ i _=>l.length-(intOf i).toNat)
 case atStart=>exact ⟨0,_,by omega,rfl,rfl,by omega,by omega,Ext.refl _⟩
 case round =>
  obtain ⟨k,x,hk,rfl,rfl,hx1,hx2,he⟩:=hrel
  by_cases hlt:k<l.length∧k<4000
  ·obtain ⟨hlt,h4⟩:=hlt
   obtain ⟨b,off,rfl,hb,hc⟩:=hA.at k hlt;have h8:=l[k].toNat_lt;clear hA;go_wp2;go_roundw
   case rel=>exact ⟨k+1,_,by omega,by go_num,rfl,Int.emod_nonneg _ (by omega),by have:=Int.emod_lt_of_pos (x*137+(l[k].toNat:Int)+11) (show (0:Int)<1073741824 by omega);omega,he⟩
   case measure=>simp [intOf];omega
  ·by_cases h1:k<l.length
   all_goals
    go_wp2;go_ret;refine ⟨_,rfl,he.size,Ext_alloc _ he,0,x,by omega,?_⟩;exact heap_alloc_new wr _
theorem l1Byte_c (wb w:World) (p:Nat) (A:Option Addr) (l:List UInt8) (c:Nat) (hA:Bs wb A l c) (hC:Cur wb w p A l c) :
 Calls Tryz.prog 63 #[.pointer (some ⟨p,0,none⟩)] w fun e w'=>∃ x:Nat,x<256∧e=.returned (.int .i64 x)∧Cur wb w' p A l c∧w.grownBy w' (some p):=by
 have hl:=hA.len;obtain ⟨hp,he,i,h,hi,hh⟩:=hC;have H255:∀ n:Int,bits .and .i64 n 255=n%256:=i64_and255
 have c0:=cell_of_row w p 0 _ _ (0,0) hh;have c1:=cell_of_row w p 1 _ _ (0,0) hh;have c2:=cell_of_row w p 2 _ _ (0,0) hh;have f2:=frozen_of_row w p 2 _ _ hh;simp at c0 c1 c2
 have hu:∀ u:Int,(w.setCell ⟨p,2,none⟩ (.int .i64 u)).heap[p]?=some (.cells #[.slice A l.length c,.int .i64 i,.int .i64 u] 72 (0,0)):=fun u=>heap_setCell_same w p 2 _ _ (.int .i64 u) hh
 have HU:=lhd hu;have HE:Hid (∀ u:Int,Ext wb (w.setCell ⟨p,2,none⟩ (.int .i64 u))):=fun u=>he.setCell hp _
 have HG:Hid (∀ u:Int,w.grownBy (w.setCell ⟨p,2,none⟩ (.int .i64 u)) (some p)):=fun u=>grown_set w ⟨p,2,none⟩ _
 clear hu hh
 by_cases hlt:i<l.length
 ·obtain ⟨b,off,rfl,hb,hc⟩:=hA.at i hlt
  have h8:=l[i].toNat_lt;have g1:(i:Int)<(l.length:Int):=by omega
  have HC:=lhd hc;clear hc hA;go_enter Tryz.func63,Tryz.ntmps63;go_wp2_with fail;generalize wrap64 (wrap64 (h*6364136223846793005)+1442695040888963407)=U;have hU:=HU.out U;have hE:=HE.out U;have hG:=HG.out U;generalize w.setCell ⟨p,2,none⟩ (.int .i64 U)=W at *;have K0:∀ w',Ext W w'→w'.cell? ⟨p,0,none⟩=some (.slice (some ⟨b,off,none⟩) l.length c):=fun w' e=>by simpa using cell_of_row w' p 0 _ _ (0,0) (heap_ext' hU e)
  have K1:∀ w',Ext W w'→w'.cell? ⟨p,1,none⟩=some (.int .i64 i):=fun w' e=>by simpa using cell_of_row w' p 1 _ _ (0,0) (heap_ext' hU e)
  have K2:∀ w',Ext W w'→w'.cell? ⟨p,2,none⟩=some (.int .i64 U):=fun w' e=>by simpa using cell_of_row w' p 2 _ _ (0,0) (heap_ext' hU e)
  have F1:∀ w',Ext W w'→w'.frozen? ⟨p,1,none⟩=false:=fun w' e=>frozen_of_row w' p 1 _ _ (heap_ext' hU e)
  have KC:∀ w',Ext W w'→w'.cell? ⟨b,off+i,none⟩=some (.int .u8 (l[i].toNat:Int)):=fun w' e=>by
   have:=HC.out w' (hE.trans e);simpa [vu8] using this
  have HUU:=lhd hU;have HEE:=lhd hE;have HGG:=lhd hG;clear hU hE hG c0 c1 c2 f2;refine wp_region_quiet_below (by kernel_rfl) (by kernel_rfl) ?_;repeat (go_big_quiet_step (fail))
  refine wpQuiet_nil (qnl ?_);intro w1 ew1;go_wp2_with fail;refine wp_region_quiet_below (by kernel_rfl) (by kernel_rfl) ?_;repeat (go_big_quiet_step (fail))
  refine wpQuiet_nil (qnl ?_);intro w2 ew2;have e12:=ew1.trans ew2;go_wp2_with fail;refine wp_region_quiet_below (by kernel_rfl) (by kernel_rfl) ?_;repeat (go_big_quiet_step (fail))
  refine wpQuiet_nil (qnl ?_);intro w3 ew3;have e13:=e12.trans ew3;go_wp2_with fail;have hbd:∀ n:Int,∃ x:Nat,x<256∧n%256=(x:Int):=fun n=>⟨(n%256).toNat,by have:=Int.emod_nonneg n (show (256:Int)≠0 by omega);have:=Int.emod_lt_of_pos n (show (0:Int)<256 by omega);omega,by have:=Int.emod_nonneg n (show (256:Int)≠0 by omega);omega⟩
  obtain ⟨x,hx1,hx2⟩:=hbd (bits BinOp.xor IntKind.i64 (U / 8589934592) (U / 140737488355328)+↑l[i].toNat);go_ret;refine ⟨x,hx1,ret_i64 hx2,⟨hp,(HEE.out.trans e13).setCell hp _,i+1,U,by omega,?_⟩,(HGG.out.trans (grown_ext e13 _)).trans (grown_set _ _ _)⟩
  have:=heap_setCell_same w3 p 1 _ _ (.int .i64 ((i:Int)+1)) (heap_ext' HUU.out e13);rw [this]
  rfl
 ·have g1:¬ (i:Int)<(l.length:Int):=by omega
  go_enter Tryz.func63,Tryz.ntmps63;go_wp2_with fail;generalize wrap64 (wrap64 (h*6364136223846793005)+1442695040888963407)=U;have hU:=HU.out U;have hE:=HE.out U;have hG:=HG.out U;generalize w.setCell ⟨p,2,none⟩ (.int .i64 U)=W at *;have K0:∀ w',Ext W w'→w'.cell? ⟨p,0,none⟩=some (.slice A l.length c):=fun w' e=>by simpa using cell_of_row w' p 0 _ _ (0,0) (heap_ext' hU e)
  have K1:∀ w',Ext W w'→w'.cell? ⟨p,1,none⟩=some (.int .i64 i):=fun w' e=>by simpa using cell_of_row w' p 1 _ _ (0,0) (heap_ext' hU e)
  have K2:∀ w',Ext W w'→w'.cell? ⟨p,2,none⟩=some (.int .i64 U):=fun w' e=>by simpa using cell_of_row w' p 2 _ _ (0,0) (heap_ext' hU e)
  have HUU:=lhd hU;have HEE:=lhd hE;have HGG:=lhd hG;clear hU hE hG c0 c1 c2 f2;refine wp_region_quiet_below (by kernel_rfl) (by kernel_rfl) ?_;repeat (go_big_quiet_step (fail))
  refine wpQuiet_nil (qnl ?_);intro w1 ew1;go_wp2_with fail;refine wp_region_quiet_below (by kernel_rfl) (by kernel_rfl) ?_;repeat (go_big_quiet_step (fail))
  refine wpQuiet_nil (qnl ?_);intro w2 ew2;have e12:=ew1.trans ew2;go_wp2_with fail;have hbd:∀ n:Int,∃ x:Nat,x<256∧n%256=(x:Int):=fun n=>⟨(n%256).toNat,by have:=Int.emod_nonneg n (show (256:Int)≠0 by omega);have:=Int.emod_lt_of_pos n (show (0:Int)<256 by omega);omega,by have:=Int.emod_nonneg n (show (256:Int)≠0 by omega);omega⟩
  obtain ⟨x,hx1,hx2⟩:=hbd (bits BinOp.xor IntKind.i64 (U / 8589934592) (U / 140737488355328));go_ret;exact ⟨x,hx1,ret_i64 hx2,⟨hp,HEE.out.trans e12,i,U,by omega,heap_ext' HUU.out e12⟩,HGG.out.trans (grown_ext e12 _)⟩
def below (n:Int) (x:Nat):Prop:=if n≤0 then x=0 else (x:Int)<n
theorem l1Below_c (n:Int) (wb w:World) (p:Nat) (A:Option Addr) (l:List UInt8) (c:Nat) (hA:Bs wb A l c) (hC:Cur wb w p A l c) (hn:n≤16777216) :
 Calls Tryz.prog 35 #[.pointer (some ⟨p,0,none⟩),.int .i64 n] w fun e w'=>∃ x:Nat,below n x∧e=.returned (.int .i64 x)∧Cur wb w' p A l c∧w.grownBy w' (some p):=by
 have CB:=lhd (fun w h=>l1Byte_c wb w p A l c hA h)
 by_cases h0:n≤0
 ·go_enter Tryz.func35,Tryz.ntmps35
  go_wp2;go_ret;exact ⟨0,by unfold below;rw [if_pos h0],rfl,hC,World.grownBy.refl _ _⟩
 ·by_cases h1:n≤256
  ·go_enter Tryz.func35,Tryz.ntmps35
   go_wp2_with fail;refine (CB.out _ hC).mono ?_;rintro _ w1 ⟨x,hx,rfl,hC1,hg1⟩;go_wp2;go_ret;refine ⟨((x:Int)%n).toNat,?_,?_,hC1,hg1⟩
   ·unfold below;rw [if_neg (by omega)];have:=Int.emod_lt_of_pos (x:Int) (show 0<n by omega);have:=Int.emod_nonneg (x:Int) (show n≠0 by omega);omega
   ·have:=Int.emod_nonneg (x:Int) (show n≠0 by omega)
    exact ret_i64 (Int.toNat_of_nonneg this).symm
  ·go_enter Tryz.func35,Tryz.ntmps35
   go_wp2_with fail;refine (CB.out _ hC).mono ?_;rintro _ w1 ⟨x,hx,rfl,hC1,hg1⟩;go_wp2_with fail;refine (CB.out _ hC1).mono ?_;rintro _ w2 ⟨y,hy,rfl,hC2,hg2⟩;go_wp2_with fail;refine (CB.out _ hC2).mono ?_;rintro _ w3 ⟨z,hz,rfl,hC3,hg3⟩;go_wp2;go_ret;have hq:=Int.emod_nonneg ((x:Int)*65536+(y:Int)*256+(z:Int)) (show n≠0 by omega);refine ⟨(((x:Int)*65536+(y:Int)*256+(z:Int))%n).toNat,?_,?_,hC3,(hg1.trans hg2).trans hg3⟩
   ·unfold below;rw [if_neg (by omega)];have:=Int.emod_lt_of_pos ((x:Int)*65536+(y:Int)*256+(z:Int)) (show 0<n by omega);omega
   ·exact ret_i64 (Int.toNat_of_nonneg hq).symm
theorem l1Once_c (n:Int) (wb w:World) (p:Nat) (A:Option Addr) (l:List UInt8) (c:Nat) (hA:Bs wb A l c) (hC:Cur wb w p A l c) (hn:n≤16777216) :
 Calls Tryz.prog 34 #[.pointer (some ⟨p,0,none⟩),.int .i64 n] w fun e w'=>∃ x:Bool,e=.returned (.bool x)∧Cur wb w' p A l c∧w.grownBy w' (some p):=by
 go_enter Tryz.func34,Tryz.ntmps34;go_wp2_with fail;refine (l1Below_c n wb w p A l c hA hC hn).mono ?_;rintro _ w1 ⟨x,hx,rfl,hC1,hg1⟩;go_wp2;go_ret;exact ⟨_,rfl,hC1,hg1⟩
theorem l1Int_c (B:Option Addr) (ns:List Int) (cb:Nat) (hns:0<ns.length) (hns2:ns.length≤256) (wb w:World) (p:Nat) (A:Option Addr) (l:List UInt8) (c:Nat) (hA:Bs wb A l c) (hC:Cur wb w p A l c)
 (hk:∀ w',w.grownBy w' (some p)→∀ i (h:i<ns.length),∃ b off,B=some ⟨b,off,none⟩∧w'.cell? ⟨b,off+i,none⟩=some (.int .i64 ns[i])) :
 Calls Tryz.prog 57 #[.pointer (some ⟨p,0,none⟩),.slice B ns.length cb] w fun e w'=>∃ x∈ns,e=.returned (.int .i64 x)∧Cur wb w' p A l c∧w.grownBy w' (some p):=by
 have CB:=lhd (fun w h=>l1Below_c ns.length wb w p A l c hA h (by omega));go_enter Tryz.func57,Tryz.ntmps57;go_wp2_with fail;refine (CB.out _ hC).mono ?_;rintro _ w1 ⟨x,hx,rfl,hC1,hg1⟩;have hx':x<ns.length:=by unfold below at hx;rw [if_neg (by omega)] at hx;omega
 obtain ⟨b,off,rfl,hc⟩:=hk w1 hg1 x hx';go_wp2;go_ret;exact ⟨_,List.getElem_mem hx',rfl,hC1,hg1⟩
theorem Cur.kept {wb w w':World} {p:Nat} {A:Option Addr} {l:List UInt8} {c:Nat} (h:Cur wb w p A l c) {row:Option Nat} (hg:w.grownBy w' row) (hne:row≠some p) (e:Ext wb w'):Cur wb w' p A l c:=by
 obtain ⟨h1,_,i,x,h3,h4⟩:=h;exact ⟨h1,e,i,x,h3,(hg.block p (Array.getElem?_eq_some_iff.1 h4).1 (fun he=>hne he.symm)).trans h4⟩
theorem Cur.ext {wb w w':World} {p:Nat} {A:Option Addr} {l:List UInt8} {c:Nat} (h:Cur wb w p A l c) (e:Ext w w'):Cur wb w' p A l c :=
 ⟨h.1,h.2.1.trans e,let ⟨i,x,h3,h4⟩:=h.2.2;⟨i,x,h3,heap_ext' h4 e⟩⟩
theorem Cur.lt {wb w:World} {p:Nat} {A:Option Addr} {l:List UInt8} {c:Nat} (h:Cur wb w p A l c):p<w.heap.size:=let ⟨_,_,_,h4⟩:=h.2.2;(Array.getElem?_eq_some_iff.1 h4).1
theorem OwnL.moved {α:Type} {f:α→Value} {e:TypeId} {w0 w w':World} {v:Value} {l:List α} (h:OwnL f e w0 w v l) {p:Nat} (hg:w.grownBy w' (some p)) (hne:v.ownBlock≠some p):OwnL f e w0 w' v l:=by
 refine World.ownsRow.kept h hg ?_;cases hb:v.ownBlock with
 | none=>exact .inl rfl
 | some g=>right;rw [hb] at hne;exact fun he=>hne he
section
variable {P:Program} {ops:Array Oper} {rest:List Oper} {o:Oper} {a:Act} {Q:Exit→Act→World→Prop}
theorem wpList_appC (hgd:o.guard=none) (s x:Operand) (t:TypeId) (ho:o.op=.call { callee:=.builtin .append,args:=#[s,x],argTypes:=#[t,t] })
 {e:TypeId} {bytes:Nat} {z:Value} (hE:Elem P t e 1 bytes z) (hby:1≤bytes) (w0 w:World) {α:Type} (f:α→Value) (hf:∀ x,(f x).oneCell'=true) (v:Value) (hs:a.eval s=v) (m c:Nat) (hx:a.eval x=.slice (some ⟨w.heap.size,0,none⟩) m c)
 (l ys:List α) (cs:Array Value) (hcs:cs=(ys.map f).toArray) (hown:OwnL f e w0 w v l) (he:Ext w0 w) (hm:m=ys.length)
 (hb:(l.length+ys.length)*bytes≤140737488355328) (p:Nat) (hp:p<w.heap.size) (hne:v.ownBlock≠some p)
 (h:∀ v' w',OwnL f e w0 w' v' (l++ys)→Ext w0 w'→v'.ownBlock≠some p→w.grownBy w' v.ownBlock→(∀ B,B≤w.heap.size→(∀ g,v.ownBlock=some g→B≤g)→∀ g,v'.ownBlock=some g→B≤g)→(v'.ownBlock=v.ownBlock∨v'.ownBlock=some (w.heap.size+1))→wpList P ops Q rest (a.put o.dst v') w') :
 wpList P ops Q (o::rest) a (w.alloc (.cells cs e)):=by
 subst hcs;refine wpList_appL hgd s x t ho hE hby w0 _ f hf v hs (some ⟨w.heap.size,0,none⟩) m c hx l ys (hown.ext (Ext_alloc _ (Ext.refl w))) (Ext_alloc _ he) hm (fun _=>⟨_,rfl,fun j u hu=>?_⟩) hb (fun v' w' h1 h2 h3 h4=>h v' w' h1 h2 ?_ ((World.grownBy_alloc w _ _).trans h4) ?_ (by simpa using h3))
 ·rw [World.cell?_alloc_at'];exact hu
 ·rcases h3 with h3 | h3
  ·rw [h3];exact hne
  ·rw [h3];intro hh;injection hh with hh;simp at hh;omega
 ·intro B hB hv g hg
  rcases h3 with h3 | h3
  ·exact hv g (h3▸hg)
  ·rw [h3] at hg;injection hg with hg;simp at hg;omega
end
theorem nb {B p:Nat} {v:Value} (hp:p<B) (h:∀ g,v.ownBlock=some g→B≤g):v.ownBlock≠some p:=fun hh=>by have:=h p hh;omega
theorem grown_own {w wr w4:World} {p:Nat} {v:Value} (h:w.grownBy wr (some p)) (hv:∀ g,v.ownBlock=some g→w.heap.size≤g) (hg:wr.grownBy w4 v.ownBlock):w.grownBy w4 (some p) :=
 ⟨hg.os.trans h.os,hg.tape.trans h.tape,hg.output.trans h.output,Nat.le_trans h.size hg.size,fun k hk hne=>(hg.block k (Nat.lt_of_lt_of_le hk h.size) (fun he=>by have:=hv k he.symm;omega)).trans (h.block k hk hne)⟩
theorem big_c (A:Option Addr) (l:List UInt8) (c:Nat) (w:World) (h:Rd0 vu8 w A l c) :
 Gives Tryz.prog 4 #[.slice A l.length c] w (.bool (decide ((1048576:Int)<(l.length:Int)))):=by
 have hl:=h.len;go_enter Tryz.func4,Tryz.ntmps4;go_wp2;go_ret;exact ⟨rfl,Ext.refl _⟩
section
variable {P:Program}
end
theorem grown_setCell (w:World) (a:Addr) (u:Value):w.grownBy (w.setCell a u) (some a.block) :=
 ⟨rfl,rfl,rfl,by simp,fun k _ hk=>heap_setCell_other w a k u (fun e=>hk (by rw [e]))⟩
theorem OwnL.set {α:Type} {f:α→Value} {e:TypeId} {w0 w:World} {v:Value} {l:List α} (h:OwnL f e w0 w v l) (p:Addr) (u:Value) (hne:v.ownBlock≠some p.block):OwnL f e w0 (w.setCell p u) v l:=by
 refine World.ownsRow.kept h (grown_setCell w p u) ?_;cases hb:v.ownBlock with
 | none=>exact .inl rfl
 | some g=>right;rw [hb] at hne;exact fun he=>hne he
theorem OwnL.take {α:Type} {f:α→Value} {e:TypeId} {w0 w:World} {A:Option Addr} {n c:Nat} {l:List α} (h:OwnL f e w0 w (.slice A l.length c) l) (hn:n≤l.length):OwnL f e w0 w (.slice A n c) (l.take n):=by
 have hl:(l.take n).length=n:=by simp;omega
 unfold OwnL;rw [hl];refine ⟨by simpa using hl,?_⟩;rcases h.2 with ⟨hv,h0⟩ | ⟨g,cap,cur,hv,hb,hg,hnc,hcm,hcs,htake⟩
 ·injection hv with h1 _ h3
  subst h1;subst h3;exact .inl ⟨by rw [show n=0 by omega],by omega⟩
 ·injection hv with h1 _ h3
  subst h1;subst h3;refine .inr ⟨g,c,cur,rfl,hb,hg,by omega,hcm,hcs,?_⟩
  have:(cur.toList.take (l.length*1)).take n=(l.map f).take n:=by rw [htake]
  rw [List.take_take,Nat.min_eq_left (by omega)] at this;rw [Nat.mul_one,this,List.map_take]
def storeAt (l:List UInt8) (s:Int):Int:=if validLog l s then l.length else s
def keptOf (l:List UInt8) (s k:Int):Nat:=(min (max k s) (l.length:Int)).toNat
def crashEnd (l:List UInt8) (s k:Int):Nat:=if validLog l s then stop (l.take (keptOf l s k)) 0 else l.length
def crashAt (l:List UInt8) (s k:Int):Int:=if validLog l s then stop (l.take (keptOf l s k)) 0 else s
theorem grown_new {w w1:World} {p:Nat} (h:w.grownBy w1 (some p)) {a:Addr} (hb:w.heap.size≤a.block) (u:Value):w.grownBy (w1.setCell a u) (some p) :=
 ⟨h.os,h.tape,h.output,by simpa using h.size,fun k hk hne=>(heap_setCell_other w1 a k u (by omega)).trans (h.block k hk hne)⟩
theorem Cur.set {wb w:World} {p:Nat} {A:Option Addr} {l:List UInt8} {c:Nat} (h:Cur wb w p A l c) {a:Addr} (hne:a.block≠p) (hb:wb.heap.size≤a.block) (u:Value):Cur wb (w.setCell a u) p A l c :=
 h.kept (grown_set w a u) (by intro hh;injection hh with hh;exact hne hh) (h.2.1.setCell hb u)
theorem l1IntLit_c (ns:List Int) (hns:0<ns.length) (hns2:ns.length≤256) (n:Nat) (hn:n=ns.length) (cs:Array Value) (hcs:cs=(ns.map vint).toArray) (wb w:World) (p:Nat) (A:Option Addr) (l:List UInt8) (c:Nat) (hA:Bs wb A l c) (hC:Cur wb w p A l c) :
 Calls Tryz.prog 57 #[.pointer (some ⟨p,0,none⟩),.slice (some ⟨w.heap.size,0,none⟩) n n] (w.alloc (.cells cs 3)) fun e w'=>∃ x∈ns,e=.returned (.int .i64 x)∧Cur wb w' p A l c∧w.grownBy w' (some p):=by
 subst hn;subst hcs;have hC':=hC.ext (Ext_alloc (.cells (ns.map vint).toArray 3) (Ext.refl w));have hlt:=hC.lt;refine (l1Int_c (some ⟨w.heap.size,0,none⟩) ns ns.length hns hns2 wb _ p A l c hA hC' ?_).mono ?_
 ·intro w' hg i hi
  refine ⟨w.heap.size,0,rfl,?_⟩;have h0:=boxed (Ext.refl (w.alloc (.cells (ns.map vint).toArray 3))) (0+i);refine hg.cell (a:=⟨w.heap.size,0+i,none⟩) (h0.trans ?_) (by intro hh;injection hh with hh;simp at hh;omega);rw [Nat.zero_add];simp [vint,hi]
 ·rintro e w' ⟨x,hx,he,hC1,hg⟩
  exact ⟨x,hx,he,hC1,(World.grownBy_alloc w _ _).trans hg⟩
theorem l1Str_c (B:Option Addr) (ns:List ByteArray) (cb:Nat) (hns:0<ns.length) (hns2:ns.length≤256) (wb w:World) (p:Nat) (A:Option Addr) (l:List UInt8) (c:Nat) (hA:Bs wb A l c) (hC:Cur wb w p A l c)
 (hk:∀ w',w.grownBy w' (some p)→∀ i (h:i<ns.length),∃ b off,B=some ⟨b,off,none⟩∧w'.cell? ⟨b,off+i,none⟩=some (.string ns[i])) :
 Calls Tryz.prog 64 #[.pointer (some ⟨p,0,none⟩),.slice B ns.length cb] w fun e w'=>∃ x∈ns,e=.returned (.string x)∧Cur wb w' p A l c∧w.grownBy w' (some p):=by
 have CB:=lhd (fun w h=>l1Below_c ns.length wb w p A l c hA h (by omega));go_enter Tryz.func64,Tryz.ntmps64;go_wp2_with fail;refine (CB.out _ hC).mono ?_;rintro _ w1 ⟨x,hx,rfl,hC1,hg1⟩;have hx':x<ns.length:=by unfold below at hx;rw [if_neg (by omega)] at hx;omega
 obtain ⟨b,off,rfl,hc⟩:=hk w1 hg1 x hx';go_wp2;go_ret;exact ⟨_,List.getElem_mem hx',rfl,hC1,hg1⟩
theorem l1StrLit_c (ns:List ByteArray) (hns:0<ns.length) (hns2:ns.length≤256) (n:Nat) (hn:n=ns.length) (cs:Array Value) (hcs:cs=(ns.map vstr).toArray) (wb w:World) (p:Nat) (A:Option Addr) (l:List UInt8) (c:Nat) (hA:Bs wb A l c) (hC:Cur wb w p A l c) :
 Calls Tryz.prog 64 #[.pointer (some ⟨p,0,none⟩),.slice (some ⟨w.heap.size,0,none⟩) n n] (w.alloc (.cells cs 9)) fun e w'=>∃ x∈ns,e=.returned (.string x)∧Cur wb w' p A l c∧w.grownBy w' (some p):=by
 subst hn;subst hcs;have hC':=hC.ext (Ext_alloc (.cells (ns.map vstr).toArray 9) (Ext.refl w));have hlt:=hC.lt;refine (l1Str_c (some ⟨w.heap.size,0,none⟩) ns ns.length hns hns2 wb _ p A l c hA hC' ?_).mono ?_
 ·intro w' hg i hi
  refine ⟨w.heap.size,0,rfl,?_⟩;have h0:=boxed (Ext.refl (w.alloc (.cells (ns.map vstr).toArray 9))) (0+i);refine hg.cell (a:=⟨w.heap.size,0+i,none⟩) (h0.trans ?_) (by intro hh;injection hh with hh;simp at hh;omega);rw [Nat.zero_add];simp [vstr,hi]
 ·rintro e w' ⟨x,hx,he,hC1,hg⟩
  exact ⟨x,hx,he,hC1,(World.grownBy_alloc w _ _).trans hg⟩
theorem Box.four {w:World} {g:Nat} {a b c d:Value} {T:TypeId} (h:Box w g #[a,b,c,d] T) :
 (∀ w',Ext w w'→w'.cell? ⟨g,0,none⟩=some a)∧(∀ w',Ext w w'→w'.cell? ⟨g,1,none⟩=some b)∧(∀ w',Ext w w'→w'.cell? ⟨g,2,none⟩=some c)∧(∀ w',Ext w w'→w'.cell? ⟨g,3,none⟩=some d) ∧
 (∀ w',Ext w w'→w'.frozen? ⟨g,0,none⟩=false)∧(∀ w',Ext w w'→w'.frozen? ⟨g,1,none⟩=false)∧(∀ w',Ext w w'→w'.frozen? ⟨g,2,none⟩=false)∧(∀ w',Ext w w'→w'.frozen? ⟨g,3,none⟩=false) :=
 ⟨fun _ e=>(h.ext e).cell 0,fun _ e=>(h.ext e).cell 1,fun _ e=>(h.ext e).cell 2,fun _ e=>(h.ext e).cell 3,fun _ e=>(h.ext e).free 0,fun _ e=>(h.ext e).free 1,fun _ e=>(h.ext e).free 2,fun _ e=>(h.ext e).free 3⟩
theorem some_ne {a b:Nat} (h:a≠b):(some a:Option Nat)≠some b:=fun e=>h (Option.some.inj e)
theorem l1Bytes_c (m:Nat) (hm:m≤64) (wb w:World) (p:Nat) (A:Option Addr) (l:List UInt8) (c:Nat) (hA:Bs wb A l c) (hC:Cur wb w p A l c) :
 Calls Tryz.prog 62 #[.pointer (some ⟨p,0,none⟩),.int .i64 m] w fun e w'=>∃ v q,q.length=m∧e=.returned v∧OwnL vu8 5 wb w' v q∧(∀ g,v.ownBlock=some g→w.heap.size≤g)∧Cur wb w' p A l c∧w.grownBy w' (some p):=by
 have CB:=lhd (fun w h=>l1Byte_c wb w p A l c hA h);have hplt:=hC.lt;have hw1:=(World.grownBy_alloc w (.cells #[] 5) (some p));have ho1:=lhd (OwnL.empty (f:=vu8) (e:=5) hC.2.1);have hC1:=hC.ext (Ext_alloc (.cells #[] 5) (Ext.refl w))
 have hn1:Hid (∀ g,(Value.slice (some ⟨w.heap.size,0,none⟩) 0 0).ownBlock=some g→w.heap.size≤g):=by
  intro g hh;injection hh with hh;simp at hh;omega
 go_enter Tryz.func62,Tryz.ntmps62;go_wp2;go_loopw [5,6] (fun t i wr=>∃ (k:Nat) (q:List UInt8),k≤m∧i=.int .i64 k∧q.length=k∧Hid (∀ g,t.ownBlock=some g→w.heap.size≤g)∧w.grownBy wr (some p)∧Hid (OwnL vu8 5 wb wr t q)∧Cur wb wr p A l c) (fun _ i _=>m-(intOf i).toNat)
 case atStart=>exact ⟨0,[],by omega,rfl,rfl,hn1,hw1,ho1,hC1⟩
 case round =>
  clear hn1 ho1 hC1 hw1;obtain ⟨k,q,hk,rfl,hq,hn,hgr,ho,hCr⟩:=hrel
  by_cases hlt:k<m
  ·go_wp2_with fail
   refine (CB.out _ hCr).mono ?_;rintro _ w2 ⟨y,hy,rfl,hC2,hg2⟩;have ho2:=lhd (OwnL.moved ho.out hg2 (nb hplt hn.out));have hgb:=hgr.trans hg2;have HB:Hid ((q.length+[UInt8.ofNat y].length)*1≤140737488355328):=by show _≤_;simp;omega
   have HCS:Hid (#[Value.int .u8 (y:Int)]=([UInt8.ofNat y].map vu8).toArray):=by
    show _=_
    have:(UInt8.ofNat y).toNat=y:=by rw [UInt8.toNat_ofNat'];omega
    simp [vu8,this]
   clear hCr hg2 ho hgr
   go_wp2_with (first
    | (at_builtin;refine wpList_appC rfl (.tmp 13) (.tmp 17) _ rfl E_u8 (by omega) wb _ vu8 (fun _=>rfl) _ rfl _ _ rfl q [UInt8.ofNat y] _ HCS.out ho2.out hC2.2.1 rfl HB.out p hC2.lt (nb hplt hn.out) ?_;intro v4 w4 ho4 he4 hn4 hg4 hb4 _))
   have hC4:=Cur.kept hC2 hg4 (nb hplt hn.out) he4;have hg':=grown_own hgb hn.out hg4;have hn':=lhd (hb4 _ hgb.size hn.out);have HO4:=lhd ho4;clear ho2 hC2 hg4 hb4 hn4 ho4;go_wp2;go_roundw
   case rel=>exact ⟨k+1,q++[UInt8.ofNat y],by omega,by go_num,by simp;omega,hn',hg',HO4,hC4⟩
   case measure=>simp [intOf];omega
  ·obtain rfl:k=m:=by omega
   go_wp2;go_ret;exact ⟨_,q,hq,rfl,ho.out,hn.out,hCr,hgr⟩
structure Mk (wb w wr:World) (p:Nat) (A:Option Addr) (l:List UInt8) (c:Nat) (g:Nat) (q:RV):Prop where
 box:Box wr g q.cells.toArray 67
 own:RuleOwn wb wr q
 far:Far q.vals
 new:∀ u∈q.vals,∀ b,u.ownBlock=some b→w.heap.size≤b∧b≠g∧b≠p
 cur:Cur wb wr p A l c
 grow:w.grownBy wr (some p)
 gw:w.heap.size≤g
 gb:wb.heap.size≤g
 gp:g≠p
theorem Mk.moved {wb w wr w':World} {p:Nat} {A:Option Addr} {l:List UInt8} {c g:Nat} {q:RV} (h:Mk wb w wr p A l c g q) (hC:Cur wb w' p A l c) (hg:wr.grownBy w' (some p)):Mk wb w w' p A l c g q :=
 ⟨Box.moved h.box hg (some_ne h.gp.symm),h.own.keep hg (fun u hu b hb he=>by injection he with he;exact (h.new u hu b hb).2.2 he.symm),h.far,h.new,hC,h.grow.trans hg,h.gw,h.gb,h.gp⟩
theorem Mk.ext {wb w wr w':World} {p:Nat} {A:Option Addr} {l:List UInt8} {c g:Nat} {q:RV} (h:Mk wb w wr p A l c g q) (e:Ext wr w'):Mk wb w w' p A l c g q :=
 h.moved (h.cur.ext e) (grown_ext e _)
theorem Mk.stored {wb w w2:World} {p:Nat} {A:Option Addr} {l:List UInt8} {c g:Nat} {q q':RV} (box:Box w2 g q.cells.toArray 67) (own:RuleOwn wb w2 q') (far:Far q'.vals)
 (new:∀ u∈q'.vals,∀ b,u.ownBlock=some b→w.heap.size≤b∧b≠g∧b≠p) (cur:Cur wb w2 p A l c) (grow:w.grownBy w2 (some p)) (gw:w.heap.size≤g) (gb:wb.heap.size≤g) (gp:g≠p)
 (i:Nat) (u:Value) (hq:q.cells.toArray.setIfInBounds i u=q'.cells.toArray):Mk wb w (w2.setCell ⟨g,i,none⟩ u) p A l c g q':=by
 refine ⟨?_,own.keep (grown_set w2 ⟨g,i,none⟩ u) (fun v hv b hb he=>by injection he with he;exact (new v hv b hb).2.1 he.symm),far,new,cur.set (a:=⟨g,i,none⟩) gp gb u,grown_new (a:=⟨g,i,none⟩) grow gw u,gw,gb,gp⟩
 have:=box.set i u;rw [hq] at this;exact this
theorem Mk.put {wb w wr:World} {p:Nat} {A:Option Addr} {l:List UInt8} {c g:Nat} {q q':RV} (h:Mk wb w wr p A l c g q) (i:Nat) (u:Value) (hq:q.cells.toArray.setIfInBounds i u=q'.cells.toArray) (hv:q'.vals=q.vals)
 (hr:q'.r.bytes=q.r.bytes∧q'.r.names=q.r.names∧q'.r.tags=q.r.tags∧q'.r.kids=q.r.kids):Mk wb w (wr.setCell ⟨g,i,none⟩ u) p A l c g q':=by
 obtain ⟨r,vb,vn,vt,vk⟩:=q;obtain ⟨r',vb',vn',vt',vk'⟩:=q';simp only [RV.vals,List.cons.injEq,and_true] at hv;obtain ⟨rfl,rfl,rfl,rfl⟩:=hv;dsimp only at hr;refine Mk.stored (q':=⟨r',vb',vn',vt',vk'⟩) h.box ⟨?_,?_,?_,?_⟩ h.far h.new h.cur h.grow h.gw h.gb h.gp i u hq
 ·show OwnL _ _ _ _ _ r'.bytes;rw [hr.1];exact h.own.b
 ·show OwnL _ _ _ _ _ r'.names;rw [hr.2.1];exact h.own.n
 ·show OwnL _ _ _ _ _ r'.tags;rw [hr.2.2.1];exact h.own.t
 ·show OwnL _ _ _ _ _ r'.kids;rw [hr.2.2.2];exact h.own.k
theorem Mk.app_n {wb w wr w2:World} {p:Nat} {A:Option Addr} {l:List UInt8} {c g:Nat} {q:RV} (h:Mk wb w wr p A l c g q) {v':Value} {xs:List ByteArray} (ho:OwnL vstr 9 wb w2 v' xs) (he:Ext wb w2)
 (hb:v'.ownBlock=q.vn.ownBlock∨v'.ownBlock=some wr.heap.size) (hg:wr.grownBy w2 q.vn.ownBlock):Mk wb w (w2.setCell ⟨g,5,none⟩ v') p A l c g ⟨{ q.r with names:=xs },q.vb,v',q.vt,q.vk⟩:=by
 have hx:=h;have hglt:=h.box.lt;have hplt:=h.cur.lt;have hfar:=h.far;have hnew:=h.new;have hblk:=h.own.block;simp only [RV.vals] at hnew hblk;unfold Far RV.vals at hfar;simp only [List.pairwise_cons,List.mem_cons,List.not_mem_nil,or_false,forall_eq_or_imp,forall_eq] at hfar
 have hsep:∀ u∈[q.vb,q.vt,q.vk],∀ b,q.vn.ownBlock=some b→u.ownBlock≠some b:=by
  intro u hu b h1 h2;simp only [List.mem_cons,List.not_mem_nil,or_false] at hu;rcases hu with rfl | rfl | rfl
  all_goals
   first
    | exact hfar.1.1 b (by assumption) (by assumption)
    | exact hfar.1.2.1 b (by assumption) (by assumption)
    | exact hfar.1.2.2 b (by assumption) (by assumption)
    | exact hfar.2.1.1 b (by assumption) (by assumption)
    | exact hfar.2.1.2 b (by assumption) (by assumption)
    | exact hfar.2.2.1 b (by assumption) (by assumption)
 have hsep':∀ u∈[q.vb,q.vt,q.vk],∀ b,v'.ownBlock=some b→u.ownBlock≠some b:=by
  intro u hu b h1 h2;rcases hb with hb | hb
  ·exact hsep u hu b (hb.symm.trans h1) h2
  ·rw [hb] at h1
   injection h1 with h1
   have:=(hblk u (by simp only [List.mem_cons,List.not_mem_nil,or_false] at hu ⊢;rcases hu with rfl | rfl | rfl<;>simp) b h2).2
   omega
 have hnv:∀ b,v'.ownBlock=some b→w.heap.size≤b∧b≠g∧b≠p:=by
  intro b h1;rcases hb with hb | hb
  ·exact hnew q.vn (by simp) b (hb.symm.trans h1)
  ·rw [hb] at h1
   injection h1 with h1
   have:=h.grow.size
   omega
 refine Mk.stored (q:=q) (q':=⟨{ q.r with names:=xs },q.vb,v',q.vt,q.vk⟩) (Box.moved hx.box hg (fun hh=>(hnew q.vn (by simp) g hh).2.1 rfl)) ⟨hx.own.b.keep hg (fun b h1 h2=>hsep q.vb (by simp) b h2 h1),ho,hx.own.t.keep hg (fun b h1 h2=>hsep q.vt (by simp) b h2 h1),hx.own.k.keep hg (fun b h1 h2=>hsep q.vk (by simp) b h2 h1)⟩ ?_ ?_ (Cur.kept hx.cur hg (fun hh=>(hnew q.vn (by simp) p hh).2.2 rfl) he)
  (grown_own hx.grow (fun b hh=>(hnew q.vn (by simp) b hh).1) hg) h.gw h.gb h.gp 5 v' (by simp [RV.cells])
 ·unfold Far RV.vals
  simp only [List.pairwise_cons,List.mem_cons,List.not_mem_nil,or_false,forall_eq_or_imp,forall_eq,false_imp_iff,implies_true,List.Pairwise.nil,and_true];refine ⟨⟨?_,?_,?_⟩,⟨?_,?_⟩,?_⟩
  all_goals
   intro b h1 h2
   first
    | exact hsep' _ (by simp) b h1 h2
    | exact hsep' _ (by simp) b h2 h1
    | exact hfar.1.1 b h1 h2
    | exact hfar.1.2.1 b h1 h2
    | exact hfar.1.2.2 b h1 h2
    | exact hfar.2.1.1 b h1 h2
    | exact hfar.2.1.2 b h1 h2
    | exact hfar.2.2.1 b h1 h2
 ·intro u hu b h1
  simp only [RV.vals,List.mem_cons,List.not_mem_nil,or_false] at hu;rcases hu with rfl | rfl | rfl | rfl
  all_goals
   first
    | exact hnv b h1
    | exact hnew _ (by simp) b h1
theorem Mk.app_t {wb w wr w2:World} {p:Nat} {A:Option Addr} {l:List UInt8} {c g:Nat} {q:RV} (h:Mk wb w wr p A l c g q) {v':Value} {xs:List Int} (ho:OwnL vint 3 wb w2 v' xs) (he:Ext wb w2)
 (hb:v'.ownBlock=q.vt.ownBlock∨v'.ownBlock=some wr.heap.size) (hg:wr.grownBy w2 q.vt.ownBlock):Mk wb w (w2.setCell ⟨g,6,none⟩ v') p A l c g ⟨{ q.r with tags:=xs },q.vb,q.vn,v',q.vk⟩:=by
 have hx:=h;have hglt:=h.box.lt;have hplt:=h.cur.lt;have hfar:=h.far;have hnew:=h.new;have hblk:=h.own.block;simp only [RV.vals] at hnew hblk;unfold Far RV.vals at hfar;simp only [List.pairwise_cons,List.mem_cons,List.not_mem_nil,or_false,forall_eq_or_imp,forall_eq] at hfar
 have hsep:∀ u∈[q.vb,q.vn,q.vk],∀ b,q.vt.ownBlock=some b→u.ownBlock≠some b:=by
  intro u hu b h1 h2;simp only [List.mem_cons,List.not_mem_nil,or_false] at hu;rcases hu with rfl | rfl | rfl
  all_goals
   first
    | exact hfar.1.1 b (by assumption) (by assumption)
    | exact hfar.1.2.1 b (by assumption) (by assumption)
    | exact hfar.1.2.2 b (by assumption) (by assumption)
    | exact hfar.2.1.1 b (by assumption) (by assumption)
    | exact hfar.2.1.2 b (by assumption) (by assumption)
    | exact hfar.2.2.1 b (by assumption) (by assumption)
 have hsep':∀ u∈[q.vb,q.vn,q.vk],∀ b,v'.ownBlock=some b→u.ownBlock≠some b:=by
  intro u hu b h1 h2;rcases hb with hb | hb
  ·exact hsep u hu b (hb.symm.trans h1) h2
  ·rw [hb] at h1
   injection h1 with h1
   have:=(hblk u (by simp only [List.mem_cons,List.not_mem_nil,or_false] at hu ⊢;rcases hu with rfl | rfl | rfl<;>simp) b h2).2
   omega
 have hnv:∀ b,v'.ownBlock=some b→w.heap.size≤b∧b≠g∧b≠p:=by
  intro b h1;rcases hb with hb | hb
  ·exact hnew q.vt (by simp) b (hb.symm.trans h1)
  ·rw [hb] at h1
   injection h1 with h1
   have:=h.grow.size
   omega
 refine Mk.stored (q:=q) (q':=⟨{ q.r with tags:=xs },q.vb,q.vn,v',q.vk⟩) (Box.moved hx.box hg (fun hh=>(hnew q.vt (by simp) g hh).2.1 rfl)) ⟨hx.own.b.keep hg (fun b h1 h2=>hsep q.vb (by simp) b h2 h1),hx.own.n.keep hg (fun b h1 h2=>hsep q.vn (by simp) b h2 h1),ho,hx.own.k.keep hg (fun b h1 h2=>hsep q.vk (by simp) b h2 h1)⟩ ?_ ?_ (Cur.kept hx.cur hg (fun hh=>(hnew q.vt (by simp) p hh).2.2 rfl) he)
  (grown_own hx.grow (fun b hh=>(hnew q.vt (by simp) b hh).1) hg) h.gw h.gb h.gp 6 v' (by simp [RV.cells])
 ·unfold Far RV.vals
  simp only [List.pairwise_cons,List.mem_cons,List.not_mem_nil,or_false,forall_eq_or_imp,forall_eq,false_imp_iff,implies_true,List.Pairwise.nil,and_true];refine ⟨⟨?_,?_,?_⟩,⟨?_,?_⟩,?_⟩
  all_goals
   intro b h1 h2
   first
    | exact hsep' _ (by simp) b h1 h2
    | exact hsep' _ (by simp) b h2 h1
    | exact hfar.1.1 b h1 h2
    | exact hfar.1.2.1 b h1 h2
    | exact hfar.1.2.2 b h1 h2
    | exact hfar.2.1.1 b h1 h2
    | exact hfar.2.1.2 b h1 h2
    | exact hfar.2.2.1 b h1 h2
 ·intro u hu b h1
  simp only [RV.vals,List.mem_cons,List.not_mem_nil,or_false] at hu;rcases hu with rfl | rfl | rfl | rfl
  all_goals
   first
    | exact hnv b h1
    | exact hnew _ (by simp) b h1
theorem Mk.app_k {wb w wr w2:World} {p:Nat} {A:Option Addr} {l:List UInt8} {c g:Nat} {q:RV} (h:Mk wb w wr p A l c g q) {v':Value} {xs:List Int} (ho:OwnL vint 3 wb w2 v' xs) (he:Ext wb w2)
 (hb:v'.ownBlock=q.vk.ownBlock∨v'.ownBlock=some wr.heap.size) (hg:wr.grownBy w2 q.vk.ownBlock):Mk wb w (w2.setCell ⟨g,7,none⟩ v') p A l c g ⟨{ q.r with kids:=xs },q.vb,q.vn,q.vt,v'⟩:=by
 have hx:=h;have hglt:=h.box.lt;have hplt:=h.cur.lt;have hfar:=h.far;have hnew:=h.new;have hblk:=h.own.block;simp only [RV.vals] at hnew hblk;unfold Far RV.vals at hfar;simp only [List.pairwise_cons,List.mem_cons,List.not_mem_nil,or_false,forall_eq_or_imp,forall_eq] at hfar
 have hsep:∀ u∈[q.vb,q.vn,q.vt],∀ b,q.vk.ownBlock=some b→u.ownBlock≠some b:=by
  intro u hu b h1 h2;simp only [List.mem_cons,List.not_mem_nil,or_false] at hu;rcases hu with rfl | rfl | rfl
  all_goals
   first
    | exact hfar.1.1 b (by assumption) (by assumption)
    | exact hfar.1.2.1 b (by assumption) (by assumption)
    | exact hfar.1.2.2 b (by assumption) (by assumption)
    | exact hfar.2.1.1 b (by assumption) (by assumption)
    | exact hfar.2.1.2 b (by assumption) (by assumption)
    | exact hfar.2.2.1 b (by assumption) (by assumption)
 have hsep':∀ u∈[q.vb,q.vn,q.vt],∀ b,v'.ownBlock=some b→u.ownBlock≠some b:=by
  intro u hu b h1 h2;rcases hb with hb | hb
  ·exact hsep u hu b (hb.symm.trans h1) h2
  ·rw [hb] at h1
   injection h1 with h1
   have:=(hblk u (by simp only [List.mem_cons,List.not_mem_nil,or_false] at hu ⊢;rcases hu with rfl | rfl | rfl<;>simp) b h2).2
   omega
 have hnv:∀ b,v'.ownBlock=some b→w.heap.size≤b∧b≠g∧b≠p:=by
  intro b h1;rcases hb with hb | hb
  ·exact hnew q.vk (by simp) b (hb.symm.trans h1)
  ·rw [hb] at h1
   injection h1 with h1
   have:=h.grow.size
   omega
 refine Mk.stored (q:=q) (q':=⟨{ q.r with kids:=xs },q.vb,q.vn,q.vt,v'⟩) (Box.moved hx.box hg (fun hh=>(hnew q.vk (by simp) g hh).2.1 rfl)) ⟨hx.own.b.keep hg (fun b h1 h2=>hsep q.vb (by simp) b h2 h1),hx.own.n.keep hg (fun b h1 h2=>hsep q.vn (by simp) b h2 h1),hx.own.t.keep hg (fun b h1 h2=>hsep q.vt (by simp) b h2 h1),ho⟩ ?_ ?_ (Cur.kept hx.cur hg (fun hh=>(hnew q.vk (by simp) p hh).2.2 rfl) he)
  (grown_own hx.grow (fun b hh=>(hnew q.vk (by simp) b hh).1) hg) h.gw h.gb h.gp 7 v' (by simp [RV.cells])
 ·unfold Far RV.vals
  simp only [List.pairwise_cons,List.mem_cons,List.not_mem_nil,or_false,forall_eq_or_imp,forall_eq,false_imp_iff,implies_true,List.Pairwise.nil,and_true];refine ⟨⟨?_,?_,?_⟩,⟨?_,?_⟩,?_⟩
  all_goals
   intro b h1 h2
   first
    | exact hsep' _ (by simp) b h1 h2
    | exact hsep' _ (by simp) b h2 h1
    | exact hfar.1.1 b h1 h2
    | exact hfar.1.2.1 b h1 h2
    | exact hfar.1.2.2 b h1 h2
    | exact hfar.2.1.1 b h1 h2
    | exact hfar.2.1.2 b h1 h2
    | exact hfar.2.2.1 b h1 h2
 ·intro u hu b h1
  simp only [RV.vals,List.mem_cons,List.not_mem_nil,or_false] at hu;rcases hu with rfl | rfl | rfl | rfl
  all_goals
   first
    | exact hnv b h1
    | exact hnew _ (by simp) b h1
theorem l4Integer_c (Ad:Option Addr) (ds:List DRule) (cd:Nat) (hD0:0<ds.length) (hDn:ds.length≤64) (hk:∃ i,∃ h:i<ds.length,ds[i].kind=1) (wb w:World) (p:Nat) (A:Option Addr) (l:List UInt8) (c:Nat) (hA:Bs wb A l c) (hC:Cur wb w p A l c) (hD:RdD w Ad ds cd) :
 Calls Tryz.prog 84 #[.pointer (some ⟨p,0,none⟩),vdesc (.slice Ad ds.length cd)] w fun e w'=>∃ x:Nat,∃ hx:x<ds.length,ds[x].kind=1∧e=.returned (.int .i64 x)∧Cur wb w' p A l c∧w.grownBy w' (some p):=by
 have hplt:=hC.lt;have eb:=Ext_alloc (.cells #[.slice Ad ds.length cd] 26) (Ext.refl w);have B0:=fun w' (e:Ext (w.alloc (.cells #[.slice Ad ds.length cd] 26)) w')=>boxed e
 obtain ⟨W1,hW1⟩:∃ W1,W1=w.alloc (.cells #[.slice Ad ds.length cd] 26):=⟨_,rfl⟩;have hs1:W1.heap.size=w.heap.size+1:=by rw [hW1];simp
 have HW1:=lhd hW1;rw [← hW1] at eb B0;clear hW1;have ey:=Ext_alloc (.cells #[] 3) (Ext.refl W1)
 have HO:Hid (OwnL vint 3 W1 (W1.alloc (.cells #[] 3)) (.slice (some ⟨w.heap.size+1,0,none⟩) 0 0) []):=by
  have:=OwnL.empty (f:=vint) (e:=3) (Ext.refl W1);rw [hs1] at this;exact this
 unfold vdesc;go_enter Tryz.func84,Tryz.ntmps84;go_wp2_with fail;rw [← HW1.out];go_wp2;go_loopw [5,6] (fun t i wr=>∃ (k:Nat) (L:List Int),k≤ds.length∧L.length≤k∧i=.int .i64 k∧Hid (∀ x∈L,∃ n:Nat,∃ h:n<ds.length,x=(n:Int)∧ds[n].kind=1)∧Hid ((∃ i,∃ h:i<ds.length,i<k∧ds[i].kind=1)→L≠[])∧Hid (OwnL vint 3 W1 wr t L)∧Ext W1 wr) (fun _ i _=>ds.length-(intOf i).toNat)
 case atStart=>exact ⟨0,[],by omega,by simp,rfl,(fun x hx=>by simp at hx),(fun ⟨i,_,h,_⟩=>by omega),HO,ey⟩
 case round =>
  clear HO ey;obtain ⟨k,L,hkl,hLk,rfl,hL,hne,ho,he⟩:=hrel;replace B0:=kx B0 he
  by_cases hlt:k<ds.length
  ·obtain ⟨b,off,Ab,cb,An,cn,At,ct,Ak,ck,rfl,hb,_,hRa⟩:=(hD.ext (eb.trans he)).at k hlt
   have HN:Hid (∀ L':List Int,(ds[k].kind=1→L'≠[])→(L≠[]→L'≠[])→((∃ i,∃ h:i<ds.length,i<k+1∧ds[i].kind=1)→L'≠[])):=fun L' h1 h2 ⟨i,hi,hik,h3⟩=>by
    rcases (by omega:i<k∨i=k) with h4 | rfl
    ·exact h2 (hne.out ⟨i,hi,h4,h3⟩)
    ·exact h1 h3
   obtain ⟨l0,l1,l2,l3,l4,l5,l6,l7⟩:=hRa;clear hne;have HKK:Hid (ds[k].kind=1→∃ n:Nat,∃ h:n<ds.length,(k:Int)=(n:Int)∧ds[n].kind=1):=fun h=>⟨k,hlt,rfl,h⟩
   generalize ds[k]=r at *;cases hkk:(r.kind==1)
   ·have HNk:Hid ((∃ i,∃ h:i<ds.length,i<k+1∧ds[i].kind=1)→L≠[]):=HN.out L (fun h=>by rw [h] at hkk;simp at hkk) (fun h=>h)
    clear HN;go_wp2;go_roundw
    case rel=>exact ⟨k+1,L,by omega,by omega,by go_num,hL,HNk,ho,he⟩
    case measure=>simp [intOf];omega
   ·have HNk:Hid ((∃ i,∃ h:i<ds.length,i<k+1∧ds[i].kind=1)→L++[(k:Int)]≠[]):=HN.out _ (fun _=>by simp) (fun _=>by simp)
    have HL2:Hid (∀ x∈L++[(k:Int)],∃ n:Nat,∃ h:n<ds.length,x=(n:Int)∧ds[n].kind=1):=fun x hx=>by
     rcases List.mem_append.1 hx with hx | hx
     ·exact hL.out x hx
     ·rw [List.mem_singleton.1 hx];exact HKK.out (by simpa using hkk)
    have HB:Hid ((L.length+[(k:Int)].length)*8≤140737488355328):=by show _≤_;simp;omega
    clear HN;go_wp2_with (at_builtin;refine wpList_appN rfl (.tmp 22) (.tmp 24) _ rfl E_int (by omega) W1 _ vint (fun _=>rfl) _ rfl _ _ rfl L [(k:Int)] _ rfl ho.out he rfl HB.out ?_;intro v4 w4 ho4 he4)
    have HO4:=lhd ho4;clear ho4;go_wp2;go_roundw
    case rel=>exact ⟨k+1,L++[(k:Int)],by omega,by simp;omega,by go_num,HL2,HNk,HO4,he4⟩
    case measure=>simp [intOf];omega
  ·obtain rfl:k=ds.length:=by omega
   have hLne:L≠[]:=hne.out (let ⟨i,hi,h⟩:=hk;⟨i,hi,hi,h⟩)
   have hLp:0<L.length:=List.length_pos_iff.2 hLne
   obtain ⟨Ax,cx,hvx,rx⟩:=OwnL.rd ho.out (by omega);subst hvx;have hCr:=hC.ext (eb.trans he)
   have CI:=lhd (l1Int_c Ax L cx hLp (by omega) wb wr p A l c hA hCr (fun w' hg i hi=>by
    have h1:=OwnL.moved ho.out hg (fun hh=>by have:=(World.ownsRow.lt ho.out _ hh).1;omega);obtain ⟨Ay,cy,hvy,ry⟩:=OwnL.rd h1 (by omega);injection hvy with q1 _ q2;subst q1;subst q2
    obtain ⟨b,off,h2,_,h3⟩:=ry.at i hi;exact ⟨b,off,h2,h3 w' (Ext.refl _)⟩))
   have eT:=eb.trans he;clear hne hLne hC;go_wp2_with fail;refine CI.out.mono ?_;rintro _ w5 ⟨x,hx,rfl,hC5,hg5⟩;obtain ⟨n,hnl,rfl,hnk⟩:=hL.out x hx;have HNL:=lhd hnk;clear hnk;go_wp2;go_ret
   first
    | exact ⟨n,hnl,HNL.out,rfl,hC5,(grown_ext eT _).trans hg5⟩
    | exact ⟨hnl,HNL.out,hC5,(grown_ext eT _).trans hg5⟩
theorem cells8 {W:World} {g:Nat} {q:RV} (h:Box W g q.cells.toArray 67) :
 (W.cell? ⟨g,0,none⟩=some (.string q.r.nm)∧W.cell? ⟨g,1,none⟩=some (.int .i64 q.r.kind)∧W.cell? ⟨g,2,none⟩=some (.int .i64 q.r.size)∧W.cell? ⟨g,3,none⟩=some (.bool q.r.little)) ∧
 W.cell? ⟨g,4,none⟩=some q.vb∧W.cell? ⟨g,5,none⟩=some q.vn∧W.cell? ⟨g,6,none⟩=some q.vt∧W.cell? ⟨g,7,none⟩=some q.vk :=
 ⟨⟨h.cell 0,h.cell 1,h.cell 2,h.cell 3⟩,h.cell 4,h.cell 5,h.cell 6,h.cell 7⟩
theorem frees8 {W:World} {g:Nat} {cs:Array Value} {T:TypeId} (h:Box W g cs T):(W.frozen? ⟨g,0,none⟩=false∧W.frozen? ⟨g,1,none⟩=false∧W.frozen? ⟨g,2,none⟩=false∧W.frozen? ⟨g,3,none⟩=false)∧W.frozen? ⟨g,4,none⟩=false∧W.frozen? ⟨g,5,none⟩=false∧W.frozen? ⟨g,6,none⟩=false∧W.frozen? ⟨g,7,none⟩=false :=
 ⟨⟨h.free 0,h.free 1,h.free 2,h.free 3⟩,h.free 4,h.free 5,h.free 6,h.free 7⟩
theorem Mk.fresh_b {wb w w2:World} {p:Nat} {A:Option Addr} {l:List UInt8} {c g:Nat} {q:RV} (h:Mk wb w w2 p A l c g q) {v':Value} {xs:List UInt8} (ho:OwnL vu8 5 wb w2 v' xs) {n0:Nat}
 (hv:∀ b,v'.ownBlock=some b→n0≤b) (hold:∀ u∈q.vals,∀ b,u.ownBlock=some b→b<n0) (hg:g<n0) (hp:p<n0) (hw:w.heap.size≤n0):Mk wb w (w2.setCell ⟨g,4,none⟩ v') p A l c g ⟨{ q.r with bytes:=xs },v',q.vn,q.vt,q.vk⟩:=by
 have hfar:=h.far;have hnew:=h.new;simp only [RV.vals] at hnew hold;unfold Far RV.vals at hfar;simp only [List.pairwise_cons,List.mem_cons,List.not_mem_nil,or_false,forall_eq_or_imp,forall_eq] at hfar
 have hsep':∀ u∈[q.vn,q.vt,q.vk],∀ b,v'.ownBlock=some b→u.ownBlock≠some b:=by
  intro u hu b h1 h2
  have:=hv b h1
  have:=hold u (by simp only [List.mem_cons,List.not_mem_nil,or_false] at hu ⊢;rcases hu with rfl | rfl | rfl<;>simp) b h2
  omega
 refine Mk.stored (q:=q) (q':=⟨{ q.r with bytes:=xs },v',q.vn,q.vt,q.vk⟩) h.box ⟨ho,h.own.n,h.own.t,h.own.k⟩ ?_ ?_ h.cur h.grow h.gw h.gb h.gp 4 v' (by simp [RV.cells])
 ·unfold Far RV.vals
  simp only [List.pairwise_cons,List.mem_cons,List.not_mem_nil,or_false,forall_eq_or_imp,forall_eq,false_imp_iff,implies_true,List.Pairwise.nil,and_true];refine ⟨⟨?_,?_,?_⟩,⟨?_,?_⟩,?_⟩
  all_goals
   intro b h1 h2
   first
    | exact hsep' _ (by simp) b h1 h2
    | exact hsep' _ (by simp) b h2 h1
    | exact hfar.1.1 b h1 h2
    | exact hfar.1.2.1 b h1 h2
    | exact hfar.1.2.2 b h1 h2
    | exact hfar.2.1.1 b h1 h2
    | exact hfar.2.1.2 b h1 h2
    | exact hfar.2.2.1 b h1 h2
 ·intro u hu b h1
  simp only [RV.vals,List.mem_cons,List.not_mem_nil,or_false] at hu;rcases hu with rfl | rfl | rfl | rfl
  all_goals
   first
    | (have h2:=hv b h1;exact ⟨by omega,by omega,by omega⟩)
    | exact hnew _ (by simp) b h1
theorem Mk.fresh_k {wb w w2:World} {p:Nat} {A:Option Addr} {l:List UInt8} {c g:Nat} {q:RV} (h:Mk wb w w2 p A l c g q) {v':Value} {xs:List Int} (ho:OwnL vint 3 wb w2 v' xs) {n0:Nat}
 (hv:∀ b,v'.ownBlock=some b→n0≤b) (hold:∀ u∈q.vals,∀ b,u.ownBlock=some b→b<n0) (hg:g<n0) (hp:p<n0) (hw:w.heap.size≤n0):Mk wb w (w2.setCell ⟨g,7,none⟩ v') p A l c g ⟨{ q.r with kids:=xs },q.vb,q.vn,q.vt,v'⟩:=by
 have hfar:=h.far;have hnew:=h.new;simp only [RV.vals] at hnew hold;unfold Far RV.vals at hfar;simp only [List.pairwise_cons,List.mem_cons,List.not_mem_nil,or_false,forall_eq_or_imp,forall_eq] at hfar
 have hsep':∀ u∈[q.vb,q.vn,q.vt],∀ b,v'.ownBlock=some b→u.ownBlock≠some b:=by
  intro u hu b h1 h2
  have:=hv b h1
  have:=hold u (by simp only [List.mem_cons,List.not_mem_nil,or_false] at hu ⊢;rcases hu with rfl | rfl | rfl<;>simp) b h2
  omega
 refine Mk.stored (q:=q) (q':=⟨{ q.r with kids:=xs },q.vb,q.vn,q.vt,v'⟩) h.box ⟨h.own.b,h.own.n,h.own.t,ho⟩ ?_ ?_ h.cur h.grow h.gw h.gb h.gp 7 v' (by simp [RV.cells])
 ·unfold Far RV.vals
  simp only [List.pairwise_cons,List.mem_cons,List.not_mem_nil,or_false,forall_eq_or_imp,forall_eq,false_imp_iff,implies_true,List.Pairwise.nil,and_true];refine ⟨⟨?_,?_,?_⟩,⟨?_,?_⟩,?_⟩
  all_goals
   intro b h1 h2
   first
    | exact hsep' _ (by simp) b h1 h2
    | exact hsep' _ (by simp) b h2 h1
    | exact hfar.1.1 b h1 h2
    | exact hfar.1.2.1 b h1 h2
    | exact hfar.1.2.2 b h1 h2
    | exact hfar.2.1.1 b h1 h2
    | exact hfar.2.1.2 b h1 h2
    | exact hfar.2.2.1 b h1 h2
 ·intro u hu b h1
  simp only [RV.vals,List.mem_cons,List.not_mem_nil,or_false] at hu;rcases hu with rfl | rfl | rfl | rfl
  all_goals
   first
    | (have h2:=hv b h1;exact ⟨by omega,by omega,by omega⟩)
    | exact hnew _ (by simp) b h1
theorem Mk.step {wb w W:World} {p:Nat} {A:Option Addr} {l:List UInt8} {c:Nat} {q:RV} {R:Nat} (h:RuleOwn wb W q∧Cur wb W p A l c∧w.grownBy W (some p)) (hRw:w.heap.size≤R) (hRb:wb.heap.size≤R) (hRp:R≠p) (hRn:∀ u∈q.vals,∀ b,u.ownBlock=some b→b≠R) (i:Nat) (u:Value) :
 RuleOwn wb (W.setCell ⟨R,i,none⟩ u) q∧Cur wb (W.setCell ⟨R,i,none⟩ u) p A l c∧w.grownBy (W.setCell ⟨R,i,none⟩ u) (some p) :=
 ⟨h.1.keep (grown_set W ⟨R,i,none⟩ u) (fun v hv b hb he=>by injection he with he;exact hRn v hv b hb he.symm),h.2.1.set (a:=⟨R,i,none⟩) hRp hRb u,grown_new (a:=⟨R,i,none⟩) h.2.2 hRw u⟩
theorem Mk.out {wb w W:World} {p:Nat} {A:Option Addr} {l:List UInt8} {c g:Nat} {q:RV} (h:Mk wb w W p A l c g q) {R:Nat} {x0 x1 x2 x3 x4 x5 x6 x7:Value} {T:TypeId} (hR:Box W R #[x0,x1,x2,x3,x4,x5,x6,x7] T) (hRw:w.heap.size≤R) (hRb:wb.heap.size≤R) (hRp:R≠p) (hRn:∀ u∈q.vals,∀ b,u.ownBlock=some b→b≠R) :
 Box ((((((((W.setCell ⟨R,0,none⟩ (.string q.r.nm)).setCell ⟨R,1,none⟩ (.int .i64 q.r.kind)).setCell ⟨R,2,none⟩ (.int .i64 q.r.size)).setCell ⟨R,3,none⟩ (.bool q.r.little)).setCell ⟨R,4,none⟩ q.vb).setCell ⟨R,5,none⟩ q.vn).setCell ⟨R,6,none⟩ q.vt).setCell ⟨R,7,none⟩ q.vk) R #[.string q.r.nm,.int .i64 q.r.kind,.int .i64 q.r.size,.bool q.r.little,q.vb,q.vn,q.vt,q.vk] T ∧
 RuleOwn wb ((((((((W.setCell ⟨R,0,none⟩ (.string q.r.nm)).setCell ⟨R,1,none⟩ (.int .i64 q.r.kind)).setCell ⟨R,2,none⟩ (.int .i64 q.r.size)).setCell ⟨R,3,none⟩ (.bool q.r.little)).setCell ⟨R,4,none⟩ q.vb).setCell ⟨R,5,none⟩ q.vn).setCell ⟨R,6,none⟩ q.vt).setCell ⟨R,7,none⟩ q.vk) q ∧
 Cur wb ((((((((W.setCell ⟨R,0,none⟩ (.string q.r.nm)).setCell ⟨R,1,none⟩ (.int .i64 q.r.kind)).setCell ⟨R,2,none⟩ (.int .i64 q.r.size)).setCell ⟨R,3,none⟩ (.bool q.r.little)).setCell ⟨R,4,none⟩ q.vb).setCell ⟨R,5,none⟩ q.vn).setCell ⟨R,6,none⟩ q.vt).setCell ⟨R,7,none⟩ q.vk) p A l c ∧
 w.grownBy ((((((((W.setCell ⟨R,0,none⟩ (.string q.r.nm)).setCell ⟨R,1,none⟩ (.int .i64 q.r.kind)).setCell ⟨R,2,none⟩ (.int .i64 q.r.size)).setCell ⟨R,3,none⟩ (.bool q.r.little)).setCell ⟨R,4,none⟩ q.vb).setCell ⟨R,5,none⟩ q.vn).setCell ⟨R,6,none⟩ q.vt).setCell ⟨R,7,none⟩ q.vk) (some p):=by
 refine ⟨?_,?_⟩
 ·have:=(((((((hR.set 0 (.string q.r.nm)).set 1 (.int .i64 q.r.kind)).set 2 (.int .i64 q.r.size)).set 3 (.bool q.r.little)).set 4 q.vb).set 5 q.vn).set 6 q.vt).set 7 q.vk
  simpa using this
 ·exact Mk.step (Mk.step (Mk.step (Mk.step (Mk.step (Mk.step (Mk.step (Mk.step ⟨h.own,h.cur,h.grow⟩ hRw hRb hRp hRn 0 _) hRw hRb hRp hRn 1 _) hRw hRb hRp hRn 2 _) hRw hRb hRp hRn 3 _) hRw hRb hRp hRn 4 _) hRw hRb hRp hRn 5 _) hRw hRb hRp hRn 6 _) hRw hRb hRp hRn 7 _
structure SmallR (r:DRule):Prop where
 nm:r.nm.size≤40
 lens:r.bytes.length≤8∧r.names.length≤3∧r.tags.length≤8∧r.kids.length≤8
 nms:∀ t∈r.names,t.size≤40
 ints:(-100000≤r.size∧r.size≤100000)∧(∀ x∈r.tags,-100000≤x∧x≤100)∧∀ x∈r.kids,-100000≤x∧x≤100000
abbrev rule0:Array Value:=#[.string ⟨#[]⟩,.int .i64 0,.int .i64 0,.bool false,.slice none 0 0,.slice none 0 0,.slice none 0 0,.slice none 0 0]
structure MS (wb w wr:World) (p:Nat) (A:Option Addr) (l:List UInt8) (c g:Nat) (q:RV) (R:Nat):Prop where
 M:Mk wb w wr p A l c g q
 res:Box wr R rule0 67
 nR:∀ u∈q.vals,∀ b,u.ownBlock=some b→b≠R
 gR:g≠R
 pR:p≠R
theorem MS.moved {wb w wr w':World} {p:Nat} {A:Option Addr} {l:List UInt8} {c g:Nat} {q:RV} {R:Nat} (h:MS wb w wr p A l c g q R) (hC:Cur wb w' p A l c) (hg:wr.grownBy w' (some p)):MS wb w w' p A l c g q R :=
 ⟨h.M.moved hC hg,h.res.moved hg (some_ne h.pR),h.nR,h.gR,h.pR⟩
theorem MS.ext {wb w wr w':World} {p:Nat} {A:Option Addr} {l:List UInt8} {c g:Nat} {q:RV} {R:Nat} (h:MS wb w wr p A l c g q R) (e:Ext wr w'):MS wb w w' p A l c g q R :=
 h.moved (h.M.cur.ext e) (grown_ext e _)
theorem MS.app_n {wb w wr w2:World} {p:Nat} {A:Option Addr} {l:List UInt8} {c g:Nat} {q:RV} {R:Nat} (h:MS wb w wr p A l c g q R) {v':Value} {xs:List ByteArray} (ho:OwnL vstr 9 wb w2 v' xs) (he:Ext wb w2)
 (hb:v'.ownBlock=q.vn.ownBlock∨v'.ownBlock=some wr.heap.size) (hg:wr.grownBy w2 q.vn.ownBlock):(w2.cell? ⟨g,5,none⟩=some q.vn∧w2.frozen? ⟨g,5,none⟩=false)∧MS wb w (w2.setCell ⟨g,5,none⟩ v') p A l c g ⟨{ q.r with names:=xs },q.vb,v',q.vt,q.vk⟩ R:=by
 have hB:Box w2 g q.cells.toArray 67:=Box.moved h.M.box hg (fun hh=>(h.M.new q.vn (by simp [RV.vals]) g hh).2.1 rfl)
 have hR:Box w2 R rule0 67:=Box.moved h.res hg (fun hh=>h.nR q.vn (by simp [RV.vals]) R hh rfl)
 refine ⟨⟨hB.cell 5,hB.free 5⟩,h.M.app_n ho he hb hg,hR.other (fun hh=>h.gR hh.symm) _ _,?_,h.gR,h.pR⟩;intro u hu b h1;have hlt:=h.res.lt;simp only [RV.vals,List.mem_cons,List.not_mem_nil,or_false] at hu;rcases hu with rfl | rfl | rfl | rfl
 all_goals
  first
   | (rcases hb with hb | hb
      ·exact h.nR q.vn (by simp [RV.vals]) b (hb.symm.trans h1)
      ·rw [hb] at h1;injection h1 with h1;omega)
   | exact h.nR _ (by simp [RV.vals]) b h1
theorem MS.app_t {wb w wr w2:World} {p:Nat} {A:Option Addr} {l:List UInt8} {c g:Nat} {q:RV} {R:Nat} (h:MS wb w wr p A l c g q R) {v':Value} {xs:List Int} (ho:OwnL vint 3 wb w2 v' xs) (he:Ext wb w2)
 (hb:v'.ownBlock=q.vt.ownBlock∨v'.ownBlock=some wr.heap.size) (hg:wr.grownBy w2 q.vt.ownBlock):(w2.cell? ⟨g,6,none⟩=some q.vt∧w2.frozen? ⟨g,6,none⟩=false)∧MS wb w (w2.setCell ⟨g,6,none⟩ v') p A l c g ⟨{ q.r with tags:=xs },q.vb,q.vn,v',q.vk⟩ R:=by
 have hB:Box w2 g q.cells.toArray 67:=Box.moved h.M.box hg (fun hh=>(h.M.new q.vt (by simp [RV.vals]) g hh).2.1 rfl)
 have hR:Box w2 R rule0 67:=Box.moved h.res hg (fun hh=>h.nR q.vt (by simp [RV.vals]) R hh rfl)
 refine ⟨⟨hB.cell 6,hB.free 6⟩,h.M.app_t ho he hb hg,hR.other (fun hh=>h.gR hh.symm) _ _,?_,h.gR,h.pR⟩;intro u hu b h1;have hlt:=h.res.lt;simp only [RV.vals,List.mem_cons,List.not_mem_nil,or_false] at hu;rcases hu with rfl | rfl | rfl | rfl
 all_goals
  first
   | (rcases hb with hb | hb
      ·exact h.nR q.vt (by simp [RV.vals]) b (hb.symm.trans h1)
      ·rw [hb] at h1;injection h1 with h1;omega)
   | exact h.nR _ (by simp [RV.vals]) b h1
theorem MS.app_k {wb w wr w2:World} {p:Nat} {A:Option Addr} {l:List UInt8} {c g:Nat} {q:RV} {R:Nat} (h:MS wb w wr p A l c g q R) {v':Value} {xs:List Int} (ho:OwnL vint 3 wb w2 v' xs) (he:Ext wb w2)
 (hb:v'.ownBlock=q.vk.ownBlock∨v'.ownBlock=some wr.heap.size) (hg:wr.grownBy w2 q.vk.ownBlock):(w2.cell? ⟨g,7,none⟩=some q.vk∧w2.frozen? ⟨g,7,none⟩=false)∧MS wb w (w2.setCell ⟨g,7,none⟩ v') p A l c g ⟨{ q.r with kids:=xs },q.vb,q.vn,q.vt,v'⟩ R:=by
 have hB:Box w2 g q.cells.toArray 67:=Box.moved h.M.box hg (fun hh=>(h.M.new q.vk (by simp [RV.vals]) g hh).2.1 rfl)
 have hR:Box w2 R rule0 67:=Box.moved h.res hg (fun hh=>h.nR q.vk (by simp [RV.vals]) R hh rfl)
 refine ⟨⟨hB.cell 7,hB.free 7⟩,h.M.app_k ho he hb hg,hR.other (fun hh=>h.gR hh.symm) _ _,?_,h.gR,h.pR⟩;intro u hu b h1;have hlt:=h.res.lt;simp only [RV.vals,List.mem_cons,List.not_mem_nil,or_false] at hu;rcases hu with rfl | rfl | rfl | rfl
 all_goals
  first
   | (rcases hb with hb | hb
      ·exact h.nR q.vk (by simp [RV.vals]) b (hb.symm.trans h1)
      ·rw [hb] at h1;injection h1 with h1;omega)
   | exact h.nR _ (by simp [RV.vals]) b h1
end Go.Proofs.YtlfhealneccdkaaGreatDoor
