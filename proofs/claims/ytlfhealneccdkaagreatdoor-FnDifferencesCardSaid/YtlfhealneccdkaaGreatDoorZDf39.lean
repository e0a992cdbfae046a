/- Texts, laid into one. -/
import Derived.Test.YtlfhealneccdkaaGreatDoorZDf37
import Derived.Test.YtlfhealneccdkaaGreatDoorZDf38
set_option linter.unusedVariables false
set_option linter.unusedSimpArgs false
set_option maxRecDepth 100000
set_option maxHeartbeats 16000000
namespace Go.Proofs.YtlfhealneccdkaaGreatDoor
open Go.RowKit Go.Sort
theorem smd_of {ds:List DRule} (h:MadeD ds) (hs:SmallD ds):SmD ds:=⟨hs.1,fun r hr=>(hs.2 r hr).sm (by
 obtain ⟨i,hi,rfl⟩:=List.getElem_of_mem hr
 have:=(h i hi).ok;unfold kindOk at this
 by_cases h1:ds[i].kind=1;· omega
 by_cases h2:ds[i].kind=2;· omega
 by_cases h3:ds[i].kind=3;· omega
 by_cases h4:ds[i].kind=4;· omega
 by_cases h5:ds[i].kind=5;· omega
 by_cases h6:ds[i].kind=6;· omega
 by_cases h7:ds[i].kind=7;· omega
 by_cases h8:ds[i].kind=8;· omega
 by_cases h9:ds[i].kind=9;· omega
 by_cases h10:ds[i].kind=10;· omega
 rw [if_neg h1,if_neg h2,if_neg h3,if_neg h4,if_neg h5,if_neg h6,if_neg h7,if_neg h8,if_neg h9,if_neg h10] at this;cases this)⟩
def RowOut (N:Nat) (cs:List (List ByteArray × DVal)) (w0:World) (e:Ending) (w':World):Prop:=∃ (A:Option Addr) (c:Nat),e=.returned (.slice A N c)∧RdC w' A (joinC cs) c∧Ext w0 w'
theorem InvOut.row {cs:List (List ByteArray × DVal)} {w0 w':World} {e:Ending} {N:Nat} (h:InvOut (joinC cs) w0 e w') (hN:cs.length=N):RowOut N cs w0 e w':=by
 obtain ⟨A,c,h1,h2,h3⟩:=h;rw [joinC_len,hN] at h1;exact ⟨A,c,h1,h2,h3⟩
theorem diff_inv {R:List (ByteArray × DVal)} {w w':World} {e:Ending} (hz:szCh R≤140737488351232) (h:∃ v cs,e=.returned v∧chOf cs=R∧OwnC w w' v cs∧Ext w w'):InvOut R w e w':=by
 obtain ⟨v,cs,he,hp,ho,hx⟩:=h;obtain ⟨A1,c1,hv,hr⟩:=ho.rd (by rw [hp];exact hz);rw [hp] at hv hr;exact ⟨A1,c1,by rw [he,hv],hr,hx⟩
theorem diff_sz {ds:List DRule} {a b:DVal} (h:szV b≤1048576):szCh (diffD ds a b)≤1048577:=by
 unfold diffD
 split
 ·have:=diffV_szCh ds b a (ds.length-1) ⟨#[]⟩;omega
 ·simp [szCh]
def RoundOk (W:World) (D VA:Value) (ss:List ByteArray) (x:DVal):Prop:=∃ (r:Nat) (y:DVal) (T:ByteArray),eqV y x=false∧szV y≤1048576∧szV x≤1048576∧T≠⟨#[]⟩ ∧
 (∀ w',Ext W w'→Calls Tryz.prog 10 #[D,VA,.string (joinB ss)] w' (FoundV r y w')) ∧
 ∀ (Xb:Option Addr) (xb:Nat) (Xi:Option Addr) (xi:Nat) (w':World),Ext W w'→RdV w' x Xb xb Xi xi→Gives Tryz.prog 12 #[D,VA,.agg #[.string (joinB ss),.int .i64 x.num,.slice Xb x.bytes.length xb,.slice Xi x.items.length xi]] w' (.string T)
theorem roundOk (A:Option Addr) (ds:List DRule) (c:Nat) (a:DVal) (Vb:Option Addr) (vb:Nat) (Vi:Option Addr) (vi:Nat) (W:World) (hok:descOk ds=true) (hsm:SmallD ds) (hs:ShortD ds) (hw:WfD ds) (hd:RdD W A ds c) (ha:RdV W a Vb vb Vi vi) (hz:szV a≤1048576) (hva:validV ds (ds.length-1) a=true) (hT:∀ w',Ext W w'→Tab w') (ss:List ByteArray) (x:DVal) (hg:∀ s∈ss,goodStep s) (hL:ss.length≤1000) (hsay:SaysC ds a (ss,x)) :
 RoundOk W (.agg #[.slice A ds.length c]) (.agg #[.int .i64 a.num,.slice Vb a.bytes.length vb,.slice Vi a.items.length vi]) ss x:=by
 obtain ⟨hzx,r,y,hf,hne,hvx,hzy⟩:=hsay;dsimp only at hf hne hvx hzx;obtain ⟨s,hs1,ht⟩:=txt_ok A ds c hok hsm x r hvx hzx;have hj:=join_size hg;have hsp:=splitP_join hg;refine ⟨r,y,pathT (joinB ss)++⟨#[61]⟩++s,hne,hzy,hzx,?_,fun w' e=>?_,fun Xb xb Xi xi w' e hx=>?_⟩
 ·intro he
  have:=congrArg ByteArray.size he;rw [ByteArray.size_append,ByteArray.size_append] at this
  change _+1+_=0 at this
  omega
 ·have hF:findP ds a (joinB ss)=some (r,y):=by unfold findP;rw [hsp,Option.bind_some,if_pos hva,hf]
  have h:=sFindPart_c A ds c a Vb vb Vi vi (joinB ss) w' hok (hd.ext e) hs hw (ha.ext e) (by omega) (by omega) (fun ss' h' s' hs'=>by
   rw [hsp] at h';obtain rfl:=Option.some.inj h'
   have:=good_size (hg s' hs');omega)
  rw [hF] at h;exact h.mono fun _ _ h=>h.found
 ·exact iChText_c A ds c hok hs hw a x Vb vb Vi vi Xb xb Xi xi ss r y s w' (hd.ext e) (ha.ext e) hx hz hva hf hg hL hvx ht (by omega) (hT w' e)
end Go.Proofs.YtlfhealneccdkaaGreatDoor
