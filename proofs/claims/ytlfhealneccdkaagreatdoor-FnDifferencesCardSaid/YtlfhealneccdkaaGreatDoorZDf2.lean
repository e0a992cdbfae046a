/- Texts, laid into one. -/
import Derived.Test.YtlfhealneccdkaaGreatDoorZDf1
import Derived.Laws.BytesArg
set_option linter.unusedVariables false
set_option linter.unusedSimpArgs false
set_option maxRecDepth 100000
set_option maxHeartbeats 16000000
namespace Go.Proofs.YtlfhealneccdkaaGreatDoor
open Go.RowKit Go.Sort
theorem sEqualBytes_c (A A':Option Addr) (l l':List UInt8) (c c':Nat) (w:World) (h:Bs w A l c) (h':Bs w A' l' c') :
 Gives Tryz.prog 29 #[.slice A l.length c,.slice A' l'.length c'] w (.bool (l==l')):=by
 have hl:=h.len;have hl':=h'.len
 by_cases hn:l.length=l'.length
 ·have hb1:((l.length:Int) !=(l'.length:Int))=false:=by simp [hn]
  have H:=lhd hn;clear hn;go_enter Tryz.func29,Tryz.ntmps29;go_wp2;go_loopw [5,4] (fun i v wr=>∃ k:Nat,k≤l.length∧i=.int .i64 k∧Hid (l.take k=l'.take k)∧Ext w wr) (fun i _ _=>l.length-(intOf i).toNat)
  case atStart=>exact ⟨0,by omega,rfl,by simp [Hid],Ext.refl _⟩
  case round =>
   obtain ⟨k,hk,rfl,ht,he⟩:=hrel
   by_cases hlt:k<l.length
   ·have hlt':k<l'.length:=by have:=H.out;omega
    obtain ⟨b,off,rfl,hb,hc⟩:=h.at k hlt;obtain ⟨b',off',rfl,hb',hc'⟩:=h'.at k hlt';clear h h';go_wp2;refine wp_region_quiet_below (by kernel_rfl) (by kernel_rfl) ?_;repeat (go_big_quiet_step (fail))
    refine wpQuiet_nil ?_;rintro _ ⟨⟨nq,osq⟩,rfl⟩;go_wp2
    ·have hne:((l[k].toNat:Int) !=(l'[k].toNat:Int))=true:=by assumption
     go_ret;refine ⟨ret_bool ?_,Ext_regrown _ _ he⟩
     symm;rw [beq_eq_false_iff_ne];rintro rfl;simp at hne
    ·have hne:((l[k].toNat:Int) !=(l'[k].toNat:Int))=false:=by assumption
     go_roundw
     case rel=>exact ⟨k+1,by omega,by go_num,take_eq_succ hlt hlt' ht (u8_inj (by simpa using hne)),Ext_regrown _ _ he⟩
     case measure=>simp [intOf];omega
   ·go_wp2
    go_ret;refine ⟨ret_bool ?_,he⟩;have ht:=ht.out;have H:=H.out;rw [List.take_of_length_le (by omega),List.take_of_length_le (by omega)] at ht;simp [ht]
 ·have hb1:((l.length:Int) !=(l'.length:Int))=true:=by simp;omega
  go_enter Tryz.func29,Tryz.ntmps29;go_wp2;go_ret;refine ⟨ret_bool ?_,Ext.refl _⟩
  symm;rw [beq_eq_false_iff_ne];rintro rfl;exact hn rfl
def strOf (l:List UInt8):ByteArray:=⟨l.toArray⟩
theorem strOf_nums (l:List UInt8):strOfNums (l.map fun x=>(x.toNat:Int))=strOf l:=by
 unfold strOfNums strOf
 congr 1
 rw [List.map_map]
 congr 1
 conv=>rhs;rw [← List.map_id l]
 apply List.map_congr_left
 intro x _;simp
theorem conv_bytes {w w':World} {A:Option Addr} {l:List UInt8} {c:Nat} (h:Bs w A l c) (he:Ext w w') :
 (convert 22 9 (.slice A l.length c)).run Tryz.prog w'=.ok (.string (strOf l)) w':=by
 rcases Nat.eq_zero_or_pos l.length with h0 | h0
 ·obtain rfl:l=[]:=List.eq_nil_of_length_eq_zero h0
  rw [List.length_nil,run_convert_bytes_string w' 22 9 5 _ 0 c Tryz.underlying22 Tryz.underlying5 Tryz.underlying9];cases A<;>simp [Conv.bytesToString,loadCells]
  all_goals rfl
 ·obtain ⟨b,off,rfl,hb,hc⟩:=h.base h0
  rw [← strOf_nums];refine run_convert_bytes_arg w' 22 5 Tryz.underlying22 Tryz.underlying5 b off l.length c (l.map fun x=>(x.toNat:Int)) (by simp) (fun i hi=>?_) 9 Tryz.underlying9;rw [hc w' he i hi];simp [vu8,hi]
theorem bytesEqual_c (A A':Option Addr) (l l':List UInt8) (c c':Nat) (w:World) (h:Bs w A l c) (h':Bs w A' l' c') :
 Gives Tryz.prog 69 #[.slice A l.length c,.slice A' l'.length c'] w (.bool (l==l')):=by
 have k1:=fun w' e=>conv_bytes (w':=w') h e
 have k2:=fun w' e=>conv_bytes (w':=w') h' e
 clear h h';go_enter Tryz.func69,Tryz.ntmps69;go_wp2;go_ret;refine ⟨ret_bool ?_,Ext.refl _⟩;rw [ByteArray.toList_eq,ByteArray.toList_eq];simp [strOf]
theorem iEqualBytes_c (A A':Option Addr) (l l':List UInt8) (c c':Nat) (w:World) (h:Bs w A l c) (h':Bs w A' l' c') :
 Gives Tryz.prog 41 #[.slice A l.length c,.slice A' l'.length c'] w (.bool (l==l')):=by
 go_enter Tryz.func41,Tryz.ntmps41;go_wp2_with fail;refine (bytesEqual_c _ _ _ _ _ _ _ h h').mono ?_;rintro _ w1 ⟨rfl,he⟩;go_wp2;go_ret;exact ⟨rfl,he⟩
end Go.Proofs.YtlfhealneccdkaaGreatDoor
