/- Texts, laid into one. -/
import Derived.Test.YtpmcofmdjckijaaGreatZDg1
set_option linter.unusedVariables false
set_option linter.unusedSimpArgs false
set_option maxRecDepth 100000
set_option maxHeartbeats 16000000
namespace Go.Proofs.YtpmcofmdjckijaaGreat
open Go.RowKit Go.Sort
theorem sMin_c (a b:Int) (w:World):Gives Tryz.prog 26 #[.int .i64 a,.int .i64 b] w (.int .i64 (if b<a then b else a)):=by
 by_cases h:b<a
 ·have H:Hid ((if b<a then b else a)=b):=if_pos h
  rw [H.out];go_enter Tryz.func26,Tryz.ntmps26;go_wp2;go_ret;exact ⟨rfl,Ext.refl _⟩
 ·have H:Hid ((if b<a then b else a)=a):=if_neg h
  rw [H.out];go_enter Tryz.func26,Tryz.ntmps26;go_wp2;go_ret;exact ⟨rfl,Ext.refl _⟩
theorem sMax_c (a b:Int) (w:World):Gives Tryz.prog 25 #[.int .i64 a,.int .i64 b] w (.int .i64 (if a<b then b else a)):=by
 by_cases h:a<b
 ·have H:Hid ((if a<b then b else a)=b):=if_pos h
  rw [H.out];go_enter Tryz.func25,Tryz.ntmps25;go_wp2;go_ret;exact ⟨rfl,Ext.refl _⟩
 ·have H:Hid ((if a<b then b else a)=a):=if_neg h
  rw [H.out];go_enter Tryz.func25,Tryz.ntmps25;go_wp2;go_ret;exact ⟨rfl,Ext.refl _⟩
end Go.Proofs.YtpmcofmdjckijaaGreat
namespace Go.Proofs.YtpmcofmdjckijaaGreat
def runLen:List UInt8→Nat
 | []=>0
 | x::t=>1+(t.takeWhile (·==x)).length
def runAt (l:List UInt8) (i:Int):Nat:=if 0≤i∧i<l.length then runLen (l.drop i.toNat) else 0
def countFrom (l:List UInt8):Nat→Nat→Nat
 | 0,_=>0
 | f+1,a=>if a<l.length then 1+countFrom l f (a+runAt l a) else 0
def countRuns (l:List UInt8):Nat:=countFrom l l.length 0
end Go.Proofs.YtpmcofmdjckijaaGreat
namespace Go.Proofs.YtpmcofmdjckijaaGreat
open Go.RowKit Go.Sort
theorem l1In_c (n a b:Int) (w:World):Gives Tryz.prog 71 #[.int .i64 n,.int .i64 a,.int .i64 b] w (.bool (decide (a≤n)&&decide (n≤b))):=by
 by_cases h:a≤n
 ·go_enter Tryz.func71,Tryz.ntmps71
  go_wp2;go_ret;exact ⟨ret_bool (by simp [h]),Ext.refl _⟩
 ·go_enter Tryz.func71,Tryz.ntmps71
  go_wp2;go_ret;exact ⟨ret_bool (by simp;omega),Ext.refl _⟩
end Go.Proofs.YtpmcofmdjckijaaGreat
