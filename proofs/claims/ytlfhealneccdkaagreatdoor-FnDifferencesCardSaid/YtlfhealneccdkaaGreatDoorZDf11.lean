/- Texts, laid into one. -/
import Derived.Test.YtlfhealneccdkaaGreatDoorZDf9
set_option linter.unusedVariables false
set_option linter.unusedSimpArgs false
set_option maxRecDepth 100000
set_option maxHeartbeats 16000000
namespace Go.Proofs.YtlfhealneccdkaaGreatDoor
open Go.RowKit Go.Sort
theorem iPlain1000_c (r:DRule) (Ab:Option Addr) (cb:Nat) (An:Option Addr) (cn:Nat) (At:Option Addr) (ct:Nat) (Ak:Option Addr) (ck:Nat) (kids:Int) (w:World) (hl:r.bytes.length≤9223372036854775807∧r.names.length≤9223372036854775807∧r.tags.length≤9223372036854775807∧r.kids.length≤9223372036854775807) :
 Gives Tryz.prog 109 #[vrule r (.slice Ab r.bytes.length cb) (.slice An r.names.length cn) (.slice At r.tags.length ct) (.slice Ak r.kids.length ck),.bool true,.bool false,.bool false,.bool false,.int .i64 kids] w (.bool (plainB r true false false false kids)):=by
 obtain ⟨l1,l2,l3,l4⟩:=hl;unfold plainB;obtain ⟨nm,kind,size,little,bytes,names,tags,kd⟩:=r;unfold vrule;dsimp only at *;cases g_bytes:(bytes.length==0)
 ·have k_bytes:(((bytes.length:Nat):Int)==0)=false:=by simpa using g_bytes
  go_enter Tryz.func109,Tryz.ntmps109;go_wp2;go_ret;exact ⟨ret_bool (by simp [*]),Ext_alloc _ (Ext.refl w)⟩
 have k_bytes:(((bytes.length:Nat):Int)==0)=true:=by simpa using g_bytes
 cases g_names:(names.length==0)
 ·have k_names:(((names.length:Nat):Int)==0)=false:=by simpa using g_names
  go_enter Tryz.func109,Tryz.ntmps109;go_wp2;go_ret;exact ⟨ret_bool (by simp [*]),Ext_alloc _ (Ext.refl w)⟩
 have k_names:(((names.length:Nat):Int)==0)=true:=by simpa using g_names
 cases g_tags:(tags.length==0)
 ·have k_tags:(((tags.length:Nat):Int)==0)=false:=by simpa using g_tags
  go_enter Tryz.func109,Tryz.ntmps109;go_wp2;go_ret;exact ⟨ret_bool (by simp [*]),Ext_alloc _ (Ext.refl w)⟩
 have k_tags:(((tags.length:Nat):Int)==0)=true:=by simpa using g_tags
 by_cases hk:kids<0
 ·have dk:decide (kids<0)=true:=by simpa using hk
  go_enter Tryz.func109,Tryz.ntmps109;go_wp2;go_ret;exact ⟨ret_bool (by simp [*]),Ext_alloc _ (Ext.refl w)⟩
 ·have dk:decide (kids<0)=false:=by simpa using hk
  by_cases hq:((kd.length:Int)=kids)
  ·have k_kids:((kd.length:Int)==kids)=true:=by simpa using hq
   have HQ:=lhd hq;clear hq;go_enter Tryz.func109,Tryz.ntmps109;go_wp2;go_ret;exact ⟨ret_bool (by have:=HQ.out;simp [*]),Ext_alloc _ (Ext.refl w)⟩
  ·have k_kids:((kd.length:Int)==kids)=false:=by simpa using hq
   go_enter Tryz.func109,Tryz.ntmps109;go_wp2;go_ret;exact ⟨ret_bool (by simp [*]),Ext_alloc _ (Ext.refl w)⟩
theorem iPlain0100_c (r:DRule) (Ab:Option Addr) (cb:Nat) (An:Option Addr) (cn:Nat) (At:Option Addr) (ct:Nat) (Ak:Option Addr) (ck:Nat) (kids:Int) (w:World) (hl:r.bytes.length≤9223372036854775807∧r.names.length≤9223372036854775807∧r.tags.length≤9223372036854775807∧r.kids.length≤9223372036854775807) :
 Gives Tryz.prog 109 #[vrule r (.slice Ab r.bytes.length cb) (.slice An r.names.length cn) (.slice At r.tags.length ct) (.slice Ak r.kids.length ck),.bool false,.bool true,.bool false,.bool false,.int .i64 kids] w (.bool (plainB r false true false false kids)):=by
 obtain ⟨l1,l2,l3,l4⟩:=hl;unfold plainB;obtain ⟨nm,kind,size,little,bytes,names,tags,kd⟩:=r;unfold vrule;dsimp only at *;cases g_size:(size==0)
 ·skip
  go_enter Tryz.func109,Tryz.ntmps109;go_wp2;go_ret;exact ⟨ret_bool (by simp [*]),Ext_alloc _ (Ext.refl w)⟩
 cases g_names:(names.length==0)
 ·have k_names:(((names.length:Nat):Int)==0)=false:=by simpa using g_names
  go_enter Tryz.func109,Tryz.ntmps109;go_wp2;go_ret;exact ⟨ret_bool (by simp [*]),Ext_alloc _ (Ext.refl w)⟩
 have k_names:(((names.length:Nat):Int)==0)=true:=by simpa using g_names
 cases g_tags:(tags.length==0)
 ·have k_tags:(((tags.length:Nat):Int)==0)=false:=by simpa using g_tags
  go_enter Tryz.func109,Tryz.ntmps109;go_wp2;go_ret;exact ⟨ret_bool (by simp [*]),Ext_alloc _ (Ext.refl w)⟩
 have k_tags:(((tags.length:Nat):Int)==0)=true:=by simpa using g_tags
 by_cases hk:kids<0
 ·have dk:decide (kids<0)=true:=by simpa using hk
  go_enter Tryz.func109,Tryz.ntmps109;go_wp2;go_ret;exact ⟨ret_bool (by simp [*]),Ext_alloc _ (Ext.refl w)⟩
 ·have dk:decide (kids<0)=false:=by simpa using hk
  by_cases hq:((kd.length:Int)=kids)
  ·have k_kids:((kd.length:Int)==kids)=true:=by simpa using hq
   have HQ:=lhd hq;clear hq;go_enter Tryz.func109,Tryz.ntmps109;go_wp2;go_ret;exact ⟨ret_bool (by have:=HQ.out;simp [*]),Ext_alloc _ (Ext.refl w)⟩
  ·have k_kids:((kd.length:Int)==kids)=false:=by simpa using hq
   go_enter Tryz.func109,Tryz.ntmps109;go_wp2;go_ret;exact ⟨ret_bool (by simp [*]),Ext_alloc _ (Ext.refl w)⟩
theorem iPlain0000_c (r:DRule) (Ab:Option Addr) (cb:Nat) (An:Option Addr) (cn:Nat) (At:Option Addr) (ct:Nat) (Ak:Option Addr) (ck:Nat) (kids:Int) (w:World) (hl:r.bytes.length≤9223372036854775807∧r.names.length≤9223372036854775807∧r.tags.length≤9223372036854775807∧r.kids.length≤9223372036854775807) :
 Gives Tryz.prog 109 #[vrule r (.slice Ab r.bytes.length cb) (.slice An r.names.length cn) (.slice At r.tags.length ct) (.slice Ak r.kids.length ck),.bool false,.bool false,.bool false,.bool false,.int .i64 kids] w (.bool (plainB r false false false false kids)):=by
 obtain ⟨l1,l2,l3,l4⟩:=hl;unfold plainB;obtain ⟨nm,kind,size,little,bytes,names,tags,kd⟩:=r;unfold vrule;dsimp only at *;cases g_size:(size==0)
 ·skip
  go_enter Tryz.func109,Tryz.ntmps109;go_wp2;go_ret;exact ⟨ret_bool (by simp [*]),Ext_alloc _ (Ext.refl w)⟩
 cases g_bytes:(bytes.length==0)
 ·have k_bytes:(((bytes.length:Nat):Int)==0)=false:=by simpa using g_bytes
  go_enter Tryz.func109,Tryz.ntmps109;go_wp2;go_ret;exact ⟨ret_bool (by simp [*]),Ext_alloc _ (Ext.refl w)⟩
 have k_bytes:(((bytes.length:Nat):Int)==0)=true:=by simpa using g_bytes
 cases g_names:(names.length==0)
 ·have k_names:(((names.length:Nat):Int)==0)=false:=by simpa using g_names
  go_enter Tryz.func109,Tryz.ntmps109;go_wp2;go_ret;exact ⟨ret_bool (by simp [*]),Ext_alloc _ (Ext.refl w)⟩
 have k_names:(((names.length:Nat):Int)==0)=true:=by simpa using g_names
 cases g_tags:(tags.length==0)
 ·have k_tags:(((tags.length:Nat):Int)==0)=false:=by simpa using g_tags
  go_enter Tryz.func109,Tryz.ntmps109;go_wp2;go_ret;exact ⟨ret_bool (by simp [*]),Ext_alloc _ (Ext.refl w)⟩
 have k_tags:(((tags.length:Nat):Int)==0)=true:=by simpa using g_tags
 by_cases hk:kids<0
 ·have dk:decide (kids<0)=true:=by simpa using hk
  go_enter Tryz.func109,Tryz.ntmps109;go_wp2;go_ret;exact ⟨ret_bool (by simp [*]),Ext_alloc _ (Ext.refl w)⟩
 ·have dk:decide (kids<0)=false:=by simpa using hk
  by_cases hq:((kd.length:Int)=kids)
  ·have k_kids:((kd.length:Int)==kids)=true:=by simpa using hq
   have HQ:=lhd hq;clear hq;go_enter Tryz.func109,Tryz.ntmps109;go_wp2;go_ret;exact ⟨ret_bool (by have:=HQ.out;simp [*]),Ext_alloc _ (Ext.refl w)⟩
  ·have k_kids:((kd.length:Int)==kids)=false:=by simpa using hq
   go_enter Tryz.func109,Tryz.ntmps109;go_wp2;go_ret;exact ⟨ret_bool (by simp [*]),Ext_alloc _ (Ext.refl w)⟩
theorem iPlain0010_c (r:DRule) (Ab:Option Addr) (cb:Nat) (An:Option Addr) (cn:Nat) (At:Option Addr) (ct:Nat) (Ak:Option Addr) (ck:Nat) (kids:Int) (w:World) (hl:r.bytes.length≤9223372036854775807∧r.names.length≤9223372036854775807∧r.tags.length≤9223372036854775807∧r.kids.length≤9223372036854775807) :
 Gives Tryz.prog 109 #[vrule r (.slice Ab r.bytes.length cb) (.slice An r.names.length cn) (.slice At r.tags.length ct) (.slice Ak r.kids.length ck),.bool false,.bool false,.bool true,.bool false,.int .i64 kids] w (.bool (plainB r false false true false kids)):=by
 obtain ⟨l1,l2,l3,l4⟩:=hl;unfold plainB;obtain ⟨nm,kind,size,little,bytes,names,tags,kd⟩:=r;unfold vrule;dsimp only at *;cases g_size:(size==0)
 ·skip
  go_enter Tryz.func109,Tryz.ntmps109;go_wp2;go_ret;exact ⟨ret_bool (by simp [*]),Ext_alloc _ (Ext.refl w)⟩
 cases g_bytes:(bytes.length==0)
 ·have k_bytes:(((bytes.length:Nat):Int)==0)=false:=by simpa using g_bytes
  go_enter Tryz.func109,Tryz.ntmps109;go_wp2;go_ret;exact ⟨ret_bool (by simp [*]),Ext_alloc _ (Ext.refl w)⟩
 have k_bytes:(((bytes.length:Nat):Int)==0)=true:=by simpa using g_bytes
 cases g_tags:(tags.length==0)
 ·have k_tags:(((tags.length:Nat):Int)==0)=false:=by simpa using g_tags
  go_enter Tryz.func109,Tryz.ntmps109;go_wp2;go_ret;exact ⟨ret_bool (by simp [*]),Ext_alloc _ (Ext.refl w)⟩
 have k_tags:(((tags.length:Nat):Int)==0)=true:=by simpa using g_tags
 by_cases hk:kids<0
 ·have dk:decide (kids<0)=true:=by simpa using hk
  go_enter Tryz.func109,Tryz.ntmps109;go_wp2;go_ret;exact ⟨ret_bool (by simp [*]),Ext_alloc _ (Ext.refl w)⟩
 ·have dk:decide (kids<0)=false:=by simpa using hk
  by_cases hq:((kd.length:Int)=kids)
  ·have k_kids:((kd.length:Int)==kids)=true:=by simpa using hq
   have HQ:=lhd hq;clear hq;go_enter Tryz.func109,Tryz.ntmps109;go_wp2;go_ret;exact ⟨ret_bool (by have:=HQ.out;simp [*]),Ext_alloc _ (Ext.refl w)⟩
  ·have k_kids:((kd.length:Int)==kids)=false:=by simpa using hq
   go_enter Tryz.func109,Tryz.ntmps109;go_wp2;go_ret;exact ⟨ret_bool (by simp [*]),Ext_alloc _ (Ext.refl w)⟩
theorem iPlain0001_c (r:DRule) (Ab:Option Addr) (cb:Nat) (An:Option Addr) (cn:Nat) (At:Option Addr) (ct:Nat) (Ak:Option Addr) (ck:Nat) (kids:Int) (w:World) (hl:r.bytes.length≤9223372036854775807∧r.names.length≤9223372036854775807∧r.tags.length≤9223372036854775807∧r.kids.length≤9223372036854775807) :
 Gives Tryz.prog 109 #[vrule r (.slice Ab r.bytes.length cb) (.slice An r.names.length cn) (.slice At r.tags.length ct) (.slice Ak r.kids.length ck),.bool false,.bool false,.bool false,.bool true,.int .i64 kids] w (.bool (plainB r false false false true kids)):=by
 obtain ⟨l1,l2,l3,l4⟩:=hl;unfold plainB;obtain ⟨nm,kind,size,little,bytes,names,tags,kd⟩:=r;unfold vrule;dsimp only at *;cases g_size:(size==0)
 ·skip
  go_enter Tryz.func109,Tryz.ntmps109;go_wp2;go_ret;exact ⟨ret_bool (by simp [*]),Ext_alloc _ (Ext.refl w)⟩
 cases g_bytes:(bytes.length==0)
 ·have k_bytes:(((bytes.length:Nat):Int)==0)=false:=by simpa using g_bytes
  go_enter Tryz.func109,Tryz.ntmps109;go_wp2;go_ret;exact ⟨ret_bool (by simp [*]),Ext_alloc _ (Ext.refl w)⟩
 have k_bytes:(((bytes.length:Nat):Int)==0)=true:=by simpa using g_bytes
 cases g_names:(names.length==0)
 ·have k_names:(((names.length:Nat):Int)==0)=false:=by simpa using g_names
  go_enter Tryz.func109,Tryz.ntmps109;go_wp2;go_ret;exact ⟨ret_bool (by simp [*]),Ext_alloc _ (Ext.refl w)⟩
 have k_names:(((names.length:Nat):Int)==0)=true:=by simpa using g_names
 by_cases hk:kids<0
 ·have dk:decide (kids<0)=true:=by simpa using hk
  go_enter Tryz.func109,Tryz.ntmps109;go_wp2;go_ret;exact ⟨ret_bool (by simp [*]),Ext_alloc _ (Ext.refl w)⟩
 ·have dk:decide (kids<0)=false:=by simpa using hk
  by_cases hq:((kd.length:Int)=kids)
  ·have k_kids:((kd.length:Int)==kids)=true:=by simpa using hq
   have HQ:=lhd hq;clear hq;go_enter Tryz.func109,Tryz.ntmps109;go_wp2;go_ret;exact ⟨ret_bool (by have:=HQ.out;simp [*]),Ext_alloc _ (Ext.refl w)⟩
  ·have k_kids:((kd.length:Int)==kids)=false:=by simpa using hq
   go_enter Tryz.func109,Tryz.ntmps109;go_wp2;go_ret;exact ⟨ret_bool (by simp [*]),Ext_alloc _ (Ext.refl w)⟩
end Go.Proofs.YtlfhealneccdkaaGreatDoor
